/- Plain theorems for the laws: what the plain functions say. No condition. -/
import Derived.Test.YthknbcfelkljcaaLB1
import Derived.Test.YthknbcfelkljcaaP3
import Derived.Test.YthknbcfelkljcaaP4
set_option linter.unusedVariables false
set_option linter.unusedSimpArgs false
namespace Go.Proofs.Ythknbcfelkljcaa
open Go.RowKit
theorem c_H {α:Type} {xs:List α} {i:Nat} (h:i < xs.length):idx xs (i:Int) = some xs[i]:=by
  rw [idx_nat,List.getElem?_eq_getElem h]
theorem b_g {α:Type} (l:List α) (c:Option Nat):a_h (⟨l,c⟩:Sl α) = (l.length:Int):=rfl
theorem a_O {α:Type} (s:Sl α):a_h s = (s.xs.length:Int):=rfl
theorem a_3 (k:Nat):((k:Int) + 1) = ((k + 1:Nat):Int):=by simp
theorem a_Q {α:Type} {l:List α} {i:Nat} (h:i < l.length):l.drop i = l[i] :: l.drop (i + 1):=List.drop_eq_getElem_cons h
theorem d_J {α:Type} {l:List α} {k:Nat} (h:k < l.length):l.take (k + 1) = l.take k ++ [l[k]]:=by rw [List.take_add_one,List.getElem?_eq_getElem h];rfl
theorem sl3I_all {α:Type} (l:List α) (cp:Option Nat):sl3I (⟨l,cp⟩:Sl α) 0 (a_h (⟨l,cp⟩:Sl α)) (a_h (⟨l,cp⟩:Sl α)) = some ⟨l,some l.length⟩:=by
  unfold sl3I
  rw [b_g,if_pos (show (0:Int) ≤ 0 ∧ (0:Int) ≤ (l.length:Int) ∧ (l.length:Int) ≤ (l.length:Int) ∧ (l.length:Int) ≤ (l.length:Int) by omega)]
  simp
theorem c_s {α:Type} {p:Prop} [Decidable p] {a b:α} (h:p):(if decide p = true then a else b) = a:=by rw [decide_eq_true h];rfl
theorem c_E {α:Type} {p:Prop} [Decidable p] {a b:α} (h:¬ p):(if decide p = true then a else b) = b:=by rw [decide_eq_false h];rfl
theorem e_l {b:Bool} {x:Option Bool} {c:Bool} (h:b = true → x = some c):(if b = true then x else some false) = some (b && c):=by cases b <;> simp at h ⊢;exact h
theorem orO {b:Bool} {x:Option Bool} {c:Bool} (h:b = false → x = some c):(if b = false then x else some true) = some (b || c):=by cases b <;> simp at h ⊢;exact h
theorem b_6 {α:Type} {a:List α} {x:α} (h:a.length ≤ 1000000):d_B a [x] = some (a ++ [x]):=appI_ok (by rw [List.length_singleton];omega)
theorem idx_of {α:Type} {xs:List α} {i:Int} (h0:0 ≤ i) (h1:i < (xs.length:Int)):idx xs i = some (xs[i.toNat]'(by omega)):=by
  unfold idx
  rw [if_pos h0,List.getElem?_eq_getElem]
abbrev Fd:=Int × Int × Int × (Sl (Int)) × Int × Int × Int × Int × Int × Bool × Bool × Bool × Bool
abbrev Mpt:=(Sl Fd) × (Sl (Int × Int × Int)) × Bool
@[reducible] def fS (f:Fd):Int:=f.2.2.2.2.2.2.1
@[reducible] def fC (f:Fd):Int:=f.2.2.2.2.2.2.2.1
@[reducible] def fA (f:Fd):Int:=f.2.2.2.2.2.2.2.2.1
@[reducible] def fLo (f:Fd):Int:=f.2.2.2.2.1
@[reducible] def fHi (f:Fd):Int:=f.2.2.2.2.2.1
@[reducible] def fU (f:Fd):Sl Int:=f.2.2.2.1
@[reducible] def fCo (f:Fd):Bool:=f.2.2.2.2.2.2.2.2.2.1
@[reducible] def fAr (f:Fd):Bool:=f.2.2.2.2.2.2.2.2.2.2.1
@[reducible] def fSg (f:Fd):Bool:=f.2.2.2.2.2.2.2.2.2.2.2.1
def okA (f:Fd):Prop:=(1 ≤ fS f ∧ fS f ≤ 32) ∧ 1 ≤ fC f ∧ fC f ≤ 256
instance (f:Fd):Decidable (okA f):=by unfold okA;infer_instance
theorem okA.mul {f:Fd} (h:okA f):1 ≤ fS f * fC f ∧ fS f * fC f ≤ 8192:=by
  obtain ⟨⟨h1,h2⟩,h3,h4⟩:=h
  constructor
  · have:=Int.mul_le_mul h1 h3 (by omega) (by omega);simpa using this
  · have:=Int.mul_le_mul h2 h4 (by omega) (by omega);simpa using this
theorem okA.mulr {f:Fd} (h:okA f):1 ≤ f.2.2.2.2.2.2.1 * f.2.2.2.2.2.2.2.1 ∧ f.2.2.2.2.2.2.1 * f.2.2.2.2.2.2.2.1 ≤ 8192:=h.mul
def cl (a x:Int):Int:=if 0 > (if a < x then a else x) then 0 else (if a < x then a else x)
theorem cl_id {a x:Int} (h0:0 ≤ x) (h1:x ≤ a):cl a x = x:=by
  unfold cl
  rw [if_neg (show ¬ a < x by omega),if_neg (by omega)]
theorem e_m (a x:Int) (ha:0 ≤ a):0 ≤ cl a x ∧ cl a x ≤ a:=by
  unfold cl
  split <;> split at * <;> omega
def mt (k r:Int) (f:Fd):Bool:=f.1 == k && f.2.1 == r
theorem mt_eq (k r:Int) (f:Fd):(if (f.1 == k) = true then some (f.2.1 == r) else some false) = some (mt k r f):=e_l fun _=>rfl
def d_Z (fs:List Fd) (k r:Int):Int:=((fs.filter (mt k r)).map fun f=>cl 32 (fS f) * cl 256 (fC f)).sum
def c_I (fs:List Fd) (k r:Int):Int:=((fs.filter (mt k r)).map fun f=>fS f * fC f).sum
theorem c_6 (f:Fd) (fs:List Fd) (k r:Int):d_Z (f :: fs) k r = (if mt k r f = true then cl 32 (fS f) * cl 256 (fC f) else 0) + d_Z fs k r:=by
  unfold d_Z
  by_cases h:mt k r f = true
  · rw [List.filter_cons_of_pos h,if_pos h,List.map_cons,List.sum_cons]
  · rw [List.filter_cons_of_neg h,if_neg h,Int.zero_add]
theorem b_u (f:Fd) (fs:List Fd) (k r:Int):c_I (f :: fs) k r = (if mt k r f = true then fS f * fC f else 0) + c_I fs k r:=by
  unfold c_I
  by_cases h:mt k r f = true
  · rw [List.filter_cons_of_pos h,if_pos h,List.map_cons,List.sum_cons]
  · rw [List.filter_cons_of_neg h,if_neg h,Int.zero_add]
theorem c_N (fs:List Fd) (k r:Int):0 ≤ d_Z fs k r ∧ d_Z fs k r ≤ 8192 * (fs.length:Int):=by
  induction fs with
  | nil=>exact ⟨Int.le_refl _,Int.le_refl _⟩
  | cons f fs ih =>
    have h1:=e_m 32 (fS f) (by decide)
    have h2:=e_m 256 (fC f) (by decide)
    have h3:0 ≤ cl 32 (fS f) * cl 256 (fC f):=Int.mul_nonneg h1.1 h2.1
    have h4:cl 32 (fS f) * cl 256 (fC f) ≤ 8192:=by
      have:=Int.mul_le_mul h1.2 h2.2 h2.1 (by omega);simpa using this
    rw [c_6,List.length_cons]
    split <;> omega
theorem sumC_B {fs:List Fd} (h:∀ f ∈ fs,okA f) (k r:Int):d_Z fs k r = c_I fs k r:=by
  induction fs with
  | nil=>rfl
  | cons f fs ih =>
    have ha:=h f (by simp)
    rw [c_6,b_u,ih fun g hg=>h g (by simp [hg])]
    obtain ⟨⟨a1,a2⟩,a3,a4⟩:=ha
    rw [cl_id (by omega) a2,cl_id (by omega) a4]
def d_g (fs:List Fd) (k r:Int):Bool:=fs.any (mt k r)
def d_K (m:Mpt) (k r:Int):Int:=(d_Z m.1.xs k r + 7) / 8 + (if (d_g m.1.xs k r && m.2.2) = true then 1 else 0)
theorem p22_l1_eq (n:Nat) (x:Mpt) (k r:Int) (hl:x.1.xs.length ≤ 1000):∀ (m i:Nat) (b:Bool) (s:Int),x.1.xs.length - i < m → i ≤ x.1.xs.length → 0 ≤ s → s ≤ 8192 * (i:Int) →
    p22_l1 n x k r m i b s = some (s + d_Z (x.1.xs.drop i) k r,b || d_g (x.1.xs.drop i) k r):=by
  intro m
  induction m with
  | zero=>intro i b s hm;exact absurd hm (by omega)
  | succ m ih =>
    intro i b s hm hi h0 h1
    rw [p22_l1,a_O]
    by_cases hlt:i < x.1.xs.length
    · rw [c_s (by omega),c_H hlt,Option.bind_some,mt_eq,Option.bind_some,a_Q hlt,c_6]
      generalize x.1.xs[i] = f
      have h2:=e_m 32 (fS f) (by decide)
      have h3:=e_m 256 (fC f) (by decide)
      have h4:0 ≤ cl 32 (fS f) * cl 256 (fC f):=Int.mul_nonneg h2.1 h3.1
      have h5:cl 32 (fS f) * cl 256 (fC f) ≤ 8192:=by
        have:=Int.mul_le_mul h2.2 h3.2 h3.1 (by omega);simpa using this
      by_cases hm':mt k r f = true
      · have e1:(ckI .i64 ((if 0 > (if 32 < f.2.2.2.2.2.2.1 then 32 else f.2.2.2.2.2.2.1) then 0 else (if 32 < f.2.2.2.2.2.2.1 then 32 else f.2.2.2.2.2.2.1)) * (if 0 > (if 256 < f.2.2.2.2.2.2.2.1 then 256 else f.2.2.2.2.2.2.2.1) then 0 else (if 256 < f.2.2.2.2.2.2.2.1 then 256 else f.2.2.2.2.2.2.2.1)))) = some (cl 32 (fS f) * cl 256 (fC f)):=ckS (by show _ ≤ cl 32 (fS f) * cl 256 (fC f);omega) (by show cl 32 (fS f) * cl 256 (fC f) ≤ _;omega)
        rw [if_pos hm',if_pos hm',e1,Option.bind_some,ckS (by omega) (by omega),Option.bind_some,Option.bind_some,ckS (by omega) (by omega),Option.bind_some,a_3,ih (i + 1) _ _ (by omega) (by omega) (by omega) (by omega)]
        refine congrArg some (Prod.ext (by simp only;omega) ?_)
        simp [d_g,hm']
      · rw [if_neg hm',if_neg hm',Option.bind_some,ckS (by omega) (by omega),Option.bind_some,a_3,ih (i + 1) _ _ (by omega) (by omega) (by omega) (by omega)]
        refine congrArg some (Prod.ext (by simp only;omega) ?_)
        simp [d_g,hm']
    · rw [c_E (by omega),List.drop_eq_nil_of_le (by omega)]
      refine congrArg some (Prod.ext (by simp [d_Z]) (by simp [d_g]))
theorem p22_eq {n:Nat} (hn:1100 ≤ n) (x:Mpt) (k r:Int) (hl:x.1.xs.length ≤ 1000):p22 n x k r = some (d_K x k r):=by
  have h:=p22_l1_eq n x k r hl n 0 false 0 (by omega) (by omega) (by omega) (by omega)
  have hr:=c_N x.1.xs k r
  rw [List.drop_zero,Int.zero_add,Bool.false_or] at h
  unfold p22 d_K
  rw [show ((0:Nat):Int) = 0 from rfl] at h
  rw [h,Option.bind_some]
  simp only
  rw [ckS (by omega) (by omega),Option.bind_some,quoS (by omega) (by omega) (by omega),Option.bind_some,e_l fun _=>rfl,Option.bind_some]
  split
  · rw [ckS (by omega) (by omega)];rfl
  · rw [Option.bind_some,Int.add_zero]
def okB (m:Mpt) (f:Fd):Prop:=0 ≤ fA f ∧ fA f + fS f * fC f ≤ 4096 ∧ (fLo f ≤ fHi f ∧ -2147483648 ≤ fLo f ∧ fHi f ≤ 4294967295) ∧ (fCo f = true ∨ 0 < (fU f).xs.length) ∧ fA f + fS f * fC f ≤ (d_Z m.1.xs f.1 f.2.1 + 7) / 8 * 8
instance (m:Mpt) (f:Fd):Decidable (okB m f):=by unfold okB;infer_instance
def Pall (m:Mpt) (l:List Fd):Prop:=∀ f ∈ l,okA f ∧ okB m f
instance (m:Mpt) (l:List Fd):Decidable (Pall m l):=by unfold Pall;infer_instance
def Ppr (m:Mpt):Prop:=Pall m m.1.xs
instance (m:Mpt):Decidable (Ppr m):=by unfold Ppr;infer_instance
theorem d_0 (f:Fd):mt f.1 f.2.1 f = true:=by simp [mt]
theorem e_n {fs:List Fd} {f:Fd} (h:f ∈ fs):d_g fs f.1 f.2.1 = true:=List.any_eq_true.2 ⟨f,h,d_0 f⟩
theorem p34_eq (n:Nat) (f:Fd):p34 n f = some (decide (okA f)):=by
  unfold p34 okA
  rw [e_l fun _=>rfl,Option.bind_some,e_l fun _=>rfl,Option.bind_some,e_l fun _=>rfl,Option.bind_some]
  refine congrArg some ?_
  by_cases h1:1 ≤ fS f <;> by_cases h2:fS f ≤ 32 <;> by_cases h3:1 ≤ fC f <;> by_cases h4:fC f ≤ 256 <;> simp [h1,h2,h3,h4]
theorem p35_eq (n:Nat) (f:Fd) (h:okA f):p35 n f = some (decide (0 ≤ fA f ∧ fA f + fS f * fC f ≤ 4096)):=by
  have hm:=h.mulr
  unfold p35
  rw [ckS (by omega) (by omega),Option.bind_some,ckS (by omega) (by omega),Option.bind_some,e_l fun _=>rfl,Option.bind_some]
  refine congrArg some ?_
  rw [Bool.decide_and]
  have e:(f.2.2.2.2.2.2.2.2.1 ≤ 4096 - f.2.2.2.2.2.2.1 * f.2.2.2.2.2.2.2.1) ↔ (fA f + fS f * fC f ≤ 4096):=by
    show f.2.2.2.2.2.2.2.2.1 ≤ 4096 - f.2.2.2.2.2.2.1 * f.2.2.2.2.2.2.2.1 ↔ f.2.2.2.2.2.2.2.2.1 + f.2.2.2.2.2.2.1 * f.2.2.2.2.2.2.2.1 ≤ 4096
    omega
  rw [decide_eq_decide.2 e]
theorem p36_eq (n:Nat) (f:Fd):p36 n f = some (decide (fLo f ≤ fHi f ∧ -2147483648 ≤ fLo f ∧ fHi f ≤ 4294967295)):=by
  unfold p36
  rw [e_l fun _=>rfl,Option.bind_some,e_l fun _=>rfl,Option.bind_some]
  refine congrArg some ?_
  by_cases h1:fLo f ≤ fHi f <;> by_cases h2:-2147483648 ≤ fLo f <;> by_cases h3:fHi f ≤ 4294967295 <;> simp [h1,h2,h3]
theorem p37_eq (n:Nat) (f:Fd):p37 n f = some (decide (fCo f = true ∨ 0 < (fU f).xs.length)):=by
  unfold p37
  rw [orO fun _=>rfl,Option.bind_some,a_O]
  refine congrArg some ?_
  have e:(((fU f).xs.length:Int) > 0) ↔ 0 < (fU f).xs.length:=by omega
  by_cases h1:fCo f = true <;> by_cases h2:0 < (fU f).xs.length <;> simp [h1,h2]
theorem p38_eq {n:Nat} (hn:1100 ≤ n) (x:Mpt) (hl:x.1.xs.length ≤ 1000) (f:Fd) (hf:f ∈ x.1.xs) (h:okA f) (h2:0 ≤ fA f ∧ fA f + fS f * fC f ≤ 4096):p38 n f x = some (decide (fA f + fS f * fC f ≤ (d_Z x.1.xs f.1 f.2.1 + 7) / 8 * 8)):=by
  have hm:=h.mulr
  have h2:0 ≤ f.2.2.2.2.2.2.2.2.1 ∧ f.2.2.2.2.2.2.2.2.1 + f.2.2.2.2.2.2.1 * f.2.2.2.2.2.2.2.1 ≤ 4096:=h2
  have hr:=c_N x.1.xs f.1 f.2.1
  have e39:p39 n x f = some ((d_Z x.1.xs f.1 f.2.1 + 7) / 8 * 8):=by
    unfold p39
    rw [p22_eq hn x _ _ hl,Option.bind_some]
    unfold d_K
    rw [e_n hf,Bool.true_and]
    by_cases hb:x.2.2 = true
    · rw [if_pos hb,ckS (by omega) (by omega),Option.bind_some,if_pos hb,ckS (by omega) (by omega),Option.bind_some,Option.bind_some]
      refine congrArg some ?_
      omega
    · rw [if_neg hb,ckS (by omega) (by omega),Option.bind_some,if_neg hb,Option.bind_some]
      refine congrArg some ?_
      omega
  unfold p38
  rw [ckS (by omega) (by omega),Option.bind_some,ckS (by omega) (by omega),Option.bind_some,e39,Option.bind_some]
theorem p15_l1_eq {n:Nat} (hn:1100 ≤ n) (x:Mpt) (hl:x.1.xs.length ≤ 1000):∀ (m i:Nat),x.1.xs.length - i < m → i ≤ x.1.xs.length → p15_l1 n x m i = some (if Pall x (x.1.xs.drop i) then .inl () else .inr false):=by
  intro m
  induction m with
  | zero=>intro i hm;exact absurd hm (by omega)
  | succ m ih =>
    intro i hm hi
    rw [p15_l1,a_O]
    by_cases hlt:i < x.1.xs.length
    · have hmem:x.1.xs[i] ∈ x.1.xs:=List.getElem_mem hlt
      rw [c_s (by omega),c_H hlt,Option.bind_some,a_Q hlt]
      generalize x.1.xs[i] = f at hmem
      have no:∀ {b:Bool} {e:Option (Unit ⊕ Bool)},(b = false) → (¬ (okA f ∧ okB x f)) → (if (!b) = true then some (.inr false) else e) = some (if Pall x (f :: x.1.xs.drop (i + 1)) then .inl () else .inr false):=by
        intro b e hb hno
        rw [hb,if_pos (show (!false) = true from rfl),if_neg (fun h=>hno (h f (by simp)))]
      have yes:∀ {b:Bool} {e:Option (Unit ⊕ Bool)},b = true → (if (!b) = true then some (.inr false) else e) = e:=by
        intro b e hb
        rw [hb];rfl
      rw [p34_eq,Option.bind_some]
      by_cases h1:okA f
      · rw [yes (decide_eq_true h1),p35_eq n f h1,Option.bind_some]
        by_cases h2:0 ≤ fA f ∧ fA f + fS f * fC f ≤ 4096
        · rw [yes (decide_eq_true h2),p36_eq,Option.bind_some]
          by_cases h3:fLo f ≤ fHi f ∧ -2147483648 ≤ fLo f ∧ fHi f ≤ 4294967295
          · rw [yes (decide_eq_true h3),p37_eq,Option.bind_some]
            by_cases h4:fCo f = true ∨ 0 < (fU f).xs.length
            · rw [yes (decide_eq_true h4),p38_eq hn x hl f hmem h1 h2,Option.bind_some]
              by_cases h5:fA f + fS f * fC f ≤ (d_Z x.1.xs f.1 f.2.1 + 7) / 8 * 8
              · rw [yes (decide_eq_true h5),ckS (by omega) (by omega),Option.bind_some,a_3,ih (i + 1) (by omega) (by omega)]
                refine congrArg some ?_
                by_cases h6:Pall x (x.1.xs.drop (i + 1))
                · rw [if_pos h6,if_pos]
                  intro g hg
                  rcases List.mem_cons.1 hg with rfl | hg
                  · exact ⟨h1,h2.1,h2.2,h3,h4,h5⟩
                  · exact h6 g hg
                · rw [if_neg h6,if_neg (fun q=>h6 fun g hg=>q g (by simp [hg]))]
              · exact no (decide_eq_false h5) fun q=>h5 q.2.2.2.2.2
            · exact no (decide_eq_false h4) fun q=>h4 q.2.2.2.2.1
          · exact no (decide_eq_false h3) fun q=>h3 q.2.2.2.1
        · exact no (decide_eq_false h2) fun q=>h2 ⟨q.2.1,q.2.2.1⟩
      · exact no (decide_eq_false h1) fun q=>h1 q.1
    · rw [c_E (by omega),List.drop_eq_nil_of_le (by omega),if_pos (show Pall x [] from fun g hg=>absurd hg List.not_mem_nil)]
theorem p15_eq {n:Nat} (hn:1100 ≤ n) (x:Mpt) (hl:x.1.xs.length ≤ 1000):p15 n x = some (decide (Ppr x)):=by
  have h:=p15_l1_eq hn x hl n 0 (by omega) (by omega)
  rw [show ((0:Nat):Int) = 0 from rfl,List.drop_zero] at h
  unfold p15
  rw [h,Option.bind_some]
  by_cases hp:Ppr x
  · rw [if_pos (show Pall x x.1.xs from hp),lrKl,decide_eq_true hp]
  · rw [if_neg (show ¬ Pall x x.1.xs from hp),lrKr,decide_eq_false hp]
theorem c_q {x:Int} (h0:-9223372036854775808 ≤ x) (h1:x ≤ 9223372036854775807):IntKind.wrap .i64 x = x:=(a_j (ckS h0 h1)).2.2
theorem and_u8_1 {y:Int} (h0:0 ≤ y) (h1:y ≤ 255):a_l .and .u8 y 1 = y % 2:=by
  obtain ⟨a,rfl⟩:=Int.eq_ofNat_of_zero_le h0
  unfold a_l
  simp only
  have e:(BitVec.ofInt 8 (a:Int) &&& BitVec.ofInt 8 1).toNat = a % 2:=by
    rw [BitVec.toNat_and]
    have e1:(BitVec.ofInt 8 (a:Int)).toNat = a:=by
      rw [BitVec.toNat_ofInt];omega
    have e2:(BitVec.ofInt 8 1).toNat = 1:=by decide
    rw [e1,e2,Nat.and_one_is_mod]
  rw [show IntKind.bits .u8 = 8 from rfl,e,wrap_u8]
  omega
theorem or_i64 {a c:Int} {i:Nat} (hi:i ≤ 40) (h0:0 ≤ a) (h1:a < 2 ^ i) (hc0:0 ≤ c) (hc:c ≤ 1):a_l .or .i64 a (c * 2 ^ i) = a + c * 2 ^ i:=by
  obtain ⟨a,rfl⟩:=Int.eq_ofNat_of_zero_le h0
  obtain ⟨c,rfl⟩:=Int.eq_ofNat_of_zero_le hc0
  have hp:(2:Nat) ^ i ≤ 2 ^ 40:=Nat.pow_le_pow_right (by decide) hi
  have h1:a < 2 ^ i:=by
    have:((2 ^ i:Nat):Int) = (2:Int) ^ i:=by simp
    omega
  have hc:c ≤ 1:=by omega
  have hcp:c * 2 ^ i ≤ 2 ^ 40:=by
    have:=Nat.mul_le_mul_right (2 ^ i) hc
    omega
  have e0:((c:Int) * 2 ^ i) = ((c * 2 ^ i:Nat):Int):=by simp
  rw [e0]
  unfold a_l
  simp only
  rw [show IntKind.bits .i64 = 64 from rfl]
  have nat:∀ z:Nat,z ≤ 2 ^ 41 → (BitVec.ofInt 64 (z:Int)).toNat = z:=by
    intro z hz
    rw [BitVec.toNat_ofInt]
    omega
  have e:(BitVec.ofInt 64 ((a:Nat):Int) ||| BitVec.ofInt 64 ((c * 2 ^ i:Nat):Int)).toNat = a + c * 2 ^ i:=by
    rw [BitVec.toNat_or,nat a (by omega),nat (c * 2 ^ i) (by omega),Nat.or_comm,Nat.mul_comm,← Nat.two_pow_add_eq_or_of_lt h1]
    omega
  rw [e,c_q (by omega) (by omega)]
  omega
theorem c_g {x:Int} {i:Nat} (hi:i ≤ 40) (h0:-1 ≤ x) (h1:x ≤ 1):c_J .i64 x (i:Int) = some (x * 2 ^ i):=by
  have hp:(2:Int) ^ i ≤ 2 ^ 40:=by
    have:(2:Nat) ^ i ≤ 2 ^ 40:=Nat.pow_le_pow_right (by decide) hi
    have e:((2 ^ i:Nat):Int) = (2:Int) ^ i:=by simp
    omega
  have hp0:(0:Int) ≤ 2 ^ i:=Int.pow_nonneg (by decide)
  unfold c_J
  rw [if_pos (by omega)]
  have e:min ((i:Int)).toNat (IntKind.bits .i64) = i:=by
    rw [show IntKind.bits .i64 = 64 from rfl];omega
  rw [e]
  refine congrArg some ?_
  rcases (show x = -1 ∨ x = 0 ∨ x = 1 by omega) with rfl | rfl | rfl
  · exact c_q (by omega) (by omega)
  · exact c_q (by omega) (by omega)
  · exact c_q (by omega) (by omega)
theorem shr_u8 {y:Int} {i:Nat} (hi:i ≤ 8):d_4 y (i:Int) .u8 = some (y / 2 ^ i):=by
  unfold d_4
  rw [if_pos (by omega)]
  have e:min ((i:Int)).toNat (IntKind.bits .u8) = i:=by
    rw [show IntKind.bits .u8 = 8 from rfl];omega
  rw [e,Int.fdiv_eq_ediv_of_nonneg _ (Int.pow_nonneg (by decide))]
theorem shr_i64 {y:Int} {i:Nat} (hi:i ≤ 64):d_4 y (i:Int) .i64 = some (y / 2 ^ i):=by
  unfold d_4
  rw [if_pos (by omega)]
  have e:min ((i:Int)).toNat (IntKind.bits .i64) = i:=by
    rw [show IntKind.bits .i64 = 64 from rfl];omega
  rw [e,Int.fdiv_eq_ediv_of_nonneg _ (Int.pow_nonneg (by decide))]
theorem b_c (i:Nat):(0:Int) < 2 ^ i:=Int.pow_pos (by decide)
theorem b_v (i:Nat):(2:Int) ^ (i + 1) = 2 * 2 ^ i:=by rw [Int.pow_succ,Int.mul_comm]
theorem d_v {i j:Nat} (h:i ≤ j):(2:Int) ^ i ≤ 2 ^ j:=by
  have:(2:Nat) ^ i ≤ 2 ^ j:=Nat.pow_le_pow_right (by decide) h
  have e:((2 ^ i:Nat):Int) = (2:Int) ^ i:=by simp
  have e':((2 ^ j:Nat):Int) = (2:Int) ^ j:=by simp
  omega
def byt (b:List Int) (i:Nat):Int:=b.getD i 0
def skp (nb:Bool):Nat:=if nb = true then 1 else 0
def bt (nb:Bool) (b:List Int) (p:Nat):Int:=byt b (p / 8 + skp nb) / 2 ^ (p % 8) % 2
def Byts (b:List Int):Prop:=∀ y ∈ b,0 ≤ y ∧ y ≤ 255
theorem byt_of {b:List Int} {i:Nat} (h:i < b.length):idx b (i:Int) = some (byt b i):=by
  rw [c_H h]
  unfold byt
  rw [List.getD_eq_getElem?_getD,List.getElem?_eq_getElem h];rfl
theorem Byts.rng {b:List Int} (h:Byts b) (i:Nat):0 ≤ byt b i ∧ byt b i ≤ 255:=by
  unfold byt
  by_cases hi:i < b.length
  · rw [List.getD_eq_getElem?_getD,List.getElem?_eq_getElem hi];exact h _ (List.getElem_mem hi)
  · rw [List.getD_eq_getElem?_getD,List.getElem?_eq_none (by omega)];exact ⟨by decide,by decide⟩
theorem bt_rng (nb:Bool) (b:List Int) (p:Nat):0 ≤ bt nb b p ∧ bt nb b p ≤ 1:=by unfold bt;omega
theorem div_rng {y:Int} (h0:0 ≤ y) (h1:y ≤ 255) (i:Nat):0 ≤ y / 2 ^ i ∧ y / 2 ^ i ≤ 255 :=
  ⟨Int.ediv_nonneg h0 (Int.le_of_lt (b_c i)),Int.le_trans (Int.ediv_le_self _ h0) h1⟩
def num (nb:Bool) (b:List Int) (off:Nat):Nat → Int
  | 0=>0
  | i + 1=>num nb b off i + bt nb b (off + i) * 2 ^ i
theorem d_1 (nb:Bool) (b:List Int) (off:Nat):∀ i,0 ≤ num nb b off i ∧ num nb b off i < 2 ^ i
  | 0=>⟨Int.le_refl _,by show (0:Int) < 1;decide⟩
  | i + 1=>by
    have h:=d_1 nb b off i
    have hb:=bt_rng nb b (off + i)
    have hp:=b_c i
    rw [b_v]
    show 0 ≤ num nb b off i + bt nb b (off + i) * 2 ^ i ∧ num nb b off i + bt nb b (off + i) * 2 ^ i < 2 * 2 ^ i
    rcases (show bt nb b (off + i) = 0 ∨ bt nb b (off + i) = 1 by omega) with e | e
    · rw [e];omega
    · rw [e];omega
def sgn (f:Fd) (v:Int):Int:=if (fSg f && decide (2 ^ (fS f).toNat / 2 ≤ v)) = true then v - 2 ^ (fS f).toNat else v
def off (f:Fd) (j:Nat):Nat:=(fA f).toNat + j * (fS f).toNat
def b_U (m:Mpt) (b:List Int) (f:Fd) (j:Nat):Int:=sgn f (num m.2.2 b (off f j) (fS f).toNat)
structure Elm (m:Mpt) (b:List Int) (f:Fd) (j:Nat):Prop where
  ok:okA f
  at0:0 ≤ fA f
  atm:fA f + fS f * fC f ≤ 4096
  lt:(j:Int) < fC f
  len:∀ i:Nat,i < (fS f).toNat → (off f j + i) / 8 + skp m.2.2 < b.length
theorem Elm.mul {m:Mpt} {b:List Int} {f:Fd} {j:Nat} (h:Elm m b f j):(0 ≤ (j:Int) * f.2.2.2.2.2.2.1 ∧ (j:Int) * f.2.2.2.2.2.2.1 ≤ 8192) ∧ (((off f j:Nat):Int) = f.2.2.2.2.2.2.2.2.1 + (j:Int) * f.2.2.2.2.2.2.1 ∧ off f j ≤ 5000):=by
  obtain ⟨⟨⟨h1,h2⟩,h3,h4⟩,h5,h6,h7,_⟩:=h
  obtain ⟨S,hS⟩:=Int.eq_ofNat_of_zero_le (show 0 ≤ fS f by omega)
  obtain ⟨A,hA⟩:=Int.eq_ofNat_of_zero_le h5
  obtain ⟨C,hC⟩:=Int.eq_ofNat_of_zero_le (show 0 ≤ fC f by omega)
  have e1:f.2.2.2.2.2.2.1 = (S:Int):=hS
  have e2:f.2.2.2.2.2.2.2.2.1 = (A:Int):=hA
  rw [hS,hC,hA] at h6
  rw [hS] at h2
  rw [hC] at h4 h7
  have hj:j * S ≤ 256 * 32:=Nat.mul_le_mul (by omega) (by omega)
  have hj2:j * S ≤ S * C:=by rw [Nat.mul_comm S C];exact Nat.mul_le_mul (by omega) (Nat.le_refl _)
  have e3:((j:Int) * (S:Int)) = ((j * S:Nat):Int):=by simp
  have e4:((S:Int) * (C:Int)) = ((S * C:Nat):Int):=by simp
  have eo:off f j = A + j * S:=by
    unfold off
    rw [hS,hA];simp
  rw [e1,e2,e3,eo]
  rw [e4] at h6
  exact ⟨⟨by omega,by omega⟩,by simp,by omega⟩
theorem p49_l1_eq (n:Nat) (f:Fd) (x:Mpt) (b:Sl Int) (j:Nat) (hb:Byts b.xs) (h:Elm x b.xs f j):∀ (m i:Nat),(fS f).toNat - i < m → i ≤ (fS f).toNat →
    p49_l1 n (Nat × (Int × Int)) f j (rnd (p29_r1 n b)) (skp x.2.2:Nat) m i (0,(num x.2.2 b.xs (off f j) i,(i:Int))) = some (.inl (0,(num x.2.2 b.xs (off f j) (fS f).toNat,(((fS f).toNat:Nat):Int)))):=by
  have hm:=h.mul
  have hs:=h.ok.1
  have hs':1 ≤ f.2.2.2.2.2.2.1 ∧ f.2.2.2.2.2.2.1 ≤ 32:=hs
  have hk:skp x.2.2 ≤ 1:=by unfold skp;split <;> omega
  intro m
  induction m with
  | zero=>intro i hm;exact absurd hm (by omega)
  | succ m ih =>
    intro i hi1 hi2
    rw [p49_l1]
    by_cases hlt:i < (fS f).toNat
    · have hyes:(i:Int) < f.2.2.2.2.2.2.1:=by
        have h_:(i:Int) < fS f:=by omega
        exact h_
      have hl:=h.len i hlt
      have hn:=d_1 x.2.2 b.xs (off f j) i
      have hbt:=bt_rng x.2.2 b.xs (off f j + i)
      have hr:=hb.rng ((off f j + i) / 8 + skp x.2.2)
      have hd:=div_rng hr.1 hr.2 ((off f j + i) % 8)
      have e1:p29_r1 n b (num x.2.2 b.xs (off f j) i,(i:Int)) ((((off f j + i) / 8 + skp x.2.2:Nat):Int),(((off f j + i) % 8:Nat):Int)) = some (0,(num x.2.2 b.xs (off f j) (i + 1),((i + 1:Nat):Int))):=by
        unfold p29_r1
        simp only
        rw [byt_of hl,Option.bind_some,shr_u8 (by omega),Option.bind_some,and_u8_1 hd.1 hd.2]
        have e2:byt b.xs ((off f j + i) / 8 + skp x.2.2) / 2 ^ ((off f j + i) % 8) % 2 = bt x.2.2 b.xs (off f j + i):=rfl
        rw [e2,c_g (by omega) (by omega) (by omega),Option.bind_some,ckS (by omega) (by omega),Option.bind_some,or_i64 (by omega) hn.1 hn.2 hbt.1 hbt.2,a_3]
        rfl
      have e3:rnd (p29_r1 n b) (0,(num x.2.2 b.xs (off f j) i,(i:Int))) ((((off f j + i) / 8 + skp x.2.2:Nat):Int),(((off f j + i) % 8:Nat):Int)) = some (true,(0,(num x.2.2 b.xs (off f j) (i + 1),((i + 1:Nat):Int)))):=by
        show (p29_r1 n b (num x.2.2 b.xs (off f j) i,(i:Int)) ((((off f j + i) / 8 + skp x.2.2:Nat):Int),(((off f j + i) % 8:Nat):Int))).map (fun r=>(Nat.beq r.1 0,r)) = _
        rw [e1];rfl
      rw [c_s hyes,ckS (by omega) (by omega),Option.bind_some,ckS (by omega) (by omega),Option.bind_some,← hm.2.1,ckS (by omega) (by omega),Option.bind_some,show ((off f j:Nat):Int) + (i:Int) = ((off f j + i:Nat):Int) by simp,quoS (by omega) (by omega) (by omega),Option.bind_some,ckS (by omega) (by omega),Option.bind_some,remS (by omega) (by omega) (by omega),Option.bind_some,show ((skp x.2.2:Nat):Int) + ((off f j + i:Nat):Int) / 8 = (((off f j + i) / 8 + skp x.2.2:Nat):Int) by omega,show ((off f j + i:Nat):Int) % 8 = (((off f j + i) % 8:Nat):Int) by simp,e3,Option.bind_some]
      rw [if_neg (show ¬ ((!true) = true) from by decide),ckS (by omega) (by omega),Option.bind_some,a_3]
      exact ih (i + 1) (by omega) (by omega)
    · have:i = (fS f).toNat:=by omega
      subst this
      have hno:¬ (((fS f).toNat:Nat):Int) < f.2.2.2.2.2.2.1:=by
        have h_:¬ (((fS f).toNat:Nat):Int) < fS f:=by omega
        exact h_
      rw [c_E hno]
theorem p29_eq {n:Nat} (hn:100 ≤ n) (x:Mpt) (f:Fd) (b:Sl Int) (j:Nat) (hb:Byts b.xs) (h:Elm x b.xs f j):p29 n x f b j = some (b_U x b.xs f j):=by
  have hs:=h.ok.1
  have hs':1 ≤ f.2.2.2.2.2.2.1 ∧ f.2.2.2.2.2.2.1 ≤ 32:=hs
  have h1:=p49_l1_eq n f x b j hb h n 0 (by omega) (by omega)
  have hr:=d_1 x.2.2 b.xs (off f j) (fS f).toNat
  have hp:=d_v (show (fS f).toNat ≤ 40 by omega)
  have hp0:=b_c (fS f).toNat
  obtain ⟨q,hq⟩:∃ q,(fS f).toNat = q + 1:=⟨(fS f).toNat - 1,by omega⟩
  have hS:f.2.2.2.2.2.2.1 = ((q + 1:Nat):Int):=by
    have:fS f = ((q + 1:Nat):Int):=by omega
    exact this
  rw [show ((0:Nat):Int) = 0 from rfl,show num x.2.2 b.xs (off f j) 0 = 0 from rfl] at h1
  have e46:p46 n x f (j:Int) = some (x,f,(j:Int)):=rfl
  have e49:p49 n x f (j:Int) (Nat × (Int × Int)) (rnd (p29_r1 n b)) (0,(0,0)) = some (0,(num x.2.2 b.xs (off f j) (fS f).toNat,(((fS f).toNat:Nat):Int))):=by
    unfold p49
    have ek:(if x.2.2 = true then some (1:Int) else some 0) = some ((skp x.2.2:Nat):Int):=by
      unfold skp;split <;> rfl
    rw [ek,Option.bind_some,h1,Option.bind_some,lrKl]
  unfold p29
  rw [e46,Option.bind_some]
  simp only
  rw [e49,Option.bind_some]
  simp only
  have e1:(ckI .i64 (f.2.2.2.2.2.2.1 - 1)).bind (fun x_144=>(d_4 (num x.2.2 b.xs (off f j) (fS f).toNat) x_144 .i64).bind fun x_145=>some (x_145 == 1)) = some (decide (2 ^ (fS f).toNat / 2 ≤ num x.2.2 b.xs (off f j) (fS f).toNat)):=by
    rw [hS,ckS (by omega) (by omega),Option.bind_some,show (((q + 1:Nat):Int) - 1) = (q:Int) by omega,shr_i64 (by omega),Option.bind_some]
    refine congrArg some ?_
    have hpq:=b_c q
    have hq2:(2:Int) ^ (fS f).toNat = 2 * 2 ^ q:=by rw [hq,b_v]
    have ed:(2:Int) ^ (fS f).toNat / 2 = 2 ^ q:=by rw [hq2];omega
    rw [ed]
    rw [hq2] at hr
    generalize num x.2.2 b.xs (off f j) (fS f).toNat = v at hr
    by_cases hv:(2:Int) ^ q ≤ v
    · rw [decide_eq_true hv,beq_iff_eq]
      have h2:v / 2 ^ q = (v - 2 ^ q) / 2 ^ q + 1:=by
        have:=Int.add_ediv_of_dvd_right (a:=v - 2 ^ q) (Int.dvd_refl (2 ^ q))
        rw [Int.ediv_self (by omega)] at this
        rw [← this]
        congr 1
        omega
      rw [h2,Int.ediv_eq_zero_of_lt (by omega) (by omega)]
      rfl
    · rw [decide_eq_false hv,Int.ediv_eq_zero_of_lt (by omega) (by omega)]
      rfl
  rw [e_l fun _=>e1,Option.bind_some]
  unfold b_U sgn
  split
  · rw [hS,c_g (by omega) (by omega) (by omega),Option.bind_some,Int.one_mul]
    rw [hq] at hr hp ⊢
    rw [ckS (by omega) (by omega)];rfl
  · rfl
section
set_option maxRecDepth 100000
theorem p8_ok:p8 6000 = some true:=by kernel_rfl
end
def Aall (l:List Fd):Prop:=∀ f ∈ l,okA f
instance (l:List Fd):Decidable (Aall l):=by unfold Aall;infer_instance
def Ball (x:Mpt) (l:List Fd):Prop:=∀ f ∈ l,okB x f
instance (x:Mpt) (l:List Fd):Decidable (Ball x l):=by unfold Ball;infer_instance
def hld (f:Fd) (j:Nat) (v:Int):Option (Int × Int) :=
  if fCo f = true ∨ v < fLo f ∨ v > fHi f then .none
  else if fAr f = true then ((fU f).xs[(v - fLo f).toNat]?).map fun u=>(u,1)
  else ((fU f).xs[min j ((fU f).xs.length - 1)]?).map fun u=>(u,v)
def hldR (o:Option (Int × Int)):Int × Int × Bool:=match o with | some (u,w)=>(u,w,true) | none=>(0,0,false)
theorem p28_eq (n:Nat) (x:Mpt) (f:Fd) (hB:okB x f) (j:Nat) (hj:j ≤ 1000) (hU:(fU f).xs.length ≤ 9223372036854775807) (v:Int):p28 n f j v = some (hldR (hld f j v)):=by
  obtain ⟨_,_,⟨b3,b4,b5⟩,b6,_⟩:=hB
  unfold p28 hld
  rw [orO fun _=>rfl,Option.bind_some,orO fun _=>rfl,Option.bind_some]
  by_cases h0:fCo f = true ∨ v < fLo f ∨ v > fHi f
  · have hq:((f.2.2.2.2.2.2.2.2.2.1 || decide (v < f.2.2.2.2.1)) || decide (v > f.2.2.2.2.2.1)) = true:=by
      rcases h0 with h | h | h
      · have h:f.2.2.2.2.2.2.2.2.2.1 = true:=h
        rw [h];rfl
      · have h:v < f.2.2.2.2.1:=h
        rw [decide_eq_true h,Bool.or_true,Bool.true_or]
      · have h:v > f.2.2.2.2.2.1:=h
        rw [decide_eq_true h,Bool.or_true]
    rw [hq,if_neg (by decide),Option.bind_some,if_pos rfl,if_pos h0]
    rfl
  · have hc:¬ fCo f = true:=fun q=>h0 (.inl q)
    have h1:¬ v < fLo f:=fun q=>h0 (.inr (.inl q))
    have h2:¬ v > fHi f:=fun q=>h0 (.inr (.inr q))
    have hlen:0 < (fU f).xs.length:=b6.resolve_left hc
    have hq:((f.2.2.2.2.2.2.2.2.2.1 || decide (v < f.2.2.2.2.1)) || decide (v > f.2.2.2.2.2.1)) = false:=by
      have hc:f.2.2.2.2.2.2.2.2.2.1 = false:=Bool.eq_false_iff.2 hc
      rw [hc,decide_eq_false h1,decide_eq_false h2];rfl
    rw [hq,if_pos rfl,if_neg h0]
    have hck:ckI .i64 (v - f.2.2.2.2.1) = some (v - fLo f):=ckS (show _ ≤ v - fLo f by omega) (show v - fLo f ≤ _ by omega)
    by_cases hA:fAr f = true
    · have hA':f.2.2.2.2.2.2.2.2.2.2.1 = true:=hA
      obtain ⟨q,hqv⟩:=Int.eq_ofNat_of_zero_le (show 0 ≤ v - fLo f by omega)
      have hqn:(v - fLo f).toNat = q:=by omega
      rw [hA',if_pos rfl,if_pos rfl,if_pos hA,hck,Option.bind_some,Option.bind_some,hqn,hqv,a_O]
      by_cases hl:q < (fU f).xs.length
      · have hl':¬ ((q:Nat):Int) ≥ (f.2.2.2.1.xs.length:Int):=by
          have:¬ ((q:Nat):Int) ≥ ((fU f).xs.length:Int):=by omega
          exact this
        rw [decide_eq_false hl',Option.bind_some,Option.bind_some,if_neg (by decide),show idx f.2.2.2.1.xs (q:Int) = some ((fU f).xs[q]) from c_H hl,Option.bind_some,List.getElem?_eq_getElem hl]
        rfl
      · have hl':((q:Nat):Int) ≥ (f.2.2.2.1.xs.length:Int):=by
          have:((q:Nat):Int) ≥ ((fU f).xs.length:Int):=by omega
          exact this
        rw [decide_eq_true hl',Option.bind_some,Option.bind_some,if_pos rfl,List.getElem?_eq_none (by omega)]
        rfl
    · have hA':f.2.2.2.2.2.2.2.2.2.2.1 = false:=Bool.eq_false_iff.2 hA
      rw [hA',if_neg (by decide),if_neg hA,Option.bind_some,Option.bind_some,if_neg (by decide),if_neg (by decide),a_O]
      have e1:((f.2.2.2.1.xs.length:Nat):Int) - 1 = (((fU f).xs.length - 1:Nat):Int):=by
        have:(((fU f).xs.length:Nat):Int) - 1 = (((fU f).xs.length - 1:Nat):Int):=by omega
        exact this
      rw [e1]
      rw [ckS (by omega) (by omega),Option.bind_some]
      have e2:(if (((fU f).xs.length - 1:Nat):Int) < (j:Int) then (((fU f).xs.length - 1:Nat):Int) else (j:Int)) = ((min j ((fU f).xs.length - 1):Nat):Int):=by
        split <;> omega
      have hm:min j ((fU f).xs.length - 1) < (fU f).xs.length:=by omega
      rw [e2,show idx f.2.2.2.1.xs ((min j ((fU f).xs.length - 1):Nat):Int) = some ((fU f).xs[min j ((fU f).xs.length - 1)]) from c_H hm,Option.bind_some,List.getElem?_eq_getElem hm]
      rfl
theorem Elm.of {m:Mpt} {b:List Int} {f:Fd} (hp:Ppr m) (hf:f ∈ m.1.xs) (hlen:(b.length:Int) = d_K m f.1 f.2.1) {j:Nat} (hj:(j:Int) < fC f):Elm m b f j:=by
  obtain ⟨ha,hb⟩:=hp f hf
  obtain ⟨b1,b2,_,_,b5⟩:=hb
  refine ⟨ha,b1,b2,hj,fun i hi=>?_⟩
  obtain ⟨⟨a1,a2⟩,a3,a4⟩:=ha
  obtain ⟨S,hS⟩:=Int.eq_ofNat_of_zero_le (show 0 ≤ fS f by omega)
  obtain ⟨A,hA⟩:=Int.eq_ofNat_of_zero_le b1
  obtain ⟨C,hC⟩:=Int.eq_ofNat_of_zero_le (show 0 ≤ fC f by omega)
  have eo:off f j = A + j * S:=by unfold off;rw [hS,hA];simp
  have hi:i < S:=by rw [hS] at hi;omega
  have hj2:j * S + S ≤ S * C:=by
    have:(j + 1) * S ≤ C * S:=Nat.mul_le_mul (by omega) (Nat.le_refl _)
    rw [Nat.mul_comm S C]
    rw [Nat.add_mul,Nat.one_mul] at this
    exact this
  rw [hS,hA,hC] at b5
  have e4:((S:Int) * (C:Int)) = ((S * C:Nat):Int):=by simp
  rw [e4] at b5
  unfold d_K at hlen
  rw [e_n hf,Bool.true_and] at hlen
  have hk:((skp m.2.2:Nat):Int) = if m.2.2 = true then 1 else 0:=by unfold skp;split <;> rfl
  rw [← hk] at hlen
  rw [eo]
  omega
def elV (m:Mpt) (b:List Int) (i:Nat) (f:Fd) (j:Nat):List (Int × Int × Int × Int) :=
  match hld f j (b_U m b f j) with
  | some (u,w)=>[((i:Int),(j:Int),u,w)]
  | none=>[]
def fdV (m:Mpt) (b:List Int) (i:Nat) (f:Fd) (j:Nat):List (Int × Int × Int × Int):=(List.range' j ((fC f).toNat - j)).flatMap (elV m b i f)
theorem e_o (m:Mpt) (b:List Int) (i:Nat) (f:Fd) {j:Nat} (h:j < (fC f).toNat):fdV m b i f j = elV m b i f j ++ fdV m b i f (j + 1):=by
  unfold fdV
  obtain ⟨q,hq⟩:∃ q,(fC f).toNat - j = q + 1:=⟨(fC f).toNat - j - 1,by omega⟩
  rw [hq,show (fC f).toNat - (j + 1) = q by omega,List.range'_succ,List.flatMap_cons]
theorem fdV_nil (m:Mpt) (b:List Int) (i:Nat) (f:Fd) {j:Nat} (h:(fC f).toNat ≤ j):fdV m b i f j = []:=by
  unfold fdV
  rw [show (fC f).toNat - j = 0 by omega];rfl
theorem elV_len (m:Mpt) (b:List Int) (i:Nat) (f:Fd) (j:Nat):(elV m b i f j).length ≤ 1:=by
  unfold elV;split <;> simp
theorem d_2 (m:Mpt) (b:List Int) (i:Nat) (f:Fd):∀ (q j:Nat),(fC f).toNat - j = q → (fdV m b i f j).length ≤ q
  | 0,j,h=>by rw [fdV_nil m b i f (by omega)];simp
  | q + 1,j,h=>by
    have:=d_2 m b i f q (j + 1) (by omega)
    have:=elV_len m b i f j
    rw [e_o m b i f (by omega),List.length_append];omega
def Us (m:Mpt):Prop:=∀ f ∈ m.1.xs,(fU f).xs.length ≤ 9223372036854775807
theorem p10_l2_eq {n:Nat} (hn:1100 ≤ n) (x:Mpt) (hp:Ppr x) (hU:Us x) (b:Sl Int) (hb:Byts b.xs) (f:Fd) (hf:f ∈ x.1.xs) (hlen:(b.xs.length:Int) = d_K x f.1 f.2.1) (i:Nat):∀ (m j:Nat) (a:List (Int × Int × Int × Int)),(fC f).toNat - j < m → j ≤ (fC f).toNat → a.length ≤ 900000 + j →
    p10_l2 n x b (i:Int) f m j a = some (a ++ fdV x b.xs i f j):=by
  have hA:=(hp f hf).1
  have hA':=hA.2
  intro m
  induction m with
  | zero=>intro j a hm;exact absurd hm (by omega)
  | succ m ih =>
    intro j a hm hj ha
    rw [p10_l2]
    by_cases hlt:j < (fC f).toNat
    · have hlt':(j:Int) < fC f:=by omega
      have hE:=Elm.of (b:=b.xs) hp hf hlen hlt'
      rw [c_s (show (j:Int) < f.2.2.2.2.2.2.2.1 from hlt'),p29_eq (by omega) x f b j hb hE,Option.bind_some,p28_eq n x f (hp f hf).2 j (by omega) (hU f hf),Option.bind_some,e_o x b.xs i f hlt]
      have hl:=elV_len x b.xs i f j
      have e:((if (hldR (hld f j (b_U x b.xs f j))).2.2 = true then (d_B a [((i:Int),(j:Int),(hldR (hld f j (b_U x b.xs f j))).1,(hldR (hld f j (b_U x b.xs f j))).2.1)]).bind fun l_257=>some l_257 else some a):Option (List (Int × Int × Int × Int))) = some (a ++ elV x b.xs i f j):=by
        unfold elV
        cases hld f j (b_U x b.xs f j) with
        | none=>show some a = some (a ++ []);rw [List.append_nil]
        | some q =>
          obtain ⟨u,w⟩:=q
          show (d_B a [((i:Int),(j:Int),u,w)]).bind (fun l_257=>some l_257) = _
          rw [b_6 (by omega)];rfl
      rw [Option.bind_some]
      simp only
      rw [e,Option.bind_some,ckS (by omega) (by omega),Option.bind_some,a_3,ih (j + 1) _ (by omega) (by omega) (by rw [List.length_append];omega),List.append_assoc]
    · rw [c_E (show ¬ (j:Int) < f.2.2.2.2.2.2.2.1 from (show ¬ (j:Int) < fC f by omega)),fdV_nil x b.xs i f (by omega),List.append_nil]
def rpV (m:Mpt) (b:List Int) (k r:Int):Nat → List Fd → List (Int × Int × Int × Int)
  | _,[]=>[]
  | i,f :: l=>(if mt k r f = true then fdV m b i f 0 else []) ++ rpV m b k r (i + 1) l
theorem nmt_eq (k r:Int) (f:Fd):(if (f.1 != k) = false then some (f.2.1 != r) else some true) = some (!mt k r f):=by
  rw [orO fun _=>rfl]
  unfold mt
  cases h1:f.1 == k <;> cases h2:f.2.1 == r <;> simp [bne,h1,h2]
theorem d_L {k r:Int} {f:Fd} (h:mt k r f = true):f.1 = k ∧ f.2.1 = r:=by
  unfold mt at h
  rw [Bool.and_eq_true,beq_iff_eq,beq_iff_eq] at h
  exact h
theorem p10_l1_eq {n:Nat} (hn:1100 ≤ n) (x:Mpt) (hl:x.1.xs.length ≤ 1000) (hp:Ppr x) (hU:Us x) (k r:Int) (b:Sl Int) (hb:Byts b.xs) (hlen:(b.xs.length:Int) = d_K x k r):∀ (m i:Nat) (a:List (Int × Int × Int × Int)),x.1.xs.length - i < m → i ≤ x.1.xs.length → a.length ≤ 256 * i →
    p10_l1 n x k b r m i a = some (a ++ rpV x b.xs k r i (x.1.xs.drop i)):=by
  intro m
  induction m with
  | zero=>intro i a hm;exact absurd hm (by omega)
  | succ m ih =>
    intro i a hm hi ha
    rw [p10_l1,a_O]
    by_cases hlt:i < x.1.xs.length
    · have hf:x.1.xs[i] ∈ x.1.xs:=List.getElem_mem hlt
      rw [c_s (by omega),c_H hlt,Option.bind_some,nmt_eq,Option.bind_some,a_Q hlt,rpV]
      by_cases hm':mt k r x.1.xs[i] = true
      · obtain ⟨e1,e2⟩:=d_L hm'
        have hC:=(hp _ hf).1.2
        have hlen':(b.xs.length:Int) = d_K x x.1.xs[i].1 x.1.xs[i].2.1:=by rw [e1,e2];exact hlen
        have hfl:=d_2 x b.xs i x.1.xs[i] _ 0 rfl
        have h2:=p10_l2_eq hn x hp hU b hb x.1.xs[i] hf hlen' i n 0 a (by omega) (by omega) (by omega)
        rw [show ((0:Nat):Int) = 0 from rfl] at h2
        rw [hm',if_neg (by decide),if_pos rfl,h2,Option.bind_some,ckS (by omega) (by omega),Option.bind_some,a_3,ih (i + 1) _ (by omega) (by omega) (by rw [List.length_append];omega),List.append_assoc]
      · rw [Bool.eq_false_iff.2 hm',if_pos (show (!false) = true from rfl),if_neg (by decide),ckS (by omega) (by omega),Option.bind_some,a_3,ih (i + 1) _ (by omega) (by omega) (by omega),List.nil_append]
    · rw [c_E (by omega),List.drop_eq_nil_of_le (by omega),rpV,List.append_nil]
theorem p48_l1_eq (n:Nat) (l:Sl Fd) (k r:Int) (hl:l.xs.length ≤ 1000):∀ (m i:Nat),l.xs.length - i < m → i ≤ l.xs.length → ∃ q:Unit ⊕ Int,p48_45_l1 n l k r m i = some q ∧ ((∃ j:Nat,q = .inr (j:Int)) ∧ d_g (l.xs.drop i) k r = true ∨ q = .inl () ∧ d_g (l.xs.drop i) k r = false):=by
  intro m
  induction m with
  | zero=>intro i hm;exact absurd hm (by omega)
  | succ m ih =>
    intro i hm hi
    rw [p48_45_l1,a_O]
    by_cases hlt:i < l.xs.length
    · have hany:d_g (l.xs[i] :: l.xs.drop (i + 1)) k r = (mt k r l.xs[i] || d_g (l.xs.drop (i + 1)) k r):=rfl
      have e45:p45 n l.xs[i] k r = some (mt k r l.xs[i]):=by
        unfold p45
        rw [mt_eq];rfl
      rw [c_s (by omega),c_H hlt,Option.bind_some,e45,Option.bind_some,a_Q hlt,hany]
      by_cases hm':mt k r l.xs[i] = true
      · rw [hm',if_pos rfl]
        exact ⟨_,rfl,.inl ⟨⟨i,rfl⟩,rfl⟩⟩
      · rw [Bool.eq_false_iff.2 hm',if_neg (by decide),ckS (by omega) (by omega),Option.bind_some,a_3,Bool.false_or]
        exact ih (i + 1) (by omega) (by omega)
    · rw [c_E (by omega),List.drop_eq_nil_of_le (by omega)]
      exact ⟨_,rfl,.inr ⟨rfl,rfl⟩⟩
theorem p27_eq {n:Nat} (hn:1100 ≤ n) (x:Mpt) (k r:Int) (hl:x.1.xs.length ≤ 1000):p27 n x k r = some (d_g x.1.xs k r):=by
  obtain ⟨q,h1,h2⟩:=p48_l1_eq n x.1 k r hl n 0 (by omega) (by omega)
  rw [show ((0:Nat):Int) = 0 from rfl] at h1
  rw [List.drop_zero] at h2
  unfold p27 p44_45 p48_45
  rw [h1,Option.bind_some]
  rcases h2 with ⟨⟨j,rfl⟩,h2⟩ | ⟨rfl,h2⟩
  · rw [lrKr,Option.bind_some,Option.bind_some,h2,decide_eq_true (by omega)]
  · rw [lrKl,Option.bind_some,Option.bind_some,h2]
    rfl
def d_M (m:Mpt) (k:Int) (b:List Int):List (Int × Int × Int × Int) × Int :=
  if ¬ Ppr m then ([],1)
  else if m.2.2 = true ∧ b = [] then ([],5)
  else if d_g m.1.xs k (if m.2.2 = true then byt b 0 else 0) = false then ([],7)
  else if (b.length:Int) ≠ d_K m k (if m.2.2 = true then byt b 0 else 0) then ([],5)
  else (rpV m b k (if m.2.2 = true then byt b 0 else 0) 0 m.1.xs,0)
theorem d_3 (m:Mpt) (hp:Ppr m) (b:List Int) (k r:Int):∀ (l:List Fd) (i:Nat),(∀ f ∈ l,f ∈ m.1.xs) → (rpV m b k r i l).length ≤ 256 * l.length
  | [],i,_=>by simp [rpV]
  | f :: l,i,h=>by
    have h1:=d_3 m hp b k r l (i + 1) fun g hg=>h g (by simp [hg])
    have h2:=d_2 m b i f _ 0 rfl
    have hC:=(hp f (h f (by simp))).1.2
    rw [rpV,List.length_append,List.length_cons]
    have:(if mt k r f = true then fdV m b i f 0 else []).length ≤ 256:=by
      split
      · omega
      · simp
    omega
theorem rep_eq (m:Mpt) (b:Sl Int) {α:Type} (e5:α) (hb:¬ (m.2.2 = true ∧ b.xs = [])):(if m.2.2 = true then (if (a_h b == 0) = true then some (.inr e5) else (idx b.xs 0).bind fun y_25=>some (.inl y_25)) else some (.inl 0)) = (some (.inl (if m.2.2 = true then byt b.xs 0 else 0)):Option (Int ⊕ α)):=by
  by_cases h:m.2.2 = true
  · have hne:b.xs ≠ []:=fun q=>hb ⟨h,q⟩
    have hlen:0 < b.xs.length:=List.length_pos_iff.2 hne
    have h0:(a_h b == 0) = false:=by rw [beq_eq_false_iff_ne,a_O];omega
    have hi:=byt_of (b:=b.xs) (i:=0) hlen
    rw [show ((0:Nat):Int) = 0 from rfl] at hi
    rw [if_pos h,h0,if_neg (by decide),hi,Option.bind_some,if_pos h]
  · rw [if_neg h,if_neg h]
theorem p10_eq {n:Nat} (hn:1100 ≤ n) (x:Mpt) (hl:x.1.xs.length ≤ 1000) (hU:Us x) (k:Int) (b:Sl Int) (hb:Byts b.xs):p10 n x k b = some (⟨(d_M x k b.xs).1,some (d_M x k b.xs).1.length⟩,(d_M x k b.xs).2):=by
  unfold p10
  rw [p15_eq hn x hl,Option.bind_some]
  by_cases hp:Ppr x
  · rw [decide_eq_true hp,if_neg (by decide)]
    by_cases h5:x.2.2 = true ∧ b.xs = []
    · have h0:(a_h b == 0) = true:=by rw [beq_iff_eq,a_O,h5.2];rfl
      have e:d_M x k b.xs = ([],5):=by unfold d_M;rw [if_neg (not_not_intro hp),if_pos h5]
      rw [if_pos h5.1,if_pos h0,Option.bind_some,lrKr,e]
      rfl
    · rw [rep_eq x b _ h5,Option.bind_some,lrKl,p27_eq hn x k _ hl,Option.bind_some]
      by_cases hany:d_g x.1.xs k (if x.2.2 = true then byt b.xs 0 else 0) = false
      · have e:d_M x k b.xs = ([],7):=by unfold d_M;rw [if_neg (not_not_intro hp),if_neg h5,if_pos hany]
        rw [hany,if_pos (show (!false) = true from rfl),e]
        rfl
      · have hany':d_g x.1.xs k (if x.2.2 = true then byt b.xs 0 else 0) = true:=by
          cases h:d_g x.1.xs k (if x.2.2 = true then byt b.xs 0 else 0)
          · exact absurd h hany
          · rfl
        rw [hany',if_neg (by decide),p22_eq hn x k _ hl,Option.bind_some,a_O]
        by_cases hlen:(b.xs.length:Int) = d_K x k (if x.2.2 = true then byt b.xs 0 else 0)
        · have e:d_M x k b.xs = (rpV x b.xs k (if x.2.2 = true then byt b.xs 0 else 0) 0 x.1.xs,0):=by unfold d_M;rw [if_neg (not_not_intro hp),if_neg h5,if_neg hany,if_neg (not_not_intro hlen)]
          have h1:=p10_l1_eq hn x hl hp hU k _ b hb hlen n 0 [] (by omega) (by omega) (by simp)
          rw [show ((0:Nat):Int) = 0 from rfl,List.drop_zero,List.nil_append] at h1
          rw [if_neg (by rw [← hlen,bne_self_eq_false];decide),h1,Option.bind_some,e]
          unfold p30
          rw [sl3I_all,Option.bind_some,Option.bind_some]
        · have e:d_M x k b.xs = ([],5):=by unfold d_M;rw [if_neg (not_not_intro hp),if_neg h5,if_neg hany,if_pos hlen]
          rw [if_pos (by rw [bne_iff_ne];exact hlen),e]
          rfl
  · have e:d_M x k b.xs = ([],1):=by unfold d_M;rw [if_pos hp]
    rw [decide_eq_false hp,if_pos (show (!false) = true from rfl),e]
    rfl
def putB (y c:Int) (k:Nat):Int:=a_l .or .u8 (a_l .andNot .u8 y (2 ^ k)) (c * 2 ^ k)
def putOk:Bool:=(List.range 256).all fun y=>(List.range 8).all fun k=>(List.range 2).all fun c =>
  let z:=putB (y:Int) (c:Int) k
  decide (0 ≤ z) && decide (z ≤ 255) && (List.range 8).all fun t=>decide ((z / 2 ^ t % 2) = (if Nat.beq t k then (c:Int) else (y:Int) / 2 ^ t % 2))
theorem e_z:putOk = true:=by kernel_rfl
theorem putB_ok {y c:Int} {k:Nat} (h0:0 ≤ y) (h1:y ≤ 255) (hc0:0 ≤ c) (hc1:c ≤ 1) (hk:k < 8):(0 ≤ putB y c k ∧ putB y c k ≤ 255) ∧ ∀ t,t < 8 → putB y c k / 2 ^ t % 2 = if t = k then c else y / 2 ^ t % 2:=by
  obtain ⟨y,rfl⟩:=Int.eq_ofNat_of_zero_le h0
  obtain ⟨c,rfl⟩:=Int.eq_ofNat_of_zero_le hc0
  have h:=e_z
  unfold putOk at h
  have h2:=List.all_eq_true.1 (List.all_eq_true.1 (List.all_eq_true.1 h y (List.mem_range.2 (by omega))) k (List.mem_range.2 hk)) c (List.mem_range.2 (by omega))
  simp only [Bool.and_eq_true,decide_eq_true_eq] at h2
  refine ⟨h2.1,fun t ht=>?_⟩
  have h3:=List.all_eq_true.1 h2.2 t (List.mem_range.2 ht)
  rw [decide_eq_true_eq] at h3
  rw [h3]
  by_cases e:t = k
  · rw [if_pos e,if_pos (by rw [Nat.beq_eq];exact e)]
  · rw [if_neg e,if_neg (by rw [Nat.beq_eq];exact e)]
theorem and_i64_1 {v:Int}:IntKind.wrap .u8 (a_l .and .i64 v 1) = v % 2:=by
  unfold a_l
  simp only
  have e:(BitVec.ofInt 64 v &&& BitVec.ofInt 64 1).toNat = (v % 2).toNat:=by
    rw [BitVec.toNat_and]
    have e2:(BitVec.ofInt 64 1).toNat = 1:=by decide
    rw [e2,Nat.and_one_is_mod,BitVec.toNat_ofInt]
    omega
  rw [show IntKind.bits .i64 = 64 from rfl,e,c_q (by omega) (by omega),wrap_u8]
  omega
theorem shl_u8 {c:Int} {k:Nat} (hc0:0 ≤ c) (hc1:c ≤ 1) (hk:k < 8):c_J .u8 c (k:Int) = some (c * 2 ^ k):=by
  unfold c_J
  rw [if_pos (by omega)]
  have e:min ((k:Int)).toNat (IntKind.bits .u8) = k:=by
    rw [show IntKind.bits .u8 = 8 from rfl];omega
  rw [e,wrap_u8]
  refine congrArg some ?_
  have h1:=d_v (show k ≤ 7 by omega)
  have h0:=b_c k
  rcases (show c = 0 ∨ c = 1 by omega) with rfl | rfl
  · omega
  · omega
def setB (nb:Bool) (b:List Int) (p:Nat) (c:Int):List Int:=b.set (p / 8 + skp nb) (putB (byt b (p / 8 + skp nb)) c (p % 8))
theorem setB_len (nb:Bool) (b:List Int) (p:Nat) (c:Int):(setB nb b p c).length = b.length:=List.length_set
theorem byt_set (b:List Int) (i j:Nat) (y:Int) (h:i < b.length):byt (b.set i y) j = if j = i then y else byt b j:=by
  unfold byt
  rw [List.getD_eq_getElem?_getD,List.getD_eq_getElem?_getD,List.getElem?_set]
  by_cases e:i = j
  · subst e;rw [if_pos rfl,if_pos h,if_pos rfl];rfl
  · rw [if_neg e,if_neg (fun q=>e q.symm)]
theorem setB_byts {nb:Bool} {b:List Int} {p:Nat} {c:Int} (hb:Byts b) (hc0:0 ≤ c) (hc1:c ≤ 1):Byts (setB nb b p c):=by
  intro y hy
  obtain ⟨i,hi⟩:=List.getElem?_of_mem hy
  unfold setB at hi
  rw [List.getElem?_set] at hi
  have hr:=hb.rng (p / 8 + skp nb)
  split at hi
  · split at hi
    · obtain rfl:=Option.some.inj hi
      exact (putB_ok hr.1 hr.2 hc0 hc1 (Nat.mod_lt _ (by decide))).1
    · cases hi
  · exact hb y (List.mem_of_getElem? hi)
theorem bt_setB {nb:Bool} {b:List Int} {p:Nat} {c:Int} (hb:Byts b) (hl:p / 8 + skp nb < b.length) (hc0:0 ≤ c) (hc1:c ≤ 1) (q:Nat):bt nb (setB nb b p c) q = if q = p then c else bt nb b q:=by
  have hr:=hb.rng (p / 8 + skp nb)
  have h:=(putB_ok hr.1 hr.2 hc0 hc1 (show p % 8 < 8 from Nat.mod_lt _ (by decide))).2 (q % 8) (Nat.mod_lt _ (by decide))
  unfold bt setB
  rw [byt_set _ _ _ _ hl]
  by_cases e:q / 8 + skp nb = p / 8 + skp nb
  · rw [if_pos e,h]
    by_cases e2:q % 8 = p % 8
    · rw [if_pos e2,if_pos (show q = p by omega)]
    · rw [if_neg e2,if_neg (show ¬ q = p by omega),e]
  · rw [if_neg e,if_neg (show ¬ q = p by omega)]
def wrB (nb:Bool) (b:List Int) (off:Nat) (v:Int):Nat → List Int
  | 0=>b
  | i + 1=>setB nb (wrB nb b off v i) (off + i) (v / 2 ^ i % 2)
theorem d_w (nb:Bool) (b:List Int) (off:Nat) (v:Int):∀ i,(wrB nb b off v i).length = b.length
  | 0=>rfl
  | i + 1=>by rw [wrB,setB_len,d_w nb b off v i]
theorem c_O {nb:Bool} {b:List Int} (off:Nat) (v:Int) (hb:Byts b):∀ i,Byts (wrB nb b off v i)
  | 0=>hb
  | i + 1=>setB_byts (c_O off v hb i) (by omega) (by omega)
theorem wrB_bt {nb:Bool} {b:List Int} {off:Nat} {v:Int} (hb:Byts b):∀ (i:Nat),(∀ t,t < i → (off + t) / 8 + skp nb < b.length) → ∀ q,bt nb (wrB nb b off v i) q = if off ≤ q ∧ q < off + i then v / 2 ^ (q - off) % 2 else bt nb b q
  | 0,_,q=>by rw [if_neg (by omega)];rfl
  | i + 1,hl,q=>by
    rw [wrB,bt_setB (c_O off v hb i) (by rw [d_w];exact hl i (by omega)) (by omega) (by omega),wrB_bt hb i (fun t ht=>hl t (by omega)) q]
    by_cases e:q = off + i
    · rw [if_pos e,if_pos (by omega),e,show off + i - off = i by omega]
    · rw [if_neg e]
      by_cases e2:off ≤ q ∧ q < off + i
      · rw [if_pos e2,if_pos (by omega)]
      · rw [if_neg e2,if_neg (by omega)]
theorem wrB_0 {b:List Int} {off:Nat} {v:Int}:∀ (i:Nat),byt (wrB true b off v i) 0 = byt b 0
  | 0=>rfl
  | i + 1=>by
    rw [wrB]
    unfold setB
    by_cases h:(off + i) / 8 + skp true < (wrB true b off v i).length
    · rw [byt_set _ _ _ _ h,if_neg (by unfold skp;rw [if_pos rfl];omega),wrB_0 i]
    · rw [List.set_eq_of_length_le (by omega),wrB_0 i]
theorem e_p {nb:Bool} {b:List Int} {off:Nat} {v:Int}:∀ (S:Nat),(∀ i,i < S → bt nb b (off + i) = v / 2 ^ i % 2) → num nb b off S = v % 2 ^ S
  | 0,_=>by rw [show (2:Int) ^ 0 = 1 from rfl,Int.emod_one];rfl
  | i + 1,h=>by
    rw [num,e_p i fun t ht=>h t (by omega),h i (by omega),b_v]
    have hp:=b_c i
    have h1:=Int.emod_nonneg v (show (2:Int) ^ i ≠ 0 by omega)
    have h2:=Int.emod_lt_of_pos v hp
    have e1:=Int.mul_ediv_add_emod v (2 ^ i)
    generalize hq:v / 2 ^ i = q at e1 ⊢
    generalize hr:v % 2 ^ i = r at e1 h1 h2 ⊢
    have e2:=Int.mul_ediv_add_emod q 2
    have h3:=Int.emod_nonneg q (show (2:Int) ≠ 0 by decide)
    have h4:=Int.emod_lt_of_pos q (show (0:Int) < 2 by decide)
    generalize hd:q / 2 = d at e2
    generalize hc:q % 2 = c at e2 h3 h4 ⊢
    have e3:v = r + c * 2 ^ i + (2 * 2 ^ i) * d:=by
      rw [← e1,← e2,Int.mul_add,← Int.mul_assoc,Int.mul_comm (2 ^ i) 2,Int.mul_comm (2 ^ i) c]
      omega
    have e4:0 ≤ r + c * 2 ^ i ∧ r + c * 2 ^ i < 2 * 2 ^ i:=by
      rcases (show c = 0 ∨ c = 1 by omega) with e | e
      · rw [e];omega
      · rw [e];omega
    rw [e3,Int.add_mul_emod_self_left,Int.emod_eq_of_lt e4.1 e4.2]
theorem p33_r1_eq (n:Nat) (nb:Bool) (b:List Int) (p:Nat) (v:Int) (hb:Byts b) (hl:p / 8 + skp nb < b.length):p33_r1 n (b,v) (((p / 8 + skp nb:Nat):Int),((p % 8:Nat):Int)) = some (0,(setB nb b p (v % 2),v / 2)):=by
  have hk:p % 8 < 8:=Nat.mod_lt _ (by decide)
  unfold p33_r1
  simp only
  have e1:c_J .u8 1 ((p % 8:Nat):Int) = some (2 ^ (p % 8)):=by
    have:=shl_u8 (c:=1) (k:=p % 8) (by decide) (by decide) hk
    rw [this,Int.one_mul]
  have e2:d_4 v 1 .i64 = some (v / 2):=by
    have:=shr_i64 (y:=v) (i:=1) (by decide)
    rw [show ((1:Nat):Int) = 1 from rfl,show (2:Int) ^ 1 = 2 from rfl] at this
    exact this
  rw [byt_of hl,Option.bind_some,e1,Option.bind_some,and_i64_1,shl_u8 (by omega) (by omega) hk,Option.bind_some,Option.bind_some,e2,Option.bind_some,show (((p / 8 + skp nb:Nat):Int)).toNat = p / 8 + skp nb by omega]
  rfl
theorem p49_l1_wr (n:Nat) (f:Fd) (x:Mpt) (b:List Int) (j:Nat) (v:Int) (hb:Byts b) (h:Elm x b f j):∀ (m i:Nat),(fS f).toNat - i < m → i ≤ (fS f).toNat →
    p49_l1 n (Nat × (List Int × Int)) f j (rnd (p33_r1 n)) (skp x.2.2:Nat) m i (0,(wrB x.2.2 b (off f j) v i,v / 2 ^ i)) = some (.inl (0,(wrB x.2.2 b (off f j) v (fS f).toNat,v / 2 ^ (fS f).toNat))):=by
  have hm:=h.mul
  have hs:=h.ok.1
  have hs':1 ≤ f.2.2.2.2.2.2.1 ∧ f.2.2.2.2.2.2.1 ≤ 32:=hs
  have hk:skp x.2.2 ≤ 1:=by unfold skp;split <;> omega
  intro m
  induction m with
  | zero=>intro i hm;exact absurd hm (by omega)
  | succ m ih =>
    intro i hi1 hi2
    rw [p49_l1]
    by_cases hlt:i < (fS f).toNat
    · have hyes:(i:Int) < f.2.2.2.2.2.2.1:=by
        have h_:(i:Int) < fS f:=by omega
        exact h_
      have hl:=h.len i hlt
      have e1:=p33_r1_eq n x.2.2 (wrB x.2.2 b (off f j) v i) (off f j + i) (v / 2 ^ i) (c_O _ _ hb i) (by rw [d_w];exact hl)
      have e2:v / 2 ^ i / 2 = v / 2 ^ (i + 1):=by
        rw [b_v,Int.mul_comm,Int.ediv_ediv_of_nonneg (Int.le_of_lt (b_c i))]
      have e3:rnd (p33_r1 n) (0,(wrB x.2.2 b (off f j) v i,v / 2 ^ i)) ((((off f j + i) / 8 + skp x.2.2:Nat):Int),(((off f j + i) % 8:Nat):Int)) = some (true,(0,(wrB x.2.2 b (off f j) v (i + 1),v / 2 ^ (i + 1)))):=by
        show (p33_r1 n (wrB x.2.2 b (off f j) v i,v / 2 ^ i) ((((off f j + i) / 8 + skp x.2.2:Nat):Int),(((off f j + i) % 8:Nat):Int))).map (fun r=>(Nat.beq r.1 0,r)) = _
        rw [e1,e2];rfl
      rw [c_s hyes,ckS (by omega) (by omega),Option.bind_some,ckS (by omega) (by omega),Option.bind_some,← hm.2.1,ckS (by omega) (by omega),Option.bind_some,show ((off f j:Nat):Int) + (i:Int) = ((off f j + i:Nat):Int) by simp,quoS (by omega) (by omega) (by omega),Option.bind_some,ckS (by omega) (by omega),Option.bind_some,remS (by omega) (by omega) (by omega),Option.bind_some,show ((skp x.2.2:Nat):Int) + ((off f j + i:Nat):Int) / 8 = (((off f j + i) / 8 + skp x.2.2:Nat):Int) by omega,show ((off f j + i:Nat):Int) % 8 = (((off f j + i) % 8:Nat):Int) by simp,e3,Option.bind_some]
      rw [if_neg (show ¬ ((!true) = true) from by decide),ckS (by omega) (by omega),Option.bind_some,a_3]
      exact ih (i + 1) (by omega) (by omega)
    · have:i = (fS f).toNat:=by omega
      subst this
      have hno:¬ (((fS f).toNat:Nat):Int) < f.2.2.2.2.2.2.1:=by
        have h_:¬ (((fS f).toNat:Nat):Int) < fS f:=by omega
        exact h_
      rw [c_E hno]
theorem p33_eq {n:Nat} (hn:100 ≤ n) (x:Mpt) (f:Fd) (b:Sl Int) (j:Nat) (v:Int) (hb:Byts b.xs) (h:Elm x b.xs f j):p33 n x f b j v = some (wrB x.2.2 b.xs (off f j) v (fS f).toNat):=by
  have hs:=h.ok.1
  have h1:=p49_l1_wr n f x b.xs j v hb h n 0 (by omega) (by omega)
  rw [show ((0:Nat):Int) = 0 from rfl,show wrB x.2.2 b.xs (off f j) v 0 = b.xs from rfl,show v / 2 ^ 0 = v by rw [show (2:Int) ^ 0 = 1 from rfl,Int.ediv_one]] at h1
  have e46:p46 n x f (j:Int) = some (x,f,(j:Int)):=rfl
  unfold p33
  rw [e46,Option.bind_some]
  simp only
  unfold p49
  have ek:(if x.2.2 = true then some (1:Int) else some 0) = some ((skp x.2.2:Nat):Int):=by
    unfold skp;split <;> rfl
  rw [ek,Option.bind_some,h1,Option.bind_some,lrKl,Option.bind_some]
def e_A (f:Fd) (v:Int):Bool:=if fSg f = true then decide (-(2 ^ (fS f).toNat / 2) ≤ v ∧ v < 2 ^ (fS f).toNat / 2) else decide (0 ≤ v ∧ v < 2 ^ (fS f).toNat)
theorem emod_negS (v w:Int) (h0:-w ≤ v) (h1:v < 0):v % w = v + w:=by
  have e:v % w = (v + w) % w:=by rw [Int.add_emod_right]
  rw [e,Int.emod_eq_of_lt (by omega) (by omega)]
theorem sgn_fit {f:Fd} (hs:1 ≤ fS f) {v:Int} (h:e_A f v = true):sgn f (v % 2 ^ (fS f).toNat) = v:=by
  obtain ⟨q,hq⟩:∃ q,(fS f).toNat = q + 1:=⟨(fS f).toNat - 1,by omega⟩
  unfold sgn
  unfold e_A at h
  rw [hq,b_v] at h ⊢
  have hp:=b_c q
  have e2:(2:Int) * 2 ^ q / 2 = 2 ^ q:=by omega
  rw [e2] at h ⊢
  by_cases hg:fSg f = true
  · rw [if_pos hg,decide_eq_true_eq] at h
    rw [hg,Bool.true_and]
    by_cases hv:0 ≤ v
    · rw [Int.emod_eq_of_lt hv (by omega),c_E (by omega)]
    · have e:v % (2 * 2 ^ q) = v + 2 * 2 ^ q:=by
        have:=emod_negS v (2 * 2 ^ q)
        exact this (by omega) (by omega)
      rw [e,c_s (by omega)];omega
  · rw [if_neg hg,decide_eq_true_eq] at h
    rw [Bool.eq_false_iff.2 hg,Bool.false_and,if_neg (by decide),Int.emod_eq_of_lt h.1 h.2]
theorem shl_one {f:Fd} (hs:1 ≤ fS f ∧ fS f ≤ 32):c_J .i64 1 f.2.2.2.2.2.2.1 = some (2 ^ (fS f).toNat):=by
  have e:f.2.2.2.2.2.2.1 = (((fS f).toNat:Nat):Int):=by
    have:fS f = (((fS f).toNat:Nat):Int):=by omega
    exact this
  rw [e,c_g (by omega) (by decide) (by decide),Int.one_mul]
theorem p32_eq (n:Nat) (f:Fd) (v:Int) (hs:1 ≤ fS f ∧ fS f ≤ 32):p32 n f v = some (e_A f v):=by
  obtain ⟨q,hq⟩:∃ q,(fS f).toNat = q + 1:=⟨(fS f).toNat - 1,by omega⟩
  have hS:f.2.2.2.2.2.2.1 = ((q + 1:Nat):Int):=by
    have:fS f = ((q + 1:Nat):Int):=by omega
    exact this
  unfold p32 e_A
  by_cases hg:fSg f = true
  · have e2:(2:Int) ^ (fS f).toNat / 2 = 2 ^ q:=by rw [hq,b_v];omega
    rw [if_pos (show f.2.2.2.2.2.2.2.2.2.2.2.1 = true from hg),if_pos hg,e2,hS,ckS (by omega) (by omega),Option.bind_some,show (((q + 1:Nat):Int) - 1) = (q:Int) by omega,c_g (by omega) (by decide) (by decide),Option.bind_some,Option.bind_some,c_g (by omega) (by decide) (by decide),Option.bind_some,e_l fun _=>rfl,Option.bind_some,Bool.decide_and,Int.one_mul,show (-1:Int) * 2 ^ q = -2 ^ q by omega]
  · rw [if_neg (show ¬ f.2.2.2.2.2.2.2.2.2.2.2.1 = true from hg),if_neg hg,shl_one hs,Option.bind_some,e_l fun _=>rfl,Option.bind_some,Bool.decide_and]
end Go.Proofs.Ythknbcfelkljcaa
