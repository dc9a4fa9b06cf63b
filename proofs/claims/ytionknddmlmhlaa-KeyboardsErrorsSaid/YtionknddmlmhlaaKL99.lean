/- Plain theorems for the laws: what the plain functions say. No condition. -/
import Derived.Test.YtionknddmlmhlaaLB1
import Derived.Test.YtionknddmlmhlaaPeD
set_option linter.unusedVariables false
set_option linter.unusedSimpArgs false
namespace Go.Proofs.Ytionknddmlmhlaa
open Go.RowKit
theorem c_9 {α:Type} {xs:List α} {i:Nat} (h:i < xs.length):idx xs (i:Int) = some xs[i]:=by
  rw [idx_nat,List.getElem?_eq_getElem h]
theorem b_p {α:Type} (l:List α) (c:Option Nat):a_m (⟨l,c⟩:Sl α) = (l.length:Int):=rfl
theorem a_E {α:Type} (s:Sl α):a_m s = (s.xs.length:Int):=rfl
theorem a_U (k:Nat):((k:Int) + 1) = ((k + 1:Nat):Int):=by simp
theorem a_P {α:Type} {l:List α} {i:Nat} (h:i < l.length):l.drop i = l[i] :: l.drop (i + 1):=List.drop_eq_getElem_cons h
theorem d_u {α:Type} (l:List α) (cp:Option Nat):sl3I (⟨l,cp⟩:Sl α) 0 (a_m (⟨l,cp⟩:Sl α)) (a_m (⟨l,cp⟩:Sl α)) = some ⟨l,some l.length⟩:=by
  unfold sl3I
  rw [b_p,if_pos (show (0:Int) ≤ 0 ∧ (0:Int) ≤ (l.length:Int) ∧ (l.length:Int) ≤ (l.length:Int) ∧ (l.length:Int) ≤ (l.length:Int) by omega)]
  simp
theorem b_Z {α:Type} {p:Prop} [Decidable p] {a b:α} (h:p):(if decide p = true then a else b) = a:=by rw [decide_eq_true h];rfl
theorem c_f {α:Type} {p:Prop} [Decidable p] {a b:α} (h:¬ p):(if decide p = true then a else b) = b:=by rw [decide_eq_false h];rfl
theorem b_0 {b:Bool} {x:Option Bool} {c:Bool} (h:b = true → x = some c):(if b = true then x else some false) = some (b && c):=by cases b <;> simp at h ⊢;exact h
theorem orO {b:Bool} {x:Option Bool} {c:Bool} (h:b = false → x = some c):(if b = false then x else some true) = some (b || c):=by cases b <;> simp at h ⊢;exact h
theorem a_1 {α:Type} {a:List α} {x:α} (h:a.length ≤ 1000000):b_Y a [x] = some (a ++ [x]):=appI_ok (by rw [List.length_singleton];omega)
theorem e_F {α:Type} {xs:List α} {i:Int} (h0:0 ≤ i) (h1:i < (xs.length:Int)):idx xs i = some (xs[i.toNat]'(by omega)):=by
  unfold idx
  rw [if_pos h0,List.getElem?_eq_getElem]
abbrev Fd:=Int × Int × Int × (Sl (Int)) × Int × Int × Int × Int × Int × Bool × Bool × Bool × Bool
abbrev Mpt:=(Sl Fd) × (Sl (Int × Int × Int)) × Bool
@[reducible] def fS (f:Fd):Int:=f.2.2.2.2.2.2.1
@[reducible] def fC (f:Fd):Int:=f.2.2.2.2.2.2.2.1
@[reducible] def fA (f:Fd):Int:=f.2.2.2.2.2.2.2.2.1
@[reducible] def fLo (f:Fd):Int:=f.2.2.2.2.1
@[reducible] def fHi (f:Fd):Int:=f.2.2.2.2.2.1
@[reducible] def fU (f:Fd):Sl Int:=f.2.2.2.1
@[reducible] def fCo (f:Fd):Bool:=f.2.2.2.2.2.2.2.2.2.1
@[reducible] def fAr (f:Fd):Bool:=f.2.2.2.2.2.2.2.2.2.2.1
@[reducible] def fSg (f:Fd):Bool:=f.2.2.2.2.2.2.2.2.2.2.2.1
def okA (f:Fd):Prop:=(1 ≤ fS f ∧ fS f ≤ 32) ∧ 1 ≤ fC f ∧ fC f ≤ 256
instance (f:Fd):Decidable (okA f):=by unfold okA;infer_instance
theorem okA.mul {f:Fd} (h:okA f):1 ≤ fS f * fC f ∧ fS f * fC f ≤ 8192:=by
  obtain ⟨⟨h1,h2⟩,h3,h4⟩:=h
  constructor
  · have:=Int.mul_le_mul h1 h3 (by omega) (by omega);simpa using this
  · have:=Int.mul_le_mul h2 h4 (by omega) (by omega);simpa using this
theorem okA.mulr {f:Fd} (h:okA f):1 ≤ f.2.2.2.2.2.2.1 * f.2.2.2.2.2.2.2.1 ∧ f.2.2.2.2.2.2.1 * f.2.2.2.2.2.2.2.1 ≤ 8192:=h.mul
def cl (a x:Int):Int:=if 0 > (if a < x then a else x) then 0 else (if a < x then a else x)
theorem cl_id {a x:Int} (h0:0 ≤ x) (h1:x ≤ a):cl a x = x:=by
  unfold cl
  rw [if_neg (show ¬ a < x by omega),if_neg (by omega)]
theorem e_G (a x:Int) (ha:0 ≤ a):0 ≤ cl a x ∧ cl a x ≤ a:=by
  unfold cl
  split <;> split at * <;> omega
def mt (k r:Int) (f:Fd):Bool:=f.1 == k && f.2.1 == r
theorem mt_eq (k r:Int) (f:Fd):(if (f.1 == k) = true then some (f.2.1 == r) else some false) = some (mt k r f):=b_0 fun _=>rfl
def d_v (fs:List Fd) (k r:Int):Int:=((fs.filter (mt k r)).map fun f=>cl 32 (fS f) * cl 256 (fC f)).sum
def c_y (fs:List Fd) (k r:Int):Int:=((fs.filter (mt k r)).map fun f=>fS f * fC f).sum
theorem c_6 (f:Fd) (fs:List Fd) (k r:Int):d_v (f :: fs) k r = (if mt k r f = true then cl 32 (fS f) * cl 256 (fC f) else 0) + d_v fs k r:=by
  unfold d_v
  by_cases h:mt k r f = true
  · rw [List.filter_cons_of_pos h,if_pos h,List.map_cons,List.sum_cons]
  · rw [List.filter_cons_of_neg h,if_neg h,Int.zero_add]
theorem b_t (f:Fd) (fs:List Fd) (k r:Int):c_y (f :: fs) k r = (if mt k r f = true then fS f * fC f else 0) + c_y fs k r:=by
  unfold c_y
  by_cases h:mt k r f = true
  · rw [List.filter_cons_of_pos h,if_pos h,List.map_cons,List.sum_cons]
  · rw [List.filter_cons_of_neg h,if_neg h,Int.zero_add]
theorem e_H (fs:List Fd) (k r:Int):0 ≤ d_v fs k r ∧ d_v fs k r ≤ 8192 * (fs.length:Int):=by
  induction fs with
  | nil=>exact ⟨Int.le_refl _,Int.le_refl _⟩
  | cons f fs ih =>
    have h1:=e_G 32 (fS f) (by decide)
    have h2:=e_G 256 (fC f) (by decide)
    have h3:0 ≤ cl 32 (fS f) * cl 256 (fC f):=Int.mul_nonneg h1.1 h2.1
    have h4:cl 32 (fS f) * cl 256 (fC f) ≤ 8192:=by
      have:=Int.mul_le_mul h1.2 h2.2 h2.1 (by omega);simpa using this
    rw [c_6,List.length_cons]
    split <;> omega
theorem sumC_B {fs:List Fd} (h:∀ f ∈ fs,okA f) (k r:Int):d_v fs k r = c_y fs k r:=by
  induction fs with
  | nil=>rfl
  | cons f fs ih =>
    have ha:=h f (by simp)
    rw [c_6,b_t,ih fun g hg=>h g (by simp [hg])]
    obtain ⟨⟨a1,a2⟩,a3,a4⟩:=ha
    rw [cl_id (by omega) a2,cl_id (by omega) a4]
def c_c (fs:List Fd) (k r:Int):Bool:=fs.any (mt k r)
def b_1 (m:Mpt) (k r:Int):Int:=(d_v m.1.xs k r + 7) / 8 + (if (c_c m.1.xs k r && m.2.2) = true then 1 else 0)
theorem p32_l1_eq (n:Nat) (x:Mpt) (k r:Int) (hl:x.1.xs.length ≤ 1000):∀ (m i:Nat) (b:Bool) (s:Int),x.1.xs.length - i < m → i ≤ x.1.xs.length → 0 ≤ s → s ≤ 8192 * (i:Int) →
    p32_l1 n x k r m i b s = some (s + d_v (x.1.xs.drop i) k r,b || c_c (x.1.xs.drop i) k r):=by
  intro m
  induction m with
  | zero=>intro i b s hm;exact absurd hm (by omega)
  | succ m ih =>
    intro i b s hm hi h0 h1
    rw [p32_l1,a_E]
    by_cases hlt:i < x.1.xs.length
    · rw [b_Z (by omega),c_9 hlt,Option.bind_some,mt_eq,Option.bind_some,a_P hlt,c_6]
      generalize x.1.xs[i] = f
      have h2:=e_G 32 (fS f) (by decide)
      have h3:=e_G 256 (fC f) (by decide)
      have h4:0 ≤ cl 32 (fS f) * cl 256 (fC f):=Int.mul_nonneg h2.1 h3.1
      have h5:cl 32 (fS f) * cl 256 (fC f) ≤ 8192:=by
        have:=Int.mul_le_mul h2.2 h3.2 h3.1 (by omega);simpa using this
      by_cases hm':mt k r f = true
      · have e1:(ckI .i64 ((if 0 > (if 32 < f.2.2.2.2.2.2.1 then 32 else f.2.2.2.2.2.2.1) then 0 else (if 32 < f.2.2.2.2.2.2.1 then 32 else f.2.2.2.2.2.2.1)) * (if 0 > (if 256 < f.2.2.2.2.2.2.2.1 then 256 else f.2.2.2.2.2.2.2.1) then 0 else (if 256 < f.2.2.2.2.2.2.2.1 then 256 else f.2.2.2.2.2.2.2.1)))) = some (cl 32 (fS f) * cl 256 (fC f)):=ckS (by show _ ≤ cl 32 (fS f) * cl 256 (fC f);omega) (by show cl 32 (fS f) * cl 256 (fC f) ≤ _;omega)
        rw [if_pos hm',if_pos hm',e1,Option.bind_some,ckS (by omega) (by omega),Option.bind_some,Option.bind_some,ckS (by omega) (by omega),Option.bind_some,a_U,ih (i + 1) _ _ (by omega) (by omega) (by omega) (by omega)]
        refine congrArg some (Prod.ext (by simp only;omega) ?_)
        simp [c_c,hm']
      · rw [if_neg hm',if_neg hm',Option.bind_some,ckS (by omega) (by omega),Option.bind_some,a_U,ih (i + 1) _ _ (by omega) (by omega) (by omega) (by omega)]
        refine congrArg some (Prod.ext (by simp only;omega) ?_)
        simp [c_c,hm']
    · rw [c_f (by omega),List.drop_eq_nil_of_le (by omega)]
      refine congrArg some (Prod.ext (by simp [d_v]) (by simp [c_c]))
theorem p32_eq {n:Nat} (hn:1100 ≤ n) (x:Mpt) (k r:Int) (hl:x.1.xs.length ≤ 1000):p32 n x k r = some (b_1 x k r):=by
  have h:=p32_l1_eq n x k r hl n 0 false 0 (by omega) (by omega) (by omega) (by omega)
  have hr:=e_H x.1.xs k r
  rw [List.drop_zero,Int.zero_add,Bool.false_or] at h
  unfold p32 b_1
  rw [show ((0:Nat):Int) = 0 from rfl] at h
  rw [h,Option.bind_some]
  simp only
  rw [ckS (by omega) (by omega),Option.bind_some,quoS (by omega) (by omega) (by omega),Option.bind_some,b_0 fun _=>rfl,Option.bind_some]
  split
  · rw [ckS (by omega) (by omega)];rfl
  · rw [Option.bind_some,Int.add_zero]
def okB (m:Mpt) (f:Fd):Prop:=0 ≤ fA f ∧ fA f + fS f * fC f ≤ 4096 ∧ (fLo f ≤ fHi f ∧ -2147483648 ≤ fLo f ∧ fHi f ≤ 4294967295) ∧ (fCo f = true ∨ 0 < (fU f).xs.length) ∧ fA f + fS f * fC f ≤ (d_v m.1.xs f.1 f.2.1 + 7) / 8 * 8
instance (m:Mpt) (f:Fd):Decidable (okB m f):=by unfold okB;infer_instance
def Pall (m:Mpt) (l:List Fd):Prop:=∀ f ∈ l,okA f ∧ okB m f
instance (m:Mpt) (l:List Fd):Decidable (Pall m l):=by unfold Pall;infer_instance
def Ppr (m:Mpt):Prop:=Pall m m.1.xs
instance (m:Mpt):Decidable (Ppr m):=by unfold Ppr;infer_instance
theorem mt_self (f:Fd):mt f.1 f.2.1 f = true:=by simp [mt]
theorem e_I {fs:List Fd} {f:Fd} (h:f ∈ fs):c_c fs f.1 f.2.1 = true:=List.any_eq_true.2 ⟨f,h,mt_self f⟩
theorem p45_eq (n:Nat) (f:Fd):p45 n f = some (decide (okA f)):=by
  unfold p45 okA
  rw [b_0 fun _=>rfl,Option.bind_some,b_0 fun _=>rfl,Option.bind_some,b_0 fun _=>rfl,Option.bind_some]
  refine congrArg some ?_
  by_cases h1:1 ≤ fS f <;> by_cases h2:fS f ≤ 32 <;> by_cases h3:1 ≤ fC f <;> by_cases h4:fC f ≤ 256 <;> simp [h1,h2,h3,h4]
theorem p46_eq (n:Nat) (f:Fd) (h:okA f):p46 n f = some (decide (0 ≤ fA f ∧ fA f + fS f * fC f ≤ 4096)):=by
  have hm:=h.mulr
  unfold p46
  rw [ckS (by omega) (by omega),Option.bind_some,ckS (by omega) (by omega),Option.bind_some,b_0 fun _=>rfl,Option.bind_some]
  refine congrArg some ?_
  rw [Bool.decide_and]
  have e:(f.2.2.2.2.2.2.2.2.1 ≤ 4096 - f.2.2.2.2.2.2.1 * f.2.2.2.2.2.2.2.1) ↔ (fA f + fS f * fC f ≤ 4096):=by
    show f.2.2.2.2.2.2.2.2.1 ≤ 4096 - f.2.2.2.2.2.2.1 * f.2.2.2.2.2.2.2.1 ↔ f.2.2.2.2.2.2.2.2.1 + f.2.2.2.2.2.2.1 * f.2.2.2.2.2.2.2.1 ≤ 4096
    omega
  rw [decide_eq_decide.2 e]
theorem p47_eq (n:Nat) (f:Fd):p47 n f = some (decide (fLo f ≤ fHi f ∧ -2147483648 ≤ fLo f ∧ fHi f ≤ 4294967295)):=by
  unfold p47
  rw [b_0 fun _=>rfl,Option.bind_some,b_0 fun _=>rfl,Option.bind_some]
  refine congrArg some ?_
  by_cases h1:fLo f ≤ fHi f <;> by_cases h2:-2147483648 ≤ fLo f <;> by_cases h3:fHi f ≤ 4294967295 <;> simp [h1,h2,h3]
theorem p48_eq (n:Nat) (f:Fd):p48 n f = some (decide (fCo f = true ∨ 0 < (fU f).xs.length)):=by
  unfold p48
  rw [orO fun _=>rfl,Option.bind_some,a_E]
  refine congrArg some ?_
  have e:(((fU f).xs.length:Int) > 0) ↔ 0 < (fU f).xs.length:=by omega
  by_cases h1:fCo f = true <;> by_cases h2:0 < (fU f).xs.length <;> simp [h1,h2]
theorem p49_eq {n:Nat} (hn:1100 ≤ n) (x:Mpt) (hl:x.1.xs.length ≤ 1000) (f:Fd) (hf:f ∈ x.1.xs) (h:okA f) (h2:0 ≤ fA f ∧ fA f + fS f * fC f ≤ 4096):p49 n f x = some (decide (fA f + fS f * fC f ≤ (d_v x.1.xs f.1 f.2.1 + 7) / 8 * 8)):=by
  have hm:=h.mulr
  have h2:0 ≤ f.2.2.2.2.2.2.2.2.1 ∧ f.2.2.2.2.2.2.2.2.1 + f.2.2.2.2.2.2.1 * f.2.2.2.2.2.2.2.1 ≤ 4096:=h2
  have hr:=e_H x.1.xs f.1 f.2.1
  have e39:p50 n x f = some ((d_v x.1.xs f.1 f.2.1 + 7) / 8 * 8):=by
    unfold p50
    rw [p32_eq hn x _ _ hl,Option.bind_some]
    unfold b_1
    rw [e_I hf,Bool.true_and]
    by_cases hb:x.2.2 = true
    · rw [if_pos hb,ckS (by omega) (by omega),Option.bind_some,if_pos hb,ckS (by omega) (by omega),Option.bind_some,Option.bind_some]
      refine congrArg some ?_
      omega
    · rw [if_neg hb,ckS (by omega) (by omega),Option.bind_some,if_neg hb,Option.bind_some]
      refine congrArg some ?_
      omega
  unfold p49
  rw [ckS (by omega) (by omega),Option.bind_some,ckS (by omega) (by omega),Option.bind_some,e39,Option.bind_some]
theorem p30_l1_eq {n:Nat} (hn:1100 ≤ n) (x:Mpt) (hl:x.1.xs.length ≤ 1000):∀ (m i:Nat),x.1.xs.length - i < m → i ≤ x.1.xs.length → p30_l1 n x m i = some (if Pall x (x.1.xs.drop i) then .inl () else .inr false):=by
  intro m
  induction m with
  | zero=>intro i hm;exact absurd hm (by omega)
  | succ m ih =>
    intro i hm hi
    rw [p30_l1,a_E]
    by_cases hlt:i < x.1.xs.length
    · have hmem:x.1.xs[i] ∈ x.1.xs:=List.getElem_mem hlt
      rw [b_Z (by omega),c_9 hlt,Option.bind_some,a_P hlt]
      generalize x.1.xs[i] = f at hmem
      have no:∀ {b:Bool} {e:Option (Unit ⊕ Bool)},(b = false) → (¬ (okA f ∧ okB x f)) → (if (!b) = true then some (.inr false) else e) = some (if Pall x (f :: x.1.xs.drop (i + 1)) then .inl () else .inr false):=by
        intro b e hb hno
        rw [hb,if_pos (show (!false) = true from rfl),if_neg (fun h=>hno (h f (by simp)))]
      have yes:∀ {b:Bool} {e:Option (Unit ⊕ Bool)},b = true → (if (!b) = true then some (.inr false) else e) = e:=by
        intro b e hb
        rw [hb];rfl
      rw [p45_eq,Option.bind_some]
      by_cases h1:okA f
      · rw [yes (decide_eq_true h1),p46_eq n f h1,Option.bind_some]
        by_cases h2:0 ≤ fA f ∧ fA f + fS f * fC f ≤ 4096
        · rw [yes (decide_eq_true h2),p47_eq,Option.bind_some]
          by_cases h3:fLo f ≤ fHi f ∧ -2147483648 ≤ fLo f ∧ fHi f ≤ 4294967295
          · rw [yes (decide_eq_true h3),p48_eq,Option.bind_some]
            by_cases h4:fCo f = true ∨ 0 < (fU f).xs.length
            · rw [yes (decide_eq_true h4),p49_eq hn x hl f hmem h1 h2,Option.bind_some]
              by_cases h5:fA f + fS f * fC f ≤ (d_v x.1.xs f.1 f.2.1 + 7) / 8 * 8
              · rw [yes (decide_eq_true h5),ckS (by omega) (by omega),Option.bind_some,a_U,ih (i + 1) (by omega) (by omega)]
                refine congrArg some ?_
                by_cases h6:Pall x (x.1.xs.drop (i + 1))
                · rw [if_pos h6,if_pos]
                  intro g hg
                  rcases List.mem_cons.1 hg with rfl | hg
                  · exact ⟨h1,h2.1,h2.2,h3,h4,h5⟩
                  · exact h6 g hg
                · rw [if_neg h6,if_neg (fun q=>h6 fun g hg=>q g (by simp [hg]))]
              · exact no (decide_eq_false h5) fun q=>h5 q.2.2.2.2.2
            · exact no (decide_eq_false h4) fun q=>h4 q.2.2.2.2.1
          · exact no (decide_eq_false h3) fun q=>h3 q.2.2.2.1
        · exact no (decide_eq_false h2) fun q=>h2 ⟨q.2.1,q.2.2.1⟩
      · exact no (decide_eq_false h1) fun q=>h1 q.1
    · rw [c_f (by omega),List.drop_eq_nil_of_le (by omega),if_pos (show Pall x [] from fun g hg=>absurd hg List.not_mem_nil)]
theorem p30_eq {n:Nat} (hn:1100 ≤ n) (x:Mpt) (hl:x.1.xs.length ≤ 1000):p30 n x = some (decide (Ppr x)):=by
  have h:=p30_l1_eq hn x hl n 0 (by omega) (by omega)
  rw [show ((0:Nat):Int) = 0 from rfl,List.drop_zero] at h
  unfold p30
  rw [h,Option.bind_some]
  by_cases hp:Ppr x
  · rw [if_pos (show Pall x x.1.xs from hp),lrKl,decide_eq_true hp]
  · rw [if_neg (show ¬ Pall x x.1.xs from hp),lrKr,decide_eq_false hp]
theorem c_E {x:Int} (h0:-9223372036854775808 ≤ x) (h1:x ≤ 9223372036854775807):IntKind.wrap .i64 x = x:=(a_l (ckS h0 h1)).2.2
theorem and_u8_1 {y:Int} (h0:0 ≤ y) (h1:y ≤ 255):a_k .and .u8 y 1 = y % 2:=by
  obtain ⟨a,rfl⟩:=Int.eq_ofNat_of_zero_le h0
  unfold a_k
  simp only
  have e:(BitVec.ofInt 8 (a:Int) &&& BitVec.ofInt 8 1).toNat = a % 2:=by
    rw [BitVec.toNat_and]
    have e1:(BitVec.ofInt 8 (a:Int)).toNat = a:=by
      rw [BitVec.toNat_ofInt];omega
    have e2:(BitVec.ofInt 8 1).toNat = 1:=by decide
    rw [e1,e2,Nat.and_one_is_mod]
  rw [show IntKind.bits .u8 = 8 from rfl,e,wrap_u8]
  omega
theorem or_i64 {a c:Int} {i:Nat} (hi:i ≤ 40) (h0:0 ≤ a) (h1:a < 2 ^ i) (hc0:0 ≤ c) (hc:c ≤ 1):a_k .or .i64 a (c * 2 ^ i) = a + c * 2 ^ i:=by
  obtain ⟨a,rfl⟩:=Int.eq_ofNat_of_zero_le h0
  obtain ⟨c,rfl⟩:=Int.eq_ofNat_of_zero_le hc0
  have hp:(2:Nat) ^ i ≤ 2 ^ 40:=Nat.pow_le_pow_right (by decide) hi
  have h1:a < 2 ^ i:=by
    have:((2 ^ i:Nat):Int) = (2:Int) ^ i:=by simp
    omega
  have hc:c ≤ 1:=by omega
  have hcp:c * 2 ^ i ≤ 2 ^ 40:=by
    have:=Nat.mul_le_mul_right (2 ^ i) hc
    omega
  have e0:((c:Int) * 2 ^ i) = ((c * 2 ^ i:Nat):Int):=by simp
  rw [e0]
  unfold a_k
  simp only
  rw [show IntKind.bits .i64 = 64 from rfl]
  have nat:∀ z:Nat,z ≤ 2 ^ 41 → (BitVec.ofInt 64 (z:Int)).toNat = z:=by
    intro z hz
    rw [BitVec.toNat_ofInt]
    omega
  have e:(BitVec.ofInt 64 ((a:Nat):Int) ||| BitVec.ofInt 64 ((c * 2 ^ i:Nat):Int)).toNat = a + c * 2 ^ i:=by
    rw [BitVec.toNat_or,nat a (by omega),nat (c * 2 ^ i) (by omega),Nat.or_comm,Nat.mul_comm,← Nat.two_pow_add_eq_or_of_lt h1]
    omega
  rw [e,c_E (by omega) (by omega)]
  omega
theorem d_w {x:Int} {i:Nat} (hi:i ≤ 40) (h0:-1 ≤ x) (h1:x ≤ 1):d_D .i64 x (i:Int) = some (x * 2 ^ i):=by
  have hp:(2:Int) ^ i ≤ 2 ^ 40:=by
    have:(2:Nat) ^ i ≤ 2 ^ 40:=Nat.pow_le_pow_right (by decide) hi
    have e:((2 ^ i:Nat):Int) = (2:Int) ^ i:=by simp
    omega
  have hp0:(0:Int) ≤ 2 ^ i:=Int.pow_nonneg (by decide)
  unfold d_D
  rw [if_pos (by omega)]
  have e:min ((i:Int)).toNat (IntKind.bits .i64) = i:=by
    rw [show IntKind.bits .i64 = 64 from rfl];omega
  rw [e]
  refine congrArg some ?_
  rcases (show x = -1 ∨ x = 0 ∨ x = 1 by omega) with rfl | rfl | rfl
  · exact c_E (by omega) (by omega)
  · exact c_E (by omega) (by omega)
  · exact c_E (by omega) (by omega)
theorem shr_u8 {y:Int} {i:Nat} (hi:i ≤ 8):f_a y (i:Int) .u8 = some (y / 2 ^ i):=by
  unfold f_a
  rw [if_pos (by omega)]
  have e:min ((i:Int)).toNat (IntKind.bits .u8) = i:=by
    rw [show IntKind.bits .u8 = 8 from rfl];omega
  rw [e,Int.fdiv_eq_ediv_of_nonneg _ (Int.pow_nonneg (by decide))]
theorem shr_i64 {y:Int} {i:Nat} (hi:i ≤ 64):f_a y (i:Int) .i64 = some (y / 2 ^ i):=by
  unfold f_a
  rw [if_pos (by omega)]
  have e:min ((i:Int)).toNat (IntKind.bits .i64) = i:=by
    rw [show IntKind.bits .i64 = 64 from rfl];omega
  rw [e,Int.fdiv_eq_ediv_of_nonneg _ (Int.pow_nonneg (by decide))]
theorem b_A (i:Nat):(0:Int) < 2 ^ i:=Int.pow_pos (by decide)
theorem d_X (i:Nat):(2:Int) ^ (i + 1) = 2 * 2 ^ i:=by rw [Int.pow_succ,Int.mul_comm]
theorem e_j {i j:Nat} (h:i ≤ j):(2:Int) ^ i ≤ 2 ^ j:=by
  have:(2:Nat) ^ i ≤ 2 ^ j:=Nat.pow_le_pow_right (by decide) h
  have e:((2 ^ i:Nat):Int) = (2:Int) ^ i:=by simp
  have e':((2 ^ j:Nat):Int) = (2:Int) ^ j:=by simp
  omega
def byt (b:List Int) (i:Nat):Int:=b.getD i 0
def skp (nb:Bool):Nat:=if nb = true then 1 else 0
def bt (nb:Bool) (b:List Int) (p:Nat):Int:=byt b (p / 8 + skp nb) / 2 ^ (p % 8) % 2
def Byts (b:List Int):Prop:=∀ y ∈ b,0 ≤ y ∧ y ≤ 255
theorem byt_of {b:List Int} {i:Nat} (h:i < b.length):idx b (i:Int) = some (byt b i):=by
  rw [c_9 h]
  unfold byt
  rw [List.getD_eq_getElem?_getD,List.getElem?_eq_getElem h];rfl
theorem Byts.rng {b:List Int} (h:Byts b) (i:Nat):0 ≤ byt b i ∧ byt b i ≤ 255:=by
  unfold byt
  by_cases hi:i < b.length
  · rw [List.getD_eq_getElem?_getD,List.getElem?_eq_getElem hi];exact h _ (List.getElem_mem hi)
  · rw [List.getD_eq_getElem?_getD,List.getElem?_eq_none (by omega)];exact ⟨by decide,by decide⟩
theorem bt_rng (nb:Bool) (b:List Int) (p:Nat):0 ≤ bt nb b p ∧ bt nb b p ≤ 1:=by unfold bt;omega
theorem div_rng {y:Int} (h0:0 ≤ y) (h1:y ≤ 255) (i:Nat):0 ≤ y / 2 ^ i ∧ y / 2 ^ i ≤ 255 :=
  ⟨Int.ediv_nonneg h0 (Int.le_of_lt (b_A i)),Int.le_trans (Int.ediv_le_self _ h0) h1⟩
def num (nb:Bool) (b:List Int) (off:Nat):Nat → Int
  | 0=>0
  | i + 1=>num nb b off i + bt nb b (off + i) * 2 ^ i
theorem e_k (nb:Bool) (b:List Int) (off:Nat):∀ i,0 ≤ num nb b off i ∧ num nb b off i < 2 ^ i
  | 0=>⟨Int.le_refl _,by show (0:Int) < 1;decide⟩
  | i + 1=>by
    have h:=e_k nb b off i
    have hb:=bt_rng nb b (off + i)
    have hp:=b_A i
    rw [d_X]
    show 0 ≤ num nb b off i + bt nb b (off + i) * 2 ^ i ∧ num nb b off i + bt nb b (off + i) * 2 ^ i < 2 * 2 ^ i
    rcases (show bt nb b (off + i) = 0 ∨ bt nb b (off + i) = 1 by omega) with e | e
    · rw [e];omega
    · rw [e];omega
def sgn (f:Fd) (v:Int):Int:=if (fSg f && decide (2 ^ (fS f).toNat / 2 ≤ v)) = true then v - 2 ^ (fS f).toNat else v
def off (f:Fd) (j:Nat):Nat:=(fA f).toNat + j * (fS f).toNat
def e_l (m:Mpt) (b:List Int) (f:Fd) (j:Nat):Int:=sgn f (num m.2.2 b (off f j) (fS f).toNat)
structure Elm (m:Mpt) (b:List Int) (f:Fd) (j:Nat):Prop where
  ok:okA f
  at0:0 ≤ fA f
  atm:fA f + fS f * fC f ≤ 4096
  lt:(j:Int) < fC f
  len:∀ i:Nat,i < (fS f).toNat → (off f j + i) / 8 + skp m.2.2 < b.length
theorem Elm.mul {m:Mpt} {b:List Int} {f:Fd} {j:Nat} (h:Elm m b f j):(0 ≤ (j:Int) * f.2.2.2.2.2.2.1 ∧ (j:Int) * f.2.2.2.2.2.2.1 ≤ 8192) ∧ (((off f j:Nat):Int) = f.2.2.2.2.2.2.2.2.1 + (j:Int) * f.2.2.2.2.2.2.1 ∧ off f j ≤ 5000):=by
  obtain ⟨⟨⟨h1,h2⟩,h3,h4⟩,h5,h6,h7,_⟩:=h
  obtain ⟨S,hS⟩:=Int.eq_ofNat_of_zero_le (show 0 ≤ fS f by omega)
  obtain ⟨A,hA⟩:=Int.eq_ofNat_of_zero_le h5
  obtain ⟨C,hC⟩:=Int.eq_ofNat_of_zero_le (show 0 ≤ fC f by omega)
  have e1:f.2.2.2.2.2.2.1 = (S:Int):=hS
  have e2:f.2.2.2.2.2.2.2.2.1 = (A:Int):=hA
  rw [hS,hC,hA] at h6
  rw [hS] at h2
  rw [hC] at h4 h7
  have hj:j * S ≤ 256 * 32:=Nat.mul_le_mul (by omega) (by omega)
  have hj2:j * S ≤ S * C:=by rw [Nat.mul_comm S C];exact Nat.mul_le_mul (by omega) (Nat.le_refl _)
  have e3:((j:Int) * (S:Int)) = ((j * S:Nat):Int):=by simp
  have e4:((S:Int) * (C:Int)) = ((S * C:Nat):Int):=by simp
  have eo:off f j = A + j * S:=by
    unfold off
    rw [hS,hA];simp
  rw [e1,e2,e3,eo]
  rw [e4] at h6
  exact ⟨⟨by omega,by omega⟩,by simp,by omega⟩
theorem p61_l1_eq (n:Nat) (f:Fd) (x:Mpt) (b:Sl Int) (j:Nat) (hb:Byts b.xs) (h:Elm x b.xs f j):∀ (m i:Nat),(fS f).toNat - i < m → i ≤ (fS f).toNat →
    p61_l1 n (Nat × (Int × Int)) f j (rnd (p38_r1 n b)) (skp x.2.2:Nat) m i (0,(num x.2.2 b.xs (off f j) i,(i:Int))) = some (.inl (0,(num x.2.2 b.xs (off f j) (fS f).toNat,(((fS f).toNat:Nat):Int)))):=by
  have hm:=h.mul
  have hs:=h.ok.1
  have hs':1 ≤ f.2.2.2.2.2.2.1 ∧ f.2.2.2.2.2.2.1 ≤ 32:=hs
  have hk:skp x.2.2 ≤ 1:=by unfold skp;split <;> omega
  intro m
  induction m with
  | zero=>intro i hm;exact absurd hm (by omega)
  | succ m ih =>
    intro i hi1 hi2
    rw [p61_l1]
    by_cases hlt:i < (fS f).toNat
    · have hyes:(i:Int) < f.2.2.2.2.2.2.1:=by
        have h_:(i:Int) < fS f:=by omega
        exact h_
      have hl:=h.len i hlt
      have hn:=e_k x.2.2 b.xs (off f j) i
      have hbt:=bt_rng x.2.2 b.xs (off f j + i)
      have hr:=hb.rng ((off f j + i) / 8 + skp x.2.2)
      have hd:=div_rng hr.1 hr.2 ((off f j + i) % 8)
      have e1:p38_r1 n b (num x.2.2 b.xs (off f j) i,(i:Int)) ((((off f j + i) / 8 + skp x.2.2:Nat):Int),(((off f j + i) % 8:Nat):Int)) = some (0,(num x.2.2 b.xs (off f j) (i + 1),((i + 1:Nat):Int))):=by
        unfold p38_r1
        simp only
        rw [byt_of hl,Option.bind_some,shr_u8 (by omega),Option.bind_some,and_u8_1 hd.1 hd.2]
        have e2:byt b.xs ((off f j + i) / 8 + skp x.2.2) / 2 ^ ((off f j + i) % 8) % 2 = bt x.2.2 b.xs (off f j + i):=rfl
        rw [e2,d_w (by omega) (by omega) (by omega),Option.bind_some,ckS (by omega) (by omega),Option.bind_some,or_i64 (by omega) hn.1 hn.2 hbt.1 hbt.2,a_U]
        rfl
      have e3:rnd (p38_r1 n b) (0,(num x.2.2 b.xs (off f j) i,(i:Int))) ((((off f j + i) / 8 + skp x.2.2:Nat):Int),(((off f j + i) % 8:Nat):Int)) = some (true,(0,(num x.2.2 b.xs (off f j) (i + 1),((i + 1:Nat):Int)))):=by
        show (p38_r1 n b (num x.2.2 b.xs (off f j) i,(i:Int)) ((((off f j + i) / 8 + skp x.2.2:Nat):Int),(((off f j + i) % 8:Nat):Int))).map (fun r=>(Nat.beq r.1 0,r)) = _
        rw [e1];rfl
      rw [b_Z hyes,ckS (by omega) (by omega),Option.bind_some,ckS (by omega) (by omega),Option.bind_some,← hm.2.1,ckS (by omega) (by omega),Option.bind_some,show ((off f j:Nat):Int) + (i:Int) = ((off f j + i:Nat):Int) by simp,quoS (by omega) (by omega) (by omega),Option.bind_some,ckS (by omega) (by omega),Option.bind_some,remS (by omega) (by omega) (by omega),Option.bind_some,show ((skp x.2.2:Nat):Int) + ((off f j + i:Nat):Int) / 8 = (((off f j + i) / 8 + skp x.2.2:Nat):Int) by omega,show ((off f j + i:Nat):Int) % 8 = (((off f j + i) % 8:Nat):Int) by simp,e3,Option.bind_some]
      rw [if_neg (show ¬ ((!true) = true) from by decide),ckS (by omega) (by omega),Option.bind_some,a_U]
      exact ih (i + 1) (by omega) (by omega)
    · have:i = (fS f).toNat:=by omega
      subst this
      have hno:¬ (((fS f).toNat:Nat):Int) < f.2.2.2.2.2.2.1:=by
        have h_:¬ (((fS f).toNat:Nat):Int) < fS f:=by omega
        exact h_
      rw [c_f hno]
theorem p38_eq {n:Nat} (hn:100 ≤ n) (x:Mpt) (f:Fd) (b:Sl Int) (j:Nat) (hb:Byts b.xs) (h:Elm x b.xs f j):p38 n x f b j = some (e_l x b.xs f j):=by
  have hs:=h.ok.1
  have hs':1 ≤ f.2.2.2.2.2.2.1 ∧ f.2.2.2.2.2.2.1 ≤ 32:=hs
  have h1:=p61_l1_eq n f x b j hb h n 0 (by omega) (by omega)
  have hr:=e_k x.2.2 b.xs (off f j) (fS f).toNat
  have hp:=e_j (show (fS f).toNat ≤ 40 by omega)
  have hp0:=b_A (fS f).toNat
  obtain ⟨q,hq⟩:∃ q,(fS f).toNat = q + 1:=⟨(fS f).toNat - 1,by omega⟩
  have hS:f.2.2.2.2.2.2.1 = ((q + 1:Nat):Int):=by
    have:fS f = ((q + 1:Nat):Int):=by omega
    exact this
  rw [show ((0:Nat):Int) = 0 from rfl,show num x.2.2 b.xs (off f j) 0 = 0 from rfl] at h1
  have e46:p56 n x f (j:Int) = some (x,f,(j:Int)):=rfl
  have e49:p61 n x f (j:Int) (Nat × (Int × Int)) (rnd (p38_r1 n b)) (0,(0,0)) = some (0,(num x.2.2 b.xs (off f j) (fS f).toNat,(((fS f).toNat:Nat):Int))):=by
    unfold p61
    have ek:(if x.2.2 = true then some (1:Int) else some 0) = some ((skp x.2.2:Nat):Int):=by
      unfold skp;split <;> rfl
    rw [ek,Option.bind_some,h1,Option.bind_some,lrKl]
  unfold p38
  rw [e46,Option.bind_some]
  simp only
  rw [e49,Option.bind_some]
  simp only
  have e1:(ckI .i64 (f.2.2.2.2.2.2.1 - 1)).bind (fun x_144=>(f_a (num x.2.2 b.xs (off f j) (fS f).toNat) x_144 .i64).bind fun x_145=>some (x_145 == 1)) = some (decide (2 ^ (fS f).toNat / 2 ≤ num x.2.2 b.xs (off f j) (fS f).toNat)):=by
    rw [hS,ckS (by omega) (by omega),Option.bind_some,show (((q + 1:Nat):Int) - 1) = (q:Int) by omega,shr_i64 (by omega),Option.bind_some]
    refine congrArg some ?_
    have hpq:=b_A q
    have hq2:(2:Int) ^ (fS f).toNat = 2 * 2 ^ q:=by rw [hq,d_X]
    have ed:(2:Int) ^ (fS f).toNat / 2 = 2 ^ q:=by rw [hq2];omega
    rw [ed]
    rw [hq2] at hr
    generalize num x.2.2 b.xs (off f j) (fS f).toNat = v at hr
    by_cases hv:(2:Int) ^ q ≤ v
    · rw [decide_eq_true hv,beq_iff_eq]
      have h2:v / 2 ^ q = (v - 2 ^ q) / 2 ^ q + 1:=by
        have:=Int.add_ediv_of_dvd_right (a:=v - 2 ^ q) (Int.dvd_refl (2 ^ q))
        rw [Int.ediv_self (by omega)] at this
        rw [← this]
        congr 1
        omega
      rw [h2,Int.ediv_eq_zero_of_lt (by omega) (by omega)]
      rfl
    · rw [decide_eq_false hv,Int.ediv_eq_zero_of_lt (by omega) (by omega)]
      rfl
  rw [b_0 fun _=>e1,Option.bind_some]
  unfold e_l sgn
  split
  · rw [hS,d_w (by omega) (by omega) (by omega),Option.bind_some,Int.one_mul]
    rw [hq] at hr hp ⊢
    rw [ckS (by omega) (by omega)];rfl
  · rfl
section
end
def Aall (l:List Fd):Prop:=∀ f ∈ l,okA f
instance (l:List Fd):Decidable (Aall l):=by unfold Aall;infer_instance
def Ball (x:Mpt) (l:List Fd):Prop:=∀ f ∈ l,okB x f
instance (x:Mpt) (l:List Fd):Decidable (Ball x l):=by unfold Ball;infer_instance
def hld (f:Fd) (j:Nat) (v:Int):Option (Int × Int) :=
  if fCo f = true ∨ v < fLo f ∨ v > fHi f then .none
  else if fAr f = true then ((fU f).xs[(v - fLo f).toNat]?).map fun u=>(u,1)
  else ((fU f).xs[min j ((fU f).xs.length - 1)]?).map fun u=>(u,v)
def hldR (o:Option (Int × Int)):Int × Int × Bool:=match o with | some (u,w)=>(u,w,true) | none=>(0,0,false)
theorem p37_eq (n:Nat) (x:Mpt) (f:Fd) (hB:okB x f) (j:Nat) (hj:j ≤ 1000) (hU:(fU f).xs.length ≤ 9223372036854775807) (v:Int):p37 n f j v = some (hldR (hld f j v)):=by
  obtain ⟨_,_,⟨b3,b4,b5⟩,b6,_⟩:=hB
  unfold p37 hld
  rw [orO fun _=>rfl,Option.bind_some,orO fun _=>rfl,Option.bind_some]
  by_cases h0:fCo f = true ∨ v < fLo f ∨ v > fHi f
  · have hq:((f.2.2.2.2.2.2.2.2.2.1 || decide (v < f.2.2.2.2.1)) || decide (v > f.2.2.2.2.2.1)) = true:=by
      rcases h0 with h | h | h
      · have h:f.2.2.2.2.2.2.2.2.2.1 = true:=h
        rw [h];rfl
      · have h:v < f.2.2.2.2.1:=h
        rw [decide_eq_true h,Bool.or_true,Bool.true_or]
      · have h:v > f.2.2.2.2.2.1:=h
        rw [decide_eq_true h,Bool.or_true]
    rw [hq,if_neg (by decide),Option.bind_some,if_pos rfl,if_pos h0]
    rfl
  · have hc:¬ fCo f = true:=fun q=>h0 (.inl q)
    have h1:¬ v < fLo f:=fun q=>h0 (.inr (.inl q))
    have h2:¬ v > fHi f:=fun q=>h0 (.inr (.inr q))
    have hlen:0 < (fU f).xs.length:=b6.resolve_left hc
    have hq:((f.2.2.2.2.2.2.2.2.2.1 || decide (v < f.2.2.2.2.1)) || decide (v > f.2.2.2.2.2.1)) = false:=by
      have hc:f.2.2.2.2.2.2.2.2.2.1 = false:=Bool.eq_false_iff.2 hc
      rw [hc,decide_eq_false h1,decide_eq_false h2];rfl
    rw [hq,if_pos rfl,if_neg h0]
    have hck:ckI .i64 (v - f.2.2.2.2.1) = some (v - fLo f):=ckS (show _ ≤ v - fLo f by omega) (show v - fLo f ≤ _ by omega)
    by_cases hA:fAr f = true
    · have hA':f.2.2.2.2.2.2.2.2.2.2.1 = true:=hA
      obtain ⟨q,hqv⟩:=Int.eq_ofNat_of_zero_le (show 0 ≤ v - fLo f by omega)
      have hqn:(v - fLo f).toNat = q:=by omega
      rw [hA',if_pos rfl,if_pos rfl,if_pos hA,hck,Option.bind_some,Option.bind_some,hqn,hqv,a_E]
      by_cases hl:q < (fU f).xs.length
      · have hl':¬ ((q:Nat):Int) ≥ (f.2.2.2.1.xs.length:Int):=by
          have:¬ ((q:Nat):Int) ≥ ((fU f).xs.length:Int):=by omega
          exact this
        rw [decide_eq_false hl',Option.bind_some,Option.bind_some,if_neg (by decide),show idx f.2.2.2.1.xs (q:Int) = some ((fU f).xs[q]) from c_9 hl,Option.bind_some,List.getElem?_eq_getElem hl]
        rfl
      · have hl':((q:Nat):Int) ≥ (f.2.2.2.1.xs.length:Int):=by
          have:((q:Nat):Int) ≥ ((fU f).xs.length:Int):=by omega
          exact this
        rw [decide_eq_true hl',Option.bind_some,Option.bind_some,if_pos rfl,List.getElem?_eq_none (by omega)]
        rfl
    · have hA':f.2.2.2.2.2.2.2.2.2.2.1 = false:=Bool.eq_false_iff.2 hA
      rw [hA',if_neg (by decide),if_neg hA,Option.bind_some,Option.bind_some,if_neg (by decide),if_neg (by decide),a_E]
      have e1:((f.2.2.2.1.xs.length:Nat):Int) - 1 = (((fU f).xs.length - 1:Nat):Int):=by
        have:(((fU f).xs.length:Nat):Int) - 1 = (((fU f).xs.length - 1:Nat):Int):=by omega
        exact this
      rw [e1]
      rw [ckS (by omega) (by omega),Option.bind_some]
      have e2:(if (((fU f).xs.length - 1:Nat):Int) < (j:Int) then (((fU f).xs.length - 1:Nat):Int) else (j:Int)) = ((min j ((fU f).xs.length - 1):Nat):Int):=by
        split <;> omega
      have hm:min j ((fU f).xs.length - 1) < (fU f).xs.length:=by omega
      rw [e2,show idx f.2.2.2.1.xs ((min j ((fU f).xs.length - 1):Nat):Int) = some ((fU f).xs[min j ((fU f).xs.length - 1)]) from c_9 hm,Option.bind_some,List.getElem?_eq_getElem hm]
      rfl
theorem Elm.of {m:Mpt} {b:List Int} {f:Fd} (hp:Ppr m) (hf:f ∈ m.1.xs) (hlen:(b.length:Int) = b_1 m f.1 f.2.1) {j:Nat} (hj:(j:Int) < fC f):Elm m b f j:=by
  obtain ⟨ha,hb⟩:=hp f hf
  obtain ⟨b1,b2,_,_,b5⟩:=hb
  refine ⟨ha,b1,b2,hj,fun i hi=>?_⟩
  obtain ⟨⟨a1,a2⟩,a3,a4⟩:=ha
  obtain ⟨S,hS⟩:=Int.eq_ofNat_of_zero_le (show 0 ≤ fS f by omega)
  obtain ⟨A,hA⟩:=Int.eq_ofNat_of_zero_le b1
  obtain ⟨C,hC⟩:=Int.eq_ofNat_of_zero_le (show 0 ≤ fC f by omega)
  have eo:off f j = A + j * S:=by unfold off;rw [hS,hA];simp
  have hi:i < S:=by rw [hS] at hi;omega
  have hj2:j * S + S ≤ S * C:=by
    have:(j + 1) * S ≤ C * S:=Nat.mul_le_mul (by omega) (Nat.le_refl _)
    rw [Nat.mul_comm S C]
    rw [Nat.add_mul,Nat.one_mul] at this
    exact this
  rw [hS,hA,hC] at b5
  have e4:((S:Int) * (C:Int)) = ((S * C:Nat):Int):=by simp
  rw [e4] at b5
  unfold b_1 at hlen
  rw [e_I hf,Bool.true_and] at hlen
  have hk:((skp m.2.2:Nat):Int) = if m.2.2 = true then 1 else 0:=by unfold skp;split <;> rfl
  rw [← hk] at hlen
  rw [eo]
  omega
def elV (m:Mpt) (b:List Int) (i:Nat) (f:Fd) (j:Nat):List (Int × Int × Int × Int) :=
  match hld f j (e_l m b f j) with
  | some (u,w)=>[((i:Int),(j:Int),u,w)]
  | none=>[]
def fdV (m:Mpt) (b:List Int) (i:Nat) (f:Fd) (j:Nat):List (Int × Int × Int × Int):=(List.range' j ((fC f).toNat - j)).flatMap (elV m b i f)
theorem e_J (m:Mpt) (b:List Int) (i:Nat) (f:Fd) {j:Nat} (h:j < (fC f).toNat):fdV m b i f j = elV m b i f j ++ fdV m b i f (j + 1):=by
  unfold fdV
  obtain ⟨q,hq⟩:∃ q,(fC f).toNat - j = q + 1:=⟨(fC f).toNat - j - 1,by omega⟩
  rw [hq,show (fC f).toNat - (j + 1) = q by omega,List.range'_succ,List.flatMap_cons]
theorem fdV_nil (m:Mpt) (b:List Int) (i:Nat) (f:Fd) {j:Nat} (h:(fC f).toNat ≤ j):fdV m b i f j = []:=by
  unfold fdV
  rw [show (fC f).toNat - j = 0 by omega];rfl
theorem elV_len (m:Mpt) (b:List Int) (i:Nat) (f:Fd) (j:Nat):(elV m b i f j).length ≤ 1:=by
  unfold elV;split <;> simp
theorem e_m (m:Mpt) (b:List Int) (i:Nat) (f:Fd):∀ (q j:Nat),(fC f).toNat - j = q → (fdV m b i f j).length ≤ q
  | 0,j,h=>by rw [fdV_nil m b i f (by omega)];simp
  | q + 1,j,h=>by
    have:=e_m m b i f q (j + 1) (by omega)
    have:=elV_len m b i f j
    rw [e_J m b i f (by omega),List.length_append];omega
def Us (m:Mpt):Prop:=∀ f ∈ m.1.xs,(fU f).xs.length ≤ 9223372036854775807
theorem p23_l2_eq {n:Nat} (hn:1100 ≤ n) (x:Mpt) (hp:Ppr x) (hU:Us x) (b:Sl Int) (hb:Byts b.xs) (f:Fd) (hf:f ∈ x.1.xs) (hlen:(b.xs.length:Int) = b_1 x f.1 f.2.1) (i:Nat):∀ (m j:Nat) (a:List (Int × Int × Int × Int)),(fC f).toNat - j < m → j ≤ (fC f).toNat → a.length ≤ 900000 + j →
    p23_l2 n x b (i:Int) f m j a = some (a ++ fdV x b.xs i f j):=by
  have hA:=(hp f hf).1
  have hA':=hA.2
  intro m
  induction m with
  | zero=>intro j a hm;exact absurd hm (by omega)
  | succ m ih =>
    intro j a hm hj ha
    rw [p23_l2]
    by_cases hlt:j < (fC f).toNat
    · have hlt':(j:Int) < fC f:=by omega
      have hE:=Elm.of (b:=b.xs) hp hf hlen hlt'
      rw [b_Z (show (j:Int) < f.2.2.2.2.2.2.2.1 from hlt'),p38_eq (by omega) x f b j hb hE,Option.bind_some,p37_eq n x f (hp f hf).2 j (by omega) (hU f hf),Option.bind_some,e_J x b.xs i f hlt]
      have hl:=elV_len x b.xs i f j
      have e:((if (hldR (hld f j (e_l x b.xs f j))).2.2 = true then (b_Y a [((i:Int),(j:Int),(hldR (hld f j (e_l x b.xs f j))).1,(hldR (hld f j (e_l x b.xs f j))).2.1)]).bind fun l_257=>some l_257 else some a):Option (List (Int × Int × Int × Int))) = some (a ++ elV x b.xs i f j):=by
        unfold elV
        cases hld f j (e_l x b.xs f j) with
        | none=>show some a = some (a ++ []);rw [List.append_nil]
        | some q =>
          obtain ⟨u,w⟩:=q
          show (b_Y a [((i:Int),(j:Int),u,w)]).bind (fun l_257=>some l_257) = _
          rw [a_1 (by omega)];rfl
      rw [e,Option.bind_some,ckS (by omega) (by omega),Option.bind_some,a_U,ih (j + 1) _ (by omega) (by omega) (by rw [List.length_append];omega),List.append_assoc]
    · rw [c_f (show ¬ (j:Int) < f.2.2.2.2.2.2.2.1 from (show ¬ (j:Int) < fC f by omega)),fdV_nil x b.xs i f (by omega),List.append_nil]
def rpV (m:Mpt) (b:List Int) (k r:Int):Nat → List Fd → List (Int × Int × Int × Int)
  | _,[]=>[]
  | i,f :: l=>(if mt k r f = true then fdV m b i f 0 else []) ++ rpV m b k r (i + 1) l
theorem nmt_eq (k r:Int) (f:Fd):(if (f.1 != k) = false then some (f.2.1 != r) else some true) = some (!mt k r f):=by
  rw [orO fun _=>rfl]
  unfold mt
  cases h1:f.1 == k <;> cases h2:f.2.1 == r <;> simp [bne,h1,h2]
theorem mt_iff {k r:Int} {f:Fd} (h:mt k r f = true):f.1 = k ∧ f.2.1 = r:=by
  unfold mt at h
  rw [Bool.and_eq_true,beq_iff_eq,beq_iff_eq] at h
  exact h
theorem p23_l1_eq {n:Nat} (hn:1100 ≤ n) (x:Mpt) (hl:x.1.xs.length ≤ 1000) (hp:Ppr x) (hU:Us x) (k r:Int) (b:Sl Int) (hb:Byts b.xs) (hlen:(b.xs.length:Int) = b_1 x k r):∀ (m i:Nat) (a:List (Int × Int × Int × Int)),x.1.xs.length - i < m → i ≤ x.1.xs.length → a.length ≤ 256 * i →
    p23_l1 n x k b r m i a = some (a ++ rpV x b.xs k r i (x.1.xs.drop i)):=by
  intro m
  induction m with
  | zero=>intro i a hm;exact absurd hm (by omega)
  | succ m ih =>
    intro i a hm hi ha
    rw [p23_l1,a_E]
    by_cases hlt:i < x.1.xs.length
    · have hf:x.1.xs[i] ∈ x.1.xs:=List.getElem_mem hlt
      rw [b_Z (by omega),c_9 hlt,Option.bind_some,nmt_eq,Option.bind_some,a_P hlt,rpV]
      by_cases hm':mt k r x.1.xs[i] = true
      · obtain ⟨e1,e2⟩:=mt_iff hm'
        have hC:=(hp _ hf).1.2
        have hlen':(b.xs.length:Int) = b_1 x x.1.xs[i].1 x.1.xs[i].2.1:=by rw [e1,e2];exact hlen
        have hfl:=e_m x b.xs i x.1.xs[i] _ 0 rfl
        have h2:=p23_l2_eq hn x hp hU b hb x.1.xs[i] hf hlen' i n 0 a (by omega) (by omega) (by omega)
        rw [show ((0:Nat):Int) = 0 from rfl] at h2
        rw [hm',if_neg (by decide),if_pos rfl,h2,Option.bind_some,ckS (by omega) (by omega),Option.bind_some,a_U,ih (i + 1) _ (by omega) (by omega) (by rw [List.length_append];omega),List.append_assoc]
      · rw [Bool.eq_false_iff.2 hm',if_pos (show (!false) = true from rfl),if_neg (by decide),ckS (by omega) (by omega),Option.bind_some,a_U,ih (i + 1) _ (by omega) (by omega) (by omega),List.nil_append]
    · rw [c_f (by omega),List.drop_eq_nil_of_le (by omega),rpV,List.append_nil]
theorem p60_l1_eq (n:Nat) (l:Sl Fd) (k r:Int) (hl:l.xs.length ≤ 1000):∀ (m i:Nat),l.xs.length - i < m → i ≤ l.xs.length → ∃ q:Unit ⊕ Int,p60_55_l1 n l k r m i = some q ∧ ((∃ j:Nat,q = .inr (j:Int)) ∧ c_c (l.xs.drop i) k r = true ∨ q = .inl () ∧ c_c (l.xs.drop i) k r = false):=by
  intro m
  induction m with
  | zero=>intro i hm;exact absurd hm (by omega)
  | succ m ih =>
    intro i hm hi
    rw [p60_55_l1,a_E]
    by_cases hlt:i < l.xs.length
    · have hany:c_c (l.xs[i] :: l.xs.drop (i + 1)) k r = (mt k r l.xs[i] || c_c (l.xs.drop (i + 1)) k r):=rfl
      have e45:p55 n l.xs[i] k r = some (mt k r l.xs[i]):=by
        unfold p55
        rw [mt_eq];rfl
      rw [b_Z (by omega),c_9 hlt,Option.bind_some,e45,Option.bind_some,a_P hlt,hany]
      by_cases hm':mt k r l.xs[i] = true
      · rw [hm',if_pos rfl]
        exact ⟨_,rfl,.inl ⟨⟨i,rfl⟩,rfl⟩⟩
      · rw [Bool.eq_false_iff.2 hm',if_neg (by decide),ckS (by omega) (by omega),Option.bind_some,a_U,Bool.false_or]
        exact ih (i + 1) (by omega) (by omega)
    · rw [c_f (by omega),List.drop_eq_nil_of_le (by omega)]
      exact ⟨_,rfl,.inr ⟨rfl,rfl⟩⟩
theorem p36_eq {n:Nat} (hn:1100 ≤ n) (x:Mpt) (k r:Int) (hl:x.1.xs.length ≤ 1000):p36 n x k r = some (c_c x.1.xs k r):=by
  obtain ⟨q,h1,h2⟩:=p60_l1_eq n x.1 k r hl n 0 (by omega) (by omega)
  rw [show ((0:Nat):Int) = 0 from rfl] at h1
  rw [List.drop_zero] at h2
  unfold p36 p54_55 p60_55
  rw [h1,Option.bind_some]
  rcases h2 with ⟨⟨j,rfl⟩,h2⟩ | ⟨rfl,h2⟩
  · rw [lrKr,Option.bind_some,Option.bind_some,h2,decide_eq_true (by omega)]
  · rw [lrKl,Option.bind_some,Option.bind_some,h2]
    rfl
theorem e_n (m:Mpt) (hp:Ppr m) (b:List Int) (k r:Int):∀ (l:List Fd) (i:Nat),(∀ f ∈ l,f ∈ m.1.xs) → (rpV m b k r i l).length ≤ 256 * l.length
  | [],i,_=>by simp [rpV]
  | f :: l,i,h=>by
    have h1:=e_n m hp b k r l (i + 1) fun g hg=>h g (by simp [hg])
    have h2:=e_m m b i f _ 0 rfl
    have hC:=(hp f (h f (by simp))).1.2
    rw [rpV,List.length_append,List.length_cons]
    have:(if mt k r f = true then fdV m b i f 0 else []).length ≤ 256:=by
      split
      · omega
      · simp
    omega
theorem rep_eq (m:Mpt) (b:Sl Int) {α:Type} (e5:α) (hb:¬ (m.2.2 = true ∧ b.xs = [])):(if m.2.2 = true then (if (a_m b == 0) = true then some (.inr e5) else (idx b.xs 0).bind fun y_25=>some (.inl y_25)) else some (.inl 0)) = (some (.inl (if m.2.2 = true then byt b.xs 0 else 0)):Option (Int ⊕ α)):=by
  by_cases h:m.2.2 = true
  · have hne:b.xs ≠ []:=fun q=>hb ⟨h,q⟩
    have hlen:0 < b.xs.length:=List.length_pos_iff.2 hne
    have h0:(a_m b == 0) = false:=by rw [beq_eq_false_iff_ne,a_E];omega
    have hi:=byt_of (b:=b.xs) (i:=0) hlen
    rw [show ((0:Nat):Int) = 0 from rfl] at hi
    rw [if_pos h,h0,if_neg (by decide),hi,Option.bind_some,if_pos h]
  · rw [if_neg h,if_neg h]
theorem p23_good {n:Nat} (hn:1100 ≤ n) (x:Mpt) (hl:x.1.xs.length ≤ 1000) (hU:Us x) (k:Int) (b:Sl Int) (hb:Byts b.xs) (hp:Ppr x) (h5:¬ (x.2.2 = true ∧ b.xs = [])) (hany:c_c x.1.xs k (if x.2.2 = true then byt b.xs 0 else 0) = true) (hlen:(b.xs.length:Int) = b_1 x k (if x.2.2 = true then byt b.xs 0 else 0)) :
    p23 n x k b = some (⟨rpV x b.xs k (if x.2.2 = true then byt b.xs 0 else 0) 0 x.1.xs,some (rpV x b.xs k (if x.2.2 = true then byt b.xs 0 else 0) 0 x.1.xs).length⟩,0):=by
  have h1:=p23_l1_eq hn x hl hp hU k _ b hb hlen n 0 [] (by omega) (by omega) (by simp)
  rw [show ((0:Nat):Int) = 0 from rfl,List.drop_zero,List.nil_append] at h1
  unfold p23
  rw [p30_eq hn x hl,Option.bind_some,decide_eq_true hp,if_neg (by decide),rep_eq x b _ h5,Option.bind_some,lrKl,p36_eq hn x k _ hl,Option.bind_some,hany,if_neg (by decide),p32_eq hn x k _ hl,Option.bind_some,a_E,if_neg (by rw [← hlen,bne_self_eq_false];decide),h1,Option.bind_some]
  unfold p39
  rw [d_u,Option.bind_some,Option.bind_some]
abbrev Ev:=Int × Bool × Bool
abbrev KBt:=(List (Bool)) × Mpt × Bool × Int × Int × Int × Int × (List (Int))
abbrev Mdl:=(List (List (List (Bool)))) × (List (Bool)) × Int × Int × Int
def a_0 (a:List Bool) (k:Nat):Bool:=a.getD k false
theorem a_3 {a:List Bool} {k:Nat} (h:k < a.length):idx a (k:Int) = some (a_0 a k):=by
  rw [c_9 h,a_0,List.getD_eq_getElem?_getD,List.getElem?_eq_getElem h];rfl
theorem p35_eq {n:Nat} {a:List Bool} {k:Nat} (h:k < a.length):p35 n a (k:Int) = some (a_0 a k):=by
  unfold p35
  rw [a_3 h];rfl
def sfx (p:Nat → Bool) (i:Nat):List Nat:=(List.range' i (256 - i)).filter p
theorem c_d (p:Nat → Bool) {i:Nat} (h:i < 256):sfx p i = if p i = true then i :: sfx p (i + 1) else sfx p (i + 1):=by
  unfold sfx
  rw [show 256 - i = (256 - (i + 1)) + 1 by omega,List.range'_succ,List.filter_cons]
theorem c_n (p:Nat → Bool) {i:Nat} (h:256 ≤ i):sfx p i = []:=by
  unfold sfx
  rw [show 256 - i = 0 by omega];rfl
theorem sfx_mem {p:Nat → Bool} {i k:Nat}:k ∈ sfx p i ↔ (i ≤ k ∧ k < 256) ∧ p k = true:=by
  unfold sfx
  rw [List.mem_filter,List.mem_range'_1]
  constructor <;> rintro ⟨h1,h2⟩ <;> refine ⟨?_,h2⟩ <;> omega
theorem c_7 (p:Nat → Bool) (i:Nat):(sfx p i).length ≤ 256:=by
  unfold sfx
  refine Nat.le_trans (List.length_filter_le _ _) ?_
  rw [List.length_range'];omega
theorem sfx_asc (p:Nat → Bool) (i:Nat):(sfx p i).Pairwise (· < ·):=(List.pairwise_lt_range' (s:=i) (n:=256 - i)).filter _
def upP (a b:List Bool) (k:Nat):Bool:=a_0 a k && !a_0 b k
def evU (l:List Nat):List Ev:=l.map fun (k:Nat)=>((k:Int),false,false)
def evD (l:List Nat):List Ev:=l.map fun (k:Nat)=>((k:Int),true,false)
def d_x (a b:List Bool):List Ev:=evU (sfx (upP a b) 0) ++ evD (sfx (upP b a) 0)
theorem u8_id {i:Nat} (h:i < 256):IntKind.wrap .u8 (i:Int) = (i:Int):=by rw [wrap_u8];omega
theorem p33_l1_eq (n:Nat) (y:KBt) (x:List Bool) (hy:y.1.length = 256) (hx:x.length = 256):∀ (m i:Nat) (a:List Ev),256 - i < m → i ≤ 256 → a.length ≤ i → p33_l1 n y x m i a = some (a ++ evU (sfx (upP y.1 x) i)):=by
  intro m
  induction m with
  | zero=>intro i a hm;exact absurd hm (by omega)
  | succ m ih =>
    intro i a hm hi ha
    rw [p33_l1]
    by_cases hlt:i < 256
    · rw [b_Z (by omega),u8_id hlt,p35_eq (by omega),Option.bind_some,b_0 (c:=!a_0 x i) (fun _=>by rw [p35_eq (by omega)];rfl),Option.bind_some,c_d _ hlt]
      have e:upP y.1 x i = (a_0 y.1 i && !a_0 x i):=rfl
      rw [e]
      cases hb:(a_0 y.1 i && !a_0 x i) with
      | true =>
        rw [if_pos rfl,if_pos rfl,a_1 (by omega),Option.bind_some,Option.bind_some,ckS (by omega) (by omega),Option.bind_some,a_U,ih (i + 1) _ (by omega) (by omega) (by rw [List.length_append,List.length_singleton];omega),List.append_assoc]
        rfl
      | false =>
        rw [if_neg (by decide),if_neg (by decide),Option.bind_some,ckS (by omega) (by omega),Option.bind_some,a_U,ih (i + 1) _ (by omega) (by omega) (by omega)]
    · rw [c_f (by omega),c_n _ (by omega)]
      simp [evU]
theorem p33_l2_eq (n:Nat) (y:KBt) (x:List Bool) (hy:y.1.length = 256) (hx:x.length = 256):∀ (m i:Nat) (a:List Ev),256 - i < m → i ≤ 256 → a.length ≤ 256 + i → p33_l2 n y x m i a = some (a ++ evD (sfx (upP x y.1) i)):=by
  intro m
  induction m with
  | zero=>intro i a hm;exact absurd hm (by omega)
  | succ m ih =>
    intro i a hm hi ha
    rw [p33_l2]
    by_cases hlt:i < 256
    · rw [b_Z (by omega),u8_id hlt,p35_eq (by omega),Option.bind_some,b_0 (b:=!a_0 y.1 i) (c:=a_0 x i) (fun _=>by rw [p35_eq (by omega)];rfl),Option.bind_some,c_d _ hlt]
      have e:upP x y.1 i = (!a_0 y.1 i && a_0 x i):=Bool.and_comm _ _
      rw [e]
      cases hb:(!a_0 y.1 i && a_0 x i) with
      | true =>
        rw [if_pos rfl,if_pos rfl,a_1 (by omega),Option.bind_some,Option.bind_some,ckS (by omega) (by omega),Option.bind_some,a_U,ih (i + 1) _ (by omega) (by omega) (by rw [List.length_append,List.length_singleton];omega),List.append_assoc]
        rfl
      | false =>
        rw [if_neg (by decide),if_neg (by decide),Option.bind_some,ckS (by omega) (by omega),Option.bind_some,a_U,ih (i + 1) _ (by omega) (by omega) (by omega)]
    · rw [c_f (by omega),c_n _ (by omega)]
      simp [evD]
theorem e_o (l:List Nat):(evU l).length = l.length:=List.length_map ..
theorem evD_len (l:List Nat):(evD l).length = l.length:=List.length_map ..
theorem p33_eq {n:Nat} (hn:300 ≤ n) (y:KBt) (x:List Bool) (hy:y.1.length = 256) (hx:x.length = 256):p33 n y x = some (⟨d_x y.1 x,some (d_x y.1 x).length⟩,(x,y.2)):=by
  have e1:=p33_l1_eq n y x hy hx n 0 [] (by omega) (by omega) (by simp)
  have e2:=p33_l2_eq n y x hy hx n 0 (evU (sfx (upP y.1 x) 0)) (by omega) (by omega) (by rw [e_o];exact c_7 _ _)
  rw [List.nil_append] at e1
  unfold p33
  rw [show ((0:Nat):Int) = 0 from rfl] at e1 e2
  rw [e1,Option.bind_some,e2,Option.bind_some,Option.bind_some,d_u,Option.bind_some]
  rfl
def hz (l:List Nat) (h:Int):Int:=l.foldl (fun h (k:Nat)=>if ((k:Int) == h) = true then 0 else h) h
def d_1 (k:Int):Bool:=decide (k < 224) || decide (k > 231)
def gr (l:List Nat) (g:Int):Int:=l.foldl (fun g (k:Nat)=>if d_1 k = true then (k:Int) else g) g
def tog (k la:Int):Int :=
  let l1:=if (k == 83) = true then a_k .xor .u8 la 1 else la
  let l2:=if (k == 57) = true then a_k .xor .u8 l1 2 else l1
  if (k == 71) = true then a_k .xor .u8 l2 4 else l2
def lt (l:List Nat) (la:Int):Int:=l.foldl (fun la (k:Nat)=>tog k la) la
theorem b_q (k:Nat) (l:List Nat) (g:Int):gr (k :: l) g = gr l (if d_1 k = true then (k:Int) else g):=by unfold gr;rw [List.foldl_cons]
theorem e_p (k:Nat) (l:List Nat) (la:Int):lt (k :: l) la = lt l (tog k la):=by unfold lt;rw [List.foldl_cons]
theorem hz_cons (k:Nat) (l:List Nat) (h:Int):hz (k :: l) h = hz l (if ((k:Int) == h) = true then 0 else h):=by unfold hz;rw [List.foldl_cons]
theorem e_K (k:Nat) (l:List Nat):evD (k :: l) = [((k:Int),true,false)] ++ evD l:=rfl
theorem evU_cons (k:Nat) (l:List Nat):evU (k :: l) = [((k:Int),false,false)] ++ evU l:=rfl
theorem p21_l1_eq (n:Nat) (x d:List Bool) (hd:d.length = 256) (hx:x.length = 256):∀ (m i:Nat) (a:List Ev) (y:Mdl),y.2.1 = d → 256 - i < m → i ≤ 256 → a.length ≤ i →
    p21_l1 n x m i a y = some (a ++ evU (sfx (upP d x) i),(y.1,d,y.2.2.1,hz (sfx (upP d x) i) y.2.2.2.1,y.2.2.2.2)):=by
  intro m
  induction m with
  | zero=>intro i a y hyd hm;exact absurd hm (by omega)
  | succ m ih =>
    intro i a y hyd hm hi ha
    rw [p21_l1]
    by_cases hlt:i < 256
    · rw [b_Z (by omega),hyd,a_3 (by omega),Option.bind_some,b_0 (c:=!a_0 x i) (fun _=>by rw [a_3 (by omega)];rfl),Option.bind_some,c_d _ hlt]
      have e:upP d x i = (a_0 d i && !a_0 x i):=rfl
      rw [e,u8_id hlt]
      cases hb:(a_0 d i && !a_0 x i) with
      | true =>
        have e2:(if ((i:Int) == y.2.2.2.1) = true then (some (y.1,d,y.2.2.1,(0:Int),y.2.2.2.2)) else some y) = some (y.1,d,y.2.2.1,(if ((i:Int) == y.2.2.2.1) = true then 0 else y.2.2.2.1),y.2.2.2.2):=by
          by_cases hq:((i:Int) == y.2.2.2.1) = true
          · rw [if_pos hq,if_pos hq]
          · rw [if_neg hq,if_neg hq,← hyd]
        rw [if_pos rfl,if_pos rfl,a_1 (by omega),Option.bind_some,e2,Option.bind_some,Option.bind_some,ckS (by omega) (by omega),Option.bind_some,a_U,ih (i + 1) _ _ rfl (by omega) (by omega) (by simp only [List.length_append,List.length_singleton];omega),List.append_assoc]
        rfl
      | false =>
        rw [if_neg (by decide),if_neg (by decide),Option.bind_some,ckS (by omega) (by omega),Option.bind_some,a_U,ih (i + 1) _ _ hyd (by omega) (by omega) (show a.length ≤ i + 1 by omega)]
    · rw [c_f (by omega),c_n _ (by omega),← hyd]
      simp [evU,hz]
theorem p21_l2_eq (n:Nat) (x d:List Bool) (hd:d.length = 256) (hx:x.length = 256):∀ (m i:Nat) (g:Int) (a:List Ev) (y:Mdl),y.2.1 = d → 256 - i < m → i ≤ 256 → a.length ≤ 256 + i →
    p21_l2 n x m i g a y = some (a ++ evD (sfx (upP x d) i),gr (sfx (upP x d) i) g,(y.1,d,lt (sfx (upP x d) i) y.2.2.1,y.2.2.2.1,y.2.2.2.2)):=by
  intro m
  induction m with
  | zero=>intro i g a y hyd hm;exact absurd hm (by omega)
  | succ m ih =>
    intro i g a y hyd hm hi ha
    rw [p21_l2]
    by_cases hlt:i < 256
    · rw [b_Z (by omega),a_3 (by omega),Option.bind_some,b_0 (c:=!a_0 d i) (fun _=>by rw [hyd,a_3 (by omega)];rfl),Option.bind_some,c_d _ hlt]
      have e:upP x d i = (a_0 x i && !a_0 d i):=rfl
      rw [e,u8_id hlt]
      cases hb:(a_0 x i && !a_0 d i) with
      | true =>
        rw [if_pos rfl,if_pos rfl,a_1 (by omega),Option.bind_some,orO (c:=decide ((i:Int) > 231)) (fun _=>rfl),Option.bind_some]
        have e1:(if (decide ((i:Int) < 224) || decide ((i:Int) > 231)) = true then (some (i:Int)) else some g) = some (if d_1 i = true then (i:Int) else g):=by
          unfold d_1
          split <;> rfl
        rw [e1,Option.bind_some]
        have s1:∀ (b:Bool) (z:Int) (q:Mdl),q.2.1 = d → (if b = true then (some (q.1,q.2.1,a_k .xor .u8 q.2.2.1 z,q.2.2.2.1,q.2.2.2.2)) else some q:Option Mdl) = some (q.1,d,(if b = true then a_k .xor .u8 q.2.2.1 z else q.2.2.1),q.2.2.2.1,q.2.2.2.2):=by
          intro b z q hq
          cases b
          · rw [if_neg (by decide),if_neg (by decide),← hq]
          · rw [if_pos rfl,if_pos rfl,hq]
        rw [s1 _ 1 y hyd,Option.bind_some,s1 _ 2 _ rfl,Option.bind_some,s1 _ 4 _ rfl,Option.bind_some,Option.bind_some,ckS (by omega) (by omega),Option.bind_some,a_U,ih (i + 1) _ _ _ rfl (by omega) (by omega) (by rw [List.length_append,List.length_singleton];omega),List.append_assoc]
        rw [b_q,e_p,e_K]
        simp only [tog]
      | false =>
        rw [if_neg (by decide),if_neg (by decide),Option.bind_some,ckS (by omega) (by omega),Option.bind_some,a_U,ih (i + 1) _ _ _ hyd (by omega) (by omega) (show a.length ≤ 256 + (i + 1) by omega)]
    · rw [c_f (by omega),c_n _ (by omega),← hyd]
      simp [evD,gr,lt]
def nxt (y:Mdl) (x:List Bool):Mdl :=
  let A:=sfx (upP x y.2.1) 0
  let h:=hz (sfx (upP y.2.1 x) 0) y.2.2.2.1
  (y.1,x,lt A y.2.2.1,if gr A 0 > 0 then gr A 0 else h,if gr A 0 > 0 then 0 else y.2.2.2.2)
theorem p21_eq {n:Nat} (hn:300 ≤ n) (y:Mdl) (x:List Bool) (hd:y.2.1.length = 256) (hx:x.length = 256):p21 n y x = some (⟨d_x y.2.1 x,.none⟩,nxt y x):=by
  have e1:=p21_l1_eq n x y.2.1 hd hx n 0 [] y rfl (by omega) (by omega) (by simp)
  rw [List.nil_append,show ((0:Nat):Int) = 0 from rfl] at e1
  have e2:=p21_l2_eq n x y.2.1 hd hx n 0 0 (evU (sfx (upP y.2.1 x) 0)) (y.1,y.2.1,y.2.2.1,hz (sfx (upP y.2.1 x) 0) y.2.2.2.1,y.2.2.2.2) rfl (by omega) (by omega) (by rw [e_o];exact c_7 _ _)
  rw [show ((0:Nat):Int) = 0 from rfl] at e2
  unfold p21
  rw [e1,Option.bind_some,e2,Option.bind_some]
  unfold nxt
  by_cases hg:gr (sfx (upP x y.2.1) 0) 0 > 0
  · rw [b_Z hg,Option.bind_some]
    simp only [if_pos hg]
    rfl
  · rw [c_f hg,Option.bind_some]
    simp only [if_neg hg]
    rfl
def stF (s:Bool × Int × Int × Int) (e:Ev):Bool × Int × Int × Int :=
  let h:=if (!e.2.1 && e.1 == s.2.2.1) = true then 0 else s.2.2.1
  let la:=if e.2.1 = true then tog e.1 s.2.1 else s.2.1
  if (e.2.1 && d_1 e.1 && (s.1 || decide (e.1 > h))) = true then (false,la,e.1,0) else (s.1,la,h,s.2.2.2)
theorem stF_up (s:Bool × Int × Int × Int) (k:Int):stF s (k,false,false) = (s.1,s.2.1,(if (k == s.2.2.1) = true then 0 else s.2.2.1),s.2.2.2):=by
  unfold stF
  simp
theorem foldU (l:List Nat):∀ (s:Bool × Int × Int × Int),(evU l).foldl stF s = (s.1,s.2.1,hz l s.2.2.1,s.2.2.2):=by
  induction l with
  | nil=>intro s;rfl
  | cons k l ih =>
    intro s
    rw [evU_cons,List.singleton_append,List.foldl_cons,stF_up,ih,hz_cons]
def noN (l:List Nat):Bool:=l.all fun (k:Nat)=>!d_1 k
theorem d_y (k:Nat) (l:List Nat):noN (k :: l) = (!d_1 k && noN l):=rfl
theorem foldD (l:List Nat):∀ (s:Bool × Int × Int × Int),l.Pairwise (· < ·) → (s.1 = true ∨ ∀ k ∈ l,s.2.2.1 < (k:Int)) → (evD l).foldl stF s = (s.1 && noN l,lt l s.2.1,gr l s.2.2.1,if noN l = true then s.2.2.2 else 0):=by
  induction l with
  | nil=>intro s _ _;simp [evD,noN,lt,gr]
  | cons k l ih =>
    intro s hp hs
    have hp':=List.pairwise_cons.1 hp
    rw [e_K,List.singleton_append,List.foldl_cons,d_y,e_p,b_q]
    have e:stF s ((k:Int),true,false) = if (d_1 k && (s.1 || decide ((k:Int) > s.2.2.1))) = true then (false,tog k s.2.1,(k:Int),0) else (s.1,tog k s.2.1,s.2.2.1,s.2.2.2):=by
      unfold stF;simp
    rw [e]
    cases hn:d_1 k with
    | false =>
      rw [Bool.false_and,if_neg (by decide),ih (s.1,tog (k:Int) s.2.1,s.2.2.1,s.2.2.2) hp'.2 (hs.imp id fun h q hq=>h q (List.mem_cons_of_mem _ hq))]
      simp
    | true =>
      have h1:(true && (s.1 || decide ((k:Int) > s.2.2.1))) = true:=by
        rcases hs with h | h
        · rw [h];rfl
        · rw [decide_eq_true (h k (List.mem_cons_self ..)),Bool.or_true];rfl
      rw [if_pos h1,ih (false,tog (k:Int) s.2.1,(k:Int),0) hp'.2 (.inr fun q hq=>by have:=hp'.1 q hq;show ((k:Int)) < q;omega)]
      simp
theorem gr_no (l:List Nat) (h:noN l = true):∀ g,gr l g = g:=by
  induction l with
  | nil=>intro g;rfl
  | cons k l ih =>
    intro g
    rw [d_y,Bool.and_eq_true] at h
    rw [b_q,if_neg (by have:=h.1;simp at this;simp [this]),ih h.2]
theorem gr_yes (l:List Nat) (h:noN l = false) (hp:∀ k ∈ l,0 < k):(∀ g g',gr l g = gr l g') ∧ ∀ g,0 < gr l g:=by
  induction l with
  | nil=>cases h
  | cons k l ih =>
    have key:(∀ g g',gr (k :: l) g = gr (k :: l) g') ∧ ∀ g,0 < gr (k :: l) g:=by
      cases hl:noN l with
      | false =>
        obtain ⟨h1,h2⟩:=ih hl fun q hq=>hp q (List.mem_cons_of_mem _ hq)
        exact ⟨fun g g'=>by rw [b_q,b_q];exact h1 _ _,fun g=>by rw [b_q];exact h2 _⟩
      | true =>
        have hk:d_1 k = true:=by
          rw [d_y,hl,Bool.and_true] at h
          simpa using h
        have h0:0 < k:=hp k (List.mem_cons_self ..)
        refine ⟨fun g g'=>by rw [b_q,b_q,if_pos hk,if_pos hk],fun g=>?_⟩
        rw [b_q,if_pos hk,gr_no l hl];omega
    exact key
theorem foldE (a b:List Bool) (hb:a_0 b 0 = false) (la h ti:Int):∃ f,(d_x a b).foldl stF (true,la,h,ti) =
    (f,lt (sfx (upP b a) 0) la,(if gr (sfx (upP b a) 0) 0 > 0 then gr (sfx (upP b a) 0) 0 else hz (sfx (upP a b) 0) h),(if gr (sfx (upP b a) 0) 0 > 0 then 0 else ti)):=by
  unfold d_x
  rw [List.foldl_append,foldU,foldD _ _ (sfx_asc _ _) (.inl rfl)]
  refine ⟨_,Prod.ext rfl (Prod.ext rfl ?_)⟩
  have hpos:∀ k ∈ sfx (upP b a) 0,0 < k:=fun k hk=>by
    rcases Nat.eq_zero_or_pos k with e | e
    · subst e
      have:=(sfx_mem.1 hk).2
      unfold upP at this
      rw [hb] at this
      cases this
    · exact e
  cases hn:noN (sfx (upP b a) 0) with
  | true =>
    have e:¬ (gr (sfx (upP b a) 0) 0 > 0):=by rw [gr_no _ hn];decide
    rw [if_neg e,if_neg e,gr_no _ hn];rfl
  | false =>
    obtain ⟨h1,h2⟩:=gr_yes _ hn hpos
    rw [if_pos (h2 0),if_pos (h2 0),h1 _ 0];rfl
theorem p12_l5_eq {n:Nat} (e:Ev) (y:KBt) (hl:y.2.2.2.2.2.2.2 = [83,57,71]) (m:Nat) (hm:4 ≤ m):p12_l5 n e y m 0 y = some (y.1,y.2.1,y.2.2.1,(if e.2.1 = true then tog e.1 y.2.2.2.1 else y.2.2.2.1),y.2.2.2.2):=by
  obtain ⟨m,rfl⟩:∃ q,m = q + 4:=⟨m - 4,by omega⟩
  obtain ⟨y1,y2,y3,y4,y5,y6,y7,y8⟩:=y
  obtain rfl:y8 = [83,57,71]:=hl
  obtain ⟨k,b,b'⟩:=e
  have step:∀ (q:Nat) (i c z:Int) (l0:Int),decide (i < 3) = true → idx ([83,57,71]:List Int) i = some c → d_D .u8 1 i = some z → ckI .i64 (i + 1) = some (i + 1) →
      p12_l5 n (k,b,b') (y1,y2,y3,y4,y5,y6,y7,[83,57,71]) (q + 1) i (y1,y2,y3,l0,y5,y6,y7,[83,57,71]) = p12_l5 n (k,b,b') (y1,y2,y3,y4,y5,y6,y7,[83,57,71]) q (i + 1) (y1,y2,y3,(if (b && k == c) = true then a_k .xor .u8 l0 z else l0),y5,y6,y7,[83,57,71]):=by
    intro q i c z l0 hi hc hz hk
    rw [p12_l5,if_pos hi,hc,Option.bind_some,b_0 (b:=b) (c:=k == c) (fun _=>rfl),Option.bind_some]
    cases hb:(b && k == c) with
    | true=>rw [if_pos rfl,if_pos rfl,hz,Option.bind_some,Option.bind_some,hk,Option.bind_some]
    | false=>rw [if_neg (by decide),if_neg (by decide),Option.bind_some,hk,Option.bind_some]
  rw [step (m + 3) 0 83 1 y4 (by decide) rfl (by decide) (by decide),step (m + 2) (0 + 1) 57 2 _ (by decide) rfl (by decide) (by decide),step (m + 1) (0 + 1 + 1) 71 4 _ (by decide) rfl (by decide) (by decide),p12_l5,if_neg (by decide)]
  cases b with
  | true=>simp only [Bool.true_and,tog,if_true]
  | false=>simp only [Bool.false_and,Bool.false_eq_true,if_false]
theorem p12_l4_eq (n:Nat) (hn:10 ≤ n) (t:(Sl Ev) × KBt):∀ (m i:Nat) (f:Bool) (y:KBt),y.2.2.2.2.2.2.2 = [83,57,71] → t.1.xs.length ≤ 1000 → t.1.xs.length - i < m → i ≤ t.1.xs.length →
    p12_l4 n t m i f y = some (let r:=(t.1.xs.drop i).foldl stF (f,y.2.2.2.1,y.2.2.2.2.2.1,y.2.2.2.2.2.2.1);(y.1,y.2.1,y.2.2.1,r.2.1,y.2.2.2.2.1,r.2.2.1,r.2.2.2,y.2.2.2.2.2.2.2)):=by
  intro m
  induction m with
  | zero=>intro i f y hl hL hm;exact absurd hm (by omega)
  | succ m ih =>
    intro i f y hl hL hm hi
    rw [p12_l4]
    by_cases hlt:i < t.1.xs.length
    · rw [b_Z (by rw [a_E];omega),c_9 hlt,Option.bind_some,a_P hlt,List.foldl_cons]
      generalize t.1.xs[i] = e
      rw [b_0 (b:=!e.2.1) (c:=e.1 == y.2.2.2.2.2.1) (fun _=>rfl),Option.bind_some]
      have e1:(if (!e.2.1 && e.1 == y.2.2.2.2.2.1) = true then (some (y.1,y.2.1,y.2.2.1,y.2.2.2.1,y.2.2.2.2.1,(0:Int),y.2.2.2.2.2.2.1,y.2.2.2.2.2.2.2)) else some (y.1,y.2.1,y.2.2.1,y.2.2.2.1,y.2.2.2.2.1,y.2.2.2.2.2.1,y.2.2.2.2.2.2.1,y.2.2.2.2.2.2.2):Option KBt) =
          some (y.1,y.2.1,y.2.2.1,y.2.2.2.1,y.2.2.2.2.1,(if (!e.2.1 && e.1 == y.2.2.2.2.2.1) = true then 0 else y.2.2.2.2.2.1),y.2.2.2.2.2.2.1,y.2.2.2.2.2.2.2):=by split <;> rfl
      rw [e1,Option.bind_some,p12_l5_eq e (y.1,y.2.1,y.2.2.1,y.2.2.2.1,y.2.2.2.2.1,(if (!e.2.1 && e.1 == y.2.2.2.2.2.1) = true then 0 else y.2.2.2.2.2.1),y.2.2.2.2.2.2.1,y.2.2.2.2.2.2.2) hl n (by omega),Option.bind_some]
      have e2:(if e.2.1 = true then (if decide (e.1 < 224) = false then some (decide (e.1 > 231)) else some true).bind fun q=>some q else some false) = some (e.2.1 && d_1 e.1):=by
        rw [b_0 (b:=e.2.1) (c:=d_1 e.1)]
        intro _
        rw [orO (c:=decide (e.1 > 231)) (fun _=>rfl)];rfl
      rw [e2,Option.bind_some]
      generalize hh:(if (!e.2.1 && e.1 == y.2.2.2.2.2.1) = true then 0 else y.2.2.2.2.2.1) = h1
      have e3:(if (e.2.1 && d_1 e.1) = true then (if f = false then some (decide (e.1 > h1)) else some true).bind fun q=>some q else some false) = some (e.2.1 && d_1 e.1 && (f || decide (e.1 > h1))):=by
        rw [b_0 (c:=f || decide (e.1 > h1))]
        intro _
        rw [orO (c:=decide (e.1 > h1)) (fun _=>rfl)];rfl
      have e4:stF (f,y.2.2.2.1,y.2.2.2.2.2.1,y.2.2.2.2.2.2.1) e = if (e.2.1 && d_1 e.1 && (f || decide (e.1 > h1))) = true then (false,(if e.2.1 = true then tog e.1 y.2.2.2.1 else y.2.2.2.1),e.1,0) else (f,(if e.2.1 = true then tog e.1 y.2.2.2.1 else y.2.2.2.1),h1,y.2.2.2.2.2.2.1):=by
        unfold stF
        simp only [hh]
      refine (congrArg (fun q=>Option.bind q _) e3).trans ?_
      rw [Option.bind_some,e4]
      cases hc:(e.2.1 && d_1 e.1 && (f || decide (e.1 > h1))) with
      | true =>
        rw [if_pos rfl,if_pos rfl,Option.bind_some,ckS (by omega) (by omega),Option.bind_some,a_U]
        exact ih (i + 1) false (y.1,y.2.1,y.2.2.1,(if e.2.1 = true then tog e.1 y.2.2.2.1 else y.2.2.2.1),y.2.2.2.2.1,e.1,0,y.2.2.2.2.2.2.2) hl hL (by omega) (by omega)
      | false =>
        rw [if_neg (show ¬ (false = true) by decide),if_neg (show ¬ (false = true) by decide),Option.bind_some,ckS (by omega) (by omega),Option.bind_some,a_U]
        exact ih (i + 1) f (y.1,y.2.1,y.2.2.1,(if e.2.1 = true then tog e.1 y.2.2.2.1 else y.2.2.2.1),y.2.2.2.2.1,h1,y.2.2.2.2.2.2.1,y.2.2.2.2.2.2.2) hl hL (by omega) (by omega)
    · rw [c_f (by rw [a_E];omega),List.drop_eq_nil_of_le (by omega)]
      rfl
theorem e_q {y:Int} (h0:0 ≤ y) (h1:y ≤ 4294967295):a_k .and .u32 y 255 = y % 256:=by
  obtain ⟨a,rfl⟩:=Int.eq_ofNat_of_zero_le h0
  unfold a_k
  simp only
  have e:(BitVec.ofInt 32 (a:Int) &&& BitVec.ofInt 32 255).toNat = a % 256:=by
    rw [BitVec.toNat_and]
    have e1:(BitVec.ofInt 32 (a:Int)).toNat = a:=by
      rw [BitVec.toNat_ofInt];omega
    have e2:(BitVec.ofInt 32 255).toNat = 255:=by decide
    rw [e1,e2]
    exact Nat.and_two_pow_sub_one_eq_mod a 8
  rw [show IntKind.bits .u32 = 32 from rfl,e,c_C]
  omega
abbrev Vl:=Int × Int × Int × Int
def isK (u:Int):Bool:=decide (u ≥ 458756) && decide (u ≤ 459007)
theorem p31_eq (n:Nat) (u:Int):p31 n u = some (isK u):=by
  unfold p31
  rw [b_0 (c:=decide (u ≤ 459007)) (fun _=>rfl)];rfl
def stV (fs:List Fd) (s:Bool × List (List Bool)) (v:Vl):Bool × List (List Bool) :=
  let ar:=(fs[v.1.toNat]?.map fAr).getD false
  (if ar = true then s.1 || v.2.2.1 == 458753 else s.1,
   if (isK v.2.2.1 && v.2.2.2 != 0) = true then s.2.set (if ar = true then 0 else 1) ((s.2.getD (if ar = true then 0 else 1) []).set (v.2.2.1 - 458752).toNat true) else s.2)
def okS (x:List Bool):Prop:=x.length = 256 ∧ a_0 x 0 = false
def okN (a:List (List Bool)):Prop:=∃ x y,a = [x,y] ∧ okS x ∧ okS y
theorem okS.set {x:List Bool} (h:okS x) {k:Nat} (hk:0 < k):okS (x.set k true):=by
  refine ⟨by rw [List.length_set];exact h.1,?_⟩
  have:=h.2
  unfold a_0 at this ⊢
  rw [List.getD_eq_getElem?_getD,List.getElem?_set_ne (by omega),← List.getD_eq_getElem?_getD]
  exact this
theorem e_r {u:Int} (h:isK u = true):458756 ≤ u ∧ u ≤ 459007:=by
  unfold isK at h
  simpa using h
theorem stV_ok (fs:List Fd) (s:Bool × List (List Bool)) (v:Vl) (h:okN s.2):okN (stV fs s v).2:=by
  obtain ⟨x,y,e,hx,hy⟩:=h
  unfold stV
  simp only
  cases hc:(isK v.2.2.1 && v.2.2.2 != 0) with
  | false=>rw [if_neg (by decide)];exact ⟨x,y,e,hx,hy⟩
  | true =>
    rw [if_pos rfl,e]
    have hk:=e_r (Bool.and_eq_true _ _ ▸ hc).1
    have h0:0 < (v.2.2.1 - 458752).toNat:=by omega
    cases (fs[v.1.toNat]?.map fAr).getD false with
    | true=>exact ⟨_,y,rfl,hx.set h0,hy⟩
    | false=>exact ⟨x,_,rfl,hx,hy.set h0⟩
theorem d_z (fs:List Fd) (l:List Vl):∀ (s:Bool × List (List Bool)),okN s.2 → okN (l.foldl (stV fs) s).2:=by
  induction l with
  | nil=>intro s h;exact h
  | cons v l ih=>intro s h;rw [List.foldl_cons];exact ih _ (stV_ok fs s v h)
theorem idx01 {x y:List Bool} (b:Bool):idx [x,y] (if b = true then (0:Int) else 1) = some (([x,y]:List (List Bool)).getD (if b = true then 0 else 1) []):=by cases b <;> rfl
theorem p12_l1_eq (n:Nat) (y:KBt) (t:(Sl Vl) × Int) (hL:t.1.xs.length ≤ 1000000) (hv:∀ v ∈ t.1.xs,0 ≤ v.1 ∧ v.1 < y.2.1.1.xs.length):∀ (m i:Nat) (s:Bool × List (List Bool)),okN s.2 → t.1.xs.length - i < m → i ≤ t.1.xs.length →
    p12_l1 n y t m i s.1 s.2 = some ((t.1.xs.drop i).foldl (stV y.2.1.1.xs) s):=by
  intro m
  induction m with
  | zero=>intro i s hs hm;exact absurd hm (by omega)
  | succ m ih =>
    intro i s hs hm hi
    rw [p12_l1]
    by_cases hlt:i < t.1.xs.length
    · have hmem:t.1.xs[i] ∈ t.1.xs:=List.getElem_mem hlt
      rw [b_Z (by rw [a_E];omega),c_9 hlt,Option.bind_some,a_P hlt,List.foldl_cons]
      generalize t.1.xs[i] = v at hmem
      obtain ⟨h0,h1⟩:=hv v hmem
      have hfl:v.1.toNat < y.2.1.1.xs.length:=by omega
      rw [e_F h0 h1,Option.bind_some]
      have har:(y.2.1.1.xs[v.1.toNat]?.map fAr).getD false = fAr y.2.1.1.xs[v.1.toNat]:=by rw [List.getElem?_eq_getElem hfl];rfl
      have e1:(if (y.2.1.1.xs[v.1.toNat]).2.2.2.2.2.2.2.2.2.2.1 = true then ((if s.1 = false then some (v.2.2.1 == 458753) else some true).bind fun q_159=>some ((0:Int),q_159)) else some (1,s.1)) =
          some ((if fAr y.2.1.1.xs[v.1.toNat] = true then (0:Int) else 1),(if fAr y.2.1.1.xs[v.1.toNat] = true then s.1 || v.2.2.1 == 458753 else s.1)):=by
        show (if fAr y.2.1.1.xs[v.1.toNat] = true then _ else _) = _
        cases fAr y.2.1.1.xs[v.1.toNat] with
        | true=>rw [if_pos rfl,orO (c:=v.2.2.1 == 458753) (fun _=>rfl)];rfl
        | false=>rfl
      rw [e1,Option.bind_some,p31_eq,Option.bind_some,b_0 (b:=isK v.2.2.1) (c:=v.2.2.2 != 0) (fun _=>rfl),Option.bind_some]
      have e2:(if (isK v.2.2.1 && v.2.2.2 != 0) = true then ((idx s.2 (if fAr y.2.1.1.xs[v.1.toNat] = true then (0:Int) else 1)).bind fun y_202=>(idx y_202 (a_k .and .u32 v.2.2.1 255)).bind fun y_223=>some (s.2.set (if fAr y.2.1.1.xs[v.1.toNat] = true then (0:Int) else 1).toNat (y_202.set (a_k .and .u32 v.2.2.1 255).toNat true))) else some s.2) = some (stV y.2.1.1.xs s v).2:=by
        unfold stV
        simp only [har]
        cases hc:(isK v.2.2.1 && v.2.2.2 != 0) with
        | false=>rfl
        | true =>
          have hk:=e_r (Bool.and_eq_true _ _ ▸ hc).1
          rw [if_pos rfl,if_pos rfl,e_q (by omega) (by omega)]
          obtain ⟨x,z,e,hx,hz⟩:=hs
          have em:v.2.2.1 % 256 = ((v.2.2.1 - 458752).toNat:Int):=by omega
          rw [e,em,idx01,Option.bind_some]
          have hl:(v.2.2.1 - 458752).toNat < (([x,z]:List (List Bool)).getD (if fAr y.2.1.1.xs[v.1.toNat] = true then 0 else 1) []).length:=by
            cases fAr y.2.1.1.xs[v.1.toNat]
            · show _ < z.length;rw [hz.1];omega
            · show _ < x.length;rw [hx.1];omega
          rw [a_3 hl,Option.bind_some]
          cases fAr y.2.1.1.xs[v.1.toNat] <;> rfl
      rw [e2,Option.bind_some,ckS (by omega) (by omega),Option.bind_some,a_U]
      have e3:(if fAr y.2.1.1.xs[v.1.toNat] = true then s.1 || v.2.2.1 == 458753 else s.1) = (stV y.2.1.1.xs s v).1:=by
        unfold stV
        simp only [har]
      rw [e3]
      exact ih (i + 1) (stV y.2.1.1.xs s v) (stV_ok _ _ _ hs) (by omega) (by omega)
    · rw [c_f (by rw [a_E];omega),List.drop_eq_nil_of_le (by omega)]
      rfl
theorem p24_l1_eq (n:Nat) (x:Mpt) (t:Sl Vl) (hL:t.xs.length ≤ 1000000) (hv:∀ v ∈ t.xs,0 ≤ v.1 ∧ v.1 < x.1.xs.length):∀ (m i:Nat) (s:Bool × List (List Bool)),okN s.2 → t.xs.length - i < m → i ≤ t.xs.length →
    p24_l1 n x t m i s.1 s.2 = some ((t.xs.drop i).foldl (stV x.1.xs) s):=by
  intro m
  induction m with
  | zero=>intro i s hs hm;exact absurd hm (by omega)
  | succ m ih =>
    intro i s hs hm hi
    rw [p24_l1]
    by_cases hlt:i < t.xs.length
    · have hmem:t.xs[i] ∈ t.xs:=List.getElem_mem hlt
      rw [b_Z (by rw [a_E];omega),c_9 hlt,a_P hlt,List.foldl_cons]
      generalize t.xs[i] = v at hmem
      obtain ⟨h0,h1⟩:=hv v hmem
      have hfl:v.1.toNat < x.1.xs.length:=by omega
      simp only [Option.bind_some]
      rw [e_F h0 h1,Option.bind_some]
      have har:(x.1.xs[v.1.toNat]?.map fAr).getD false = fAr x.1.xs[v.1.toNat]:=by rw [List.getElem?_eq_getElem hfl];rfl
      have e1:(if (x.1.xs[v.1.toNat]).2.2.2.2.2.2.2.2.2.2.1 = true then ((if (v.2.2.1 == 458753) = true then (some true) else some s.1).bind fun j_54=>some ((0:Int),j_54)) else some (1,s.1)) =
          some ((if fAr x.1.xs[v.1.toNat] = true then (0:Int) else 1),(if fAr x.1.xs[v.1.toNat] = true then s.1 || v.2.2.1 == 458753 else s.1)):=by
        show (if fAr x.1.xs[v.1.toNat] = true then _ else _) = _
        cases fAr x.1.xs[v.1.toNat] with
        | true =>
          rw [if_pos rfl]
          cases (v.2.2.1 == 458753) <;> simp
        | false=>rfl
      rw [e1,Option.bind_some,b_0 (b:=decide (v.2.2.1 ≥ 458756)) (c:=decide (v.2.2.1 ≤ 459007)) (fun _=>rfl),Option.bind_some]
      rw [show (decide (v.2.2.1 ≥ 458756) && decide (v.2.2.1 ≤ 459007)) = isK v.2.2.1 from rfl,b_0 (b:=isK v.2.2.1) (c:=v.2.2.2 != 0) (fun _=>rfl),Option.bind_some]
      have e2:(if (isK v.2.2.1 && v.2.2.2 != 0) = true then ((idx s.2 (if fAr x.1.xs[v.1.toNat] = true then (0:Int) else 1)).bind fun y_141=>(idx y_141 (IntKind.wrap .u32 (v.2.2.1 - 458752))).bind fun y_189=>some (s.2.set (if fAr x.1.xs[v.1.toNat] = true then (0:Int) else 1).toNat (y_141.set (IntKind.wrap .u32 (v.2.2.1 - 458752)).toNat true))) else some s.2) = some (stV x.1.xs s v).2:=by
        unfold stV
        simp only [har]
        cases hc:(isK v.2.2.1 && v.2.2.2 != 0) with
        | false=>rfl
        | true =>
          have hk:=e_r (Bool.and_eq_true _ _ ▸ hc).1
          obtain ⟨a,z,e,hx,hz⟩:=hs
          have em:IntKind.wrap .u32 (v.2.2.1 - 458752) = ((v.2.2.1 - 458752).toNat:Int):=by rw [c_C];omega
          rw [if_pos rfl,if_pos rfl,e,em,idx01,Option.bind_some]
          have hl:(v.2.2.1 - 458752).toNat < (([a,z]:List (List Bool)).getD (if fAr x.1.xs[v.1.toNat] = true then 0 else 1) []).length:=by
            cases fAr x.1.xs[v.1.toNat]
            · show _ < z.length;rw [hz.1];omega
            · show _ < a.length;rw [hx.1];omega
          rw [a_3 hl,Option.bind_some]
          cases fAr x.1.xs[v.1.toNat] <;> rfl
      rw [e2,Option.bind_some,ckS (by omega) (by omega),Option.bind_some,a_U]
      have e3:(if fAr x.1.xs[v.1.toNat] = true then s.1 || v.2.2.1 == 458753 else s.1) = (stV x.1.xs s v).1:=by
        unfold stV
        simp only [har]
      rw [e3]
      exact ih (i + 1) (stV x.1.xs s v) (stV_ok _ _ _ hs) (by omega) (by omega)
    · rw [c_f (by rw [a_E];omega),List.drop_eq_nil_of_le (by omega)]
      rfl
theorem c_F {a b:List Bool} (ha:a.length = 256) (hb:b.length = 256) (h:∀ k,k < 256 → a_0 a k = a_0 b k):a = b:=by
  refine List.ext_getElem (by omega) fun k h1 h2=>?_
  have:=h k (by omega)
  unfold a_0 at this
  rw [List.getD_eq_getElem?_getD,List.getD_eq_getElem?_getD,List.getElem?_eq_getElem h1,List.getElem?_eq_getElem h2] at this
  exact this
theorem e_L {a:List Bool} {i k:Nat} {b:Bool} (hi:i < a.length):a_0 (a.set i b) k = if k = i then b else a_0 a k:=by
  unfold a_0
  rw [List.getD_eq_getElem?_getD,List.getElem?_set]
  by_cases h:i = k
  · subst h;simp [hi]
  · rw [if_neg h,if_neg (fun e=>h e.symm),← List.getD_eq_getElem?_getD]
abbrev Sh:=List (List Bool)
def hasK (k:Nat) (X:Sh):Bool:=a_0 (X.getD 0 []) k || a_0 (X.getD 1 []) k
def orX (s:List Bool) (X:Sh):List Bool:=(List.range 256).map fun k=>a_0 s k || hasK k X
theorem c_o (s:List Bool) (X:Sh):(orX s X).length = 256:=by unfold orX;rw [List.length_map,List.length_range]
theorem b_X (s:List Bool) (X:Sh) {k:Nat} (h:k < 256):a_0 (orX s X) k = (a_0 s k || hasK k X):=by
  unfold orX
  conv=>lhs;unfold a_0
  rw [List.getD_eq_getElem?_getD,List.getElem?_map,List.getElem?_range h];rfl
theorem orX_comm (s:List Bool) (X Y:Sh):orX (orX s X) Y = orX (orX s Y) X:=c_F (c_o _ _) (c_o _ _) fun k h=>by
  rw [b_X _ _ h,b_X _ _ h,b_X _ _ h,b_X _ _ h,Bool.or_assoc,Bool.or_assoc,Bool.or_comm (hasK k X)]
theorem p12_l3_eq (n:Nat) (x y:List Bool) (hx:x.length = 256) (hy:y.length = 256):∀ (m i:Nat) (c:List Bool),c.length = 256 → 256 - i < m → i ≤ 256 →
    ∃ c',p12_l3 n [x,y] m i c = some c' ∧ c'.length = 256 ∧ ∀ k,k < 256 → a_0 c' k = (a_0 c k || (decide (i ≤ k) && hasK k [x,y])):=by
  intro m
  induction m with
  | zero=>intro i c hc hm;exact absurd hm (by omega)
  | succ m ih =>
    intro i c hc hm hi
    rw [p12_l3]
    by_cases hlt:i < 256
    · rw [b_Z (by omega),a_3 (by omega),Option.bind_some,orO (b:=a_0 c i) (c:=a_0 x i) (fun _=>by rw [show idx ([x,y]:Sh) 0 = some x from rfl,Option.bind_some,a_3 (by omega)];rfl),Option.bind_some,
        orO (c:=a_0 y i) (fun _=>by rw [show idx ([x,y]:Sh) 1 = some y from rfl,Option.bind_some,a_3 (by omega)];rfl),Option.bind_some,Option.bind_some,ckS (by omega) (by omega),Option.bind_some,a_U]
      obtain ⟨c',h1,h2,h3⟩:=ih (i + 1) (c.set i (a_0 c i || a_0 x i || a_0 y i)) (by rw [List.length_set];exact hc) (by omega) (by omega)
      refine ⟨c',h1,h2,fun k hk=>?_⟩
      rw [h3 k hk,e_L (by omega)]
      by_cases hki:k = i
      · subst hki
        rw [if_pos rfl,decide_eq_false (by omega),decide_eq_true (Nat.le_refl _)]
        simp [hasK,Bool.or_assoc]
      · rw [if_neg hki]
        congr 2
        exact decide_eq_decide.2 (by omega)
    · rw [c_f (by omega)]
      exact ⟨c,rfl,hc,fun k hk=>by rw [decide_eq_false (by omega)];simp⟩
theorem p12_l2_eq {n:Nat} (hn:300 ≤ n) (z:Int) (X:Sh) (hX:okN X) (s:List Bool) (hs:s.length = 256):p12_l2_b n z X s = some (orX s X):=by
  obtain ⟨x,y,rfl,hx,hy⟩:=hX
  obtain ⟨c',h1,h2,h3⟩:=p12_l3_eq n x y hx.1 hy.1 n 0 s hs (by omega) (by omega)
  rw [show ((0:Nat):Int) = 0 from rfl] at h1
  unfold p12_l2_b
  rw [h1,Option.bind_some]
  refine congrArg some (c_F h2 (c_o _ _) fun k hk=>?_)
  rw [h3 k hk,b_X _ _ hk]
  simp
theorem p24_l3_eq (n:Nat) (Y:Mdl) (z:Int) (j:Sh) (r:Int) (x y:List Bool) (hr:idx (Y.1.set z.toNat j) r = some [x,y]) (hx:x.length = 256) (hy:y.length = 256):∀ (m i:Nat) (c:List Bool),c.length = 256 → 256 - i < m → i ≤ 256 →
    ∃ c',p24_l3 n Y z j r m i c = some c' ∧ c'.length = 256 ∧ ∀ k,k < 256 → a_0 c' k = (a_0 c k || (decide (i ≤ k) && hasK k [x,y])):=by
  intro m
  induction m with
  | zero=>intro i c hc hm;exact absurd hm (by omega)
  | succ m ih =>
    intro i c hc hm hi
    rw [p24_l3]
    by_cases hlt:i < 256
    · rw [b_Z (by omega),a_3 (by omega),Option.bind_some,orO (b:=a_0 c i) (c:=a_0 x i) (fun _=>by rw [hr,Option.bind_some,show idx ([x,y]:Sh) 0 = some x from rfl,Option.bind_some,a_3 (by omega)];rfl),Option.bind_some,
        orO (c:=a_0 y i) (fun _=>by rw [hr,Option.bind_some,show idx ([x,y]:Sh) 1 = some y from rfl,Option.bind_some,a_3 (by omega)];rfl),Option.bind_some,Option.bind_some,ckS (by omega) (by omega),Option.bind_some,a_U]
      obtain ⟨c',h1,h2,h3⟩:=ih (i + 1) (c.set i (a_0 c i || a_0 x i || a_0 y i)) (by rw [List.length_set];exact hc) (by omega) (by omega)
      refine ⟨c',h1,h2,fun k hk=>?_⟩
      rw [h3 k hk,e_L (by omega)]
      by_cases hki:k = i
      · subst hki
        rw [if_pos rfl,decide_eq_false (by omega),decide_eq_true (Nat.le_refl _)]
        simp [hasK,Bool.or_assoc]
      · rw [if_neg hki]
        congr 2
        exact decide_eq_decide.2 (by omega)
    · rw [c_f (by omega)]
      exact ⟨c,rfl,hc,fun k hk=>by rw [decide_eq_false (by omega)];simp⟩
theorem p24_l2_eq {n:Nat} (hn:300 ≤ n) (Y:Mdl) (z:Int) (j:Sh) (hl:(Y.1.set z.toNat j).length = 3) (hk:∀ X ∈ Y.1.set z.toNat j,okN X):∀ (m i:Nat) (c:List Bool),c.length = 256 → 3 - i < m → i ≤ 3 →
    p24_l2 n Y z j m i c = some (((Y.1.set z.toNat j).drop i).foldl orX c):=by
  intro m
  induction m with
  | zero=>intro i c hc hm;exact absurd hm (by omega)
  | succ m ih =>
    intro i c hc hm hi
    rw [p24_l2]
    by_cases hlt:i < 3
    · have hli:i < (Y.1.set z.toNat j).length:=by omega
      obtain ⟨x,y,e,hx,hy⟩:=hk _ (List.getElem_mem hli)
      obtain ⟨c',h1,h2,h3⟩:=p24_l3_eq n Y z j i x y (by rw [c_9 hli,e]) hx.1 hy.1 n 0 c hc (by omega) (by omega)
      rw [show ((0:Nat):Int) = 0 from rfl] at h1
      rw [b_Z (by omega),h1,Option.bind_some,ckS (by omega) (by omega),Option.bind_some,a_U,ih (i + 1) c' h2 (by omega) (by omega),a_P hli,List.foldl_cons,e]
      congr 2
      refine c_F h2 (c_o _ _) fun k hk=>?_
      rw [h3 k hk,b_X _ _ hk]
      simp
    · rw [c_f (by omega),List.drop_eq_nil_of_le (by omega)];rfl
theorem sameA_all {σ:Type} [DecidableEq σ] {l:List (Option σ)} {z:σ} (h:∀ y ∈ l,y = some z) (hn:l ≠ []):sameA l = some z:=by
  cases l with
  | nil=>exact absurd rfl hn
  | cons x l =>
    have hx:=h x (List.mem_cons_self ..)
    show (if ∀ y ∈ l,y = x then x else .none) = some z
    rw [if_pos fun y hy=>by rw [hx];exact h y (List.mem_cons_of_mem _ hy)]
    exact hx
theorem d_i {α:Type} {o:α}:∀ {L:List α} {i:Nat},L[i]? = some o → (o :: L.eraseIdx i).Perm L
  | [],_,h=>by simp at h
  | y :: L,0,h=>by
    obtain rfl:y = o:=by simpa using h
    exact List.Perm.refl _
  | y :: L,i + 1,h=>(List.Perm.swap y o (L.eraseIdx i)).trans ((d_i (L:=L) (i:=i) (by simpa using h)).cons y)
theorem c_8 {σ α:Type} [DecidableEq σ] {f:α → σ → Option σ} {g:σ → α → σ} {Pa:α → Prop} {Ps:σ → Prop} (hf:∀ x s,Pa x → Ps s → f x s = some (g s x)) (hg:∀ x s,Pa x → Ps s → Ps (g s x)) (hc:∀ x y s,g (g s x) y = g (g s y) x) :
    ∀ (m:Nat) (xs:List α) (s:σ),xs.length = m → (∀ x ∈ xs,Pa x) → Ps s → c_b f m xs s = some (xs.foldl g s)
  | 0,xs,s,hl,_,_=>by
    rw [List.eq_nil_of_length_eq_zero hl];rfl
  | m + 1,xs,s,hl,hP,hs=>by
    show sameA ((List.range xs.length).map fun i=>(xs[i]?).bind fun x=>(f x s).bind (c_b f m (xs.eraseIdx i))) = _
    refine sameA_all (fun y hy=>?_) (by rw [hl];simp)
    obtain ⟨i,hi,rfl⟩:=List.mem_map.1 hy
    have hil:i < xs.length:=List.mem_range.1 hi
    have hx:=List.getElem_mem hil
    rw [List.getElem?_eq_getElem hil,Option.bind_some,hf _ _ (hP _ hx) hs,Option.bind_some,
      c_8 hf hg hc m (xs.eraseIdx i) _ (by rw [List.length_eraseIdx_of_lt hil];omega) (fun x hx=>hP x (List.mem_of_mem_eraseIdx hx)) (hg _ _ (hP _ hx) hs)]
    have hp:=d_i (L:=xs) (List.getElem?_eq_getElem hil)
    rw [← List.foldl_cons]
    refine congrArg some (List.Perm.foldl_eq' ?_ (fun x _ y _ z=>hc x y z) s)
    first | exact hp | exact hp.symm
theorem d_A (l:List Sh):∀ (s:List Bool) {k:Nat},k < 256 → a_0 (l.foldl orX s) k = (a_0 s k || l.any (hasK k)):=by
  induction l with
  | nil=>intro s k hk;simp
  | cons X l ih=>intro s k hk;rw [List.foldl_cons,ih _ hk,b_X _ _ hk,List.any_cons,Bool.or_assoc]
theorem e_M (l:List Sh):∀ (s:List Bool),s.length = 256 → (l.foldl orX s).length = 256:=by
  induction l with
  | nil=>intro s h;exact h
  | cons X l ih=>intro s h;rw [List.foldl_cons];exact ih _ (c_o _ _)
def Zs:List Bool:=List.replicate 256 false
def Z2:Sh:=List.replicate 2 Zs
theorem e_N (k:Nat):a_0 Zs k = false:=by
  unfold a_0 Zs
  rw [List.getD_eq_getElem?_getD,List.getElem?_replicate]
  split <;> rfl
theorem Zs_ok:okS Zs:=⟨List.length_replicate,e_N 0⟩
theorem e_8:okN Z2:=⟨Zs,Zs,rfl,Zs_ok,Zs_ok⟩
theorem Z2_bit (k:Nat):hasK k Z2 = false:=by
  show (a_0 Zs k || a_0 Zs k) = false
  rw [e_N];rfl
structure RelC (c:List (Int × Sh)) (sh:List Sh):Prop where
  nd:(c.map (·.1)).Nodup
  rg:∀ kx ∈ c,(0 ≤ kx.1 ∧ kx.1 ≤ 2) ∧ okN kx.2
  ln:sh.length = 3
  at_:∀ r:Nat,r < 3 → ∃ X,sh[r]? = some X ∧ (((r:Int),X) ∈ c ∨ ((r:Int) ∉ c.map (·.1) ∧ X = Z2))
theorem RelC.nil:RelC [] [Z2,Z2,Z2]:=⟨by simp,by simp,rfl,fun r hr=>⟨Z2,by match r,hr with | 0,_=>rfl | 1,_=>rfl | 2,_=>rfl,.inr ⟨by simp,rfl⟩⟩⟩
theorem RelC.ok {c:List (Int × Sh)} {sh:List Sh} (h:RelC c sh):∀ X ∈ sh,okN X:=fun X hX=>by
  obtain ⟨r,hr⟩:=List.mem_iff_getElem?.1 hX
  have hl:r < 3:=by rw [← h.ln];exact (List.getElem?_eq_some_iff.1 hr).1
  obtain ⟨Y,h1,h2⟩:=h.at_ r hl
  rw [hr] at h1
  obtain rfl:=Option.some.inj h1
  rcases h2 with h2 | ⟨_,rfl⟩
  · exact (h.rg _ h2).2
  · exact e_8
theorem e_s {c:List (Int × Sh)} {j:Nat} {z:Int} {X Y:Sh} (h:c[j]? = some (z,X)):(c.set j (z,Y)).map (·.1) = c.map (·.1):=by
  refine List.ext_getElem? fun i=>?_
  simp only [List.getElem?_map,List.getElem?_set]
  by_cases hi:j = i
  · subst hi
    have hl:j < c.length:=(List.getElem?_eq_some_iff.1 h).1
    have:c[j] = (z,X):=(List.getElem?_eq_some_iff.1 h).2
    simp [hl,this]
  · simp [hi]
theorem uniq {c:List (Int × Sh)} (hn:(c.map (·.1)).Nodup) {z:Int} {X Y:Sh} (h1:(z,X) ∈ c) (h2:(z,Y) ∈ c):X = Y:=by
  obtain ⟨i,hi⟩:=List.mem_iff_getElem?.1 h1
  obtain ⟨j,hj⟩:=List.mem_iff_getElem?.1 h2
  have e:i = j:=c_D hn (z:=z) (by simp [hi]) (by simp [hj])
  subst e
  rw [hi] at hj
  exact (Prod.mk.inj (Option.some.inj hj)).2
theorem RelC.put {c:List (Int × Sh)} {sh:List Sh} (h:RelC c sh) {c1:List (Int × Sh)} {j:Nat} {z:Int} {X0 now:Sh} (hz:0 ≤ z ∧ z ≤ 2) (hj:c1[j]? = some (z,X0)) (hnd:(c1.map (·.1)).Nodup) (hin:∀ kx ∈ c1,kx ∈ c ∨ kx.1 = z) (hout:∀ kx ∈ c,kx ∈ c1) (ho:okN now) :
    RelC (c1.set j (z,now)) (sh.set z.toNat now):=by
  have hm:(c1.set j (z,now)).map (·.1) = c1.map (·.1):=e_s hj
  have hjl:j < c1.length:=(List.getElem?_eq_some_iff.1 hj).1
  refine ⟨by rw [hm];exact hnd,fun kx hk=>?_,by rw [List.length_set];exact h.ln,fun r hr=>?_⟩
  · rcases List.mem_or_eq_of_mem_set hk with hk | rfl
    · rcases hin kx hk with hk | e
      · exact h.rg kx hk
      · refine ⟨by rw [e];exact hz,?_⟩
        obtain ⟨i,hi⟩:=List.mem_iff_getElem?.1 ‹kx ∈ c1.set j (z,now)›
        by_cases hij:i = j
        · subst hij
          rw [List.getElem?_set_self hjl] at hi
          rw [← Option.some.inj hi];exact ho
        · rw [List.getElem?_set_ne (Ne.symm hij)] at hi
          have e2:i = j:=c_D hnd (z:=z) (by simp [hi,e]) (by simp [hj])
          exact absurd e2 hij
    · exact ⟨hz,ho⟩
  · by_cases hrz:(r:Int) = z
    · refine ⟨now,?_,.inl ?_⟩
      · rw [show z.toNat = r by omega,List.getElem?_set_self (by rw [h.ln];exact hr)]
      · rw [hrz];exact List.mem_iff_getElem?.2 ⟨j,List.getElem?_set_self hjl⟩
    · obtain ⟨X,h1,h2⟩:=h.at_ r hr
      refine ⟨X,by rw [List.getElem?_set_ne (by omega)];exact h1,?_⟩
      rcases h2 with h2 | ⟨h2,rfl⟩
      · left
        obtain ⟨i,hi⟩:=List.mem_iff_getElem?.1 (hout _ h2)
        have hij:i ≠ j:=fun e=>by
          subst e
          rw [hi] at hj
          exact hrz (Prod.mk.inj (Option.some.inj hj)).1
        exact List.mem_iff_getElem?.2 ⟨i,by rw [List.getElem?_set_ne hij.symm];exact hi⟩
      · right
        refine ⟨fun hm'=>?_,rfl⟩
        rw [hm] at hm'
        obtain ⟨kx,hk,e⟩:=List.mem_map.1 hm'
        rcases hin kx hk with hk | e2
        · exact h2 (List.mem_map.2 ⟨kx,hk,e⟩)
        · exact hrz (e.symm.trans e2)
theorem lookM_rel {c:List (Int × Sh)} {sh:List Sh} (h:RelC c sh) {z:Int} (hz:0 ≤ z ∧ z ≤ 2):∃ j X c1,sh[z.toNat]? = some X ∧ okN X ∧ d_V z Z2 c = some (j,X,c1) ∧ ∀ now,okN now → RelC (c1.set j (z,now)) (sh.set z.toNat now):=by
  obtain ⟨X,hX,hc⟩:=h.at_ z.toNat (by omega)
  rw [show ((z.toNat:Nat):Int) = z by omega] at hc
  have hok:=h.ok X (List.mem_of_getElem? hX)
  rcases hc with hc | ⟨hc,rfl⟩
  · obtain ⟨j,hj⟩:=List.mem_iff_getElem?.1 hc
    have hjl:j < c.length:=(List.getElem?_eq_some_iff.1 hj).1
    have hf:∃ i,c.findIdx? (fun kx=>decide (kx.1 = z)) = some i:=by
      cases hf:c.findIdx? (fun kx=>decide (kx.1 = z)) with
      | some i=>exact ⟨i,rfl⟩
      | none =>
        have:=List.findIdx?_eq_none_iff.1 hf _ hc
        simp at this
    obtain ⟨i,hi⟩:=hf
    obtain ⟨hl,h1,_⟩:=List.findIdx?_eq_some_iff_getElem.1 hi
    have h1:c[i].1 = z:=by simpa using h1
    have e:i = j:=c_D h.nd (z:=z) (by simp [List.getElem?_map,List.getElem?_eq_getElem hl,h1]) (by simp [List.getElem?_map,hj])
    subst e
    refine ⟨i,X,c,hX,hok,?_,fun now hn=>h.put hz hj h.nd (fun kx hk=>.inl hk) (fun kx hk=>hk) hn⟩
    unfold d_V
    rw [hi]
    show (c[i]?).map _ = _
    rw [hj];rfl
  · have hf:c.findIdx? (fun kx=>decide (kx.1 = z)) = none:=List.findIdx?_eq_none_iff.2 fun kx hk=>by
      have:kx.1 ≠ z:=fun e=>hc (List.mem_map.2 ⟨kx,hk,e⟩)
      simpa using this
    have hnd:((c ++ [(z,Z2)]).map (·.1)).Nodup:=by
      rw [List.map_append,List.nodup_append]
      refine ⟨h.nd,by simp,fun x hx y hy e=>hc ?_⟩
      simp at hy
      rw [← hy,← e];exact hx
    have hlen:c.length < 3:=by
      have hn2:(((c ++ [(z,Z2)]).map (·.1)).map Int.toNat).Nodup:=by
        unfold List.Nodup at hnd ⊢
        rw [List.pairwise_map]
        refine (List.Pairwise.and_mem.1 hnd).imp fun ⟨ha,hb,hab⟩=>?_
        have rng:∀ x ∈ (c ++ [(z,Z2)]).map (·.1),0 ≤ x ∧ x ≤ 2:=fun x hx=>by
          rw [List.map_append,List.mem_append] at hx
          rcases hx with hx | hx
          · obtain ⟨kx,hk,rfl⟩:=List.mem_map.1 hx
            exact (h.rg kx hk).1
          · simp at hx;rw [hx];exact hz
        have:=rng _ ha;have:=rng _ hb
        omega
      have:=d_U 3 hn2 fun k hk=>by
        obtain ⟨x,hx,rfl⟩:=List.mem_map.1 hk
        rw [List.map_append,List.mem_append] at hx
        rcases hx with hx | hx
        · obtain ⟨kx,hk2,rfl⟩:=List.mem_map.1 hx
          have:=(h.rg kx hk2).1;omega
        · simp at hx;omega
      simp at this
      omega
    refine ⟨c.length,Z2,c ++ [(z,Z2)],hX,hok,?_,fun now hn=>h.put hz (X0:=Z2) (by simp) hnd (fun kx hk=>?_) (fun kx hk=>List.mem_append.2 (.inl hk)) hn⟩
    · unfold d_V
      rw [hf]
      show (if c.length < 3 then _ else _) = _
      rw [if_pos hlen]
    · rcases List.mem_append.1 hk with hk | hk
      · exact .inl hk
      · exact .inr (by rw [List.mem_singleton.1 hk])
def e_t (sh:List Sh):List Bool:=sh.foldl orX Zs
theorem c_G (sh:List Sh):(e_t sh).length = 256:=e_M _ _ Zs_ok.1
theorem allK_rel {c:List (Int × Sh)} {sh:List Sh} (h:RelC c sh):(c.map (·.2)).foldl orX Zs = e_t sh:=by
  refine c_F (e_M _ _ Zs_ok.1) (c_G _) fun k hk=>?_
  unfold e_t
  rw [d_A _ _ hk,d_A _ _ hk,e_N,Bool.false_or,Bool.false_or,Bool.eq_iff_iff,List.any_eq_true,List.any_eq_true]
  constructor
  · rintro ⟨X,hX,hk⟩
    obtain ⟨⟨r,X'⟩,hm,rfl⟩:=List.mem_map.1 hX
    have hr:=(h.rg _ hm).1
    obtain ⟨Y,h1,h2⟩:=h.at_ r.toNat (by have:=hr;simp only at this;omega)
    rw [show ((r.toNat:Nat):Int) = r by have:=hr;simp only at this;omega] at h2
    rcases h2 with h2 | ⟨h2,_⟩
    · have:=uniq h.nd hm h2
      subst this
      exact ⟨_,List.mem_of_getElem? h1,hk⟩
    · exact absurd (List.mem_map.2 ⟨_,hm,rfl⟩) h2
  · rintro ⟨X,hX,hk⟩
    obtain ⟨r,hr⟩:=List.mem_iff_getElem?.1 hX
    have hl:r < 3:=by rw [← h.ln];exact (List.getElem?_eq_some_iff.1 hr).1
    obtain ⟨Y,h1,h2⟩:=h.at_ r hl
    rw [hr] at h1
    obtain rfl:=Option.some.inj h1
    rcases h2 with h2 | ⟨_,rfl⟩
    · exact ⟨X,List.mem_map.2 ⟨_,h2,rfl⟩,hk⟩
    · rw [Z2_bit] at hk;cases hk
theorem allK_0 {sh:List Sh} (h:∀ X ∈ sh,okN X):a_0 (e_t sh) 0 = false:=by
  unfold e_t
  rw [d_A _ _ (by decide),e_N,Bool.false_or,List.any_eq_false]
  intro X hX
  obtain ⟨x,y,rfl,hx,hy⟩:=h X hX
  show ¬ (a_0 x 0 || a_0 y 0) = true
  rw [hx.2,hy.2];decide
def c_H (fs:List Fd) (vs:List Vl) (X:Sh):Sh :=
  let F:=vs.foldl (stV fs) (false,Z2)
  if F.1 = true then F.2.set 0 (X.getD 0 []) else F.2
theorem nowF_ok (fs:List Fd) (vs:List Vl) {X:Sh} (hX:okN X):okN (c_H fs vs X):=by
  unfold c_H
  have h:=d_z fs vs (false,Z2) e_8
  simp only
  cases (vs.foldl (stV fs) (false,Z2)).1 with
  | false=>exact h
  | true =>
    obtain ⟨x,y,e,hx,hy⟩:=h
    obtain ⟨x',y',rfl,hx',hy'⟩:=hX
    rw [if_pos rfl,e]
    exact ⟨x',y,rfl,hx',hy⟩
theorem e_O (F:Bool × Sh) {X:Sh} (hF:okN F.2) (hX:okN X):(if F.1 = true then ((idx X 0).bind fun a=>(idx F.2 0).bind fun _=>some (F.2.set (0:Int).toNat a)) else some F.2) = some (if F.1 = true then F.2.set 0 (X.getD 0 []) else F.2):=by
  obtain ⟨x,y,e,hx,hy⟩:=hF
  obtain ⟨x',y',rfl,hx',hy'⟩:=hX
  cases F.1 with
  | false=>rfl
  | true=>rw [if_pos rfl,if_pos rfl,e];rfl
theorem p24_eq {n:Nat} (hn:1000200 ≤ n ∨ 300 ≤ n) (hn3:300 ≤ n) (Y:Mdl) (x:Mpt) (z:Int) (vs:Sl Vl) (hL:vs.xs.length < n) (hL2:vs.xs.length ≤ 1000000) (hv:∀ v ∈ vs.xs,0 ≤ v.1 ∧ v.1 < x.1.xs.length) {X:Sh} (hz:0 ≤ z ∧ z ≤ 2) (hX:Y.1[z.toNat]? = some X) (hY:∀ X ∈ Y.1,okN X) (hl:Y.1.length = 3) (hd:Y.2.1.length = 256) :
    p24 n Y x z vs = some (⟨d_x Y.2.1 (e_t (Y.1.set z.toNat (c_H x.1.xs vs.xs X))),.none⟩,nxt (Y.1.set z.toNat (c_H x.1.xs vs.xs X),Y.2) (e_t (Y.1.set z.toNat (c_H x.1.xs vs.xs X)))):=by
  have hXo:=hY X (List.mem_of_getElem? hX)
  have e1:=p24_l1_eq n x vs hL2 hv n 0 (false,Z2) e_8 (by omega) (by omega)
  rw [show ((0:Nat):Int) = 0 from rfl,List.drop_zero] at e1
  have hFo:=d_z x.1.xs vs.xs (false,Z2) e_8
  have hz2:idx Y.1 z = some X:=by
    unfold idx
    rw [if_pos hz.1];exact hX
  have hset:∀ X' ∈ Y.1.set z.toNat (c_H x.1.xs vs.xs X),okN X':=fun X' h=>by
    rcases List.mem_or_eq_of_mem_set h with h | rfl
    · exact hY _ h
    · exact nowF_ok _ _ hXo
  have e2:=p24_l2_eq hn3 Y z (c_H x.1.xs vs.xs X) (by rw [List.length_set];exact hl) hset n 0 Zs Zs_ok.1 (by omega) (by omega)
  rw [show ((0:Nat):Int) = 0 from rfl,List.drop_zero] at e2
  unfold p24
  refine (congrArg (fun q=>Option.bind q _) e1).trans ?_
  rw [Option.bind_some]
  generalize hF:vs.xs.foldl (stV x.1.xs) (false,Z2) = F at hFo
  rw [hz2]
  have e3:=e_O F hFo hXo
  rw [Option.bind_some]
  refine (congrArg (fun q=>Option.bind q _) e3).trans ?_
  rw [Option.bind_some,Option.bind_some]
  have e4:(if F.1 = true then F.2.set 0 (X.getD 0 []) else F.2) = c_H x.1.xs vs.xs X:=by unfold c_H;rw [hF]
  rw [e4]
  refine (congrArg (fun q=>Option.bind q _) e2).trans ?_
  rw [Option.bind_some]
  have e5:=p21_eq hn3 (Y.1.set z.toNat (c_H x.1.xs vs.xs X),Y.2) (e_t (Y.1.set z.toNat (c_H x.1.xs vs.xs X))) hd (c_G _)
  refine (congrArg (fun q=>Option.bind q _) e5).trans ?_
  rfl
def kbx (y:KBt) (x:List Bool):KBt :=
  let A:=sfx (upP x y.1) 0
  let h:=hz (sfx (upP y.1 x) 0) y.2.2.2.2.2.1
  (x,y.2.1,y.2.2.1,lt A y.2.2.2.1,y.2.2.2.2.1,(if gr A 0 > 0 then gr A 0 else h),(if gr A 0 > 0 then 0 else y.2.2.2.2.2.2.1),y.2.2.2.2.2.2.2)
theorem e_P (a b:List Bool):(d_x a b).length ≤ 512:=by
  unfold d_x
  rw [List.length_append,e_o,evD_len]
  have:=c_7 (upP a b) 0
  have:=c_7 (upP b a) 0
  omega
theorem p12_eq {n:Nat} (hn:1200 ≤ n) (y:KBt) (c:List (Int × Sh)) (b:Sl Int) (vs:Sl Vl) (z:Int) (hr:y.2.2.1 = true) (hlk:y.2.2.2.2.2.2.2 = [83,57,71]) (hy:y.1.length = 256) (hv:p23 n y.2.1 1 b = some (vs,0)) (hL:vs.xs.length < n) (hL2:vs.xs.length ≤ 1000000) (hvr:∀ v ∈ vs.xs,0 ≤ v.1 ∧ v.1 < y.2.1.1.xs.length)
    (hnum:(if y.2.1.2.2 = true then ((idx b.xs 0).bind fun q=>some q) else some 0) = some z) (hz:0 ≤ z ∧ z ≤ 2) {sh:List Sh} (R:RelC c sh) {X:Sh} (hX:sh[z.toNat]? = some X) :
    ∃ c',RelC c' (sh.set z.toNat (c_H y.2.1.1.xs vs.xs X)) ∧
      p12 n y c b = some (⟨d_x y.1 (e_t (sh.set z.toNat (c_H y.2.1.1.xs vs.xs X))),some (d_x y.1 (e_t (sh.set z.toNat (c_H y.2.1.1.xs vs.xs X)))).length⟩,0,kbx y (e_t (sh.set z.toNat (c_H y.2.1.1.xs vs.xs X))),c'):=by
  obtain ⟨j,X2,c1,hX2,hXo,hlook,hput⟩:=lookM_rel R hz
  rw [hX] at hX2
  obtain rfl:=Option.some.inj hX2
  have R':=hput _ (nowF_ok y.2.1.1.xs vs.xs hXo)
  refine ⟨_,R',?_⟩
  have e1:=p12_l1_eq n y (vs,0) hL2 hvr n 0 (false,Z2) e_8 (by show vs.xs.length - 0 < n;omega) (by omega)
  rw [show ((0:Nat):Int) = 0 from rfl,List.drop_zero] at e1
  have hFo:=d_z y.2.1.1.xs vs.xs (false,Z2) e_8
  have e3:=e_O (vs.xs.foldl (stV y.2.1.1.xs) (false,Z2)) hFo hXo
  have e4:(if (vs.xs.foldl (stV y.2.1.1.xs) (false,Z2)).1 = true then (vs.xs.foldl (stV y.2.1.1.xs) (false,Z2)).2.set 0 (X.getD 0 []) else (vs.xs.foldl (stV y.2.1.1.xs) (false,Z2)).2) = c_H y.2.1.1.xs vs.xs X:=rfl
  rw [e4] at e3
  generalize hnow:c_H y.2.1.1.xs vs.xs X = now at *
  have e5:c_b (fun (kx_:Int × Sh) (s_:List Bool)=>p12_l2_b n kx_.1 kx_.2 s_) (c1.set j (z,now)).length (c1.set j (z,now)) Zs = some (e_t (sh.set z.toNat now)):=by
    rw [c_8 (g:=fun s (kx:Int × Sh)=>orX s kx.2) (Pa:=fun kx=>okN kx.2) (Ps:=fun s=>s.length = 256) (fun kx s h1 h2=>p12_l2_eq (by omega) kx.1 kx.2 h1 s h2) (fun kx s _ _=>c_o _ _) (fun kx ky s=>orX_comm s kx.2 ky.2) _ _ _ rfl (fun kx hk=>(R'.rg kx hk).2) Zs_ok.1]
    rw [← allK_rel R',List.foldl_map]
  have hn0:a_0 (e_t (sh.set z.toNat now)) 0 = false:=allK_0 R'.ok
  have hnl:=c_G (sh.set z.toNat now)
  generalize e_t (sh.set z.toNat now) = nx at *
  obtain ⟨f,e6⟩:=foldE y.1 nx hn0 y.2.2.2.1 y.2.2.2.2.2.1 y.2.2.2.2.2.2.1
  have e7:=p33_eq (by omega:300 ≤ n) y nx hy hnl
  have e8:=p12_l4_eq n (by omega) (⟨d_x y.1 nx,some (d_x y.1 nx).length⟩,(nx,y.2)) n 0 true (nx,y.2) hlk (Nat.le_trans (e_P _ _) (by omega)) (by have:=e_P y.1 nx;show (d_x y.1 nx).length - 0 < n;omega) (by omega)
  rw [show ((0:Nat):Int) = 0 from rfl,List.drop_zero] at e8
  simp only [e6] at e8
  unfold p12
  rw [hr,if_neg (show ¬ ((!true) = true) by decide),hv,Option.bind_some,if_neg (show ¬ (((0:Int) != 0) = true) by decide)]
  refine (congrArg (fun q=>Option.bind q _) hnum).trans ?_
  rw [Option.bind_some]
  refine (congrArg (fun q=>Option.bind q _) hlook).trans ?_
  rw [Option.bind_some]
  refine (congrArg (fun q=>Option.bind q _) e1).trans ?_
  rw [Option.bind_some]
  refine (congrArg (fun q=>Option.bind q _) e3).trans ?_
  rw [Option.bind_some]
  refine (congrArg (fun q=>Option.bind q _) e5).trans ?_
  rw [Option.bind_some]
  have ey:(y.1,y.2.1,true,y.2.2.2.1,y.2.2.2.2.1,y.2.2.2.2.2.1,y.2.2.2.2.2.2.1,y.2.2.2.2.2.2.2) = y:=by rw [← hr]
  rw [ey]
  refine (congrArg (fun q=>Option.bind q _) e7).trans ?_
  rw [Option.bind_some]
  refine (congrArg (fun q=>Option.bind q _) e8).trans ?_
  rfl
def TR (tc tm:Int):Prop:=0 ≤ tc ∧ tc ≤ 22 ∧ ∃ q:Int,0 ≤ q ∧ tm = tc + 3 * q ∧ (q = 0 ∨ 20 ≤ tc)
theorem TR.zero:TR 0 0:=⟨by decide,by decide,0,by decide,by decide,.inl rfl⟩
def cpF (f:Fd):Fd:=(f.1,f.2.1,f.2.2.1,(⟨f.2.2.2.1.xs,b_B (some 0) f.2.2.2.1.xs.length⟩:Sl Int),f.2.2.2.2)
def cpM (m:Mpt):Mpt:=(⟨m.1.xs.map cpF,.none⟩,⟨[],some 0⟩,m.2.2)
theorem sumC_cp (fs:List Fd) (k r:Int):d_v (fs.map cpF) k r = d_v fs k r:=by
  unfold d_v
  rw [List.filter_map,List.map_map]
  rfl
theorem e_u (fs:List Fd) (k r:Int):c_c (fs.map cpF) k r = c_c fs k r:=by
  unfold c_c
  rw [List.any_map]
  rfl
theorem lenR_cp (m:Mpt) (k r:Int):b_1 (cpM m) k r = b_1 m k r:=by
  unfold b_1
  show (d_v (m.1.xs.map cpF) k r + 7) / 8 + (if (c_c (m.1.xs.map cpF) k r && m.2.2) = true then 1 else 0) = _
  rw [sumC_cp,e_u]
theorem okB_cp (m:Mpt) (f:Fd):okB (cpM m) (cpF f) ↔ okB m f:=by
  unfold okB
  have e:d_v (cpM m).1.xs (cpF f).1 (cpF f).2.1 = d_v m.1.xs f.1 f.2.1:=sumC_cp m.1.xs f.1 f.2.1
  rw [e]
  exact Iff.rfl
theorem Ppr_cp (m:Mpt):Ppr (cpM m) ↔ Ppr m:=by
  unfold Ppr Pall
  show (∀ f ∈ m.1.xs.map cpF,_) ↔ _
  rw [List.forall_mem_map]
  exact forall_congr' fun f=>forall_congr' fun _=>and_congr Iff.rfl (okB_cp m f)
theorem rpV_cp (m:Mpt) (b:List Int) (k r:Int):∀ (l:List Fd) (i:Nat),rpV (cpM m) b k r i (l.map cpF) = rpV m b k r i l
  | [],_=>rfl
  | f :: l,i=>by
    show (if mt k r f = true then fdV (cpM m) b i (cpF f) 0 else []) ++ rpV (cpM m) b k r (i + 1) (l.map cpF) = _
    rw [rpV_cp m b k r l (i + 1)]
    rfl
def keyF (f:Fd):Bool:=f.1 == 1 && !fCo f && (fU f).xs.any isK
theorem p10_l2_eq' (n:Nat) (q:(List Fd) × Fd) (hL:q.2.2.2.2.1.xs.length ≤ 1000000):∀ (m i:Nat) (c:Bool),q.2.2.2.2.1.xs.length - i < m → i ≤ q.2.2.2.2.1.xs.length →
    p10_l2 n q m i c = some (c || (q.2.1 == 1 && !fCo q.2 && (q.2.2.2.2.1.xs.drop i).any isK)):=by
  intro m
  induction m with
  | zero=>intro i c hm;exact absurd hm (by omega)
  | succ m ih =>
    intro i c hm hi
    rw [p10_l2]
    by_cases hlt:i < q.2.2.2.2.1.xs.length
    · rw [b_Z (by rw [a_E];omega),c_9 hlt,Option.bind_some,a_P hlt,List.any_cons]
      generalize q.2.2.2.2.1.xs[i] = u
      have e:(if c = false then (if (q.2.1 == 1) = true then some (!q.2.2.2.2.2.2.2.2.2.2.1) else some false).bind fun q_162=>(if q_162 = true then (p31 n u).bind fun t_166=>some t_166 else some false).bind fun q_165=>some q_165 else some true) = some (c || (q.2.1 == 1 && !fCo q.2 && isK u)):=by
        rw [orO]
        intro _
        rw [b_0 (b:=q.2.1 == 1) (c:=!fCo q.2) (fun _=>rfl),Option.bind_some,b_0 (c:=isK u) (fun _=>by rw [p31_eq];rfl)]
        rfl
      rw [e,Option.bind_some,ckS (by omega) (by omega),Option.bind_some,a_U,ih (i + 1) _ (by omega) (by omega),Bool.or_assoc,← Bool.and_or_distrib_left]
    · rw [c_f (by rw [a_E];omega),List.drop_eq_nil_of_le (by omega)]
      simp
theorem p10_l1_eq' (n:Nat) (x:Mpt) (hn:1001000 ≤ n ∨ ∀ f ∈ x.1.xs,(fU f).xs.length < n) (hU:∀ f ∈ x.1.xs,(fU f).xs.length ≤ 1000000) (hl:x.1.xs.length ≤ 1000):∀ (m i:Nat) (c:Bool) (l:List Fd),l.length ≤ i → x.1.xs.length - i < m → i ≤ x.1.xs.length →
    p10_l1 n x m i c l = some (c || (x.1.xs.drop i).any keyF,l ++ (x.1.xs.drop i).map cpF):=by
  intro m
  induction m with
  | zero=>intro i c l _ hm;exact absurd hm (by omega)
  | succ m ih =>
    intro i c l hll hm hi
    rw [p10_l1]
    by_cases hlt:i < x.1.xs.length
    · have hmem:x.1.xs[i] ∈ x.1.xs:=List.getElem_mem hlt
      rw [b_Z (by rw [a_E];omega),c_9 hlt,Option.bind_some,a_P hlt,List.any_cons,List.map_cons]
      generalize x.1.xs[i] = f at hmem
      have h1:=hU f hmem
      have e1:b_Y ([]:List Int) f.2.2.2.1.xs = some f.2.2.2.1.xs:=by
        have h2:f.2.2.2.1.xs.length ≤ 1000000:=h1
        rw [appI_ok (by simp;omega)];simp
      rw [e1,Option.bind_some]
      have e2:b_Y l [cpF f] = some (l ++ [cpF f]):=a_1 (by omega)
      refine (congrArg (fun q=>Option.bind (Option.bind q _) _) e2).trans ?_
      rw [Option.bind_some,Option.bind_some]
      have e3:=p10_l2_eq' n (l ++ [cpF f],cpF f) h1 n 0 c (by rcases hn with hn | hn;show (fU f).xs.length - 0 < n;omega;have:=hn f hmem;show (fU f).xs.length - 0 < n;omega) (by omega)
      rw [show ((0:Nat):Int) = 0 from rfl] at e3
      refine (congrArg (fun q=>Option.bind q _) e3).trans ?_
      rw [Option.bind_some,ckS (by omega) (by omega),Option.bind_some,a_U]
      refine (ih (i + 1) _ (l ++ [cpF f]) (by rw [List.length_append,List.length_singleton];omega) (by omega) (by omega)).trans ?_
      rw [List.append_assoc,Bool.or_assoc]
      rfl
    · rw [c_f (by rw [a_E];omega),List.drop_eq_nil_of_le (by omega)]
      simp
def newK (m:Mpt):KBt:=(Zs,cpM m,true,0,0,0,0,[83,57,71])
theorem p10_good {n:Nat} (hn:1100 ≤ n) (x:Mpt) (hn2:∀ f ∈ x.1.xs,(fU f).xs.length < n) (hU:∀ f ∈ x.1.xs,(fU f).xs.length ≤ 1000000) (hl:x.1.xs.length ≤ 1000) (hp:Ppr x) (hk:x.1.xs.any keyF = true):p10 n x = some (some (newK x),0):=by
  have e1:=p10_l1_eq' n x (.inr hn2) hU hl n 0 false [] (by simp) (by omega) (by omega)
  rw [show ((0:Nat):Int) = 0 from rfl,List.drop_zero,Bool.false_or,List.nil_append,hk] at e1
  unfold p10
  rw [p30_eq hn x hl,Option.bind_some,decide_eq_true hp,if_neg (show ¬ ((!true) = true) by decide)]
  refine (congrArg (fun q=>Option.bind q _) e1).trans ?_
  rfl
def nU (a:Int) (k:Nat):List Int:=(List.range k).map fun (i:Nat)=>a + (i:Int)
def e_Q (nb:Bool):Int:=if nb = true then 1 else 0
def twoN (nb:Bool):Int:=if nb = true then 2 else 0
def fdM (nb:Bool):Fd:=(1,e_Q nb,0,⟨nU 458976 8,.none⟩,0,1,1,8,0,false,false,false,false)
def fdK (nb:Bool) (kc:Int):Fd:=(1,e_Q nb,0,⟨nU 458752 256,.none⟩,0,255,8,kc,8,false,true,false,false)
def fdB (nb:Bool) (kc:Int):Fd:=(1,twoN nb,0,⟨nU 458756 32,.none⟩,0,1,1,32,(if nb = true then 0 else 8 + 8 * kc),false,false,false,false)
def fdL (nb:Bool) (i a:Int):Fd:=(2,e_Q nb,0,⟨[524289 + i],some 1⟩,0,1,2,1,a,false,false,false,false)
def lmp (nb l0 l1 l2:Bool):List Fd :=
  (if l0 = true then [fdL nb 0 0] else []) ++ (if l1 = true then [fdL nb 1 (if l0 = true then 2 else 0)] else []) ++ (if l2 = true then [fdL nb 2 ((if l0 = true then 2 else 0) + (if l1 = true then 2 else 0))] else [])
def mapL (nb:Bool) (kc:Int) (bits l0 l1 l2:Bool):Mpt:=(⟨[fdM nb,fdK nb kc] ++ (if bits = true then [fdB nb kc] else []) ++ lmp nb l0 l1 l2,.none⟩,⟨[],some 0⟩,nb)
set_option maxRecDepth 100000 in
theorem p9_l1_ok:p9_l1 2000 2000 0 [] = some (nU 458976 8):=by kernel_rfl
set_option maxRecDepth 100000 in
theorem p9_l2_ok:p9_l2 2000 2000 0 [] = some (nU 458752 256):=by kernel_rfl
set_option maxRecDepth 100000 in
theorem p9_l3_ok:p9_l3 2000 2000 0 [] = some (nU 458756 32):=by kernel_rfl
theorem u8R {x:Int} (h0:0 ≤ x) (h1:x ≤ 255):InR .u8 x:=inR_u8.2 ⟨h0,h1⟩
def c_I (lm:Int) (i:Nat):Bool:=lm / 2 ^ i % 2 == 1
theorem p9_l4_step (n:Nat) (x:Bool × Int × Bool × Int) (nb:Bool) (h0:0 ≤ x.2.2.2) (h1:x.2.2.2 ≤ 255) (m i:Nat) (a:Int) (l:List Fd) (hi:i < 3) (ha:0 ≤ a) (ha2:a ≤ 100) (hl:l.length ≤ 100) :
    p9_l4 n x (twoN nb,e_Q nb) (m + 1) i a l = p9_l4 n x (twoN nb,e_Q nb) m ((i + 1:Nat):Int) (if c_I x.2.2.2 i = true then a + 2 else a) (if c_I x.2.2.2 i = true then l ++ [fdL nb i a] else l):=by
  rw [p9_l4,b_Z (by omega),shr_u8 (by omega),Option.bind_some]
  have h2:0 ≤ x.2.2.2 / 2 ^ i:=Int.ediv_nonneg h0 (Int.le_of_lt (b_A i))
  rw [b_J h2 (by decide) (u8R (by omega) (by omega)),Option.bind_some]
  have e:∀ (l0:Int),IntKind.wrap .u32 (524289 + IntKind.wrap .u32 (i:Int)) = 524289 + (i:Int):=fun _=>by rw [c_C,c_C];omega
  unfold c_I
  cases hb:(x.2.2.2 / 2 ^ i % 2 == 1) with
  | true =>
    rw [if_pos rfl,if_pos rfl,if_pos rfl,e 0]
    have e2:b_Y l [fdL nb i a] = some (l ++ [fdL nb i a]):=a_1 (by omega)
    refine (congrArg (fun q=>Option.bind (Option.bind q _) _) e2).trans ?_
    rw [Option.bind_some,ckS (by omega) (by omega),Option.bind_some,Option.bind_some,ckS (by omega) (by omega),Option.bind_some,a_U]
  | false =>
    rw [if_neg (show ¬ (false = true) by decide),if_neg (show ¬ (false = true) by decide),if_neg (show ¬ (false = true) by decide),Option.bind_some,ckS (by omega) (by omega),Option.bind_some,a_U]
theorem p9_l4_eq (x:Bool × Int × Bool × Int) (nb:Bool) (h0:0 ≤ x.2.2.2) (h1:x.2.2.2 ≤ 255) (l:List Fd) (hl:l.length ≤ 10):p9_l4 2000 x (twoN nb,e_Q nb) 2000 0 0 l = some (l ++ lmp nb (c_I x.2.2.2 0) (c_I x.2.2.2 1) (c_I x.2.2.2 2)):=by
  have s0:=p9_l4_step 2000 x nb h0 h1 1999 0 0 l (by decide) (by decide) (by decide) (by omega)
  have s1:=fun (a:Int) (l:List Fd) (h1':0 ≤ a) (h2':a ≤ 100) (h3:l.length ≤ 100)=>p9_l4_step 2000 x nb h0 h1 1998 1 a l (by decide) h1' h2' h3
  have s2:=fun (a:Int) (l:List Fd) (h1':0 ≤ a) (h2':a ≤ 100) (h3:l.length ≤ 100)=>p9_l4_step 2000 x nb h0 h1 1997 2 a l (by decide) h1' h2' h3
  have s3:∀ (a:Int) (l:List Fd),p9_l4 2000 x (twoN nb,e_Q nb) 1997 ((2 + 1:Nat):Int) a l = some l:=fun a l=>by
    rw [show (1997:Nat) = 1996 + 1 from rfl,p9_l4,if_neg (by decide)]
  rw [show ((0:Nat):Int) = 0 from rfl] at s0
  rw [s0]
  unfold lmp
  cases c_I x.2.2.2 0 <;> cases hb1:c_I x.2.2.2 1 <;> cases hb2:c_I x.2.2.2 2 <;>
    (try simp only [if_true,if_false,Bool.false_eq_true,List.append_nil,List.nil_append,List.append_assoc]) <;>
    rw [s1 _ _ (by decide) (by decide) (by first | omega | (simp;omega)),hb1] <;>
    (try simp only [if_true,if_false,Bool.false_eq_true,List.append_nil,List.nil_append,List.append_assoc]) <;>
    rw [s2 _ _ (by decide) (by decide) (by first | omega | (simp;omega)),hb2,s3] <;>
    (try simp)
theorem p9_eq (x:Bool × Int × Bool × Int) (hk:0 ≤ x.2.1 ∧ x.2.1 ≤ 255) (hl:0 ≤ x.2.2.2 ∧ x.2.2.2 ≤ 255):p9 2000 x = some (mapL x.1 (1 + x.2.1 % 8) x.2.2.1 (c_I x.2.2.2 0) (c_I x.2.2.2 1) (c_I x.2.2.2 2)):=by
  have e0:(if x.1 = true then (some ((2:Int),(1:Int))) else some (0,0)) = some (twoN x.1,e_Q x.1):=by cases x.1 <;> rfl
  unfold p9
  rw [e0,Option.bind_some,p9_l1_ok,Option.bind_some,b_J hk.1 (by decide) (u8R (by omega) (by omega)),Option.bind_some,ckS (by omega) (by omega),Option.bind_some,p9_l2_ok,Option.bind_some]
  unfold mapL
  cases hb:x.2.2.1 with
  | false =>
    have e4:=p9_l4_eq x x.1 hl.1 hl.2 [fdM x.1,fdK x.1 (1 + x.2.1 % 8)] (by simp)
    rw [if_neg (show ¬ (false = true) by decide),if_neg (show ¬ (false = true) by decide),Option.bind_some]
    refine (congrArg (fun q=>Option.bind q _) e4).trans ?_
    rw [List.append_nil]
    rfl
  | true =>
    have e1:(if (!x.1) = true then ((ckI .i64 (8 * (1 + x.2.1 % 8))).bind fun x_217=>(ckI .i64 (8 + x_217)).bind fun x_218=>some ((1:Int),twoN x.1,(0:Int),(0:Int),(1:Int),(1:Int),(32:Int),x_218,false,false,false,false)) else some (1,twoN x.1,0,0,1,1,32,0,false,false,false,false)) = some ((1:Int),twoN x.1,(0:Int),(0:Int),(1:Int),(1:Int),(32:Int),(if x.1 = true then 0 else 8 + 8 * (1 + x.2.1 % 8)),false,false,false,false):=by
      cases x.1 with
      | true=>rfl
      | false=>rw [if_pos (show (!false) = true from rfl),ckS (by omega) (by omega),Option.bind_some,ckS (by omega) (by omega),Option.bind_some];rfl
    rw [if_pos rfl,if_pos rfl]
    refine (congrArg (fun q=>Option.bind (Option.bind q _) _) e1).trans ?_
    rw [Option.bind_some]
    refine (congrArg (fun q=>Option.bind (Option.bind q _) _) p9_l3_ok).trans ?_
    rw [Option.bind_some]
    have e2:b_Y [fdM x.1,fdK x.1 (1 + x.2.1 % 8)] [fdB x.1 (1 + x.2.1 % 8)] = some ([fdM x.1,fdK x.1 (1 + x.2.1 % 8)] ++ [fdB x.1 (1 + x.2.1 % 8)]):=a_1 (by simp)
    refine (congrArg (fun q=>Option.bind (Option.bind q _) _) e2).trans ?_
    rw [Option.bind_some,Option.bind_some]
    have e4:=p9_l4_eq x x.1 hl.1 hl.2 ([fdM x.1,fdK x.1 (1 + x.2.1 % 8)] ++ [fdB x.1 (1 + x.2.1 % 8)]) (by simp)
    refine (congrArg (fun q=>Option.bind q _) e4).trans ?_
    rfl
def chkM (m:Mpt):Bool :=
  decide (Ppr m) && m.1.xs.any keyF && decide (m.1.xs.length ≤ 6) && (m.1.xs.all fun f=>decide ((fU f).xs.length ≤ 256)) && c_c m.1.xs 1 (e_Q m.2.2) && decide (1 ≤ b_1 m 1 (e_Q m.2.2)) && decide (b_1 m 1 (e_Q m.2.2) ≤ 600) &&
  (!(m.2.2 && (m.1.xs[2]?.map (·.1)) == some 1) || (c_c m.1.xs 1 2 && decide (1 ≤ b_1 m 1 2) && decide (b_1 m 1 2 ≤ 600)))
def BB:List Bool:=[false,true]
def KC:List Int:=[1,2,3,4,5,6,7,8]
set_option maxRecDepth 100000 in
theorem chk_all:(BB.all fun nb=>KC.all fun kc=>BB.all fun bits=>BB.all fun l0=>BB.all fun l1=>BB.all fun l2=>chkM (mapL nb kc bits l0 l1 l2)) = true:=by kernel_rfl
theorem chk_ok (nb:Bool) {kc:Int} (hk:1 ≤ kc ∧ kc ≤ 8) (bits l0 l1 l2:Bool):chkM (mapL nb kc bits l0 l1 l2) = true:=by
  have mB:∀ b:Bool,b ∈ BB:=fun b=>by cases b <;> simp [BB]
  have mK:kc ∈ KC:=by unfold KC;simp;omega
  have h:=chk_all
  rw [List.all_eq_true] at h
  have h1:=List.all_eq_true.1 (h nb (mB nb)) kc mK
  have h2:=List.all_eq_true.1 (List.all_eq_true.1 (List.all_eq_true.1 (List.all_eq_true.1 h1 bits (mB bits)) l0 (mB l0)) l1 (mB l1)) l2 (mB l2)
  exact h2
structure MOk (m:Mpt):Prop where
  ppr:Ppr m
  key:m.1.xs.any keyF = true
  len:m.1.xs.length ≤ 6
  us:∀ f ∈ m.1.xs,(fU f).xs.length ≤ 256
  one:c_c m.1.xs 1 (e_Q m.2.2) = true ∧ 1 ≤ b_1 m 1 (e_Q m.2.2) ∧ b_1 m 1 (e_Q m.2.2) ≤ 600
  two:m.2.2 = true → (m.1.xs[2]?.map (·.1)) = some 1 → c_c m.1.xs 1 2 = true ∧ 1 ≤ b_1 m 1 2 ∧ b_1 m 1 2 ≤ 600
theorem MOk.of {m:Mpt} (h:chkM m = true):MOk m:=by
  unfold chkM at h
  simp only [Bool.and_eq_true,decide_eq_true_eq,List.all_eq_true] at h
  obtain ⟨⟨⟨⟨⟨⟨⟨h1,h2⟩,h3⟩,h4⟩,h5⟩,h6⟩,h7⟩,h8⟩:=h
  refine ⟨h1,h2,h3,h4,⟨h5,h6,h7⟩,fun e1 e2=>?_⟩
  rw [e1,e2] at h8
  simpa [and_assoc] using h8
def c_g (m:Mpt) (b:List Int):Int:=if m.2.2 = true then (if 0 < b.length ∧ 128 ≤ byt b 0 ∧ 2 < m.1.xs.length ∧ (m.1.xs[2]?.map (·.1)) = some 1 then 2 else 1) else 0
def e_9 (m:Mpt) (b:List Int):Nat:=(b_1 m 1 (c_g m b)).toNat
def b_C (m:Mpt) (b:List Int):List Int:=if m.2.2 = true then (c_Y (List.replicate (e_9 m b) 0) b).set 0 (c_g m b) else c_Y (List.replicate (e_9 m b) 0) b
theorem MOk.num {m:Mpt} (h:MOk m) (b:List Int):(0 ≤ c_g m b ∧ c_g m b ≤ 2) ∧ c_c m.1.xs 1 (c_g m b) = true ∧ 1 ≤ b_1 m 1 (c_g m b) ∧ b_1 m 1 (c_g m b) ≤ 600:=by
  unfold c_g
  cases hb:m.2.2 with
  | false =>
    have:=h.one
    rw [hb] at this
    rw [if_neg (show ¬ (false = true) by decide)]
    exact ⟨by decide,this⟩
  | true =>
    rw [if_pos rfl]
    by_cases hc:0 < b.length ∧ 128 ≤ byt b 0 ∧ 2 < m.1.xs.length ∧ (m.1.xs[2]?.map (·.1)) = some 1
    · rw [if_pos hc]
      exact ⟨by decide,h.two hb hc.2.2.2⟩
    · have:=h.one
      rw [hb] at this
      rw [if_neg hc]
      exact ⟨by decide,this⟩
theorem c_e {α:Type} (xs ys:List α):(c_Y xs ys).length = xs.length:=by
  unfold c_Y
  rw [List.length_append,List.length_take,List.length_drop];omega
theorem c_J {m:Mpt} (h:MOk m) (b:List Int):1 ≤ e_9 m b ∧ e_9 m b ≤ 600 ∧ ((e_9 m b:Nat):Int) = b_1 m 1 (c_g m b):=by
  have:=(h.num b).2.2
  unfold e_9
  omega
theorem e_R (m:Mpt) (b:List Int):(b_C m b).length = e_9 m b:=by
  unfold b_C
  split
  · rw [List.length_set,c_e,List.length_replicate]
  · rw [c_e,List.length_replicate]
theorem d_Y {m:Mpt} (h:MOk m) {b:List Int} (hb:Byts b):Byts (b_C m b):=by
  have hc:Byts (c_Y (List.replicate (e_9 m b) 0) b):=fun y hy=>by
    unfold c_Y at hy
    rcases List.mem_append.1 hy with hy | hy
    · exact hb y (List.mem_of_mem_take hy)
    · have:=List.eq_of_mem_replicate (List.mem_of_mem_drop hy)
      rw [this];decide
  unfold b_C
  split
  · intro y hy
    rcases List.mem_or_eq_of_mem_set hy with hy | rfl
    · exact hc y hy
    · have:=(h.num b).1;omega
  · exact hc
theorem repR_0 {m:Mpt} (h:MOk m) (b:List Int) (hm:m.2.2 = true):byt (b_C m b) 0 = c_g m b:=by
  unfold b_C byt
  rw [if_pos hm,List.getD_eq_getElem?_getD,List.getElem?_set_self (by rw [c_e,List.length_replicate];have:=(c_J h b).1;omega)]
  rfl
theorem p11_eq {n:Nat} (hn:1100 ≤ n) {m:Mpt} (h:MOk m) (b:Sl Int) (hb:Byts b.xs):p11 n m b = some (⟨b_C m b.xs,some (e_9 m b.xs)⟩,c_g m b.xs):=by
  have hk:=c_J h b.xs
  have e1:(if m.2.2 = true then ((if (decide ((a_m b) > 0)) = true then (idx b.xs 0).bind fun y_35=>some (decide (y_35 ≥ 128)) else some false).bind fun q_34=>(if q_34 = true then some (decide ((a_m m.1) > 2)) else some false).bind fun q_41=>(if q_41 = true then (idx m.1.xs 2).bind fun y_48=>some (y_48.1 == 1) else some false).bind fun q_45=>(if q_45 = true then (some 2) else some 1).bind fun (j_54:(Int))=>some j_54) else some 0) = some (c_g m b.xs):=by
    unfold c_g
    cases hm:m.2.2 with
    | false=>rfl
    | true =>
      rw [if_pos rfl,if_pos rfl,b_0 (b:=decide (a_m b > 0)) (c:=decide (byt b.xs 0 ≥ 128)) (fun h=>by
        have h:=of_decide_eq_true h
        rw [a_E] at h
        rw [show (0:Int) = ((0:Nat):Int) from rfl,byt_of (by omega)];rfl),Option.bind_some,b_0 (c:=decide (a_m m.1 > 2)) (fun _=>rfl),Option.bind_some,b_0 (c:=decide ((m.1.xs[2]?.map (·.1)) = some 1)) (fun h=>by
        have h:=(Bool.and_eq_true _ _ ▸ h).2
        have h:=of_decide_eq_true h
        rw [a_E] at h
        have hl:2 < m.1.xs.length:=by omega
        rw [show (2:Int) = ((2:Nat):Int) from rfl,c_9 hl,List.getElem?_eq_getElem hl]
        show some _ = some _
        rw [Option.map_some]
        congr 1
        rw [Bool.eq_iff_iff]
        simp),Option.bind_some]
      by_cases hc:0 < b.xs.length ∧ 128 ≤ byt b.xs 0 ∧ 2 < m.1.xs.length ∧ (m.1.xs[2]?.map (·.1)) = some 1
      · rw [if_pos hc]
        have:(decide (a_m b > 0) && decide (byt b.xs 0 ≥ 128) && decide (a_m m.1 > 2) && decide ((m.1.xs[2]?.map (·.1)) = some 1)) = true:=by
          rw [a_E,a_E]
          simp only [Bool.and_eq_true,decide_eq_true_eq]
          exact ⟨⟨⟨by omega,hc.2.1⟩,by omega⟩,hc.2.2.2⟩
        rw [if_pos this];rfl
      · rw [if_neg hc]
        have:¬ (decide (a_m b > 0) && decide (byt b.xs 0 ≥ 128) && decide (a_m m.1 > 2) && decide ((m.1.xs[2]?.map (·.1)) = some 1)) = true:=fun h=>hc (by
          rw [a_E,a_E] at h
          simp only [Bool.and_eq_true,decide_eq_true_eq] at h
          exact ⟨by omega,h.1.1.2,by omega,h.2⟩)
        rw [if_neg this];rfl
  unfold p11
  refine (congrArg (fun q=>Option.bind q _) e1).trans ?_
  rw [Option.bind_some,p32_eq hn m 1 _ (Nat.le_trans h.len (by decide)),Option.bind_some,mkI_ok (by omega) (by omega) (by omega),Option.bind_some]
  have e2:(b_1 m 1 (c_g m b.xs)).toNat = e_9 m b.xs:=rfl
  simp only [e2]
  rw [b_0 (b:=m.2.2) (c:=true) (fun _=>by rw [b_p,c_e,List.length_replicate,decide_eq_true (by omega)]),Option.bind_some,Bool.and_true]
  unfold b_C
  cases hm:m.2.2 with
  | false=>rfl
  | true =>
    rw [if_pos rfl,if_pos rfl]
    have hl:0 < (c_Y (List.replicate (e_9 m b.xs) (0:Int)) b.xs).length:=by rw [c_e,List.length_replicate];omega
    have e3:idx (c_Y (List.replicate (e_9 m b.xs) (0:Int)) b.xs) 0 = some _:=c_9 (i:=0) hl
    rw [e3]
    rfl
theorem tog_all:((List.range 256).all fun k=>(List.range 8).all fun la=>decide (0 ≤ tog (k:Int) (la:Int)) && decide (tog (k:Int) (la:Int) ≤ 7)) = true:=by kernel_rfl
theorem tog_rng {k la:Int} (hk:0 ≤ k ∧ k ≤ 255) (hl:0 ≤ la ∧ la ≤ 7):0 ≤ tog k la ∧ tog k la ≤ 7:=by
  have h:=List.all_eq_true.1 (List.all_eq_true.1 tog_all k.toNat (List.mem_range.2 (by omega))) la.toNat (List.mem_range.2 (by omega))
  rw [show ((k.toNat:Nat):Int) = k by omega,show ((la.toNat:Nat):Int) = la by omega] at h
  simpa using h
theorem lt_rng (l:List Nat) (hl:∀ k ∈ l,k < 256):∀ la,0 ≤ la ∧ la ≤ 7 → 0 ≤ lt l la ∧ lt l la ≤ 7:=by
  induction l with
  | nil=>intro la h;exact h
  | cons k l ih =>
    intro la h
    rw [e_p]
    have hk:=hl k (List.mem_cons_self ..)
    exact ih (fun q hq=>hl q (List.mem_cons_of_mem _ hq)) _ (tog_rng (by omega) h)
structure Inv (m:Mpt) (y:KBt) (c:List (Int × Sh)) (Y:Mdl) (T:Int):Prop where
  map:y.2.1 = cpM m
  rdy:y.2.2.1 = true
  lk:y.2.2.2.2.2.2.2 = [83,57,71]
  dn:y.1 = Y.2.1
  dok:okS y.1
  lamps:y.2.2.2.1 = Y.2.2.1
  la:0 ≤ Y.2.2.1 ∧ Y.2.2.1 ≤ 7
  held:y.2.2.2.2.2.1 = Y.2.2.2.1
  h0:0 ≤ Y.2.2.2.1 ∧ Y.2.2.2.1 ≤ 255
  time:TR y.2.2.2.2.2.2.1 Y.2.2.2.2
  tb:Y.2.2.2.2 ≤ T
  rel:RelC c Y.1
theorem Inv.new (m:Mpt):Inv m (newK m) [] ([Z2,Z2,Z2],Zs,0,0,0) 0:=⟨rfl,rfl,rfl,rfl,Zs_ok,rfl,by decide,rfl,by decide,TR.zero,by decide,RelC.nil⟩
theorem gr_rng (l:List Nat) (hl:∀ k ∈ l,k < 256):∀ g,0 ≤ g ∧ g ≤ 255 → 0 ≤ gr l g ∧ gr l g ≤ 255:=by
  induction l with
  | nil=>intro g h;exact h
  | cons k l ih =>
    intro g h
    rw [b_q]
    have hk:=hl k (List.mem_cons_self ..)
    refine ih (fun q hq=>hl q (List.mem_cons_of_mem _ hq)) _ ?_
    split
    · omega
    · exact h
theorem hz_rng (l:List Nat):∀ h,0 ≤ h ∧ h ≤ 255 → 0 ≤ hz l h ∧ hz l h ≤ 255:=by
  induction l with
  | nil=>intro h hh;exact hh
  | cons k l ih =>
    intro h hh
    rw [hz_cons]
    refine ih _ ?_
    split
    · decide
    · exact hh
theorem sfx_lt (p:Nat → Bool) (i:Nat):∀ k ∈ sfx p i,k < 256:=fun k hk=>(sfx_mem.1 hk).1.2
theorem e_v (m:Mpt) (b:List Int) (k r:Int):∀ (l:List Fd) (i:Nat),∀ v ∈ rpV m b k r i l,(i:Int) ≤ v.1 ∧ v.1 < ((i + l.length:Nat):Int)
  | [],i,v,h=>by cases h
  | f :: l,i,v,h=>by
    have h:v ∈ (if mt k r f = true then fdV m b i f 0 else []) ++ rpV m b k r (i + 1) l:=h
    rw [List.length_cons]
    rcases List.mem_append.1 h with h | h
    · have hv:v.1 = i:=by
        split at h
        · unfold fdV at h
          obtain ⟨j,_,hj⟩:=List.mem_flatMap.1 h
          unfold elV at hj
          split at hj
          · rw [List.mem_singleton.1 hj]
          · cases hj
        · cases h
      omega
    · have:=e_v m b k r l (i + 1) v h
      omega
theorem stV_cp (fs:List Fd):stV (fs.map cpF) = stV fs:=by
  funext s v
  have e:((fs.map cpF)[v.1.toNat]?.map fAr) = (fs[v.1.toNat]?.map fAr):=by
    rw [List.getElem?_map,Option.map_map];rfl
  unfold stV
  rw [e]
theorem nowF_cp (fs:List Fd) (vs:List Vl) (X:Sh):c_H (fs.map cpF) vs X = c_H fs vs X:=by unfold c_H;rw [stV_cp]
def vsR (m:Mpt) (b:List Int):List Vl:=rpV m (b_C m b) 1 (c_g m b) 0 m.1.xs
theorem rep_num {m:Mpt} (h:MOk m) (b:List Int):(if m.2.2 = true then byt (b_C m b) 0 else 0) = c_g m b:=by
  cases hm:m.2.2 with
  | true=>rw [if_pos rfl];exact repR_0 h b hm
  | false=>unfold c_g;rw [hm,if_neg (show ¬ (false = true) by decide),if_neg (show ¬ (false = true) by decide)]
theorem vsR_len {m:Mpt} (h:MOk m) (b:List Int):(vsR m b).length ≤ 1536:=by
  have:=e_n m h.ppr (b_C m b) 1 (c_g m b) m.1.xs 0 (fun f hf=>hf)
  have:=h.len
  unfold vsR
  omega
theorem vsR_idx (m:Mpt) (b:List Int):∀ v ∈ vsR m b,0 ≤ v.1 ∧ v.1 < (m.1.xs.length:Int):=fun v hv=>by
  have:=e_v m (b_C m b) 1 (c_g m b) m.1.xs 0 v hv
  omega
theorem MOk.cp {m:Mpt} (h:MOk m):Us (cpM m) ∧ Us m ∧ (cpM m).1.xs.length ≤ 1000 ∧ m.1.xs.length ≤ 1000:=by
  refine ⟨fun f hf=>?_,fun f hf=>Nat.le_trans (h.us f hf) (by decide),?_,Nat.le_trans h.len (by decide)⟩
  · obtain ⟨g,hg,rfl⟩:=List.mem_map.1 hf
    exact Nat.le_trans (h.us g hg) (by decide)
  · show (m.1.xs.map cpF).length ≤ 1000
    rw [List.length_map];exact Nat.le_trans h.len (by decide)
theorem val_rep {n:Nat} (hn:2000 ≤ n) {m:Mpt} (h:MOk m) {b:List Int} (hb:Byts b) (cc:Option Nat):∃ c,p23 n m 1 ⟨b_C m b,cc⟩ = some (⟨vsR m b,c⟩,0) ∧ p23 n (cpM m) 1 ⟨b_C m b,cc⟩ = some (⟨vsR m b,c⟩,0):=by
  have hk:=rep_num h b
  have hr:=c_J h b
  have hl:=e_R m b
  have hne:¬ (m.2.2 = true ∧ (b_C m b) = []):=fun q=>by rw [q.2] at hl;simp at hl;omega
  have e1:=p23_good (by omega:1100 ≤ n) m h.cp.2.2.2 h.cp.2.1 1 ⟨b_C m b,cc⟩ (d_Y h hb) h.ppr hne (by show c_c _ _ (if m.2.2 = true then byt (b_C m b) 0 else 0) = _;rw [hk];exact (h.num b).2.1) (by show ((b_C m b).length:Int) = b_1 m 1 (if m.2.2 = true then byt (b_C m b) 0 else 0);rw [hk,hl];exact hr.2.2)
  have e2:=p23_good (by omega:1100 ≤ n) (cpM m) h.cp.2.2.1 h.cp.1 1 ⟨b_C m b,cc⟩ (d_Y h hb) ((Ppr_cp m).2 h.ppr) hne (by show c_c (m.1.xs.map cpF) _ (if m.2.2 = true then byt (b_C m b) 0 else 0) = _;rw [hk,e_u];exact (h.num b).2.1) (by show ((b_C m b).length:Int) = b_1 (cpM m) 1 (if m.2.2 = true then byt (b_C m b) 0 else 0);rw [hk,lenR_cp,hl];exact hr.2.2)
  have er:rpV m (b_C m b) 1 (if m.2.2 = true then byt (b_C m b) 0 else 0) 0 m.1.xs = vsR m b:=by rw [hk];rfl
  have er2:rpV (cpM m) (b_C m b) 1 (if (cpM m).2.2 = true then byt (b_C m b) 0 else 0) 0 (cpM m).1.xs = vsR m b:=by
    show rpV (cpM m) (b_C m b) 1 (if m.2.2 = true then byt (b_C m b) 0 else 0) 0 (m.1.xs.map cpF) = _
    rw [hk,rpV_cp];rfl
  simp only [er,er2] at e1 e2
  exact ⟨_,e1,e2⟩
theorem feed_lit {n:Nat} (hn:2000 ≤ n) {m:Mpt} (h:MOk m) {b:List Int} (hb:Byts b) (cc:Option Nat) {y:KBt} {c:List (Int × Sh)} {Y:Mdl} {T:Int} (hT:0 ≤ T) (I:Inv m y c Y T) :
    ∃ vs y' c' Y',p23 n m 1 ⟨b_C m b,cc⟩ = some (vs,0) ∧ p12 n y c ⟨b_C m b,cc⟩ = some (⟨d_x y.1 y'.1,some (d_x y.1 y'.1).length⟩,0,y',c') ∧ p24 n Y m (c_g m b) vs = some (⟨d_x y.1 y'.1,.none⟩,Y') ∧ Inv m y' c' Y' T ∧ y'.2.2.2.2.1 = y.2.2.2.2.1:=by
  obtain ⟨cv,e1,e2⟩:=val_rep hn h hb cc
  have hnum:=h.num b
  have hr:=c_J h b
  obtain ⟨X,hX,_⟩:=I.rel.at_ (c_g m b).toNat (by omega)
  have hnm:(if y.2.1.2.2 = true then ((idx (b_C m b) 0).bind fun q=>some q) else some 0) = some (c_g m b):=by
    rw [I.map]
    show (if m.2.2 = true then _ else _) = _
    cases hm:m.2.2 with
    | true =>
      have e:idx (b_C m b) 0 = some (byt (b_C m b) 0):=byt_of (i:=0) (by rw [e_R];omega)
      rw [if_pos rfl,e,repR_0 h b hm];rfl
    | false =>
      unfold c_g
      rw [hm,if_neg (show ¬ (false = true) by decide),if_neg (show ¬ (false = true) by decide)]
  have hvl:=vsR_len h b
  obtain ⟨c',R',e3⟩:=p12_eq (by omega:1200 ≤ n) y c ⟨b_C m b,cc⟩ ⟨vsR m b,cv⟩ (c_g m b) I.rdy I.lk I.dok.1 (by rw [I.map];exact e2) (by show (vsR m b).length < n;omega) (by show (vsR m b).length ≤ 1000000;omega)
    (fun v hv=>by have:=vsR_idx m b v hv;rw [I.map];show 0 ≤ v.1 ∧ v.1 < ((m.1.xs.map cpF).length:Int);rw [List.length_map];exact this) hnm hnum.1 I.rel hX
  have hf:c_H y.2.1.1.xs (vsR m b) X = c_H m.1.xs (vsR m b) X:=by rw [I.map];exact nowF_cp _ _ _
  simp only [hf] at R' e3
  have e4:=p24_eq (n:=n) (.inr (by omega)) (by omega) Y m (c_g m b) ⟨vsR m b,cv⟩ (by show (vsR m b).length < n;omega) (by show (vsR m b).length ≤ 1000000;omega) (vsR_idx m b) hnum.1 hX I.rel.ok I.rel.ln (by rw [← I.dn];exact I.dok.1)
  simp only at e4
  have hno:=allK_0 R'.ok
  have hnl:=c_G (Y.1.set (c_g m b).toNat (c_H m.1.xs (vsR m b) X))
  generalize Y.1.set (c_g m b).toNat (c_H m.1.xs (vsR m b) X) = sh at *
  generalize e_t sh = nx at *
  rw [← I.dn] at e4
  refine ⟨_,kbx y nx,c',nxt (sh,Y.2) nx,e1,e3,e4,?_,rfl⟩
  have hd:Y.2.1 = y.1:=I.dn.symm
  refine ⟨I.map,I.rdy,I.lk,rfl,⟨hnl,hno⟩,?_,lt_rng _ (sfx_lt _ _) _ I.la,?_,?_,?_,?_,R'⟩
  · show lt (sfx (upP nx y.1) 0) y.2.2.2.1 = lt (sfx (upP nx Y.2.1) 0) Y.2.2.1
    rw [hd,I.lamps]
  · show (if gr (sfx (upP nx y.1) 0) 0 > 0 then gr (sfx (upP nx y.1) 0) 0 else hz (sfx (upP y.1 nx) 0) y.2.2.2.2.2.1) = (if gr (sfx (upP nx Y.2.1) 0) 0 > 0 then gr (sfx (upP nx Y.2.1) 0) 0 else hz (sfx (upP Y.2.1 nx) 0) Y.2.2.2.1)
    rw [hd,I.held]
  · show 0 ≤ (if gr (sfx (upP nx Y.2.1) 0) 0 > 0 then gr (sfx (upP nx Y.2.1) 0) 0 else hz (sfx (upP Y.2.1 nx) 0) Y.2.2.2.1) ∧ (if gr (sfx (upP nx Y.2.1) 0) 0 > 0 then gr (sfx (upP nx Y.2.1) 0) 0 else hz (sfx (upP Y.2.1 nx) 0) Y.2.2.2.1) ≤ 255
    split
    · exact gr_rng _ (sfx_lt _ _) 0 (by decide)
    · exact hz_rng _ _ I.h0
  · show TR (if gr (sfx (upP nx y.1) 0) 0 > 0 then 0 else y.2.2.2.2.2.2.1) (if gr (sfx (upP nx Y.2.1) 0) 0 > 0 then 0 else Y.2.2.2.2)
    rw [hd]
    split
    · exact TR.zero
    · exact I.time
  · show (if gr (sfx (upP nx Y.2.1) 0) 0 > 0 then 0 else Y.2.2.2.2) ≤ T
    split
    · exact hT
    · exact I.tb
theorem feed_inv {n:Nat} (hn:2000 ≤ n) {m:Mpt} (h:MOk m) {b:List Int} (hb:Byts b) (cc:Option Nat) {y:KBt} {c:List (Int × Sh)} {Y:Mdl} {T:Int} (hT:0 ≤ T) (I:Inv m y c Y T) :
    ∃ vs y' c' Y',p23 n m 1 ⟨b_C m b,cc⟩ = some (vs,0) ∧ p12 n y c ⟨b_C m b,cc⟩ = some (⟨d_x y.1 y'.1,some (d_x y.1 y'.1).length⟩,0,y',c') ∧ p24 n Y m (c_g m b) vs = some (⟨d_x y.1 y'.1,.none⟩,Y') ∧ Inv m y' c' Y' T:=by
  obtain ⟨vs,y',c',Y',h1,h2,h3,h4,_⟩:=feed_lit hn h hb cc hT I
  exact ⟨vs,y',c',Y',h1,h2,h3,h4⟩
set_option maxRecDepth 100000 in
theorem p8_ok:p8 2000 = some true:=by kernel_rfl
def b_S (m:Mpt) (k:Int) (b:List Int):List (Int × Int × Int × Int) × Int :=
  if ¬ Ppr m then ([],1)
  else if m.2.2 = true ∧ b = [] then ([],5)
  else if c_c m.1.xs k (if m.2.2 = true then byt b 0 else 0) = false then ([],7)
  else if (b.length:Int) ≠ b_1 m k (if m.2.2 = true then byt b 0 else 0) then ([],5)
  else (rpV m b k (if m.2.2 = true then byt b 0 else 0) 0 m.1.xs,0)
theorem valR_len (m:Mpt) (k:Int) (b:List Int)  :(b_S m k b).1.length ≤ 256 * m.1.xs.length:=by
  unfold b_S
  generalize (if m.2.2 = true then byt b 0 else 0) = r
  by_cases hp:Ppr m
  · have:=e_n m hp b k r m.1.xs 0 fun f hf=>hf
    rw [if_neg (not_not_intro hp)]
    split
    · simp
    · split
      · simp
      · split
        · simp
        · simp only;omega
  · rw [if_pos hp];simp
theorem valR_cp (m:Mpt) (k:Int) (b:List Int):b_S (cpM m) k b = b_S m k b:=by
  have e:(cpM m).2.2 = m.2.2:=rfl
  have e2:(cpM m).1.xs = m.1.xs.map cpF:=rfl
  unfold b_S
  rw [e,e2]
  by_cases h:Ppr m
  · have h':=(Ppr_cp m).2 h
    rw [if_neg (show ¬ ¬ Ppr (cpM m) from fun q=>q h'),if_neg (show ¬ ¬ Ppr m from fun q=>q h),e_u,lenR_cp,rpV_cp]
  · have h':¬ Ppr (cpM m):=fun q=>h ((Ppr_cp m).1 q)
    rw [if_pos h',if_pos h]
theorem p23_eq {n:Nat} (hn:1100 ≤ n) (x:Mpt) (hl:x.1.xs.length ≤ 1000) (hU:Us x) (k:Int) (b:Sl Int) (hb:Byts b.xs):p23 n x k b = some (⟨(b_S x k b.xs).1,some (b_S x k b.xs).1.length⟩,(b_S x k b.xs).2):=by
  unfold p23
  rw [p30_eq hn x hl,Option.bind_some]
  by_cases hp:Ppr x
  · rw [decide_eq_true hp,if_neg (by decide)]
    by_cases h5:x.2.2 = true ∧ b.xs = []
    · have h0:(a_m b == 0) = true:=by rw [beq_iff_eq,a_E,h5.2];rfl
      have e:b_S x k b.xs = ([],5):=by unfold b_S;rw [if_neg (not_not_intro hp),if_pos h5]
      rw [if_pos h5.1,if_pos h0,Option.bind_some,lrKr,e]
      rfl
    · rw [rep_eq x b _ h5,Option.bind_some,lrKl,p36_eq hn x k _ hl,Option.bind_some]
      by_cases hany:c_c x.1.xs k (if x.2.2 = true then byt b.xs 0 else 0) = false
      · have e:b_S x k b.xs = ([],7):=by unfold b_S;rw [if_neg (not_not_intro hp),if_neg h5,if_pos hany]
        rw [hany,if_pos (show (!false) = true from rfl),e]
        rfl
      · have hany':c_c x.1.xs k (if x.2.2 = true then byt b.xs 0 else 0) = true:=by
          cases h:c_c x.1.xs k (if x.2.2 = true then byt b.xs 0 else 0)
          · exact absurd h hany
          · rfl
        rw [hany',if_neg (by decide),p32_eq hn x k _ hl,Option.bind_some,a_E]
        by_cases hlen:(b.xs.length:Int) = b_1 x k (if x.2.2 = true then byt b.xs 0 else 0)
        · have e:b_S x k b.xs = (rpV x b.xs k (if x.2.2 = true then byt b.xs 0 else 0) 0 x.1.xs,0):=by unfold b_S;rw [if_neg (not_not_intro hp),if_neg h5,if_neg hany,if_neg (not_not_intro hlen)]
          have h1:=p23_l1_eq hn x hl hp hU k _ b hb hlen n 0 [] (by omega) (by omega) (by simp)
          rw [show ((0:Nat):Int) = 0 from rfl,List.drop_zero,List.nil_append] at h1
          rw [if_neg (by rw [← hlen,bne_self_eq_false];decide),h1,Option.bind_some,e]
          unfold p39
          rw [d_u,Option.bind_some,Option.bind_some]
        · have e:b_S x k b.xs = ([],5):=by unfold b_S;rw [if_neg (not_not_intro hp),if_neg h5,if_neg hany,if_pos hlen]
          rw [if_pos (by rw [bne_iff_ne];exact hlen),e]
          rfl
  · have e:b_S x k b.xs = ([],1):=by unfold b_S;rw [if_pos hp]
    rw [decide_eq_false hp,if_pos (show (!false) = true from rfl),e]
    rfl
theorem p10_eq' {n:Nat} (hn:1100 ≤ n) (x:Mpt) (hn2:∀ f ∈ x.1.xs,(fU f).xs.length < n) (hU:∀ f ∈ x.1.xs,(fU f).xs.length ≤ 1000000) (hl:x.1.xs.length ≤ 1000) :
    p10 n x = some (if ¬ Ppr x then (.none,1) else if x.1.xs.any keyF = true then (some (newK x),0) else (.none,7)):=by
  have e1:=p10_l1_eq' n x (.inr hn2) hU hl n 0 false [] (by simp) (by omega) (by omega)
  rw [show ((0:Nat):Int) = 0 from rfl,List.drop_zero,Bool.false_or,List.nil_append] at e1
  unfold p10
  rw [p30_eq hn x hl,Option.bind_some]
  by_cases hp:Ppr x
  · rw [decide_eq_true hp,if_neg (show ¬ ((!true) = true) by decide),if_neg (show ¬ ¬ Ppr x from fun h=>h hp)]
    refine (congrArg (fun q=>Option.bind q _) e1).trans ?_
    rw [Option.bind_some]
    cases x.1.xs.any keyF <;> rfl
  · rw [decide_eq_false hp,if_pos (show (!false) = true from rfl),if_pos hp]
abbrev Dy:=Int × Int × Int × Int × Int × Int × Int × Int
def Dok (y:Dy):Prop:=(0 ≤ y.1 ∧ y.1 ≤ 255) ∧ (0 ≤ y.2.1 ∧ y.2.1 ≤ 255) ∧ (0 ≤ y.2.2.2.1 ∧ y.2.2.2.1 ≤ 255) ∧ (-32768 ≤ y.2.2.2.2.1 ∧ y.2.2.2.2.1 ≤ 32767) ∧ (0 ≤ y.2.2.2.2.2.1 ∧ y.2.2.2.2.2.1 ≤ 65535) ∧ (0 ≤ y.2.2.2.2.2.2.1 ∧ y.2.2.2.2.2.2.1 ≤ 255)
structure FB (f:Fd):Prop where
  S:1 ≤ fS f ∧ fS f ≤ 18
  C:1 ≤ fC f ∧ fC f ≤ 6
  R:-32768 ≤ fLo f ∧ fLo f ≤ fHi f ∧ fHi f ≤ 98302
  U:1 ≤ (fU f).xs.length ∧ (fU f).xs.length ≤ 6
def ub (B:Int) (j:Nat):Int:=IntKind.wrap .u32 (B + IntKind.wrap .u32 (j:Int))
theorem p44_l1_eq (n:Nat) (y:Dy) (hy:0 ≤ y.2.2.2.1 ∧ y.2.2.2.1 ≤ 255) (q:Nat) (hq:y.2.2.2.1 % 6 = (q:Int)):∀ (m k:Nat),q + 1 - k < m → k ≤ q + 1 →
    p44_l1 n y m k ((List.range k).map (ub (a_k .or .u32 458752 y.2.2.1))) = some ((List.range (q + 1)).map (ub (a_k .or .u32 458752 y.2.2.1))):=by
  intro m
  induction m with
  | zero=>intro k hm;exact absurd hm (by omega)
  | succ m ih =>
    intro k hm hk
    have r6:c_z .u8 y.2.2.2.1 6 = some (y.2.2.2.1 % 6):=b_J hy.1 (by decide) (inR_u8.2 (by omega))
    rw [p44_l1,r6,Option.bind_some,hq]
    by_cases hlt:k ≤ q
    · have e:(List.range (k + 1)).map (ub (a_k .or .u32 458752 y.2.2.1)) = (List.range k).map (ub (a_k .or .u32 458752 y.2.2.1)) ++ [ub (a_k .or .u32 458752 y.2.2.1) k]:=by
        rw [List.range_succ,List.map_append];rfl
      rw [b_Z (by omega),a_1 (by rw [List.length_map,List.length_range];omega),Option.bind_some,ckS (by omega) (by omega),Option.bind_some,a_U]
      have:=ih (k + 1) (by omega) (by omega)
      rw [e] at this
      exact this
    · rw [c_f (by omega),show k = q + 1 by omega]
abbrev Fe:=Int × Int × Int × Int × Int × Int × Int × Int × Bool × Bool × Bool × Bool
@[reducible] def Fe.set (t:Fe) (s:Int):Fe:=(t.1,t.2.1,t.2.2.1,t.2.2.2.1,t.2.2.2.2.1,s,t.2.2.2.2.2.2.1,t.2.2.2.2.2.2.2.1,t.2.2.2.2.2.2.2.2.1,t.2.2.2.2.2.2.2.2.2.1,t.2.2.2.2.2.2.2.2.2.2.1,t.2.2.2.2.2.2.2.2.2.2.2)
theorem p44_l2_eq (n:Nat) (t:Fe) (h1:-32768 ≤ t.2.2.2.1) (h2:t.2.2.2.2.1 ≤ 98302):∀ (m s:Nat),18 - s < m → 1 ≤ s → s ≤ 18 → ∃ q:Nat,1 ≤ q ∧ q ≤ 18 ∧ p44_l2 n m (t.set (s:Int)) = some (t.set (q:Int)) ∧ t.2.2.2.2.1 < 2 ^ q ∧ (t.2.2.2.1 < 0 → -(2 ^ (q - 1)) ≤ t.2.2.2.1 ∧ t.2.2.2.2.1 < 2 ^ (q - 1)):=by
  intro m
  induction m with
  | zero=>intro s hm;exact absurd hm (by omega)
  | succ m ih =>
    intro s hm hs1 hs2
    have hp:=b_A s
    have hp1:=b_A (s - 1)
    have hle:(2:Int) ^ s ≤ 2 ^ 40:=e_j (by omega)
    have hle1:(2:Int) ^ (s - 1) ≤ 2 ^ 40:=e_j (by omega)
    have e40:(2:Int) ^ 40 = 1099511627776:=by decide
    have s1:d_D .i64 1 (s:Int) = some (2 ^ s):=by
      have:=d_w (x:=1) (i:=s) (by omega) (by decide) (by decide)
      rw [Int.one_mul] at this;exact this
    have s2:d_D .i64 1 ((s - 1:Nat):Int) = some (2 ^ (s - 1)):=by
      have:=d_w (x:=1) (i:=s - 1) (by omega) (by decide) (by decide)
      rw [Int.one_mul] at this;exact this
    have c1:ckI .i64 ((s:Int) - 1) = some ((s - 1:Nat):Int):=by
      rw [show (s:Int) - 1 = ((s - 1:Nat):Int) by omega];exact ckS (by omega) (by omega)
    rw [p44_l2]
    simp only [Fe.set]
    rw [s1,Option.bind_some]
    have eI:((if (decide (t.2.2.2.2.1 ≥ 2 ^ s)) = false then (if (decide (t.2.2.2.1 < 0)) = true then (ckI .i64 ((s:Int) - 1)).bind fun x_127=>(d_D .i64 1 x_127).bind fun x_128=>(ckI .i64 (0 - x_128)).bind fun x_129=>(if (decide (t.2.2.2.1 < x_129)) = false then (ckI .i64 ((s:Int) - 1)).bind fun x_135=>(d_D .i64 1 x_135).bind fun x_136=>some (decide (t.2.2.2.2.1 ≥ x_136)) else some true).bind fun q_130=>some q_130 else some false).bind fun q_122=>some q_122 else some true):Option Bool) = some (decide (t.2.2.2.2.1 ≥ 2 ^ s ∨ (t.2.2.2.1 < 0 ∧ (t.2.2.2.1 < 0 - 2 ^ (s - 1) ∨ t.2.2.2.2.1 ≥ 2 ^ (s - 1))))):=by
      by_cases a1:t.2.2.2.2.1 ≥ 2 ^ s
      · rw [decide_eq_true a1,if_neg (by decide),decide_eq_true (Or.inl a1)]
      · rw [decide_eq_false a1,if_pos rfl]
        by_cases a2:t.2.2.2.1 < 0
        · rw [decide_eq_true a2,if_pos rfl,c1,Option.bind_some,s2,Option.bind_some,ckS (by omega) (by omega),Option.bind_some]
          by_cases a3:t.2.2.2.1 < 0 - 2 ^ (s - 1)
          · rw [decide_eq_true a3,if_neg (by decide),decide_eq_true (Or.inr ⟨a2,.inl a3⟩)];rfl
          · rw [decide_eq_false a3,if_pos rfl,Option.bind_some,s2,Option.bind_some,Option.bind_some,Option.bind_some]
            refine congrArg some (decide_eq_decide.2 ?_)
            constructor
            · intro h;exact .inr ⟨a2,.inr h⟩
            · rintro (h | ⟨_,h | h⟩)
              · exact absurd h a1
              · exact absurd h a3
              · exact h
        · rw [decide_eq_false a2,if_neg (by decide),Option.bind_some,decide_eq_false]
          rintro (h | ⟨h,_⟩)
          · exact a1 h
          · exact a2 h
    rw [eI,Option.bind_some]
    by_cases hc:t.2.2.2.2.1 ≥ 2 ^ s ∨ (t.2.2.2.1 < 0 ∧ (t.2.2.2.1 < 0 - 2 ^ (s - 1) ∨ t.2.2.2.2.1 ≥ 2 ^ (s - 1)))
    · have hs:s < 18:=by
        rcases Nat.lt_or_ge s 18 with h | h
        · exact h
        · have e18:s = 18:=by omega
          subst e18
          have q1:(2:Int) ^ 18 = 262144:=by decide
          have q2:(2:Int) ^ (18 - 1) = 131072:=by decide
          rw [q1,q2] at hc
          omega
      obtain ⟨q,b1,b2,b3,b4⟩:=ih (s + 1) (by omega) (by omega) (by omega)
      rw [b_Z hc,ckS (by omega) (by omega),Option.bind_some,a_U]
      exact ⟨q,b1,b2,b3,b4⟩
    · rw [c_f hc]
      refine ⟨s,hs1,hs2,rfl,by omega,fun h=>?_⟩
      omega
theorem p44_ok {n:Nat} (hn:1100 ≤ n) (x0:Bool × Sl Dy) (i:Nat) (y:Dy) (hi:idx x0.2.xs (i:Int) = some y) (hy:Dok y):∃ f,p44 n x0 (i:Int) = some f ∧ FB f ∧ fA f = 0:=by
  obtain ⟨y1,y2,y4,y5,y6,y7⟩:=hy
  obtain ⟨q,hq⟩:=Int.eq_ofNat_of_zero_le (Int.emod_nonneg y.2.2.2.1 (show (6:Int) ≠ 0 by decide))
  have hq6:q < 6:=by omega
  have hu:=p44_l1_eq n y y4 q hq n 0 (by omega) (by omega)
  rw [show ((0:Nat):Int) = 0 from rfl,show (List.range 0).map (ub (a_k .or .u32 458752 y.2.2.1)) = [] from rfl] at hu
  have r1:c_z .u8 y.1 3 = some (y.1 % 3):=b_J y1.1 (by decide) (inR_u8.2 (by omega))
  have r2:c_z .u8 y.2.1 3 = some (y.2.1 % 3):=b_J y2.1 (by decide) (inR_u8.2 (by omega))
  have r7:c_z .u8 y.2.2.2.2.2.2.1 6 = some (y.2.2.2.2.2.2.1 % 6):=b_J y7.1 (by decide) (inR_u8.2 (by omega))
  have hj:∃ R:Int,(if x0.1 = true then ((c_z .u8 y.2.1 3).bind fun x_63=>some (IntKind.wrap .u8 (1 + y.1 % 3),IntKind.wrap .u8 (1 + x_63),(0:Int),y.2.2.2.2.1,y.2.2.2.2.1 + y.2.2.2.2.2.1,(0:Int),1 + y.2.2.2.2.2.2.1 % 6,(0:Int),((a_k .and .u8 y.2.2.2.2.2.2.2 1) != 0),((a_k .and .u8 y.2.2.2.2.2.2.2 2) == 0),(decide (y.2.2.2.2.1 < 0)),((a_k .and .u8 y.2.2.2.2.2.2.2 4) != 0))) else some (IntKind.wrap .u8 (1 + y.1 % 3),(0:Int),(0:Int),y.2.2.2.2.1,y.2.2.2.2.1 + y.2.2.2.2.2.1,(0:Int),1 + y.2.2.2.2.2.2.1 % 6,(0:Int),((a_k .and .u8 y.2.2.2.2.2.2.2 1) != 0),((a_k .and .u8 y.2.2.2.2.2.2.2 2) == 0),(decide (y.2.2.2.2.1 < 0)),((a_k .and .u8 y.2.2.2.2.2.2.2 4) != 0))) = some ((IntKind.wrap .u8 (1 + y.1 % 3),R,0,y.2.2.2.2.1,y.2.2.2.2.1 + y.2.2.2.2.2.1,0,1 + y.2.2.2.2.2.2.1 % 6,0,((a_k .and .u8 y.2.2.2.2.2.2.2 1) != 0),((a_k .and .u8 y.2.2.2.2.2.2.2 2) == 0),(decide (y.2.2.2.2.1 < 0)),((a_k .and .u8 y.2.2.2.2.2.2.2 4) != 0)):Fe):=by
    by_cases h:x0.1 = true
    · rw [if_pos h,r2,Option.bind_some];exact ⟨_,rfl⟩
    · rw [if_neg h];exact ⟨_,rfl⟩
  obtain ⟨R,hj⟩:=hj
  obtain ⟨s,b1,b2,b3,b4,b5⟩:=p44_l2_eq n (IntKind.wrap .u8 (1 + y.1 % 3),R,0,y.2.2.2.2.1,y.2.2.2.2.1 + y.2.2.2.2.2.1,0,1 + y.2.2.2.2.2.2.1 % 6,0,((a_k .and .u8 y.2.2.2.2.2.2.2 1) != 0),((a_k .and .u8 y.2.2.2.2.2.2.2 2) == 0),(decide (y.2.2.2.2.1 < 0)),((a_k .and .u8 y.2.2.2.2.2.2.2 4) != 0)) (by simp only;omega) (by simp only;omega) n 1 (by omega) (by omega) (by omega)
  rw [show ((1:Nat):Int) = 1 from rfl] at b3
  simp only [Fe.set] at b3
  unfold p44
  rw [hi,Option.bind_some,r1,Option.bind_some,ckS (by omega) (by omega),Option.bind_some,r7,Option.bind_some,ckS (by omega) (by omega),Option.bind_some,hj,Option.bind_some,hu,Option.bind_some]
  simp only
  rw [b3,Option.bind_some]
  refine ⟨_,rfl,⟨?_,?_,?_,?_⟩,rfl⟩
  · show 1 ≤ (s:Int) ∧ (s:Int) ≤ 18
    omega
  · show 1 ≤ 1 + y.2.2.2.2.2.2.1 % 6 ∧ 1 + y.2.2.2.2.2.2.1 % 6 ≤ 6
    omega
  · show -32768 ≤ y.2.2.2.2.1 ∧ y.2.2.2.2.1 ≤ y.2.2.2.2.1 + y.2.2.2.2.2.1 ∧ y.2.2.2.2.1 + y.2.2.2.2.2.1 ≤ 98302
    omega
  · show 1 ≤ ((List.range (q + 1)).map _).length ∧ ((List.range (q + 1)).map _).length ≤ 6
    rw [List.length_map,List.length_range];omega
def FBs (l:List Fd):Prop:=∀ f ∈ l,FB f
theorem FB.mul {f:Fd} (h:FB f):1 ≤ fS f * fC f ∧ fS f * fC f ≤ 108:=by
  obtain ⟨⟨a1,a2⟩,⟨a3,a4⟩⟩:=And.intro h.S h.C
  constructor
  · have:=Int.mul_le_mul a1 a3 (by omega) (by omega);simpa using this
  · have:=Int.mul_le_mul a2 a4 (by omega) (by omega);simpa using this
theorem FB.okA {f:Fd} (h:FB f):okA f:=⟨⟨h.S.1,by have:=h.S;omega⟩,h.C.1,by have:=h.C;omega⟩
@[reducible] def setP (f:Fd) (p a:Int):Fd:=(f.1,f.2.1,p,f.2.2.2.1,f.2.2.2.2.1,f.2.2.2.2.2.1,f.2.2.2.2.2.2.1,f.2.2.2.2.2.2.2.1,a,f.2.2.2.2.2.2.2.2.2.1,f.2.2.2.2.2.2.2.2.2.2.1,f.2.2.2.2.2.2.2.2.2.2.2.1,f.2.2.2.2.2.2.2.2.2.2.2.2)
theorem FB.setP {f:Fd} (h:FB f) (p a:Int):FB (setP f p a):=⟨h.S,h.C,h.R,h.U⟩
theorem c_K {l:List Fd} (h:FBs l) (k r:Int):0 ≤ c_y l k r ∧ c_y l k r ≤ 108 * (l.length:Int):=by
  induction l with
  | nil=>exact ⟨Int.le_refl _,Int.le_refl _⟩
  | cons f fs ih =>
    have h1:=(h f (by simp)).mul
    have h2:=ih fun g hg=>h g (by simp [hg])
    rw [b_t,List.length_cons]
    split <;> omega
theorem e_w (a b:List Fd) (k r:Int):c_y (a ++ b) k r = c_y a k r + c_y b k r:=by
  induction a with
  | nil=>show c_y b k r = 0 + c_y b k r;omega
  | cons f fs ih=>rw [List.cons_append,b_t,b_t,ih,Int.add_assoc]
def Cum (l:List Fd):Prop:=∀ (i:Nat) (f:Fd),l[i]? = some f → fA f = c_y (l.take i) f.1 f.2.1
theorem Cum.snoc {l:List Fd} (h:Cum l) {f:Fd} (hf:fA f = c_y l f.1 f.2.1):Cum (l ++ [f]):=by
  intro i g hg
  by_cases hi:i < l.length
  · rw [List.getElem?_append_left hi] at hg
    rw [List.take_append_of_le_length (by omega)]
    exact h i g hg
  · rw [List.getElem?_append_right (by omega)] at hg
    have e:i - l.length = 0:=by
      rcases Nat.eq_zero_or_pos (i - l.length) with e | e
      · exact e
      · rw [List.getElem?_eq_none (by rw [List.length_singleton];omega)] at hg;cases hg
    rw [e] at hg
    obtain rfl:=Option.some.inj hg
    rw [show i = l.length by omega,List.take_left']
    · exact hf
    · rfl
theorem p28_l2_eq (n:Nat) (fs:List Fd) (hl:fs.length ≤ 20) (hS:FBs fs):∀ (m k:Nat) (f:Fd),fs.length - k < m → k ≤ fs.length → 0 ≤ fA f → fA f ≤ 108 * (k:Int) →
    p28_l2 n fs m k f = some (setP f f.2.2.1 (fA f + c_y (fs.drop k) f.1 f.2.1)):=by
  intro m
  induction m with
  | zero=>intro k f hm;exact absurd hm (by omega)
  | succ m ih =>
    intro k f hm hk h0 h1
    have h0':0 ≤ f.2.2.2.2.2.2.2.2.1:=h0
    have h1':f.2.2.2.2.2.2.2.2.1 ≤ 108 * (k:Int):=h1
    rw [p28_l2,b_p]
    by_cases hlt:k < fs.length
    · have hm1:=(hS _ (List.getElem_mem hlt)).mul
      rw [b_Z (by omega),c_9 hlt,Option.bind_some,Option.bind_some,Option.bind_some,Option.bind_some,a_P hlt,b_t]
      generalize fs[k] = g at hm1
      have hm2:1 ≤ g.2.2.2.2.2.2.1 * g.2.2.2.2.2.2.2.1 ∧ g.2.2.2.2.2.2.1 * g.2.2.2.2.2.2.2.1 ≤ 108:=hm1
      rw [mt_eq,Option.bind_some]
      by_cases hq:mt f.1 f.2.1 g = true
      · rw [if_pos hq,if_pos hq,ckS (by omega) (by omega),Option.bind_some,ckS (by omega) (by omega),Option.bind_some,Option.bind_some,ckS (by omega) (by omega),Option.bind_some,a_U]
        have:=ih (k + 1) (setP f f.2.2.1 (f.2.2.2.2.2.2.2.2.1 + g.2.2.2.2.2.2.1 * g.2.2.2.2.2.2.2.1)) (by omega) (by omega) (by show 0 ≤ f.2.2.2.2.2.2.2.2.1 + g.2.2.2.2.2.2.1 * g.2.2.2.2.2.2.2.1;omega) (by show f.2.2.2.2.2.2.2.2.1 + g.2.2.2.2.2.2.1 * g.2.2.2.2.2.2.2.1 ≤ _;omega)
        refine this.trans (congrArg some ?_)
        show setP f f.2.2.1 ((f.2.2.2.2.2.2.2.2.1 + g.2.2.2.2.2.2.1 * g.2.2.2.2.2.2.2.1) + c_y (fs.drop (k + 1)) f.1 f.2.1) = setP f f.2.2.1 (f.2.2.2.2.2.2.2.2.1 + (g.2.2.2.2.2.2.1 * g.2.2.2.2.2.2.2.1 + c_y (fs.drop (k + 1)) f.1 f.2.1))
        rw [Int.add_assoc]
      · rw [if_neg hq,if_neg hq,Option.bind_some,ckS (by omega) (by omega),Option.bind_some,a_U,ih (k + 1) f (by omega) (by omega) h0 (by omega),Int.zero_add]
    · rw [c_f (by omega),List.drop_eq_nil_of_le (by omega)]
      refine congrArg some ?_
      show f = setP f f.2.2.1 (fA f + 0)
      rw [Int.add_zero]
theorem p28_l1_eq {n:Nat} (hn:1100 ≤ n) (x0:Bool × Sl Dy) (hx:∀ y ∈ x0.2.xs,Dok y):∀ (m i:Nat) (op:List Int) (fs:List Fd) (cs:List (Int × Int × Int)) (nb:Bool),20 - i < m → i ≤ 20 → i ≤ x0.2.xs.length → fs.length = i → FBs fs → Cum fs → 1 ≤ op.length → op.length ≤ 5 → cs.length ≤ 1 + i → (i = 0 ∨ nb = x0.1) →
    ∃ fs' cs' nb',p28_l1 n x0 m i op fs cs nb = some (fs',cs',nb') ∧ fs'.length ≤ 20 ∧ FBs fs' ∧ Cum fs' ∧ (fs' = [] ∨ nb' = x0.1):=by
  intro m
  induction m with
  | zero=>intro i op fs cs nb hm;exact absurd hm (by omega)
  | succ m ih =>
    intro i op fs cs nb hm hi hil hfl hS hC ho1 ho5 hcs hnb
    rw [p28_l1,a_E]
    by_cases hlt:i < x0.2.xs.length ∧ i < 20
    · obtain ⟨h1,h2⟩:=hlt
      obtain ⟨f,hf,hB,hA⟩:=p44_ok hn x0 i x0.2.xs[i] (c_9 h1) (hx _ (List.getElem_mem h1))
      rw [b_Z (by omega),decide_eq_true (show (i:Int) < 20 by omega),Option.bind_some,if_pos rfl,hf,Option.bind_some,c_9 h1,Option.bind_some]
      generalize x0.2.xs[i] = y
      have e1:∃ (op':List Int) (cs':List (Int × Int × Int)),((if ((a_k .and .u8 y.2.2.2.2.2.2.2 8) != 0) = true then some (decide ((a_m (⟨op,.none⟩:Sl (Int))) < 5)) else some false).bind fun q_85=>(if q_85 = true then ((c_z .i64 (i:Int) 4).bind fun x_213=>(ckI .i64 ((a_m (⟨op,.none⟩:Sl (Int))) - 1)).bind fun x_215=>(idx op x_215).bind fun y_216=>(b_Y cs ([(IntKind.wrap .u8 x_213,a_k .or .u32 458752 (IntKind.wrap .u32 (i:Int)),y_216)])).bind fun l_310=>(ckI .i64 ((a_m (⟨l_310,b_B .none l_310.length⟩:Sl (Int × Int × Int))) - 1)).bind fun x_320=>(b_Y op ([x_320])).bind fun l_325=>some (l_325,l_310)) else some (op,cs))) = some (op',cs') ∧ 1 ≤ op'.length ∧ op'.length ≤ 5 ∧ cs'.length ≤ 1 + (i + 1):=by
        by_cases hb:(((a_k .and .u8 y.2.2.2.2.2.2.2 8) != 0) = true) ∧ op.length < 5
        · have hr:c_z .i64 (i:Int) 4 = some ((i:Int) % 4):=b_J (by omega) (by decide) (by unfold InR;simp only [IntKind.min,IntKind.max,IntKind.signed,IntKind.bits];simp;omega)
          rw [if_pos hb.1,b_p,decide_eq_true (show (op.length:Int) < 5 by omega),Option.bind_some,if_pos rfl,hr,Option.bind_some,ckS (by omega) (by omega),Option.bind_some,e_F (show 0 ≤ (op.length:Int) - 1 by omega) (by omega),Option.bind_some,a_1 (by omega),Option.bind_some,b_p,ckS (by rw [List.length_append];omega) (by rw [List.length_append,List.length_singleton];omega),Option.bind_some,a_1 (by omega),Option.bind_some]
          refine ⟨_,_,rfl,?_,?_,?_⟩ <;> rw [List.length_append,List.length_singleton] <;> omega
        · refine ⟨op,cs,?_,ho1,ho5,by omega⟩
          have hf':(if ((a_k .and .u8 y.2.2.2.2.2.2.2 8) != 0) = true then some (decide ((a_m (⟨op,.none⟩:Sl (Int))) < 5)) else some false) = some false:=by
            by_cases hb1:((a_k .and .u8 y.2.2.2.2.2.2.2 8) != 0) = true
            · rw [if_pos hb1,b_p,decide_eq_false (fun h=>hb ⟨hb1,by omega⟩)]
            · rw [if_neg hb1]
          rw [hf',Option.bind_some,if_neg (by decide)]
      obtain ⟨op',cs',e1,o1,o5,c1⟩:=e1
      have e2:∃ op2:List Int,((if ((a_k .and .u8 y.2.2.2.2.2.2.2 16) != 0) = true then some (decide ((a_m (⟨op',.none⟩:Sl (Int))) > 1)) else some false).bind fun q_648=>(if q_648 = true then ((ckI .i64 ((a_m (⟨op',.none⟩:Sl (Int))) - 1)).bind fun x_660=>(cutI op' x_660).bind fun l_661=>some l_661) else some op')) = some op2 ∧ 1 ≤ op2.length ∧ op2.length ≤ 5:=by
        by_cases hb:(((a_k .and .u8 y.2.2.2.2.2.2.2 16) != 0) = true) ∧ 1 < op'.length
        · have hc:cutI op' ((op'.length:Int) - 1) = some (op'.take (op'.length - 1)):=by
            unfold cutI
            rw [if_pos (by omega),show ((op'.length:Int) - 1).toNat = op'.length - 1 by omega]
          rw [if_pos hb.1,b_p,decide_eq_true (show (op'.length:Int) > 1 by omega),Option.bind_some,if_pos rfl,ckS (by omega) (by omega),Option.bind_some,hc,Option.bind_some]
          refine ⟨_,rfl,?_,?_⟩ <;> rw [List.length_take] <;> omega
        · refine ⟨op',?_,o1,o5⟩
          have hf':(if ((a_k .and .u8 y.2.2.2.2.2.2.2 16) != 0) = true then some (decide ((a_m (⟨op',.none⟩:Sl (Int))) > 1)) else some false) = some false:=by
            by_cases hb1:((a_k .and .u8 y.2.2.2.2.2.2.2 16) != 0) = true
            · rw [if_pos hb1,b_p,decide_eq_false (fun h=>hb ⟨hb1,by omega⟩)]
            · rw [if_neg hb1]
          rw [hf',Option.bind_some,if_neg (by decide)]
      obtain ⟨op2,e2,o21,o25⟩:=e2
      have hR:=c_K hS f.1 f.2.1
      have h20:∀ p:Int,p28_l2 n fs n 0 (setP f p 0) = some (setP f p (c_y fs f.1 f.2.1)):=by
        intro p
        have:=p28_l2_eq n fs (by omega) hS n 0 (setP f p 0) (by omega) (by omega) (Int.le_refl _) (Int.le_refl _)
        rw [show ((0:Nat):Int) = 0 from rfl] at this
        refine this.trans (congrArg some ?_)
        show setP f p (0 + c_y (fs.drop 0) f.1 f.2.1) = _
        rw [Int.zero_add,List.drop_zero]
      obtain ⟨fs',cs2,nb',r1,r2,r3,r4,r5⟩:=ih (i + 1) op2 (fs ++ [setP f (op'[((op'.length:Int) - 1).toNat]'(by omega)) (c_y fs f.1 f.2.1)]) cs' x0.1 (by omega) (by omega) (by omega) (by rw [List.length_append,List.length_singleton];omega)
        (fun g hg=>by
          rcases List.mem_append.1 hg with hg | hg
          · exact hS g hg
          · rw [List.mem_singleton.1 hg];exact hB.setP _ _)
        (hC.snoc rfl) o21 o25 c1 (.inr rfl)
      refine ⟨fs',cs2,nb',?_,r2,r3,r4,r5⟩
      rw [← r1]
      have a1:∀ {β γ:Type} (o:Option Bool) (k:Bool → Option β) (j:β → Option γ),(o.bind fun q=>(k q).bind j) = (o.bind k).bind j:=fun o k j=>(Option.bind_assoc o k j).symm
      rw [a1,e1,Option.bind_some]
      simp only
      rw [b_p,ckS (by omega) (by omega),Option.bind_some,e_F (show 0 ≤ (op'.length:Int) - 1 by omega) (by omega),Option.bind_some]
      have h20':=h20 (op'[((op'.length:Int) - 1).toNat]'(by omega))
      have hA':f.2.2.2.2.2.2.2.2.1 = 0:=hA
      have ef:setP f (op'[((op'.length:Int) - 1).toNat]'(by omega)) 0 = (f.1,f.2.1,(op'[((op'.length:Int) - 1).toNat]'(by omega)),f.2.2.2.1,f.2.2.2.2.1,f.2.2.2.2.2.1,f.2.2.2.2.2.2.1,f.2.2.2.2.2.2.2.1,f.2.2.2.2.2.2.2.2.1,f.2.2.2.2.2.2.2.2.2.1,f.2.2.2.2.2.2.2.2.2.2.1,f.2.2.2.2.2.2.2.2.2.2.2.1,f.2.2.2.2.2.2.2.2.2.2.2.2):=by rw [hA']
      rw [← ef,h20',Option.bind_some,a_1 (by omega),Option.bind_some,Option.bind_some,a1]
      rw [b_p,ckS (by omega) (by omega)] at e2
      rw [e2,Option.bind_some,ckS (by omega) (by omega),Option.bind_some,a_U]
    · have e:(if (decide ((i:Int) < (x0.2.xs.length:Int))) = true then some (decide ((i:Int) < 20)) else some false) = some false:=by
        by_cases h1:i < x0.2.xs.length
        · rw [b_Z (by omega),decide_eq_false (by omega)]
        · rw [c_f (by omega)]
      rw [e,Option.bind_some,if_neg (by decide)]
      refine ⟨fs,cs,nb,rfl,by omega,hS,hC,?_⟩
      rcases hnb with h | h
      · exact .inl (List.eq_nil_of_length_eq_zero (by omega))
      · exact .inr h
theorem p28_ok {n:Nat} (hn:1100 ≤ n) (x0:Bool × Sl Dy) (hx:∀ y ∈ x0.2.xs,Dok y):∃ m:Mpt,p28 n x0 = some m ∧ m.1.xs.length ≤ 20 ∧ FBs m.1.xs ∧ Cum m.1.xs ∧ (m.1.xs = [] ∨ m.2.2 = x0.1):=by
  obtain ⟨fs,cs,nb,r1,r2,r3,r4,r5⟩:=p28_l1_eq hn x0 hx n 0 [0] [] [(1,65542,(-1))] false (by omega) (by omega) (by omega) rfl (fun f hf=>absurd hf List.not_mem_nil) (fun i f hf=>by simp at hf) (by decide) (by decide) (by decide) (.inl rfl)
  rw [show ((0:Nat):Int) = 0 from rfl] at r1
  refine ⟨(⟨fs,.none⟩,⟨cs,.none⟩,nb),?_,r2,r3,r4,r5⟩
  unfold p28
  rw [r1,Option.bind_some]
theorem Cum.ppr {m:Mpt} (hl:m.1.xs.length ≤ 20) (hS:FBs m.1.xs) (h:Cum m.1.xs):Ppr m:=by
  intro f hf
  have hB:=hS f hf
  have hA:∀ g ∈ m.1.xs,okA g:=fun g hg=>(hS g hg).okA
  obtain ⟨i,hi,rfl⟩:=List.mem_iff_getElem.1 hf
  have hc:=h i m.1.xs[i] (List.getElem?_eq_getElem hi)
  have e:c_y m.1.xs m.1.xs[i].1 m.1.xs[i].2.1 = c_y (m.1.xs.take i) m.1.xs[i].1 m.1.xs[i].2.1 + (fS m.1.xs[i] * fC m.1.xs[i] + c_y (m.1.xs.drop (i + 1)) m.1.xs[i].1 m.1.xs[i].2.1):=by
    have hd:=a_P hi
    generalize m.1.xs[i] = f at hd ⊢
    have h1:m.1.xs = m.1.xs.take i ++ f :: m.1.xs.drop (i + 1):=by rw [← hd,List.take_append_drop]
    have h2:c_y m.1.xs f.1 f.2.1 = c_y (m.1.xs.take i ++ f :: m.1.xs.drop (i + 1)) f.1 f.2.1:=congrArg (fun l=>c_y l f.1 f.2.1) h1
    rw [e_w,b_t,if_pos (mt_self _)] at h2
    exact h2
  have r1:=c_K (fun g hg=>hS g (List.mem_of_mem_take hg):FBs (m.1.xs.take i)) m.1.xs[i].1 m.1.xs[i].2.1
  have r2:=c_K (fun g hg=>hS g (List.mem_of_mem_drop hg):FBs (m.1.xs.drop (i + 1))) m.1.xs[i].1 m.1.xs[i].2.1
  have r3:=c_K hS m.1.xs[i].1 m.1.xs[i].2.1
  have hR:=hB.R
  have hU:=hB.U
  refine ⟨hB.okA,?_,?_,?_,.inr (by omega),?_⟩
  · rw [hc];exact r1.1
  · rw [hc];omega
  · omega
  · rw [hc,sumC_B hA];omega
def f_c (a:List Bool) (i:Nat):List Int:=(sfx (a_0 a) i).map fun (k:Nat)=>(k:Int)
theorem d_Z (a:List Bool) {i:Nat} (h:i < 256):f_c a i = if a_0 a i = true then (i:Int) :: f_c a (i + 1) else f_c a (i + 1):=by
  unfold f_c
  rw [c_d _ h]
  split <;> rfl
theorem p34_l1_eq (n:Nat) (a:List Bool) (ha:a.length = 256):∀ (m i:Nat) (k:Int),0 ≤ k → k ≤ i → 256 - i < m → i ≤ 256 → p34_l1 n a m i k = some (k + (f_c a i).length):=by
  intro m
  induction m with
  | zero=>intro i k _ _ hm;exact absurd hm (by omega)
  | succ m ih =>
    intro i k hk0 hk hm hi
    rw [p34_l1]
    by_cases hlt:i < 256
    · rw [b_Z (by omega),a_3 (by omega),Option.bind_some,d_Z a hlt]
      cases a_0 a i with
      | true =>
        rw [if_pos rfl,if_pos rfl,ckS (by omega) (by omega),Option.bind_some,Option.bind_some,ckS (by omega) (by omega),Option.bind_some,a_U,ih (i + 1) _ (by omega) (by omega) (by omega) (by omega),List.length_cons]
        congr 1;omega
      | false =>
        rw [if_neg (by decide),if_neg (by decide),Option.bind_some,ckS (by omega) (by omega),Option.bind_some,a_U,ih (i + 1) _ hk0 (by omega) (by omega) (by omega)]
    · rw [c_f (by omega)]
      unfold f_c
      rw [c_n _ (by omega)];simp
theorem p34_l2_eq (n:Nat) (a:List Bool) (ha:a.length = 256):∀ (m i:Nat) (l:List Int),l.length ≤ i → 256 - i < m → i ≤ 256 → p34_l2 n a m i l = some (l ++ f_c a i):=by
  intro m
  induction m with
  | zero=>intro i l _ hm;exact absurd hm (by omega)
  | succ m ih =>
    intro i l hl hm hi
    rw [p34_l2]
    by_cases hlt:i < 256
    · rw [b_Z (by omega),a_3 (by omega),Option.bind_some,d_Z a hlt,u8_id hlt]
      cases a_0 a i with
      | true =>
        rw [if_pos rfl,if_pos rfl,a_1 (by omega),Option.bind_some,Option.bind_some,ckS (by omega) (by omega),Option.bind_some,a_U,ih (i + 1) _ (by rw [List.length_append,List.length_singleton];omega) (by omega) (by omega),List.append_assoc]
        rfl
      | false =>
        rw [if_neg (by decide),if_neg (by decide),Option.bind_some,ckS (by omega) (by omega),Option.bind_some,a_U,ih (i + 1) _ (by omega) (by omega) (by omega)]
    · rw [c_f (by omega)]
      unfold f_c
      rw [c_n _ (by omega)];simp
theorem p13_eq {n:Nat} (hn:300 ≤ n) (y:KBt) (hy:y.1.length = 256):p13 n y = some (⟨f_c y.1 0,.none⟩,y):=by
  have e1:=p34_l1_eq n y.1 hy n 0 0 (by omega) (by omega) (by omega) (by omega)
  have e2:=p34_l2_eq n y.1 hy n 0 [] (by simp) (by omega) (by omega)
  rw [show ((0:Nat):Int) = 0 from rfl] at e1 e2
  have hl:(f_c y.1 0).length ≤ 256:=by unfold f_c;rw [List.length_map];exact c_7 _ _
  unfold p13 p34
  rw [e1,Option.bind_some,mkI_ok (by omega) (by omega) (by omega),Option.bind_some]
  refine (congrArg (fun q=>Option.bind (Option.bind q _) _) e2).trans ?_
  rfl
end Go.Proofs.Ytionknddmlmhlaa
