/- Plain theorems for the laws: what the plain functions say. No condition. -/
import Derived.Test.YthknbcfelkljcaaLB1
import Derived.Test.YthknbcfelkljcaaP3
import Derived.Test.YthknbcfelkljcaaP4
set_option linter.unusedVariables false
set_option linter.unusedSimpArgs false
namespace Go.Proofs.Ythknbcfelkljcaa
open Go.RowKit
theorem d_i {α:Type} {xs:List α} {i:Nat} (h:i < xs.length):idx xs (i:Int) = some xs[i]:=by
  rw [idx_nat,List.getElem?_eq_getElem h]
theorem c_v {α:Type} (l:List α) (c:Option Nat):a_n (⟨l,c⟩:Sl α) = (l.length:Int):=rfl
theorem a_A {α:Type} (s:Sl α):a_n s = (s.xs.length:Int):=rfl
theorem b_l (k:Nat):((k:Int) + 1) = ((k + 1:Nat):Int):=by simp
theorem a_X {α:Type} {l:List α} {i:Nat} (h:i < l.length):l.drop i = l[i] :: l.drop (i + 1):=List.drop_eq_getElem_cons h
theorem sl3I_all {α:Type} (l:List α) (cp:Option Nat):sl3I (⟨l,cp⟩:Sl α) 0 (a_n (⟨l,cp⟩:Sl α)) (a_n (⟨l,cp⟩:Sl α)) = some ⟨l,some l.length⟩:=by
  unfold sl3I
  rw [c_v,if_pos (show (0:Int) ≤ 0 ∧ (0:Int) ≤ (l.length:Int) ∧ (l.length:Int) ≤ (l.length:Int) ∧ (l.length:Int) ≤ (l.length:Int) by omega)]
  simp
theorem c_X {α:Type} {p:Prop} [Decidable p] {a b:α} (h:p):(if decide p = true then a else b) = a:=by rw [decide_eq_true h];rfl
theorem c_Y {α:Type} {p:Prop} [Decidable p] {a b:α} (h:¬ p):(if decide p = true then a else b) = b:=by rw [decide_eq_false h];rfl
theorem andO {b:Bool} {x:Option Bool} {c:Bool} (h:b = true → x = some c):(if b = true then x else some false) = some (b && c):=by cases b <;> simp at h ⊢;exact h
theorem orO {b:Bool} {x:Option Bool} {c:Bool} (h:b = false → x = some c):(if b = false then x else some true) = some (b || c):=by cases b <;> simp at h ⊢;exact h
theorem d_M {α:Type} {a:List α} {x:α} (h:a.length ≤ 1000000):d_X a [x] = some (a ++ [x]):=appI_ok (by rw [List.length_singleton];omega)
abbrev Fd:=Int × Int × Int × (Sl (Int)) × Int × Int × Int × Int × Int × Bool × Bool × Bool × Bool
abbrev Mpt:=(Sl Fd) × (Sl (Int × Int × Int)) × Bool
@[reducible] def fS (f:Fd):Int:=f.2.2.2.2.2.2.1
@[reducible] def fC (f:Fd):Int:=f.2.2.2.2.2.2.2.1
@[reducible] def fA (f:Fd):Int:=f.2.2.2.2.2.2.2.2.1
@[reducible] def fLo (f:Fd):Int:=f.2.2.2.2.1
@[reducible] def fHi (f:Fd):Int:=f.2.2.2.2.2.1
@[reducible] def fU (f:Fd):Sl Int:=f.2.2.2.1
@[reducible] def fCo (f:Fd):Bool:=f.2.2.2.2.2.2.2.2.2.1
@[reducible] def fAr (f:Fd):Bool:=f.2.2.2.2.2.2.2.2.2.2.1
@[reducible] def fSg (f:Fd):Bool:=f.2.2.2.2.2.2.2.2.2.2.2.1
def okA (f:Fd):Prop:=(1 ≤ fS f ∧ fS f ≤ 32) ∧ 1 ≤ fC f ∧ fC f ≤ 256
instance (f:Fd):Decidable (okA f):=by unfold okA;infer_instance
theorem okA.mul {f:Fd} (h:okA f):1 ≤ fS f * fC f ∧ fS f * fC f ≤ 8192:=by
  obtain ⟨⟨h1,h2⟩,h3,h4⟩:=h
  constructor
  · have:=Int.mul_le_mul h1 h3 (by omega) (by omega);simpa using this
  · have:=Int.mul_le_mul h2 h4 (by omega) (by omega);simpa using this
theorem okA.mulr {f:Fd} (h:okA f):1 ≤ f.2.2.2.2.2.2.1 * f.2.2.2.2.2.2.2.1 ∧ f.2.2.2.2.2.2.1 * f.2.2.2.2.2.2.2.1 ≤ 8192:=h.mul
def cl (a x:Int):Int:=if 0 > (if a < x then a else x) then 0 else (if a < x then a else x)
theorem cl_id {a x:Int} (h0:0 ≤ x) (h1:x ≤ a):cl a x = x:=by
  unfold cl
  rw [if_neg (show ¬ a < x by omega),if_neg (by omega)]
theorem d_N (a x:Int) (ha:0 ≤ a):0 ≤ cl a x ∧ cl a x ≤ a:=by
  unfold cl
  split <;> split at * <;> omega
def mt (k r:Int) (f:Fd):Bool:=f.1 == k && f.2.1 == r
theorem mt_eq (k r:Int) (f:Fd):(if (f.1 == k) = true then some (f.2.1 == r) else some false) = some (mt k r f):=andO fun _=>rfl
def d_j (fs:List Fd) (k r:Int):Int:=((fs.filter (mt k r)).map fun f=>cl 32 (fS f) * cl 256 (fC f)).sum
def sumB (fs:List Fd) (k r:Int):Int:=((fs.filter (mt k r)).map fun f=>fS f * fC f).sum
theorem c_w (f:Fd) (fs:List Fd) (k r:Int):d_j (f :: fs) k r = (if mt k r f = true then cl 32 (fS f) * cl 256 (fC f) else 0) + d_j fs k r:=by
  unfold d_j
  by_cases h:mt k r f = true
  · rw [List.filter_cons_of_pos h,if_pos h,List.map_cons,List.sum_cons]
  · rw [List.filter_cons_of_neg h,if_neg h,Int.zero_add]
theorem d_h (f:Fd) (fs:List Fd) (k r:Int):sumB (f :: fs) k r = (if mt k r f = true then fS f * fC f else 0) + sumB fs k r:=by
  unfold sumB
  by_cases h:mt k r f = true
  · rw [List.filter_cons_of_pos h,if_pos h,List.map_cons,List.sum_cons]
  · rw [List.filter_cons_of_neg h,if_neg h,Int.zero_add]
theorem c_a (fs:List Fd) (k r:Int):0 ≤ d_j fs k r ∧ d_j fs k r ≤ 8192 * (fs.length:Int):=by
  induction fs with
  | nil=>exact ⟨Int.le_refl _,Int.le_refl _⟩
  | cons f fs ih =>
    have h1:=d_N 32 (fS f) (by decide)
    have h2:=d_N 256 (fC f) (by decide)
    have h3:0 ≤ cl 32 (fS f) * cl 256 (fC f):=Int.mul_nonneg h1.1 h2.1
    have h4:cl 32 (fS f) * cl 256 (fC f) ≤ 8192:=by
      have:=Int.mul_le_mul h1.2 h2.2 h2.1 (by omega);simpa using this
    rw [c_w,List.length_cons]
    split <;> omega
theorem sumC_B {fs:List Fd} (h:∀ f ∈ fs,okA f) (k r:Int):d_j fs k r = sumB fs k r:=by
  induction fs with
  | nil=>rfl
  | cons f fs ih =>
    have ha:=h f (by simp)
    rw [c_w,d_h,ih fun g hg=>h g (by simp [hg])]
    obtain ⟨⟨a1,a2⟩,a3,a4⟩:=ha
    rw [cl_id (by omega) a2,cl_id (by omega) a4]
def b_3 (fs:List Fd) (k r:Int):Bool:=fs.any (mt k r)
def c_2 (m:Mpt) (k r:Int):Int:=(d_j m.1.xs k r + 7) / 8 + (if (b_3 m.1.xs k r && m.2.2) = true then 1 else 0)
theorem p22_l1_eq (n:Nat) (x:Mpt) (k r:Int) (hl:x.1.xs.length ≤ 1000):∀ (m i:Nat) (b:Bool) (s:Int),x.1.xs.length - i < m → i ≤ x.1.xs.length → 0 ≤ s → s ≤ 8192 * (i:Int) →
    p22_l1 n x k r m i b s = some (s + d_j (x.1.xs.drop i) k r,b || b_3 (x.1.xs.drop i) k r):=by
  intro m
  induction m with
  | zero=>intro i b s hm;exact absurd hm (by omega)
  | succ m ih =>
    intro i b s hm hi h0 h1
    rw [p22_l1,a_A]
    by_cases hlt:i < x.1.xs.length
    · rw [c_X (by omega),d_i hlt,Option.bind_some,mt_eq,Option.bind_some,a_X hlt,c_w]
      generalize x.1.xs[i] = f
      have h2:=d_N 32 (fS f) (by decide)
      have h3:=d_N 256 (fC f) (by decide)
      have h4:0 ≤ cl 32 (fS f) * cl 256 (fC f):=Int.mul_nonneg h2.1 h3.1
      have h5:cl 32 (fS f) * cl 256 (fC f) ≤ 8192:=by
        have:=Int.mul_le_mul h2.2 h3.2 h3.1 (by omega);simpa using this
      by_cases hm':mt k r f = true
      · have e1:(ckI .i64 ((if 0 > (if 32 < f.2.2.2.2.2.2.1 then 32 else f.2.2.2.2.2.2.1) then 0 else (if 32 < f.2.2.2.2.2.2.1 then 32 else f.2.2.2.2.2.2.1)) * (if 0 > (if 256 < f.2.2.2.2.2.2.2.1 then 256 else f.2.2.2.2.2.2.2.1) then 0 else (if 256 < f.2.2.2.2.2.2.2.1 then 256 else f.2.2.2.2.2.2.2.1)))) = some (cl 32 (fS f) * cl 256 (fC f)):=ckS (by show _ ≤ cl 32 (fS f) * cl 256 (fC f);omega) (by show cl 32 (fS f) * cl 256 (fC f) ≤ _;omega)
        rw [if_pos hm',if_pos hm',e1,Option.bind_some,ckS (by omega) (by omega),Option.bind_some,Option.bind_some,ckS (by omega) (by omega),Option.bind_some,b_l,ih (i + 1) _ _ (by omega) (by omega) (by omega) (by omega)]
        refine congrArg some (Prod.ext (by simp only;omega) ?_)
        simp [b_3,hm']
      · rw [if_neg hm',if_neg hm',Option.bind_some,ckS (by omega) (by omega),Option.bind_some,b_l,ih (i + 1) _ _ (by omega) (by omega) (by omega) (by omega)]
        refine congrArg some (Prod.ext (by simp only;omega) ?_)
        simp [b_3,hm']
    · rw [c_Y (by omega),List.drop_eq_nil_of_le (by omega)]
      refine congrArg some (Prod.ext (by simp [d_j]) (by simp [b_3]))
theorem p22_eq {n:Nat} (hn:1100 ≤ n) (x:Mpt) (k r:Int) (hl:x.1.xs.length ≤ 1000):p22 n x k r = some (c_2 x k r):=by
  have h:=p22_l1_eq n x k r hl n 0 false 0 (by omega) (by omega) (by omega) (by omega)
  have hr:=c_a x.1.xs k r
  rw [List.drop_zero,Int.zero_add,Bool.false_or] at h
  unfold p22 c_2
  rw [show ((0:Nat):Int) = 0 from rfl] at h
  rw [h,Option.bind_some]
  simp only
  rw [ckS (by omega) (by omega),Option.bind_some,quoS (by omega) (by omega) (by omega),Option.bind_some,andO fun _=>rfl,Option.bind_some]
  split
  · rw [ckS (by omega) (by omega)];rfl
  · rw [Option.bind_some,Int.add_zero]
def okB (m:Mpt) (f:Fd):Prop:=0 ≤ fA f ∧ fA f + fS f * fC f ≤ 4096 ∧ (fLo f ≤ fHi f ∧ -2147483648 ≤ fLo f ∧ fHi f ≤ 4294967295) ∧ (fCo f = true ∨ 0 < (fU f).xs.length) ∧ fA f + fS f * fC f ≤ (d_j m.1.xs f.1 f.2.1 + 7) / 8 * 8
instance (m:Mpt) (f:Fd):Decidable (okB m f):=by unfold okB;infer_instance
def Pall (m:Mpt) (l:List Fd):Prop:=∀ f ∈ l,okA f ∧ okB m f
instance (m:Mpt) (l:List Fd):Decidable (Pall m l):=by unfold Pall;infer_instance
def Ppr (m:Mpt):Prop:=Pall m m.1.xs
instance (m:Mpt):Decidable (Ppr m):=by unfold Ppr;infer_instance
theorem mt_self (f:Fd):mt f.1 f.2.1 f = true:=by simp [mt]
theorem c_Z {fs:List Fd} {f:Fd} (h:f ∈ fs):b_3 fs f.1 f.2.1 = true:=List.any_eq_true.2 ⟨f,h,mt_self f⟩
theorem p34_eq (n:Nat) (f:Fd):p34 n f = some (decide (okA f)):=by
  unfold p34 okA
  rw [andO fun _=>rfl,Option.bind_some,andO fun _=>rfl,Option.bind_some,andO fun _=>rfl,Option.bind_some]
  refine congrArg some ?_
  by_cases h1:1 ≤ fS f <;> by_cases h2:fS f ≤ 32 <;> by_cases h3:1 ≤ fC f <;> by_cases h4:fC f ≤ 256 <;> simp [h1,h2,h3,h4]
theorem p35_eq (n:Nat) (f:Fd) (h:okA f):p35 n f = some (decide (0 ≤ fA f ∧ fA f + fS f * fC f ≤ 4096)):=by
  have hm:=h.mulr
  unfold p35
  rw [ckS (by omega) (by omega),Option.bind_some,ckS (by omega) (by omega),Option.bind_some,andO fun _=>rfl,Option.bind_some]
  refine congrArg some ?_
  rw [Bool.decide_and]
  have e:(f.2.2.2.2.2.2.2.2.1 ≤ 4096 - f.2.2.2.2.2.2.1 * f.2.2.2.2.2.2.2.1) ↔ (fA f + fS f * fC f ≤ 4096):=by
    show f.2.2.2.2.2.2.2.2.1 ≤ 4096 - f.2.2.2.2.2.2.1 * f.2.2.2.2.2.2.2.1 ↔ f.2.2.2.2.2.2.2.2.1 + f.2.2.2.2.2.2.1 * f.2.2.2.2.2.2.2.1 ≤ 4096
    omega
  rw [decide_eq_decide.2 e]
theorem p36_eq (n:Nat) (f:Fd):p36 n f = some (decide (fLo f ≤ fHi f ∧ -2147483648 ≤ fLo f ∧ fHi f ≤ 4294967295)):=by
  unfold p36
  rw [andO fun _=>rfl,Option.bind_some,andO fun _=>rfl,Option.bind_some]
  refine congrArg some ?_
  by_cases h1:fLo f ≤ fHi f <;> by_cases h2:-2147483648 ≤ fLo f <;> by_cases h3:fHi f ≤ 4294967295 <;> simp [h1,h2,h3]
theorem p37_eq (n:Nat) (f:Fd):p37 n f = some (decide (fCo f = true ∨ 0 < (fU f).xs.length)):=by
  unfold p37
  rw [orO fun _=>rfl,Option.bind_some,a_A]
  refine congrArg some ?_
  have e:(((fU f).xs.length:Int) > 0) ↔ 0 < (fU f).xs.length:=by omega
  by_cases h1:fCo f = true <;> by_cases h2:0 < (fU f).xs.length <;> simp [h1,h2]
theorem p38_eq {n:Nat} (hn:1100 ≤ n) (x:Mpt) (hl:x.1.xs.length ≤ 1000) (f:Fd) (hf:f ∈ x.1.xs) (h:okA f) (h2:0 ≤ fA f ∧ fA f + fS f * fC f ≤ 4096):p38 n f x = some (decide (fA f + fS f * fC f ≤ (d_j x.1.xs f.1 f.2.1 + 7) / 8 * 8)):=by
  have hm:=h.mulr
  have h2:0 ≤ f.2.2.2.2.2.2.2.2.1 ∧ f.2.2.2.2.2.2.2.2.1 + f.2.2.2.2.2.2.1 * f.2.2.2.2.2.2.2.1 ≤ 4096:=h2
  have hr:=c_a x.1.xs f.1 f.2.1
  have e39:p39 n x f = some ((d_j x.1.xs f.1 f.2.1 + 7) / 8 * 8):=by
    unfold p39
    rw [p22_eq hn x _ _ hl,Option.bind_some]
    unfold c_2
    rw [c_Z hf,Bool.true_and]
    by_cases hb:x.2.2 = true
    · rw [if_pos hb,ckS (by omega) (by omega),Option.bind_some,if_pos hb,ckS (by omega) (by omega),Option.bind_some,Option.bind_some]
      refine congrArg some ?_
      omega
    · rw [if_neg hb,ckS (by omega) (by omega),Option.bind_some,if_neg hb,Option.bind_some]
      refine congrArg some ?_
      omega
  unfold p38
  rw [ckS (by omega) (by omega),Option.bind_some,ckS (by omega) (by omega),Option.bind_some,e39,Option.bind_some]
theorem p15_l1_eq {n:Nat} (hn:1100 ≤ n) (x:Mpt) (hl:x.1.xs.length ≤ 1000):∀ (m i:Nat),x.1.xs.length - i < m → i ≤ x.1.xs.length → p15_l1 n x m i = some (if Pall x (x.1.xs.drop i) then .inl () else .inr false):=by
  intro m
  induction m with
  | zero=>intro i hm;exact absurd hm (by omega)
  | succ m ih =>
    intro i hm hi
    rw [p15_l1,a_A]
    by_cases hlt:i < x.1.xs.length
    · have hmem:x.1.xs[i] ∈ x.1.xs:=List.getElem_mem hlt
      rw [c_X (by omega),d_i hlt,Option.bind_some,a_X hlt]
      generalize x.1.xs[i] = f at hmem
      have no:∀ {b:Bool} {e:Option (Unit ⊕ Bool)},(b = false) → (¬ (okA f ∧ okB x f)) → (if (!b) = true then some (.inr false) else e) = some (if Pall x (f :: x.1.xs.drop (i + 1)) then .inl () else .inr false):=by
        intro b e hb hno
        rw [hb,if_pos (show (!false) = true from rfl),if_neg (fun h=>hno (h f (by simp)))]
      have yes:∀ {b:Bool} {e:Option (Unit ⊕ Bool)},b = true → (if (!b) = true then some (.inr false) else e) = e:=by
        intro b e hb
        rw [hb];rfl
      rw [p34_eq,Option.bind_some]
      by_cases h1:okA f
      · rw [yes (decide_eq_true h1),p35_eq n f h1,Option.bind_some]
        by_cases h2:0 ≤ fA f ∧ fA f + fS f * fC f ≤ 4096
        · rw [yes (decide_eq_true h2),p36_eq,Option.bind_some]
          by_cases h3:fLo f ≤ fHi f ∧ -2147483648 ≤ fLo f ∧ fHi f ≤ 4294967295
          · rw [yes (decide_eq_true h3),p37_eq,Option.bind_some]
            by_cases h4:fCo f = true ∨ 0 < (fU f).xs.length
            · rw [yes (decide_eq_true h4),p38_eq hn x hl f hmem h1 h2,Option.bind_some]
              by_cases h5:fA f + fS f * fC f ≤ (d_j x.1.xs f.1 f.2.1 + 7) / 8 * 8
              · rw [yes (decide_eq_true h5),ckS (by omega) (by omega),Option.bind_some,b_l,ih (i + 1) (by omega) (by omega)]
                refine congrArg some ?_
                by_cases h6:Pall x (x.1.xs.drop (i + 1))
                · rw [if_pos h6,if_pos]
                  intro g hg
                  rcases List.mem_cons.1 hg with rfl | hg
                  · exact ⟨h1,h2.1,h2.2,h3,h4,h5⟩
                  · exact h6 g hg
                · rw [if_neg h6,if_neg (fun q=>h6 fun g hg=>q g (by simp [hg]))]
              · exact no (decide_eq_false h5) fun q=>h5 q.2.2.2.2.2
            · exact no (decide_eq_false h4) fun q=>h4 q.2.2.2.2.1
          · exact no (decide_eq_false h3) fun q=>h3 q.2.2.2.1
        · exact no (decide_eq_false h2) fun q=>h2 ⟨q.2.1,q.2.2.1⟩
      · exact no (decide_eq_false h1) fun q=>h1 q.1
    · rw [c_Y (by omega),List.drop_eq_nil_of_le (by omega),if_pos (show Pall x [] from fun g hg=>absurd hg List.not_mem_nil)]
theorem p15_eq {n:Nat} (hn:1100 ≤ n) (x:Mpt) (hl:x.1.xs.length ≤ 1000):p15 n x = some (decide (Ppr x)):=by
  have h:=p15_l1_eq hn x hl n 0 (by omega) (by omega)
  rw [show ((0:Nat):Int) = 0 from rfl,List.drop_zero] at h
  unfold p15
  rw [h,Option.bind_some]
  by_cases hp:Ppr x
  · rw [if_pos (show Pall x x.1.xs from hp),lrKl,decide_eq_true hp]
  · rw [if_neg (show ¬ Pall x x.1.xs from hp),lrKr,decide_eq_false hp]
theorem c_b {x:Int} (h0:-9223372036854775808 ≤ x) (h1:x ≤ 9223372036854775807):IntKind.wrap .i64 x = x:=(a_k (ckS h0 h1)).2.2
theorem and_u8_1 {y:Int} (h0:0 ≤ y) (h1:y ≤ 255):a_Z .and .u8 y 1 = y % 2:=by
  obtain ⟨a,rfl⟩:=Int.eq_ofNat_of_zero_le h0
  unfold a_Z
  simp only
  have e:(BitVec.ofInt 8 (a:Int) &&& BitVec.ofInt 8 1).toNat = a % 2:=by
    rw [BitVec.toNat_and]
    have e1:(BitVec.ofInt 8 (a:Int)).toNat = a:=by
      rw [BitVec.toNat_ofInt];omega
    have e2:(BitVec.ofInt 8 1).toNat = 1:=by decide
    rw [e1,e2,Nat.and_one_is_mod]
  rw [show IntKind.bits .u8 = 8 from rfl,e,wrap_u8]
  omega
theorem or_i64 {a c:Int} {i:Nat} (hi:i ≤ 40) (h0:0 ≤ a) (h1:a < 2 ^ i) (hc0:0 ≤ c) (hc:c ≤ 1):a_Z .or .i64 a (c * 2 ^ i) = a + c * 2 ^ i:=by
  obtain ⟨a,rfl⟩:=Int.eq_ofNat_of_zero_le h0
  obtain ⟨c,rfl⟩:=Int.eq_ofNat_of_zero_le hc0
  have hp:(2:Nat) ^ i ≤ 2 ^ 40:=Nat.pow_le_pow_right (by decide) hi
  have h1:a < 2 ^ i:=by
    have:((2 ^ i:Nat):Int) = (2:Int) ^ i:=by simp
    omega
  have hc:c ≤ 1:=by omega
  have hcp:c * 2 ^ i ≤ 2 ^ 40:=by
    have:=Nat.mul_le_mul_right (2 ^ i) hc
    omega
  have e0:((c:Int) * 2 ^ i) = ((c * 2 ^ i:Nat):Int):=by simp
  rw [e0]
  unfold a_Z
  simp only
  rw [show IntKind.bits .i64 = 64 from rfl]
  have nat:∀ z:Nat,z ≤ 2 ^ 41 → (BitVec.ofInt 64 (z:Int)).toNat = z:=by
    intro z hz
    rw [BitVec.toNat_ofInt]
    omega
  have e:(BitVec.ofInt 64 ((a:Nat):Int) ||| BitVec.ofInt 64 ((c * 2 ^ i:Nat):Int)).toNat = a + c * 2 ^ i:=by
    rw [BitVec.toNat_or,nat a (by omega),nat (c * 2 ^ i) (by omega),Nat.or_comm,Nat.mul_comm,← Nat.two_pow_add_eq_or_of_lt h1]
    omega
  rw [e,c_b (by omega) (by omega)]
  omega
theorem shl_i64 {x:Int} {i:Nat} (hi:i ≤ 40) (h0:-1 ≤ x) (h1:x ≤ 1):shlI .i64 x (i:Int) = some (x * 2 ^ i):=by
  have hp:(2:Int) ^ i ≤ 2 ^ 40:=by
    have:(2:Nat) ^ i ≤ 2 ^ 40:=Nat.pow_le_pow_right (by decide) hi
    have e:((2 ^ i:Nat):Int) = (2:Int) ^ i:=by simp
    omega
  have hp0:(0:Int) ≤ 2 ^ i:=Int.pow_nonneg (by decide)
  unfold shlI
  rw [if_pos (by omega)]
  have e:min ((i:Int)).toNat (IntKind.bits .i64) = i:=by
    rw [show IntKind.bits .i64 = 64 from rfl];omega
  rw [e]
  refine congrArg some ?_
  rcases (show x = -1 ∨ x = 0 ∨ x = 1 by omega) with rfl | rfl | rfl
  · exact c_b (by omega) (by omega)
  · exact c_b (by omega) (by omega)
  · exact c_b (by omega) (by omega)
theorem shr_u8 {y:Int} {i:Nat} (hi:i ≤ 8):d_P y (i:Int) .u8 = some (y / 2 ^ i):=by
  unfold d_P
  rw [if_pos (by omega)]
  have e:min ((i:Int)).toNat (IntKind.bits .u8) = i:=by
    rw [show IntKind.bits .u8 = 8 from rfl];omega
  rw [e,Int.fdiv_eq_ediv_of_nonneg _ (Int.pow_nonneg (by decide))]
theorem shr_i64 {y:Int} {i:Nat} (hi:i ≤ 64):d_P y (i:Int) .i64 = some (y / 2 ^ i):=by
  unfold d_P
  rw [if_pos (by omega)]
  have e:min ((i:Int)).toNat (IntKind.bits .i64) = i:=by
    rw [show IntKind.bits .i64 = 64 from rfl];omega
  rw [e,Int.fdiv_eq_ediv_of_nonneg _ (Int.pow_nonneg (by decide))]
theorem b_A (i:Nat):(0:Int) < 2 ^ i:=Int.pow_pos (by decide)
theorem c_x (i:Nat):(2:Int) ^ (i + 1) = 2 * 2 ^ i:=by rw [Int.pow_succ,Int.mul_comm]
theorem d_v {i j:Nat} (h:i ≤ j):(2:Int) ^ i ≤ 2 ^ j:=by
  have:(2:Nat) ^ i ≤ 2 ^ j:=Nat.pow_le_pow_right (by decide) h
  have e:((2 ^ i:Nat):Int) = (2:Int) ^ i:=by simp
  have e':((2 ^ j:Nat):Int) = (2:Int) ^ j:=by simp
  omega
def byt (b:List Int) (i:Nat):Int:=b.getD i 0
def skp (nb:Bool):Nat:=if nb = true then 1 else 0
def bt (nb:Bool) (b:List Int) (p:Nat):Int:=byt b (p / 8 + skp nb) / 2 ^ (p % 8) % 2
def Byts (b:List Int):Prop:=∀ y ∈ b,0 ≤ y ∧ y ≤ 255
theorem byt_of {b:List Int} {i:Nat} (h:i < b.length):idx b (i:Int) = some (byt b i):=by
  rw [d_i h]
  unfold byt
  rw [List.getD_eq_getElem?_getD,List.getElem?_eq_getElem h];rfl
theorem Byts.rng {b:List Int} (h:Byts b) (i:Nat):0 ≤ byt b i ∧ byt b i ≤ 255:=by
  unfold byt
  by_cases hi:i < b.length
  · rw [List.getD_eq_getElem?_getD,List.getElem?_eq_getElem hi];exact h _ (List.getElem_mem hi)
  · rw [List.getD_eq_getElem?_getD,List.getElem?_eq_none (by omega)];exact ⟨by decide,by decide⟩
theorem bt_rng (nb:Bool) (b:List Int) (p:Nat):0 ≤ bt nb b p ∧ bt nb b p ≤ 1:=by unfold bt;omega
theorem div_rng {y:Int} (h0:0 ≤ y) (h1:y ≤ 255) (i:Nat):0 ≤ y / 2 ^ i ∧ y / 2 ^ i ≤ 255 :=
  ⟨Int.ediv_nonneg h0 (Int.le_of_lt (b_A i)),Int.le_trans (Int.ediv_le_self _ h0) h1⟩
theorem p19_eq (n:Nat) (x:Mpt) (b:Sl Int) (p:Nat) (hp:p ≤ 100000) (hb:Byts b.xs) (hl:p / 8 + skp x.2.2 < b.xs.length):p19 n x b (p:Int) = some (bt x.2.2 b.xs p):=by
  have key:∀ q:Nat,q / 8 = p / 8 + skp x.2.2 → q % 8 = p % 8 → q ≤ 200000 → ((some ((q:Nat):Int)).bind fun j_8=>(d_y .i64 j_8 8).bind fun x_12=>(idx b.xs x_12).bind fun y_13=>(d_n .i64 j_8 8).bind fun x_19=>(d_P y_13 x_19 .u8).bind fun x_20=>(d_n .i64 x_20 2).bind fun x_21=>some x_21) = some (bt x.2.2 b.xs p):=by
    intro q h1 h2 hq
    have hr:=hb.rng (p / 8 + skp x.2.2)
    have hd:=div_rng hr.1 hr.2 (p % 8)
    rw [Option.bind_some,quoS (by omega) (by omega) (by omega),Option.bind_some,show ((q:Nat):Int) / 8 = ((q / 8:Nat):Int) by simp,h1,byt_of hl,Option.bind_some,remS (by omega) (by omega) (by omega),Option.bind_some,show ((q:Nat):Int) % 8 = ((q % 8:Nat):Int) by simp,h2,shr_u8 (by omega),Option.bind_some,remS hd.1 (by omega) (by omega),Option.bind_some]
    rfl
  unfold p19
  by_cases hn:x.2.2 = true
  · rw [if_pos hn,ckS (by omega) (by omega),Option.bind_some,show ((p:Nat):Int) + 8 = ((p + 8:Nat):Int) by simp]
    exact key (p + 8) (by unfold skp;rw [if_pos hn];omega) (by omega) (by omega)
  · rw [if_neg hn]
    exact key p (by unfold skp;rw [if_neg hn];omega) rfl (by omega)
def num (nb:Bool) (b:List Int) (off:Nat):Nat → Int
  | 0=>0
  | i + 1=>num nb b off i + bt nb b (off + i) * 2 ^ i
theorem c_y (nb:Bool) (b:List Int) (off:Nat):∀ i,0 ≤ num nb b off i ∧ num nb b off i < 2 ^ i
  | 0=>⟨Int.le_refl _,by show (0:Int) < 1;decide⟩
  | i + 1=>by
    have h:=c_y nb b off i
    have hb:=bt_rng nb b (off + i)
    have hp:=b_A i
    rw [c_x]
    show 0 ≤ num nb b off i + bt nb b (off + i) * 2 ^ i ∧ num nb b off i + bt nb b (off + i) * 2 ^ i < 2 * 2 ^ i
    rcases (show bt nb b (off + i) = 0 ∨ bt nb b (off + i) = 1 by omega) with e | e
    · rw [e];omega
    · rw [e];omega
def sgn (f:Fd) (v:Int):Int:=if (fSg f && decide (2 ^ (fS f).toNat / 2 ≤ v)) = true then v - 2 ^ (fS f).toNat else v
def off (f:Fd) (j:Nat):Nat:=(fA f).toNat + j * (fS f).toNat
def b_Y (m:Mpt) (b:List Int) (f:Fd) (j:Nat):Int:=sgn f (num m.2.2 b (off f j) (fS f).toNat)
structure Elm (m:Mpt) (b:List Int) (f:Fd) (j:Nat):Prop where
  ok:okA f
  at0:0 ≤ fA f
  atm:fA f + fS f * fC f ≤ 4096
  lt:(j:Int) < fC f
  len:∀ i:Nat,i < (fS f).toNat → (off f j + i) / 8 + skp m.2.2 < b.length
theorem Elm.mul {m:Mpt} {b:List Int} {f:Fd} {j:Nat} (h:Elm m b f j):(0 ≤ (j:Int) * f.2.2.2.2.2.2.1 ∧ (j:Int) * f.2.2.2.2.2.2.1 ≤ 8192) ∧ (((off f j:Nat):Int) = f.2.2.2.2.2.2.2.2.1 + (j:Int) * f.2.2.2.2.2.2.1 ∧ off f j ≤ 5000):=by
  obtain ⟨⟨⟨h1,h2⟩,h3,h4⟩,h5,h6,h7,_⟩:=h
  obtain ⟨S,hS⟩:=Int.eq_ofNat_of_zero_le (show 0 ≤ fS f by omega)
  obtain ⟨A,hA⟩:=Int.eq_ofNat_of_zero_le h5
  obtain ⟨C,hC⟩:=Int.eq_ofNat_of_zero_le (show 0 ≤ fC f by omega)
  have e1:f.2.2.2.2.2.2.1 = (S:Int):=hS
  have e2:f.2.2.2.2.2.2.2.2.1 = (A:Int):=hA
  rw [hS,hC,hA] at h6
  rw [hS] at h2
  rw [hC] at h4 h7
  have hj:j * S ≤ 256 * 32:=Nat.mul_le_mul (by omega) (by omega)
  have hj2:j * S ≤ S * C:=by rw [Nat.mul_comm S C];exact Nat.mul_le_mul (by omega) (Nat.le_refl _)
  have e3:((j:Int) * (S:Int)) = ((j * S:Nat):Int):=by simp
  have e4:((S:Int) * (C:Int)) = ((S * C:Nat):Int):=by simp
  have eo:off f j = A + j * S:=by
    unfold off
    rw [hS,hA];simp
  rw [e1,e2,e3,eo]
  rw [e4] at h6
  exact ⟨⟨by omega,by omega⟩,by simp,by omega⟩
theorem p16_l1_eq (n:Nat) (x:Mpt) (f:Fd) (b:Sl Int) (j:Nat) (hb:Byts b.xs) (h:Elm x b.xs f j):∀ (m i:Nat),(fS f).toNat - i < m → i ≤ (fS f).toNat →
    p16_l1 n x f b j m i (2 ^ i) (num x.2.2 b.xs (off f j) i) = some (num x.2.2 b.xs (off f j) (fS f).toNat,2 ^ (fS f).toNat):=by
  have hm:=h.mul
  have hs:=h.ok.1
  have hs':1 ≤ f.2.2.2.2.2.2.1 ∧ f.2.2.2.2.2.2.1 ≤ 32:=hs
  intro m
  induction m with
  | zero=>intro i hm;exact absurd hm (by omega)
  | succ m ih =>
    intro i hi1 hi2
    rw [p16_l1]
    by_cases hlt:i < (fS f).toNat
    · have hyes:(i:Int) < f.2.2.2.2.2.2.1:=by
        have h_:(i:Int) < fS f:=by omega
        exact h_
      have hl:=h.len i hlt
      have hn:=c_y x.2.2 b.xs (off f j) i
      have hbt:=bt_rng x.2.2 b.xs (off f j + i)
      have hp:=d_v (show i ≤ 40 by omega)
      have hp0:=b_A i
      have eb:(2:Int) ^ i * bt x.2.2 b.xs (off f j + i) = bt x.2.2 b.xs (off f j + i) * 2 ^ i:=Int.mul_comm _ _
      have hb2:0 ≤ bt x.2.2 b.xs (off f j + i) * 2 ^ i ∧ bt x.2.2 b.xs (off f j + i) * 2 ^ i ≤ 2 ^ 40:=by
        rcases (show bt x.2.2 b.xs (off f j + i) = 0 ∨ bt x.2.2 b.xs (off f j + i) = 1 by omega) with e | e
        · rw [e];omega
        · rw [e];omega
      rw [c_X hyes,ckS (by omega) (by omega),Option.bind_some,ckS (by omega) (by omega),Option.bind_some,← hm.2.1,ckS (by omega) (by omega),Option.bind_some,show ((off f j:Nat):Int) + (i:Int) = ((off f j + i:Nat):Int) by simp,p19_eq n x b (off f j + i) (by omega) hb hl,Option.bind_some,eb,ckS (by omega) (by omega),Option.bind_some,ckS (by omega) (by omega),Option.bind_some,ckS (by omega) (by omega),Option.bind_some,ckS (by omega) (by omega),Option.bind_some,b_l,show (2:Int) ^ i * 2 = 2 ^ (i + 1) by rw [c_x];omega]
      exact ih (i + 1) (by omega) (by omega)
    · have:i = (fS f).toNat:=by omega
      subst this
      have hno:¬ (((fS f).toNat:Nat):Int) < f.2.2.2.2.2.2.1:=by
        have h_:¬ (((fS f).toNat:Nat):Int) < fS f:=by omega
        exact h_
      rw [c_Y hno]
theorem p16_eq {n:Nat} (hn:100 ≤ n) (x:Mpt) (f:Fd) (b:Sl Int) (j:Nat) (hb:Byts b.xs) (h:Elm x b.xs f j):p16 n x f b j = some (b_Y x b.xs f j):=by
  have hs:=h.ok.1
  have h1:=p16_l1_eq n x f b j hb h n 0 (by omega) (by omega)
  have hr:=c_y x.2.2 b.xs (off f j) (fS f).toNat
  have hp:=d_v (show (fS f).toNat ≤ 40 by omega)
  have hp0:=b_A (fS f).toNat
  unfold p16
  rw [show ((0:Nat):Int) = 0 from rfl,show (2:Int) ^ 0 = 1 from rfl,show num x.2.2 b.xs (off f j) 0 = 0 from rfl] at h1
  rw [h1,Option.bind_some]
  simp only
  rw [quoS (by omega) (by omega) (by omega),Option.bind_some,andO fun _=>rfl,Option.bind_some]
  unfold b_Y sgn
  split
  · rw [ckS (by omega) (by omega)];rfl
  · rfl
theorem p49_l1_eq (n:Nat) (f:Fd) (x:Mpt) (b:Sl Int) (j:Nat) (hb:Byts b.xs) (h:Elm x b.xs f j):∀ (m i:Nat),(fS f).toNat - i < m → i ≤ (fS f).toNat →
    p49_l1 n (Nat × (Int × Int)) f j (rnd (p29_r1 n b)) (skp x.2.2:Nat) m i (0,(num x.2.2 b.xs (off f j) i,(i:Int))) = some (.inl (0,(num x.2.2 b.xs (off f j) (fS f).toNat,(((fS f).toNat:Nat):Int)))):=by
  have hm:=h.mul
  have hs:=h.ok.1
  have hs':1 ≤ f.2.2.2.2.2.2.1 ∧ f.2.2.2.2.2.2.1 ≤ 32:=hs
  have hk:skp x.2.2 ≤ 1:=by unfold skp;split <;> omega
  intro m
  induction m with
  | zero=>intro i hm;exact absurd hm (by omega)
  | succ m ih =>
    intro i hi1 hi2
    rw [p49_l1]
    by_cases hlt:i < (fS f).toNat
    · have hyes:(i:Int) < f.2.2.2.2.2.2.1:=by
        have h_:(i:Int) < fS f:=by omega
        exact h_
      have hl:=h.len i hlt
      have hn:=c_y x.2.2 b.xs (off f j) i
      have hbt:=bt_rng x.2.2 b.xs (off f j + i)
      have hr:=hb.rng ((off f j + i) / 8 + skp x.2.2)
      have hd:=div_rng hr.1 hr.2 ((off f j + i) % 8)
      have e1:p29_r1 n b (num x.2.2 b.xs (off f j) i,(i:Int)) ((((off f j + i) / 8 + skp x.2.2:Nat):Int),(((off f j + i) % 8:Nat):Int)) = some (0,(num x.2.2 b.xs (off f j) (i + 1),((i + 1:Nat):Int))):=by
        unfold p29_r1
        simp only
        rw [byt_of hl,Option.bind_some,shr_u8 (by omega),Option.bind_some,and_u8_1 hd.1 hd.2]
        have e2:byt b.xs ((off f j + i) / 8 + skp x.2.2) / 2 ^ ((off f j + i) % 8) % 2 = bt x.2.2 b.xs (off f j + i):=rfl
        rw [e2,shl_i64 (by omega) (by omega) (by omega),Option.bind_some,ckS (by omega) (by omega),Option.bind_some,or_i64 (by omega) hn.1 hn.2 hbt.1 hbt.2,b_l]
        rfl
      have e3:rnd (p29_r1 n b) (0,(num x.2.2 b.xs (off f j) i,(i:Int))) ((((off f j + i) / 8 + skp x.2.2:Nat):Int),(((off f j + i) % 8:Nat):Int)) = some (true,(0,(num x.2.2 b.xs (off f j) (i + 1),((i + 1:Nat):Int)))):=by
        show (p29_r1 n b (num x.2.2 b.xs (off f j) i,(i:Int)) ((((off f j + i) / 8 + skp x.2.2:Nat):Int),(((off f j + i) % 8:Nat):Int))).map (fun r=>(Nat.beq r.1 0,r)) = _
        rw [e1];rfl
      rw [c_X hyes,ckS (by omega) (by omega),Option.bind_some,ckS (by omega) (by omega),Option.bind_some,← hm.2.1,ckS (by omega) (by omega),Option.bind_some,show ((off f j:Nat):Int) + (i:Int) = ((off f j + i:Nat):Int) by simp,quoS (by omega) (by omega) (by omega),Option.bind_some,ckS (by omega) (by omega),Option.bind_some,remS (by omega) (by omega) (by omega),Option.bind_some,show ((skp x.2.2:Nat):Int) + ((off f j + i:Nat):Int) / 8 = (((off f j + i) / 8 + skp x.2.2:Nat):Int) by omega,show ((off f j + i:Nat):Int) % 8 = (((off f j + i) % 8:Nat):Int) by simp,e3,Option.bind_some]
      rw [if_neg (show ¬ ((!true) = true) from by decide),ckS (by omega) (by omega),Option.bind_some,b_l]
      exact ih (i + 1) (by omega) (by omega)
    · have:i = (fS f).toNat:=by omega
      subst this
      have hno:¬ (((fS f).toNat:Nat):Int) < f.2.2.2.2.2.2.1:=by
        have h_:¬ (((fS f).toNat:Nat):Int) < fS f:=by omega
        exact h_
      rw [c_Y hno]
theorem p29_eq {n:Nat} (hn:100 ≤ n) (x:Mpt) (f:Fd) (b:Sl Int) (j:Nat) (hb:Byts b.xs) (h:Elm x b.xs f j):p29 n x f b j = some (b_Y x b.xs f j):=by
  have hs:=h.ok.1
  have hs':1 ≤ f.2.2.2.2.2.2.1 ∧ f.2.2.2.2.2.2.1 ≤ 32:=hs
  have h1:=p49_l1_eq n f x b j hb h n 0 (by omega) (by omega)
  have hr:=c_y x.2.2 b.xs (off f j) (fS f).toNat
  have hp:=d_v (show (fS f).toNat ≤ 40 by omega)
  have hp0:=b_A (fS f).toNat
  obtain ⟨q,hq⟩:∃ q,(fS f).toNat = q + 1:=⟨(fS f).toNat - 1,by omega⟩
  have hS:f.2.2.2.2.2.2.1 = ((q + 1:Nat):Int):=by
    have:fS f = ((q + 1:Nat):Int):=by omega
    exact this
  rw [show ((0:Nat):Int) = 0 from rfl,show num x.2.2 b.xs (off f j) 0 = 0 from rfl] at h1
  have e46:p46 n x f (j:Int) = some (x,f,(j:Int)):=rfl
  have e49:p49 n x f (j:Int) (Nat × (Int × Int)) (rnd (p29_r1 n b)) (0,(0,0)) = some (0,(num x.2.2 b.xs (off f j) (fS f).toNat,(((fS f).toNat:Nat):Int))):=by
    unfold p49
    have ek:(if x.2.2 = true then some (1:Int) else some 0) = some ((skp x.2.2:Nat):Int):=by
      unfold skp;split <;> rfl
    rw [ek,Option.bind_some,h1,Option.bind_some,lrKl]
  unfold p29
  rw [e46,Option.bind_some]
  simp only
  rw [e49,Option.bind_some]
  simp only
  have e1:(ckI .i64 (f.2.2.2.2.2.2.1 - 1)).bind (fun x_144=>(d_P (num x.2.2 b.xs (off f j) (fS f).toNat) x_144 .i64).bind fun x_145=>some (x_145 == 1)) = some (decide (2 ^ (fS f).toNat / 2 ≤ num x.2.2 b.xs (off f j) (fS f).toNat)):=by
    rw [hS,ckS (by omega) (by omega),Option.bind_some,show (((q + 1:Nat):Int) - 1) = (q:Int) by omega,shr_i64 (by omega),Option.bind_some]
    refine congrArg some ?_
    have hpq:=b_A q
    have hq2:(2:Int) ^ (fS f).toNat = 2 * 2 ^ q:=by rw [hq,c_x]
    have ed:(2:Int) ^ (fS f).toNat / 2 = 2 ^ q:=by rw [hq2];omega
    rw [ed]
    rw [hq2] at hr
    generalize num x.2.2 b.xs (off f j) (fS f).toNat = v at hr
    by_cases hv:(2:Int) ^ q ≤ v
    · rw [decide_eq_true hv,beq_iff_eq]
      have h2:v / 2 ^ q = (v - 2 ^ q) / 2 ^ q + 1:=by
        have:=Int.add_ediv_of_dvd_right (a:=v - 2 ^ q) (Int.dvd_refl (2 ^ q))
        rw [Int.ediv_self (by omega)] at this
        rw [← this]
        congr 1
        omega
      rw [h2,Int.ediv_eq_zero_of_lt (by omega) (by omega)]
      rfl
    · rw [decide_eq_false hv,Int.ediv_eq_zero_of_lt (by omega) (by omega)]
      rfl
  rw [andO fun _=>e1,Option.bind_some]
  unfold b_Y sgn
  split
  · rw [hS,shl_i64 (by omega) (by omega) (by omega),Option.bind_some,Int.one_mul]
    rw [hq] at hr hp ⊢
    rw [ckS (by omega) (by omega)];rfl
  · rfl
section
set_option maxRecDepth 100000
theorem p8_ok:p8 6000 = some true:=by kernel_rfl
end
theorem p18_l1_eq (n:Nat) (x:Mpt) (f:Fd) (hl:x.1.xs.length ≤ 1000) (ha:∀ g ∈ x.1.xs,okA g):∀ (m i:Nat) (s:Int),x.1.xs.length - i < m → i ≤ x.1.xs.length → 0 ≤ s → s ≤ 8192 * (i:Int) →
    p18_l1 n x f m i s = some (s + sumB (x.1.xs.drop i) f.1 f.2.1):=by
  intro m
  induction m with
  | zero=>intro i s hm;exact absurd hm (by omega)
  | succ m ih =>
    intro i s hm hi h0 h1
    rw [p18_l1,a_A]
    by_cases hlt:i < x.1.xs.length
    · have hg:=(ha x.1.xs[i] (List.getElem_mem hlt)).mulr
      have hg':=(ha x.1.xs[i] (List.getElem_mem hlt)).mul
      rw [c_X (by omega),d_i hlt,Option.bind_some,Option.bind_some,mt_eq,Option.bind_some,a_X hlt,d_h]
      by_cases hm':mt f.1 f.2.1 x.1.xs[i] = true
      · rw [if_pos hm',if_pos hm',Option.bind_some,Option.bind_some,ckS (by omega) (by omega),Option.bind_some,ckS (by omega) (by omega),Option.bind_some,Option.bind_some,ckS (by omega) (by omega),Option.bind_some,b_l,ih (i + 1) _ (by omega) (by omega) (by omega) (by omega)]
        refine congrArg some ?_
        show s + fS x.1.xs[i] * fC x.1.xs[i] + _ = _
        omega
      · rw [if_neg hm',if_neg hm',Option.bind_some,ckS (by omega) (by omega),Option.bind_some,b_l,ih (i + 1) _ (by omega) (by omega) (by omega) (by omega)]
        refine congrArg some ?_
        omega
    · rw [c_Y (by omega),List.drop_eq_nil_of_le (by omega)]
      refine congrArg some ?_
      simp [sumB]
theorem p18_eq {n:Nat} (hn:1100 ≤ n) (x:Mpt) (f:Fd) (hl:x.1.xs.length ≤ 1000) (ha:∀ g ∈ x.1.xs,okA g):p18 n x f = some ((d_j x.1.xs f.1 f.2.1 + 7) / 8 * 8):=by
  have h:=p18_l1_eq n x f hl ha n 0 0 (by omega) (by omega) (by omega) (by omega)
  have hr:=c_a x.1.xs f.1 f.2.1
  rw [show ((0:Nat):Int) = 0 from rfl,List.drop_zero,Int.zero_add,← sumC_B ha] at h
  unfold p18
  rw [h,Option.bind_some,ckS (by omega) (by omega),Option.bind_some,quoS (by omega) (by omega) (by omega),Option.bind_some,ckS (by omega) (by omega),Option.bind_some]
theorem p14_eq {n:Nat} (hn:1100 ≤ n) (x:Mpt) (f:Fd) (hl:x.1.xs.length ≤ 1000) (ha:∀ g ∈ x.1.xs,okA g) (hf:f ∈ x.1.xs):p14 n x f = some (c_2 x f.1 f.2.1):=by
  have hr:=c_a x.1.xs f.1 f.2.1
  unfold p14 c_2
  rw [p18_eq hn x f hl ha,Option.bind_some,quoS (by omega) (by omega) (by omega),Option.bind_some,c_Z hf,Bool.true_and]
  have e:(d_j x.1.xs f.1 f.2.1 + 7) / 8 * 8 / 8 = (d_j x.1.xs f.1 f.2.1 + 7) / 8:=by omega
  rw [e]
  split
  · rw [ckS (by omega) (by omega)];rfl
  · rw [Option.bind_some,Int.add_zero]
def Aall (l:List Fd):Prop:=∀ f ∈ l,okA f
instance (l:List Fd):Decidable (Aall l):=by unfold Aall;infer_instance
theorem p13_l1_eq (n:Nat) (x:Mpt) (hl:x.1.xs.length ≤ 1000):∀ (m i:Nat),x.1.xs.length - i < m → i ≤ x.1.xs.length → p13_l1 n x m i = some (if Aall (x.1.xs.drop i) then .inl () else .inr false):=by
  intro m
  induction m with
  | zero=>intro i hm;exact absurd hm (by omega)
  | succ m ih =>
    intro i hm hi
    rw [p13_l1,a_A]
    by_cases hlt:i < x.1.xs.length
    · rw [c_X (by omega),d_i hlt,Option.bind_some,a_X hlt,orO fun _=>rfl,Option.bind_some,orO fun _=>rfl,Option.bind_some,orO fun _=>rfl,Option.bind_some]
      generalize x.1.xs[i] = f
      by_cases h1:okA f
      · have hb:(((decide (f.2.2.2.2.2.2.1 < 1) || decide (f.2.2.2.2.2.2.1 > 32)) || decide (f.2.2.2.2.2.2.2.1 < 1)) || decide (f.2.2.2.2.2.2.2.1 > 256)) = false:=by
          obtain ⟨⟨a1,a2⟩,a3,a4⟩:=h1
          have a1:1 ≤ f.2.2.2.2.2.2.1:=a1
          have a2:f.2.2.2.2.2.2.1 ≤ 32:=a2
          have a3:1 ≤ f.2.2.2.2.2.2.2.1:=a3
          have a4:f.2.2.2.2.2.2.2.1 ≤ 256:=a4
          rw [decide_eq_false (by omega),decide_eq_false (by omega),decide_eq_false (by omega),decide_eq_false (by omega)];rfl
        rw [hb,if_neg (by decide),ckS (by omega) (by omega),Option.bind_some,b_l,ih (i + 1) (by omega) (by omega)]
        refine congrArg some ?_
        by_cases h2:Aall (x.1.xs.drop (i + 1))
        · rw [if_pos h2,if_pos (show Aall (f :: _) from fun g hg=>by
            rcases List.mem_cons.1 hg with rfl | hg
            · exact h1
            · exact h2 g hg)]
        · rw [if_neg h2,if_neg (fun q=>h2 fun g hg=>q g (by simp [hg]))]
      · have hb:(((decide (f.2.2.2.2.2.2.1 < 1) || decide (f.2.2.2.2.2.2.1 > 32)) || decide (f.2.2.2.2.2.2.2.1 < 1)) || decide (f.2.2.2.2.2.2.2.1 > 256)) = true:=by
          by_cases a1:f.2.2.2.2.2.2.1 < 1
          · rw [decide_eq_true a1];rfl
          · by_cases a2:f.2.2.2.2.2.2.1 > 32
            · rw [decide_eq_true a2,Bool.or_true];rfl
            · by_cases a3:f.2.2.2.2.2.2.2.1 < 1
              · rw [decide_eq_true a3,Bool.or_true];rfl
              · by_cases a4:f.2.2.2.2.2.2.2.1 > 256
                · rw [decide_eq_true a4,Bool.or_true]
                · exact absurd ⟨⟨by show 1 ≤ f.2.2.2.2.2.2.1;omega,by show f.2.2.2.2.2.2.1 ≤ 32;omega⟩,by show 1 ≤ f.2.2.2.2.2.2.2.1;omega,by show f.2.2.2.2.2.2.2.1 ≤ 256;omega⟩ h1
        rw [hb,if_pos rfl,if_neg (fun q=>h1 (q f (by simp)))]
    · rw [c_Y (by omega),List.drop_eq_nil_of_le (by omega),if_pos (show Aall [] from fun g hg=>absurd hg List.not_mem_nil)]
def Ball (x:Mpt) (l:List Fd):Prop:=∀ f ∈ l,okB x f
instance (x:Mpt) (l:List Fd):Decidable (Ball x l):=by unfold Ball;infer_instance
theorem p13_l2_eq {n:Nat} (hn:1100 ≤ n) (x:Mpt) (hl:x.1.xs.length ≤ 1000) (ha:Aall x.1.xs):∀ (m i:Nat),x.1.xs.length - i < m → i ≤ x.1.xs.length → p13_l2 n x m i = some (if Ball x (x.1.xs.drop i) then .inl () else .inr false):=by
  intro m
  induction m with
  | zero=>intro i hm;exact absurd hm (by omega)
  | succ m ih =>
    intro i hm hi
    rw [p13_l2,a_A]
    by_cases hlt:i < x.1.xs.length
    · have hg:=ha x.1.xs[i] (List.getElem_mem hlt)
      rw [c_X (by omega),d_i hlt,Option.bind_some,a_X hlt]
      generalize x.1.xs[i] = f at hg
      have hmul:=hg.mulr
      rw [orO fun _=>rfl,Option.bind_some]
      have e2:∀ q:Bool,q = (decide (f.2.2.2.2.2.2.2.2.1 < 0) || decide (f.2.2.2.2.2.2.2.2.1 > 4096)) → (if q = false then (ckI .i64 (f.2.2.2.2.2.2.1 * f.2.2.2.2.2.2.2.1)).bind fun x_84=>(ckI .i64 (f.2.2.2.2.2.2.2.2.1 + x_84)).bind fun x_85=>some (decide (x_85 > 4096)) else some true) = some (decide (¬ (0 ≤ fA f ∧ fA f + fS f * fC f ≤ 4096))):=by
        intro q hq
        have e:(fA f + fS f * fC f) = f.2.2.2.2.2.2.2.2.1 + f.2.2.2.2.2.2.1 * f.2.2.2.2.2.2.2.1:=rfl
        have e':fA f = f.2.2.2.2.2.2.2.2.1:=rfl
        by_cases c1:f.2.2.2.2.2.2.2.2.1 < 0
        · rw [hq,decide_eq_true c1,Bool.true_or,if_neg (by decide),decide_eq_true (by rw [e'];omega)]
        · by_cases c2:f.2.2.2.2.2.2.2.2.1 > 4096
          · rw [hq,decide_eq_true c2,Bool.or_true,if_neg (by decide),decide_eq_true (by rw [e,e'];omega)]
          · rw [hq,decide_eq_false c1,decide_eq_false c2,Bool.or_false,if_pos rfl,ckS (by omega) (by omega),Option.bind_some,ckS (by omega) (by omega),Option.bind_some]
            refine congrArg some (decide_eq_decide.2 ?_)
            rw [e,e'];omega
      rw [e2 _ rfl,Option.bind_some,orO fun _=>rfl,Option.bind_some,orO fun _=>rfl,Option.bind_some,orO fun _=>rfl,Option.bind_some]
      have e6:∀ q:Bool,(if q = false then (if (!f.2.2.2.2.2.2.2.2.2.1) = true then some ((a_n f.2.2.2.1) == 0) else some false).bind fun q_104=>some q_104 else some true) = some (q || (!f.2.2.2.2.2.2.2.2.2.1 && ((a_n f.2.2.2.1) == 0))):=fun q=>orO fun _=>by rw [andO fun _=>rfl];rfl
      rw [e6,Option.bind_some]
      by_cases hb:okB x f
      · obtain ⟨b1,b2,⟨b3,b4,b5⟩,b6,b7⟩:=hb
        have b1':0 ≤ f.2.2.2.2.2.2.2.2.1:=b1
        have b2':f.2.2.2.2.2.2.2.2.1 + f.2.2.2.2.2.2.1 * f.2.2.2.2.2.2.2.1 ≤ 4096:=b2
        have h1:decide (¬ (0 ≤ fA f ∧ fA f + fS f * fC f ≤ 4096)) = false:=decide_eq_false fun q=>q ⟨b1,b2⟩
        have h2:decide (f.2.2.2.2.1 > f.2.2.2.2.2.1) = false:=decide_eq_false (show ¬ fLo f > fHi f by omega)
        have h3:decide (f.2.2.2.2.1 < (-2147483648)) = false:=decide_eq_false (show ¬ fLo f < _ by omega)
        have h4:decide (f.2.2.2.2.2.1 > 4294967295) = false:=decide_eq_false (show ¬ fHi f > _ by omega)
        have h5:(!f.2.2.2.2.2.2.2.2.2.1 && ((a_n f.2.2.2.1) == 0)) = false:=by
          rcases b6 with b6 | b6
          · have b6:f.2.2.2.2.2.2.2.2.2.1 = true:=b6
            rw [b6];rfl
          · have:((a_n f.2.2.2.1) == 0) = false:=by
              rw [beq_eq_false_iff_ne,a_A]
              have b6:0 < f.2.2.2.1.xs.length:=b6
              omega
            rw [this,Bool.and_false]
        rw [h1,h2,h3,h4,h5,if_pos (show (false || false || false || false || false) = false from rfl),ckS (by omega) (by omega),Option.bind_some,ckS (by omega) (by omega),Option.bind_some,p18_eq hn x f hl ha,Option.bind_some,Option.bind_some,decide_eq_false (show ¬ (f.2.2.2.2.2.2.2.2.1 + f.2.2.2.2.2.2.1 * f.2.2.2.2.2.2.2.1) > _ from fun q=>absurd b7 (by show ¬ f.2.2.2.2.2.2.2.2.1 + f.2.2.2.2.2.2.1 * f.2.2.2.2.2.2.2.1 ≤ _;omega)),if_neg (by decide),ckS (by omega) (by omega),Option.bind_some,b_l,ih (i + 1) (by omega) (by omega)]
        refine congrArg some ?_
        by_cases h6:Ball x (x.1.xs.drop (i + 1))
        · rw [if_pos h6,if_pos (show Ball x (f :: _) from fun g hg=>by
            rcases List.mem_cons.1 hg with rfl | hg
            · exact ⟨b1,b2,⟨b3,b4,b5⟩,b6,b7⟩
            · exact h6 g hg)]
        · rw [if_neg h6,if_neg (fun q=>h6 fun g hg=>q g (by simp [hg]))]
      · have hno:¬ Ball x (f :: x.1.xs.drop (i + 1)):=fun q=>hb (q f (by simp))
        rw [if_neg hno]
        generalize hQ:((((decide (¬ (0 ≤ fA f ∧ fA f + fS f * fC f ≤ 4096)) || decide (f.2.2.2.2.1 > f.2.2.2.2.2.1)) || decide (f.2.2.2.2.1 < (-2147483648))) || decide (f.2.2.2.2.2.1 > 4294967295)) || (!f.2.2.2.2.2.2.2.2.2.1 && ((a_n f.2.2.2.1) == 0))) = Q
        cases Q with
        | true=>rfl
        | false =>
          rw [Bool.or_eq_false_iff,Bool.or_eq_false_iff,Bool.or_eq_false_iff,Bool.or_eq_false_iff] at hQ
          obtain ⟨⟨⟨⟨c1,c2⟩,c3⟩,c4⟩,c5⟩:=hQ
          have c1:=Decidable.not_not.1 (of_decide_eq_false c1)
          have c2:¬ fLo f > fHi f:=of_decide_eq_false c2
          have c3:¬ fLo f < _:=of_decide_eq_false c3
          have c4:¬ fHi f > _:=of_decide_eq_false c4
          have c1':0 ≤ f.2.2.2.2.2.2.2.2.1 ∧ f.2.2.2.2.2.2.2.2.1 + f.2.2.2.2.2.2.1 * f.2.2.2.2.2.2.2.1 ≤ 4096:=c1
          have c6:fCo f = true ∨ 0 < (fU f).xs.length:=by
            rw [Bool.and_eq_false_iff] at c5
            rcases c5 with c5 | c5
            · exact .inl (by
                have:(!fCo f) = false:=c5
                cases h:fCo f
                · rw [h] at this;cases this
                · rfl)
            · right
              rw [beq_eq_false_iff_ne,a_A] at c5
              have c5:¬ ((fU f).xs.length:Int) = 0:=c5
              omega
          rw [if_pos rfl,ckS (by omega) (by omega),Option.bind_some,ckS (by omega) (by omega),Option.bind_some,p18_eq hn x f hl ha,Option.bind_some,Option.bind_some]
          rw [decide_eq_true (show (f.2.2.2.2.2.2.2.2.1 + f.2.2.2.2.2.2.1 * f.2.2.2.2.2.2.2.1) > _ from by
            refine Int.not_le.1 fun q=>hb ⟨c1.1,c1.2,⟨by omega,by omega,by omega⟩,c6,q⟩)]
          rfl
    · rw [c_Y (by omega),List.drop_eq_nil_of_le (by omega),if_pos (show Ball x [] from fun g hg=>absurd hg List.not_mem_nil)]
theorem p13_eq {n:Nat} (hn:1100 ≤ n) (x:Mpt) (hl:x.1.xs.length ≤ 1000):p13 n x = some (decide (Ppr x)):=by
  have h:=p13_l1_eq n x hl n 0 (by omega) (by omega)
  rw [show ((0:Nat):Int) = 0 from rfl,List.drop_zero] at h
  unfold p13
  rw [h,Option.bind_some]
  by_cases ha:Aall x.1.xs
  · have h2:=p13_l2_eq hn x hl ha n 0 (by omega) (by omega)
    rw [show ((0:Nat):Int) = 0 from rfl,List.drop_zero] at h2
    rw [if_pos ha,lrKl,h2,Option.bind_some]
    by_cases hb:Ball x x.1.xs
    · rw [if_pos hb,lrKl,decide_eq_true (show Ppr x from fun f hf=>⟨ha f hf,hb f hf⟩)]
    · rw [if_neg hb,lrKr,decide_eq_false (show ¬ Ppr x from fun q=>hb fun f hf=>(q f hf).2)]
  · rw [if_neg ha,lrKr,decide_eq_false (show ¬ Ppr x from fun q=>ha fun f hf=>(q f hf).1)]
def hld (f:Fd) (j:Nat) (v:Int):Option (Int × Int) :=
  if fCo f = true ∨ v < fLo f ∨ v > fHi f then .none
  else if fAr f = true then ((fU f).xs[(v - fLo f).toNat]?).map fun u=>(u,1)
  else ((fU f).xs[min j ((fU f).xs.length - 1)]?).map fun u=>(u,v)
def hldR (o:Option (Int × Int)):Int × Int × Bool:=match o with | some (u,w)=>(u,w,true) | none=>(0,0,false)
theorem p28_eq (n:Nat) (x:Mpt) (f:Fd) (hB:okB x f) (j:Nat) (hj:j ≤ 1000) (hU:(fU f).xs.length ≤ 9223372036854775807) (v:Int):p28 n f j v = some (hldR (hld f j v)):=by
  obtain ⟨_,_,⟨b3,b4,b5⟩,b6,_⟩:=hB
  unfold p28 hld
  rw [orO fun _=>rfl,Option.bind_some,orO fun _=>rfl,Option.bind_some]
  by_cases h0:fCo f = true ∨ v < fLo f ∨ v > fHi f
  · have hq:((f.2.2.2.2.2.2.2.2.2.1 || decide (v < f.2.2.2.2.1)) || decide (v > f.2.2.2.2.2.1)) = true:=by
      rcases h0 with h | h | h
      · have h:f.2.2.2.2.2.2.2.2.2.1 = true:=h
        rw [h];rfl
      · have h:v < f.2.2.2.2.1:=h
        rw [decide_eq_true h,Bool.or_true,Bool.true_or]
      · have h:v > f.2.2.2.2.2.1:=h
        rw [decide_eq_true h,Bool.or_true]
    rw [hq,if_neg (by decide),Option.bind_some,if_pos rfl,if_pos h0]
    rfl
  · have hc:¬ fCo f = true:=fun q=>h0 (.inl q)
    have h1:¬ v < fLo f:=fun q=>h0 (.inr (.inl q))
    have h2:¬ v > fHi f:=fun q=>h0 (.inr (.inr q))
    have hlen:0 < (fU f).xs.length:=b6.resolve_left hc
    have hq:((f.2.2.2.2.2.2.2.2.2.1 || decide (v < f.2.2.2.2.1)) || decide (v > f.2.2.2.2.2.1)) = false:=by
      have hc:f.2.2.2.2.2.2.2.2.2.1 = false:=Bool.eq_false_iff.2 hc
      rw [hc,decide_eq_false h1,decide_eq_false h2];rfl
    rw [hq,if_pos rfl,if_neg h0]
    have hck:ckI .i64 (v - f.2.2.2.2.1) = some (v - fLo f):=ckS (show _ ≤ v - fLo f by omega) (show v - fLo f ≤ _ by omega)
    by_cases hA:fAr f = true
    · have hA':f.2.2.2.2.2.2.2.2.2.2.1 = true:=hA
      obtain ⟨q,hqv⟩:=Int.eq_ofNat_of_zero_le (show 0 ≤ v - fLo f by omega)
      have hqn:(v - fLo f).toNat = q:=by omega
      rw [hA',if_pos rfl,if_pos rfl,if_pos hA,hck,Option.bind_some,Option.bind_some,hqn,hqv,a_A]
      by_cases hl:q < (fU f).xs.length
      · have hl':¬ ((q:Nat):Int) ≥ (f.2.2.2.1.xs.length:Int):=by
          have:¬ ((q:Nat):Int) ≥ ((fU f).xs.length:Int):=by omega
          exact this
        rw [decide_eq_false hl',Option.bind_some,Option.bind_some,if_neg (by decide),show idx f.2.2.2.1.xs (q:Int) = some ((fU f).xs[q]) from d_i hl,Option.bind_some,List.getElem?_eq_getElem hl]
        rfl
      · have hl':((q:Nat):Int) ≥ (f.2.2.2.1.xs.length:Int):=by
          have:((q:Nat):Int) ≥ ((fU f).xs.length:Int):=by omega
          exact this
        rw [decide_eq_true hl',Option.bind_some,Option.bind_some,if_pos rfl,List.getElem?_eq_none (by omega)]
        rfl
    · have hA':f.2.2.2.2.2.2.2.2.2.2.1 = false:=Bool.eq_false_iff.2 hA
      rw [hA',if_neg (by decide),if_neg hA,Option.bind_some,Option.bind_some,if_neg (by decide),if_neg (by decide),a_A]
      have e1:((f.2.2.2.1.xs.length:Nat):Int) - 1 = (((fU f).xs.length - 1:Nat):Int):=by
        have:(((fU f).xs.length:Nat):Int) - 1 = (((fU f).xs.length - 1:Nat):Int):=by omega
        exact this
      rw [e1]
      rw [ckS (by omega) (by omega),Option.bind_some]
      have e2:(if (((fU f).xs.length - 1:Nat):Int) < (j:Int) then (((fU f).xs.length - 1:Nat):Int) else (j:Int)) = ((min j ((fU f).xs.length - 1):Nat):Int):=by
        split <;> omega
      have hm:min j ((fU f).xs.length - 1) < (fU f).xs.length:=by omega
      rw [e2,show idx f.2.2.2.1.xs ((min j ((fU f).xs.length - 1):Nat):Int) = some ((fU f).xs[min j ((fU f).xs.length - 1)]) from d_i hm,Option.bind_some,List.getElem?_eq_getElem hm]
      rfl
theorem p26_eq (n:Nat) (x:Mpt) (f:Fd) (hB:okB x f) (j:Nat) (hj:j ≤ 1000) (hU:(fU f).xs.length ≤ 9223372036854775807) (v:Int):p26 n f j v = some ((0,0,(hldR (hld f j v)).1,(hldR (hld f j v)).2.1),(hldR (hld f j v)).2.2):=by
  obtain ⟨_,_,⟨b3,b4,b5⟩,b6,_⟩:=hB
  unfold p26 hld
  rw [orO fun _=>rfl,Option.bind_some,orO fun _=>rfl,Option.bind_some]
  by_cases h0:fCo f = true ∨ v < fLo f ∨ v > fHi f
  · have hq:((f.2.2.2.2.2.2.2.2.2.1 || decide (v < f.2.2.2.2.1)) || decide (v > f.2.2.2.2.2.1)) = true:=by
      rcases h0 with h | h | h
      · have h:f.2.2.2.2.2.2.2.2.2.1 = true:=h
        rw [h];rfl
      · have h:v < f.2.2.2.2.1:=h
        rw [decide_eq_true h,Bool.or_true,Bool.true_or]
      · have h:v > f.2.2.2.2.2.1:=h
        rw [decide_eq_true h,Bool.or_true]
    rw [hq,if_pos rfl,if_pos h0]
    rfl
  · have hc:¬ fCo f = true:=fun q=>h0 (.inl q)
    have h1:¬ v < fLo f:=fun q=>h0 (.inr (.inl q))
    have h2:¬ v > fHi f:=fun q=>h0 (.inr (.inr q))
    have hlen:0 < (fU f).xs.length:=b6.resolve_left hc
    have hq:((f.2.2.2.2.2.2.2.2.2.1 || decide (v < f.2.2.2.2.1)) || decide (v > f.2.2.2.2.2.1)) = false:=by
      have hc:f.2.2.2.2.2.2.2.2.2.1 = false:=Bool.eq_false_iff.2 hc
      rw [hc,decide_eq_false h1,decide_eq_false h2];rfl
    rw [hq,if_neg (by decide),if_neg h0]
    have hck:ckI .i64 (v - f.2.2.2.2.1) = some (v - fLo f):=ckS (show _ ≤ v - fLo f by omega) (show v - fLo f ≤ _ by omega)
    by_cases hA:fAr f = true
    · have hA':f.2.2.2.2.2.2.2.2.2.2.1 = true:=hA
      obtain ⟨q,hqv⟩:=Int.eq_ofNat_of_zero_le (show 0 ≤ v - fLo f by omega)
      have hqn:(v - fLo f).toNat = q:=by omega
      rw [hA',if_neg (by decide),if_pos hA,hck,Option.bind_some,Option.bind_some,hqn,hqv,a_A]
      by_cases hl:q < (fU f).xs.length
      · have hl':¬ ((q:Nat):Int) ≥ (f.2.2.2.1.xs.length:Int):=by
          have:¬ ((q:Nat):Int) ≥ ((fU f).xs.length:Int):=by omega
          exact this
        rw [c_Y hl',show idx f.2.2.2.1.xs (q:Int) = some ((fU f).xs[q]) from d_i hl,Option.bind_some,List.getElem?_eq_getElem hl]
        rfl
      · have hl':((q:Nat):Int) ≥ (f.2.2.2.1.xs.length:Int):=by
          have:((q:Nat):Int) ≥ ((fU f).xs.length:Int):=by omega
          exact this
        rw [c_X hl',List.getElem?_eq_none (by omega)]
        rfl
    · have hA':f.2.2.2.2.2.2.2.2.2.2.1 = false:=Bool.eq_false_iff.2 hA
      rw [hA',if_pos (show (!false) = true from rfl),if_neg hA,a_A]
      have e1:((f.2.2.2.1.xs.length:Nat):Int) - 1 = (((fU f).xs.length - 1:Nat):Int):=by
        have:(((fU f).xs.length:Nat):Int) - 1 = (((fU f).xs.length - 1:Nat):Int):=by omega
        exact this
      rw [e1,ckS (by omega) (by omega),Option.bind_some]
      have e2:(if decide ((j:Int) ≥ ((f.2.2.2.1.xs.length:Nat):Int)) = true then some (((fU f).xs.length - 1:Nat):Int) else some (j:Int)) = some ((min j ((fU f).xs.length - 1):Nat):Int):=by
        have hd:decide ((j:Int) ≥ ((f.2.2.2.1.xs.length:Nat):Int)) = decide ((fU f).xs.length ≤ j):=decide_eq_decide.2 (by show (j:Int) ≥ (((fU f).xs.length:Nat):Int) ↔ _;omega)
        rw [hd]
        by_cases hh:(fU f).xs.length ≤ j
        · rw [c_X hh]
          refine congrArg some ?_
          omega
        · rw [c_Y hh]
          refine congrArg some ?_
          omega
      have hm:min j ((fU f).xs.length - 1) < (fU f).xs.length:=by omega
      rw [e2,Option.bind_some,show idx f.2.2.2.1.xs ((min j ((fU f).xs.length - 1):Nat):Int) = some ((fU f).xs[min j ((fU f).xs.length - 1)]) from d_i hm,Option.bind_some,List.getElem?_eq_getElem hm]
      rfl
theorem Elm.of {m:Mpt} {b:List Int} {f:Fd} (hp:Ppr m) (hf:f ∈ m.1.xs) (hlen:(b.length:Int) = c_2 m f.1 f.2.1) {j:Nat} (hj:(j:Int) < fC f):Elm m b f j:=by
  obtain ⟨ha,hb⟩:=hp f hf
  obtain ⟨b1,b2,_,_,b5⟩:=hb
  refine ⟨ha,b1,b2,hj,fun i hi=>?_⟩
  obtain ⟨⟨a1,a2⟩,a3,a4⟩:=ha
  obtain ⟨S,hS⟩:=Int.eq_ofNat_of_zero_le (show 0 ≤ fS f by omega)
  obtain ⟨A,hA⟩:=Int.eq_ofNat_of_zero_le b1
  obtain ⟨C,hC⟩:=Int.eq_ofNat_of_zero_le (show 0 ≤ fC f by omega)
  have eo:off f j = A + j * S:=by unfold off;rw [hS,hA];simp
  have hi:i < S:=by rw [hS] at hi;omega
  have hj2:j * S + S ≤ S * C:=by
    have:(j + 1) * S ≤ C * S:=Nat.mul_le_mul (by omega) (Nat.le_refl _)
    rw [Nat.mul_comm S C]
    rw [Nat.add_mul,Nat.one_mul] at this
    exact this
  rw [hS,hA,hC] at b5
  have e4:((S:Int) * (C:Int)) = ((S * C:Nat):Int):=by simp
  rw [e4] at b5
  unfold c_2 at hlen
  rw [c_Z hf,Bool.true_and] at hlen
  have hk:((skp m.2.2:Nat):Int) = if m.2.2 = true then 1 else 0:=by unfold skp;split <;> rfl
  rw [← hk] at hlen
  rw [eo]
  omega
def elV (m:Mpt) (b:List Int) (i:Nat) (f:Fd) (j:Nat):List (Int × Int × Int × Int) :=
  match hld f j (b_Y m b f j) with
  | some (u,w)=>[((i:Int),(j:Int),u,w)]
  | none=>[]
def fdV (m:Mpt) (b:List Int) (i:Nat) (f:Fd) (j:Nat):List (Int × Int × Int × Int):=(List.range' j ((fC f).toNat - j)).flatMap (elV m b i f)
theorem c_0 (m:Mpt) (b:List Int) (i:Nat) (f:Fd) {j:Nat} (h:j < (fC f).toNat):fdV m b i f j = elV m b i f j ++ fdV m b i f (j + 1):=by
  unfold fdV
  obtain ⟨q,hq⟩:∃ q,(fC f).toNat - j = q + 1:=⟨(fC f).toNat - j - 1,by omega⟩
  rw [hq,show (fC f).toNat - (j + 1) = q by omega,List.range'_succ,List.flatMap_cons]
theorem d_w (m:Mpt) (b:List Int) (i:Nat) (f:Fd) {j:Nat} (h:(fC f).toNat ≤ j):fdV m b i f j = []:=by
  unfold fdV
  rw [show (fC f).toNat - j = 0 by omega];rfl
theorem d_x (m:Mpt) (b:List Int) (i:Nat) (f:Fd) (j:Nat):(elV m b i f j).length ≤ 1:=by
  unfold elV;split <;> simp
theorem c_1 (m:Mpt) (b:List Int) (i:Nat) (f:Fd):∀ (q j:Nat),(fC f).toNat - j = q → (fdV m b i f j).length ≤ q
  | 0,j,h=>by rw [d_w m b i f (by omega)];simp
  | q + 1,j,h=>by
    have:=c_1 m b i f q (j + 1) (by omega)
    have:=d_x m b i f j
    rw [c_0 m b i f (by omega),List.length_append];omega
def Us (m:Mpt):Prop:=∀ f ∈ m.1.xs,(fU f).xs.length ≤ 9223372036854775807
theorem p10_l2_eq {n:Nat} (hn:1100 ≤ n) (x:Mpt) (hp:Ppr x) (hU:Us x) (b:Sl Int) (hb:Byts b.xs) (f:Fd) (hf:f ∈ x.1.xs) (hlen:(b.xs.length:Int) = c_2 x f.1 f.2.1) (i:Nat):∀ (m j:Nat) (a:List (Int × Int × Int × Int)),(fC f).toNat - j < m → j ≤ (fC f).toNat → a.length ≤ 900000 + j →
    p10_l2 n x b (i:Int) f m j a = some (a ++ fdV x b.xs i f j):=by
  have hA:=(hp f hf).1
  have hA':=hA.2
  intro m
  induction m with
  | zero=>intro j a hm;exact absurd hm (by omega)
  | succ m ih =>
    intro j a hm hj ha
    rw [p10_l2]
    by_cases hlt:j < (fC f).toNat
    · have hlt':(j:Int) < fC f:=by omega
      have hE:=Elm.of (b:=b.xs) hp hf hlen hlt'
      rw [c_X (show (j:Int) < f.2.2.2.2.2.2.2.1 from hlt'),p29_eq (by omega) x f b j hb hE,Option.bind_some,p28_eq n x f (hp f hf).2 j (by omega) (hU f hf),Option.bind_some,c_0 x b.xs i f hlt]
      have hl:=d_x x b.xs i f j
      have e:((if (hldR (hld f j (b_Y x b.xs f j))).2.2 = true then (d_X a [((i:Int),(j:Int),(hldR (hld f j (b_Y x b.xs f j))).1,(hldR (hld f j (b_Y x b.xs f j))).2.1)]).bind fun l_257=>some l_257 else some a):Option (List (Int × Int × Int × Int))) = some (a ++ elV x b.xs i f j):=by
        unfold elV
        cases hld f j (b_Y x b.xs f j) with
        | none=>show some a = some (a ++ []);rw [List.append_nil]
        | some q =>
          obtain ⟨u,w⟩:=q
          show (d_X a [((i:Int),(j:Int),u,w)]).bind (fun l_257=>some l_257) = _
          rw [d_M (by omega)];rfl
      rw [Option.bind_some]
      simp only
      rw [e,Option.bind_some,ckS (by omega) (by omega),Option.bind_some,b_l,ih (j + 1) _ (by omega) (by omega) (by rw [List.length_append];omega),List.append_assoc]
    · rw [c_Y (show ¬ (j:Int) < f.2.2.2.2.2.2.2.1 from (show ¬ (j:Int) < fC f by omega)),d_w x b.xs i f (by omega),List.append_nil]
theorem p9_l2_eq {n:Nat} (hn:1100 ≤ n) (x:Mpt) (hp:Ppr x) (hU:Us x) (b:Sl Int) (hb:Byts b.xs) (f:Fd) (hf:f ∈ x.1.xs) (hlen:(b.xs.length:Int) = c_2 x f.1 f.2.1) (i:Nat):∀ (m j:Nat) (a:List (Int × Int × Int × Int)),(fC f).toNat - j < m → j ≤ (fC f).toNat → a.length ≤ 900000 + j →
    p9_l2 n x b (i:Int) f m j a = some (a ++ fdV x b.xs i f j):=by
  have hA:=(hp f hf).1
  have hA':=hA.2
  intro m
  induction m with
  | zero=>intro j a hm;exact absurd hm (by omega)
  | succ m ih =>
    intro j a hm hj ha
    rw [p9_l2]
    by_cases hlt:j < (fC f).toNat
    · have hlt':(j:Int) < fC f:=by omega
      have hE:=Elm.of (b:=b.xs) hp hf hlen hlt'
      rw [c_X (show (j:Int) < f.2.2.2.2.2.2.2.1 from hlt'),p16_eq (by omega) x f b j hb hE,Option.bind_some,p26_eq n x f (hp f hf).2 j (by omega) (hU f hf),Option.bind_some,c_0 x b.xs i f hlt]
      have hl:=d_x x b.xs i f j
      have e:((if (hldR (hld f j (b_Y x b.xs f j))).2.2 = true then (d_X a [((i:Int),(j:Int),(hldR (hld f j (b_Y x b.xs f j))).1,(hldR (hld f j (b_Y x b.xs f j))).2.1)]).bind fun l_257=>some l_257 else some a):Option (List (Int × Int × Int × Int))) = some (a ++ elV x b.xs i f j):=by
        unfold elV
        cases hld f j (b_Y x b.xs f j) with
        | none=>show some a = some (a ++ []);rw [List.append_nil]
        | some q =>
          obtain ⟨u,w⟩:=q
          show (d_X a [((i:Int),(j:Int),u,w)]).bind (fun l_257=>some l_257) = _
          rw [d_M (by omega)];rfl
      simp only
      rw [e,Option.bind_some,ckS (by omega) (by omega),Option.bind_some,b_l,ih (j + 1) _ (by omega) (by omega) (by rw [List.length_append];omega),List.append_assoc]
    · rw [c_Y (show ¬ (j:Int) < f.2.2.2.2.2.2.2.1 from (show ¬ (j:Int) < fC f by omega)),d_w x b.xs i f (by omega),List.append_nil]
def rpV (m:Mpt) (b:List Int) (k r:Int):Nat → List Fd → List (Int × Int × Int × Int)
  | _,[]=>[]
  | i,f :: l=>(if mt k r f = true then fdV m b i f 0 else []) ++ rpV m b k r (i + 1) l
theorem nmt_eq (k r:Int) (f:Fd):(if (f.1 != k) = false then some (f.2.1 != r) else some true) = some (!mt k r f):=by
  rw [orO fun _=>rfl]
  unfold mt
  cases h1:f.1 == k <;> cases h2:f.2.1 == r <;> simp [bne,h1,h2]
theorem mt_iff {k r:Int} {f:Fd} (h:mt k r f = true):f.1 = k ∧ f.2.1 = r:=by
  unfold mt at h
  rw [Bool.and_eq_true,beq_iff_eq,beq_iff_eq] at h
  exact h
theorem p10_l1_eq {n:Nat} (hn:1100 ≤ n) (x:Mpt) (hl:x.1.xs.length ≤ 1000) (hp:Ppr x) (hU:Us x) (k r:Int) (b:Sl Int) (hb:Byts b.xs) (hlen:(b.xs.length:Int) = c_2 x k r):∀ (m i:Nat) (a:List (Int × Int × Int × Int)),x.1.xs.length - i < m → i ≤ x.1.xs.length → a.length ≤ 256 * i →
    p10_l1 n x k b r m i a = some (a ++ rpV x b.xs k r i (x.1.xs.drop i)):=by
  intro m
  induction m with
  | zero=>intro i a hm;exact absurd hm (by omega)
  | succ m ih =>
    intro i a hm hi ha
    rw [p10_l1,a_A]
    by_cases hlt:i < x.1.xs.length
    · have hf:x.1.xs[i] ∈ x.1.xs:=List.getElem_mem hlt
      rw [c_X (by omega),d_i hlt,Option.bind_some,nmt_eq,Option.bind_some,a_X hlt,rpV]
      by_cases hm':mt k r x.1.xs[i] = true
      · obtain ⟨e1,e2⟩:=mt_iff hm'
        have hC:=(hp _ hf).1.2
        have hlen':(b.xs.length:Int) = c_2 x x.1.xs[i].1 x.1.xs[i].2.1:=by rw [e1,e2];exact hlen
        have hfl:=c_1 x b.xs i x.1.xs[i] _ 0 rfl
        have h2:=p10_l2_eq hn x hp hU b hb x.1.xs[i] hf hlen' i n 0 a (by omega) (by omega) (by omega)
        rw [show ((0:Nat):Int) = 0 from rfl] at h2
        rw [hm',if_neg (by decide),if_pos rfl,h2,Option.bind_some,ckS (by omega) (by omega),Option.bind_some,b_l,ih (i + 1) _ (by omega) (by omega) (by rw [List.length_append];omega),List.append_assoc]
      · rw [Bool.eq_false_iff.2 hm',if_pos (show (!false) = true from rfl),if_neg (by decide),ckS (by omega) (by omega),Option.bind_some,b_l,ih (i + 1) _ (by omega) (by omega) (by omega),List.nil_append]
    · rw [c_Y (by omega),List.drop_eq_nil_of_le (by omega),rpV,List.append_nil]
theorem p9_l1_eq {n:Nat} (hn:1100 ≤ n) (x:Mpt) (hl:x.1.xs.length ≤ 1000) (hp:Ppr x) (hU:Us x) (k r:Int) (b:Sl Int) (hb:Byts b.xs) (hlen:(b.xs.length:Int) = c_2 x k r):∀ (m i:Nat) (c:Bool) (a:List (Int × Int × Int × Int)),x.1.xs.length - i < m → i ≤ x.1.xs.length → a.length ≤ 256 * i →
    p9_l1 n x k b r m i c a = some (.inl (a ++ rpV x b.xs k r i (x.1.xs.drop i),c && !b_3 (x.1.xs.drop i) k r)):=by
  intro m
  induction m with
  | zero=>intro i c a hm;exact absurd hm (by omega)
  | succ m ih =>
    intro i c a hm hi ha
    rw [p9_l1,a_A]
    by_cases hlt:i < x.1.xs.length
    · have hf:x.1.xs[i] ∈ x.1.xs:=List.getElem_mem hlt
      have hany:b_3 (x.1.xs[i] :: x.1.xs.drop (i + 1)) k r = (mt k r x.1.xs[i] || b_3 (x.1.xs.drop (i + 1)) k r):=rfl
      rw [c_X (by omega),d_i hlt,Option.bind_some,nmt_eq,Option.bind_some,a_X hlt,rpV,hany]
      by_cases hm':mt k r x.1.xs[i] = true
      · obtain ⟨e1,e2⟩:=mt_iff hm'
        have hC:=(hp _ hf).1.2
        have hlen':(b.xs.length:Int) = c_2 x x.1.xs[i].1 x.1.xs[i].2.1:=by rw [e1,e2];exact hlen
        have hfl:=c_1 x b.xs i x.1.xs[i] _ 0 rfl
        have h2:=p9_l2_eq hn x hp hU b hb x.1.xs[i] hf hlen' i n 0 a (by omega) (by omega) (by omega)
        have h14:=p14_eq hn x x.1.xs[i] hl (fun g hg=>(hp g hg).1) hf
        rw [show ((0:Nat):Int) = 0 from rfl] at h2
        rw [hm',if_neg (by decide),if_pos rfl,h14,Option.bind_some,a_A,← hlen',bne_self_eq_false,if_neg (by decide),h2,Option.bind_some,ckS (by omega) (by omega),Option.bind_some,b_l,ih (i + 1) _ _ (by omega) (by omega) (by rw [List.length_append];omega),List.append_assoc,Bool.true_or,Bool.false_and]
        simp
      · rw [Bool.eq_false_iff.2 hm',if_pos (show (!false) = true from rfl),if_neg (by decide),ckS (by omega) (by omega),Option.bind_some,b_l,ih (i + 1) _ _ (by omega) (by omega) (by omega),List.nil_append,Bool.false_or]
    · rw [c_Y (by omega),List.drop_eq_nil_of_le (by omega),rpV,List.append_nil]
      rw [show b_3 ([]:List Fd) k r = false from rfl,Bool.not_false,Bool.and_true]
theorem p9_l1_no {n:Nat} (hn:1100 ≤ n) (x:Mpt) (hl:x.1.xs.length ≤ 1000) (hp:Ppr x) (k r:Int) (b:Sl Int) (hlen:(b.xs.length:Int) ≠ c_2 x k r):∀ (m i:Nat) (c:Bool) (a:List (Int × Int × Int × Int)),x.1.xs.length - i < m → i ≤ x.1.xs.length →
    p9_l1 n x k b r m i c a = some (if b_3 (x.1.xs.drop i) k r = true then .inr (⟨[],some 0⟩,5) else .inl (a,c)):=by
  intro m
  induction m with
  | zero=>intro i c a hm;exact absurd hm (by omega)
  | succ m ih =>
    intro i c a hm hi
    rw [p9_l1,a_A]
    by_cases hlt:i < x.1.xs.length
    · have hf:x.1.xs[i] ∈ x.1.xs:=List.getElem_mem hlt
      have hany:b_3 (x.1.xs[i] :: x.1.xs.drop (i + 1)) k r = (mt k r x.1.xs[i] || b_3 (x.1.xs.drop (i + 1)) k r):=rfl
      rw [c_X (by omega),d_i hlt,Option.bind_some,nmt_eq,Option.bind_some,a_X hlt,hany]
      by_cases hm':mt k r x.1.xs[i] = true
      · obtain ⟨e1,e2⟩:=mt_iff hm'
        have h14:=p14_eq hn x x.1.xs[i] hl (fun g hg=>(hp g hg).1) hf
        have hne:(((b.xs.length:Nat):Int) != c_2 x x.1.xs[i].1 x.1.xs[i].2.1) = true:=by rw [e1,e2,bne_iff_ne];exact hlen
        rw [hm',if_neg (by decide),Bool.true_or,if_pos rfl,h14,Option.bind_some,a_A,hne,if_pos rfl]
      · rw [Bool.eq_false_iff.2 hm',if_pos (show (!false) = true from rfl),ckS (by omega) (by omega),Option.bind_some,b_l,ih (i + 1) _ _ (by omega) (by omega),Bool.false_or]
    · rw [c_Y (by omega),List.drop_eq_nil_of_le (by omega)]
      rfl
theorem p48_l1_eq (n:Nat) (l:Sl Fd) (k r:Int) (hl:l.xs.length ≤ 1000):∀ (m i:Nat),l.xs.length - i < m → i ≤ l.xs.length → ∃ q:Unit ⊕ Int,p48_45_l1 n l k r m i = some q ∧ ((∃ j:Nat,q = .inr (j:Int)) ∧ b_3 (l.xs.drop i) k r = true ∨ q = .inl () ∧ b_3 (l.xs.drop i) k r = false):=by
  intro m
  induction m with
  | zero=>intro i hm;exact absurd hm (by omega)
  | succ m ih =>
    intro i hm hi
    rw [p48_45_l1,a_A]
    by_cases hlt:i < l.xs.length
    · have hany:b_3 (l.xs[i] :: l.xs.drop (i + 1)) k r = (mt k r l.xs[i] || b_3 (l.xs.drop (i + 1)) k r):=rfl
      have e45:p45 n l.xs[i] k r = some (mt k r l.xs[i]):=by
        unfold p45
        rw [mt_eq];rfl
      rw [c_X (by omega),d_i hlt,Option.bind_some,e45,Option.bind_some,a_X hlt,hany]
      by_cases hm':mt k r l.xs[i] = true
      · rw [hm',if_pos rfl]
        exact ⟨_,rfl,.inl ⟨⟨i,rfl⟩,rfl⟩⟩
      · rw [Bool.eq_false_iff.2 hm',if_neg (by decide),ckS (by omega) (by omega),Option.bind_some,b_l,Bool.false_or]
        exact ih (i + 1) (by omega) (by omega)
    · rw [c_Y (by omega),List.drop_eq_nil_of_le (by omega)]
      exact ⟨_,rfl,.inr ⟨rfl,rfl⟩⟩
theorem p27_eq {n:Nat} (hn:1100 ≤ n) (x:Mpt) (k r:Int) (hl:x.1.xs.length ≤ 1000):p27 n x k r = some (b_3 x.1.xs k r):=by
  obtain ⟨q,h1,h2⟩:=p48_l1_eq n x.1 k r hl n 0 (by omega) (by omega)
  rw [show ((0:Nat):Int) = 0 from rfl] at h1
  rw [List.drop_zero] at h2
  unfold p27 p44_45 p48_45
  rw [h1,Option.bind_some]
  rcases h2 with ⟨⟨j,rfl⟩,h2⟩ | ⟨rfl,h2⟩
  · rw [lrKr,Option.bind_some,Option.bind_some,h2,decide_eq_true (by omega)]
  · rw [lrKl,Option.bind_some,Option.bind_some,h2]
    rfl
def b_p (m:Mpt) (k:Int) (b:List Int):List (Int × Int × Int × Int) × Int :=
  if ¬ Ppr m then ([],1)
  else if m.2.2 = true ∧ b = [] then ([],5)
  else if b_3 m.1.xs k (if m.2.2 = true then byt b 0 else 0) = false then ([],7)
  else if (b.length:Int) ≠ c_2 m k (if m.2.2 = true then byt b 0 else 0) then ([],5)
  else (rpV m b k (if m.2.2 = true then byt b 0 else 0) 0 m.1.xs,0)
theorem rpV_len (m:Mpt) (hp:Ppr m) (b:List Int) (k r:Int):∀ (l:List Fd) (i:Nat),(∀ f ∈ l,f ∈ m.1.xs) → (rpV m b k r i l).length ≤ 256 * l.length
  | [],i,_=>by simp [rpV]
  | f :: l,i,h=>by
    have h1:=rpV_len m hp b k r l (i + 1) fun g hg=>h g (by simp [hg])
    have h2:=c_1 m b i f _ 0 rfl
    have hC:=(hp f (h f (by simp))).1.2
    rw [rpV,List.length_append,List.length_cons]
    have:(if mt k r f = true then fdV m b i f 0 else []).length ≤ 256:=by
      split
      · omega
      · simp
    omega
theorem valR_len (m:Mpt) (k:Int) (b:List Int)  :(b_p m k b).1.length ≤ 256 * m.1.xs.length:=by
  unfold b_p
  generalize (if m.2.2 = true then byt b 0 else 0) = r
  by_cases hp:Ppr m
  · have:=rpV_len m hp b k r m.1.xs 0 fun f hf=>hf
    rw [if_neg (not_not_intro hp)]
    split
    · simp
    · split
      · simp
      · split
        · simp
        · simp only;omega
  · rw [if_pos hp];simp
theorem rep_eq (m:Mpt) (b:Sl Int) {α:Type} (e5:α) (hb:¬ (m.2.2 = true ∧ b.xs = [])):(if m.2.2 = true then (if (a_n b == 0) = true then some (.inr e5) else (idx b.xs 0).bind fun y_25=>some (.inl y_25)) else some (.inl 0)) = (some (.inl (if m.2.2 = true then byt b.xs 0 else 0)):Option (Int ⊕ α)):=by
  by_cases h:m.2.2 = true
  · have hne:b.xs ≠ []:=fun q=>hb ⟨h,q⟩
    have hlen:0 < b.xs.length:=List.length_pos_iff.2 hne
    have h0:(a_n b == 0) = false:=by rw [beq_eq_false_iff_ne,a_A];omega
    have hi:=byt_of (b:=b.xs) (i:=0) hlen
    rw [show ((0:Nat):Int) = 0 from rfl] at hi
    rw [if_pos h,h0,if_neg (by decide),hi,Option.bind_some,if_pos h]
  · rw [if_neg h,if_neg h]
theorem p10_eq {n:Nat} (hn:1100 ≤ n) (x:Mpt) (hl:x.1.xs.length ≤ 1000) (hU:Us x) (k:Int) (b:Sl Int) (hb:Byts b.xs):p10 n x k b = some (⟨(b_p x k b.xs).1,some (b_p x k b.xs).1.length⟩,(b_p x k b.xs).2):=by
  unfold p10
  rw [p15_eq hn x hl,Option.bind_some]
  by_cases hp:Ppr x
  · rw [decide_eq_true hp,if_neg (by decide)]
    by_cases h5:x.2.2 = true ∧ b.xs = []
    · have h0:(a_n b == 0) = true:=by rw [beq_iff_eq,a_A,h5.2];rfl
      have e:b_p x k b.xs = ([],5):=by unfold b_p;rw [if_neg (not_not_intro hp),if_pos h5]
      rw [if_pos h5.1,if_pos h0,Option.bind_some,lrKr,e]
      rfl
    · rw [rep_eq x b _ h5,Option.bind_some,lrKl,p27_eq hn x k _ hl,Option.bind_some]
      by_cases hany:b_3 x.1.xs k (if x.2.2 = true then byt b.xs 0 else 0) = false
      · have e:b_p x k b.xs = ([],7):=by unfold b_p;rw [if_neg (not_not_intro hp),if_neg h5,if_pos hany]
        rw [hany,if_pos (show (!false) = true from rfl),e]
        rfl
      · have hany':b_3 x.1.xs k (if x.2.2 = true then byt b.xs 0 else 0) = true:=by
          cases h:b_3 x.1.xs k (if x.2.2 = true then byt b.xs 0 else 0)
          · exact absurd h hany
          · rfl
        rw [hany',if_neg (by decide),p22_eq hn x k _ hl,Option.bind_some,a_A]
        by_cases hlen:(b.xs.length:Int) = c_2 x k (if x.2.2 = true then byt b.xs 0 else 0)
        · have e:b_p x k b.xs = (rpV x b.xs k (if x.2.2 = true then byt b.xs 0 else 0) 0 x.1.xs,0):=by unfold b_p;rw [if_neg (not_not_intro hp),if_neg h5,if_neg hany,if_neg (not_not_intro hlen)]
          have h1:=p10_l1_eq hn x hl hp hU k _ b hb hlen n 0 [] (by omega) (by omega) (by simp)
          rw [show ((0:Nat):Int) = 0 from rfl,List.drop_zero,List.nil_append] at h1
          rw [if_neg (by rw [← hlen,bne_self_eq_false];decide),h1,Option.bind_some,e]
          unfold p30
          rw [sl3I_all,Option.bind_some,Option.bind_some]
        · have e:b_p x k b.xs = ([],5):=by unfold b_p;rw [if_neg (not_not_intro hp),if_neg h5,if_neg hany,if_pos hlen]
          rw [if_pos (by rw [bne_iff_ne];exact hlen),e]
          rfl
  · have e:b_p x k b.xs = ([],1):=by unfold b_p;rw [if_pos hp]
    rw [decide_eq_false hp,if_pos (show (!false) = true from rfl),e]
    rfl
theorem p9_eq {n:Nat} (hn:1100 ≤ n) (x:Mpt) (hl:x.1.xs.length ≤ 1000) (hU:Us x) (k:Int) (b:Sl Int) (hb:Byts b.xs):∃ c,p9 n x k b = some (⟨(b_p x k b.xs).1,c⟩,(b_p x k b.xs).2):=by
  unfold p9
  rw [p13_eq hn x hl,Option.bind_some]
  by_cases hp:Ppr x
  · rw [decide_eq_true hp,if_neg (by decide)]
    by_cases h5:x.2.2 = true ∧ b.xs = []
    · have h0:(a_n b == 0) = true:=by rw [beq_iff_eq,a_A,h5.2];rfl
      have e:b_p x k b.xs = ([],5):=by unfold b_p;rw [if_neg (not_not_intro hp),if_pos h5]
      rw [if_pos h5.1,if_pos h0,Option.bind_some,lrKr,e]
      exact ⟨_,rfl⟩
    · rw [rep_eq x b _ h5,Option.bind_some,lrKl]
      by_cases hlen:(b.xs.length:Int) = c_2 x k (if x.2.2 = true then byt b.xs 0 else 0)
      · have h1:=p9_l1_eq hn x hl hp hU k _ b hb hlen n 0 true [] (by omega) (by omega) (by simp)
        rw [show ((0:Nat):Int) = 0 from rfl,List.drop_zero,List.nil_append,Bool.true_and] at h1
        rw [h1,Option.bind_some,lrKl]
        by_cases hany:b_3 x.1.xs k (if x.2.2 = true then byt b.xs 0 else 0) = false
        · have e:b_p x k b.xs = ([],7):=by unfold b_p;rw [if_neg (not_not_intro hp),if_neg h5,if_pos hany]
          simp only
          rw [hany,if_pos (show (!false) = true from rfl),e]
          exact ⟨_,rfl⟩
        · have e:b_p x k b.xs = (rpV x b.xs k (if x.2.2 = true then byt b.xs 0 else 0) 0 x.1.xs,0):=by unfold b_p;rw [if_neg (not_not_intro hp),if_neg h5,if_neg hany,if_neg (not_not_intro hlen)]
          have hany':b_3 x.1.xs k (if x.2.2 = true then byt b.xs 0 else 0) = true:=by
            cases h:b_3 x.1.xs k (if x.2.2 = true then byt b.xs 0 else 0)
            · exact absurd h hany
            · rfl
          simp only
          rw [hany',if_neg (show ¬ (!true) = true from by decide),e]
          exact ⟨_,rfl⟩
      · have h1:=p9_l1_no hn x hl hp k _ b hlen n 0 true [] (by omega) (by omega)
        rw [show ((0:Nat):Int) = 0 from rfl,List.drop_zero] at h1
        rw [h1,Option.bind_some]
        by_cases hany:b_3 x.1.xs k (if x.2.2 = true then byt b.xs 0 else 0) = true
        · have e:b_p x k b.xs = ([],5):=by unfold b_p;rw [if_neg (not_not_intro hp),if_neg h5,if_neg (by rw [hany];decide),if_pos hlen]
          rw [if_pos hany,lrKr,e]
          exact ⟨_,rfl⟩
        · have e:b_p x k b.xs = ([],7):=by unfold b_p;rw [if_neg (not_not_intro hp),if_neg h5,if_pos (Bool.eq_false_iff.2 hany)]
          rw [if_neg hany,lrKl,e]
          exact ⟨_,rfl⟩
  · have e:b_p x k b.xs = ([],1):=by unfold b_p;rw [if_pos hp]
    rw [decide_eq_false hp,if_pos (show (!false) = true from rfl),e]
    exact ⟨_,rfl⟩
theorem p7_l1_eq (n:Nat) (x:Mpt) (hl:x.1.xs.length ≤ 1000):∀ (m i:Nat),x.1.xs.length - i < m → i ≤ x.1.xs.length → ∃ q:Unit ⊕ Bool,p7_l1 n x m i = some q ∧ (q = .inl () ∨ q = .inr false):=by
  intro m
  induction m with
  | zero=>intro i hm;exact absurd hm (by omega)
  | succ m ih =>
    intro i hm hi
    rw [p7_l1,a_A]
    by_cases hlt:i < x.1.xs.length
    · rw [c_X (by omega),d_i hlt,Option.bind_some]
      split
      · exact ⟨_,rfl,.inr rfl⟩
      · rw [ckS (by omega) (by omega),Option.bind_some,b_l]
        exact ih (i + 1) (by omega) (by omega)
    · rw [c_Y (by omega)]
      exact ⟨_,rfl,.inl rfl⟩
theorem p7_eq {n:Nat} (hn:1100 ≤ n) (x:Mpt):∃ c,p7 n x = some c ∧ (c = true → x.1.xs.length ≤ 8):=by
  unfold p7
  rw [a_A]
  by_cases h8:((x.1.xs.length:Nat):Int) > 8
  · rw [c_X h8];exact ⟨_,rfl,fun h=>by cases h⟩
  · obtain ⟨q,h1,h2⟩:=p7_l1_eq n x (by omega) n 0 (by omega) (by omega)
    rw [show ((0:Nat):Int) = 0 from rfl] at h1
    rw [c_Y h8,h1,Option.bind_some]
    rcases h2 with rfl | rfl
    · exact ⟨_,rfl,fun _=>by omega⟩
    · exact ⟨_,rfl,fun h=>by cases h⟩
end Go.Proofs.Ythknbcfelkljcaa
