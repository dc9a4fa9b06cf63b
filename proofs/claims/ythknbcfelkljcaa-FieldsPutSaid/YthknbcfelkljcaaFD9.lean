/- Plain theorems for the laws: what the plain functions say. No condition. -/
import Derived.Test.YthknbcfelkljcaaLB1
import Derived.Test.YthknbcfelkljcaaP3
import Derived.Test.YthknbcfelkljcaaP4
set_option linter.unusedVariables false
set_option linter.unusedSimpArgs false
namespace Go.Proofs.Ythknbcfelkljcaa
open Go.RowKit
theorem idxE {α:Type} {xs:List α} {i:Nat} (h:i < xs.length):idx xs (i:Int) = some xs[i]:=by
  rw [idx_nat,List.getElem?_eq_getElem h]
theorem lenI_mk {α:Type} (l:List α) (c:Option Nat):a_m (⟨l,c⟩:Sl α) = (l.length:Int):=rfl
theorem a_W {α:Type} (s:Sl α):a_m s = (s.xs.length:Int):=rfl
theorem b_8 (k:Nat):((k:Int) + 1) = ((k + 1:Nat):Int):=by simp
theorem b_I {α:Type} {l:List α} {i:Nat} (h:i < l.length):l.drop i = l[i] :: l.drop (i + 1):=List.drop_eq_getElem_cons h
theorem c_8 {α:Type} {p:Prop} [Decidable p] {a b:α} (h:p):(if decide p = true then a else b) = a:=by rw [decide_eq_true h];rfl
theorem c_9 {α:Type} {p:Prop} [Decidable p] {a b:α} (h:¬ p):(if decide p = true then a else b) = b:=by rw [decide_eq_false h];rfl
theorem d_J {b:Bool} {x:Option Bool} {c:Bool} (h:b = true → x = some c):(if b = true then x else some false) = some (b && c):=by cases b <;> simp at h ⊢;exact h
theorem orO {b:Bool} {x:Option Bool} {c:Bool} (h:b = false → x = some c):(if b = false then x else some true) = some (b || c):=by cases b <;> simp at h ⊢;exact h
abbrev Fd:=Int × Int × Int × (Sl (Int)) × Int × Int × Int × Int × Int × Bool × Bool × Bool × Bool
abbrev Mpt:=(Sl Fd) × (Sl (Int × Int × Int)) × Bool
@[reducible] def fS (f:Fd):Int:=f.2.2.2.2.2.2.1
@[reducible] def fC (f:Fd):Int:=f.2.2.2.2.2.2.2.1
@[reducible] def fA (f:Fd):Int:=f.2.2.2.2.2.2.2.2.1
@[reducible] def fLo (f:Fd):Int:=f.2.2.2.2.1
@[reducible] def fHi (f:Fd):Int:=f.2.2.2.2.2.1
@[reducible] def fU (f:Fd):Sl Int:=f.2.2.2.1
@[reducible] def fCo (f:Fd):Bool:=f.2.2.2.2.2.2.2.2.2.1
@[reducible] def fSg (f:Fd):Bool:=f.2.2.2.2.2.2.2.2.2.2.2.1
def okA (f:Fd):Prop:=(1 ≤ fS f ∧ fS f ≤ 32) ∧ 1 ≤ fC f ∧ fC f ≤ 256
instance (f:Fd):Decidable (okA f):=by unfold okA;infer_instance
theorem okA.mul {f:Fd} (h:okA f):1 ≤ fS f * fC f ∧ fS f * fC f ≤ 8192:=by
  obtain ⟨⟨h1,h2⟩,h3,h4⟩:=h
  constructor
  · have:=Int.mul_le_mul h1 h3 (by omega) (by omega);simpa using this
  · have:=Int.mul_le_mul h2 h4 (by omega) (by omega);simpa using this
theorem okA.mulr {f:Fd} (h:okA f):1 ≤ f.2.2.2.2.2.2.1 * f.2.2.2.2.2.2.2.1 ∧ f.2.2.2.2.2.2.1 * f.2.2.2.2.2.2.2.1 ≤ 8192:=h.mul
def cl (a x:Int):Int:=if 0 > (if a < x then a else x) then 0 else (if a < x then a else x)
theorem cl_id {a x:Int} (h0:0 ≤ x) (h1:x ≤ a):cl a x = x:=by
  unfold cl
  rw [if_neg (show ¬ a < x by omega),if_neg (by omega)]
theorem d_2 (a x:Int) (ha:0 ≤ a):0 ≤ cl a x ∧ cl a x ≤ a:=by
  unfold cl
  split <;> split at * <;> omega
def mt (k r:Int) (f:Fd):Bool:=f.1 == k && f.2.1 == r
theorem mt_eq (k r:Int) (f:Fd):(if (f.1 == k) = true then some (f.2.1 == r) else some false) = some (mt k r f):=d_J fun _=>rfl
def c_I (fs:List Fd) (k r:Int):Int:=((fs.filter (mt k r)).map fun f=>cl 32 (fS f) * cl 256 (fC f)).sum
def sumB (fs:List Fd) (k r:Int):Int:=((fs.filter (mt k r)).map fun f=>fS f * fC f).sum
theorem c_C (f:Fd) (fs:List Fd) (k r:Int):c_I (f :: fs) k r = (if mt k r f = true then cl 32 (fS f) * cl 256 (fC f) else 0) + c_I fs k r:=by
  unfold c_I
  by_cases h:mt k r f = true
  · rw [List.filter_cons_of_pos h,if_pos h,List.map_cons,List.sum_cons]
  · rw [List.filter_cons_of_neg h,if_neg h,Int.zero_add]
theorem d_t (f:Fd) (fs:List Fd) (k r:Int):sumB (f :: fs) k r = (if mt k r f = true then fS f * fC f else 0) + sumB fs k r:=by
  unfold sumB
  by_cases h:mt k r f = true
  · rw [List.filter_cons_of_pos h,if_pos h,List.map_cons,List.sum_cons]
  · rw [List.filter_cons_of_neg h,if_neg h,Int.zero_add]
theorem b_D (fs:List Fd) (k r:Int):0 ≤ c_I fs k r ∧ c_I fs k r ≤ 8192 * (fs.length:Int):=by
  induction fs with
  | nil=>exact ⟨Int.le_refl _,Int.le_refl _⟩
  | cons f fs ih =>
    have h1:=d_2 32 (fS f) (by decide)
    have h2:=d_2 256 (fC f) (by decide)
    have h3:0 ≤ cl 32 (fS f) * cl 256 (fC f):=Int.mul_nonneg h1.1 h2.1
    have h4:cl 32 (fS f) * cl 256 (fC f) ≤ 8192:=by
      have:=Int.mul_le_mul h1.2 h2.2 h2.1 (by omega);simpa using this
    rw [c_C,List.length_cons]
    split <;> omega
theorem sumC_B {fs:List Fd} (h:∀ f ∈ fs,okA f) (k r:Int):c_I fs k r = sumB fs k r:=by
  induction fs with
  | nil=>rfl
  | cons f fs ih =>
    have ha:=h f (by simp)
    rw [c_C,d_t,ih fun g hg=>h g (by simp [hg])]
    obtain ⟨⟨a1,a2⟩,a3,a4⟩:=ha
    rw [cl_id (by omega) a2,cl_id (by omega) a4]
def anyM (fs:List Fd) (k r:Int):Bool:=fs.any (mt k r)
def c_Q (m:Mpt) (k r:Int):Int:=(c_I m.1.xs k r + 7) / 8 + (if (anyM m.1.xs k r && m.2.2) = true then 1 else 0)
theorem p22_l1_eq (n:Nat) (x:Mpt) (k r:Int) (hl:x.1.xs.length ≤ 1000):∀ (m i:Nat) (b:Bool) (s:Int),x.1.xs.length - i < m → i ≤ x.1.xs.length → 0 ≤ s → s ≤ 8192 * (i:Int) →
    p22_l1 n x k r m i b s = some (s + c_I (x.1.xs.drop i) k r,b || anyM (x.1.xs.drop i) k r):=by
  intro m
  induction m with
  | zero=>intro i b s hm;exact absurd hm (by omega)
  | succ m ih =>
    intro i b s hm hi h0 h1
    rw [p22_l1,a_W]
    by_cases hlt:i < x.1.xs.length
    · rw [c_8 (by omega),idxE hlt,Option.bind_some,mt_eq,Option.bind_some,b_I hlt,c_C]
      generalize x.1.xs[i] = f
      have h2:=d_2 32 (fS f) (by decide)
      have h3:=d_2 256 (fC f) (by decide)
      have h4:0 ≤ cl 32 (fS f) * cl 256 (fC f):=Int.mul_nonneg h2.1 h3.1
      have h5:cl 32 (fS f) * cl 256 (fC f) ≤ 8192:=by
        have:=Int.mul_le_mul h2.2 h3.2 h3.1 (by omega);simpa using this
      by_cases hm':mt k r f = true
      · have e1:(ckI .i64 ((if 0 > (if 32 < f.2.2.2.2.2.2.1 then 32 else f.2.2.2.2.2.2.1) then 0 else (if 32 < f.2.2.2.2.2.2.1 then 32 else f.2.2.2.2.2.2.1)) * (if 0 > (if 256 < f.2.2.2.2.2.2.2.1 then 256 else f.2.2.2.2.2.2.2.1) then 0 else (if 256 < f.2.2.2.2.2.2.2.1 then 256 else f.2.2.2.2.2.2.2.1)))) = some (cl 32 (fS f) * cl 256 (fC f)):=ckS (by show _ ≤ cl 32 (fS f) * cl 256 (fC f);omega) (by show cl 32 (fS f) * cl 256 (fC f) ≤ _;omega)
        rw [if_pos hm',if_pos hm',e1,Option.bind_some,ckS (by omega) (by omega),Option.bind_some,Option.bind_some,ckS (by omega) (by omega),Option.bind_some,b_8,ih (i + 1) _ _ (by omega) (by omega) (by omega) (by omega)]
        refine congrArg some (Prod.ext (by simp only;omega) ?_)
        simp [anyM,hm']
      · rw [if_neg hm',if_neg hm',Option.bind_some,ckS (by omega) (by omega),Option.bind_some,b_8,ih (i + 1) _ _ (by omega) (by omega) (by omega) (by omega)]
        refine congrArg some (Prod.ext (by simp only;omega) ?_)
        simp [anyM,hm']
    · rw [c_9 (by omega),List.drop_eq_nil_of_le (by omega)]
      refine congrArg some (Prod.ext (by simp [c_I]) (by simp [anyM]))
theorem p22_eq {n:Nat} (hn:1100 ≤ n) (x:Mpt) (k r:Int) (hl:x.1.xs.length ≤ 1000):p22 n x k r = some (c_Q x k r):=by
  have h:=p22_l1_eq n x k r hl n 0 false 0 (by omega) (by omega) (by omega) (by omega)
  have hr:=b_D x.1.xs k r
  rw [List.drop_zero,Int.zero_add,Bool.false_or] at h
  unfold p22 c_Q
  rw [show ((0:Nat):Int) = 0 from rfl] at h
  rw [h,Option.bind_some]
  simp only
  rw [ckS (by omega) (by omega),Option.bind_some,quoS (by omega) (by omega) (by omega),Option.bind_some,d_J fun _=>rfl,Option.bind_some]
  split
  · rw [ckS (by omega) (by omega)];rfl
  · rw [Option.bind_some,Int.add_zero]
def okB (m:Mpt) (f:Fd):Prop:=0 ≤ fA f ∧ fA f + fS f * fC f ≤ 4096 ∧ (fLo f ≤ fHi f ∧ -2147483648 ≤ fLo f ∧ fHi f ≤ 4294967295) ∧ (fCo f = true ∨ 0 < (fU f).xs.length) ∧ fA f + fS f * fC f ≤ (c_I m.1.xs f.1 f.2.1 + 7) / 8 * 8
instance (m:Mpt) (f:Fd):Decidable (okB m f):=by unfold okB;infer_instance
def Pall (m:Mpt) (l:List Fd):Prop:=∀ f ∈ l,okA f ∧ okB m f
instance (m:Mpt) (l:List Fd):Decidable (Pall m l):=by unfold Pall;infer_instance
def Ppr (m:Mpt):Prop:=Pall m m.1.xs
instance (m:Mpt):Decidable (Ppr m):=by unfold Ppr;infer_instance
theorem mt_self (f:Fd):mt f.1 f.2.1 f = true:=by simp [mt]
theorem b_1 {fs:List Fd} {f:Fd} (h:f ∈ fs):anyM fs f.1 f.2.1 = true:=List.any_eq_true.2 ⟨f,h,mt_self f⟩
theorem p34_eq (n:Nat) (f:Fd):p34 n f = some (decide (okA f)):=by
  unfold p34 okA
  rw [d_J fun _=>rfl,Option.bind_some,d_J fun _=>rfl,Option.bind_some,d_J fun _=>rfl,Option.bind_some]
  refine congrArg some ?_
  by_cases h1:1 ≤ fS f <;> by_cases h2:fS f ≤ 32 <;> by_cases h3:1 ≤ fC f <;> by_cases h4:fC f ≤ 256 <;> simp [h1,h2,h3,h4]
theorem p35_eq (n:Nat) (f:Fd) (h:okA f):p35 n f = some (decide (0 ≤ fA f ∧ fA f + fS f * fC f ≤ 4096)):=by
  have hm:=h.mulr
  unfold p35
  rw [ckS (by omega) (by omega),Option.bind_some,ckS (by omega) (by omega),Option.bind_some,d_J fun _=>rfl,Option.bind_some]
  refine congrArg some ?_
  rw [Bool.decide_and]
  have e:(f.2.2.2.2.2.2.2.2.1 ≤ 4096 - f.2.2.2.2.2.2.1 * f.2.2.2.2.2.2.2.1) ↔ (fA f + fS f * fC f ≤ 4096):=by
    show f.2.2.2.2.2.2.2.2.1 ≤ 4096 - f.2.2.2.2.2.2.1 * f.2.2.2.2.2.2.2.1 ↔ f.2.2.2.2.2.2.2.2.1 + f.2.2.2.2.2.2.1 * f.2.2.2.2.2.2.2.1 ≤ 4096
    omega
  rw [decide_eq_decide.2 e]
theorem p36_eq (n:Nat) (f:Fd):p36 n f = some (decide (fLo f ≤ fHi f ∧ -2147483648 ≤ fLo f ∧ fHi f ≤ 4294967295)):=by
  unfold p36
  rw [d_J fun _=>rfl,Option.bind_some,d_J fun _=>rfl,Option.bind_some]
  refine congrArg some ?_
  by_cases h1:fLo f ≤ fHi f <;> by_cases h2:-2147483648 ≤ fLo f <;> by_cases h3:fHi f ≤ 4294967295 <;> simp [h1,h2,h3]
theorem p37_eq (n:Nat) (f:Fd):p37 n f = some (decide (fCo f = true ∨ 0 < (fU f).xs.length)):=by
  unfold p37
  rw [orO fun _=>rfl,Option.bind_some,a_W]
  refine congrArg some ?_
  have e:(((fU f).xs.length:Int) > 0) ↔ 0 < (fU f).xs.length:=by omega
  by_cases h1:fCo f = true <;> by_cases h2:0 < (fU f).xs.length <;> simp [h1,h2]
theorem p38_eq {n:Nat} (hn:1100 ≤ n) (x:Mpt) (hl:x.1.xs.length ≤ 1000) (f:Fd) (hf:f ∈ x.1.xs) (h:okA f) (h2:0 ≤ fA f ∧ fA f + fS f * fC f ≤ 4096):p38 n f x = some (decide (fA f + fS f * fC f ≤ (c_I x.1.xs f.1 f.2.1 + 7) / 8 * 8)):=by
  have hm:=h.mulr
  have h2:0 ≤ f.2.2.2.2.2.2.2.2.1 ∧ f.2.2.2.2.2.2.2.2.1 + f.2.2.2.2.2.2.1 * f.2.2.2.2.2.2.2.1 ≤ 4096:=h2
  have hr:=b_D x.1.xs f.1 f.2.1
  have e39:p39 n x f = some ((c_I x.1.xs f.1 f.2.1 + 7) / 8 * 8):=by
    unfold p39
    rw [p22_eq hn x _ _ hl,Option.bind_some]
    unfold c_Q
    rw [b_1 hf,Bool.true_and]
    by_cases hb:x.2.2 = true
    · rw [if_pos hb,ckS (by omega) (by omega),Option.bind_some,if_pos hb,ckS (by omega) (by omega),Option.bind_some,Option.bind_some]
      refine congrArg some ?_
      omega
    · rw [if_neg hb,ckS (by omega) (by omega),Option.bind_some,if_neg hb,Option.bind_some]
      refine congrArg some ?_
      omega
  unfold p38
  rw [ckS (by omega) (by omega),Option.bind_some,ckS (by omega) (by omega),Option.bind_some,e39,Option.bind_some]
theorem p15_l1_eq {n:Nat} (hn:1100 ≤ n) (x:Mpt) (hl:x.1.xs.length ≤ 1000):∀ (m i:Nat),x.1.xs.length - i < m → i ≤ x.1.xs.length → p15_l1 n x m i = some (if Pall x (x.1.xs.drop i) then .inl () else .inr false):=by
  intro m
  induction m with
  | zero=>intro i hm;exact absurd hm (by omega)
  | succ m ih =>
    intro i hm hi
    rw [p15_l1,a_W]
    by_cases hlt:i < x.1.xs.length
    · have hmem:x.1.xs[i] ∈ x.1.xs:=List.getElem_mem hlt
      rw [c_8 (by omega),idxE hlt,Option.bind_some,b_I hlt]
      generalize x.1.xs[i] = f at hmem
      have no:∀ {b:Bool} {e:Option (Unit ⊕ Bool)},(b = false) → (¬ (okA f ∧ okB x f)) → (if (!b) = true then some (.inr false) else e) = some (if Pall x (f :: x.1.xs.drop (i + 1)) then .inl () else .inr false):=by
        intro b e hb hno
        rw [hb,if_pos (show (!false) = true from rfl),if_neg (fun h=>hno (h f (by simp)))]
      have yes:∀ {b:Bool} {e:Option (Unit ⊕ Bool)},b = true → (if (!b) = true then some (.inr false) else e) = e:=by
        intro b e hb
        rw [hb];rfl
      rw [p34_eq,Option.bind_some]
      by_cases h1:okA f
      · rw [yes (decide_eq_true h1),p35_eq n f h1,Option.bind_some]
        by_cases h2:0 ≤ fA f ∧ fA f + fS f * fC f ≤ 4096
        · rw [yes (decide_eq_true h2),p36_eq,Option.bind_some]
          by_cases h3:fLo f ≤ fHi f ∧ -2147483648 ≤ fLo f ∧ fHi f ≤ 4294967295
          · rw [yes (decide_eq_true h3),p37_eq,Option.bind_some]
            by_cases h4:fCo f = true ∨ 0 < (fU f).xs.length
            · rw [yes (decide_eq_true h4),p38_eq hn x hl f hmem h1 h2,Option.bind_some]
              by_cases h5:fA f + fS f * fC f ≤ (c_I x.1.xs f.1 f.2.1 + 7) / 8 * 8
              · rw [yes (decide_eq_true h5),ckS (by omega) (by omega),Option.bind_some,b_8,ih (i + 1) (by omega) (by omega)]
                refine congrArg some ?_
                by_cases h6:Pall x (x.1.xs.drop (i + 1))
                · rw [if_pos h6,if_pos]
                  intro g hg
                  rcases List.mem_cons.1 hg with rfl | hg
                  · exact ⟨h1,h2.1,h2.2,h3,h4,h5⟩
                  · exact h6 g hg
                · rw [if_neg h6,if_neg (fun q=>h6 fun g hg=>q g (by simp [hg]))]
              · exact no (decide_eq_false h5) fun q=>h5 q.2.2.2.2.2
            · exact no (decide_eq_false h4) fun q=>h4 q.2.2.2.2.1
          · exact no (decide_eq_false h3) fun q=>h3 q.2.2.2.1
        · exact no (decide_eq_false h2) fun q=>h2 ⟨q.2.1,q.2.2.1⟩
      · exact no (decide_eq_false h1) fun q=>h1 q.1
    · rw [c_9 (by omega),List.drop_eq_nil_of_le (by omega),if_pos (show Pall x [] from fun g hg=>absurd hg List.not_mem_nil)]
theorem p15_eq {n:Nat} (hn:1100 ≤ n) (x:Mpt) (hl:x.1.xs.length ≤ 1000):p15 n x = some (decide (Ppr x)):=by
  have h:=p15_l1_eq hn x hl n 0 (by omega) (by omega)
  rw [show ((0:Nat):Int) = 0 from rfl,List.drop_zero] at h
  unfold p15
  rw [h,Option.bind_some]
  by_cases hp:Ppr x
  · rw [if_pos (show Pall x x.1.xs from hp),lrKl,decide_eq_true hp]
  · rw [if_neg (show ¬ Pall x x.1.xs from hp),lrKr,decide_eq_false hp]
theorem b_2 {x:Int} (h0:-9223372036854775808 ≤ x) (h1:x ≤ 9223372036854775807):IntKind.wrap .i64 x = x:=(a_o (ckS h0 h1)).2.2
theorem and_u8_1 {y:Int} (h0:0 ≤ y) (h1:y ≤ 255):a_y .and .u8 y 1 = y % 2:=by
  obtain ⟨a,rfl⟩:=Int.eq_ofNat_of_zero_le h0
  unfold a_y
  simp only
  have e:(BitVec.ofInt 8 (a:Int) &&& BitVec.ofInt 8 1).toNat = a % 2:=by
    rw [BitVec.toNat_and]
    have e1:(BitVec.ofInt 8 (a:Int)).toNat = a:=by
      rw [BitVec.toNat_ofInt];omega
    have e2:(BitVec.ofInt 8 1).toNat = 1:=by decide
    rw [e1,e2,Nat.and_one_is_mod]
  rw [show IntKind.bits .u8 = 8 from rfl,e,d_E]
  omega
theorem or_i64 {a c:Int} {i:Nat} (hi:i ≤ 40) (h0:0 ≤ a) (h1:a < 2 ^ i) (hc0:0 ≤ c) (hc:c ≤ 1):a_y .or .i64 a (c * 2 ^ i) = a + c * 2 ^ i:=by
  obtain ⟨a,rfl⟩:=Int.eq_ofNat_of_zero_le h0
  obtain ⟨c,rfl⟩:=Int.eq_ofNat_of_zero_le hc0
  have hp:(2:Nat) ^ i ≤ 2 ^ 40:=Nat.pow_le_pow_right (by decide) hi
  have h1:a < 2 ^ i:=by
    have:((2 ^ i:Nat):Int) = (2:Int) ^ i:=by simp
    omega
  have hc:c ≤ 1:=by omega
  have hcp:c * 2 ^ i ≤ 2 ^ 40:=by
    have:=Nat.mul_le_mul_right (2 ^ i) hc
    omega
  have e0:((c:Int) * 2 ^ i) = ((c * 2 ^ i:Nat):Int):=by simp
  rw [e0]
  unfold a_y
  simp only
  rw [show IntKind.bits .i64 = 64 from rfl]
  have nat:∀ z:Nat,z ≤ 2 ^ 41 → (BitVec.ofInt 64 (z:Int)).toNat = z:=by
    intro z hz
    rw [BitVec.toNat_ofInt]
    omega
  have e:(BitVec.ofInt 64 ((a:Nat):Int) ||| BitVec.ofInt 64 ((c * 2 ^ i:Nat):Int)).toNat = a + c * 2 ^ i:=by
    rw [BitVec.toNat_or,nat a (by omega),nat (c * 2 ^ i) (by omega),Nat.or_comm,Nat.mul_comm,← Nat.two_pow_add_eq_or_of_lt h1]
    omega
  rw [e,b_2 (by omega) (by omega)]
  omega
theorem c_D {x:Int} {i:Nat} (hi:i ≤ 40) (h0:-1 ≤ x) (h1:x ≤ 1):c_6 .i64 x (i:Int) = some (x * 2 ^ i):=by
  have hp:(2:Int) ^ i ≤ 2 ^ 40:=by
    have:(2:Nat) ^ i ≤ 2 ^ 40:=Nat.pow_le_pow_right (by decide) hi
    have e:((2 ^ i:Nat):Int) = (2:Int) ^ i:=by simp
    omega
  have hp0:(0:Int) ≤ 2 ^ i:=Int.pow_nonneg (by decide)
  unfold c_6
  rw [if_pos (by omega)]
  have e:min ((i:Int)).toNat (IntKind.bits .i64) = i:=by
    rw [show IntKind.bits .i64 = 64 from rfl];omega
  rw [e]
  refine congrArg some ?_
  rcases (show x = -1 ∨ x = 0 ∨ x = 1 by omega) with rfl | rfl | rfl
  · exact b_2 (by omega) (by omega)
  · exact b_2 (by omega) (by omega)
  · exact b_2 (by omega) (by omega)
theorem shr_u8 {y:Int} {i:Nat} (hi:i ≤ 8):d_x y (i:Int) .u8 = some (y / 2 ^ i):=by
  unfold d_x
  rw [if_pos (by omega)]
  have e:min ((i:Int)).toNat (IntKind.bits .u8) = i:=by
    rw [show IntKind.bits .u8 = 8 from rfl];omega
  rw [e,Int.fdiv_eq_ediv_of_nonneg _ (Int.pow_nonneg (by decide))]
theorem shr_i64 {y:Int} {i:Nat} (hi:i ≤ 64):d_x y (i:Int) .i64 = some (y / 2 ^ i):=by
  unfold d_x
  rw [if_pos (by omega)]
  have e:min ((i:Int)).toNat (IntKind.bits .i64) = i:=by
    rw [show IntKind.bits .i64 = 64 from rfl];omega
  rw [e,Int.fdiv_eq_ediv_of_nonneg _ (Int.pow_nonneg (by decide))]
theorem a_3 (i:Nat):(0:Int) < 2 ^ i:=Int.pow_pos (by decide)
theorem b_j (i:Nat):(2:Int) ^ (i + 1) = 2 * 2 ^ i:=by rw [Int.pow_succ,Int.mul_comm]
theorem c_E {i j:Nat} (h:i ≤ j):(2:Int) ^ i ≤ 2 ^ j:=by
  have:(2:Nat) ^ i ≤ 2 ^ j:=Nat.pow_le_pow_right (by decide) h
  have e:((2 ^ i:Nat):Int) = (2:Int) ^ i:=by simp
  have e':((2 ^ j:Nat):Int) = (2:Int) ^ j:=by simp
  omega
def byt (b:List Int) (i:Nat):Int:=b.getD i 0
def skp (nb:Bool):Nat:=if nb = true then 1 else 0
def bt (nb:Bool) (b:List Int) (p:Nat):Int:=byt b (p / 8 + skp nb) / 2 ^ (p % 8) % 2
def Byts (b:List Int):Prop:=∀ y ∈ b,0 ≤ y ∧ y ≤ 255
theorem byt_of {b:List Int} {i:Nat} (h:i < b.length):idx b (i:Int) = some (byt b i):=by
  rw [idxE h]
  unfold byt
  rw [List.getD_eq_getElem?_getD,List.getElem?_eq_getElem h];rfl
theorem Byts.rng {b:List Int} (h:Byts b) (i:Nat):0 ≤ byt b i ∧ byt b i ≤ 255:=by
  unfold byt
  by_cases hi:i < b.length
  · rw [List.getD_eq_getElem?_getD,List.getElem?_eq_getElem hi];exact h _ (List.getElem_mem hi)
  · rw [List.getD_eq_getElem?_getD,List.getElem?_eq_none (by omega)];exact ⟨by decide,by decide⟩
theorem bt_rng (nb:Bool) (b:List Int) (p:Nat):0 ≤ bt nb b p ∧ bt nb b p ≤ 1:=by unfold bt;omega
theorem div_rng {y:Int} (h0:0 ≤ y) (h1:y ≤ 255) (i:Nat):0 ≤ y / 2 ^ i ∧ y / 2 ^ i ≤ 255 :=
  ⟨Int.ediv_nonneg h0 (Int.le_of_lt (a_3 i)),Int.le_trans (Int.ediv_le_self _ h0) h1⟩
theorem p19_eq (n:Nat) (x:Mpt) (b:Sl Int) (p:Nat) (hp:p ≤ 100000) (hb:Byts b.xs) (hl:p / 8 + skp x.2.2 < b.xs.length):p19 n x b (p:Int) = some (bt x.2.2 b.xs p):=by
  have key:∀ q:Nat,q / 8 = p / 8 + skp x.2.2 → q % 8 = p % 8 → q ≤ 200000 → ((some ((q:Nat):Int)).bind fun j_8=>(c_7 .i64 j_8 8).bind fun x_12=>(idx b.xs x_12).bind fun y_13=>(e_d .i64 j_8 8).bind fun x_19=>(d_x y_13 x_19 .u8).bind fun x_20=>(e_d .i64 x_20 2).bind fun x_21=>some x_21) = some (bt x.2.2 b.xs p):=by
    intro q h1 h2 hq
    have hr:=hb.rng (p / 8 + skp x.2.2)
    have hd:=div_rng hr.1 hr.2 (p % 8)
    rw [Option.bind_some,quoS (by omega) (by omega) (by omega),Option.bind_some,show ((q:Nat):Int) / 8 = ((q / 8:Nat):Int) by simp,h1,byt_of hl,Option.bind_some,remS (by omega) (by omega) (by omega),Option.bind_some,show ((q:Nat):Int) % 8 = ((q % 8:Nat):Int) by simp,h2,shr_u8 (by omega),Option.bind_some,remS hd.1 (by omega) (by omega),Option.bind_some]
    rfl
  unfold p19
  by_cases hn:x.2.2 = true
  · rw [if_pos hn,ckS (by omega) (by omega),Option.bind_some,show ((p:Nat):Int) + 8 = ((p + 8:Nat):Int) by simp]
    exact key (p + 8) (by unfold skp;rw [if_pos hn];omega) (by omega) (by omega)
  · rw [if_neg hn]
    exact key p (by unfold skp;rw [if_neg hn];omega) rfl (by omega)
def num (nb:Bool) (b:List Int) (off:Nat):Nat → Int
  | 0=>0
  | i + 1=>num nb b off i + bt nb b (off + i) * 2 ^ i
theorem c_F (nb:Bool) (b:List Int) (off:Nat):∀ i,0 ≤ num nb b off i ∧ num nb b off i < 2 ^ i
  | 0=>⟨Int.le_refl _,by show (0:Int) < 1;decide⟩
  | i + 1=>by
    have h:=c_F nb b off i
    have hb:=bt_rng nb b (off + i)
    have hp:=a_3 i
    rw [b_j]
    show 0 ≤ num nb b off i + bt nb b (off + i) * 2 ^ i ∧ num nb b off i + bt nb b (off + i) * 2 ^ i < 2 * 2 ^ i
    rcases (show bt nb b (off + i) = 0 ∨ bt nb b (off + i) = 1 by omega) with e | e
    · rw [e];omega
    · rw [e];omega
def sgn (f:Fd) (v:Int):Int:=if (fSg f && decide (2 ^ (fS f).toNat / 2 ≤ v)) = true then v - 2 ^ (fS f).toNat else v
def off (f:Fd) (j:Nat):Nat:=(fA f).toNat + j * (fS f).toNat
def d_K (m:Mpt) (b:List Int) (f:Fd) (j:Nat):Int:=sgn f (num m.2.2 b (off f j) (fS f).toNat)
structure Elm (m:Mpt) (b:List Int) (f:Fd) (j:Nat):Prop where
  ok:okA f
  at0:0 ≤ fA f
  atm:fA f + fS f * fC f ≤ 4096
  lt:(j:Int) < fC f
  len:∀ i:Nat,i < (fS f).toNat → (off f j + i) / 8 + skp m.2.2 < b.length
theorem Elm.mul {m:Mpt} {b:List Int} {f:Fd} {j:Nat} (h:Elm m b f j):(0 ≤ (j:Int) * f.2.2.2.2.2.2.1 ∧ (j:Int) * f.2.2.2.2.2.2.1 ≤ 8192) ∧ (((off f j:Nat):Int) = f.2.2.2.2.2.2.2.2.1 + (j:Int) * f.2.2.2.2.2.2.1 ∧ off f j ≤ 5000):=by
  obtain ⟨⟨⟨h1,h2⟩,h3,h4⟩,h5,h6,h7,_⟩:=h
  obtain ⟨S,hS⟩:=Int.eq_ofNat_of_zero_le (show 0 ≤ fS f by omega)
  obtain ⟨A,hA⟩:=Int.eq_ofNat_of_zero_le h5
  obtain ⟨C,hC⟩:=Int.eq_ofNat_of_zero_le (show 0 ≤ fC f by omega)
  have e1:f.2.2.2.2.2.2.1 = (S:Int):=hS
  have e2:f.2.2.2.2.2.2.2.2.1 = (A:Int):=hA
  rw [hS,hC,hA] at h6
  rw [hS] at h2
  rw [hC] at h4 h7
  have hj:j * S ≤ 256 * 32:=Nat.mul_le_mul (by omega) (by omega)
  have hj2:j * S ≤ S * C:=by rw [Nat.mul_comm S C];exact Nat.mul_le_mul (by omega) (Nat.le_refl _)
  have e3:((j:Int) * (S:Int)) = ((j * S:Nat):Int):=by simp
  have e4:((S:Int) * (C:Int)) = ((S * C:Nat):Int):=by simp
  have eo:off f j = A + j * S:=by
    unfold off
    rw [hS,hA];simp
  rw [e1,e2,e3,eo]
  rw [e4] at h6
  exact ⟨⟨by omega,by omega⟩,by simp,by omega⟩
theorem p16_l1_eq (n:Nat) (x:Mpt) (f:Fd) (b:Sl Int) (j:Nat) (hb:Byts b.xs) (h:Elm x b.xs f j):∀ (m i:Nat),(fS f).toNat - i < m → i ≤ (fS f).toNat →
    p16_l1 n x f b j m i (2 ^ i) (num x.2.2 b.xs (off f j) i) = some (num x.2.2 b.xs (off f j) (fS f).toNat,2 ^ (fS f).toNat):=by
  have hm:=h.mul
  have hs:=h.ok.1
  have hs':1 ≤ f.2.2.2.2.2.2.1 ∧ f.2.2.2.2.2.2.1 ≤ 32:=hs
  intro m
  induction m with
  | zero=>intro i hm;exact absurd hm (by omega)
  | succ m ih =>
    intro i hi1 hi2
    rw [p16_l1]
    by_cases hlt:i < (fS f).toNat
    · have hyes:(i:Int) < f.2.2.2.2.2.2.1:=by
        have h_:(i:Int) < fS f:=by omega
        exact h_
      have hl:=h.len i hlt
      have hn:=c_F x.2.2 b.xs (off f j) i
      have hbt:=bt_rng x.2.2 b.xs (off f j + i)
      have hp:=c_E (show i ≤ 40 by omega)
      have hp0:=a_3 i
      have eb:(2:Int) ^ i * bt x.2.2 b.xs (off f j + i) = bt x.2.2 b.xs (off f j + i) * 2 ^ i:=Int.mul_comm _ _
      have hb2:0 ≤ bt x.2.2 b.xs (off f j + i) * 2 ^ i ∧ bt x.2.2 b.xs (off f j + i) * 2 ^ i ≤ 2 ^ 40:=by
        rcases (show bt x.2.2 b.xs (off f j + i) = 0 ∨ bt x.2.2 b.xs (off f j + i) = 1 by omega) with e | e
        · rw [e];omega
        · rw [e];omega
      rw [c_8 hyes,ckS (by omega) (by omega),Option.bind_some,ckS (by omega) (by omega),Option.bind_some,← hm.2.1,ckS (by omega) (by omega),Option.bind_some,show ((off f j:Nat):Int) + (i:Int) = ((off f j + i:Nat):Int) by simp,p19_eq n x b (off f j + i) (by omega) hb hl,Option.bind_some,eb,ckS (by omega) (by omega),Option.bind_some,ckS (by omega) (by omega),Option.bind_some,ckS (by omega) (by omega),Option.bind_some,ckS (by omega) (by omega),Option.bind_some,b_8,show (2:Int) ^ i * 2 = 2 ^ (i + 1) by rw [b_j];omega]
      exact ih (i + 1) (by omega) (by omega)
    · have:i = (fS f).toNat:=by omega
      subst this
      have hno:¬ (((fS f).toNat:Nat):Int) < f.2.2.2.2.2.2.1:=by
        have h_:¬ (((fS f).toNat:Nat):Int) < fS f:=by omega
        exact h_
      rw [c_9 hno]
theorem p16_eq {n:Nat} (hn:100 ≤ n) (x:Mpt) (f:Fd) (b:Sl Int) (j:Nat) (hb:Byts b.xs) (h:Elm x b.xs f j):p16 n x f b j = some (d_K x b.xs f j):=by
  have hs:=h.ok.1
  have h1:=p16_l1_eq n x f b j hb h n 0 (by omega) (by omega)
  have hr:=c_F x.2.2 b.xs (off f j) (fS f).toNat
  have hp:=c_E (show (fS f).toNat ≤ 40 by omega)
  have hp0:=a_3 (fS f).toNat
  unfold p16
  rw [show ((0:Nat):Int) = 0 from rfl,show (2:Int) ^ 0 = 1 from rfl,show num x.2.2 b.xs (off f j) 0 = 0 from rfl] at h1
  rw [h1,Option.bind_some]
  simp only
  rw [quoS (by omega) (by omega) (by omega),Option.bind_some,d_J fun _=>rfl,Option.bind_some]
  unfold d_K sgn
  split
  · rw [ckS (by omega) (by omega)];rfl
  · rfl
theorem p49_l1_eq (n:Nat) (f:Fd) (x:Mpt) (b:Sl Int) (j:Nat) (hb:Byts b.xs) (h:Elm x b.xs f j):∀ (m i:Nat),(fS f).toNat - i < m → i ≤ (fS f).toNat →
    p49_l1 n (Nat × (Int × Int)) f j (rnd (p29_r1 n b)) (skp x.2.2:Nat) m i (0,(num x.2.2 b.xs (off f j) i,(i:Int))) = some (.inl (0,(num x.2.2 b.xs (off f j) (fS f).toNat,(((fS f).toNat:Nat):Int)))):=by
  have hm:=h.mul
  have hs:=h.ok.1
  have hs':1 ≤ f.2.2.2.2.2.2.1 ∧ f.2.2.2.2.2.2.1 ≤ 32:=hs
  have hk:skp x.2.2 ≤ 1:=by unfold skp;split <;> omega
  intro m
  induction m with
  | zero=>intro i hm;exact absurd hm (by omega)
  | succ m ih =>
    intro i hi1 hi2
    rw [p49_l1]
    by_cases hlt:i < (fS f).toNat
    · have hyes:(i:Int) < f.2.2.2.2.2.2.1:=by
        have h_:(i:Int) < fS f:=by omega
        exact h_
      have hl:=h.len i hlt
      have hn:=c_F x.2.2 b.xs (off f j) i
      have hbt:=bt_rng x.2.2 b.xs (off f j + i)
      have hr:=hb.rng ((off f j + i) / 8 + skp x.2.2)
      have hd:=div_rng hr.1 hr.2 ((off f j + i) % 8)
      have e1:p29_r1 n b (num x.2.2 b.xs (off f j) i,(i:Int)) ((((off f j + i) / 8 + skp x.2.2:Nat):Int),(((off f j + i) % 8:Nat):Int)) = some (0,(num x.2.2 b.xs (off f j) (i + 1),((i + 1:Nat):Int))):=by
        unfold p29_r1
        simp only
        rw [byt_of hl,Option.bind_some,shr_u8 (by omega),Option.bind_some,and_u8_1 hd.1 hd.2]
        have e2:byt b.xs ((off f j + i) / 8 + skp x.2.2) / 2 ^ ((off f j + i) % 8) % 2 = bt x.2.2 b.xs (off f j + i):=rfl
        rw [e2,c_D (by omega) (by omega) (by omega),Option.bind_some,ckS (by omega) (by omega),Option.bind_some,or_i64 (by omega) hn.1 hn.2 hbt.1 hbt.2,b_8]
        rfl
      have e3:rnd (p29_r1 n b) (0,(num x.2.2 b.xs (off f j) i,(i:Int))) ((((off f j + i) / 8 + skp x.2.2:Nat):Int),(((off f j + i) % 8:Nat):Int)) = some (true,(0,(num x.2.2 b.xs (off f j) (i + 1),((i + 1:Nat):Int)))):=by
        show (p29_r1 n b (num x.2.2 b.xs (off f j) i,(i:Int)) ((((off f j + i) / 8 + skp x.2.2:Nat):Int),(((off f j + i) % 8:Nat):Int))).map (fun r=>(Nat.beq r.1 0,r)) = _
        rw [e1];rfl
      rw [c_8 hyes,ckS (by omega) (by omega),Option.bind_some,ckS (by omega) (by omega),Option.bind_some,← hm.2.1,ckS (by omega) (by omega),Option.bind_some,show ((off f j:Nat):Int) + (i:Int) = ((off f j + i:Nat):Int) by simp,quoS (by omega) (by omega) (by omega),Option.bind_some,ckS (by omega) (by omega),Option.bind_some,remS (by omega) (by omega) (by omega),Option.bind_some,show ((skp x.2.2:Nat):Int) + ((off f j + i:Nat):Int) / 8 = (((off f j + i) / 8 + skp x.2.2:Nat):Int) by omega,show ((off f j + i:Nat):Int) % 8 = (((off f j + i) % 8:Nat):Int) by simp,e3,Option.bind_some]
      rw [if_neg (show ¬ ((!true) = true) from by decide),ckS (by omega) (by omega),Option.bind_some,b_8]
      exact ih (i + 1) (by omega) (by omega)
    · have:i = (fS f).toNat:=by omega
      subst this
      have hno:¬ (((fS f).toNat:Nat):Int) < f.2.2.2.2.2.2.1:=by
        have h_:¬ (((fS f).toNat:Nat):Int) < fS f:=by omega
        exact h_
      rw [c_9 hno]
theorem p29_eq {n:Nat} (hn:100 ≤ n) (x:Mpt) (f:Fd) (b:Sl Int) (j:Nat) (hb:Byts b.xs) (h:Elm x b.xs f j):p29 n x f b j = some (d_K x b.xs f j):=by
  have hs:=h.ok.1
  have hs':1 ≤ f.2.2.2.2.2.2.1 ∧ f.2.2.2.2.2.2.1 ≤ 32:=hs
  have h1:=p49_l1_eq n f x b j hb h n 0 (by omega) (by omega)
  have hr:=c_F x.2.2 b.xs (off f j) (fS f).toNat
  have hp:=c_E (show (fS f).toNat ≤ 40 by omega)
  have hp0:=a_3 (fS f).toNat
  obtain ⟨q,hq⟩:∃ q,(fS f).toNat = q + 1:=⟨(fS f).toNat - 1,by omega⟩
  have hS:f.2.2.2.2.2.2.1 = ((q + 1:Nat):Int):=by
    have:fS f = ((q + 1:Nat):Int):=by omega
    exact this
  rw [show ((0:Nat):Int) = 0 from rfl,show num x.2.2 b.xs (off f j) 0 = 0 from rfl] at h1
  have e46:p46 n x f (j:Int) = some (x,f,(j:Int)):=rfl
  have e49:p49 n x f (j:Int) (Nat × (Int × Int)) (rnd (p29_r1 n b)) (0,(0,0)) = some (0,(num x.2.2 b.xs (off f j) (fS f).toNat,(((fS f).toNat:Nat):Int))):=by
    unfold p49
    have ek:(if x.2.2 = true then some (1:Int) else some 0) = some ((skp x.2.2:Nat):Int):=by
      unfold skp;split <;> rfl
    rw [ek,Option.bind_some,h1,Option.bind_some,lrKl]
  unfold p29
  rw [e46,Option.bind_some]
  simp only
  rw [e49,Option.bind_some]
  simp only
  have e1:(ckI .i64 (f.2.2.2.2.2.2.1 - 1)).bind (fun x_144=>(d_x (num x.2.2 b.xs (off f j) (fS f).toNat) x_144 .i64).bind fun x_145=>some (x_145 == 1)) = some (decide (2 ^ (fS f).toNat / 2 ≤ num x.2.2 b.xs (off f j) (fS f).toNat)):=by
    rw [hS,ckS (by omega) (by omega),Option.bind_some,show (((q + 1:Nat):Int) - 1) = (q:Int) by omega,shr_i64 (by omega),Option.bind_some]
    refine congrArg some ?_
    have hpq:=a_3 q
    have hq2:(2:Int) ^ (fS f).toNat = 2 * 2 ^ q:=by rw [hq,b_j]
    have ed:(2:Int) ^ (fS f).toNat / 2 = 2 ^ q:=by rw [hq2];omega
    rw [ed]
    rw [hq2] at hr
    generalize num x.2.2 b.xs (off f j) (fS f).toNat = v at hr
    by_cases hv:(2:Int) ^ q ≤ v
    · rw [decide_eq_true hv,beq_iff_eq]
      have h2:v / 2 ^ q = (v - 2 ^ q) / 2 ^ q + 1:=by
        have:=Int.add_ediv_of_dvd_right (a:=v - 2 ^ q) (Int.dvd_refl (2 ^ q))
        rw [Int.ediv_self (by omega)] at this
        rw [← this]
        congr 1
        omega
      rw [h2,Int.ediv_eq_zero_of_lt (by omega) (by omega)]
      rfl
    · rw [decide_eq_false hv,Int.ediv_eq_zero_of_lt (by omega) (by omega)]
      rfl
  rw [d_J fun _=>e1,Option.bind_some]
  unfold d_K sgn
  split
  · rw [hS,c_D (by omega) (by omega) (by omega),Option.bind_some,Int.one_mul]
    rw [hq] at hr hp ⊢
    rw [ckS (by omega) (by omega)];rfl
  · rfl
section
set_option maxRecDepth 100000
theorem p8_ok:p8 6000 = some true:=by kernel_rfl
end
theorem p18_l1_eq (n:Nat) (x:Mpt) (f:Fd) (hl:x.1.xs.length ≤ 1000) (ha:∀ g ∈ x.1.xs,okA g):∀ (m i:Nat) (s:Int),x.1.xs.length - i < m → i ≤ x.1.xs.length → 0 ≤ s → s ≤ 8192 * (i:Int) →
    p18_l1 n x f m i s = some (s + sumB (x.1.xs.drop i) f.1 f.2.1):=by
  intro m
  induction m with
  | zero=>intro i s hm;exact absurd hm (by omega)
  | succ m ih =>
    intro i s hm hi h0 h1
    rw [p18_l1,a_W]
    by_cases hlt:i < x.1.xs.length
    · have hg:=(ha x.1.xs[i] (List.getElem_mem hlt)).mulr
      have hg':=(ha x.1.xs[i] (List.getElem_mem hlt)).mul
      rw [c_8 (by omega),idxE hlt,Option.bind_some,Option.bind_some,mt_eq,Option.bind_some,b_I hlt,d_t]
      by_cases hm':mt f.1 f.2.1 x.1.xs[i] = true
      · rw [if_pos hm',if_pos hm',Option.bind_some,Option.bind_some,ckS (by omega) (by omega),Option.bind_some,ckS (by omega) (by omega),Option.bind_some,Option.bind_some,ckS (by omega) (by omega),Option.bind_some,b_8,ih (i + 1) _ (by omega) (by omega) (by omega) (by omega)]
        refine congrArg some ?_
        show s + fS x.1.xs[i] * fC x.1.xs[i] + _ = _
        omega
      · rw [if_neg hm',if_neg hm',Option.bind_some,ckS (by omega) (by omega),Option.bind_some,b_8,ih (i + 1) _ (by omega) (by omega) (by omega) (by omega)]
        refine congrArg some ?_
        omega
    · rw [c_9 (by omega),List.drop_eq_nil_of_le (by omega)]
      refine congrArg some ?_
      simp [sumB]
theorem p18_eq {n:Nat} (hn:1100 ≤ n) (x:Mpt) (f:Fd) (hl:x.1.xs.length ≤ 1000) (ha:∀ g ∈ x.1.xs,okA g):p18 n x f = some ((c_I x.1.xs f.1 f.2.1 + 7) / 8 * 8):=by
  have h:=p18_l1_eq n x f hl ha n 0 0 (by omega) (by omega) (by omega) (by omega)
  have hr:=b_D x.1.xs f.1 f.2.1
  rw [show ((0:Nat):Int) = 0 from rfl,List.drop_zero,Int.zero_add,← sumC_B ha] at h
  unfold p18
  rw [h,Option.bind_some,ckS (by omega) (by omega),Option.bind_some,quoS (by omega) (by omega) (by omega),Option.bind_some,ckS (by omega) (by omega),Option.bind_some]
theorem p14_eq {n:Nat} (hn:1100 ≤ n) (x:Mpt) (f:Fd) (hl:x.1.xs.length ≤ 1000) (ha:∀ g ∈ x.1.xs,okA g) (hf:f ∈ x.1.xs):p14 n x f = some (c_Q x f.1 f.2.1):=by
  have hr:=b_D x.1.xs f.1 f.2.1
  unfold p14 c_Q
  rw [p18_eq hn x f hl ha,Option.bind_some,quoS (by omega) (by omega) (by omega),Option.bind_some,b_1 hf,Bool.true_and]
  have e:(c_I x.1.xs f.1 f.2.1 + 7) / 8 * 8 / 8 = (c_I x.1.xs f.1 f.2.1 + 7) / 8:=by omega
  rw [e]
  split
  · rw [ckS (by omega) (by omega)];rfl
  · rw [Option.bind_some,Int.add_zero]
def Aall (l:List Fd):Prop:=∀ f ∈ l,okA f
instance (l:List Fd):Decidable (Aall l):=by unfold Aall;infer_instance
theorem p13_l1_eq (n:Nat) (x:Mpt) (hl:x.1.xs.length ≤ 1000):∀ (m i:Nat),x.1.xs.length - i < m → i ≤ x.1.xs.length → p13_l1 n x m i = some (if Aall (x.1.xs.drop i) then .inl () else .inr false):=by
  intro m
  induction m with
  | zero=>intro i hm;exact absurd hm (by omega)
  | succ m ih =>
    intro i hm hi
    rw [p13_l1,a_W]
    by_cases hlt:i < x.1.xs.length
    · rw [c_8 (by omega),idxE hlt,Option.bind_some,b_I hlt,orO fun _=>rfl,Option.bind_some,orO fun _=>rfl,Option.bind_some,orO fun _=>rfl,Option.bind_some]
      generalize x.1.xs[i] = f
      by_cases h1:okA f
      · have hb:(((decide (f.2.2.2.2.2.2.1 < 1) || decide (f.2.2.2.2.2.2.1 > 32)) || decide (f.2.2.2.2.2.2.2.1 < 1)) || decide (f.2.2.2.2.2.2.2.1 > 256)) = false:=by
          obtain ⟨⟨a1,a2⟩,a3,a4⟩:=h1
          have a1:1 ≤ f.2.2.2.2.2.2.1:=a1
          have a2:f.2.2.2.2.2.2.1 ≤ 32:=a2
          have a3:1 ≤ f.2.2.2.2.2.2.2.1:=a3
          have a4:f.2.2.2.2.2.2.2.1 ≤ 256:=a4
          rw [decide_eq_false (by omega),decide_eq_false (by omega),decide_eq_false (by omega),decide_eq_false (by omega)];rfl
        rw [hb,if_neg (by decide),ckS (by omega) (by omega),Option.bind_some,b_8,ih (i + 1) (by omega) (by omega)]
        refine congrArg some ?_
        by_cases h2:Aall (x.1.xs.drop (i + 1))
        · rw [if_pos h2,if_pos (show Aall (f :: _) from fun g hg=>by
            rcases List.mem_cons.1 hg with rfl | hg
            · exact h1
            · exact h2 g hg)]
        · rw [if_neg h2,if_neg (fun q=>h2 fun g hg=>q g (by simp [hg]))]
      · have hb:(((decide (f.2.2.2.2.2.2.1 < 1) || decide (f.2.2.2.2.2.2.1 > 32)) || decide (f.2.2.2.2.2.2.2.1 < 1)) || decide (f.2.2.2.2.2.2.2.1 > 256)) = true:=by
          by_cases a1:f.2.2.2.2.2.2.1 < 1
          · rw [decide_eq_true a1];rfl
          · by_cases a2:f.2.2.2.2.2.2.1 > 32
            · rw [decide_eq_true a2,Bool.or_true];rfl
            · by_cases a3:f.2.2.2.2.2.2.2.1 < 1
              · rw [decide_eq_true a3,Bool.or_true];rfl
              · by_cases a4:f.2.2.2.2.2.2.2.1 > 256
                · rw [decide_eq_true a4,Bool.or_true]
                · exact absurd ⟨⟨by show 1 ≤ f.2.2.2.2.2.2.1;omega,by show f.2.2.2.2.2.2.1 ≤ 32;omega⟩,by show 1 ≤ f.2.2.2.2.2.2.2.1;omega,by show f.2.2.2.2.2.2.2.1 ≤ 256;omega⟩ h1
        rw [hb,if_pos rfl,if_neg (fun q=>h1 (q f (by simp)))]
    · rw [c_9 (by omega),List.drop_eq_nil_of_le (by omega),if_pos (show Aall [] from fun g hg=>absurd hg List.not_mem_nil)]
def Ball (x:Mpt) (l:List Fd):Prop:=∀ f ∈ l,okB x f
instance (x:Mpt) (l:List Fd):Decidable (Ball x l):=by unfold Ball;infer_instance
theorem p13_l2_eq {n:Nat} (hn:1100 ≤ n) (x:Mpt) (hl:x.1.xs.length ≤ 1000) (ha:Aall x.1.xs):∀ (m i:Nat),x.1.xs.length - i < m → i ≤ x.1.xs.length → p13_l2 n x m i = some (if Ball x (x.1.xs.drop i) then .inl () else .inr false):=by
  intro m
  induction m with
  | zero=>intro i hm;exact absurd hm (by omega)
  | succ m ih =>
    intro i hm hi
    rw [p13_l2,a_W]
    by_cases hlt:i < x.1.xs.length
    · have hg:=ha x.1.xs[i] (List.getElem_mem hlt)
      rw [c_8 (by omega),idxE hlt,Option.bind_some,b_I hlt]
      generalize x.1.xs[i] = f at hg
      have hmul:=hg.mulr
      rw [orO fun _=>rfl,Option.bind_some]
      have e2:∀ q:Bool,q = (decide (f.2.2.2.2.2.2.2.2.1 < 0) || decide (f.2.2.2.2.2.2.2.2.1 > 4096)) → (if q = false then (ckI .i64 (f.2.2.2.2.2.2.1 * f.2.2.2.2.2.2.2.1)).bind fun x_84=>(ckI .i64 (f.2.2.2.2.2.2.2.2.1 + x_84)).bind fun x_85=>some (decide (x_85 > 4096)) else some true) = some (decide (¬ (0 ≤ fA f ∧ fA f + fS f * fC f ≤ 4096))):=by
        intro q hq
        have e:(fA f + fS f * fC f) = f.2.2.2.2.2.2.2.2.1 + f.2.2.2.2.2.2.1 * f.2.2.2.2.2.2.2.1:=rfl
        have e':fA f = f.2.2.2.2.2.2.2.2.1:=rfl
        by_cases c1:f.2.2.2.2.2.2.2.2.1 < 0
        · rw [hq,decide_eq_true c1,Bool.true_or,if_neg (by decide),decide_eq_true (by rw [e'];omega)]
        · by_cases c2:f.2.2.2.2.2.2.2.2.1 > 4096
          · rw [hq,decide_eq_true c2,Bool.or_true,if_neg (by decide),decide_eq_true (by rw [e,e'];omega)]
          · rw [hq,decide_eq_false c1,decide_eq_false c2,Bool.or_false,if_pos rfl,ckS (by omega) (by omega),Option.bind_some,ckS (by omega) (by omega),Option.bind_some]
            refine congrArg some (decide_eq_decide.2 ?_)
            rw [e,e'];omega
      rw [e2 _ rfl,Option.bind_some,orO fun _=>rfl,Option.bind_some,orO fun _=>rfl,Option.bind_some,orO fun _=>rfl,Option.bind_some]
      have e6:∀ q:Bool,(if q = false then (if (!f.2.2.2.2.2.2.2.2.2.1) = true then some ((a_m f.2.2.2.1) == 0) else some false).bind fun q_104=>some q_104 else some true) = some (q || (!f.2.2.2.2.2.2.2.2.2.1 && ((a_m f.2.2.2.1) == 0))):=fun q=>orO fun _=>by rw [d_J fun _=>rfl];rfl
      rw [e6,Option.bind_some]
      by_cases hb:okB x f
      · obtain ⟨b1,b2,⟨b3,b4,b5⟩,b6,b7⟩:=hb
        have b1':0 ≤ f.2.2.2.2.2.2.2.2.1:=b1
        have b2':f.2.2.2.2.2.2.2.2.1 + f.2.2.2.2.2.2.1 * f.2.2.2.2.2.2.2.1 ≤ 4096:=b2
        have h1:decide (¬ (0 ≤ fA f ∧ fA f + fS f * fC f ≤ 4096)) = false:=decide_eq_false fun q=>q ⟨b1,b2⟩
        have h2:decide (f.2.2.2.2.1 > f.2.2.2.2.2.1) = false:=decide_eq_false (show ¬ fLo f > fHi f by omega)
        have h3:decide (f.2.2.2.2.1 < (-2147483648)) = false:=decide_eq_false (show ¬ fLo f < _ by omega)
        have h4:decide (f.2.2.2.2.2.1 > 4294967295) = false:=decide_eq_false (show ¬ fHi f > _ by omega)
        have h5:(!f.2.2.2.2.2.2.2.2.2.1 && ((a_m f.2.2.2.1) == 0)) = false:=by
          rcases b6 with b6 | b6
          · have b6:f.2.2.2.2.2.2.2.2.2.1 = true:=b6
            rw [b6];rfl
          · have:((a_m f.2.2.2.1) == 0) = false:=by
              rw [beq_eq_false_iff_ne,a_W]
              have b6:0 < f.2.2.2.1.xs.length:=b6
              omega
            rw [this,Bool.and_false]
        rw [h1,h2,h3,h4,h5,if_pos (show (false || false || false || false || false) = false from rfl),ckS (by omega) (by omega),Option.bind_some,ckS (by omega) (by omega),Option.bind_some,p18_eq hn x f hl ha,Option.bind_some,Option.bind_some,decide_eq_false (show ¬ (f.2.2.2.2.2.2.2.2.1 + f.2.2.2.2.2.2.1 * f.2.2.2.2.2.2.2.1) > _ from fun q=>absurd b7 (by show ¬ f.2.2.2.2.2.2.2.2.1 + f.2.2.2.2.2.2.1 * f.2.2.2.2.2.2.2.1 ≤ _;omega)),if_neg (by decide),ckS (by omega) (by omega),Option.bind_some,b_8,ih (i + 1) (by omega) (by omega)]
        refine congrArg some ?_
        by_cases h6:Ball x (x.1.xs.drop (i + 1))
        · rw [if_pos h6,if_pos (show Ball x (f :: _) from fun g hg=>by
            rcases List.mem_cons.1 hg with rfl | hg
            · exact ⟨b1,b2,⟨b3,b4,b5⟩,b6,b7⟩
            · exact h6 g hg)]
        · rw [if_neg h6,if_neg (fun q=>h6 fun g hg=>q g (by simp [hg]))]
      · have hno:¬ Ball x (f :: x.1.xs.drop (i + 1)):=fun q=>hb (q f (by simp))
        rw [if_neg hno]
        generalize hQ:((((decide (¬ (0 ≤ fA f ∧ fA f + fS f * fC f ≤ 4096)) || decide (f.2.2.2.2.1 > f.2.2.2.2.2.1)) || decide (f.2.2.2.2.1 < (-2147483648))) || decide (f.2.2.2.2.2.1 > 4294967295)) || (!f.2.2.2.2.2.2.2.2.2.1 && ((a_m f.2.2.2.1) == 0))) = Q
        cases Q with
        | true=>rfl
        | false =>
          rw [Bool.or_eq_false_iff,Bool.or_eq_false_iff,Bool.or_eq_false_iff,Bool.or_eq_false_iff] at hQ
          obtain ⟨⟨⟨⟨c1,c2⟩,c3⟩,c4⟩,c5⟩:=hQ
          have c1:=Decidable.not_not.1 (of_decide_eq_false c1)
          have c2:¬ fLo f > fHi f:=of_decide_eq_false c2
          have c3:¬ fLo f < _:=of_decide_eq_false c3
          have c4:¬ fHi f > _:=of_decide_eq_false c4
          have c1':0 ≤ f.2.2.2.2.2.2.2.2.1 ∧ f.2.2.2.2.2.2.2.2.1 + f.2.2.2.2.2.2.1 * f.2.2.2.2.2.2.2.1 ≤ 4096:=c1
          have c6:fCo f = true ∨ 0 < (fU f).xs.length:=by
            rw [Bool.and_eq_false_iff] at c5
            rcases c5 with c5 | c5
            · exact .inl (by
                have:(!fCo f) = false:=c5
                cases h:fCo f
                · rw [h] at this;cases this
                · rfl)
            · right
              rw [beq_eq_false_iff_ne,a_W] at c5
              have c5:¬ ((fU f).xs.length:Int) = 0:=c5
              omega
          rw [if_pos rfl,ckS (by omega) (by omega),Option.bind_some,ckS (by omega) (by omega),Option.bind_some,p18_eq hn x f hl ha,Option.bind_some,Option.bind_some]
          rw [decide_eq_true (show (f.2.2.2.2.2.2.2.2.1 + f.2.2.2.2.2.2.1 * f.2.2.2.2.2.2.2.1) > _ from by
            refine Int.not_le.1 fun q=>hb ⟨c1.1,c1.2,⟨by omega,by omega,by omega⟩,c6,q⟩)]
          rfl
    · rw [c_9 (by omega),List.drop_eq_nil_of_le (by omega),if_pos (show Ball x [] from fun g hg=>absurd hg List.not_mem_nil)]
theorem p13_eq {n:Nat} (hn:1100 ≤ n) (x:Mpt) (hl:x.1.xs.length ≤ 1000):p13 n x = some (decide (Ppr x)):=by
  have h:=p13_l1_eq n x hl n 0 (by omega) (by omega)
  rw [show ((0:Nat):Int) = 0 from rfl,List.drop_zero] at h
  unfold p13
  rw [h,Option.bind_some]
  by_cases ha:Aall x.1.xs
  · have h2:=p13_l2_eq hn x hl ha n 0 (by omega) (by omega)
    rw [show ((0:Nat):Int) = 0 from rfl,List.drop_zero] at h2
    rw [if_pos ha,lrKl,h2,Option.bind_some]
    by_cases hb:Ball x x.1.xs
    · rw [if_pos hb,lrKl,decide_eq_true (show Ppr x from fun f hf=>⟨ha f hf,hb f hf⟩)]
    · rw [if_neg hb,lrKr,decide_eq_false (show ¬ Ppr x from fun q=>hb fun f hf=>(q f hf).2)]
  · rw [if_neg ha,lrKr,decide_eq_false (show ¬ Ppr x from fun q=>ha fun f hf=>(q f hf).1)]
theorem Elm.of {m:Mpt} {b:List Int} {f:Fd} (hp:Ppr m) (hf:f ∈ m.1.xs) (hlen:(b.length:Int) = c_Q m f.1 f.2.1) {j:Nat} (hj:(j:Int) < fC f):Elm m b f j:=by
  obtain ⟨ha,hb⟩:=hp f hf
  obtain ⟨b1,b2,_,_,b5⟩:=hb
  refine ⟨ha,b1,b2,hj,fun i hi=>?_⟩
  obtain ⟨⟨a1,a2⟩,a3,a4⟩:=ha
  obtain ⟨S,hS⟩:=Int.eq_ofNat_of_zero_le (show 0 ≤ fS f by omega)
  obtain ⟨A,hA⟩:=Int.eq_ofNat_of_zero_le b1
  obtain ⟨C,hC⟩:=Int.eq_ofNat_of_zero_le (show 0 ≤ fC f by omega)
  have eo:off f j = A + j * S:=by unfold off;rw [hS,hA];simp
  have hi:i < S:=by rw [hS] at hi;omega
  have hj2:j * S + S ≤ S * C:=by
    have:(j + 1) * S ≤ C * S:=Nat.mul_le_mul (by omega) (Nat.le_refl _)
    rw [Nat.mul_comm S C]
    rw [Nat.add_mul,Nat.one_mul] at this
    exact this
  rw [hS,hA,hC] at b5
  have e4:((S:Int) * (C:Int)) = ((S * C:Nat):Int):=by simp
  rw [e4] at b5
  unfold c_Q at hlen
  rw [b_1 hf,Bool.true_and] at hlen
  have hk:((skp m.2.2:Nat):Int) = if m.2.2 = true then 1 else 0:=by unfold skp;split <;> rfl
  rw [← hk] at hlen
  rw [eo]
  omega
theorem p7_l1_eq (n:Nat) (x:Mpt) (hl:x.1.xs.length ≤ 1000):∀ (m i:Nat),x.1.xs.length - i < m → i ≤ x.1.xs.length → ∃ q:Unit ⊕ Bool,p7_l1 n x m i = some q ∧ (q = .inl () ∨ q = .inr false):=by
  intro m
  induction m with
  | zero=>intro i hm;exact absurd hm (by omega)
  | succ m ih =>
    intro i hm hi
    rw [p7_l1,a_W]
    by_cases hlt:i < x.1.xs.length
    · rw [c_8 (by omega),idxE hlt,Option.bind_some]
      split
      · exact ⟨_,rfl,.inr rfl⟩
      · rw [ckS (by omega) (by omega),Option.bind_some,b_8]
        exact ih (i + 1) (by omega) (by omega)
    · rw [c_9 (by omega)]
      exact ⟨_,rfl,.inl rfl⟩
theorem p7_eq {n:Nat} (hn:1100 ≤ n) (x:Mpt):∃ c,p7 n x = some c ∧ (c = true → x.1.xs.length ≤ 8):=by
  unfold p7
  rw [a_W]
  by_cases h8:((x.1.xs.length:Nat):Int) > 8
  · rw [c_8 h8];exact ⟨_,rfl,fun h=>by cases h⟩
  · obtain ⟨q,h1,h2⟩:=p7_l1_eq n x (by omega) n 0 (by omega) (by omega)
    rw [show ((0:Nat):Int) = 0 from rfl] at h1
    rw [c_9 h8,h1,Option.bind_some]
    rcases h2 with rfl | rfl
    · exact ⟨_,rfl,fun _=>by omega⟩
    · exact ⟨_,rfl,fun h=>by cases h⟩
def putB (y c:Int) (k:Nat):Int:=a_y .or .u8 (a_y .andNot .u8 y (2 ^ k)) (c * 2 ^ k)
def putOk:Bool:=(List.range 256).all fun y=>(List.range 8).all fun k=>(List.range 2).all fun c =>
  let z:=putB (y:Int) (c:Int) k
  decide (0 ≤ z) && decide (z ≤ 255) && (List.range 8).all fun t=>decide ((z / 2 ^ t % 2) = (if Nat.beq t k then (c:Int) else (y:Int) / 2 ^ t % 2))
theorem e_b:putOk = true:=by kernel_rfl
theorem putB_ok {y c:Int} {k:Nat} (h0:0 ≤ y) (h1:y ≤ 255) (hc0:0 ≤ c) (hc1:c ≤ 1) (hk:k < 8):(0 ≤ putB y c k ∧ putB y c k ≤ 255) ∧ ∀ t,t < 8 → putB y c k / 2 ^ t % 2 = if t = k then c else y / 2 ^ t % 2:=by
  obtain ⟨y,rfl⟩:=Int.eq_ofNat_of_zero_le h0
  obtain ⟨c,rfl⟩:=Int.eq_ofNat_of_zero_le hc0
  have h:=e_b
  unfold putOk at h
  have h2:=List.all_eq_true.1 (List.all_eq_true.1 (List.all_eq_true.1 h y (List.mem_range.2 (by omega))) k (List.mem_range.2 hk)) c (List.mem_range.2 (by omega))
  simp only [Bool.and_eq_true,decide_eq_true_eq] at h2
  refine ⟨h2.1,fun t ht=>?_⟩
  have h3:=List.all_eq_true.1 h2.2 t (List.mem_range.2 ht)
  rw [decide_eq_true_eq] at h3
  rw [h3]
  by_cases e:t = k
  · rw [if_pos e,if_pos (by rw [Nat.beq_eq];exact e)]
  · rw [if_neg e,if_neg (by rw [Nat.beq_eq];exact e)]
theorem and_i64_1 {v:Int}:IntKind.wrap .u8 (a_y .and .i64 v 1) = v % 2:=by
  unfold a_y
  simp only
  have e:(BitVec.ofInt 64 v &&& BitVec.ofInt 64 1).toNat = (v % 2).toNat:=by
    rw [BitVec.toNat_and]
    have e2:(BitVec.ofInt 64 1).toNat = 1:=by decide
    rw [e2,Nat.and_one_is_mod,BitVec.toNat_ofInt]
    omega
  rw [show IntKind.bits .i64 = 64 from rfl,e,b_2 (by omega) (by omega),d_E]
  omega
theorem shl_u8 {c:Int} {k:Nat} (hc0:0 ≤ c) (hc1:c ≤ 1) (hk:k < 8):c_6 .u8 c (k:Int) = some (c * 2 ^ k):=by
  unfold c_6
  rw [if_pos (by omega)]
  have e:min ((k:Int)).toNat (IntKind.bits .u8) = k:=by
    rw [show IntKind.bits .u8 = 8 from rfl];omega
  rw [e,d_E]
  refine congrArg some ?_
  have h1:=c_E (show k ≤ 7 by omega)
  have h0:=a_3 k
  rcases (show c = 0 ∨ c = 1 by omega) with rfl | rfl
  · omega
  · omega
def setB (nb:Bool) (b:List Int) (p:Nat) (c:Int):List Int:=b.set (p / 8 + skp nb) (putB (byt b (p / 8 + skp nb)) c (p % 8))
theorem setB_len (nb:Bool) (b:List Int) (p:Nat) (c:Int):(setB nb b p c).length = b.length:=List.length_set
theorem byt_set (b:List Int) (i j:Nat) (y:Int) (h:i < b.length):byt (b.set i y) j = if j = i then y else byt b j:=by
  unfold byt
  rw [List.getD_eq_getElem?_getD,List.getD_eq_getElem?_getD,List.getElem?_set]
  by_cases e:i = j
  · subst e;rw [if_pos rfl,if_pos h,if_pos rfl];rfl
  · rw [if_neg e,if_neg (fun q=>e q.symm)]
theorem setB_byts {nb:Bool} {b:List Int} {p:Nat} {c:Int} (hb:Byts b) (hc0:0 ≤ c) (hc1:c ≤ 1):Byts (setB nb b p c):=by
  intro y hy
  obtain ⟨i,hi⟩:=List.getElem?_of_mem hy
  unfold setB at hi
  rw [List.getElem?_set] at hi
  have hr:=hb.rng (p / 8 + skp nb)
  split at hi
  · split at hi
    · obtain rfl:=Option.some.inj hi
      exact (putB_ok hr.1 hr.2 hc0 hc1 (Nat.mod_lt _ (by decide))).1
    · cases hi
  · exact hb y (List.mem_of_getElem? hi)
theorem bt_setB {nb:Bool} {b:List Int} {p:Nat} {c:Int} (hb:Byts b) (hl:p / 8 + skp nb < b.length) (hc0:0 ≤ c) (hc1:c ≤ 1) (q:Nat):bt nb (setB nb b p c) q = if q = p then c else bt nb b q:=by
  have hr:=hb.rng (p / 8 + skp nb)
  have h:=(putB_ok hr.1 hr.2 hc0 hc1 (show p % 8 < 8 from Nat.mod_lt _ (by decide))).2 (q % 8) (Nat.mod_lt _ (by decide))
  unfold bt setB
  rw [byt_set _ _ _ _ hl]
  by_cases e:q / 8 + skp nb = p / 8 + skp nb
  · rw [if_pos e,h]
    by_cases e2:q % 8 = p % 8
    · rw [if_pos e2,if_pos (show q = p by omega)]
    · rw [if_neg e2,if_neg (show ¬ q = p by omega),e]
  · rw [if_neg e,if_neg (show ¬ q = p by omega)]
def wrB (nb:Bool) (b:List Int) (off:Nat) (v:Int):Nat → List Int
  | 0=>b
  | i + 1=>setB nb (wrB nb b off v i) (off + i) (v / 2 ^ i % 2)
theorem c_G (nb:Bool) (b:List Int) (off:Nat) (v:Int):∀ i,(wrB nb b off v i).length = b.length
  | 0=>rfl
  | i + 1=>by rw [wrB,setB_len,c_G nb b off v i]
theorem b_3 {nb:Bool} {b:List Int} (off:Nat) (v:Int) (hb:Byts b):∀ i,Byts (wrB nb b off v i)
  | 0=>hb
  | i + 1=>setB_byts (b_3 off v hb i) (by omega) (by omega)
theorem wrB_bt {nb:Bool} {b:List Int} {off:Nat} {v:Int} (hb:Byts b):∀ (i:Nat),(∀ t,t < i → (off + t) / 8 + skp nb < b.length) → ∀ q,bt nb (wrB nb b off v i) q = if off ≤ q ∧ q < off + i then v / 2 ^ (q - off) % 2 else bt nb b q
  | 0,_,q=>by rw [if_neg (by omega)];rfl
  | i + 1,hl,q=>by
    rw [wrB,bt_setB (b_3 off v hb i) (by rw [c_G];exact hl i (by omega)) (by omega) (by omega),wrB_bt hb i (fun t ht=>hl t (by omega)) q]
    by_cases e:q = off + i
    · rw [if_pos e,if_pos (by omega),e,show off + i - off = i by omega]
    · rw [if_neg e]
      by_cases e2:off ≤ q ∧ q < off + i
      · rw [if_pos e2,if_pos (by omega)]
      · rw [if_neg e2,if_neg (by omega)]
theorem wrB_0 {b:List Int} {off:Nat} {v:Int}:∀ (i:Nat),byt (wrB true b off v i) 0 = byt b 0
  | 0=>rfl
  | i + 1=>by
    rw [wrB]
    unfold setB
    by_cases h:(off + i) / 8 + skp true < (wrB true b off v i).length
    · rw [byt_set _ _ _ _ h,if_neg (by unfold skp;rw [if_pos rfl];omega),wrB_0 i]
    · rw [List.set_eq_of_length_le (by omega),wrB_0 i]
theorem d_3 {nb:Bool} {b:List Int} {off:Nat} {v:Int}:∀ (S:Nat),(∀ i,i < S → bt nb b (off + i) = v / 2 ^ i % 2) → num nb b off S = v % 2 ^ S
  | 0,_=>by rw [show (2:Int) ^ 0 = 1 from rfl,Int.emod_one];rfl
  | i + 1,h=>by
    rw [num,d_3 i fun t ht=>h t (by omega),h i (by omega),b_j]
    have hp:=a_3 i
    have h1:=Int.emod_nonneg v (show (2:Int) ^ i ≠ 0 by omega)
    have h2:=Int.emod_lt_of_pos v hp
    have e1:=Int.mul_ediv_add_emod v (2 ^ i)
    generalize hq:v / 2 ^ i = q at e1 ⊢
    generalize hr:v % 2 ^ i = r at e1 h1 h2 ⊢
    have e2:=Int.mul_ediv_add_emod q 2
    have h3:=Int.emod_nonneg q (show (2:Int) ≠ 0 by decide)
    have h4:=Int.emod_lt_of_pos q (show (0:Int) < 2 by decide)
    generalize hd:q / 2 = d at e2
    generalize hc:q % 2 = c at e2 h3 h4 ⊢
    have e3:v = r + c * 2 ^ i + (2 * 2 ^ i) * d:=by
      rw [← e1,← e2,Int.mul_add,← Int.mul_assoc,Int.mul_comm (2 ^ i) 2,Int.mul_comm (2 ^ i) c]
      omega
    have e4:0 ≤ r + c * 2 ^ i ∧ r + c * 2 ^ i < 2 * 2 ^ i:=by
      rcases (show c = 0 ∨ c = 1 by omega) with e | e
      · rw [e];omega
      · rw [e];omega
    rw [e3,Int.add_mul_emod_self_left,Int.emod_eq_of_lt e4.1 e4.2]
theorem p33_r1_eq (n:Nat) (nb:Bool) (b:List Int) (p:Nat) (v:Int) (hb:Byts b) (hl:p / 8 + skp nb < b.length):p33_r1 n (b,v) (((p / 8 + skp nb:Nat):Int),((p % 8:Nat):Int)) = some (0,(setB nb b p (v % 2),v / 2)):=by
  have hk:p % 8 < 8:=Nat.mod_lt _ (by decide)
  unfold p33_r1
  simp only
  have e1:c_6 .u8 1 ((p % 8:Nat):Int) = some (2 ^ (p % 8)):=by
    have:=shl_u8 (c:=1) (k:=p % 8) (by decide) (by decide) hk
    rw [this,Int.one_mul]
  have e2:d_x v 1 .i64 = some (v / 2):=by
    have:=shr_i64 (y:=v) (i:=1) (by decide)
    rw [show ((1:Nat):Int) = 1 from rfl,show (2:Int) ^ 1 = 2 from rfl] at this
    exact this
  rw [byt_of hl,Option.bind_some,e1,Option.bind_some,and_i64_1,shl_u8 (by omega) (by omega) hk,Option.bind_some,Option.bind_some,e2,Option.bind_some,show (((p / 8 + skp nb:Nat):Int)).toNat = p / 8 + skp nb by omega]
  rfl
theorem p49_l1_wr (n:Nat) (f:Fd) (x:Mpt) (b:List Int) (j:Nat) (v:Int) (hb:Byts b) (h:Elm x b f j):∀ (m i:Nat),(fS f).toNat - i < m → i ≤ (fS f).toNat →
    p49_l1 n (Nat × (List Int × Int)) f j (rnd (p33_r1 n)) (skp x.2.2:Nat) m i (0,(wrB x.2.2 b (off f j) v i,v / 2 ^ i)) = some (.inl (0,(wrB x.2.2 b (off f j) v (fS f).toNat,v / 2 ^ (fS f).toNat))):=by
  have hm:=h.mul
  have hs:=h.ok.1
  have hs':1 ≤ f.2.2.2.2.2.2.1 ∧ f.2.2.2.2.2.2.1 ≤ 32:=hs
  have hk:skp x.2.2 ≤ 1:=by unfold skp;split <;> omega
  intro m
  induction m with
  | zero=>intro i hm;exact absurd hm (by omega)
  | succ m ih =>
    intro i hi1 hi2
    rw [p49_l1]
    by_cases hlt:i < (fS f).toNat
    · have hyes:(i:Int) < f.2.2.2.2.2.2.1:=by
        have h_:(i:Int) < fS f:=by omega
        exact h_
      have hl:=h.len i hlt
      have e1:=p33_r1_eq n x.2.2 (wrB x.2.2 b (off f j) v i) (off f j + i) (v / 2 ^ i) (b_3 _ _ hb i) (by rw [c_G];exact hl)
      have e2:v / 2 ^ i / 2 = v / 2 ^ (i + 1):=by
        rw [b_j,Int.mul_comm,Int.ediv_ediv_of_nonneg (Int.le_of_lt (a_3 i))]
      have e3:rnd (p33_r1 n) (0,(wrB x.2.2 b (off f j) v i,v / 2 ^ i)) ((((off f j + i) / 8 + skp x.2.2:Nat):Int),(((off f j + i) % 8:Nat):Int)) = some (true,(0,(wrB x.2.2 b (off f j) v (i + 1),v / 2 ^ (i + 1)))):=by
        show (p33_r1 n (wrB x.2.2 b (off f j) v i,v / 2 ^ i) ((((off f j + i) / 8 + skp x.2.2:Nat):Int),(((off f j + i) % 8:Nat):Int))).map (fun r=>(Nat.beq r.1 0,r)) = _
        rw [e1,e2];rfl
      rw [c_8 hyes,ckS (by omega) (by omega),Option.bind_some,ckS (by omega) (by omega),Option.bind_some,← hm.2.1,ckS (by omega) (by omega),Option.bind_some,show ((off f j:Nat):Int) + (i:Int) = ((off f j + i:Nat):Int) by simp,quoS (by omega) (by omega) (by omega),Option.bind_some,ckS (by omega) (by omega),Option.bind_some,remS (by omega) (by omega) (by omega),Option.bind_some,show ((skp x.2.2:Nat):Int) + ((off f j + i:Nat):Int) / 8 = (((off f j + i) / 8 + skp x.2.2:Nat):Int) by omega,show ((off f j + i:Nat):Int) % 8 = (((off f j + i) % 8:Nat):Int) by simp,e3,Option.bind_some]
      rw [if_neg (show ¬ ((!true) = true) from by decide),ckS (by omega) (by omega),Option.bind_some,b_8]
      exact ih (i + 1) (by omega) (by omega)
    · have:i = (fS f).toNat:=by omega
      subst this
      have hno:¬ (((fS f).toNat:Nat):Int) < f.2.2.2.2.2.2.1:=by
        have h_:¬ (((fS f).toNat:Nat):Int) < fS f:=by omega
        exact h_
      rw [c_9 hno]
theorem p33_eq {n:Nat} (hn:100 ≤ n) (x:Mpt) (f:Fd) (b:Sl Int) (j:Nat) (v:Int) (hb:Byts b.xs) (h:Elm x b.xs f j):p33 n x f b j v = some (wrB x.2.2 b.xs (off f j) v (fS f).toNat):=by
  have hs:=h.ok.1
  have h1:=p49_l1_wr n f x b.xs j v hb h n 0 (by omega) (by omega)
  rw [show ((0:Nat):Int) = 0 from rfl,show wrB x.2.2 b.xs (off f j) v 0 = b.xs from rfl,show v / 2 ^ 0 = v by rw [show (2:Int) ^ 0 = 1 from rfl,Int.ediv_one]] at h1
  have e46:p46 n x f (j:Int) = some (x,f,(j:Int)):=rfl
  unfold p33
  rw [e46,Option.bind_some]
  simp only
  unfold p49
  have ek:(if x.2.2 = true then some (1:Int) else some 0) = some ((skp x.2.2:Nat):Int):=by
    unfold skp;split <;> rfl
  rw [ek,Option.bind_some,h1,Option.bind_some,lrKl,Option.bind_some]
def c_J (f:Fd) (v:Int):Bool:=if fSg f = true then decide (-(2 ^ (fS f).toNat / 2) ≤ v ∧ v < 2 ^ (fS f).toNat / 2) else decide (0 ≤ v ∧ v < 2 ^ (fS f).toNat)
theorem emod_negS (v w:Int) (h0:-w ≤ v) (h1:v < 0):v % w = v + w:=by
  have e:v % w = (v + w) % w:=by rw [Int.add_emod_right]
  rw [e,Int.emod_eq_of_lt (by omega) (by omega)]
theorem sgn_fit {f:Fd} (hs:1 ≤ fS f) {v:Int} (h:c_J f v = true):sgn f (v % 2 ^ (fS f).toNat) = v:=by
  obtain ⟨q,hq⟩:∃ q,(fS f).toNat = q + 1:=⟨(fS f).toNat - 1,by omega⟩
  unfold sgn
  unfold c_J at h
  rw [hq,b_j] at h ⊢
  have hp:=a_3 q
  have e2:(2:Int) * 2 ^ q / 2 = 2 ^ q:=by omega
  rw [e2] at h ⊢
  by_cases hg:fSg f = true
  · rw [if_pos hg,decide_eq_true_eq] at h
    rw [hg,Bool.true_and]
    by_cases hv:0 ≤ v
    · rw [Int.emod_eq_of_lt hv (by omega),c_9 (by omega)]
    · have e:v % (2 * 2 ^ q) = v + 2 * 2 ^ q:=by
        have:=emod_negS v (2 * 2 ^ q)
        exact this (by omega) (by omega)
      rw [e,c_8 (by omega)];omega
  · rw [if_neg hg,decide_eq_true_eq] at h
    rw [Bool.eq_false_iff.2 hg,Bool.false_and,if_neg (by decide),Int.emod_eq_of_lt h.1 h.2]
theorem shl_one {f:Fd} (hs:1 ≤ fS f ∧ fS f ≤ 32):c_6 .i64 1 f.2.2.2.2.2.2.1 = some (2 ^ (fS f).toNat):=by
  have e:f.2.2.2.2.2.2.1 = (((fS f).toNat:Nat):Int):=by
    have:fS f = (((fS f).toNat:Nat):Int):=by omega
    exact this
  rw [e,c_D (by omega) (by decide) (by decide),Int.one_mul]
theorem p17_eq (n:Nat) (f:Fd) (v:Int) (hs:1 ≤ fS f ∧ fS f ≤ 32):p17 n f v = some (c_J f v):=by
  have hp:=c_E (show (fS f).toNat ≤ 40 by omega)
  have hp0:=a_3 (fS f).toNat
  unfold p17 c_J
  rw [shl_one hs,Option.bind_some]
  generalize (2:Int) ^ (fS f).toNat = w at hp hp0
  obtain ⟨q,hq⟩:∃ q,(fS f).toNat = q + 1:=⟨(fS f).toNat - 1,by omega⟩
  by_cases hg:fSg f = true
  · have hg':f.2.2.2.2.2.2.2.2.2.2.2.1 = true:=hg
    have e1:c_7 .i64 (0 - w) 2 = some (-(w / 2)):=by
      unfold c_7
      rw [if_neg (by decide),show 0 - w = -w by omega,Int.neg_tdiv,Int.tdiv_eq_ediv_of_nonneg (by omega),ckS (by omega) (by omega)]
    rw [if_pos hg',if_pos hg,ckS (by omega) (by omega),Option.bind_some,e1,Option.bind_some,quoS (by omega) (by omega) (by omega),Option.bind_some,d_J fun _=>rfl,Option.bind_some,Bool.decide_and]
  · rw [if_neg (show ¬ f.2.2.2.2.2.2.2.2.2.2.2.1 = true from hg),if_neg hg,d_J fun _=>rfl,Option.bind_some,Bool.decide_and]
theorem p32_eq (n:Nat) (f:Fd) (v:Int) (hs:1 ≤ fS f ∧ fS f ≤ 32):p32 n f v = some (c_J f v):=by
  obtain ⟨q,hq⟩:∃ q,(fS f).toNat = q + 1:=⟨(fS f).toNat - 1,by omega⟩
  have hS:f.2.2.2.2.2.2.1 = ((q + 1:Nat):Int):=by
    have:fS f = ((q + 1:Nat):Int):=by omega
    exact this
  unfold p32 c_J
  by_cases hg:fSg f = true
  · have e2:(2:Int) ^ (fS f).toNat / 2 = 2 ^ q:=by rw [hq,b_j];omega
    rw [if_pos (show f.2.2.2.2.2.2.2.2.2.2.2.1 = true from hg),if_pos hg,e2,hS,ckS (by omega) (by omega),Option.bind_some,show (((q + 1:Nat):Int) - 1) = (q:Int) by omega,c_D (by omega) (by decide) (by decide),Option.bind_some,Option.bind_some,c_D (by omega) (by decide) (by decide),Option.bind_some,d_J fun _=>rfl,Option.bind_some,Bool.decide_and,Int.one_mul,show (-1:Int) * 2 ^ q = -2 ^ q by omega]
  · rw [if_neg (show ¬ f.2.2.2.2.2.2.2.2.2.2.2.1 = true from hg),if_neg hg,shl_one hs,Option.bind_some,d_J fun _=>rfl,Option.bind_some,Bool.decide_and]
end Go.Proofs.Ythknbcfelkljcaa
