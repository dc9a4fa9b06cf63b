/- Plain theorems for the laws: what the plain functions say. No condition. -/
import Derived.Test.YtionknddmlmhlaaLB1
import Derived.Test.YtionknddmlmhlaaPk3
set_option linter.unusedVariables false
set_option linter.unusedSimpArgs false
namespace Go.Proofs.Ytionknddmlmhlaa
open Go.RowKit
theorem c_J {α:Type} {xs:List α} {i:Nat} (h:i < xs.length):idx xs (i:Int) = some xs[i]:=by
  rw [idx_nat,List.getElem?_eq_getElem h]
theorem c_e {α:Type} (l:List α) (c:Option Nat):a_m (⟨l,c⟩:Sl α) = (l.length:Int):=rfl
theorem a_z {α:Type} (s:Sl α):a_m s = (s.xs.length:Int):=rfl
theorem a_Q (k:Nat):((k:Int) + 1) = ((k + 1:Nat):Int):=by simp
theorem a_R {α:Type} {l:List α} {i:Nat} (h:i < l.length):l.drop i = l[i] :: l.drop (i + 1):=List.drop_eq_getElem_cons h
theorem e_P {α:Type} (l:List α) (cp:Option Nat):sl3I (⟨l,cp⟩:Sl α) 0 (a_m (⟨l,cp⟩:Sl α)) (a_m (⟨l,cp⟩:Sl α)) = some ⟨l,some l.length⟩:=by
  unfold sl3I
  rw [c_e,if_pos (show (0:Int) ≤ 0 ∧ (0:Int) ≤ (l.length:Int) ∧ (l.length:Int) ≤ (l.length:Int) ∧ (l.length:Int) ≤ (l.length:Int) by omega)]
  simp
theorem b_U {α:Type} {p:Prop} [Decidable p] {a b:α} (h:p):(if decide p = true then a else b) = a:=by rw [decide_eq_true h];rfl
theorem b_V {α:Type} {p:Prop} [Decidable p] {a b:α} (h:¬ p):(if decide p = true then a else b) = b:=by rw [decide_eq_false h];rfl
theorem c_i {b:Bool} {x:Option Bool} {c:Bool} (h:b = true → x = some c):(if b = true then x else some false) = some (b && c):=by cases b <;> simp at h ⊢;exact h
theorem orO {b:Bool} {x:Option Bool} {c:Bool} (h:b = false → x = some c):(if b = false then x else some true) = some (b || c):=by cases b <;> simp at h ⊢;exact h
theorem b_j {α:Type} {a:List α} {x:α} (h:a.length ≤ 1000000):c_L a [x] = some (a ++ [x]):=appI_ok (by rw [List.length_singleton];omega)
theorem idx_of {α:Type} {xs:List α} {i:Int} (h0:0 ≤ i) (h1:i < (xs.length:Int)):idx xs i = some (xs[i.toNat]'(by omega)):=by
  unfold idx
  rw [if_pos h0,List.getElem?_eq_getElem]
abbrev Fd:=Int × Int × Int × (Sl (Int)) × Int × Int × Int × Int × Int × Bool × Bool × Bool × Bool
abbrev Mpt:=(Sl Fd) × (Sl (Int × Int × Int)) × Bool
@[reducible] def fS (f:Fd):Int:=f.2.2.2.2.2.2.1
@[reducible] def fC (f:Fd):Int:=f.2.2.2.2.2.2.2.1
@[reducible] def fA (f:Fd):Int:=f.2.2.2.2.2.2.2.2.1
@[reducible] def fLo (f:Fd):Int:=f.2.2.2.2.1
@[reducible] def fHi (f:Fd):Int:=f.2.2.2.2.2.1
@[reducible] def fU (f:Fd):Sl Int:=f.2.2.2.1
@[reducible] def fCo (f:Fd):Bool:=f.2.2.2.2.2.2.2.2.2.1
@[reducible] def fAr (f:Fd):Bool:=f.2.2.2.2.2.2.2.2.2.2.1
@[reducible] def fSg (f:Fd):Bool:=f.2.2.2.2.2.2.2.2.2.2.2.1
def okA (f:Fd):Prop:=(1 ≤ fS f ∧ fS f ≤ 32) ∧ 1 ≤ fC f ∧ fC f ≤ 256
instance (f:Fd):Decidable (okA f):=by unfold okA;infer_instance
theorem okA.mul {f:Fd} (h:okA f):1 ≤ fS f * fC f ∧ fS f * fC f ≤ 8192:=by
  obtain ⟨⟨h1,h2⟩,h3,h4⟩:=h
  constructor
  · have:=Int.mul_le_mul h1 h3 (by omega) (by omega);simpa using this
  · have:=Int.mul_le_mul h2 h4 (by omega) (by omega);simpa using this
theorem okA.mulr {f:Fd} (h:okA f):1 ≤ f.2.2.2.2.2.2.1 * f.2.2.2.2.2.2.2.1 ∧ f.2.2.2.2.2.2.1 * f.2.2.2.2.2.2.2.1 ≤ 8192:=h.mul
def cl (a x:Int):Int:=if 0 > (if a < x then a else x) then 0 else (if a < x then a else x)
theorem e_Q (a x:Int) (ha:0 ≤ a):0 ≤ cl a x ∧ cl a x ≤ a:=by
  unfold cl
  split <;> split at * <;> omega
def mt (k r:Int) (f:Fd):Bool:=f.1 == k && f.2.1 == r
theorem mt_eq (k r:Int) (f:Fd):(if (f.1 == k) = true then some (f.2.1 == r) else some false) = some (mt k r f):=c_i fun _=>rfl
def d_K (fs:List Fd) (k r:Int):Int:=((fs.filter (mt k r)).map fun f=>cl 32 (fS f) * cl 256 (fC f)).sum
theorem d_6 (f:Fd) (fs:List Fd) (k r:Int):d_K (f :: fs) k r = (if mt k r f = true then cl 32 (fS f) * cl 256 (fC f) else 0) + d_K fs k r:=by
  unfold d_K
  by_cases h:mt k r f = true
  · rw [List.filter_cons_of_pos h,if_pos h,List.map_cons,List.sum_cons]
  · rw [List.filter_cons_of_neg h,if_neg h,Int.zero_add]
theorem e_R (fs:List Fd) (k r:Int):0 ≤ d_K fs k r ∧ d_K fs k r ≤ 8192 * (fs.length:Int):=by
  induction fs with
  | nil=>exact ⟨Int.le_refl _,Int.le_refl _⟩
  | cons f fs ih =>
    have h1:=e_Q 32 (fS f) (by decide)
    have h2:=e_Q 256 (fC f) (by decide)
    have h3:0 ≤ cl 32 (fS f) * cl 256 (fC f):=Int.mul_nonneg h1.1 h2.1
    have h4:cl 32 (fS f) * cl 256 (fC f) ≤ 8192:=by
      have:=Int.mul_le_mul h1.2 h2.2 h2.1 (by omega);simpa using this
    rw [d_6,List.length_cons]
    split <;> omega
def c_M (fs:List Fd) (k r:Int):Bool:=fs.any (mt k r)
def b_R (m:Mpt) (k r:Int):Int:=(d_K m.1.xs k r + 7) / 8 + (if (c_M m.1.xs k r && m.2.2) = true then 1 else 0)
theorem p32_l1_eq (n:Nat) (x:Mpt) (k r:Int) (hl:x.1.xs.length ≤ 1000):∀ (m i:Nat) (b:Bool) (s:Int),x.1.xs.length - i < m → i ≤ x.1.xs.length → 0 ≤ s → s ≤ 8192 * (i:Int) →
    p32_l1 n x k r m i b s = some (s + d_K (x.1.xs.drop i) k r,b || c_M (x.1.xs.drop i) k r):=by
  intro m
  induction m with
  | zero=>intro i b s hm;exact absurd hm (by omega)
  | succ m ih =>
    intro i b s hm hi h0 h1
    rw [p32_l1,a_z]
    by_cases hlt:i < x.1.xs.length
    · rw [b_U (by omega),c_J hlt,Option.bind_some,mt_eq,Option.bind_some,a_R hlt,d_6]
      generalize x.1.xs[i] = f
      have h2:=e_Q 32 (fS f) (by decide)
      have h3:=e_Q 256 (fC f) (by decide)
      have h4:0 ≤ cl 32 (fS f) * cl 256 (fC f):=Int.mul_nonneg h2.1 h3.1
      have h5:cl 32 (fS f) * cl 256 (fC f) ≤ 8192:=by
        have:=Int.mul_le_mul h2.2 h3.2 h3.1 (by omega);simpa using this
      by_cases hm':mt k r f = true
      · have e1:(ckI .i64 ((if 0 > (if 32 < f.2.2.2.2.2.2.1 then 32 else f.2.2.2.2.2.2.1) then 0 else (if 32 < f.2.2.2.2.2.2.1 then 32 else f.2.2.2.2.2.2.1)) * (if 0 > (if 256 < f.2.2.2.2.2.2.2.1 then 256 else f.2.2.2.2.2.2.2.1) then 0 else (if 256 < f.2.2.2.2.2.2.2.1 then 256 else f.2.2.2.2.2.2.2.1)))) = some (cl 32 (fS f) * cl 256 (fC f)):=ckS (by show _ ≤ cl 32 (fS f) * cl 256 (fC f);omega) (by show cl 32 (fS f) * cl 256 (fC f) ≤ _;omega)
        rw [if_pos hm',if_pos hm',e1,Option.bind_some,ckS (by omega) (by omega),Option.bind_some,Option.bind_some,ckS (by omega) (by omega),Option.bind_some,a_Q,ih (i + 1) _ _ (by omega) (by omega) (by omega) (by omega)]
        refine congrArg some (Prod.ext (by simp only;omega) ?_)
        simp [c_M,hm']
      · rw [if_neg hm',if_neg hm',Option.bind_some,ckS (by omega) (by omega),Option.bind_some,a_Q,ih (i + 1) _ _ (by omega) (by omega) (by omega) (by omega)]
        refine congrArg some (Prod.ext (by simp only;omega) ?_)
        simp [c_M,hm']
    · rw [b_V (by omega),List.drop_eq_nil_of_le (by omega)]
      refine congrArg some (Prod.ext (by simp [d_K]) (by simp [c_M]))
theorem p32_eq {n:Nat} (hn:1100 ≤ n) (x:Mpt) (k r:Int) (hl:x.1.xs.length ≤ 1000):p32 n x k r = some (b_R x k r):=by
  have h:=p32_l1_eq n x k r hl n 0 false 0 (by omega) (by omega) (by omega) (by omega)
  have hr:=e_R x.1.xs k r
  rw [List.drop_zero,Int.zero_add,Bool.false_or] at h
  unfold p32 b_R
  rw [show ((0:Nat):Int) = 0 from rfl] at h
  rw [h,Option.bind_some]
  simp only
  rw [ckS (by omega) (by omega),Option.bind_some,quoS (by omega) (by omega) (by omega),Option.bind_some,c_i fun _=>rfl,Option.bind_some]
  split
  · rw [ckS (by omega) (by omega)];rfl
  · rw [Option.bind_some,Int.add_zero]
def okB (m:Mpt) (f:Fd):Prop:=0 ≤ fA f ∧ fA f + fS f * fC f ≤ 4096 ∧ (fLo f ≤ fHi f ∧ -2147483648 ≤ fLo f ∧ fHi f ≤ 4294967295) ∧ (fCo f = true ∨ 0 < (fU f).xs.length) ∧ fA f + fS f * fC f ≤ (d_K m.1.xs f.1 f.2.1 + 7) / 8 * 8
instance (m:Mpt) (f:Fd):Decidable (okB m f):=by unfold okB;infer_instance
def Pall (m:Mpt) (l:List Fd):Prop:=∀ f ∈ l,okA f ∧ okB m f
instance (m:Mpt) (l:List Fd):Decidable (Pall m l):=by unfold Pall;infer_instance
def Ppr (m:Mpt):Prop:=Pall m m.1.xs
instance (m:Mpt):Decidable (Ppr m):=by unfold Ppr;infer_instance
theorem mt_self (f:Fd):mt f.1 f.2.1 f = true:=by simp [mt]
theorem e_S {fs:List Fd} {f:Fd} (h:f ∈ fs):c_M fs f.1 f.2.1 = true:=List.any_eq_true.2 ⟨f,h,mt_self f⟩
theorem p45_eq (n:Nat) (f:Fd):p45 n f = some (decide (okA f)):=by
  unfold p45 okA
  rw [c_i fun _=>rfl,Option.bind_some,c_i fun _=>rfl,Option.bind_some,c_i fun _=>rfl,Option.bind_some]
  refine congrArg some ?_
  by_cases h1:1 ≤ fS f <;> by_cases h2:fS f ≤ 32 <;> by_cases h3:1 ≤ fC f <;> by_cases h4:fC f ≤ 256 <;> simp [h1,h2,h3,h4]
theorem p46_eq (n:Nat) (f:Fd) (h:okA f):p46 n f = some (decide (0 ≤ fA f ∧ fA f + fS f * fC f ≤ 4096)):=by
  have hm:=h.mulr
  unfold p46
  rw [ckS (by omega) (by omega),Option.bind_some,ckS (by omega) (by omega),Option.bind_some,c_i fun _=>rfl,Option.bind_some]
  refine congrArg some ?_
  rw [Bool.decide_and]
  have e:(f.2.2.2.2.2.2.2.2.1 ≤ 4096 - f.2.2.2.2.2.2.1 * f.2.2.2.2.2.2.2.1) ↔ (fA f + fS f * fC f ≤ 4096):=by
    show f.2.2.2.2.2.2.2.2.1 ≤ 4096 - f.2.2.2.2.2.2.1 * f.2.2.2.2.2.2.2.1 ↔ f.2.2.2.2.2.2.2.2.1 + f.2.2.2.2.2.2.1 * f.2.2.2.2.2.2.2.1 ≤ 4096
    omega
  rw [decide_eq_decide.2 e]
theorem p47_eq (n:Nat) (f:Fd):p47 n f = some (decide (fLo f ≤ fHi f ∧ -2147483648 ≤ fLo f ∧ fHi f ≤ 4294967295)):=by
  unfold p47
  rw [c_i fun _=>rfl,Option.bind_some,c_i fun _=>rfl,Option.bind_some]
  refine congrArg some ?_
  by_cases h1:fLo f ≤ fHi f <;> by_cases h2:-2147483648 ≤ fLo f <;> by_cases h3:fHi f ≤ 4294967295 <;> simp [h1,h2,h3]
theorem p48_eq (n:Nat) (f:Fd):p48 n f = some (decide (fCo f = true ∨ 0 < (fU f).xs.length)):=by
  unfold p48
  rw [orO fun _=>rfl,Option.bind_some,a_z]
  refine congrArg some ?_
  have e:(((fU f).xs.length:Int) > 0) ↔ 0 < (fU f).xs.length:=by omega
  by_cases h1:fCo f = true <;> by_cases h2:0 < (fU f).xs.length <;> simp [h1,h2]
theorem p49_eq {n:Nat} (hn:1100 ≤ n) (x:Mpt) (hl:x.1.xs.length ≤ 1000) (f:Fd) (hf:f ∈ x.1.xs) (h:okA f) (h2:0 ≤ fA f ∧ fA f + fS f * fC f ≤ 4096):p49 n f x = some (decide (fA f + fS f * fC f ≤ (d_K x.1.xs f.1 f.2.1 + 7) / 8 * 8)):=by
  have hm:=h.mulr
  have h2:0 ≤ f.2.2.2.2.2.2.2.2.1 ∧ f.2.2.2.2.2.2.2.2.1 + f.2.2.2.2.2.2.1 * f.2.2.2.2.2.2.2.1 ≤ 4096:=h2
  have hr:=e_R x.1.xs f.1 f.2.1
  have e39:p50 n x f = some ((d_K x.1.xs f.1 f.2.1 + 7) / 8 * 8):=by
    unfold p50
    rw [p32_eq hn x _ _ hl,Option.bind_some]
    unfold b_R
    rw [e_S hf,Bool.true_and]
    by_cases hb:x.2.2 = true
    · rw [if_pos hb,ckS (by omega) (by omega),Option.bind_some,if_pos hb,ckS (by omega) (by omega),Option.bind_some,Option.bind_some]
      refine congrArg some ?_
      omega
    · rw [if_neg hb,ckS (by omega) (by omega),Option.bind_some,if_neg hb,Option.bind_some]
      refine congrArg some ?_
      omega
  unfold p49
  rw [ckS (by omega) (by omega),Option.bind_some,ckS (by omega) (by omega),Option.bind_some,e39,Option.bind_some]
theorem p30_l1_eq {n:Nat} (hn:1100 ≤ n) (x:Mpt) (hl:x.1.xs.length ≤ 1000):∀ (m i:Nat),x.1.xs.length - i < m → i ≤ x.1.xs.length → p30_l1 n x m i = some (if Pall x (x.1.xs.drop i) then .inl () else .inr false):=by
  intro m
  induction m with
  | zero=>intro i hm;exact absurd hm (by omega)
  | succ m ih =>
    intro i hm hi
    rw [p30_l1,a_z]
    by_cases hlt:i < x.1.xs.length
    · have hmem:x.1.xs[i] ∈ x.1.xs:=List.getElem_mem hlt
      rw [b_U (by omega),c_J hlt,Option.bind_some,a_R hlt]
      generalize x.1.xs[i] = f at hmem
      have no:∀ {b:Bool} {e:Option (Unit ⊕ Bool)},(b = false) → (¬ (okA f ∧ okB x f)) → (if (!b) = true then some (.inr false) else e) = some (if Pall x (f :: x.1.xs.drop (i + 1)) then .inl () else .inr false):=by
        intro b e hb hno
        rw [hb,if_pos (show (!false) = true from rfl),if_neg (fun h=>hno (h f (by simp)))]
      have yes:∀ {b:Bool} {e:Option (Unit ⊕ Bool)},b = true → (if (!b) = true then some (.inr false) else e) = e:=by
        intro b e hb
        rw [hb];rfl
      rw [p45_eq,Option.bind_some]
      by_cases h1:okA f
      · rw [yes (decide_eq_true h1),p46_eq n f h1,Option.bind_some]
        by_cases h2:0 ≤ fA f ∧ fA f + fS f * fC f ≤ 4096
        · rw [yes (decide_eq_true h2),p47_eq,Option.bind_some]
          by_cases h3:fLo f ≤ fHi f ∧ -2147483648 ≤ fLo f ∧ fHi f ≤ 4294967295
          · rw [yes (decide_eq_true h3),p48_eq,Option.bind_some]
            by_cases h4:fCo f = true ∨ 0 < (fU f).xs.length
            · rw [yes (decide_eq_true h4),p49_eq hn x hl f hmem h1 h2,Option.bind_some]
              by_cases h5:fA f + fS f * fC f ≤ (d_K x.1.xs f.1 f.2.1 + 7) / 8 * 8
              · rw [yes (decide_eq_true h5),ckS (by omega) (by omega),Option.bind_some,a_Q,ih (i + 1) (by omega) (by omega)]
                refine congrArg some ?_
                by_cases h6:Pall x (x.1.xs.drop (i + 1))
                · rw [if_pos h6,if_pos]
                  intro g hg
                  rcases List.mem_cons.1 hg with rfl | hg
                  · exact ⟨h1,h2.1,h2.2,h3,h4,h5⟩
                  · exact h6 g hg
                · rw [if_neg h6,if_neg (fun q=>h6 fun g hg=>q g (by simp [hg]))]
              · exact no (decide_eq_false h5) fun q=>h5 q.2.2.2.2.2
            · exact no (decide_eq_false h4) fun q=>h4 q.2.2.2.2.1
          · exact no (decide_eq_false h3) fun q=>h3 q.2.2.2.1
        · exact no (decide_eq_false h2) fun q=>h2 ⟨q.2.1,q.2.2.1⟩
      · exact no (decide_eq_false h1) fun q=>h1 q.1
    · rw [b_V (by omega),List.drop_eq_nil_of_le (by omega),if_pos (show Pall x [] from fun g hg=>absurd hg List.not_mem_nil)]
theorem p30_eq {n:Nat} (hn:1100 ≤ n) (x:Mpt) (hl:x.1.xs.length ≤ 1000):p30 n x = some (decide (Ppr x)):=by
  have h:=p30_l1_eq hn x hl n 0 (by omega) (by omega)
  rw [show ((0:Nat):Int) = 0 from rfl,List.drop_zero] at h
  unfold p30
  rw [h,Option.bind_some]
  by_cases hp:Ppr x
  · rw [if_pos (show Pall x x.1.xs from hp),d_W,decide_eq_true hp]
  · rw [if_neg (show ¬ Pall x x.1.xs from hp),lrKr,decide_eq_false hp]
theorem c_P {x:Int} (h0:-9223372036854775808 ≤ x) (h1:x ≤ 9223372036854775807):IntKind.wrap .i64 x = x:=(a_l (ckS h0 h1)).2.2
theorem and_u8_1 {y:Int} (h0:0 ≤ y) (h1:y ≤ 255):a_w .and .u8 y 1 = y % 2:=by
  obtain ⟨a,rfl⟩:=Int.eq_ofNat_of_zero_le h0
  unfold a_w
  simp only
  have e:(BitVec.ofInt 8 (a:Int) &&& BitVec.ofInt 8 1).toNat = a % 2:=by
    rw [BitVec.toNat_and]
    have e1:(BitVec.ofInt 8 (a:Int)).toNat = a:=by
      rw [BitVec.toNat_ofInt];omega
    have e2:(BitVec.ofInt 8 1).toNat = 1:=by decide
    rw [e1,e2,Nat.and_one_is_mod]
  rw [show IntKind.bits .u8 = 8 from rfl,e,b_P]
  omega
theorem or_i64 {a c:Int} {i:Nat} (hi:i ≤ 40) (h0:0 ≤ a) (h1:a < 2 ^ i) (hc0:0 ≤ c) (hc:c ≤ 1):a_w .or .i64 a (c * 2 ^ i) = a + c * 2 ^ i:=by
  obtain ⟨a,rfl⟩:=Int.eq_ofNat_of_zero_le h0
  obtain ⟨c,rfl⟩:=Int.eq_ofNat_of_zero_le hc0
  have hp:(2:Nat) ^ i ≤ 2 ^ 40:=Nat.pow_le_pow_right (by decide) hi
  have h1:a < 2 ^ i:=by
    have:((2 ^ i:Nat):Int) = (2:Int) ^ i:=by simp
    omega
  have hc:c ≤ 1:=by omega
  have hcp:c * 2 ^ i ≤ 2 ^ 40:=by
    have:=Nat.mul_le_mul_right (2 ^ i) hc
    omega
  have e0:((c:Int) * 2 ^ i) = ((c * 2 ^ i:Nat):Int):=by simp
  rw [e0]
  unfold a_w
  simp only
  rw [show IntKind.bits .i64 = 64 from rfl]
  have nat:∀ z:Nat,z ≤ 2 ^ 41 → (BitVec.ofInt 64 (z:Int)).toNat = z:=by
    intro z hz
    rw [BitVec.toNat_ofInt]
    omega
  have e:(BitVec.ofInt 64 ((a:Nat):Int) ||| BitVec.ofInt 64 ((c * 2 ^ i:Nat):Int)).toNat = a + c * 2 ^ i:=by
    rw [BitVec.toNat_or,nat a (by omega),nat (c * 2 ^ i) (by omega),Nat.or_comm,Nat.mul_comm,← Nat.two_pow_add_eq_or_of_lt h1]
    omega
  rw [e,c_P (by omega) (by omega)]
  omega
theorem shl_i64 {x:Int} {i:Nat} (hi:i ≤ 40) (h0:-1 ≤ x) (h1:x ≤ 1):e_2 .i64 x (i:Int) = some (x * 2 ^ i):=by
  have hp:(2:Int) ^ i ≤ 2 ^ 40:=by
    have:(2:Nat) ^ i ≤ 2 ^ 40:=Nat.pow_le_pow_right (by decide) hi
    have e:((2 ^ i:Nat):Int) = (2:Int) ^ i:=by simp
    omega
  have hp0:(0:Int) ≤ 2 ^ i:=Int.pow_nonneg (by decide)
  unfold e_2
  rw [if_pos (by omega)]
  have e:min ((i:Int)).toNat (IntKind.bits .i64) = i:=by
    rw [show IntKind.bits .i64 = 64 from rfl];omega
  rw [e]
  refine congrArg some ?_
  rcases (show x = -1 ∨ x = 0 ∨ x = 1 by omega) with rfl | rfl | rfl
  · exact c_P (by omega) (by omega)
  · exact c_P (by omega) (by omega)
  · exact c_P (by omega) (by omega)
theorem e_T {y:Int} {i:Nat} (hi:i ≤ 8):d_J y (i:Int) .u8 = some (y / 2 ^ i):=by
  unfold d_J
  rw [if_pos (by omega)]
  have e:min ((i:Int)).toNat (IntKind.bits .u8) = i:=by
    rw [show IntKind.bits .u8 = 8 from rfl];omega
  rw [e,Int.fdiv_eq_ediv_of_nonneg _ (Int.pow_nonneg (by decide))]
theorem shr_i64 {y:Int} {i:Nat} (hi:i ≤ 64):d_J y (i:Int) .i64 = some (y / 2 ^ i):=by
  unfold d_J
  rw [if_pos (by omega)]
  have e:min ((i:Int)).toNat (IntKind.bits .i64) = i:=by
    rw [show IntKind.bits .i64 = 64 from rfl];omega
  rw [e,Int.fdiv_eq_ediv_of_nonneg _ (Int.pow_nonneg (by decide))]
theorem b_Q (i:Nat):(0:Int) < 2 ^ i:=Int.pow_pos (by decide)
theorem d_7 (i:Nat):(2:Int) ^ (i + 1) = 2 * 2 ^ i:=by rw [Int.pow_succ,Int.mul_comm]
theorem pow2_le {i j:Nat} (h:i ≤ j):(2:Int) ^ i ≤ 2 ^ j:=by
  have:(2:Nat) ^ i ≤ 2 ^ j:=Nat.pow_le_pow_right (by decide) h
  have e:((2 ^ i:Nat):Int) = (2:Int) ^ i:=by simp
  have e':((2 ^ j:Nat):Int) = (2:Int) ^ j:=by simp
  omega
def byt (b:List Int) (i:Nat):Int:=b.getD i 0
def skp (nb:Bool):Nat:=if nb = true then 1 else 0
def bt (nb:Bool) (b:List Int) (p:Nat):Int:=byt b (p / 8 + skp nb) / 2 ^ (p % 8) % 2
def Byts (b:List Int):Prop:=∀ y ∈ b,0 ≤ y ∧ y ≤ 255
theorem byt_of {b:List Int} {i:Nat} (h:i < b.length):idx b (i:Int) = some (byt b i):=by
  rw [c_J h]
  unfold byt
  rw [List.getD_eq_getElem?_getD,List.getElem?_eq_getElem h];rfl
theorem Byts.rng {b:List Int} (h:Byts b) (i:Nat):0 ≤ byt b i ∧ byt b i ≤ 255:=by
  unfold byt
  by_cases hi:i < b.length
  · rw [List.getD_eq_getElem?_getD,List.getElem?_eq_getElem hi];exact h _ (List.getElem_mem hi)
  · rw [List.getD_eq_getElem?_getD,List.getElem?_eq_none (by omega)];exact ⟨by decide,by decide⟩
theorem bt_rng (nb:Bool) (b:List Int) (p:Nat):0 ≤ bt nb b p ∧ bt nb b p ≤ 1:=by unfold bt;omega
theorem div_rng {y:Int} (h0:0 ≤ y) (h1:y ≤ 255) (i:Nat):0 ≤ y / 2 ^ i ∧ y / 2 ^ i ≤ 255 :=
  ⟨Int.ediv_nonneg h0 (Int.le_of_lt (b_Q i)),Int.le_trans (Int.ediv_le_self _ h0) h1⟩
def num (nb:Bool) (b:List Int) (off:Nat):Nat → Int
  | 0=>0
  | i + 1=>num nb b off i + bt nb b (off + i) * 2 ^ i
theorem e_q (nb:Bool) (b:List Int) (off:Nat):∀ i,0 ≤ num nb b off i ∧ num nb b off i < 2 ^ i
  | 0=>⟨Int.le_refl _,by show (0:Int) < 1;decide⟩
  | i + 1=>by
    have h:=e_q nb b off i
    have hb:=bt_rng nb b (off + i)
    have hp:=b_Q i
    rw [d_7]
    show 0 ≤ num nb b off i + bt nb b (off + i) * 2 ^ i ∧ num nb b off i + bt nb b (off + i) * 2 ^ i < 2 * 2 ^ i
    rcases (show bt nb b (off + i) = 0 ∨ bt nb b (off + i) = 1 by omega) with e | e
    · rw [e];omega
    · rw [e];omega
def sgn (f:Fd) (v:Int):Int:=if (fSg f && decide (2 ^ (fS f).toNat / 2 ≤ v)) = true then v - 2 ^ (fS f).toNat else v
def off (f:Fd) (j:Nat):Nat:=(fA f).toNat + j * (fS f).toNat
def e_r (m:Mpt) (b:List Int) (f:Fd) (j:Nat):Int:=sgn f (num m.2.2 b (off f j) (fS f).toNat)
structure Elm (m:Mpt) (b:List Int) (f:Fd) (j:Nat):Prop where
  ok:okA f
  at0:0 ≤ fA f
  atm:fA f + fS f * fC f ≤ 4096
  lt:(j:Int) < fC f
  len:∀ i:Nat,i < (fS f).toNat → (off f j + i) / 8 + skp m.2.2 < b.length
theorem Elm.mul {m:Mpt} {b:List Int} {f:Fd} {j:Nat} (h:Elm m b f j):(0 ≤ (j:Int) * f.2.2.2.2.2.2.1 ∧ (j:Int) * f.2.2.2.2.2.2.1 ≤ 8192) ∧ (((off f j:Nat):Int) = f.2.2.2.2.2.2.2.2.1 + (j:Int) * f.2.2.2.2.2.2.1 ∧ off f j ≤ 5000):=by
  obtain ⟨⟨⟨h1,h2⟩,h3,h4⟩,h5,h6,h7,_⟩:=h
  obtain ⟨S,hS⟩:=Int.eq_ofNat_of_zero_le (show 0 ≤ fS f by omega)
  obtain ⟨A,hA⟩:=Int.eq_ofNat_of_zero_le h5
  obtain ⟨C,hC⟩:=Int.eq_ofNat_of_zero_le (show 0 ≤ fC f by omega)
  have e1:f.2.2.2.2.2.2.1 = (S:Int):=hS
  have e2:f.2.2.2.2.2.2.2.2.1 = (A:Int):=hA
  rw [hS,hC,hA] at h6
  rw [hS] at h2
  rw [hC] at h4 h7
  have hj:j * S ≤ 256 * 32:=Nat.mul_le_mul (by omega) (by omega)
  have hj2:j * S ≤ S * C:=by rw [Nat.mul_comm S C];exact Nat.mul_le_mul (by omega) (Nat.le_refl _)
  have e3:((j:Int) * (S:Int)) = ((j * S:Nat):Int):=by simp
  have e4:((S:Int) * (C:Int)) = ((S * C:Nat):Int):=by simp
  have eo:off f j = A + j * S:=by
    unfold off
    rw [hS,hA];simp
  rw [e1,e2,e3,eo]
  rw [e4] at h6
  exact ⟨⟨by omega,by omega⟩,by simp,by omega⟩
theorem p61_l1_eq (n:Nat) (f:Fd) (x:Mpt) (b:Sl Int) (j:Nat) (hb:Byts b.xs) (h:Elm x b.xs f j):∀ (m i:Nat),(fS f).toNat - i < m → i ≤ (fS f).toNat →
    p61_l1 n (Nat × (Int × Int)) f j (rnd (p38_r1 n b)) (skp x.2.2:Nat) m i (0,(num x.2.2 b.xs (off f j) i,(i:Int))) = some (.inl (0,(num x.2.2 b.xs (off f j) (fS f).toNat,(((fS f).toNat:Nat):Int)))):=by
  have hm:=h.mul
  have hs:=h.ok.1
  have hs':1 ≤ f.2.2.2.2.2.2.1 ∧ f.2.2.2.2.2.2.1 ≤ 32:=hs
  have hk:skp x.2.2 ≤ 1:=by unfold skp;split <;> omega
  intro m
  induction m with
  | zero=>intro i hm;exact absurd hm (by omega)
  | succ m ih =>
    intro i hi1 hi2
    rw [p61_l1]
    by_cases hlt:i < (fS f).toNat
    · have hyes:(i:Int) < f.2.2.2.2.2.2.1:=by
        have h_:(i:Int) < fS f:=by omega
        exact h_
      have hl:=h.len i hlt
      have hn:=e_q x.2.2 b.xs (off f j) i
      have hbt:=bt_rng x.2.2 b.xs (off f j + i)
      have hr:=hb.rng ((off f j + i) / 8 + skp x.2.2)
      have hd:=div_rng hr.1 hr.2 ((off f j + i) % 8)
      have e1:p38_r1 n b (num x.2.2 b.xs (off f j) i,(i:Int)) ((((off f j + i) / 8 + skp x.2.2:Nat):Int),(((off f j + i) % 8:Nat):Int)) = some (0,(num x.2.2 b.xs (off f j) (i + 1),((i + 1:Nat):Int))):=by
        unfold p38_r1
        simp only
        rw [byt_of hl,Option.bind_some,e_T (by omega),Option.bind_some,and_u8_1 hd.1 hd.2]
        have e2:byt b.xs ((off f j + i) / 8 + skp x.2.2) / 2 ^ ((off f j + i) % 8) % 2 = bt x.2.2 b.xs (off f j + i):=rfl
        rw [e2,shl_i64 (by omega) (by omega) (by omega),Option.bind_some,ckS (by omega) (by omega),Option.bind_some,or_i64 (by omega) hn.1 hn.2 hbt.1 hbt.2,a_Q]
        rfl
      have e3:rnd (p38_r1 n b) (0,(num x.2.2 b.xs (off f j) i,(i:Int))) ((((off f j + i) / 8 + skp x.2.2:Nat):Int),(((off f j + i) % 8:Nat):Int)) = some (true,(0,(num x.2.2 b.xs (off f j) (i + 1),((i + 1:Nat):Int)))):=by
        show (p38_r1 n b (num x.2.2 b.xs (off f j) i,(i:Int)) ((((off f j + i) / 8 + skp x.2.2:Nat):Int),(((off f j + i) % 8:Nat):Int))).map (fun r=>(Nat.beq r.1 0,r)) = _
        rw [e1];rfl
      rw [b_U hyes,ckS (by omega) (by omega),Option.bind_some,ckS (by omega) (by omega),Option.bind_some,← hm.2.1,ckS (by omega) (by omega),Option.bind_some,show ((off f j:Nat):Int) + (i:Int) = ((off f j + i:Nat):Int) by simp,quoS (by omega) (by omega) (by omega),Option.bind_some,ckS (by omega) (by omega),Option.bind_some,remS (by omega) (by omega) (by omega),Option.bind_some,show ((skp x.2.2:Nat):Int) + ((off f j + i:Nat):Int) / 8 = (((off f j + i) / 8 + skp x.2.2:Nat):Int) by omega,show ((off f j + i:Nat):Int) % 8 = (((off f j + i) % 8:Nat):Int) by simp,e3,Option.bind_some]
      rw [if_neg (show ¬ ((!true) = true) from by decide),ckS (by omega) (by omega),Option.bind_some,a_Q]
      exact ih (i + 1) (by omega) (by omega)
    · have:i = (fS f).toNat:=by omega
      subst this
      have hno:¬ (((fS f).toNat:Nat):Int) < f.2.2.2.2.2.2.1:=by
        have h_:¬ (((fS f).toNat:Nat):Int) < fS f:=by omega
        exact h_
      rw [b_V hno]
theorem p38_eq {n:Nat} (hn:100 ≤ n) (x:Mpt) (f:Fd) (b:Sl Int) (j:Nat) (hb:Byts b.xs) (h:Elm x b.xs f j):p38 n x f b j = some (e_r x b.xs f j):=by
  have hs:=h.ok.1
  have hs':1 ≤ f.2.2.2.2.2.2.1 ∧ f.2.2.2.2.2.2.1 ≤ 32:=hs
  have h1:=p61_l1_eq n f x b j hb h n 0 (by omega) (by omega)
  have hr:=e_q x.2.2 b.xs (off f j) (fS f).toNat
  have hp:=pow2_le (show (fS f).toNat ≤ 40 by omega)
  have hp0:=b_Q (fS f).toNat
  obtain ⟨q,hq⟩:∃ q,(fS f).toNat = q + 1:=⟨(fS f).toNat - 1,by omega⟩
  have hS:f.2.2.2.2.2.2.1 = ((q + 1:Nat):Int):=by
    have:fS f = ((q + 1:Nat):Int):=by omega
    exact this
  rw [show ((0:Nat):Int) = 0 from rfl,show num x.2.2 b.xs (off f j) 0 = 0 from rfl] at h1
  have e46:p56 n x f (j:Int) = some (x,f,(j:Int)):=rfl
  have e49:p61 n x f (j:Int) (Nat × (Int × Int)) (rnd (p38_r1 n b)) (0,(0,0)) = some (0,(num x.2.2 b.xs (off f j) (fS f).toNat,(((fS f).toNat:Nat):Int))):=by
    unfold p61
    have ek:(if x.2.2 = true then some (1:Int) else some 0) = some ((skp x.2.2:Nat):Int):=by
      unfold skp;split <;> rfl
    rw [ek,Option.bind_some,h1,Option.bind_some,d_W]
  unfold p38
  rw [e46,Option.bind_some]
  simp only
  rw [e49,Option.bind_some]
  simp only
  have e1:(ckI .i64 (f.2.2.2.2.2.2.1 - 1)).bind (fun x_144=>(d_J (num x.2.2 b.xs (off f j) (fS f).toNat) x_144 .i64).bind fun x_145=>some (x_145 == 1)) = some (decide (2 ^ (fS f).toNat / 2 ≤ num x.2.2 b.xs (off f j) (fS f).toNat)):=by
    rw [hS,ckS (by omega) (by omega),Option.bind_some,show (((q + 1:Nat):Int) - 1) = (q:Int) by omega,shr_i64 (by omega),Option.bind_some]
    refine congrArg some ?_
    have hpq:=b_Q q
    have hq2:(2:Int) ^ (fS f).toNat = 2 * 2 ^ q:=by rw [hq,d_7]
    have ed:(2:Int) ^ (fS f).toNat / 2 = 2 ^ q:=by rw [hq2];omega
    rw [ed]
    rw [hq2] at hr
    generalize num x.2.2 b.xs (off f j) (fS f).toNat = v at hr
    by_cases hv:(2:Int) ^ q ≤ v
    · rw [decide_eq_true hv,beq_iff_eq]
      have h2:v / 2 ^ q = (v - 2 ^ q) / 2 ^ q + 1:=by
        have:=Int.add_ediv_of_dvd_right (a:=v - 2 ^ q) (Int.dvd_refl (2 ^ q))
        rw [Int.ediv_self (by omega)] at this
        rw [← this]
        congr 1
        omega
      rw [h2,Int.ediv_eq_zero_of_lt (by omega) (by omega)]
      rfl
    · rw [decide_eq_false hv,Int.ediv_eq_zero_of_lt (by omega) (by omega)]
      rfl
  rw [c_i fun _=>e1,Option.bind_some]
  unfold e_r sgn
  split
  · rw [hS,shl_i64 (by omega) (by omega) (by omega),Option.bind_some,Int.one_mul]
    rw [hq] at hr hp ⊢
    rw [ckS (by omega) (by omega)];rfl
  · rfl
section
end
def Aall (l:List Fd):Prop:=∀ f ∈ l,okA f
instance (l:List Fd):Decidable (Aall l):=by unfold Aall;infer_instance
def Ball (x:Mpt) (l:List Fd):Prop:=∀ f ∈ l,okB x f
instance (x:Mpt) (l:List Fd):Decidable (Ball x l):=by unfold Ball;infer_instance
def hld (f:Fd) (j:Nat) (v:Int):Option (Int × Int) :=
  if fCo f = true ∨ v < fLo f ∨ v > fHi f then .none
  else if fAr f = true then ((fU f).xs[(v - fLo f).toNat]?).map fun u=>(u,1)
  else ((fU f).xs[min j ((fU f).xs.length - 1)]?).map fun u=>(u,v)
def hldR (o:Option (Int × Int)):Int × Int × Bool:=match o with | some (u,w)=>(u,w,true) | none=>(0,0,false)
theorem p37_eq (n:Nat) (x:Mpt) (f:Fd) (hB:okB x f) (j:Nat) (hj:j ≤ 1000) (hU:(fU f).xs.length ≤ 9223372036854775807) (v:Int):p37 n f j v = some (hldR (hld f j v)):=by
  obtain ⟨_,_,⟨b3,b4,b5⟩,b6,_⟩:=hB
  unfold p37 hld
  rw [orO fun _=>rfl,Option.bind_some,orO fun _=>rfl,Option.bind_some]
  by_cases h0:fCo f = true ∨ v < fLo f ∨ v > fHi f
  · have hq:((f.2.2.2.2.2.2.2.2.2.1 || decide (v < f.2.2.2.2.1)) || decide (v > f.2.2.2.2.2.1)) = true:=by
      rcases h0 with h | h | h
      · have h:f.2.2.2.2.2.2.2.2.2.1 = true:=h
        rw [h];rfl
      · have h:v < f.2.2.2.2.1:=h
        rw [decide_eq_true h,Bool.or_true,Bool.true_or]
      · have h:v > f.2.2.2.2.2.1:=h
        rw [decide_eq_true h,Bool.or_true]
    rw [hq,if_neg (by decide),Option.bind_some,if_pos rfl,if_pos h0]
    rfl
  · have hc:¬ fCo f = true:=fun q=>h0 (.inl q)
    have h1:¬ v < fLo f:=fun q=>h0 (.inr (.inl q))
    have h2:¬ v > fHi f:=fun q=>h0 (.inr (.inr q))
    have hlen:0 < (fU f).xs.length:=b6.resolve_left hc
    have hq:((f.2.2.2.2.2.2.2.2.2.1 || decide (v < f.2.2.2.2.1)) || decide (v > f.2.2.2.2.2.1)) = false:=by
      have hc:f.2.2.2.2.2.2.2.2.2.1 = false:=Bool.eq_false_iff.2 hc
      rw [hc,decide_eq_false h1,decide_eq_false h2];rfl
    rw [hq,if_pos rfl,if_neg h0]
    have hck:ckI .i64 (v - f.2.2.2.2.1) = some (v - fLo f):=ckS (show _ ≤ v - fLo f by omega) (show v - fLo f ≤ _ by omega)
    by_cases hA:fAr f = true
    · have hA':f.2.2.2.2.2.2.2.2.2.2.1 = true:=hA
      obtain ⟨q,hqv⟩:=Int.eq_ofNat_of_zero_le (show 0 ≤ v - fLo f by omega)
      have hqn:(v - fLo f).toNat = q:=by omega
      rw [hA',if_pos rfl,if_pos rfl,if_pos hA,hck,Option.bind_some,Option.bind_some,hqn,hqv,a_z]
      by_cases hl:q < (fU f).xs.length
      · have hl':¬ ((q:Nat):Int) ≥ (f.2.2.2.1.xs.length:Int):=by
          have:¬ ((q:Nat):Int) ≥ ((fU f).xs.length:Int):=by omega
          exact this
        rw [decide_eq_false hl',Option.bind_some,Option.bind_some,if_neg (by decide),show idx f.2.2.2.1.xs (q:Int) = some ((fU f).xs[q]) from c_J hl,Option.bind_some,List.getElem?_eq_getElem hl]
        rfl
      · have hl':((q:Nat):Int) ≥ (f.2.2.2.1.xs.length:Int):=by
          have:((q:Nat):Int) ≥ ((fU f).xs.length:Int):=by omega
          exact this
        rw [decide_eq_true hl',Option.bind_some,Option.bind_some,if_pos rfl,List.getElem?_eq_none (by omega)]
        rfl
    · have hA':f.2.2.2.2.2.2.2.2.2.2.1 = false:=Bool.eq_false_iff.2 hA
      rw [hA',if_neg (by decide),if_neg hA,Option.bind_some,Option.bind_some,if_neg (by decide),if_neg (by decide),a_z]
      have e1:((f.2.2.2.1.xs.length:Nat):Int) - 1 = (((fU f).xs.length - 1:Nat):Int):=by
        have:(((fU f).xs.length:Nat):Int) - 1 = (((fU f).xs.length - 1:Nat):Int):=by omega
        exact this
      rw [e1]
      rw [ckS (by omega) (by omega),Option.bind_some]
      have e2:(if (((fU f).xs.length - 1:Nat):Int) < (j:Int) then (((fU f).xs.length - 1:Nat):Int) else (j:Int)) = ((min j ((fU f).xs.length - 1):Nat):Int):=by
        split <;> omega
      have hm:min j ((fU f).xs.length - 1) < (fU f).xs.length:=by omega
      rw [e2,show idx f.2.2.2.1.xs ((min j ((fU f).xs.length - 1):Nat):Int) = some ((fU f).xs[min j ((fU f).xs.length - 1)]) from c_J hm,Option.bind_some,List.getElem?_eq_getElem hm]
      rfl
theorem Elm.of {m:Mpt} {b:List Int} {f:Fd} (hp:Ppr m) (hf:f ∈ m.1.xs) (hlen:(b.length:Int) = b_R m f.1 f.2.1) {j:Nat} (hj:(j:Int) < fC f):Elm m b f j:=by
  obtain ⟨ha,hb⟩:=hp f hf
  obtain ⟨b1,b2,_,_,b5⟩:=hb
  refine ⟨ha,b1,b2,hj,fun i hi=>?_⟩
  obtain ⟨⟨a1,a2⟩,a3,a4⟩:=ha
  obtain ⟨S,hS⟩:=Int.eq_ofNat_of_zero_le (show 0 ≤ fS f by omega)
  obtain ⟨A,hA⟩:=Int.eq_ofNat_of_zero_le b1
  obtain ⟨C,hC⟩:=Int.eq_ofNat_of_zero_le (show 0 ≤ fC f by omega)
  have eo:off f j = A + j * S:=by unfold off;rw [hS,hA];simp
  have hi:i < S:=by rw [hS] at hi;omega
  have hj2:j * S + S ≤ S * C:=by
    have:(j + 1) * S ≤ C * S:=Nat.mul_le_mul (by omega) (Nat.le_refl _)
    rw [Nat.mul_comm S C]
    rw [Nat.add_mul,Nat.one_mul] at this
    exact this
  rw [hS,hA,hC] at b5
  have e4:((S:Int) * (C:Int)) = ((S * C:Nat):Int):=by simp
  rw [e4] at b5
  unfold b_R at hlen
  rw [e_S hf,Bool.true_and] at hlen
  have hk:((skp m.2.2:Nat):Int) = if m.2.2 = true then 1 else 0:=by unfold skp;split <;> rfl
  rw [← hk] at hlen
  rw [eo]
  omega
def elV (m:Mpt) (b:List Int) (i:Nat) (f:Fd) (j:Nat):List (Int × Int × Int × Int) :=
  match hld f j (e_r m b f j) with
  | some (u,w)=>[((i:Int),(j:Int),u,w)]
  | none=>[]
def fdV (m:Mpt) (b:List Int) (i:Nat) (f:Fd) (j:Nat):List (Int × Int × Int × Int):=(List.range' j ((fC f).toNat - j)).flatMap (elV m b i f)
theorem e_U (m:Mpt) (b:List Int) (i:Nat) (f:Fd) {j:Nat} (h:j < (fC f).toNat):fdV m b i f j = elV m b i f j ++ fdV m b i f (j + 1):=by
  unfold fdV
  obtain ⟨q,hq⟩:∃ q,(fC f).toNat - j = q + 1:=⟨(fC f).toNat - j - 1,by omega⟩
  rw [hq,show (fC f).toNat - (j + 1) = q by omega,List.range'_succ,List.flatMap_cons]
theorem fdV_nil (m:Mpt) (b:List Int) (i:Nat) (f:Fd) {j:Nat} (h:(fC f).toNat ≤ j):fdV m b i f j = []:=by
  unfold fdV
  rw [show (fC f).toNat - j = 0 by omega];rfl
theorem elV_len (m:Mpt) (b:List Int) (i:Nat) (f:Fd) (j:Nat):(elV m b i f j).length ≤ 1:=by
  unfold elV;split <;> simp
theorem e_s (m:Mpt) (b:List Int) (i:Nat) (f:Fd):∀ (q j:Nat),(fC f).toNat - j = q → (fdV m b i f j).length ≤ q
  | 0,j,h=>by rw [fdV_nil m b i f (by omega)];simp
  | q + 1,j,h=>by
    have:=e_s m b i f q (j + 1) (by omega)
    have:=elV_len m b i f j
    rw [e_U m b i f (by omega),List.length_append];omega
def Us (m:Mpt):Prop:=∀ f ∈ m.1.xs,(fU f).xs.length ≤ 9223372036854775807
theorem p23_l2_eq {n:Nat} (hn:1100 ≤ n) (x:Mpt) (hp:Ppr x) (hU:Us x) (b:Sl Int) (hb:Byts b.xs) (f:Fd) (hf:f ∈ x.1.xs) (hlen:(b.xs.length:Int) = b_R x f.1 f.2.1) (i:Nat):∀ (m j:Nat) (a:List (Int × Int × Int × Int)),(fC f).toNat - j < m → j ≤ (fC f).toNat → a.length ≤ 900000 + j →
    p23_l2 n x b (i:Int) f m j a = some (a ++ fdV x b.xs i f j):=by
  have hA:=(hp f hf).1
  have hA':=hA.2
  intro m
  induction m with
  | zero=>intro j a hm;exact absurd hm (by omega)
  | succ m ih =>
    intro j a hm hj ha
    rw [p23_l2]
    by_cases hlt:j < (fC f).toNat
    · have hlt':(j:Int) < fC f:=by omega
      have hE:=Elm.of (b:=b.xs) hp hf hlen hlt'
      rw [b_U (show (j:Int) < f.2.2.2.2.2.2.2.1 from hlt'),p38_eq (by omega) x f b j hb hE,Option.bind_some,p37_eq n x f (hp f hf).2 j (by omega) (hU f hf),Option.bind_some,e_U x b.xs i f hlt]
      have hl:=elV_len x b.xs i f j
      have e:((if (hldR (hld f j (e_r x b.xs f j))).2.2 = true then (c_L a [((i:Int),(j:Int),(hldR (hld f j (e_r x b.xs f j))).1,(hldR (hld f j (e_r x b.xs f j))).2.1)]).bind fun l_257=>some l_257 else some a):Option (List (Int × Int × Int × Int))) = some (a ++ elV x b.xs i f j):=by
        unfold elV
        cases hld f j (e_r x b.xs f j) with
        | none=>show some a = some (a ++ []);rw [List.append_nil]
        | some q =>
          obtain ⟨u,w⟩:=q
          show (c_L a [((i:Int),(j:Int),u,w)]).bind (fun l_257=>some l_257) = _
          rw [b_j (by omega)];rfl
      rw [e,Option.bind_some,ckS (by omega) (by omega),Option.bind_some,a_Q,ih (j + 1) _ (by omega) (by omega) (by rw [List.length_append];omega),List.append_assoc]
    · rw [b_V (show ¬ (j:Int) < f.2.2.2.2.2.2.2.1 from (show ¬ (j:Int) < fC f by omega)),fdV_nil x b.xs i f (by omega),List.append_nil]
def rpV (m:Mpt) (b:List Int) (k r:Int):Nat → List Fd → List (Int × Int × Int × Int)
  | _,[]=>[]
  | i,f :: l=>(if mt k r f = true then fdV m b i f 0 else []) ++ rpV m b k r (i + 1) l
theorem nmt_eq (k r:Int) (f:Fd):(if (f.1 != k) = false then some (f.2.1 != r) else some true) = some (!mt k r f):=by
  rw [orO fun _=>rfl]
  unfold mt
  cases h1:f.1 == k <;> cases h2:f.2.1 == r <;> simp [bne,h1,h2]
theorem mt_iff {k r:Int} {f:Fd} (h:mt k r f = true):f.1 = k ∧ f.2.1 = r:=by
  unfold mt at h
  rw [Bool.and_eq_true,beq_iff_eq,beq_iff_eq] at h
  exact h
theorem p23_l1_eq {n:Nat} (hn:1100 ≤ n) (x:Mpt) (hl:x.1.xs.length ≤ 1000) (hp:Ppr x) (hU:Us x) (k r:Int) (b:Sl Int) (hb:Byts b.xs) (hlen:(b.xs.length:Int) = b_R x k r):∀ (m i:Nat) (a:List (Int × Int × Int × Int)),x.1.xs.length - i < m → i ≤ x.1.xs.length → a.length ≤ 256 * i →
    p23_l1 n x k b r m i a = some (a ++ rpV x b.xs k r i (x.1.xs.drop i)):=by
  intro m
  induction m with
  | zero=>intro i a hm;exact absurd hm (by omega)
  | succ m ih =>
    intro i a hm hi ha
    rw [p23_l1,a_z]
    by_cases hlt:i < x.1.xs.length
    · have hf:x.1.xs[i] ∈ x.1.xs:=List.getElem_mem hlt
      rw [b_U (by omega),c_J hlt,Option.bind_some,nmt_eq,Option.bind_some,a_R hlt,rpV]
      by_cases hm':mt k r x.1.xs[i] = true
      · obtain ⟨e1,e2⟩:=mt_iff hm'
        have hC:=(hp _ hf).1.2
        have hlen':(b.xs.length:Int) = b_R x x.1.xs[i].1 x.1.xs[i].2.1:=by rw [e1,e2];exact hlen
        have hfl:=e_s x b.xs i x.1.xs[i] _ 0 rfl
        have h2:=p23_l2_eq hn x hp hU b hb x.1.xs[i] hf hlen' i n 0 a (by omega) (by omega) (by omega)
        rw [show ((0:Nat):Int) = 0 from rfl] at h2
        rw [hm',if_neg (by decide),if_pos rfl,h2,Option.bind_some,ckS (by omega) (by omega),Option.bind_some,a_Q,ih (i + 1) _ (by omega) (by omega) (by rw [List.length_append];omega),List.append_assoc]
      · rw [Bool.eq_false_iff.2 hm',if_pos (show (!false) = true from rfl),if_neg (by decide),ckS (by omega) (by omega),Option.bind_some,a_Q,ih (i + 1) _ (by omega) (by omega) (by omega),List.nil_append]
    · rw [b_V (by omega),List.drop_eq_nil_of_le (by omega),rpV,List.append_nil]
theorem p60_l1_eq (n:Nat) (l:Sl Fd) (k r:Int) (hl:l.xs.length ≤ 1000):∀ (m i:Nat),l.xs.length - i < m → i ≤ l.xs.length → ∃ q:Unit ⊕ Int,p60_55_l1 n l k r m i = some q ∧ ((∃ j:Nat,q = .inr (j:Int)) ∧ c_M (l.xs.drop i) k r = true ∨ q = .inl () ∧ c_M (l.xs.drop i) k r = false):=by
  intro m
  induction m with
  | zero=>intro i hm;exact absurd hm (by omega)
  | succ m ih =>
    intro i hm hi
    rw [p60_55_l1,a_z]
    by_cases hlt:i < l.xs.length
    · have hany:c_M (l.xs[i] :: l.xs.drop (i + 1)) k r = (mt k r l.xs[i] || c_M (l.xs.drop (i + 1)) k r):=rfl
      have e45:p55 n l.xs[i] k r = some (mt k r l.xs[i]):=by
        unfold p55
        rw [mt_eq];rfl
      rw [b_U (by omega),c_J hlt,Option.bind_some,e45,Option.bind_some,a_R hlt,hany]
      by_cases hm':mt k r l.xs[i] = true
      · rw [hm',if_pos rfl]
        exact ⟨_,rfl,.inl ⟨⟨i,rfl⟩,rfl⟩⟩
      · rw [Bool.eq_false_iff.2 hm',if_neg (by decide),ckS (by omega) (by omega),Option.bind_some,a_Q,Bool.false_or]
        exact ih (i + 1) (by omega) (by omega)
    · rw [b_V (by omega),List.drop_eq_nil_of_le (by omega)]
      exact ⟨_,rfl,.inr ⟨rfl,rfl⟩⟩
theorem p36_eq {n:Nat} (hn:1100 ≤ n) (x:Mpt) (k r:Int) (hl:x.1.xs.length ≤ 1000):p36 n x k r = some (c_M x.1.xs k r):=by
  obtain ⟨q,h1,h2⟩:=p60_l1_eq n x.1 k r hl n 0 (by omega) (by omega)
  rw [show ((0:Nat):Int) = 0 from rfl] at h1
  rw [List.drop_zero] at h2
  unfold p36 p54_55 p60_55
  rw [h1,Option.bind_some]
  rcases h2 with ⟨⟨j,rfl⟩,h2⟩ | ⟨rfl,h2⟩
  · rw [lrKr,Option.bind_some,Option.bind_some,h2,decide_eq_true (by omega)]
  · rw [d_W,Option.bind_some,Option.bind_some,h2]
    rfl
theorem rpV_len (m:Mpt) (hp:Ppr m) (b:List Int) (k r:Int):∀ (l:List Fd) (i:Nat),(∀ f ∈ l,f ∈ m.1.xs) → (rpV m b k r i l).length ≤ 256 * l.length
  | [],i,_=>by simp [rpV]
  | f :: l,i,h=>by
    have h1:=rpV_len m hp b k r l (i + 1) fun g hg=>h g (by simp [hg])
    have h2:=e_s m b i f _ 0 rfl
    have hC:=(hp f (h f (by simp))).1.2
    rw [rpV,List.length_append,List.length_cons]
    have:(if mt k r f = true then fdV m b i f 0 else []).length ≤ 256:=by
      split
      · omega
      · simp
    omega
theorem rep_eq (m:Mpt) (b:Sl Int) {α:Type} (e5:α) (hb:¬ (m.2.2 = true ∧ b.xs = [])):(if m.2.2 = true then (if (a_m b == 0) = true then some (.inr e5) else (idx b.xs 0).bind fun y_25=>some (.inl y_25)) else some (.inl 0)) = (some (.inl (if m.2.2 = true then byt b.xs 0 else 0)):Option (Int ⊕ α)):=by
  by_cases h:m.2.2 = true
  · have hne:b.xs ≠ []:=fun q=>hb ⟨h,q⟩
    have hlen:0 < b.xs.length:=List.length_pos_iff.2 hne
    have h0:(a_m b == 0) = false:=by rw [beq_eq_false_iff_ne,a_z];omega
    have hi:=byt_of (b:=b.xs) (i:=0) hlen
    rw [show ((0:Nat):Int) = 0 from rfl] at hi
    rw [if_pos h,h0,if_neg (by decide),hi,Option.bind_some,if_pos h]
  · rw [if_neg h,if_neg h]
theorem p23_good {n:Nat} (hn:1100 ≤ n) (x:Mpt) (hl:x.1.xs.length ≤ 1000) (hU:Us x) (k:Int) (b:Sl Int) (hb:Byts b.xs) (hp:Ppr x) (h5:¬ (x.2.2 = true ∧ b.xs = [])) (hany:c_M x.1.xs k (if x.2.2 = true then byt b.xs 0 else 0) = true) (hlen:(b.xs.length:Int) = b_R x k (if x.2.2 = true then byt b.xs 0 else 0)) :
    p23 n x k b = some (⟨rpV x b.xs k (if x.2.2 = true then byt b.xs 0 else 0) 0 x.1.xs,some (rpV x b.xs k (if x.2.2 = true then byt b.xs 0 else 0) 0 x.1.xs).length⟩,0):=by
  have h1:=p23_l1_eq hn x hl hp hU k _ b hb hlen n 0 [] (by omega) (by omega) (by simp)
  rw [show ((0:Nat):Int) = 0 from rfl,List.drop_zero,List.nil_append] at h1
  unfold p23
  rw [p30_eq hn x hl,Option.bind_some,decide_eq_true hp,if_neg (by decide),rep_eq x b _ h5,Option.bind_some,d_W,p36_eq hn x k _ hl,Option.bind_some,hany,if_neg (by decide),p32_eq hn x k _ hl,Option.bind_some,a_z,if_neg (by rw [← hlen,bne_self_eq_false];decide),h1,Option.bind_some]
  unfold p39
  rw [e_P,Option.bind_some,Option.bind_some]
abbrev Ev:=Int × Bool × Bool
abbrev KBt:=(List (Bool)) × Mpt × Bool × Int × Int × Int × Int × (List (Int))
abbrev Mdl:=(List (List (List (Bool)))) × (List (Bool)) × Int × Int × Int
def a_S (a:List Bool) (k:Nat):Bool:=a.getD k false
theorem a_2 {a:List Bool} {k:Nat} (h:k < a.length):idx a (k:Int) = some (a_S a k):=by
  rw [c_J h,a_S,List.getD_eq_getElem?_getD,List.getElem?_eq_getElem h];rfl
theorem p35_eq {n:Nat} {a:List Bool} {k:Nat} (h:k < a.length):p35 n a (k:Int) = some (a_S a k):=by
  unfold p35
  rw [a_2 h];rfl
def sfx (p:Nat → Bool) (i:Nat):List Nat:=(List.range' i (256 - i)).filter p
theorem c_r (p:Nat → Bool) {i:Nat} (h:i < 256):sfx p i = if p i = true then i :: sfx p (i + 1) else sfx p (i + 1):=by
  unfold sfx
  rw [show 256 - i = (256 - (i + 1)) + 1 by omega,List.range'_succ,List.filter_cons]
theorem c_f (p:Nat → Bool) {i:Nat} (h:256 ≤ i):sfx p i = []:=by
  unfold sfx
  rw [show 256 - i = 0 by omega];rfl
theorem sfx_mem {p:Nat → Bool} {i k:Nat}:k ∈ sfx p i ↔ (i ≤ k ∧ k < 256) ∧ p k = true:=by
  unfold sfx
  rw [List.mem_filter,List.mem_range'_1]
  constructor <;> rintro ⟨h1,h2⟩ <;> refine ⟨?_,h2⟩ <;> omega
theorem c_D (p:Nat → Bool) (i:Nat):(sfx p i).length ≤ 256:=by
  unfold sfx
  refine Nat.le_trans (List.length_filter_le _ _) ?_
  rw [List.length_range'];omega
theorem e_t (p:Nat → Bool) (i:Nat):(sfx p i).Pairwise (· < ·):=(List.pairwise_lt_range' (s:=i) (n:=256 - i)).filter _
def upP (a b:List Bool) (k:Nat):Bool:=a_S a k && !a_S b k
def evU (l:List Nat):List Ev:=l.map fun (k:Nat)=>((k:Int),false,false)
def evD (l:List Nat):List Ev:=l.map fun (k:Nat)=>((k:Int),true,false)
def b_S (a b:List Bool):List Ev:=evU (sfx (upP a b) 0) ++ evD (sfx (upP b a) 0)
theorem u8_id {i:Nat} (h:i < 256):IntKind.wrap .u8 (i:Int) = (i:Int):=by rw [b_P];omega
theorem p33_l1_eq (n:Nat) (y:KBt) (x:List Bool) (hy:y.1.length = 256) (hx:x.length = 256):∀ (m i:Nat) (a:List Ev),256 - i < m → i ≤ 256 → a.length ≤ i → p33_l1 n y x m i a = some (a ++ evU (sfx (upP y.1 x) i)):=by
  intro m
  induction m with
  | zero=>intro i a hm;exact absurd hm (by omega)
  | succ m ih =>
    intro i a hm hi ha
    rw [p33_l1]
    by_cases hlt:i < 256
    · rw [b_U (by omega),u8_id hlt,p35_eq (by omega),Option.bind_some,c_i (c:=!a_S x i) (fun _=>by rw [p35_eq (by omega)];rfl),Option.bind_some,c_r _ hlt]
      have e:upP y.1 x i = (a_S y.1 i && !a_S x i):=rfl
      rw [e]
      cases hb:(a_S y.1 i && !a_S x i) with
      | true =>
        rw [if_pos rfl,if_pos rfl,b_j (by omega),Option.bind_some,Option.bind_some,ckS (by omega) (by omega),Option.bind_some,a_Q,ih (i + 1) _ (by omega) (by omega) (by rw [List.length_append,List.length_singleton];omega),List.append_assoc]
        rfl
      | false =>
        rw [if_neg (by decide),if_neg (by decide),Option.bind_some,ckS (by omega) (by omega),Option.bind_some,a_Q,ih (i + 1) _ (by omega) (by omega) (by omega)]
    · rw [b_V (by omega),c_f _ (by omega)]
      simp [evU]
theorem p33_l2_eq (n:Nat) (y:KBt) (x:List Bool) (hy:y.1.length = 256) (hx:x.length = 256):∀ (m i:Nat) (a:List Ev),256 - i < m → i ≤ 256 → a.length ≤ 256 + i → p33_l2 n y x m i a = some (a ++ evD (sfx (upP x y.1) i)):=by
  intro m
  induction m with
  | zero=>intro i a hm;exact absurd hm (by omega)
  | succ m ih =>
    intro i a hm hi ha
    rw [p33_l2]
    by_cases hlt:i < 256
    · rw [b_U (by omega),u8_id hlt,p35_eq (by omega),Option.bind_some,c_i (b:=!a_S y.1 i) (c:=a_S x i) (fun _=>by rw [p35_eq (by omega)];rfl),Option.bind_some,c_r _ hlt]
      have e:upP x y.1 i = (!a_S y.1 i && a_S x i):=Bool.and_comm _ _
      rw [e]
      cases hb:(!a_S y.1 i && a_S x i) with
      | true =>
        rw [if_pos rfl,if_pos rfl,b_j (by omega),Option.bind_some,Option.bind_some,ckS (by omega) (by omega),Option.bind_some,a_Q,ih (i + 1) _ (by omega) (by omega) (by rw [List.length_append,List.length_singleton];omega),List.append_assoc]
        rfl
      | false =>
        rw [if_neg (by decide),if_neg (by decide),Option.bind_some,ckS (by omega) (by omega),Option.bind_some,a_Q,ih (i + 1) _ (by omega) (by omega) (by omega)]
    · rw [b_V (by omega),c_f _ (by omega)]
      simp [evD]
theorem e_u (l:List Nat):(evU l).length = l.length:=List.length_map ..
theorem evD_len (l:List Nat):(evD l).length = l.length:=List.length_map ..
theorem p33_eq {n:Nat} (hn:300 ≤ n) (y:KBt) (x:List Bool) (hy:y.1.length = 256) (hx:x.length = 256):p33 n y x = some (⟨b_S y.1 x,some (b_S y.1 x).length⟩,(x,y.2)):=by
  have e1:=p33_l1_eq n y x hy hx n 0 [] (by omega) (by omega) (by simp)
  have e2:=p33_l2_eq n y x hy hx n 0 (evU (sfx (upP y.1 x) 0)) (by omega) (by omega) (by rw [e_u];exact c_D _ _)
  rw [List.nil_append] at e1
  unfold p33
  rw [show ((0:Nat):Int) = 0 from rfl] at e1 e2
  rw [e1,Option.bind_some,e2,Option.bind_some,Option.bind_some,e_P,Option.bind_some]
  rfl
def hz (l:List Nat) (h:Int):Int:=l.foldl (fun h (k:Nat)=>if ((k:Int) == h) = true then 0 else h) h
def e_b (k:Int):Bool:=decide (k < 224) || decide (k > 231)
def gr (l:List Nat) (g:Int):Int:=l.foldl (fun g (k:Nat)=>if e_b k = true then (k:Int) else g) g
def tog (k la:Int):Int :=
  let l1:=if (k == 83) = true then a_w .xor .u8 la 1 else la
  let l2:=if (k == 57) = true then a_w .xor .u8 l1 2 else l1
  if (k == 71) = true then a_w .xor .u8 l2 4 else l2
def lt (l:List Nat) (la:Int):Int:=l.foldl (fun la (k:Nat)=>tog k la) la
theorem b_G (k:Nat) (l:List Nat) (g:Int):gr (k :: l) g = gr l (if e_b k = true then (k:Int) else g):=by unfold gr;rw [List.foldl_cons]
theorem e_v (k:Nat) (l:List Nat) (la:Int):lt (k :: l) la = lt l (tog k la):=by unfold lt;rw [List.foldl_cons]
theorem hz_cons (k:Nat) (l:List Nat) (h:Int):hz (k :: l) h = hz l (if ((k:Int) == h) = true then 0 else h):=by unfold hz;rw [List.foldl_cons]
theorem d_F (k:Nat) (l:List Nat):evD (k :: l) = [((k:Int),true,false)] ++ evD l:=rfl
theorem e_V (k:Nat) (l:List Nat):evU (k :: l) = [((k:Int),false,false)] ++ evU l:=rfl
theorem p21_l1_eq (n:Nat) (x d:List Bool) (hd:d.length = 256) (hx:x.length = 256):∀ (m i:Nat) (a:List Ev) (y:Mdl),y.2.1 = d → 256 - i < m → i ≤ 256 → a.length ≤ i →
    p21_l1 n x m i a y = some (a ++ evU (sfx (upP d x) i),(y.1,d,y.2.2.1,hz (sfx (upP d x) i) y.2.2.2.1,y.2.2.2.2)):=by
  intro m
  induction m with
  | zero=>intro i a y hyd hm;exact absurd hm (by omega)
  | succ m ih =>
    intro i a y hyd hm hi ha
    rw [p21_l1]
    by_cases hlt:i < 256
    · rw [b_U (by omega),hyd,a_2 (by omega),Option.bind_some,c_i (c:=!a_S x i) (fun _=>by rw [a_2 (by omega)];rfl),Option.bind_some,c_r _ hlt]
      have e:upP d x i = (a_S d i && !a_S x i):=rfl
      rw [e,u8_id hlt]
      cases hb:(a_S d i && !a_S x i) with
      | true =>
        have e2:(if ((i:Int) == y.2.2.2.1) = true then (some (y.1,d,y.2.2.1,(0:Int),y.2.2.2.2)) else some y) = some (y.1,d,y.2.2.1,(if ((i:Int) == y.2.2.2.1) = true then 0 else y.2.2.2.1),y.2.2.2.2):=by
          by_cases hq:((i:Int) == y.2.2.2.1) = true
          · rw [if_pos hq,if_pos hq]
          · rw [if_neg hq,if_neg hq,← hyd]
        rw [if_pos rfl,if_pos rfl,b_j (by omega),Option.bind_some,e2,Option.bind_some,Option.bind_some,ckS (by omega) (by omega),Option.bind_some,a_Q,ih (i + 1) _ _ rfl (by omega) (by omega) (by simp only [List.length_append,List.length_singleton];omega),List.append_assoc]
        rfl
      | false =>
        rw [if_neg (by decide),if_neg (by decide),Option.bind_some,ckS (by omega) (by omega),Option.bind_some,a_Q,ih (i + 1) _ _ hyd (by omega) (by omega) (show a.length ≤ i + 1 by omega)]
    · rw [b_V (by omega),c_f _ (by omega),← hyd]
      simp [evU,hz]
theorem p21_l2_eq (n:Nat) (x d:List Bool) (hd:d.length = 256) (hx:x.length = 256):∀ (m i:Nat) (g:Int) (a:List Ev) (y:Mdl),y.2.1 = d → 256 - i < m → i ≤ 256 → a.length ≤ 256 + i →
    p21_l2 n x m i g a y = some (a ++ evD (sfx (upP x d) i),gr (sfx (upP x d) i) g,(y.1,d,lt (sfx (upP x d) i) y.2.2.1,y.2.2.2.1,y.2.2.2.2)):=by
  intro m
  induction m with
  | zero=>intro i g a y hyd hm;exact absurd hm (by omega)
  | succ m ih =>
    intro i g a y hyd hm hi ha
    rw [p21_l2]
    by_cases hlt:i < 256
    · rw [b_U (by omega),a_2 (by omega),Option.bind_some,c_i (c:=!a_S d i) (fun _=>by rw [hyd,a_2 (by omega)];rfl),Option.bind_some,c_r _ hlt]
      have e:upP x d i = (a_S x i && !a_S d i):=rfl
      rw [e,u8_id hlt]
      cases hb:(a_S x i && !a_S d i) with
      | true =>
        rw [if_pos rfl,if_pos rfl,b_j (by omega),Option.bind_some,orO (c:=decide ((i:Int) > 231)) (fun _=>rfl),Option.bind_some]
        have e1:(if (decide ((i:Int) < 224) || decide ((i:Int) > 231)) = true then (some (i:Int)) else some g) = some (if e_b i = true then (i:Int) else g):=by
          unfold e_b
          split <;> rfl
        rw [e1,Option.bind_some]
        have s1:∀ (b:Bool) (z:Int) (q:Mdl),q.2.1 = d → (if b = true then (some (q.1,q.2.1,a_w .xor .u8 q.2.2.1 z,q.2.2.2.1,q.2.2.2.2)) else some q:Option Mdl) = some (q.1,d,(if b = true then a_w .xor .u8 q.2.2.1 z else q.2.2.1),q.2.2.2.1,q.2.2.2.2):=by
          intro b z q hq
          cases b
          · rw [if_neg (by decide),if_neg (by decide),← hq]
          · rw [if_pos rfl,if_pos rfl,hq]
        rw [s1 _ 1 y hyd,Option.bind_some,s1 _ 2 _ rfl,Option.bind_some,s1 _ 4 _ rfl,Option.bind_some,Option.bind_some,ckS (by omega) (by omega),Option.bind_some,a_Q,ih (i + 1) _ _ _ rfl (by omega) (by omega) (by rw [List.length_append,List.length_singleton];omega),List.append_assoc]
        rw [b_G,e_v,d_F]
        simp only [tog]
      | false =>
        rw [if_neg (by decide),if_neg (by decide),Option.bind_some,ckS (by omega) (by omega),Option.bind_some,a_Q,ih (i + 1) _ _ _ hyd (by omega) (by omega) (show a.length ≤ 256 + (i + 1) by omega)]
    · rw [b_V (by omega),c_f _ (by omega),← hyd]
      simp [evD,gr,lt]
def nxt (y:Mdl) (x:List Bool):Mdl :=
  let A:=sfx (upP x y.2.1) 0
  let h:=hz (sfx (upP y.2.1 x) 0) y.2.2.2.1
  (y.1,x,lt A y.2.2.1,if gr A 0 > 0 then gr A 0 else h,if gr A 0 > 0 then 0 else y.2.2.2.2)
theorem p21_eq {n:Nat} (hn:300 ≤ n) (y:Mdl) (x:List Bool) (hd:y.2.1.length = 256) (hx:x.length = 256):p21 n y x = some (⟨b_S y.2.1 x,.none⟩,nxt y x):=by
  have e1:=p21_l1_eq n x y.2.1 hd hx n 0 [] y rfl (by omega) (by omega) (by simp)
  rw [List.nil_append,show ((0:Nat):Int) = 0 from rfl] at e1
  have e2:=p21_l2_eq n x y.2.1 hd hx n 0 0 (evU (sfx (upP y.2.1 x) 0)) (y.1,y.2.1,y.2.2.1,hz (sfx (upP y.2.1 x) 0) y.2.2.2.1,y.2.2.2.2) rfl (by omega) (by omega) (by rw [e_u];exact c_D _ _)
  rw [show ((0:Nat):Int) = 0 from rfl] at e2
  unfold p21
  rw [e1,Option.bind_some,e2,Option.bind_some]
  unfold nxt
  by_cases hg:gr (sfx (upP x y.2.1) 0) 0 > 0
  · rw [b_U hg,Option.bind_some]
    simp only [if_pos hg]
    rfl
  · rw [b_V hg,Option.bind_some]
    simp only [if_neg hg]
    rfl
def stF (s:Bool × Int × Int × Int) (e:Ev):Bool × Int × Int × Int :=
  let h:=if (!e.2.1 && e.1 == s.2.2.1) = true then 0 else s.2.2.1
  let la:=if e.2.1 = true then tog e.1 s.2.1 else s.2.1
  if (e.2.1 && e_b e.1 && (s.1 || decide (e.1 > h))) = true then (false,la,e.1,0) else (s.1,la,h,s.2.2.2)
theorem stF_up (s:Bool × Int × Int × Int) (k:Int):stF s (k,false,false) = (s.1,s.2.1,(if (k == s.2.2.1) = true then 0 else s.2.2.1),s.2.2.2):=by
  unfold stF
  simp
theorem foldU (l:List Nat):∀ (s:Bool × Int × Int × Int),(evU l).foldl stF s = (s.1,s.2.1,hz l s.2.2.1,s.2.2.2):=by
  induction l with
  | nil=>intro s;rfl
  | cons k l ih =>
    intro s
    rw [e_V,List.singleton_append,List.foldl_cons,stF_up,ih,hz_cons]
def noN (l:List Nat):Bool:=l.all fun (k:Nat)=>!e_b k
theorem d_G (k:Nat) (l:List Nat):noN (k :: l) = (!e_b k && noN l):=rfl
theorem foldD (l:List Nat):∀ (s:Bool × Int × Int × Int),l.Pairwise (· < ·) → (s.1 = true ∨ ∀ k ∈ l,s.2.2.1 < (k:Int)) → (evD l).foldl stF s = (s.1 && noN l,lt l s.2.1,gr l s.2.2.1,if noN l = true then s.2.2.2 else 0):=by
  induction l with
  | nil=>intro s _ _;simp [evD,noN,lt,gr]
  | cons k l ih =>
    intro s hp hs
    have hp':=List.pairwise_cons.1 hp
    rw [d_F,List.singleton_append,List.foldl_cons,d_G,e_v,b_G]
    have e:stF s ((k:Int),true,false) = if (e_b k && (s.1 || decide ((k:Int) > s.2.2.1))) = true then (false,tog k s.2.1,(k:Int),0) else (s.1,tog k s.2.1,s.2.2.1,s.2.2.2):=by
      unfold stF;simp
    rw [e]
    cases hn:e_b k with
    | false =>
      rw [Bool.false_and,if_neg (by decide),ih (s.1,tog (k:Int) s.2.1,s.2.2.1,s.2.2.2) hp'.2 (hs.imp id fun h q hq=>h q (List.mem_cons_of_mem _ hq))]
      simp
    | true =>
      have h1:(true && (s.1 || decide ((k:Int) > s.2.2.1))) = true:=by
        rcases hs with h | h
        · rw [h];rfl
        · rw [decide_eq_true (h k (List.mem_cons_self ..)),Bool.or_true];rfl
      rw [if_pos h1,ih (false,tog (k:Int) s.2.1,(k:Int),0) hp'.2 (.inr fun q hq=>by have:=hp'.1 q hq;show ((k:Int)) < q;omega)]
      simp
theorem gr_no (l:List Nat) (h:noN l = true):∀ g,gr l g = g:=by
  induction l with
  | nil=>intro g;rfl
  | cons k l ih =>
    intro g
    rw [d_G,Bool.and_eq_true] at h
    rw [b_G,if_neg (by have:=h.1;simp at this;simp [this]),ih h.2]
theorem gr_yes (l:List Nat) (h:noN l = false) (hp:∀ k ∈ l,0 < k):(∀ g g',gr l g = gr l g') ∧ ∀ g,0 < gr l g:=by
  induction l with
  | nil=>cases h
  | cons k l ih =>
    have key:(∀ g g',gr (k :: l) g = gr (k :: l) g') ∧ ∀ g,0 < gr (k :: l) g:=by
      cases hl:noN l with
      | false =>
        obtain ⟨h1,h2⟩:=ih hl fun q hq=>hp q (List.mem_cons_of_mem _ hq)
        exact ⟨fun g g'=>by rw [b_G,b_G];exact h1 _ _,fun g=>by rw [b_G];exact h2 _⟩
      | true =>
        have hk:e_b k = true:=by
          rw [d_G,hl,Bool.and_true] at h
          simpa using h
        have h0:0 < k:=hp k (List.mem_cons_self ..)
        refine ⟨fun g g'=>by rw [b_G,b_G,if_pos hk,if_pos hk],fun g=>?_⟩
        rw [b_G,if_pos hk,gr_no l hl];omega
    exact key
theorem foldE (a b:List Bool) (hb:a_S b 0 = false) (la h ti:Int):∃ f,(b_S a b).foldl stF (true,la,h,ti) =
    (f,lt (sfx (upP b a) 0) la,(if gr (sfx (upP b a) 0) 0 > 0 then gr (sfx (upP b a) 0) 0 else hz (sfx (upP a b) 0) h),(if gr (sfx (upP b a) 0) 0 > 0 then 0 else ti)):=by
  unfold b_S
  rw [List.foldl_append,foldU,foldD _ _ (e_t _ _) (.inl rfl)]
  refine ⟨_,Prod.ext rfl (Prod.ext rfl ?_)⟩
  have hpos:∀ k ∈ sfx (upP b a) 0,0 < k:=fun k hk=>by
    rcases Nat.eq_zero_or_pos k with e | e
    · subst e
      have:=(sfx_mem.1 hk).2
      unfold upP at this
      rw [hb] at this
      cases this
    · exact e
  cases hn:noN (sfx (upP b a) 0) with
  | true =>
    have e:¬ (gr (sfx (upP b a) 0) 0 > 0):=by rw [gr_no _ hn];decide
    rw [if_neg e,if_neg e,gr_no _ hn];rfl
  | false =>
    obtain ⟨h1,h2⟩:=gr_yes _ hn hpos
    rw [if_pos (h2 0),if_pos (h2 0),h1 _ 0];rfl
theorem p12_l5_eq {n:Nat} (e:Ev) (y:KBt) (hl:y.2.2.2.2.2.2.2 = [83,57,71]) (m:Nat) (hm:4 ≤ m):p12_l5 n e y m 0 y = some (y.1,y.2.1,y.2.2.1,(if e.2.1 = true then tog e.1 y.2.2.2.1 else y.2.2.2.1),y.2.2.2.2):=by
  obtain ⟨m,rfl⟩:∃ q,m = q + 4:=⟨m - 4,by omega⟩
  obtain ⟨y1,y2,y3,y4,y5,y6,y7,y8⟩:=y
  obtain rfl:y8 = [83,57,71]:=hl
  obtain ⟨k,b,b'⟩:=e
  have step:∀ (q:Nat) (i c z:Int) (l0:Int),decide (i < 3) = true → idx ([83,57,71]:List Int) i = some c → e_2 .u8 1 i = some z → ckI .i64 (i + 1) = some (i + 1) →
      p12_l5 n (k,b,b') (y1,y2,y3,y4,y5,y6,y7,[83,57,71]) (q + 1) i (y1,y2,y3,l0,y5,y6,y7,[83,57,71]) = p12_l5 n (k,b,b') (y1,y2,y3,y4,y5,y6,y7,[83,57,71]) q (i + 1) (y1,y2,y3,(if (b && k == c) = true then a_w .xor .u8 l0 z else l0),y5,y6,y7,[83,57,71]):=by
    intro q i c z l0 hi hc hz hk
    rw [p12_l5,if_pos hi,hc,Option.bind_some,c_i (b:=b) (c:=k == c) (fun _=>rfl),Option.bind_some]
    cases hb:(b && k == c) with
    | true=>rw [if_pos rfl,if_pos rfl,hz,Option.bind_some,Option.bind_some,hk,Option.bind_some]
    | false=>rw [if_neg (by decide),if_neg (by decide),Option.bind_some,hk,Option.bind_some]
  rw [step (m + 3) 0 83 1 y4 (by decide) rfl (by decide) (by decide),step (m + 2) (0 + 1) 57 2 _ (by decide) rfl (by decide) (by decide),step (m + 1) (0 + 1 + 1) 71 4 _ (by decide) rfl (by decide) (by decide),p12_l5,if_neg (by decide)]
  cases b with
  | true=>simp only [Bool.true_and,tog,if_true]
  | false=>simp only [Bool.false_and,Bool.false_eq_true,if_false]
theorem p12_l4_eq (n:Nat) (hn:10 ≤ n) (t:(Sl Ev) × KBt):∀ (m i:Nat) (f:Bool) (y:KBt),y.2.2.2.2.2.2.2 = [83,57,71] → t.1.xs.length ≤ 1000 → t.1.xs.length - i < m → i ≤ t.1.xs.length →
    p12_l4 n t m i f y = some (let r:=(t.1.xs.drop i).foldl stF (f,y.2.2.2.1,y.2.2.2.2.2.1,y.2.2.2.2.2.2.1);(y.1,y.2.1,y.2.2.1,r.2.1,y.2.2.2.2.1,r.2.2.1,r.2.2.2,y.2.2.2.2.2.2.2)):=by
  intro m
  induction m with
  | zero=>intro i f y hl hL hm;exact absurd hm (by omega)
  | succ m ih =>
    intro i f y hl hL hm hi
    rw [p12_l4]
    by_cases hlt:i < t.1.xs.length
    · rw [b_U (by rw [a_z];omega),c_J hlt,Option.bind_some,a_R hlt,List.foldl_cons]
      generalize t.1.xs[i] = e
      rw [c_i (b:=!e.2.1) (c:=e.1 == y.2.2.2.2.2.1) (fun _=>rfl),Option.bind_some]
      have e1:(if (!e.2.1 && e.1 == y.2.2.2.2.2.1) = true then (some (y.1,y.2.1,y.2.2.1,y.2.2.2.1,y.2.2.2.2.1,(0:Int),y.2.2.2.2.2.2.1,y.2.2.2.2.2.2.2)) else some (y.1,y.2.1,y.2.2.1,y.2.2.2.1,y.2.2.2.2.1,y.2.2.2.2.2.1,y.2.2.2.2.2.2.1,y.2.2.2.2.2.2.2):Option KBt) =
          some (y.1,y.2.1,y.2.2.1,y.2.2.2.1,y.2.2.2.2.1,(if (!e.2.1 && e.1 == y.2.2.2.2.2.1) = true then 0 else y.2.2.2.2.2.1),y.2.2.2.2.2.2.1,y.2.2.2.2.2.2.2):=by split <;> rfl
      rw [e1,Option.bind_some,p12_l5_eq e (y.1,y.2.1,y.2.2.1,y.2.2.2.1,y.2.2.2.2.1,(if (!e.2.1 && e.1 == y.2.2.2.2.2.1) = true then 0 else y.2.2.2.2.2.1),y.2.2.2.2.2.2.1,y.2.2.2.2.2.2.2) hl n (by omega),Option.bind_some]
      have e2:(if e.2.1 = true then (if decide (e.1 < 224) = false then some (decide (e.1 > 231)) else some true).bind fun q=>some q else some false) = some (e.2.1 && e_b e.1):=by
        rw [c_i (b:=e.2.1) (c:=e_b e.1)]
        intro _
        rw [orO (c:=decide (e.1 > 231)) (fun _=>rfl)];rfl
      rw [e2,Option.bind_some]
      generalize hh:(if (!e.2.1 && e.1 == y.2.2.2.2.2.1) = true then 0 else y.2.2.2.2.2.1) = h1
      have e3:(if (e.2.1 && e_b e.1) = true then (if f = false then some (decide (e.1 > h1)) else some true).bind fun q=>some q else some false) = some (e.2.1 && e_b e.1 && (f || decide (e.1 > h1))):=by
        rw [c_i (c:=f || decide (e.1 > h1))]
        intro _
        rw [orO (c:=decide (e.1 > h1)) (fun _=>rfl)];rfl
      have e4:stF (f,y.2.2.2.1,y.2.2.2.2.2.1,y.2.2.2.2.2.2.1) e = if (e.2.1 && e_b e.1 && (f || decide (e.1 > h1))) = true then (false,(if e.2.1 = true then tog e.1 y.2.2.2.1 else y.2.2.2.1),e.1,0) else (f,(if e.2.1 = true then tog e.1 y.2.2.2.1 else y.2.2.2.1),h1,y.2.2.2.2.2.2.1):=by
        unfold stF
        simp only [hh]
      refine (congrArg (fun q=>Option.bind q _) e3).trans ?_
      rw [Option.bind_some,e4]
      cases hc:(e.2.1 && e_b e.1 && (f || decide (e.1 > h1))) with
      | true =>
        rw [if_pos rfl,if_pos rfl,Option.bind_some,ckS (by omega) (by omega),Option.bind_some,a_Q]
        exact ih (i + 1) false (y.1,y.2.1,y.2.2.1,(if e.2.1 = true then tog e.1 y.2.2.2.1 else y.2.2.2.1),y.2.2.2.2.1,e.1,0,y.2.2.2.2.2.2.2) hl hL (by omega) (by omega)
      | false =>
        rw [if_neg (show ¬ (false = true) by decide),if_neg (show ¬ (false = true) by decide),Option.bind_some,ckS (by omega) (by omega),Option.bind_some,a_Q]
        exact ih (i + 1) f (y.1,y.2.1,y.2.2.1,(if e.2.1 = true then tog e.1 y.2.2.2.1 else y.2.2.2.1),y.2.2.2.2.1,h1,y.2.2.2.2.2.2.1,y.2.2.2.2.2.2.2) hl hL (by omega) (by omega)
    · rw [b_V (by rw [a_z];omega),List.drop_eq_nil_of_le (by omega)]
      rfl
theorem e_w {y:Int} (h0:0 ≤ y) (h1:y ≤ 4294967295):a_w .and .u32 y 255 = y % 256:=by
  obtain ⟨a,rfl⟩:=Int.eq_ofNat_of_zero_le h0
  unfold a_w
  simp only
  have e:(BitVec.ofInt 32 (a:Int) &&& BitVec.ofInt 32 255).toNat = a % 256:=by
    rw [BitVec.toNat_and]
    have e1:(BitVec.ofInt 32 (a:Int)).toNat = a:=by
      rw [BitVec.toNat_ofInt];omega
    have e2:(BitVec.ofInt 32 255).toNat = 255:=by decide
    rw [e1,e2]
    exact Nat.and_two_pow_sub_one_eq_mod a 8
  rw [show IntKind.bits .u32 = 32 from rfl,e,b_5]
  omega
abbrev Vl:=Int × Int × Int × Int
def isK (u:Int):Bool:=decide (u ≥ 458756) && decide (u ≤ 459007)
theorem p31_eq (n:Nat) (u:Int):p31 n u = some (isK u):=by
  unfold p31
  rw [c_i (c:=decide (u ≤ 459007)) (fun _=>rfl)];rfl
def stV (fs:List Fd) (s:Bool × List (List Bool)) (v:Vl):Bool × List (List Bool) :=
  let ar:=(fs[v.1.toNat]?.map fAr).getD false
  (if ar = true then s.1 || v.2.2.1 == 458753 else s.1,
   if (isK v.2.2.1 && v.2.2.2 != 0) = true then s.2.set (if ar = true then 0 else 1) ((s.2.getD (if ar = true then 0 else 1) []).set (v.2.2.1 - 458752).toNat true) else s.2)
def okS (x:List Bool):Prop:=x.length = 256 ∧ a_S x 0 = false
def okN (a:List (List Bool)):Prop:=∃ x y,a = [x,y] ∧ okS x ∧ okS y
theorem okS.set {x:List Bool} (h:okS x) {k:Nat} (hk:0 < k):okS (x.set k true):=by
  refine ⟨by rw [List.length_set];exact h.1,?_⟩
  have:=h.2
  unfold a_S at this ⊢
  rw [List.getD_eq_getElem?_getD,List.getElem?_set_ne (by omega),← List.getD_eq_getElem?_getD]
  exact this
theorem e_x {u:Int} (h:isK u = true):458756 ≤ u ∧ u ≤ 459007:=by
  unfold isK at h
  simpa using h
theorem stV_ok (fs:List Fd) (s:Bool × List (List Bool)) (v:Vl) (h:okN s.2):okN (stV fs s v).2:=by
  obtain ⟨x,y,e,hx,hy⟩:=h
  unfold stV
  simp only
  cases hc:(isK v.2.2.1 && v.2.2.2 != 0) with
  | false=>rw [if_neg (by decide)];exact ⟨x,y,e,hx,hy⟩
  | true =>
    rw [if_pos rfl,e]
    have hk:=e_x (Bool.and_eq_true _ _ ▸ hc).1
    have h0:0 < (v.2.2.1 - 458752).toNat:=by omega
    cases (fs[v.1.toNat]?.map fAr).getD false with
    | true=>exact ⟨_,y,rfl,hx.set h0,hy⟩
    | false=>exact ⟨x,_,rfl,hx,hy.set h0⟩
theorem d_H (fs:List Fd) (l:List Vl):∀ (s:Bool × List (List Bool)),okN s.2 → okN (l.foldl (stV fs) s).2:=by
  induction l with
  | nil=>intro s h;exact h
  | cons v l ih=>intro s h;rw [List.foldl_cons];exact ih _ (stV_ok fs s v h)
theorem idx01 {x y:List Bool} (b:Bool):idx [x,y] (if b = true then (0:Int) else 1) = some (([x,y]:List (List Bool)).getD (if b = true then 0 else 1) []):=by cases b <;> rfl
theorem p12_l1_eq (n:Nat) (y:KBt) (t:(Sl Vl) × Int) (hL:t.1.xs.length ≤ 1000000) (hv:∀ v ∈ t.1.xs,0 ≤ v.1 ∧ v.1 < y.2.1.1.xs.length):∀ (m i:Nat) (s:Bool × List (List Bool)),okN s.2 → t.1.xs.length - i < m → i ≤ t.1.xs.length →
    p12_l1 n y t m i s.1 s.2 = some ((t.1.xs.drop i).foldl (stV y.2.1.1.xs) s):=by
  intro m
  induction m with
  | zero=>intro i s hs hm;exact absurd hm (by omega)
  | succ m ih =>
    intro i s hs hm hi
    rw [p12_l1]
    by_cases hlt:i < t.1.xs.length
    · have hmem:t.1.xs[i] ∈ t.1.xs:=List.getElem_mem hlt
      rw [b_U (by rw [a_z];omega),c_J hlt,Option.bind_some,a_R hlt,List.foldl_cons]
      generalize t.1.xs[i] = v at hmem
      obtain ⟨h0,h1⟩:=hv v hmem
      have hfl:v.1.toNat < y.2.1.1.xs.length:=by omega
      rw [idx_of h0 h1,Option.bind_some]
      have har:(y.2.1.1.xs[v.1.toNat]?.map fAr).getD false = fAr y.2.1.1.xs[v.1.toNat]:=by rw [List.getElem?_eq_getElem hfl];rfl
      have e1:(if (y.2.1.1.xs[v.1.toNat]).2.2.2.2.2.2.2.2.2.2.1 = true then ((if s.1 = false then some (v.2.2.1 == 458753) else some true).bind fun q_159=>some ((0:Int),q_159)) else some (1,s.1)) =
          some ((if fAr y.2.1.1.xs[v.1.toNat] = true then (0:Int) else 1),(if fAr y.2.1.1.xs[v.1.toNat] = true then s.1 || v.2.2.1 == 458753 else s.1)):=by
        show (if fAr y.2.1.1.xs[v.1.toNat] = true then _ else _) = _
        cases fAr y.2.1.1.xs[v.1.toNat] with
        | true=>rw [if_pos rfl,orO (c:=v.2.2.1 == 458753) (fun _=>rfl)];rfl
        | false=>rfl
      rw [e1,Option.bind_some,p31_eq,Option.bind_some,c_i (b:=isK v.2.2.1) (c:=v.2.2.2 != 0) (fun _=>rfl),Option.bind_some]
      have e2:(if (isK v.2.2.1 && v.2.2.2 != 0) = true then ((idx s.2 (if fAr y.2.1.1.xs[v.1.toNat] = true then (0:Int) else 1)).bind fun y_202=>(idx y_202 (a_w .and .u32 v.2.2.1 255)).bind fun y_223=>some (s.2.set (if fAr y.2.1.1.xs[v.1.toNat] = true then (0:Int) else 1).toNat (y_202.set (a_w .and .u32 v.2.2.1 255).toNat true))) else some s.2) = some (stV y.2.1.1.xs s v).2:=by
        unfold stV
        simp only [har]
        cases hc:(isK v.2.2.1 && v.2.2.2 != 0) with
        | false=>rfl
        | true =>
          have hk:=e_x (Bool.and_eq_true _ _ ▸ hc).1
          rw [if_pos rfl,if_pos rfl,e_w (by omega) (by omega)]
          obtain ⟨x,z,e,hx,hz⟩:=hs
          have em:v.2.2.1 % 256 = ((v.2.2.1 - 458752).toNat:Int):=by omega
          rw [e,em,idx01,Option.bind_some]
          have hl:(v.2.2.1 - 458752).toNat < (([x,z]:List (List Bool)).getD (if fAr y.2.1.1.xs[v.1.toNat] = true then 0 else 1) []).length:=by
            cases fAr y.2.1.1.xs[v.1.toNat]
            · show _ < z.length;rw [hz.1];omega
            · show _ < x.length;rw [hx.1];omega
          rw [a_2 hl,Option.bind_some]
          cases fAr y.2.1.1.xs[v.1.toNat] <;> rfl
      rw [e2,Option.bind_some,ckS (by omega) (by omega),Option.bind_some,a_Q]
      have e3:(if fAr y.2.1.1.xs[v.1.toNat] = true then s.1 || v.2.2.1 == 458753 else s.1) = (stV y.2.1.1.xs s v).1:=by
        unfold stV
        simp only [har]
      rw [e3]
      exact ih (i + 1) (stV y.2.1.1.xs s v) (stV_ok _ _ _ hs) (by omega) (by omega)
    · rw [b_V (by rw [a_z];omega),List.drop_eq_nil_of_le (by omega)]
      rfl
theorem p24_l1_eq (n:Nat) (x:Mpt) (t:Sl Vl) (hL:t.xs.length ≤ 1000000) (hv:∀ v ∈ t.xs,0 ≤ v.1 ∧ v.1 < x.1.xs.length):∀ (m i:Nat) (s:Bool × List (List Bool)),okN s.2 → t.xs.length - i < m → i ≤ t.xs.length →
    p24_l1 n x t m i s.1 s.2 = some ((t.xs.drop i).foldl (stV x.1.xs) s):=by
  intro m
  induction m with
  | zero=>intro i s hs hm;exact absurd hm (by omega)
  | succ m ih =>
    intro i s hs hm hi
    rw [p24_l1]
    by_cases hlt:i < t.xs.length
    · have hmem:t.xs[i] ∈ t.xs:=List.getElem_mem hlt
      rw [b_U (by rw [a_z];omega),c_J hlt,a_R hlt,List.foldl_cons]
      generalize t.xs[i] = v at hmem
      obtain ⟨h0,h1⟩:=hv v hmem
      have hfl:v.1.toNat < x.1.xs.length:=by omega
      simp only [Option.bind_some]
      rw [idx_of h0 h1,Option.bind_some]
      have har:(x.1.xs[v.1.toNat]?.map fAr).getD false = fAr x.1.xs[v.1.toNat]:=by rw [List.getElem?_eq_getElem hfl];rfl
      have e1:(if (x.1.xs[v.1.toNat]).2.2.2.2.2.2.2.2.2.2.1 = true then ((if (v.2.2.1 == 458753) = true then (some true) else some s.1).bind fun j_54=>some ((0:Int),j_54)) else some (1,s.1)) =
          some ((if fAr x.1.xs[v.1.toNat] = true then (0:Int) else 1),(if fAr x.1.xs[v.1.toNat] = true then s.1 || v.2.2.1 == 458753 else s.1)):=by
        show (if fAr x.1.xs[v.1.toNat] = true then _ else _) = _
        cases fAr x.1.xs[v.1.toNat] with
        | true =>
          rw [if_pos rfl]
          cases (v.2.2.1 == 458753) <;> simp
        | false=>rfl
      rw [e1,Option.bind_some,c_i (b:=decide (v.2.2.1 ≥ 458756)) (c:=decide (v.2.2.1 ≤ 459007)) (fun _=>rfl),Option.bind_some]
      rw [show (decide (v.2.2.1 ≥ 458756) && decide (v.2.2.1 ≤ 459007)) = isK v.2.2.1 from rfl,c_i (b:=isK v.2.2.1) (c:=v.2.2.2 != 0) (fun _=>rfl),Option.bind_some]
      have e2:(if (isK v.2.2.1 && v.2.2.2 != 0) = true then ((idx s.2 (if fAr x.1.xs[v.1.toNat] = true then (0:Int) else 1)).bind fun y_141=>(idx y_141 (IntKind.wrap .u32 (v.2.2.1 - 458752))).bind fun y_189=>some (s.2.set (if fAr x.1.xs[v.1.toNat] = true then (0:Int) else 1).toNat (y_141.set (IntKind.wrap .u32 (v.2.2.1 - 458752)).toNat true))) else some s.2) = some (stV x.1.xs s v).2:=by
        unfold stV
        simp only [har]
        cases hc:(isK v.2.2.1 && v.2.2.2 != 0) with
        | false=>rfl
        | true =>
          have hk:=e_x (Bool.and_eq_true _ _ ▸ hc).1
          obtain ⟨a,z,e,hx,hz⟩:=hs
          have em:IntKind.wrap .u32 (v.2.2.1 - 458752) = ((v.2.2.1 - 458752).toNat:Int):=by rw [b_5];omega
          rw [if_pos rfl,if_pos rfl,e,em,idx01,Option.bind_some]
          have hl:(v.2.2.1 - 458752).toNat < (([a,z]:List (List Bool)).getD (if fAr x.1.xs[v.1.toNat] = true then 0 else 1) []).length:=by
            cases fAr x.1.xs[v.1.toNat]
            · show _ < z.length;rw [hz.1];omega
            · show _ < a.length;rw [hx.1];omega
          rw [a_2 hl,Option.bind_some]
          cases fAr x.1.xs[v.1.toNat] <;> rfl
      rw [e2,Option.bind_some,ckS (by omega) (by omega),Option.bind_some,a_Q]
      have e3:(if fAr x.1.xs[v.1.toNat] = true then s.1 || v.2.2.1 == 458753 else s.1) = (stV x.1.xs s v).1:=by
        unfold stV
        simp only [har]
      rw [e3]
      exact ih (i + 1) (stV x.1.xs s v) (stV_ok _ _ _ hs) (by omega) (by omega)
    · rw [b_V (by rw [a_z];omega),List.drop_eq_nil_of_le (by omega)]
      rfl
theorem c_s {a b:List Bool} (ha:a.length = 256) (hb:b.length = 256) (h:∀ k,k < 256 → a_S a k = a_S b k):a = b:=by
  refine List.ext_getElem (by omega) fun k h1 h2=>?_
  have:=h k (by omega)
  unfold a_S at this
  rw [List.getD_eq_getElem?_getD,List.getD_eq_getElem?_getD,List.getElem?_eq_getElem h1,List.getElem?_eq_getElem h2] at this
  exact this
theorem c_t {a:List Bool} {i k:Nat} {b:Bool} (hi:i < a.length):a_S (a.set i b) k = if k = i then b else a_S a k:=by
  unfold a_S
  rw [List.getD_eq_getElem?_getD,List.getElem?_set]
  by_cases h:i = k
  · subst h;simp [hi]
  · rw [if_neg h,if_neg (fun e=>h e.symm),← List.getD_eq_getElem?_getD]
abbrev Sh:=List (List Bool)
def hasK (k:Nat) (X:Sh):Bool:=a_S (X.getD 0 []) k || a_S (X.getD 1 []) k
def orX (s:List Bool) (X:Sh):List Bool:=(List.range 256).map fun k=>a_S s k || hasK k X
theorem c_E (s:List Bool) (X:Sh):(orX s X).length = 256:=by unfold orX;rw [List.length_map,List.length_range]
theorem c_g (s:List Bool) (X:Sh) {k:Nat} (h:k < 256):a_S (orX s X) k = (a_S s k || hasK k X):=by
  unfold orX
  conv=>lhs;unfold a_S
  rw [List.getD_eq_getElem?_getD,List.getElem?_map,List.getElem?_range h];rfl
theorem orX_comm (s:List Bool) (X Y:Sh):orX (orX s X) Y = orX (orX s Y) X:=c_s (c_E _ _) (c_E _ _) fun k h=>by
  rw [c_g _ _ h,c_g _ _ h,c_g _ _ h,c_g _ _ h,Bool.or_assoc,Bool.or_assoc,Bool.or_comm (hasK k X)]
theorem p12_l3_eq (n:Nat) (x y:List Bool) (hx:x.length = 256) (hy:y.length = 256):∀ (m i:Nat) (c:List Bool),c.length = 256 → 256 - i < m → i ≤ 256 →
    ∃ c',p12_l3 n [x,y] m i c = some c' ∧ c'.length = 256 ∧ ∀ k,k < 256 → a_S c' k = (a_S c k || (decide (i ≤ k) && hasK k [x,y])):=by
  intro m
  induction m with
  | zero=>intro i c hc hm;exact absurd hm (by omega)
  | succ m ih =>
    intro i c hc hm hi
    rw [p12_l3]
    by_cases hlt:i < 256
    · rw [b_U (by omega),a_2 (by omega),Option.bind_some,orO (b:=a_S c i) (c:=a_S x i) (fun _=>by rw [show idx ([x,y]:Sh) 0 = some x from rfl,Option.bind_some,a_2 (by omega)];rfl),Option.bind_some,
        orO (c:=a_S y i) (fun _=>by rw [show idx ([x,y]:Sh) 1 = some y from rfl,Option.bind_some,a_2 (by omega)];rfl),Option.bind_some,Option.bind_some,ckS (by omega) (by omega),Option.bind_some,a_Q]
      obtain ⟨c',h1,h2,h3⟩:=ih (i + 1) (c.set i (a_S c i || a_S x i || a_S y i)) (by rw [List.length_set];exact hc) (by omega) (by omega)
      refine ⟨c',h1,h2,fun k hk=>?_⟩
      rw [h3 k hk,c_t (by omega)]
      by_cases hki:k = i
      · subst hki
        rw [if_pos rfl,decide_eq_false (by omega),decide_eq_true (Nat.le_refl _)]
        simp [hasK,Bool.or_assoc]
      · rw [if_neg hki]
        congr 2
        exact decide_eq_decide.2 (by omega)
    · rw [b_V (by omega)]
      exact ⟨c,rfl,hc,fun k hk=>by rw [decide_eq_false (by omega)];simp⟩
theorem p12_l2_eq {n:Nat} (hn:300 ≤ n) (z:Int) (X:Sh) (hX:okN X) (s:List Bool) (hs:s.length = 256):p12_l2_b n z X s = some (orX s X):=by
  obtain ⟨x,y,rfl,hx,hy⟩:=hX
  obtain ⟨c',h1,h2,h3⟩:=p12_l3_eq n x y hx.1 hy.1 n 0 s hs (by omega) (by omega)
  rw [show ((0:Nat):Int) = 0 from rfl] at h1
  unfold p12_l2_b
  rw [h1,Option.bind_some]
  refine congrArg some (c_s h2 (c_E _ _) fun k hk=>?_)
  rw [h3 k hk,c_g _ _ hk]
  simp
theorem p24_l3_eq (n:Nat) (Y:Mdl) (z:Int) (j:Sh) (r:Int) (x y:List Bool) (hr:idx (Y.1.set z.toNat j) r = some [x,y]) (hx:x.length = 256) (hy:y.length = 256):∀ (m i:Nat) (c:List Bool),c.length = 256 → 256 - i < m → i ≤ 256 →
    ∃ c',p24_l3 n Y z j r m i c = some c' ∧ c'.length = 256 ∧ ∀ k,k < 256 → a_S c' k = (a_S c k || (decide (i ≤ k) && hasK k [x,y])):=by
  intro m
  induction m with
  | zero=>intro i c hc hm;exact absurd hm (by omega)
  | succ m ih =>
    intro i c hc hm hi
    rw [p24_l3]
    by_cases hlt:i < 256
    · rw [b_U (by omega),a_2 (by omega),Option.bind_some,orO (b:=a_S c i) (c:=a_S x i) (fun _=>by rw [hr,Option.bind_some,show idx ([x,y]:Sh) 0 = some x from rfl,Option.bind_some,a_2 (by omega)];rfl),Option.bind_some,
        orO (c:=a_S y i) (fun _=>by rw [hr,Option.bind_some,show idx ([x,y]:Sh) 1 = some y from rfl,Option.bind_some,a_2 (by omega)];rfl),Option.bind_some,Option.bind_some,ckS (by omega) (by omega),Option.bind_some,a_Q]
      obtain ⟨c',h1,h2,h3⟩:=ih (i + 1) (c.set i (a_S c i || a_S x i || a_S y i)) (by rw [List.length_set];exact hc) (by omega) (by omega)
      refine ⟨c',h1,h2,fun k hk=>?_⟩
      rw [h3 k hk,c_t (by omega)]
      by_cases hki:k = i
      · subst hki
        rw [if_pos rfl,decide_eq_false (by omega),decide_eq_true (Nat.le_refl _)]
        simp [hasK,Bool.or_assoc]
      · rw [if_neg hki]
        congr 2
        exact decide_eq_decide.2 (by omega)
    · rw [b_V (by omega)]
      exact ⟨c,rfl,hc,fun k hk=>by rw [decide_eq_false (by omega)];simp⟩
theorem p24_l2_eq {n:Nat} (hn:300 ≤ n) (Y:Mdl) (z:Int) (j:Sh) (hl:(Y.1.set z.toNat j).length = 3) (hk:∀ X ∈ Y.1.set z.toNat j,okN X):∀ (m i:Nat) (c:List Bool),c.length = 256 → 3 - i < m → i ≤ 3 →
    p24_l2 n Y z j m i c = some (((Y.1.set z.toNat j).drop i).foldl orX c):=by
  intro m
  induction m with
  | zero=>intro i c hc hm;exact absurd hm (by omega)
  | succ m ih =>
    intro i c hc hm hi
    rw [p24_l2]
    by_cases hlt:i < 3
    · have hli:i < (Y.1.set z.toNat j).length:=by omega
      obtain ⟨x,y,e,hx,hy⟩:=hk _ (List.getElem_mem hli)
      obtain ⟨c',h1,h2,h3⟩:=p24_l3_eq n Y z j i x y (by rw [c_J hli,e]) hx.1 hy.1 n 0 c hc (by omega) (by omega)
      rw [show ((0:Nat):Int) = 0 from rfl] at h1
      rw [b_U (by omega),h1,Option.bind_some,ckS (by omega) (by omega),Option.bind_some,a_Q,ih (i + 1) c' h2 (by omega) (by omega),a_R hli,List.foldl_cons,e]
      congr 2
      refine c_s h2 (c_E _ _) fun k hk=>?_
      rw [h3 k hk,c_g _ _ hk]
      simp
    · rw [b_V (by omega),List.drop_eq_nil_of_le (by omega)];rfl
theorem sameA_all {σ:Type} [DecidableEq σ] {l:List (Option σ)} {z:σ} (h:∀ y ∈ l,y = some z) (hn:l ≠ []):sameA l = some z:=by
  cases l with
  | nil=>exact absurd rfl hn
  | cons x l =>
    have hx:=h x (List.mem_cons_self ..)
    show (if ∀ y ∈ l,y = x then x else .none) = some z
    rw [if_pos fun y hy=>by rw [hx];exact h y (List.mem_cons_of_mem _ hy)]
    exact hx
theorem d_v {α:Type} {o:α}:∀ {L:List α} {i:Nat},L[i]? = some o → (o :: L.eraseIdx i).Perm L
  | [],_,h=>by simp at h
  | y :: L,0,h=>by
    obtain rfl:y = o:=by simpa using h
    exact List.Perm.refl _
  | y :: L,i + 1,h=>(List.Perm.swap y o (L.eraseIdx i)).trans ((d_v (L:=L) (i:=i) (by simpa using h)).cons y)
theorem d_i {σ α:Type} [DecidableEq σ] {f:α → σ → Option σ} {g:σ → α → σ} {Pa:α → Prop} {Ps:σ → Prop} (hf:∀ x s,Pa x → Ps s → f x s = some (g s x)) (hg:∀ x s,Pa x → Ps s → Ps (g s x)) (hc:∀ x y s,g (g s x) y = g (g s y) x) :
    ∀ (m:Nat) (xs:List α) (s:σ),xs.length = m → (∀ x ∈ xs,Pa x) → Ps s → c_q f m xs s = some (xs.foldl g s)
  | 0,xs,s,hl,_,_=>by
    rw [List.eq_nil_of_length_eq_zero hl];rfl
  | m + 1,xs,s,hl,hP,hs=>by
    show sameA ((List.range xs.length).map fun i=>(xs[i]?).bind fun x=>(f x s).bind (c_q f m (xs.eraseIdx i))) = _
    refine sameA_all (fun y hy=>?_) (by rw [hl];simp)
    obtain ⟨i,hi,rfl⟩:=List.mem_map.1 hy
    have hil:i < xs.length:=List.mem_range.1 hi
    have hx:=List.getElem_mem hil
    rw [List.getElem?_eq_getElem hil,Option.bind_some,hf _ _ (hP _ hx) hs,Option.bind_some,
      d_i hf hg hc m (xs.eraseIdx i) _ (by rw [List.length_eraseIdx_of_lt hil];omega) (fun x hx=>hP x (List.mem_of_mem_eraseIdx hx)) (hg _ _ (hP _ hx) hs)]
    have hp:=d_v (L:=xs) (List.getElem?_eq_getElem hil)
    rw [← List.foldl_cons]
    refine congrArg some (List.Perm.foldl_eq' ?_ (fun x _ y _ z=>hc x y z) s)
    first | exact hp | exact hp.symm
theorem d_I (l:List Sh):∀ (s:List Bool) {k:Nat},k < 256 → a_S (l.foldl orX s) k = (a_S s k || l.any (hasK k)):=by
  induction l with
  | nil=>intro s k hk;simp
  | cons X l ih=>intro s k hk;rw [List.foldl_cons,ih _ hk,c_g _ _ hk,List.any_cons,Bool.or_assoc]
theorem e_W (l:List Sh):∀ (s:List Bool),s.length = 256 → (l.foldl orX s).length = 256:=by
  induction l with
  | nil=>intro s h;exact h
  | cons X l ih=>intro s h;rw [List.foldl_cons];exact ih _ (c_E _ _)
def Zs:List Bool:=List.replicate 256 false
def Z2:Sh:=List.replicate 2 Zs
theorem d_8 (k:Nat):a_S Zs k = false:=by
  unfold a_S Zs
  rw [List.getD_eq_getElem?_getD,List.getElem?_replicate]
  split <;> rfl
theorem Zs_ok:okS Zs:=⟨List.length_replicate,d_8 0⟩
theorem f_d:okN Z2:=⟨Zs,Zs,rfl,Zs_ok,Zs_ok⟩
theorem Z2_bit (k:Nat):hasK k Z2 = false:=by
  show (a_S Zs k || a_S Zs k) = false
  rw [d_8];rfl
structure RelC (c:List (Int × Sh)) (sh:List Sh):Prop where
  nd:(c.map (·.1)).Nodup
  rg:∀ kx ∈ c,(0 ≤ kx.1 ∧ kx.1 ≤ 2) ∧ okN kx.2
  ln:sh.length = 3
  at_:∀ r:Nat,r < 3 → ∃ X,sh[r]? = some X ∧ (((r:Int),X) ∈ c ∨ ((r:Int) ∉ c.map (·.1) ∧ X = Z2))
theorem RelC.nil:RelC [] [Z2,Z2,Z2]:=⟨by simp,by simp,rfl,fun r hr=>⟨Z2,by match r,hr with | 0,_=>rfl | 1,_=>rfl | 2,_=>rfl,.inr ⟨by simp,rfl⟩⟩⟩
theorem RelC.ok {c:List (Int × Sh)} {sh:List Sh} (h:RelC c sh):∀ X ∈ sh,okN X:=fun X hX=>by
  obtain ⟨r,hr⟩:=List.mem_iff_getElem?.1 hX
  have hl:r < 3:=by rw [← h.ln];exact (List.getElem?_eq_some_iff.1 hr).1
  obtain ⟨Y,h1,h2⟩:=h.at_ r hl
  rw [hr] at h1
  obtain rfl:=Option.some.inj h1
  rcases h2 with h2 | ⟨_,rfl⟩
  · exact (h.rg _ h2).2
  · exact f_d
theorem e_y {c:List (Int × Sh)} {j:Nat} {z:Int} {X Y:Sh} (h:c[j]? = some (z,X)):(c.set j (z,Y)).map (·.1) = c.map (·.1):=by
  refine List.ext_getElem? fun i=>?_
  simp only [List.getElem?_map,List.getElem?_set]
  by_cases hi:j = i
  · subst hi
    have hl:j < c.length:=(List.getElem?_eq_some_iff.1 h).1
    have:c[j] = (z,X):=(List.getElem?_eq_some_iff.1 h).2
    simp [hl,this]
  · simp [hi]
theorem uniq {c:List (Int × Sh)} (hn:(c.map (·.1)).Nodup) {z:Int} {X Y:Sh} (h1:(z,X) ∈ c) (h2:(z,Y) ∈ c):X = Y:=by
  obtain ⟨i,hi⟩:=List.mem_iff_getElem?.1 h1
  obtain ⟨j,hj⟩:=List.mem_iff_getElem?.1 h2
  have e:i = j:=c_O hn (z:=z) (by simp [hi]) (by simp [hj])
  subst e
  rw [hi] at hj
  exact (Prod.mk.inj (Option.some.inj hj)).2
theorem RelC.put {c:List (Int × Sh)} {sh:List Sh} (h:RelC c sh) {c1:List (Int × Sh)} {j:Nat} {z:Int} {X0 now:Sh} (hz:0 ≤ z ∧ z ≤ 2) (hj:c1[j]? = some (z,X0)) (hnd:(c1.map (·.1)).Nodup) (hin:∀ kx ∈ c1,kx ∈ c ∨ kx.1 = z) (hout:∀ kx ∈ c,kx ∈ c1) (ho:okN now) :
    RelC (c1.set j (z,now)) (sh.set z.toNat now):=by
  have hm:(c1.set j (z,now)).map (·.1) = c1.map (·.1):=e_y hj
  have hjl:j < c1.length:=(List.getElem?_eq_some_iff.1 hj).1
  refine ⟨by rw [hm];exact hnd,fun kx hk=>?_,by rw [List.length_set];exact h.ln,fun r hr=>?_⟩
  · rcases List.mem_or_eq_of_mem_set hk with hk | rfl
    · rcases hin kx hk with hk | e
      · exact h.rg kx hk
      · refine ⟨by rw [e];exact hz,?_⟩
        obtain ⟨i,hi⟩:=List.mem_iff_getElem?.1 ‹kx ∈ c1.set j (z,now)›
        by_cases hij:i = j
        · subst hij
          rw [List.getElem?_set_self hjl] at hi
          rw [← Option.some.inj hi];exact ho
        · rw [List.getElem?_set_ne (Ne.symm hij)] at hi
          have e2:i = j:=c_O hnd (z:=z) (by simp [hi,e]) (by simp [hj])
          exact absurd e2 hij
    · exact ⟨hz,ho⟩
  · by_cases hrz:(r:Int) = z
    · refine ⟨now,?_,.inl ?_⟩
      · rw [show z.toNat = r by omega,List.getElem?_set_self (by rw [h.ln];exact hr)]
      · rw [hrz];exact List.mem_iff_getElem?.2 ⟨j,List.getElem?_set_self hjl⟩
    · obtain ⟨X,h1,h2⟩:=h.at_ r hr
      refine ⟨X,by rw [List.getElem?_set_ne (by omega)];exact h1,?_⟩
      rcases h2 with h2 | ⟨h2,rfl⟩
      · left
        obtain ⟨i,hi⟩:=List.mem_iff_getElem?.1 (hout _ h2)
        have hij:i ≠ j:=fun e=>by
          subst e
          rw [hi] at hj
          exact hrz (Prod.mk.inj (Option.some.inj hj)).1
        exact List.mem_iff_getElem?.2 ⟨i,by rw [List.getElem?_set_ne hij.symm];exact hi⟩
      · right
        refine ⟨fun hm'=>?_,rfl⟩
        rw [hm] at hm'
        obtain ⟨kx,hk,e⟩:=List.mem_map.1 hm'
        rcases hin kx hk with hk | e2
        · exact h2 (List.mem_map.2 ⟨kx,hk,e⟩)
        · exact hrz (e.symm.trans e2)
theorem lookM_rel {c:List (Int × Sh)} {sh:List Sh} (h:RelC c sh) {z:Int} (hz:0 ≤ z ∧ z ≤ 2):∃ j X c1,sh[z.toNat]? = some X ∧ okN X ∧ d_4 z Z2 c = some (j,X,c1) ∧ ∀ now,okN now → RelC (c1.set j (z,now)) (sh.set z.toNat now):=by
  obtain ⟨X,hX,hc⟩:=h.at_ z.toNat (by omega)
  rw [show ((z.toNat:Nat):Int) = z by omega] at hc
  have hok:=h.ok X (List.mem_of_getElem? hX)
  rcases hc with hc | ⟨hc,rfl⟩
  · obtain ⟨j,hj⟩:=List.mem_iff_getElem?.1 hc
    have hjl:j < c.length:=(List.getElem?_eq_some_iff.1 hj).1
    have hf:∃ i,c.findIdx? (fun kx=>decide (kx.1 = z)) = some i:=by
      cases hf:c.findIdx? (fun kx=>decide (kx.1 = z)) with
      | some i=>exact ⟨i,rfl⟩
      | none =>
        have:=List.findIdx?_eq_none_iff.1 hf _ hc
        simp at this
    obtain ⟨i,hi⟩:=hf
    obtain ⟨hl,h1,_⟩:=List.findIdx?_eq_some_iff_getElem.1 hi
    have h1:c[i].1 = z:=by simpa using h1
    have e:i = j:=c_O h.nd (z:=z) (by simp [List.getElem?_map,List.getElem?_eq_getElem hl,h1]) (by simp [List.getElem?_map,hj])
    subst e
    refine ⟨i,X,c,hX,hok,?_,fun now hn=>h.put hz hj h.nd (fun kx hk=>.inl hk) (fun kx hk=>hk) hn⟩
    unfold d_4
    rw [hi]
    show (c[i]?).map _ = _
    rw [hj];rfl
  · have hf:c.findIdx? (fun kx=>decide (kx.1 = z)) = none:=List.findIdx?_eq_none_iff.2 fun kx hk=>by
      have:kx.1 ≠ z:=fun e=>hc (List.mem_map.2 ⟨kx,hk,e⟩)
      simpa using this
    have hnd:((c ++ [(z,Z2)]).map (·.1)).Nodup:=by
      rw [List.map_append,List.nodup_append]
      refine ⟨h.nd,by simp,fun x hx y hy e=>hc ?_⟩
      simp at hy
      rw [← hy,← e];exact hx
    have hlen:c.length < 3:=by
      have hn2:(((c ++ [(z,Z2)]).map (·.1)).map Int.toNat).Nodup:=by
        unfold List.Nodup at hnd ⊢
        rw [List.pairwise_map]
        refine (List.Pairwise.and_mem.1 hnd).imp fun ⟨ha,hb,hab⟩=>?_
        have rng:∀ x ∈ (c ++ [(z,Z2)]).map (·.1),0 ≤ x ∧ x ≤ 2:=fun x hx=>by
          rw [List.map_append,List.mem_append] at hx
          rcases hx with hx | hx
          · obtain ⟨kx,hk,rfl⟩:=List.mem_map.1 hx
            exact (h.rg kx hk).1
          · simp at hx;rw [hx];exact hz
        have:=rng _ ha;have:=rng _ hb
        omega
      have:=d_3 3 hn2 fun k hk=>by
        obtain ⟨x,hx,rfl⟩:=List.mem_map.1 hk
        rw [List.map_append,List.mem_append] at hx
        rcases hx with hx | hx
        · obtain ⟨kx,hk2,rfl⟩:=List.mem_map.1 hx
          have:=(h.rg kx hk2).1;omega
        · simp at hx;omega
      simp at this
      omega
    refine ⟨c.length,Z2,c ++ [(z,Z2)],hX,hok,?_,fun now hn=>h.put hz (X0:=Z2) (by simp) hnd (fun kx hk=>?_) (fun kx hk=>List.mem_append.2 (.inl hk)) hn⟩
    · unfold d_4
      rw [hf]
      show (if c.length < 3 then _ else _) = _
      rw [if_pos hlen]
    · rcases List.mem_append.1 hk with hk | hk
      · exact .inl hk
      · exact .inr (by rw [List.mem_singleton.1 hk])
def e_z (sh:List Sh):List Bool:=sh.foldl orX Zs
theorem c_Q (sh:List Sh):(e_z sh).length = 256:=e_W _ _ Zs_ok.1
theorem allK_rel {c:List (Int × Sh)} {sh:List Sh} (h:RelC c sh):(c.map (·.2)).foldl orX Zs = e_z sh:=by
  refine c_s (e_W _ _ Zs_ok.1) (c_Q _) fun k hk=>?_
  unfold e_z
  rw [d_I _ _ hk,d_I _ _ hk,d_8,Bool.false_or,Bool.false_or,Bool.eq_iff_iff,List.any_eq_true,List.any_eq_true]
  constructor
  · rintro ⟨X,hX,hk⟩
    obtain ⟨⟨r,X'⟩,hm,rfl⟩:=List.mem_map.1 hX
    have hr:=(h.rg _ hm).1
    obtain ⟨Y,h1,h2⟩:=h.at_ r.toNat (by have:=hr;simp only at this;omega)
    rw [show ((r.toNat:Nat):Int) = r by have:=hr;simp only at this;omega] at h2
    rcases h2 with h2 | ⟨h2,_⟩
    · have:=uniq h.nd hm h2
      subst this
      exact ⟨_,List.mem_of_getElem? h1,hk⟩
    · exact absurd (List.mem_map.2 ⟨_,hm,rfl⟩) h2
  · rintro ⟨X,hX,hk⟩
    obtain ⟨r,hr⟩:=List.mem_iff_getElem?.1 hX
    have hl:r < 3:=by rw [← h.ln];exact (List.getElem?_eq_some_iff.1 hr).1
    obtain ⟨Y,h1,h2⟩:=h.at_ r hl
    rw [hr] at h1
    obtain rfl:=Option.some.inj h1
    rcases h2 with h2 | ⟨_,rfl⟩
    · exact ⟨X,List.mem_map.2 ⟨_,h2,rfl⟩,hk⟩
    · rw [Z2_bit] at hk;cases hk
theorem allK_0 {sh:List Sh} (h:∀ X ∈ sh,okN X):a_S (e_z sh) 0 = false:=by
  unfold e_z
  rw [d_I _ _ (by decide),d_8,Bool.false_or,List.any_eq_false]
  intro X hX
  obtain ⟨x,y,rfl,hx,hy⟩:=h X hX
  show ¬ (a_S x 0 || a_S y 0) = true
  rw [hx.2,hy.2];decide
def c_R (fs:List Fd) (vs:List Vl) (X:Sh):Sh :=
  let F:=vs.foldl (stV fs) (false,Z2)
  if F.1 = true then F.2.set 0 (X.getD 0 []) else F.2
theorem nowF_ok (fs:List Fd) (vs:List Vl) {X:Sh} (hX:okN X):okN (c_R fs vs X):=by
  unfold c_R
  have h:=d_H fs vs (false,Z2) f_d
  simp only
  cases (vs.foldl (stV fs) (false,Z2)).1 with
  | false=>exact h
  | true =>
    obtain ⟨x,y,e,hx,hy⟩:=h
    obtain ⟨x',y',rfl,hx',hy'⟩:=hX
    rw [if_pos rfl,e]
    exact ⟨x',y,rfl,hx',hy⟩
theorem e_X (F:Bool × Sh) {X:Sh} (hF:okN F.2) (hX:okN X):(if F.1 = true then ((idx X 0).bind fun a=>(idx F.2 0).bind fun _=>some (F.2.set (0:Int).toNat a)) else some F.2) = some (if F.1 = true then F.2.set 0 (X.getD 0 []) else F.2):=by
  obtain ⟨x,y,e,hx,hy⟩:=hF
  obtain ⟨x',y',rfl,hx',hy'⟩:=hX
  cases F.1 with
  | false=>rfl
  | true=>rw [if_pos rfl,if_pos rfl,e];rfl
theorem p24_eq {n:Nat} (hn:1000200 ≤ n ∨ 300 ≤ n) (hn3:300 ≤ n) (Y:Mdl) (x:Mpt) (z:Int) (vs:Sl Vl) (hL:vs.xs.length < n) (hL2:vs.xs.length ≤ 1000000) (hv:∀ v ∈ vs.xs,0 ≤ v.1 ∧ v.1 < x.1.xs.length) {X:Sh} (hz:0 ≤ z ∧ z ≤ 2) (hX:Y.1[z.toNat]? = some X) (hY:∀ X ∈ Y.1,okN X) (hl:Y.1.length = 3) (hd:Y.2.1.length = 256) :
    p24 n Y x z vs = some (⟨b_S Y.2.1 (e_z (Y.1.set z.toNat (c_R x.1.xs vs.xs X))),.none⟩,nxt (Y.1.set z.toNat (c_R x.1.xs vs.xs X),Y.2) (e_z (Y.1.set z.toNat (c_R x.1.xs vs.xs X)))):=by
  have hXo:=hY X (List.mem_of_getElem? hX)
  have e1:=p24_l1_eq n x vs hL2 hv n 0 (false,Z2) f_d (by omega) (by omega)
  rw [show ((0:Nat):Int) = 0 from rfl,List.drop_zero] at e1
  have hFo:=d_H x.1.xs vs.xs (false,Z2) f_d
  have hz2:idx Y.1 z = some X:=by
    unfold idx
    rw [if_pos hz.1];exact hX
  have hset:∀ X' ∈ Y.1.set z.toNat (c_R x.1.xs vs.xs X),okN X':=fun X' h=>by
    rcases List.mem_or_eq_of_mem_set h with h | rfl
    · exact hY _ h
    · exact nowF_ok _ _ hXo
  have e2:=p24_l2_eq hn3 Y z (c_R x.1.xs vs.xs X) (by rw [List.length_set];exact hl) hset n 0 Zs Zs_ok.1 (by omega) (by omega)
  rw [show ((0:Nat):Int) = 0 from rfl,List.drop_zero] at e2
  unfold p24
  refine (congrArg (fun q=>Option.bind q _) e1).trans ?_
  rw [Option.bind_some]
  generalize hF:vs.xs.foldl (stV x.1.xs) (false,Z2) = F at hFo
  rw [hz2]
  have e3:=e_X F hFo hXo
  rw [Option.bind_some]
  refine (congrArg (fun q=>Option.bind q _) e3).trans ?_
  rw [Option.bind_some,Option.bind_some]
  have e4:(if F.1 = true then F.2.set 0 (X.getD 0 []) else F.2) = c_R x.1.xs vs.xs X:=by unfold c_R;rw [hF]
  rw [e4]
  refine (congrArg (fun q=>Option.bind q _) e2).trans ?_
  rw [Option.bind_some]
  have e5:=p21_eq hn3 (Y.1.set z.toNat (c_R x.1.xs vs.xs X),Y.2) (e_z (Y.1.set z.toNat (c_R x.1.xs vs.xs X))) hd (c_Q _)
  refine (congrArg (fun q=>Option.bind q _) e5).trans ?_
  rfl
def kbx (y:KBt) (x:List Bool):KBt :=
  let A:=sfx (upP x y.1) 0
  let h:=hz (sfx (upP y.1 x) 0) y.2.2.2.2.2.1
  (x,y.2.1,y.2.2.1,lt A y.2.2.2.1,y.2.2.2.2.1,(if gr A 0 > 0 then gr A 0 else h),(if gr A 0 > 0 then 0 else y.2.2.2.2.2.2.1),y.2.2.2.2.2.2.2)
theorem c_S (a b:List Bool):(b_S a b).length ≤ 512:=by
  unfold b_S
  rw [List.length_append,e_u,evD_len]
  have:=c_D (upP a b) 0
  have:=c_D (upP b a) 0
  omega
theorem p12_eq {n:Nat} (hn:1200 ≤ n) (y:KBt) (c:List (Int × Sh)) (b:Sl Int) (vs:Sl Vl) (z:Int) (hr:y.2.2.1 = true) (hlk:y.2.2.2.2.2.2.2 = [83,57,71]) (hy:y.1.length = 256) (hv:p23 n y.2.1 1 b = some (vs,0)) (hL:vs.xs.length < n) (hL2:vs.xs.length ≤ 1000000) (hvr:∀ v ∈ vs.xs,0 ≤ v.1 ∧ v.1 < y.2.1.1.xs.length)
    (hnum:(if y.2.1.2.2 = true then ((idx b.xs 0).bind fun q=>some q) else some 0) = some z) (hz:0 ≤ z ∧ z ≤ 2) {sh:List Sh} (R:RelC c sh) {X:Sh} (hX:sh[z.toNat]? = some X) :
    ∃ c',RelC c' (sh.set z.toNat (c_R y.2.1.1.xs vs.xs X)) ∧
      p12 n y c b = some (⟨b_S y.1 (e_z (sh.set z.toNat (c_R y.2.1.1.xs vs.xs X))),some (b_S y.1 (e_z (sh.set z.toNat (c_R y.2.1.1.xs vs.xs X)))).length⟩,0,kbx y (e_z (sh.set z.toNat (c_R y.2.1.1.xs vs.xs X))),c'):=by
  obtain ⟨j,X2,c1,hX2,hXo,hlook,hput⟩:=lookM_rel R hz
  rw [hX] at hX2
  obtain rfl:=Option.some.inj hX2
  have R':=hput _ (nowF_ok y.2.1.1.xs vs.xs hXo)
  refine ⟨_,R',?_⟩
  have e1:=p12_l1_eq n y (vs,0) hL2 hvr n 0 (false,Z2) f_d (by show vs.xs.length - 0 < n;omega) (by omega)
  rw [show ((0:Nat):Int) = 0 from rfl,List.drop_zero] at e1
  have hFo:=d_H y.2.1.1.xs vs.xs (false,Z2) f_d
  have e3:=e_X (vs.xs.foldl (stV y.2.1.1.xs) (false,Z2)) hFo hXo
  have e4:(if (vs.xs.foldl (stV y.2.1.1.xs) (false,Z2)).1 = true then (vs.xs.foldl (stV y.2.1.1.xs) (false,Z2)).2.set 0 (X.getD 0 []) else (vs.xs.foldl (stV y.2.1.1.xs) (false,Z2)).2) = c_R y.2.1.1.xs vs.xs X:=rfl
  rw [e4] at e3
  generalize hnow:c_R y.2.1.1.xs vs.xs X = now at *
  have e5:c_q (fun (kx_:Int × Sh) (s_:List Bool)=>p12_l2_b n kx_.1 kx_.2 s_) (c1.set j (z,now)).length (c1.set j (z,now)) Zs = some (e_z (sh.set z.toNat now)):=by
    rw [d_i (g:=fun s (kx:Int × Sh)=>orX s kx.2) (Pa:=fun kx=>okN kx.2) (Ps:=fun s=>s.length = 256) (fun kx s h1 h2=>p12_l2_eq (by omega) kx.1 kx.2 h1 s h2) (fun kx s _ _=>c_E _ _) (fun kx ky s=>orX_comm s kx.2 ky.2) _ _ _ rfl (fun kx hk=>(R'.rg kx hk).2) Zs_ok.1]
    rw [← allK_rel R',List.foldl_map]
  have hn0:a_S (e_z (sh.set z.toNat now)) 0 = false:=allK_0 R'.ok
  have hnl:=c_Q (sh.set z.toNat now)
  generalize e_z (sh.set z.toNat now) = nx at *
  obtain ⟨f,e6⟩:=foldE y.1 nx hn0 y.2.2.2.1 y.2.2.2.2.2.1 y.2.2.2.2.2.2.1
  have e7:=p33_eq (by omega:300 ≤ n) y nx hy hnl
  have e8:=p12_l4_eq n (by omega) (⟨b_S y.1 nx,some (b_S y.1 nx).length⟩,(nx,y.2)) n 0 true (nx,y.2) hlk (Nat.le_trans (c_S _ _) (by omega)) (by have:=c_S y.1 nx;show (b_S y.1 nx).length - 0 < n;omega) (by omega)
  rw [show ((0:Nat):Int) = 0 from rfl,List.drop_zero] at e8
  simp only [e6] at e8
  unfold p12
  rw [hr,if_neg (show ¬ ((!true) = true) by decide),hv,Option.bind_some,if_neg (show ¬ (((0:Int) != 0) = true) by decide)]
  refine (congrArg (fun q=>Option.bind q _) hnum).trans ?_
  rw [Option.bind_some]
  refine (congrArg (fun q=>Option.bind q _) hlook).trans ?_
  rw [Option.bind_some]
  refine (congrArg (fun q=>Option.bind q _) e1).trans ?_
  rw [Option.bind_some]
  refine (congrArg (fun q=>Option.bind q _) e3).trans ?_
  rw [Option.bind_some]
  refine (congrArg (fun q=>Option.bind q _) e5).trans ?_
  rw [Option.bind_some]
  have ey:(y.1,y.2.1,true,y.2.2.2.1,y.2.2.2.2.1,y.2.2.2.2.2.1,y.2.2.2.2.2.2.1,y.2.2.2.2.2.2.2) = y:=by rw [← hr]
  rw [ey]
  refine (congrArg (fun q=>Option.bind q _) e7).trans ?_
  rw [Option.bind_some]
  refine (congrArg (fun q=>Option.bind q _) e8).trans ?_
  rfl
theorem p18_l1_refl (n:Nat) (l:List Ev) (c c':Option Nat) (hL:l.length ≤ 1000000):∀ (m i:Nat),l.length - i < m → i ≤ l.length → p18_l1 n ⟨l,c⟩ ⟨l,c'⟩ m i = some (.inl ()):=by
  intro m
  induction m with
  | zero=>intro i hm;exact absurd hm (by omega)
  | succ m ih =>
    intro i hm hi
    rw [p18_l1]
    by_cases hlt:i < l.length
    · have he:eqP (.pair (.int .u8) (.pair .bool .bool)) l[i] l[i] = true:=(eqP_iff (t:=.pair (.int .u8) (.pair .bool .bool)) rfl _ _).2 rfl
      rw [b_U (by rw [c_e];omega),c_J hlt,Option.bind_some,Option.bind_some,he,if_neg (by decide),ckS (by omega) (by omega),Option.bind_some,a_Q,ih (i + 1) (by omega) (by omega)]
    · rw [b_V (by rw [c_e];omega)]
theorem p18_refl {n:Nat} (l:List Ev) (c c':Option Nat) (hL:l.length ≤ 1000000) (hn:l.length < n):p18 n ⟨l,c⟩ ⟨l,c'⟩ = some true:=by
  have e:=p18_l1_refl n l c c' hL n 0 (by omega) (by omega)
  rw [show ((0:Nat):Int) = 0 from rfl] at e
  unfold p18
  rw [c_e,c_e,if_neg (by simp),e]
  rfl
def TR (tc tm:Int):Prop:=0 ≤ tc ∧ tc ≤ 22 ∧ ∃ q:Int,0 ≤ q ∧ tm = tc + 3 * q ∧ (q = 0 ∨ 20 ≤ tc)
theorem TR.zero:TR 0 0:=⟨by decide,by decide,0,by decide,by decide,.inl rfl⟩
theorem sfx_Zs (d:List Bool):sfx (upP Zs d) 0 = []:=by
  refine List.eq_nil_iff_forall_not_mem.2 fun k hk=>?_
  have:=(sfx_mem.1 hk).2
  unfold upP at this
  rw [d_8] at this
  cases this
theorem nxt_Zs (Y:Mdl) (sh:List Sh):nxt (sh,Y.2) Zs = (sh,Zs,Y.2.2.1,hz (sfx (upP Y.2.1 Zs) 0) Y.2.2.2.1,Y.2.2.2.2):=by
  unfold nxt
  simp only
  rw [sfx_Zs]
  rfl
def cpF (f:Fd):Fd:=(f.1,f.2.1,f.2.2.1,(⟨f.2.2.2.1.xs,b_W (some 0) f.2.2.2.1.xs.length⟩:Sl Int),f.2.2.2.2)
def cpM (m:Mpt):Mpt:=(⟨m.1.xs.map cpF,.none⟩,⟨[],some 0⟩,m.2.2)
theorem sumC_cp (fs:List Fd) (k r:Int):d_K (fs.map cpF) k r = d_K fs k r:=by
  unfold d_K
  rw [List.filter_map,List.map_map]
  rfl
theorem e_A (fs:List Fd) (k r:Int):c_M (fs.map cpF) k r = c_M fs k r:=by
  unfold c_M
  rw [List.any_map]
  rfl
theorem lenR_cp (m:Mpt) (k r:Int):b_R (cpM m) k r = b_R m k r:=by
  unfold b_R
  show (d_K (m.1.xs.map cpF) k r + 7) / 8 + (if (c_M (m.1.xs.map cpF) k r && m.2.2) = true then 1 else 0) = _
  rw [sumC_cp,e_A]
theorem okB_cp (m:Mpt) (f:Fd):okB (cpM m) (cpF f) ↔ okB m f:=by
  unfold okB
  have e:d_K (cpM m).1.xs (cpF f).1 (cpF f).2.1 = d_K m.1.xs f.1 f.2.1:=sumC_cp m.1.xs f.1 f.2.1
  rw [e]
  exact Iff.rfl
theorem Ppr_cp (m:Mpt):Ppr (cpM m) ↔ Ppr m:=by
  unfold Ppr Pall
  show (∀ f ∈ m.1.xs.map cpF,_) ↔ _
  rw [List.forall_mem_map]
  exact forall_congr' fun f=>forall_congr' fun _=>and_congr Iff.rfl (okB_cp m f)
theorem rpV_cp (m:Mpt) (b:List Int) (k r:Int):∀ (l:List Fd) (i:Nat),rpV (cpM m) b k r i (l.map cpF) = rpV m b k r i l
  | [],_=>rfl
  | f :: l,i=>by
    show (if mt k r f = true then fdV (cpM m) b i (cpF f) 0 else []) ++ rpV (cpM m) b k r (i + 1) (l.map cpF) = _
    rw [rpV_cp m b k r l (i + 1)]
    rfl
def keyF (f:Fd):Bool:=f.1 == 1 && !fCo f && (fU f).xs.any isK
theorem p10_l2_eq' (n:Nat) (q:(List Fd) × Fd) (hL:q.2.2.2.2.1.xs.length ≤ 1000000):∀ (m i:Nat) (c:Bool),q.2.2.2.2.1.xs.length - i < m → i ≤ q.2.2.2.2.1.xs.length →
    p10_l2 n q m i c = some (c || (q.2.1 == 1 && !fCo q.2 && (q.2.2.2.2.1.xs.drop i).any isK)):=by
  intro m
  induction m with
  | zero=>intro i c hm;exact absurd hm (by omega)
  | succ m ih =>
    intro i c hm hi
    rw [p10_l2]
    by_cases hlt:i < q.2.2.2.2.1.xs.length
    · rw [b_U (by rw [a_z];omega),c_J hlt,Option.bind_some,a_R hlt,List.any_cons]
      generalize q.2.2.2.2.1.xs[i] = u
      have e:(if c = false then (if (q.2.1 == 1) = true then some (!q.2.2.2.2.2.2.2.2.2.2.1) else some false).bind fun q_162=>(if q_162 = true then (p31 n u).bind fun t_166=>some t_166 else some false).bind fun q_165=>some q_165 else some true) = some (c || (q.2.1 == 1 && !fCo q.2 && isK u)):=by
        rw [orO]
        intro _
        rw [c_i (b:=q.2.1 == 1) (c:=!fCo q.2) (fun _=>rfl),Option.bind_some,c_i (c:=isK u) (fun _=>by rw [p31_eq];rfl)]
        rfl
      rw [e,Option.bind_some,ckS (by omega) (by omega),Option.bind_some,a_Q,ih (i + 1) _ (by omega) (by omega),Bool.or_assoc,← Bool.and_or_distrib_left]
    · rw [b_V (by rw [a_z];omega),List.drop_eq_nil_of_le (by omega)]
      simp
theorem p10_l1_eq' (n:Nat) (x:Mpt) (hn:1001000 ≤ n ∨ ∀ f ∈ x.1.xs,(fU f).xs.length < n) (hU:∀ f ∈ x.1.xs,(fU f).xs.length ≤ 1000000) (hl:x.1.xs.length ≤ 1000):∀ (m i:Nat) (c:Bool) (l:List Fd),l.length ≤ i → x.1.xs.length - i < m → i ≤ x.1.xs.length →
    p10_l1 n x m i c l = some (c || (x.1.xs.drop i).any keyF,l ++ (x.1.xs.drop i).map cpF):=by
  intro m
  induction m with
  | zero=>intro i c l _ hm;exact absurd hm (by omega)
  | succ m ih =>
    intro i c l hll hm hi
    rw [p10_l1]
    by_cases hlt:i < x.1.xs.length
    · have hmem:x.1.xs[i] ∈ x.1.xs:=List.getElem_mem hlt
      rw [b_U (by rw [a_z];omega),c_J hlt,Option.bind_some,a_R hlt,List.any_cons,List.map_cons]
      generalize x.1.xs[i] = f at hmem
      have h1:=hU f hmem
      have e1:c_L ([]:List Int) f.2.2.2.1.xs = some f.2.2.2.1.xs:=by
        have h2:f.2.2.2.1.xs.length ≤ 1000000:=h1
        rw [appI_ok (by simp;omega)];simp
      rw [e1,Option.bind_some]
      have e2:c_L l [cpF f] = some (l ++ [cpF f]):=b_j (by omega)
      refine (congrArg (fun q=>Option.bind (Option.bind q _) _) e2).trans ?_
      rw [Option.bind_some,Option.bind_some]
      have e3:=p10_l2_eq' n (l ++ [cpF f],cpF f) h1 n 0 c (by rcases hn with hn | hn;show (fU f).xs.length - 0 < n;omega;have:=hn f hmem;show (fU f).xs.length - 0 < n;omega) (by omega)
      rw [show ((0:Nat):Int) = 0 from rfl] at e3
      refine (congrArg (fun q=>Option.bind q _) e3).trans ?_
      rw [Option.bind_some,ckS (by omega) (by omega),Option.bind_some,a_Q]
      refine (ih (i + 1) _ (l ++ [cpF f]) (by rw [List.length_append,List.length_singleton];omega) (by omega) (by omega)).trans ?_
      rw [List.append_assoc,Bool.or_assoc]
      rfl
    · rw [b_V (by rw [a_z];omega),List.drop_eq_nil_of_le (by omega)]
      simp
def newK (m:Mpt):KBt:=(Zs,cpM m,true,0,0,0,0,[83,57,71])
theorem p10_good {n:Nat} (hn:1100 ≤ n) (x:Mpt) (hn2:∀ f ∈ x.1.xs,(fU f).xs.length < n) (hU:∀ f ∈ x.1.xs,(fU f).xs.length ≤ 1000000) (hl:x.1.xs.length ≤ 1000) (hp:Ppr x) (hk:x.1.xs.any keyF = true):p10 n x = some (some (newK x),0):=by
  have e1:=p10_l1_eq' n x (.inr hn2) hU hl n 0 false [] (by simp) (by omega) (by omega)
  rw [show ((0:Nat):Int) = 0 from rfl,List.drop_zero,Bool.false_or,List.nil_append,hk] at e1
  unfold p10
  rw [p30_eq hn x hl,Option.bind_some,decide_eq_true hp,if_neg (show ¬ ((!true) = true) by decide)]
  refine (congrArg (fun q=>Option.bind q _) e1).trans ?_
  rfl
def nU (a:Int) (k:Nat):List Int:=(List.range k).map fun (i:Nat)=>a + (i:Int)
def c_b (nb:Bool):Int:=if nb = true then 1 else 0
def twoN (nb:Bool):Int:=if nb = true then 2 else 0
def fdM (nb:Bool):Fd:=(1,c_b nb,0,⟨nU 458976 8,.none⟩,0,1,1,8,0,false,false,false,false)
def fdK (nb:Bool) (kc:Int):Fd:=(1,c_b nb,0,⟨nU 458752 256,.none⟩,0,255,8,kc,8,false,true,false,false)
def fdB (nb:Bool) (kc:Int):Fd:=(1,twoN nb,0,⟨nU 458756 32,.none⟩,0,1,1,32,(if nb = true then 0 else 8 + 8 * kc),false,false,false,false)
def fdL (nb:Bool) (i a:Int):Fd:=(2,c_b nb,0,⟨[524289 + i],some 1⟩,0,1,2,1,a,false,false,false,false)
def lmp (nb l0 l1 l2:Bool):List Fd :=
  (if l0 = true then [fdL nb 0 0] else []) ++ (if l1 = true then [fdL nb 1 (if l0 = true then 2 else 0)] else []) ++ (if l2 = true then [fdL nb 2 ((if l0 = true then 2 else 0) + (if l1 = true then 2 else 0))] else [])
def mapL (nb:Bool) (kc:Int) (bits l0 l1 l2:Bool):Mpt:=(⟨[fdM nb,fdK nb kc] ++ (if bits = true then [fdB nb kc] else []) ++ lmp nb l0 l1 l2,.none⟩,⟨[],some 0⟩,nb)
set_option maxRecDepth 100000 in
theorem p9_l1_ok:p9_l1 2000 2000 0 [] = some (nU 458976 8):=by kernel_rfl
set_option maxRecDepth 100000 in
theorem p9_l2_ok:p9_l2 2000 2000 0 [] = some (nU 458752 256):=by kernel_rfl
set_option maxRecDepth 100000 in
theorem p9_l3_ok:p9_l3 2000 2000 0 [] = some (nU 458756 32):=by kernel_rfl
theorem u8R {x:Int} (h0:0 ≤ x) (h1:x ≤ 255):InR .u8 x:=inR_u8.2 ⟨h0,h1⟩
def b_T (lm:Int) (i:Nat):Bool:=lm / 2 ^ i % 2 == 1
theorem p9_l4_step (n:Nat) (x:Bool × Int × Bool × Int) (nb:Bool) (h0:0 ≤ x.2.2.2) (h1:x.2.2.2 ≤ 255) (m i:Nat) (a:Int) (l:List Fd) (hi:i < 3) (ha:0 ≤ a) (ha2:a ≤ 100) (hl:l.length ≤ 100) :
    p9_l4 n x (twoN nb,c_b nb) (m + 1) i a l = p9_l4 n x (twoN nb,c_b nb) m ((i + 1:Nat):Int) (if b_T x.2.2.2 i = true then a + 2 else a) (if b_T x.2.2.2 i = true then l ++ [fdL nb i a] else l):=by
  rw [p9_l4,b_U (by omega),e_T (by omega),Option.bind_some]
  have h2:0 ≤ x.2.2.2 / 2 ^ i:=Int.ediv_nonneg h0 (Int.le_of_lt (b_Q i))
  rw [b_c h2 (by decide) (u8R (by omega) (by omega)),Option.bind_some]
  have e:∀ (l0:Int),IntKind.wrap .u32 (524289 + IntKind.wrap .u32 (i:Int)) = 524289 + (i:Int):=fun _=>by rw [b_5,b_5];omega
  unfold b_T
  cases hb:(x.2.2.2 / 2 ^ i % 2 == 1) with
  | true =>
    rw [if_pos rfl,if_pos rfl,if_pos rfl,e 0]
    have e2:c_L l [fdL nb i a] = some (l ++ [fdL nb i a]):=b_j (by omega)
    refine (congrArg (fun q=>Option.bind (Option.bind q _) _) e2).trans ?_
    rw [Option.bind_some,ckS (by omega) (by omega),Option.bind_some,Option.bind_some,ckS (by omega) (by omega),Option.bind_some,a_Q]
  | false =>
    rw [if_neg (show ¬ (false = true) by decide),if_neg (show ¬ (false = true) by decide),if_neg (show ¬ (false = true) by decide),Option.bind_some,ckS (by omega) (by omega),Option.bind_some,a_Q]
theorem p9_l4_eq (x:Bool × Int × Bool × Int) (nb:Bool) (h0:0 ≤ x.2.2.2) (h1:x.2.2.2 ≤ 255) (l:List Fd) (hl:l.length ≤ 10):p9_l4 2000 x (twoN nb,c_b nb) 2000 0 0 l = some (l ++ lmp nb (b_T x.2.2.2 0) (b_T x.2.2.2 1) (b_T x.2.2.2 2)):=by
  have s0:=p9_l4_step 2000 x nb h0 h1 1999 0 0 l (by decide) (by decide) (by decide) (by omega)
  have s1:=fun (a:Int) (l:List Fd) (h1':0 ≤ a) (h2':a ≤ 100) (h3:l.length ≤ 100)=>p9_l4_step 2000 x nb h0 h1 1998 1 a l (by decide) h1' h2' h3
  have s2:=fun (a:Int) (l:List Fd) (h1':0 ≤ a) (h2':a ≤ 100) (h3:l.length ≤ 100)=>p9_l4_step 2000 x nb h0 h1 1997 2 a l (by decide) h1' h2' h3
  have s3:∀ (a:Int) (l:List Fd),p9_l4 2000 x (twoN nb,c_b nb) 1997 ((2 + 1:Nat):Int) a l = some l:=fun a l=>by
    rw [show (1997:Nat) = 1996 + 1 from rfl,p9_l4,if_neg (by decide)]
  rw [show ((0:Nat):Int) = 0 from rfl] at s0
  rw [s0]
  unfold lmp
  cases b_T x.2.2.2 0 <;> cases hb1:b_T x.2.2.2 1 <;> cases hb2:b_T x.2.2.2 2 <;>
    (try simp only [if_true,if_false,Bool.false_eq_true,List.append_nil,List.nil_append,List.append_assoc]) <;>
    rw [s1 _ _ (by decide) (by decide) (by first | omega | (simp;omega)),hb1] <;>
    (try simp only [if_true,if_false,Bool.false_eq_true,List.append_nil,List.nil_append,List.append_assoc]) <;>
    rw [s2 _ _ (by decide) (by decide) (by first | omega | (simp;omega)),hb2,s3] <;>
    (try simp)
theorem p9_eq (x:Bool × Int × Bool × Int) (hk:0 ≤ x.2.1 ∧ x.2.1 ≤ 255) (hl:0 ≤ x.2.2.2 ∧ x.2.2.2 ≤ 255):p9 2000 x = some (mapL x.1 (1 + x.2.1 % 8) x.2.2.1 (b_T x.2.2.2 0) (b_T x.2.2.2 1) (b_T x.2.2.2 2)):=by
  have e0:(if x.1 = true then (some ((2:Int),(1:Int))) else some (0,0)) = some (twoN x.1,c_b x.1):=by cases x.1 <;> rfl
  unfold p9
  rw [e0,Option.bind_some,p9_l1_ok,Option.bind_some,b_c hk.1 (by decide) (u8R (by omega) (by omega)),Option.bind_some,ckS (by omega) (by omega),Option.bind_some,p9_l2_ok,Option.bind_some]
  unfold mapL
  cases hb:x.2.2.1 with
  | false =>
    have e4:=p9_l4_eq x x.1 hl.1 hl.2 [fdM x.1,fdK x.1 (1 + x.2.1 % 8)] (by simp)
    rw [if_neg (show ¬ (false = true) by decide),if_neg (show ¬ (false = true) by decide),Option.bind_some]
    refine (congrArg (fun q=>Option.bind q _) e4).trans ?_
    rw [List.append_nil]
    rfl
  | true =>
    have e1:(if (!x.1) = true then ((ckI .i64 (8 * (1 + x.2.1 % 8))).bind fun x_217=>(ckI .i64 (8 + x_217)).bind fun x_218=>some ((1:Int),twoN x.1,(0:Int),(0:Int),(1:Int),(1:Int),(32:Int),x_218,false,false,false,false)) else some (1,twoN x.1,0,0,1,1,32,0,false,false,false,false)) = some ((1:Int),twoN x.1,(0:Int),(0:Int),(1:Int),(1:Int),(32:Int),(if x.1 = true then 0 else 8 + 8 * (1 + x.2.1 % 8)),false,false,false,false):=by
      cases x.1 with
      | true=>rfl
      | false=>rw [if_pos (show (!false) = true from rfl),ckS (by omega) (by omega),Option.bind_some,ckS (by omega) (by omega),Option.bind_some];rfl
    rw [if_pos rfl,if_pos rfl]
    refine (congrArg (fun q=>Option.bind (Option.bind q _) _) e1).trans ?_
    rw [Option.bind_some]
    refine (congrArg (fun q=>Option.bind (Option.bind q _) _) p9_l3_ok).trans ?_
    rw [Option.bind_some]
    have e2:c_L [fdM x.1,fdK x.1 (1 + x.2.1 % 8)] [fdB x.1 (1 + x.2.1 % 8)] = some ([fdM x.1,fdK x.1 (1 + x.2.1 % 8)] ++ [fdB x.1 (1 + x.2.1 % 8)]):=b_j (by simp)
    refine (congrArg (fun q=>Option.bind (Option.bind q _) _) e2).trans ?_
    rw [Option.bind_some,Option.bind_some]
    have e4:=p9_l4_eq x x.1 hl.1 hl.2 ([fdM x.1,fdK x.1 (1 + x.2.1 % 8)] ++ [fdB x.1 (1 + x.2.1 % 8)]) (by simp)
    refine (congrArg (fun q=>Option.bind q _) e4).trans ?_
    rfl
def chkM (m:Mpt):Bool :=
  decide (Ppr m) && m.1.xs.any keyF && decide (m.1.xs.length ≤ 6) && (m.1.xs.all fun f=>decide ((fU f).xs.length ≤ 256)) && c_M m.1.xs 1 (c_b m.2.2) && decide (1 ≤ b_R m 1 (c_b m.2.2)) && decide (b_R m 1 (c_b m.2.2) ≤ 600) &&
  (!(m.2.2 && (m.1.xs[2]?.map (·.1)) == some 1) || (c_M m.1.xs 1 2 && decide (1 ≤ b_R m 1 2) && decide (b_R m 1 2 ≤ 600)))
def BB:List Bool:=[false,true]
def KC:List Int:=[1,2,3,4,5,6,7,8]
set_option maxRecDepth 100000 in
theorem chk_all:(BB.all fun nb=>KC.all fun kc=>BB.all fun bits=>BB.all fun l0=>BB.all fun l1=>BB.all fun l2=>chkM (mapL nb kc bits l0 l1 l2)) = true:=by kernel_rfl
theorem chk_ok (nb:Bool) {kc:Int} (hk:1 ≤ kc ∧ kc ≤ 8) (bits l0 l1 l2:Bool):chkM (mapL nb kc bits l0 l1 l2) = true:=by
  have mB:∀ b:Bool,b ∈ BB:=fun b=>by cases b <;> simp [BB]
  have mK:kc ∈ KC:=by unfold KC;simp;omega
  have h:=chk_all
  rw [List.all_eq_true] at h
  have h1:=List.all_eq_true.1 (h nb (mB nb)) kc mK
  have h2:=List.all_eq_true.1 (List.all_eq_true.1 (List.all_eq_true.1 (List.all_eq_true.1 h1 bits (mB bits)) l0 (mB l0)) l1 (mB l1)) l2 (mB l2)
  exact h2
structure MOk (m:Mpt):Prop where
  ppr:Ppr m
  key:m.1.xs.any keyF = true
  len:m.1.xs.length ≤ 6
  us:∀ f ∈ m.1.xs,(fU f).xs.length ≤ 256
  one:c_M m.1.xs 1 (c_b m.2.2) = true ∧ 1 ≤ b_R m 1 (c_b m.2.2) ∧ b_R m 1 (c_b m.2.2) ≤ 600
  two:m.2.2 = true → (m.1.xs[2]?.map (·.1)) = some 1 → c_M m.1.xs 1 2 = true ∧ 1 ≤ b_R m 1 2 ∧ b_R m 1 2 ≤ 600
theorem MOk.of {m:Mpt} (h:chkM m = true):MOk m:=by
  unfold chkM at h
  simp only [Bool.and_eq_true,decide_eq_true_eq,List.all_eq_true] at h
  obtain ⟨⟨⟨⟨⟨⟨⟨h1,h2⟩,h3⟩,h4⟩,h5⟩,h6⟩,h7⟩,h8⟩:=h
  refine ⟨h1,h2,h3,h4,⟨h5,h6,h7⟩,fun e1 e2=>?_⟩
  rw [e1,e2] at h8
  simpa [and_assoc] using h8
def c_c (m:Mpt) (b:List Int):Int:=if m.2.2 = true then (if 0 < b.length ∧ 128 ≤ byt b 0 ∧ 2 < m.1.xs.length ∧ (m.1.xs[2]?.map (·.1)) = some 1 then 2 else 1) else 0
def d_j (m:Mpt) (b:List Int):Nat:=(b_R m 1 (c_c m b)).toNat
def b_z (m:Mpt) (b:List Int):List Int:=if m.2.2 = true then (c_d (List.replicate (d_j m b) 0) b).set 0 (c_c m b) else c_d (List.replicate (d_j m b) 0) b
theorem MOk.num {m:Mpt} (h:MOk m) (b:List Int):(0 ≤ c_c m b ∧ c_c m b ≤ 2) ∧ c_M m.1.xs 1 (c_c m b) = true ∧ 1 ≤ b_R m 1 (c_c m b) ∧ b_R m 1 (c_c m b) ≤ 600:=by
  unfold c_c
  cases hb:m.2.2 with
  | false =>
    have:=h.one
    rw [hb] at this
    rw [if_neg (show ¬ (false = true) by decide)]
    exact ⟨by decide,this⟩
  | true =>
    rw [if_pos rfl]
    by_cases hc:0 < b.length ∧ 128 ≤ byt b 0 ∧ 2 < m.1.xs.length ∧ (m.1.xs[2]?.map (·.1)) = some 1
    · rw [if_pos hc]
      exact ⟨by decide,h.two hb hc.2.2.2⟩
    · have:=h.one
      rw [hb] at this
      rw [if_neg hc]
      exact ⟨by decide,this⟩
theorem c_u {α:Type} (xs ys:List α):(c_d xs ys).length = xs.length:=by
  unfold c_d
  rw [List.length_append,List.length_take,List.length_drop];omega
theorem c_T {m:Mpt} (h:MOk m) (b:List Int):1 ≤ d_j m b ∧ d_j m b ≤ 600 ∧ ((d_j m b:Nat):Int) = b_R m 1 (c_c m b):=by
  have:=(h.num b).2.2
  unfold d_j
  omega
theorem c_U (m:Mpt) (b:List Int):(b_z m b).length = d_j m b:=by
  unfold b_z
  split
  · rw [List.length_set,c_u,List.length_replicate]
  · rw [c_u,List.length_replicate]
theorem d_9 {m:Mpt} (h:MOk m) {b:List Int} (hb:Byts b):Byts (b_z m b):=by
  have hc:Byts (c_d (List.replicate (d_j m b) 0) b):=fun y hy=>by
    unfold c_d at hy
    rcases List.mem_append.1 hy with hy | hy
    · exact hb y (List.mem_of_mem_take hy)
    · have:=List.eq_of_mem_replicate (List.mem_of_mem_drop hy)
      rw [this];decide
  unfold b_z
  split
  · intro y hy
    rcases List.mem_or_eq_of_mem_set hy with hy | rfl
    · exact hc y hy
    · have:=(h.num b).1;omega
  · exact hc
theorem repR_0 {m:Mpt} (h:MOk m) (b:List Int) (hm:m.2.2 = true):byt (b_z m b) 0 = c_c m b:=by
  unfold b_z byt
  rw [if_pos hm,List.getD_eq_getElem?_getD,List.getElem?_set_self (by rw [c_u,List.length_replicate];have:=(c_T h b).1;omega)]
  rfl
theorem p11_eq {n:Nat} (hn:1100 ≤ n) {m:Mpt} (h:MOk m) (b:Sl Int) (hb:Byts b.xs):p11 n m b = some (⟨b_z m b.xs,some (d_j m b.xs)⟩,c_c m b.xs):=by
  have hk:=c_T h b.xs
  have e1:(if m.2.2 = true then ((if (decide ((a_m b) > 0)) = true then (idx b.xs 0).bind fun y_35=>some (decide (y_35 ≥ 128)) else some false).bind fun q_34=>(if q_34 = true then some (decide ((a_m m.1) > 2)) else some false).bind fun q_41=>(if q_41 = true then (idx m.1.xs 2).bind fun y_48=>some (y_48.1 == 1) else some false).bind fun q_45=>(if q_45 = true then (some 2) else some 1).bind fun (j_54:(Int))=>some j_54) else some 0) = some (c_c m b.xs):=by
    unfold c_c
    cases hm:m.2.2 with
    | false=>rfl
    | true =>
      rw [if_pos rfl,if_pos rfl,c_i (b:=decide (a_m b > 0)) (c:=decide (byt b.xs 0 ≥ 128)) (fun h=>by
        have h:=of_decide_eq_true h
        rw [a_z] at h
        rw [show (0:Int) = ((0:Nat):Int) from rfl,byt_of (by omega)];rfl),Option.bind_some,c_i (c:=decide (a_m m.1 > 2)) (fun _=>rfl),Option.bind_some,c_i (c:=decide ((m.1.xs[2]?.map (·.1)) = some 1)) (fun h=>by
        have h:=(Bool.and_eq_true _ _ ▸ h).2
        have h:=of_decide_eq_true h
        rw [a_z] at h
        have hl:2 < m.1.xs.length:=by omega
        rw [show (2:Int) = ((2:Nat):Int) from rfl,c_J hl,List.getElem?_eq_getElem hl]
        show some _ = some _
        rw [Option.map_some]
        congr 1
        rw [Bool.eq_iff_iff]
        simp),Option.bind_some]
      by_cases hc:0 < b.xs.length ∧ 128 ≤ byt b.xs 0 ∧ 2 < m.1.xs.length ∧ (m.1.xs[2]?.map (·.1)) = some 1
      · rw [if_pos hc]
        have:(decide (a_m b > 0) && decide (byt b.xs 0 ≥ 128) && decide (a_m m.1 > 2) && decide ((m.1.xs[2]?.map (·.1)) = some 1)) = true:=by
          rw [a_z,a_z]
          simp only [Bool.and_eq_true,decide_eq_true_eq]
          exact ⟨⟨⟨by omega,hc.2.1⟩,by omega⟩,hc.2.2.2⟩
        rw [if_pos this];rfl
      · rw [if_neg hc]
        have:¬ (decide (a_m b > 0) && decide (byt b.xs 0 ≥ 128) && decide (a_m m.1 > 2) && decide ((m.1.xs[2]?.map (·.1)) = some 1)) = true:=fun h=>hc (by
          rw [a_z,a_z] at h
          simp only [Bool.and_eq_true,decide_eq_true_eq] at h
          exact ⟨by omega,h.1.1.2,by omega,h.2⟩)
        rw [if_neg this];rfl
  unfold p11
  refine (congrArg (fun q=>Option.bind q _) e1).trans ?_
  rw [Option.bind_some,p32_eq hn m 1 _ (Nat.le_trans h.len (by decide)),Option.bind_some,mkI_ok (by omega) (by omega) (by omega),Option.bind_some]
  have e2:(b_R m 1 (c_c m b.xs)).toNat = d_j m b.xs:=rfl
  simp only [e2]
  rw [c_i (b:=m.2.2) (c:=true) (fun _=>by rw [c_e,c_u,List.length_replicate,decide_eq_true (by omega)]),Option.bind_some,Bool.and_true]
  unfold b_z
  cases hm:m.2.2 with
  | false=>rfl
  | true =>
    rw [if_pos rfl,if_pos rfl]
    have hl:0 < (c_d (List.replicate (d_j m b.xs) (0:Int)) b.xs).length:=by rw [c_u,List.length_replicate];omega
    have e3:idx (c_d (List.replicate (d_j m b.xs) (0:Int)) b.xs) 0 = some _:=c_J (i:=0) hl
    rw [e3]
    rfl
theorem tog_all:((List.range 256).all fun k=>(List.range 8).all fun la=>decide (0 ≤ tog (k:Int) (la:Int)) && decide (tog (k:Int) (la:Int) ≤ 7)) = true:=by kernel_rfl
theorem tog_rng {k la:Int} (hk:0 ≤ k ∧ k ≤ 255) (hl:0 ≤ la ∧ la ≤ 7):0 ≤ tog k la ∧ tog k la ≤ 7:=by
  have h:=List.all_eq_true.1 (List.all_eq_true.1 tog_all k.toNat (List.mem_range.2 (by omega))) la.toNat (List.mem_range.2 (by omega))
  rw [show ((k.toNat:Nat):Int) = k by omega,show ((la.toNat:Nat):Int) = la by omega] at h
  simpa using h
theorem lt_rng (l:List Nat) (hl:∀ k ∈ l,k < 256):∀ la,0 ≤ la ∧ la ≤ 7 → 0 ≤ lt l la ∧ lt l la ≤ 7:=by
  induction l with
  | nil=>intro la h;exact h
  | cons k l ih =>
    intro la h
    rw [e_v]
    have hk:=hl k (List.mem_cons_self ..)
    exact ih (fun q hq=>hl q (List.mem_cons_of_mem _ hq)) _ (tog_rng (by omega) h)
structure Inv (m:Mpt) (y:KBt) (c:List (Int × Sh)) (Y:Mdl) (T:Int):Prop where
  map:y.2.1 = cpM m
  rdy:y.2.2.1 = true
  lk:y.2.2.2.2.2.2.2 = [83,57,71]
  dn:y.1 = Y.2.1
  dok:okS y.1
  lamps:y.2.2.2.1 = Y.2.2.1
  la:0 ≤ Y.2.2.1 ∧ Y.2.2.1 ≤ 7
  held:y.2.2.2.2.2.1 = Y.2.2.2.1
  h0:0 ≤ Y.2.2.2.1 ∧ Y.2.2.2.1 ≤ 255
  time:TR y.2.2.2.2.2.2.1 Y.2.2.2.2
  tb:Y.2.2.2.2 ≤ T
  rel:RelC c Y.1
theorem Inv.new (m:Mpt):Inv m (newK m) [] ([Z2,Z2,Z2],Zs,0,0,0) 0:=⟨rfl,rfl,rfl,rfl,Zs_ok,rfl,by decide,rfl,by decide,TR.zero,by decide,RelC.nil⟩
theorem gr_rng (l:List Nat) (hl:∀ k ∈ l,k < 256):∀ g,0 ≤ g ∧ g ≤ 255 → 0 ≤ gr l g ∧ gr l g ≤ 255:=by
  induction l with
  | nil=>intro g h;exact h
  | cons k l ih =>
    intro g h
    rw [b_G]
    have hk:=hl k (List.mem_cons_self ..)
    refine ih (fun q hq=>hl q (List.mem_cons_of_mem _ hq)) _ ?_
    split
    · omega
    · exact h
theorem hz_rng (l:List Nat):∀ h,0 ≤ h ∧ h ≤ 255 → 0 ≤ hz l h ∧ hz l h ≤ 255:=by
  induction l with
  | nil=>intro h hh;exact hh
  | cons k l ih =>
    intro h hh
    rw [hz_cons]
    refine ih _ ?_
    split
    · decide
    · exact hh
theorem e_Y (p:Nat → Bool) (i:Nat):∀ k ∈ sfx p i,k < 256:=fun k hk=>(sfx_mem.1 hk).1.2
theorem rpV_idx (m:Mpt) (b:List Int) (k r:Int):∀ (l:List Fd) (i:Nat),∀ v ∈ rpV m b k r i l,(i:Int) ≤ v.1 ∧ v.1 < ((i + l.length:Nat):Int)
  | [],i,v,h=>by cases h
  | f :: l,i,v,h=>by
    have h:v ∈ (if mt k r f = true then fdV m b i f 0 else []) ++ rpV m b k r (i + 1) l:=h
    rw [List.length_cons]
    rcases List.mem_append.1 h with h | h
    · have hv:v.1 = i:=by
        split at h
        · unfold fdV at h
          obtain ⟨j,_,hj⟩:=List.mem_flatMap.1 h
          unfold elV at hj
          split at hj
          · rw [List.mem_singleton.1 hj]
          · cases hj
        · cases h
      omega
    · have:=rpV_idx m b k r l (i + 1) v h
      omega
theorem stV_cp (fs:List Fd):stV (fs.map cpF) = stV fs:=by
  funext s v
  have e:((fs.map cpF)[v.1.toNat]?.map fAr) = (fs[v.1.toNat]?.map fAr):=by
    rw [List.getElem?_map,Option.map_map];rfl
  unfold stV
  rw [e]
theorem nowF_cp (fs:List Fd) (vs:List Vl) (X:Sh):c_R (fs.map cpF) vs X = c_R fs vs X:=by unfold c_R;rw [stV_cp]
def vsR (m:Mpt) (b:List Int):List Vl:=rpV m (b_z m b) 1 (c_c m b) 0 m.1.xs
theorem rep_num {m:Mpt} (h:MOk m) (b:List Int):(if m.2.2 = true then byt (b_z m b) 0 else 0) = c_c m b:=by
  cases hm:m.2.2 with
  | true=>rw [if_pos rfl];exact repR_0 h b hm
  | false=>unfold c_c;rw [hm,if_neg (show ¬ (false = true) by decide),if_neg (show ¬ (false = true) by decide)]
theorem vsR_len {m:Mpt} (h:MOk m) (b:List Int):(vsR m b).length ≤ 1536:=by
  have:=rpV_len m h.ppr (b_z m b) 1 (c_c m b) m.1.xs 0 (fun f hf=>hf)
  have:=h.len
  unfold vsR
  omega
theorem vsR_idx (m:Mpt) (b:List Int):∀ v ∈ vsR m b,0 ≤ v.1 ∧ v.1 < (m.1.xs.length:Int):=fun v hv=>by
  have:=rpV_idx m (b_z m b) 1 (c_c m b) m.1.xs 0 v hv
  omega
theorem MOk.cp {m:Mpt} (h:MOk m):Us (cpM m) ∧ Us m ∧ (cpM m).1.xs.length ≤ 1000 ∧ m.1.xs.length ≤ 1000:=by
  refine ⟨fun f hf=>?_,fun f hf=>Nat.le_trans (h.us f hf) (by decide),?_,Nat.le_trans h.len (by decide)⟩
  · obtain ⟨g,hg,rfl⟩:=List.mem_map.1 hf
    exact Nat.le_trans (h.us g hg) (by decide)
  · show (m.1.xs.map cpF).length ≤ 1000
    rw [List.length_map];exact Nat.le_trans h.len (by decide)
theorem val_rep {n:Nat} (hn:2000 ≤ n) {m:Mpt} (h:MOk m) {b:List Int} (hb:Byts b) (cc:Option Nat):∃ c,p23 n m 1 ⟨b_z m b,cc⟩ = some (⟨vsR m b,c⟩,0) ∧ p23 n (cpM m) 1 ⟨b_z m b,cc⟩ = some (⟨vsR m b,c⟩,0):=by
  have hk:=rep_num h b
  have hr:=c_T h b
  have hl:=c_U m b
  have hne:¬ (m.2.2 = true ∧ (b_z m b) = []):=fun q=>by rw [q.2] at hl;simp at hl;omega
  have e1:=p23_good (by omega:1100 ≤ n) m h.cp.2.2.2 h.cp.2.1 1 ⟨b_z m b,cc⟩ (d_9 h hb) h.ppr hne (by show c_M _ _ (if m.2.2 = true then byt (b_z m b) 0 else 0) = _;rw [hk];exact (h.num b).2.1) (by show ((b_z m b).length:Int) = b_R m 1 (if m.2.2 = true then byt (b_z m b) 0 else 0);rw [hk,hl];exact hr.2.2)
  have e2:=p23_good (by omega:1100 ≤ n) (cpM m) h.cp.2.2.1 h.cp.1 1 ⟨b_z m b,cc⟩ (d_9 h hb) ((Ppr_cp m).2 h.ppr) hne (by show c_M (m.1.xs.map cpF) _ (if m.2.2 = true then byt (b_z m b) 0 else 0) = _;rw [hk,e_A];exact (h.num b).2.1) (by show ((b_z m b).length:Int) = b_R (cpM m) 1 (if m.2.2 = true then byt (b_z m b) 0 else 0);rw [hk,lenR_cp,hl];exact hr.2.2)
  have er:rpV m (b_z m b) 1 (if m.2.2 = true then byt (b_z m b) 0 else 0) 0 m.1.xs = vsR m b:=by rw [hk];rfl
  have er2:rpV (cpM m) (b_z m b) 1 (if (cpM m).2.2 = true then byt (b_z m b) 0 else 0) 0 (cpM m).1.xs = vsR m b:=by
    show rpV (cpM m) (b_z m b) 1 (if m.2.2 = true then byt (b_z m b) 0 else 0) 0 (m.1.xs.map cpF) = _
    rw [hk,rpV_cp];rfl
  simp only [er,er2] at e1 e2
  exact ⟨_,e1,e2⟩
theorem e_Z {n:Nat} (hn:2000 ≤ n) {m:Mpt} (h:MOk m) {b:List Int} (hb:Byts b) (cc:Option Nat) {y:KBt} {c:List (Int × Sh)} {Y:Mdl} {T:Int} (hT:0 ≤ T) (I:Inv m y c Y T) :
    ∃ vs y' c' Y',p23 n m 1 ⟨b_z m b,cc⟩ = some (vs,0) ∧ p12 n y c ⟨b_z m b,cc⟩ = some (⟨b_S y.1 y'.1,some (b_S y.1 y'.1).length⟩,0,y',c') ∧ p24 n Y m (c_c m b) vs = some (⟨b_S y.1 y'.1,.none⟩,Y') ∧ Inv m y' c' Y' T ∧ y'.2.2.2.2.1 = y.2.2.2.2.1:=by
  obtain ⟨cv,e1,e2⟩:=val_rep hn h hb cc
  have hnum:=h.num b
  have hr:=c_T h b
  obtain ⟨X,hX,_⟩:=I.rel.at_ (c_c m b).toNat (by omega)
  have hnm:(if y.2.1.2.2 = true then ((idx (b_z m b) 0).bind fun q=>some q) else some 0) = some (c_c m b):=by
    rw [I.map]
    show (if m.2.2 = true then _ else _) = _
    cases hm:m.2.2 with
    | true =>
      have e:idx (b_z m b) 0 = some (byt (b_z m b) 0):=byt_of (i:=0) (by rw [c_U];omega)
      rw [if_pos rfl,e,repR_0 h b hm];rfl
    | false =>
      unfold c_c
      rw [hm,if_neg (show ¬ (false = true) by decide),if_neg (show ¬ (false = true) by decide)]
  have hvl:=vsR_len h b
  obtain ⟨c',R',e3⟩:=p12_eq (by omega:1200 ≤ n) y c ⟨b_z m b,cc⟩ ⟨vsR m b,cv⟩ (c_c m b) I.rdy I.lk I.dok.1 (by rw [I.map];exact e2) (by show (vsR m b).length < n;omega) (by show (vsR m b).length ≤ 1000000;omega)
    (fun v hv=>by have:=vsR_idx m b v hv;rw [I.map];show 0 ≤ v.1 ∧ v.1 < ((m.1.xs.map cpF).length:Int);rw [List.length_map];exact this) hnm hnum.1 I.rel hX
  have hf:c_R y.2.1.1.xs (vsR m b) X = c_R m.1.xs (vsR m b) X:=by rw [I.map];exact nowF_cp _ _ _
  simp only [hf] at R' e3
  have e4:=p24_eq (n:=n) (.inr (by omega)) (by omega) Y m (c_c m b) ⟨vsR m b,cv⟩ (by show (vsR m b).length < n;omega) (by show (vsR m b).length ≤ 1000000;omega) (vsR_idx m b) hnum.1 hX I.rel.ok I.rel.ln (by rw [← I.dn];exact I.dok.1)
  simp only at e4
  have hno:=allK_0 R'.ok
  have hnl:=c_Q (Y.1.set (c_c m b).toNat (c_R m.1.xs (vsR m b) X))
  generalize Y.1.set (c_c m b).toNat (c_R m.1.xs (vsR m b) X) = sh at *
  generalize e_z sh = nx at *
  rw [← I.dn] at e4
  refine ⟨_,kbx y nx,c',nxt (sh,Y.2) nx,e1,e3,e4,?_,rfl⟩
  have hd:Y.2.1 = y.1:=I.dn.symm
  refine ⟨I.map,I.rdy,I.lk,rfl,⟨hnl,hno⟩,?_,lt_rng _ (e_Y _ _) _ I.la,?_,?_,?_,?_,R'⟩
  · show lt (sfx (upP nx y.1) 0) y.2.2.2.1 = lt (sfx (upP nx Y.2.1) 0) Y.2.2.1
    rw [hd,I.lamps]
  · show (if gr (sfx (upP nx y.1) 0) 0 > 0 then gr (sfx (upP nx y.1) 0) 0 else hz (sfx (upP y.1 nx) 0) y.2.2.2.2.2.1) = (if gr (sfx (upP nx Y.2.1) 0) 0 > 0 then gr (sfx (upP nx Y.2.1) 0) 0 else hz (sfx (upP Y.2.1 nx) 0) Y.2.2.2.1)
    rw [hd,I.held]
  · show 0 ≤ (if gr (sfx (upP nx Y.2.1) 0) 0 > 0 then gr (sfx (upP nx Y.2.1) 0) 0 else hz (sfx (upP Y.2.1 nx) 0) Y.2.2.2.1) ∧ (if gr (sfx (upP nx Y.2.1) 0) 0 > 0 then gr (sfx (upP nx Y.2.1) 0) 0 else hz (sfx (upP Y.2.1 nx) 0) Y.2.2.2.1) ≤ 255
    split
    · exact gr_rng _ (e_Y _ _) 0 (by decide)
    · exact hz_rng _ _ I.h0
  · show TR (if gr (sfx (upP nx y.1) 0) 0 > 0 then 0 else y.2.2.2.2.2.2.1) (if gr (sfx (upP nx Y.2.1) 0) 0 > 0 then 0 else Y.2.2.2.2)
    rw [hd]
    split
    · exact TR.zero
    · exact I.time
  · show (if gr (sfx (upP nx Y.2.1) 0) 0 > 0 then 0 else Y.2.2.2.2) ≤ T
    split
    · exact hT
    · exact I.tb
theorem feed_inv {n:Nat} (hn:2000 ≤ n) {m:Mpt} (h:MOk m) {b:List Int} (hb:Byts b) (cc:Option Nat) {y:KBt} {c:List (Int × Sh)} {Y:Mdl} {T:Int} (hT:0 ≤ T) (I:Inv m y c Y T) :
    ∃ vs y' c' Y',p23 n m 1 ⟨b_z m b,cc⟩ = some (vs,0) ∧ p12 n y c ⟨b_z m b,cc⟩ = some (⟨b_S y.1 y'.1,some (b_S y.1 y'.1).length⟩,0,y',c') ∧ p24 n Y m (c_c m b) vs = some (⟨b_S y.1 y'.1,.none⟩,Y') ∧ Inv m y' c' Y' T:=by
  obtain ⟨vs,y',c',Y',h1,h2,h3,h4,_⟩:=e_Z hn h hb cc hT I
  exact ⟨vs,y',c',Y',h1,h2,h3,h4⟩
def c_V (a:List Bool) (i:Nat):List Int:=(sfx (a_S a) i).map fun (k:Nat)=>(k:Int)
theorem d_k (a:List Bool) {i:Nat} (h:i < 256):c_V a i = if a_S a i = true then (i:Int) :: c_V a (i + 1) else c_V a (i + 1):=by
  unfold c_V
  rw [c_r _ h]
  split <;> rfl
theorem p34_l1_eq (n:Nat) (a:List Bool) (ha:a.length = 256):∀ (m i:Nat) (k:Int),0 ≤ k → k ≤ i → 256 - i < m → i ≤ 256 → p34_l1 n a m i k = some (k + (c_V a i).length):=by
  intro m
  induction m with
  | zero=>intro i k _ _ hm;exact absurd hm (by omega)
  | succ m ih =>
    intro i k hk0 hk hm hi
    rw [p34_l1]
    by_cases hlt:i < 256
    · rw [b_U (by omega),a_2 (by omega),Option.bind_some,d_k a hlt]
      cases a_S a i with
      | true =>
        rw [if_pos rfl,if_pos rfl,ckS (by omega) (by omega),Option.bind_some,Option.bind_some,ckS (by omega) (by omega),Option.bind_some,a_Q,ih (i + 1) _ (by omega) (by omega) (by omega) (by omega),List.length_cons]
        congr 1;omega
      | false =>
        rw [if_neg (by decide),if_neg (by decide),Option.bind_some,ckS (by omega) (by omega),Option.bind_some,a_Q,ih (i + 1) _ hk0 (by omega) (by omega) (by omega)]
    · rw [b_V (by omega)]
      unfold c_V
      rw [c_f _ (by omega)];simp
theorem p34_l2_eq (n:Nat) (a:List Bool) (ha:a.length = 256):∀ (m i:Nat) (l:List Int),l.length ≤ i → 256 - i < m → i ≤ 256 → p34_l2 n a m i l = some (l ++ c_V a i):=by
  intro m
  induction m with
  | zero=>intro i l _ hm;exact absurd hm (by omega)
  | succ m ih =>
    intro i l hl hm hi
    rw [p34_l2]
    by_cases hlt:i < 256
    · rw [b_U (by omega),a_2 (by omega),Option.bind_some,d_k a hlt,u8_id hlt]
      cases a_S a i with
      | true =>
        rw [if_pos rfl,if_pos rfl,b_j (by omega),Option.bind_some,Option.bind_some,ckS (by omega) (by omega),Option.bind_some,a_Q,ih (i + 1) _ (by rw [List.length_append,List.length_singleton];omega) (by omega) (by omega),List.append_assoc]
        rfl
      | false =>
        rw [if_neg (by decide),if_neg (by decide),Option.bind_some,ckS (by omega) (by omega),Option.bind_some,a_Q,ih (i + 1) _ (by omega) (by omega) (by omega)]
    · rw [b_V (by omega)]
      unfold c_V
      rw [c_f _ (by omega)];simp
theorem p13_eq {n:Nat} (hn:300 ≤ n) (y:KBt) (hy:y.1.length = 256):p13 n y = some (⟨c_V y.1 0,.none⟩,y):=by
  have e1:=p34_l1_eq n y.1 hy n 0 0 (by omega) (by omega) (by omega) (by omega)
  have e2:=p34_l2_eq n y.1 hy n 0 [] (by simp) (by omega) (by omega)
  rw [show ((0:Nat):Int) = 0 from rfl] at e1 e2
  have hl:(c_V y.1 0).length ≤ 256:=by unfold c_V;rw [List.length_map];exact c_D _ _
  unfold p13 p34
  rw [e1,Option.bind_some,mkI_ok (by omega) (by omega) (by omega),Option.bind_some]
  refine (congrArg (fun q=>Option.bind (Option.bind q _) _) e2).trans ?_
  rfl
theorem tick_eq (n:Nat) (y:KBt) (Y:Mdl) (hr:y.2.2.1 = true) (hh:y.2.2.2.2.2.1 = Y.2.2.2.1) (h0:0 ≤ Y.2.2.2.1 ∧ Y.2.2.2.1 ≤ 255) (ht:TR y.2.2.2.2.2.2.1 Y.2.2.2.2) (hb:Y.2.2.2.2 ≤ 1000000) :
    ∃ (l:List Ev) (c c':Option Nat) (t t':Int),l.length ≤ 1 ∧ p19 n y = some (⟨l,c⟩,(y.1,y.2.1,y.2.2.1,y.2.2.2.1,y.2.2.2.2.1,y.2.2.2.2.2.1,t,y.2.2.2.2.2.2.2)) ∧ p20 n Y = some (⟨l,c'⟩,(Y.1,Y.2.1,Y.2.2.1,Y.2.2.2.1,t')) ∧ TR t t' ∧ t' ≤ Y.2.2.2.2 + 1:=by
  obtain ⟨y1,y2,y3,y4,y5,y6,tc,y8⟩:=y
  obtain ⟨Y1,Y2,Y3,Y4,tm⟩:=Y
  obtain rfl:y3 = true:=hr
  obtain rfl:y6 = Y4:=hh
  simp only at h0 ht hb ⊢
  obtain ⟨h1,h2,q,hq,he,hc⟩:=ht
  unfold p19 p20
  simp only
  rw [orO (c:=(y6 == 0)) (fun _=>rfl),Option.bind_some]
  cases hz:(y6 == 0) with
  | true =>
    refine ⟨[],some 0,some 0,tc,tm,by simp,rfl,rfl,⟨h1,h2,q,hq,he,hc⟩,by omega⟩
  | false =>
    rw [if_neg (show ¬ ((!true || false) = true) by decide),if_neg (show ¬ (false = true) by decide),ckS (by omega) (by omega),ckS (by omega) (by omega),Option.bind_some,Option.bind_some]
    by_cases hx:tc + 1 < 20
    · have hq0:q = 0:=by omega
      rw [orO (b:=decide (tc + 1 < 20)) (c:=true) (fun h=>by rw [decide_eq_true hx] at h;cases h),Option.bind_some,decide_eq_true hx,Bool.true_or,if_pos rfl]
      rw [c_i (b:=decide (tm + 1 ≥ 20)) (c:=false) (fun h=>by have:=of_decide_eq_true h;omega),Option.bind_some,decide_eq_false (by omega),Bool.false_and,if_neg (by decide)]
      exact ⟨[],some 0,some 0,tc + 1,tm + 1,by simp,rfl,rfl,⟨by omega,by omega,q,hq,by omega,.inl hq0⟩,by omega⟩
    · have hm:(tm + 1 - 20) % 3 = (tc + 1 - 20) % 3:=by omega
      rw [orO (b:=decide (tc + 1 < 20)) (c:=((tc + 1 - 20) % 3 != 0)) (fun _=>by rw [ckS (by omega) (by omega),Option.bind_some,remS (by omega) (by decide) (by omega),Option.bind_some]),Option.bind_some,decide_eq_false hx,Bool.false_or]
      rw [c_i (b:=decide (tm + 1 ≥ 20)) (c:=((tm + 1 - 20) % 3 == 0)) (fun _=>by rw [ckS (by omega) (by omega),Option.bind_some,remS (by omega) (by decide) (by omega),Option.bind_some]),Option.bind_some,decide_eq_true (by omega),Bool.true_and,hm]
      by_cases h3:(tc + 1 - 20) % 3 = 0
      · rw [h3,if_neg (show ¬ (((0:Int) != 0) = true) by decide),if_pos (show ((0:Int) == 0) = true from rfl),b_P,show y6 % 256 = y6 by omega]
        by_cases h23:tc + 1 = 23
        · rw [if_pos (show (tc + 1 == 23) = true by simp [h23]),Option.bind_some]
          exact ⟨[(y6,true,true)],some 1,some 1,20,tm + 1,by simp,rfl,rfl,⟨by decide,by decide,q + 1,by omega,by omega,.inr (by decide)⟩,by omega⟩
        · rw [if_neg (show ¬ (tc + 1 == 23) = true by simp [h23]),Option.bind_some]
          exact ⟨[(y6,true,true)],some 1,some 1,tc + 1,tm + 1,by simp,rfl,rfl,⟨by omega,by omega,q,hq,by omega,by omega⟩,by omega⟩
      · rw [if_pos (show ((tc + 1 - 20) % 3 != 0) = true by simp [h3]),if_neg (show ¬ (((tc + 1 - 20) % 3 == 0) = true) by simp [h3])]
        exact ⟨[],some 0,some 0,tc + 1,tm + 1,by simp,rfl,rfl,⟨by omega,by omega,q,hq,by omega,by omega⟩,by omega⟩
theorem tick_inv (n:Nat) {m:Mpt} {y:KBt} {c:List (Int × Sh)} {Y:Mdl} {T:Int} (hT:T ≤ 1000000) (I:Inv m y c Y T) :
    ∃ (l:List Ev) (a a':Option Nat) (y':KBt) (Y':Mdl),l.length ≤ 1 ∧ p19 n y = some (⟨l,a⟩,y') ∧ p20 n Y = some (⟨l,a'⟩,Y') ∧ Inv m y' c Y' (T + 1) ∧ Y'.2.1 = Y.2.1:=by
  obtain ⟨l,a,a',t,t',h1,h2,h3,h4,h5⟩:=tick_eq n y Y I.rdy I.held I.h0 I.time (Int.le_trans I.tb hT)
  exact ⟨l,a,a',_,_,h1,h2,h3,⟨I.map,I.rdy,I.lk,I.dn,I.dok,I.lamps,I.la,I.held,I.h0,h4,by have:=I.tb;show t' ≤ T + 1;omega,I.rel⟩,rfl⟩
theorem p22_eq' {n:Nat} (hn:300 ≤ n) (y:KBt) (c:List (Int × Sh)) (hr:y.2.2.1 = true) (hy:y.1.length = 256):p22 n y c = some (⟨b_S y.1 Zs,some (b_S y.1 Zs).length⟩,(Zs,y.2.1,y.2.2.1,y.2.2.2.1,y.2.2.2.2.1,0,y.2.2.2.2.2.2.1,y.2.2.2.2.2.2.2),[]):=by
  unfold p22
  rw [hr,if_neg (show ¬ ((!true) = true) by decide)]
  have e:=p33_eq hn (y.1,y.2.1,true,y.2.2.2.1,y.2.2.2.2.1,0,y.2.2.2.2.2.2.1,y.2.2.2.2.2.2.2) Zs hy Zs_ok.1
  refine (congrArg (fun q=>Option.bind q _) e).trans ?_
  rfl
theorem clear_inv {n:Nat} (hn:300 ≤ n) {m:Mpt} {y:KBt} {c:List (Int × Sh)} {Y:Mdl} {T:Int} (I:Inv m y c Y T) :
    ∃ (l:List Ev) (a a':Option Nat) (y':KBt) (Y':Mdl),l.length ≤ 512 ∧ p22 n y c = some (⟨l,a⟩,y',[]) ∧ p21 n ([Z2,Z2,Z2],Y.2) Zs = some (⟨l,a'⟩,Y') ∧ Inv m y' [] (Y'.1,Y'.2.1,Y'.2.2.1,0,Y'.2.2.2.2) T ∧ Y'.2.1 = Zs:=by
  have e1:=p22_eq' hn y c I.rdy I.dok.1
  have e2:=p21_eq hn ([Z2,Z2,Z2],Y.2) Zs (by show Y.2.1.length = 256;rw [← I.dn];exact I.dok.1) Zs_ok.1
  rw [nxt_Zs] at e2
  have hd:Y.2.1 = y.1:=I.dn.symm
  simp only [hd] at e2
  exact ⟨_,_,_,_,_,c_S _ _,e1,e2,⟨I.map,I.rdy,I.lk,rfl,Zs_ok,I.lamps,I.la,rfl,⟨Int.le_refl 0,(by decide:(0:Int) ≤ 255)⟩,I.time,I.tb,RelC.nil⟩,rfl⟩
abbrev Act':=Int × (Sl Int)
theorem p4_l2_eq (n:Nat) (hn:10 ≤ n) {mm:Mpt} (x:Sl Act') (q:Nat) (e:Act') (he:idx x.xs (q:Int) = some e) {c:List (Int × Sh)}:∀ (m j:Nat) (y:KBt) (Y:Mdl) (T:Int),T + 60 ≤ 1000000 + j → 60 - j < m → j ≤ 60 → Inv mm y c Y T →
    ∃ y' Y',p4_l2 n x q m j y Y = some (.inl (y',Y')) ∧ Inv mm y' c Y' (T + (60 - j)) ∧ Y'.2.1 = Y.2.1:=by
  intro m
  induction m with
  | zero=>intro j y Y T _ hm;exact absurd hm (by omega)
  | succ m ih =>
    intro j y Y T hT hm hj I
    rw [p4_l2,he,Option.bind_some,c_i (b:=decide ((j:Int) < a_m e.2)) (c:=decide ((j:Int) < 60)) (fun _=>rfl),Option.bind_some]
    by_cases hc:(decide ((j:Int) < a_m e.2) && decide ((j:Int) < 60)) = true
    · have h60:j < 60:=by
        have:=of_decide_eq_true (Bool.and_eq_true _ _ ▸ hc).2
        omega
      rw [if_pos hc]
      obtain ⟨l,a,a',y',Y',h1,h2,h3,I',hd⟩:=tick_inv n (by omega) I
      refine (fun R=>?_:(∃ y'' Y'',p4_l2 n x q m ((j + 1:Nat):Int) y' Y' = some (.inl (y'',Y'')) ∧ Inv mm y'' c Y'' (T + 1 + (60 - (j + 1:Nat))) ∧ Y''.2.1 = Y'.2.1) → _) (ih (j + 1) y' Y' (T + 1) (by omega) (by omega) (by omega) I')
      obtain ⟨y'',Y'',r1,r2,r3⟩:=R
      refine ⟨y'',Y'',?_,?_,r3.trans hd⟩
      · refine (congrArg (fun q=>Option.bind q _) h2).trans ?_
        rw [Option.bind_some,h3,Option.bind_some]
        refine (congrArg (fun q=>Option.bind q _) (p18_refl l a a' (by omega) (by omega))).trans ?_
        rw [Option.bind_some,if_neg (show ¬ ((!true) = true) by decide),ckS (by omega) (by omega),Option.bind_some,a_Q]
        exact r1
      · have:T + 1 + (60 - ((j + 1:Nat):Int)) = T + (60 - (j:Int)):=by omega
        rw [← this];exact r2
    · rw [if_neg hc]
      refine ⟨y,Y,rfl,⟨I.map,I.rdy,I.lk,I.dn,I.dok,I.lamps,I.la,I.held,I.h0,I.time,?_,I.rel⟩,rfl⟩
      have:=I.tb
      omega
def apE (c:List Bool) (e:Ev):List Bool:=c.set e.1.toNat e.2.1
theorem apE_len (l:List Ev):∀ c,(l.foldl apE c).length = c.length:=by
  induction l with
  | nil=>intro c;rfl
  | cons e l ih=>intro c;rw [List.foldl_cons,ih];unfold apE;rw [List.length_set]
def Goes (c:List Bool) (l:List Ev):Prop:=(∀ e ∈ l,∃ k:Nat,e.1 = (k:Int) ∧ k < 256 ∧ e.2.2 = false ∧ a_S c k = !e.2.1) ∧ l.Pairwise fun a b=>a.1 ≠ b.1
theorem p4_l3_eq (n:Nat) (t:(Sl Ev) × Int × KBt × List (Int × Sh)) (hL:t.1.xs.length ≤ 1000000):∀ (m i:Nat) (c:List Bool),c.length = 256 → Goes c (t.1.xs.drop i) → t.1.xs.length - i < m → i ≤ t.1.xs.length →
    p4_l3 n t m i c = some (.inl ((t.1.xs.drop i).foldl apE c)):=by
  intro m
  induction m with
  | zero=>intro i c _ _ hm;exact absurd hm (by omega)
  | succ m ih =>
    intro i c hc hg hm hi
    rw [p4_l3]
    by_cases hlt:i < t.1.xs.length
    · rw [b_U (by rw [a_z];omega),c_J hlt,a_R hlt,List.foldl_cons]
      rw [a_R hlt] at hg
      generalize t.1.xs[i] = e at hg
      obtain ⟨h1,h2⟩:=hg
      obtain ⟨k,hk,hk2,hk3,hk4⟩:=h1 e (List.mem_cons_self ..)
      have h2':=List.pairwise_cons.1 h2
      simp only [Option.bind_some]
      rw [hk3,if_pos rfl,hk,a_2 (by omega),Option.bind_some,Option.bind_some]
      rw [show (a_S c k == e.2.1) = false by rw [hk4];cases e.2.1 <;> rfl,if_neg (show ¬ (false = true) by decide),Option.bind_some,ckS (by omega) (by omega),Option.bind_some,a_Q]
      have e2:c.set (k:Int).toNat e.2.1 = apE c e:=by unfold apE;rw [hk]
      rw [e2]
      refine ih (i + 1) _ (by unfold apE;rw [List.length_set];exact hc) ⟨fun e' he'=>?_,h2'.2⟩ (by omega) (by omega)
      obtain ⟨k',g1,g2,g3,g4⟩:=h1 e' (List.mem_cons_of_mem _ he')
      refine ⟨k',g1,g2,g3,?_⟩
      have hne:=h2'.1 e' he'
      unfold apE
      rw [hk,Int.toNat_natCast,c_t (by omega),if_neg (fun e0=>hne (by rw [hk,g1,e0])),g4]
    · rw [b_V (by rw [a_z];omega),List.drop_eq_nil_of_le (by omega)]
      rfl
theorem goes_evs (a b:List Bool):Goes a (b_S a b):=by
  unfold Goes b_S
  refine ⟨fun e he=>?_,List.pairwise_append.2 ⟨?_,?_,?_⟩⟩
  · rcases List.mem_append.1 he with he | he
    · obtain ⟨k,hk,rfl⟩:=List.mem_map.1 he
      have h:=sfx_mem.1 hk
      refine ⟨k,rfl,h.1.2,rfl,?_⟩
      have:=h.2
      unfold upP at this
      exact (Bool.and_eq_true _ _ ▸ this).1
    · obtain ⟨k,hk,rfl⟩:=List.mem_map.1 he
      have h:=sfx_mem.1 hk
      refine ⟨k,rfl,h.1.2,rfl,?_⟩
      have:=h.2
      unfold upP at this
      have:=(Bool.and_eq_true _ _ ▸ this).2
      simpa using this
  · unfold evU
    rw [List.pairwise_map]
    exact (e_t _ _).imp fun h=>by show ((_:Nat):Int) ≠ _;omega
  · unfold evD
    rw [List.pairwise_map]
    exact (e_t _ _).imp fun h=>by show ((_:Nat):Int) ≠ _;omega
  · intro e he e' he' heq
    obtain ⟨k,hk,rfl⟩:=List.mem_map.1 he
    obtain ⟨k',hk',rfl⟩:=List.mem_map.1 he'
    have h1:=(sfx_mem.1 hk).2
    have h2:=(sfx_mem.1 hk').2
    have:k = k':=by
      have:((k:Nat):Int) = (k':Int):=heq
      omega
    subst this
    unfold upP at h1 h2
    have g1:=(Bool.and_eq_true _ _ ▸ h1).1
    have g2:=(Bool.and_eq_true _ _ ▸ h2).2
    rw [g1] at g2
    cases g2
theorem apU_bit (l:List Nat):∀ (c:List Bool),c.length = 256 → (∀ k ∈ l,k < 256) → ∀ k,a_S ((evU l).foldl apE c) k = if k ∈ l then false else a_S c k:=by
  induction l with
  | nil=>intro c _ _ k;simp [evU]
  | cons q l ih =>
    intro c hc hl k
    have hq:=hl q (List.mem_cons_self ..)
    rw [e_V,List.singleton_append,List.foldl_cons,ih _ (by unfold apE;rw [List.length_set];exact hc) (fun k hk=>hl k (List.mem_cons_of_mem _ hk))]
    unfold apE
    show (if k ∈ l then false else a_S (c.set (q:Int).toNat false) k) = _
    rw [Int.toNat_natCast,c_t (by omega)]
    by_cases h1:k ∈ l <;> by_cases h2:k = q <;> simp [h1,h2]
theorem apD_bit (l:List Nat):∀ (c:List Bool),c.length = 256 → (∀ k ∈ l,k < 256) → ∀ k,a_S ((evD l).foldl apE c) k = if k ∈ l then true else a_S c k:=by
  induction l with
  | nil=>intro c _ _ k;simp [evD]
  | cons q l ih =>
    intro c hc hl k
    have hq:=hl q (List.mem_cons_self ..)
    rw [d_F,List.singleton_append,List.foldl_cons,ih _ (by unfold apE;rw [List.length_set];exact hc) (fun k hk=>hl k (List.mem_cons_of_mem _ hk))]
    unfold apE
    show (if k ∈ l then true else a_S (c.set (q:Int).toNat true) k) = _
    rw [Int.toNat_natCast,c_t (by omega)]
    by_cases h1:k ∈ l <;> by_cases h2:k = q <;> simp [h1,h2]
theorem play_evs {a b:List Bool} (ha:a.length = 256) (hb:b.length = 256):(b_S a b).foldl apE a = b:=by
  refine c_s (by rw [apE_len];exact ha) hb fun k hk=>?_
  unfold b_S
  rw [List.foldl_append,apD_bit _ _ (by rw [apE_len];exact ha) (e_Y _ _),apU_bit _ _ ha (e_Y _ _)]
  have e1:(k ∈ sfx (upP b a) 0) ↔ upP b a k = true:=⟨fun h=>(sfx_mem.1 h).2,fun h=>sfx_mem.2 ⟨⟨Nat.zero_le _,hk⟩,h⟩⟩
  have e2:(k ∈ sfx (upP a b) 0) ↔ upP a b k = true:=⟨fun h=>(sfx_mem.1 h).2,fun h=>sfx_mem.2 ⟨⟨Nat.zero_le _,hk⟩,h⟩⟩
  simp only [e1,e2]
  unfold upP
  cases a_S a k <;> cases a_S b k <;> simp
theorem p4_l4_eq (n:Nat) (s:KBt × (List (Int × Sh)) × Mdl × (List Bool)) (t:(Sl Int) × KBt) (a:List Bool) (ha:a.length = 256) (h1:s.2.2.2 = a) (h2:s.2.2.1.2.1 = a) (ht:t.1.xs = c_V a 0):∀ (m i k:Nat),k ≤ (c_V a 0).length → c_V a i = (c_V a 0).drop k → 256 - i < m → i ≤ 256 →
    p4_l4 n s t m i k = some (.inl ((c_V a 0).length:Int)):=by
  have hL:(c_V a 0).length ≤ 256:=by unfold c_V;rw [List.length_map];exact c_D _ _
  intro m
  induction m with
  | zero=>intro i k _ _ hm;exact absurd hm (by omega)
  | succ m ih =>
    intro i k hk hd hm hi
    rw [p4_l4]
    by_cases hlt:i < 256
    · rw [b_U (by omega),h1,h2,a_2 (by omega),Option.bind_some,Option.bind_some,show (a_S a i == a_S a i) = true by simp,if_neg (show ¬ ((!true) = true) by decide),Option.bind_some]
      rw [d_k a hlt] at hd
      cases hb:a_S a i with
      | false =>
        rw [hb,if_neg (by decide)] at hd
        rw [if_neg (show ¬ (false = true) by decide),Option.bind_some,d_W,ckS (by omega) (by omega),Option.bind_some,a_Q]
        exact ih (i + 1) k hk hd (by omega) (by omega)
      | true =>
        rw [hb,if_pos rfl] at hd
        have hkl:k < (c_V a 0).length:=by
          rcases Nat.lt_or_ge k (c_V a 0).length with h | h
          · exact h
          · rw [List.drop_eq_nil_of_le h] at hd;cases hd
        rw [a_R hkl] at hd
        have hd':=List.cons.inj hd
        have e1:¬ (decide ((k:Int) ≥ a_m t.1) = true):=by rw [a_z,ht,decide_eq_false (by omega)];decide
        have e2:idx t.1.xs (k:Int) = some (i:Int):=by rw [ht,c_J hkl,← hd'.1]
        rw [if_pos rfl,if_neg e1,e2,Option.bind_some,if_neg (show ¬ (((i:Int) != (i:Int)) = true) by simp),ckS (by omega) (by omega),Option.bind_some,Option.bind_some,d_W,ckS (by omega) (by omega),Option.bind_some,a_Q,a_Q]
        exact ih (i + 1) (k + 1) (by omega) hd'.2 (by omega) (by omega)
    · rw [b_V (by omega)]
      have e0:c_V a i = []:=by unfold c_V;rw [c_f _ (by omega)];rfl
      rw [e0] at hd
      have:(c_V a 0).length ≤ k:=by
        have:=congrArg List.length hd
        rw [List.length_drop] at this
        simp at this
        omega
      congr 2
      omega
set_option maxRecDepth 100000 in
theorem p8_ok:p8 2000 = some true:=by kernel_rfl
theorem map_ok (x:Bool × Int × Bool × Int) (hk:0 ≤ x.2.1 ∧ x.2.1 ≤ 255) (hl:0 ≤ x.2.2.2 ∧ x.2.2.2 ≤ 255):∃ m,p9 2000 x = some m ∧ MOk m ∧ p10 2000 m = some (some (newK m),0):=by
  have h:=MOk.of (chk_ok x.1 (kc:=1 + x.2.1 % 8) (by omega) x.2.2.1 (b_T x.2.2.2 0) (b_T x.2.2.2 1) (b_T x.2.2.2 2))
  refine ⟨_,p9_eq x hk hl,h,?_⟩
  exact p10_good (by decide) _ (fun f hf=>Nat.lt_of_le_of_lt (h.us f hf) (by decide)) (fun f hf=>Nat.le_trans (h.us f hf) (by decide)) (Nat.le_trans h.len (by decide)) h.ppr h.key
def leO {α:Type} (A B:Option α):Prop:=∀ r,A = some r → B = some r
theorem leO.refl {α:Type} {A:Option α}:leO A A:=fun _ h=>h
theorem leO.none_ {α:Type} {A:Option α}:leO .none A:=fun _ h=>by cases h
theorem leO.bind {α β:Type} {A B:Option α} {f g:α → Option β} (h:leO A B) (k:∀ a,leO (f a) (g a)):leO (A.bind f) (B.bind g):=fun r e=>by
  cases A with
  | none=>cases e
  | some a=>rw [h a rfl];exact k a r e
theorem leO.ite {α:Type} {c:Prop} [Decidable c] {A B A' B':Option α} (h1:leO A A') (h2:leO B B'):leO (if c then A else B) (if c then A' else B'):=by
  by_cases hc:c
  · rw [if_pos hc,if_pos hc];exact h1
  · rw [if_neg hc,if_neg hc];exact h2
abbrev Rp:=(Sl Int) × Bool × KBt
def putR (d:List Bool) (m:Mpt) (la h t:Int) (lk:List Int) (x:Rp):Rp:=(x.1,x.2.1,(d,m,true,la,x.2.2.2.2.2.2.1,h,t,lk))
section
variable {d:List Bool} {m:Mpt} {la h t:Int} {lk:List Int}
def leR (d:List Bool) (m:Mpt) (la h t:Int) (lk:List Int) (A B:Option Rp):Prop:=∀ r,A = some r → B = some (putR d m la h t lk r)
theorem leR.bind {α:Type} {X Y:Option α} {f g:α → Option Rp} (hx:leO X Y) (k:∀ a,leR d m la h t lk (f a) (g a)):leR d m la h t lk (X.bind f) (Y.bind g):=fun r e=>by
  cases X with
  | none=>cases e
  | some a=>rw [hx a rfl];exact k a r e
theorem leR.ite {c:Prop} [Decidable c] {A B A' B':Option Rp} (h1:leR d m la h t lk A A') (h2:leR d m la h t lk B B'):leR d m la h t lk (if c then A else B) (if c then A' else B'):=by
  by_cases hc:c
  · rw [if_pos hc,if_pos hc];exact h1
  · rw [if_neg hc,if_neg hc];exact h2
theorem leR.none_:leR d m la h t lk .none .none:=fun _ h=>by cases h
theorem leR.some_ {o:Sl Int} {b:Bool} {l:Int}:leR d m la h t lk (some (o,b,([],m,true,la,l,0,0,[]))) (some (o,b,(d,m,true,la,l,h,t,lk))):=fun r e=>by
  obtain rfl:=Option.some.inj e
  rfl
end
def p25L (F:Int → Option (Int × Int × Int)) (B:Int → Option ((Sl Int) × Int)) (P:Sl Int → Int → Int → Int → Option ((Sl Int) × Int)) (M:Mpt) (la:Int):Nat → Int → Int → List Int → Option (List Int)
 | 0,_,_,_=>.none
 | m + 1,c_174,c_176,c_178=>if (decide (c_174 < 3)) then ((F (IntKind.wrap .u32 (524289 + c_174))).bind fun t_200=>if (t_200.2.2 != 0) then (p25L F B P M la m (IntKind.wrap .u32 (c_174 + 1)) c_176 c_178) else (if c_178.isEmpty then ((idx M.1.xs t_200.1).bind fun y_234=>(B y_234.2.1).bind fun t_242=>if t_242.1.xs = [] then .none else some (y_234.2.1,t_242.1.xs)) else some (c_176,c_178)).bind fun (j_227:(Int) × (List (Int)))=>(idx M.1.xs t_200.1).bind fun y_253=>(d_J la c_174 .u8).bind fun x_267=>(if (y_253.2.1 == j_227.1) = true then some (!y_253.2.2.2.2.2.2.2.2.2.2.1) else some false).bind fun q_270=>(if q_270 = true then some (decide ((a_w .and .u8 x_267 1) ≥ y_253.2.2.2.2.1)) else some false).bind fun q_273=>(if q_273 = true then some (decide ((a_w .and .u8 x_267 1) ≤ y_253.2.2.2.2.2.1)) else some false).bind fun q_276=>if q_276 then ((P (⟨j_227.2,.none⟩:Sl (Int)) t_200.1 t_200.2.1 (a_w .and .u8 x_267 1)).bind fun t_282=>if t_282.1.xs = [] then .none else if (t_282.2 == 0) then (p25L F B P M la m (IntKind.wrap .u32 (c_174 + 1)) j_227.1 t_282.1.xs) else .none) else .none) else some c_178
def p25F (F:Int → Option (Int × Int × Int)) (B:Int → Option ((Sl Int) × Int)) (P:Sl Int → Int → Int → Int → Option ((Sl Int) × Int)) (y0:KBt):Option Rp :=
 (p25L F B P y0.2.1 y0.2.2.2.1 4 0 0 []).bind fun y=>some (⟨y,.none⟩,(!y.isEmpty),(y0.1,y0.2.1,y0.2.2.1,y0.2.2.2.1,y0.2.2.2.1,y0.2.2.2.2.2.1,y0.2.2.2.2.2.2.1,y0.2.2.2.2.2.2.2))
theorem p25L_le {n:Nat} {d:List Bool} {M:Mpt} {r:Bool} {la lit h t:Int} {lk:List Int} {F:Int → Option (Int × Int × Int)} {B:Int → Option ((Sl Int) × Int)} {P:Sl Int → Int → Int → Int → Option ((Sl Int) × Int)}
    (hF:∀ u,leO (F u) (p26 n M 2 u)) (hB:∀ r,leO (B r) (p40 n M 2 r)) (hP:∀ b i j v,leO (P b i j v) (p41 n M b i j v)):∀ (k m':Nat),k ≤ m' → ∀ (i nu:Int) (o:List Int),leO (p25L F B P M la k i nu o) (p25_l1 n (d,M,r,la,lit,h,t,lk) m' i nu o):=by
  intro k
  induction k with
  | zero=>intro m' _ i nu o;exact leO.none_
  | succ k ih =>
    intro m' hm i nu o
    obtain ⟨m'',rfl⟩:∃ q,m' = q + 1:=⟨m' - 1,by omega⟩
    rw [p25L,p25_l1]
    dsimp only
    repeat (first | exact leO.none_ | exact hF _ | exact hB _ | exact hP _ _ _ _ | exact ih _ (by omega) _ _ _ | with_reducible exact leO.refl | with_reducible refine leO.bind ?_ fun _=>?_ | with_reducible refine leO.ite ?_ ?_)
theorem p25_le (n:Nat) (hn:4 ≤ n) (d:List Bool) {m:Mpt} {la lit:Int} (h t:Int) (lk:List Int) (hl:la ≠ lit) {F:Int → Option (Int × Int × Int)} {B:Int → Option ((Sl Int) × Int)} {P:Sl Int → Int → Int → Int → Option ((Sl Int) × Int)}
    (hF:∀ u,leO (F u) (p26 n m 2 u)) (hB:∀ r,leO (B r) (p40 n m 2 r)) (hP:∀ b i j v,leO (P b i j v) (p41 n m b i j v)) {r:Rp} (e:p25F F B P ([],m,true,la,0,0,0,[]) = some r):p25 n (d,m,true,la,lit,h,t,lk) = some (putR d m la h t lk r):=by
  refine (show leR d m la h t lk (p25F F B P ([],m,true,la,0,0,0,[])) (p25 n (d,m,true,la,lit,h,t,lk)) from ?_) r e
  clear e
  unfold p25 p25F
  dsimp only
  rw [if_pos (show (!true) = false from rfl),beq_false_of_ne hl,Option.bind_some,if_neg Bool.false_ne_true]
  exact leR.bind (p25L_le hF hB hP 4 n hn 0 0 []) fun _=>leR.some_
theorem p25_same (n:Nat) (d:List Bool) (m:Mpt) (la h t:Int) (lk:List Int):p25 n (d,m,true,la,la,h,t,lk) = some (⟨[],some 0⟩,false,(d,m,true,la,la,h,t,lk)):=by
  unfold p25
  dsimp only
  rw [if_pos (show (!true) = false from rfl),beq_self_eq_true,Option.bind_some,if_pos rfl]
def ixU (u:Int):List Int → Int → Int
  | [],_=>-1
  | y :: l,i=>if u = y then i else ixU u l (i + 1)
theorem p42_l1_eq (n:Nat) (l:Sl Int) (u:Int) (hL:l.xs.length ≤ 1000000):∀ (m i:Nat),l.xs.length - i < m → i ≤ l.xs.length → ∃ q,p42_l1 n l u m i = some q ∧ (q = .inl () ∧ ixU u (l.xs.drop i) i = -1 ∨ q = .inr (ixU u (l.xs.drop i) i)):=by
  intro m
  induction m with
  | zero=>intro i hm;exact absurd hm (by omega)
  | succ m ih =>
    intro i hm hi
    rw [p42_l1,a_z]
    by_cases hlt:i < l.xs.length
    · rw [b_U (by omega),c_J hlt,Option.bind_some,a_R hlt,ixU]
      by_cases hu:u = l.xs[i]
      · rw [if_pos hu,if_pos (by rw [hu];exact beq_self_eq_true _)]
        exact ⟨_,rfl,.inr rfl⟩
      · rw [if_neg hu,if_neg (by rw [beq_false_of_ne hu];decide),ckS (by omega) (by omega),Option.bind_some,a_Q]
        exact ih (i + 1) (by omega) (by omega)
    · rw [b_V (by omega),List.drop_eq_nil_of_le (by omega)]
      exact ⟨_,rfl,.inl ⟨rfl,rfl⟩⟩
theorem p42_eq {n:Nat} (l:Sl Int) (u:Int) (hL:l.xs.length < n) (hL2:l.xs.length ≤ 1000000):p42 n l u = some (ixU u l.xs 0):=by
  obtain ⟨q,h1,h2⟩:=p42_l1_eq n l u hL2 n 0 (by omega) (Nat.zero_le _)
  rw [List.drop_zero] at h2
  unfold p42
  rw [show (0:Int) = ((0:Nat):Int) from rfl,h1,Option.bind_some]
  rcases h2 with ⟨rfl,h2⟩ | rfl
  · rw [d_W];exact congrArg some h2.symm
  · rw [lrKr]
def fndL (k u:Int):List Fd → Int → Int × Int × Int
  | [],_=>(0,0,7)
  | f :: l,i=>if f.1 = k then (if (fCo f || decide (ixU u (fU f).xs 0 < 0)) = true then fndL k u l (i + 1) else (i,(if fAr f = true then ixU u (fU f).xs 0 else if fC f - 1 < ixU u (fU f).xs 0 then fC f - 1 else ixU u (fU f).xs 0),0)) else fndL k u l (i + 1)
theorem p26_l1_eq (n:Nat) (x:Mpt) (k u:Int) (hl:x.1.xs.length ≤ 1000) (hU:∀ f ∈ x.1.xs,(fU f).xs.length < n ∧ (fU f).xs.length ≤ 1000000) (hC:∀ f ∈ x.1.xs,0 ≤ fC f ∧ fC f ≤ 1000000):∀ (m i:Nat),x.1.xs.length - i < m → i ≤ x.1.xs.length →
    ∃ q,p26_l1 n x k u m i = some q ∧ (q = .inl () ∧ fndL k u (x.1.xs.drop i) i = (0,0,7) ∨ q = .inr (fndL k u (x.1.xs.drop i) i)):=by
  intro m
  induction m with
  | zero=>intro i hm;exact absurd hm (by omega)
  | succ m ih =>
    intro i hm hi
    rw [p26_l1,a_z]
    by_cases hlt:i < x.1.xs.length
    · have hf:=List.getElem_mem hlt
      rw [b_U (by omega),c_J hlt,Option.bind_some,a_R hlt,fndL]
      have h1:=hU _ hf
      have h2:=hC _ hf
      generalize x.1.xs[i] = f at h1 h2
      rw [p42_eq f.2.2.2.1 u h1.1 h1.2,Option.bind_some]
      have h3:=ih (i + 1) (by omega) (by omega)
      by_cases hk:f.1 = k
      · rw [if_pos hk,if_pos (show (f.1 != k) = false by rw [hk];exact bne_self_eq_false _),Option.bind_some,orS,Option.bind_some]
        by_cases hc:(fCo f || decide (ixU u (fU f).xs 0 < 0)) = true
        · rw [if_pos hc,if_pos hc,ckS (by omega) (by omega),Option.bind_some,a_Q]
          exact h3
        · rw [if_neg hc,if_neg hc]
          cases ha:f.2.2.2.2.2.2.2.2.2.2.1 with
          | true=>exact ⟨_,rfl,.inr (by rw [show fAr f = true from ha];rfl)⟩
          | false =>
            have h2':0 ≤ f.2.2.2.2.2.2.2.1 ∧ f.2.2.2.2.2.2.2.1 ≤ 1000000:=h2
            rw [if_pos (show (!false) = true from rfl),ckS (by omega) (by omega),Option.bind_some,Option.bind_some]
            exact ⟨_,rfl,.inr (by rw [show fAr f = false from ha];rfl)⟩
      · rw [if_neg hk,if_neg (show ¬ ((f.1 != k) = false) by rw [bne_iff_ne.2 hk];decide),Option.bind_some]
        rw [if_neg (show ¬ (true = false) by decide),Option.bind_some,if_pos rfl,ckS (by omega) (by omega),Option.bind_some,a_Q]
        exact h3
    · rw [b_V (by omega),List.drop_eq_nil_of_le (by omega)]
      exact ⟨_,rfl,.inl ⟨rfl,rfl⟩⟩
theorem p26_eq {n:Nat} (hn:1100 ≤ n) (x:Mpt) (k u:Int) (hl:x.1.xs.length ≤ 1000) (hU:∀ f ∈ x.1.xs,(fU f).xs.length < n ∧ (fU f).xs.length ≤ 1000000) (hC:∀ f ∈ x.1.xs,0 ≤ fC f ∧ fC f ≤ 1000000):p26 n x k u = some (fndL k u x.1.xs 0):=by
  obtain ⟨q,h1,h2⟩:=p26_l1_eq n x k u hl hU hC n 0 (by omega) (Nat.zero_le _)
  rw [List.drop_zero] at h2
  unfold p26
  rw [show (0:Int) = ((0:Nat):Int) from rfl,h1,Option.bind_some]
  rcases h2 with ⟨rfl,h2⟩ | rfl
  · rw [d_W];exact congrArg some h2.symm
  · rw [lrKr]
def oL (nb:Bool):Nat:=if nb = true then 2 else 1
def blk (nb:Bool):List Int:=if nb = true then [1,0] else [0]
structure OutM (x:Mpt) (nb:Bool):Prop where
  ppr:Ppr x
  len:x.1.xs.length ≤ 1000
  nb_:x.2.2 = nb
  ln:b_R x 2 (c_b nb) = (oL nb:Int)
  any_:c_M x.1.xs 2 (c_b nb) = true
  arr:∀ f ∈ x.1.xs,f.1 = 2 → fAr f = false
theorem p40_l1_eq (n:Nat) (x:Mpt) (k r:Int) (hl:x.1.xs.length ≤ 1000) (ha:∀ f ∈ x.1.xs,f.1 = k → fAr f = false):∀ (m i:Nat),x.1.xs.length - i < m → i ≤ x.1.xs.length → p40_l1 n x k r m i = some ():=by
  intro m
  induction m with
  | zero=>intro i hm;exact absurd hm (by omega)
  | succ m ih =>
    intro i hm hi
    rw [p40_l1,a_z]
    by_cases hlt:i < x.1.xs.length
    · have hf:=ha _ (List.getElem_mem hlt)
      rw [b_U (by omega),c_J hlt,Option.bind_some,orS,Option.bind_some,orS,Option.bind_some,orS,Option.bind_some]
      generalize x.1.xs[i] = f at hf
      have hc:(((f.1 != k || f.2.1 != r) || !f.2.2.2.2.2.2.2.2.2.2.1) || f.2.2.2.2.2.2.2.2.2.1) = true:=by
        by_cases hk:f.1 = k
        · rw [show f.2.2.2.2.2.2.2.2.2.2.1 = false from hf hk];simp
        · rw [bne_iff_ne.2 hk];simp
      rw [if_pos hc,ckS (by omega) (by omega),Option.bind_some,a_Q]
      exact ih (i + 1) (by omega) (by omega)
    · rw [b_V (by omega)]
theorem p40_eq {n:Nat} (hn:1100 ≤ n) {x:Mpt} {nb:Bool} (h:OutM x nb):p40 n x 2 (c_b nb) = some (⟨blk nb,some (oL nb)⟩,0):=by
  unfold p40
  rw [p30_eq hn x h.len,Option.bind_some,decide_eq_true h.ppr,if_neg (show ¬ ((!true) = true) by decide),p36_eq hn x 2 _ h.len,Option.bind_some,h.any_,if_neg (show ¬ ((!true) = true) by decide),p32_eq hn x 2 _ h.len,Option.bind_some,h.ln,h.nb_]
  cases nb with
  | true =>
    have e:=p40_l1_eq n x 2 1 h.len h.arr n 0 (by have:=h.len;omega) (Nat.zero_le _)
    refine (congrArg (fun q=>Option.bind q _) (show mkI ((oL true:Nat):Int) ((oL true:Nat):Int) = some (2,2) from rfl)).trans ?_
    rw [Option.bind_some]
    refine (congrArg (fun q=>Option.bind q _) e).trans ?_
    rfl
  | false =>
    have e:=p40_l1_eq n x 2 0 h.len h.arr n 0 (by have:=h.len;omega) (Nat.zero_le _)
    refine (congrArg (fun q=>Option.bind q _) (show mkI ((oL false:Nat):Int) ((oL false:Nat):Int) = some (1,1) from rfl)).trans ?_
    rw [Option.bind_some]
    refine (congrArg (fun q=>Option.bind q _) e).trans ?_
    rfl
def valF (nb:Bool) (x:Mpt) (b:Sl Int) (i j:Int):Option Fd:=match idx x.1.xs i with
  | none=>none
  | some f=>if (f.1 == 2 && f.2.1 == c_b nb && decide (0 ≤ j) && decide (j < fC f) && b.xs.length == oL nb && (!nb || idx b.xs 0 == some 1)) = true then some f else none
theorem p43_eq {n:Nat} (hn:1100 ≤ n) {x:Mpt} {nb:Bool} (h:OutM x nb) {b:Sl Int} {i j:Int} {f:Fd} (hv:valF nb x b i j = some f):p43 n x b i j = some 0 ∧ idx x.1.xs i = some f:=by
  unfold valF at hv
  cases hf:idx x.1.xs i with
  | none=>rw [hf] at hv;cases hv
  | some g =>
    rw [hf] at hv
    by_cases hc:(g.1 == 2 && g.2.1 == c_b nb && decide (0 ≤ j) && decide (j < fC g) && b.xs.length == oL nb && (!nb || idx b.xs 0 == some 1)) = true
    · simp only [if_pos hc] at hv
      obtain rfl:=Option.some.inj hv
      simp only [Bool.and_eq_true,beq_iff_eq,decide_eq_true_eq] at hc
      obtain ⟨⟨⟨⟨⟨h1,h2⟩,h3⟩,h4⟩,h5⟩,h6⟩:=hc
      have hi:0 ≤ i ∧ i < (x.1.xs.length:Int):=by
        unfold idx at hf
        by_cases h0:0 ≤ i
        · rw [if_pos h0] at hf
          have:=(List.getElem?_eq_some_iff.1 hf).1
          omega
        · rw [if_neg h0] at hf;cases hf
      refine ⟨?_,rfl⟩
      have h4':j < g.2.2.2.2.2.2.2.1:=h4
      unfold p43
      rw [p30_eq hn x h.len,Option.bind_some,decide_eq_true h.ppr,if_neg (show ¬ ((!true) = true) by decide),decide_eq_false (show ¬ i < 0 by omega),a_z,decide_eq_false (show ¬ i ≥ (x.1.xs.length:Int) by omega),if_pos rfl,Option.bind_some,decide_eq_false (show ¬ j < 0 by omega),if_pos rfl,Option.bind_some,if_pos rfl,hf,Option.bind_some,decide_eq_false (show ¬ j ≥ g.2.2.2.2.2.2.2.1 by omega),Option.bind_some,if_neg Bool.false_ne_true,Option.bind_some,h1,h2,p32_eq hn x 2 _ h.len,Option.bind_some,h.ln,a_z,h5,bne_self_eq_false,if_neg Bool.false_ne_true,h.nb_]
      cases nb with
      | false=>rfl
      | true =>
        have h6':idx b.xs 0 = some 1:=by simpa using h6
        rw [if_pos rfl,h6'];rfl
    · simp only [if_neg hc] at hv;cases hv
def restP (n:Nat) (x:Mpt) (f:Fd) (b:Sl Int) (j v:Int):Option ((Sl Int) × Int):=(p59 n f v).bind fun t=>if (!t) = true then none else (mkI (a_m b) (a_m b)).bind fun q=>(p57 n x f (⟨c_d (List.replicate q.1 (0:Int)) b.xs,some q.2⟩:Sl Int) j v).bind fun y=>some ((⟨y,some q.2⟩:Sl Int),0)
def putO (any_ nb:Bool) (x:Mpt) (b:Sl Int) (i j v:Int):Option ((Sl Int) × Int):=if any_ = true then (valF nb x b i j).bind fun f=>restP 2000 x f b j v else none
def getO (nb:Bool) (x:Mpt) (b:Sl Int) (i j:Int):Option (Int × Int):=(valF nb x b i j).bind fun f=>(p38 2000 x f b j).bind fun t=>some (t,0)
def blkO (any_ nb:Bool) (r:Int):Option ((Sl Int) × Int):=if any_ = true then (if r = c_b nb then some (⟨blk nb,some (oL nb)⟩,0) else none) else none
theorem putO_le {any_ nb:Bool} {x:Mpt} (h:any_ = true → OutM x nb) (b:Sl Int) (i j v:Int):leO (putO any_ nb x b i j v) (p41 2000 x b i j v):=by
  intro r e
  unfold putO at e
  cases any_ with
  | false=>cases e
  | true =>
    rw [if_pos rfl] at e
    cases hv:valF nb x b i j with
    | none=>rw [hv] at e;cases e
    | some f =>
      rw [hv,Option.bind_some] at e
      obtain ⟨h1,h2⟩:=p43_eq (n:=2000) (by decide) (h rfl) hv
      unfold p41
      rw [h1,Option.bind_some,if_neg (show ¬ (((0:Int) != 0) = true) by decide),h2,Option.bind_some,← e]
      unfold restP
      cases h3:p59 2000 f v with
      | none=>rw [restP,h3] at e;cases e
      | some t =>
        cases t with
        | false=>rw [restP,h3] at e;cases e
        | true =>
          rw [Option.bind_some,Option.bind_some,if_neg (show ¬ ((!true) = true) by decide),if_neg (show ¬ ((!true) = true) by decide)]
          cases h4:mkI (a_m b) (a_m b) with
          | none=>rfl
          | some q=>rw [Option.bind_some,Option.bind_some,Option.bind_some,bindId]
theorem getO_le {nb:Bool} {x:Mpt} (h:OutM x nb) (b:Sl Int) (i j:Int):leO (getO nb x b i j) (p27 2000 x b i j):=by
  intro r e
  unfold getO at e
  cases hv:valF nb x b i j with
  | none=>rw [hv] at e;cases e
  | some f =>
    rw [hv,Option.bind_some] at e
    obtain ⟨h1,h2⟩:=p43_eq (n:=2000) (by decide) h hv
    unfold p27
    rw [h1,Option.bind_some,if_neg (show ¬ (((0:Int) != 0) = true) by decide),h2,Option.bind_some]
    exact e
theorem blkO_le {any_ nb:Bool} {x:Mpt} (h:any_ = true → OutM x nb) (r:Int):leO (blkO any_ nb r) (p40 2000 x 2 r):=by
  intro q e
  unfold blkO at e
  cases any_ with
  | false=>cases e
  | true =>
    rw [if_pos rfl] at e
    by_cases hr:r = c_b nb
    · rw [if_pos hr] at e
      rw [hr,p40_eq (by decide) (h rfl)];exact e
    · rw [if_neg hr] at e;cases e
def chkL (nb:Bool) (M:Mpt) (o:Sl Int) (la:Int) (c:Nat) (l:Bool):Bool :=
  let t:=fndL 2 (524289 + (c:Int)) M.1.xs 0
  if l = true then t.2.2 == 0 && getO nb M o t.1 t.2.1 == some (la / 2 ^ c % 2,0) else t.1 == 0 && t.2.1 == 0 && o.xs.length == oL nb
def chkR (nb:Bool) (kc:Int) (bits l0 l1 l2:Bool) (la:Int):Bool :=
  let M:=mapL nb kc bits l0 l1 l2
  match p25F (fun u=>some (fndL 2 u (cpM M).1.xs 0)) (blkO (l0 || l1 || l2) nb) (putO (l0 || l1 || l2) nb (cpM M)) ([],cpM M,true,la,0,0,0,[]) with
  | none=>false
  | some x=>x.2.1 == (l0 || l1 || l2) && (x.2.1 != (x.1.xs.length == 0)) && x.2.2.2.2.2.2.1 == la && (!x.2.1 || (chkL nb M x.1 la 0 l0 && chkL nb M x.1 la 1 l1 && chkL nb M x.1 la 2 l2))
def LA:List Int:=[0,1,2,3,4,5,6,7]
set_option maxRecDepth 100000 in
theorem chkR_all (kc:Int):(BB.all fun nb=>BB.all fun bits=>BB.all fun l0=>BB.all fun l1=>BB.all fun l2=>LA.all fun la=>chkR nb kc bits l0 l1 l2 la) = true:=by kernel_rfl
def chkO (nb:Bool) (kc:Int) (bits l0 l1 l2:Bool):Bool :=
  let M:=mapL nb kc bits l0 l1 l2
  b_R M 2 (c_b nb) == (oL nb:Int) && c_M M.1.xs 2 (c_b nb) && M.1.xs.all fun f=>f.1 != 2 || !fAr f
set_option maxRecDepth 100000 in
theorem chkO_all (kc:Int):(BB.all fun nb=>BB.all fun bits=>BB.all fun l0=>BB.all fun l1=>BB.all fun l2=>!(l0 || l1 || l2) || chkO nb kc bits l0 l1 l2) = true:=by kernel_rfl
set_option maxRecDepth 100000 in
theorem chkI_all:(BB.all fun nb=>KC.all fun kc=>BB.all fun bits=>BB.all fun l0=>BB.all fun l1=>BB.all fun l2=>decide ((oL nb:Int) < b_R (mapL nb kc bits l0 l1 l2) 1 (c_b nb))) = true:=by kernel_rfl
def chkC (k sh la:Nat):Bool:=match p16 0 (k:Int) (decide (sh = 1)) (la:Int),p14 0 (k:Int) (decide (sh = 1)) (la:Int) with
  | some a,some b=>a == b && decide (0 ≤ a) && decide (a ≤ 255)
  | _,_=>false
set_option maxRecDepth 100000 in
theorem char_all:((List.range 256).all fun k=>(List.range 2).all fun sh=>(List.range 8).all fun la=>chkC k sh la) = true:=by kernel_rfl
theorem char_eq (n:Nat) {k la:Int} (sh:Bool) (hk:0 ≤ k ∧ k ≤ 255) (hl:0 ≤ la ∧ la ≤ 7):∃ v,p16 n k sh la = some v ∧ p14 n k sh la = some v ∧ 0 ≤ v ∧ v ≤ 255:=by
  have e16:p16 n = p16 0:=rfl
  have e14:p14 n = p14 0:=rfl
  rw [e16,e14]
  have h:=List.all_eq_true.1 (List.all_eq_true.1 (List.all_eq_true.1 char_all k.toNat (List.mem_range.2 (by omega))) (if sh = true then 1 else 0) (List.mem_range.2 (by cases sh <;> decide))) la.toNat (List.mem_range.2 (by omega))
  unfold chkC at h
  rw [show ((k.toNat:Nat):Int) = k by omega,show ((la.toNat:Nat):Int) = la by omega,show decide ((if sh = true then 1 else 0) = 1) = sh by cases sh <;> rfl] at h
  cases h1:p16 0 k sh la with
  | none=>rw [h1] at h;cases h
  | some a =>
    cases h2:p14 0 k sh la with
    | none=>rw [h1,h2] at h;cases h
    | some b =>
      rw [h1,h2] at h
      simp only [Bool.and_eq_true,beq_iff_eq,decide_eq_true_eq] at h
      exact ⟨a,rfl,by rw [h.1.1],h.1.2,h.2⟩
abbrev StE:=KBt × (List (Int × Sh)) × Mdl × (List Bool)
def tlE (n m:Nat) (x:Sl Act') (t:Mpt) (i:Int) (s:StE):Option (StE ⊕ Bool) :=
  (p13 n s.1).bind fun t1=>(p4_l4 n s t1 n 0 0).bind fun y1=>lrK y1 (fun r=>some (.inr r)) fun k=>(if (k != a_m t1.1) = true then some (true,t1.2) else (p15 n t1.2).bind fun t2=>some (t2.1 != s.2.2.1.2.2.1,t2.2)).bind fun (j:Bool × KBt)=>if j.1 = true then .none else (ckI .i64 (i + 1)).bind fun i'=>p4_l1 n x t m i' j.2 s.2.1 s.2.2.1 s.2.2.2
theorem tlE_eq {n:Nat} (hn:300 ≤ n) (m:Nat) (x:Sl Act') {t:Mpt} {i:Nat} (hi:i ≤ 100) {y:KBt} {c:List (Int × Sh)} {Y:Mdl} {T:Int} (I:Inv t y c Y T):tlE n m x t i (y,c,Y,y.1) = p4_l1 n x t m ((i + 1:Nat):Int) y c Y y.1:=by
  have e1:=p13_eq hn y I.dok.1
  have e2:=p4_l4_eq n (y,c,Y,y.1) (⟨c_V y.1 0,.none⟩,y) y.1 I.dok.1 rfl I.dn.symm rfl n 0 0 (Nat.zero_le _) rfl (by omega) (by omega)
  rw [show ((0:Nat):Int) = 0 from rfl] at e2
  unfold tlE
  rw [e1,Option.bind_some,e2,Option.bind_some,d_W,c_e,if_neg (by simp)]
  have e3:p15 n y = some (y.2.2.2.1,y):=rfl
  rw [e3,Option.bind_some,I.lamps,Option.bind_some,show ((Y.2.2.1 != Y.2.2.1) = false) by simp,if_neg (show ¬ (false = true) by decide),ckS (by omega) (by omega),Option.bind_some,a_Q]
theorem p4_l1_eq (x:Sl Act') {t:Mpt} (h:MOk t) (hx:∀ e ∈ x.xs,(0 ≤ e.1 ∧ e.1 ≤ 255) ∧ Byts e.2.xs) (hl:x.xs.length ≤ 40):∀ (m i:Nat) (y:KBt) (c:List (Int × Sh)) (Y:Mdl),x.xs.length - i < m → i ≤ x.xs.length → Inv t y c Y (60 * (i:Int)) → ∃ s,p4_l1 2000 x t m i y c Y y.1 = some (.inl s):=by
  intro m
  induction m with
  | zero=>intro i y c Y hm;exact absurd hm (by omega)
  | succ m ih =>
    intro i y c Y hm hi I
    rw [p4_l1]
    by_cases hlt:i < x.xs.length
    · have hmem:x.xs[i] ∈ x.xs:=List.getElem_mem hlt
      have he:idx x.xs (i:Int) = some x.xs[i]:=c_J hlt
      rw [b_U (by rw [a_z];omega),he,Option.bind_some]
      generalize x.xs[i] = e at hmem he
      obtain ⟨hw,hb⟩:=hx e hmem
      rw [b_c hw.1 (by decide) (u8R (by omega) (by omega)),Option.bind_some]
      have fin:∀ (y':KBt) (c':List (Int × Sh)) (Y':Mdl),Inv t y' c' Y' (60 * (i:Int) + 60) → ∃ s,tlE 2000 m x t i (y',c',Y',y'.1) = some (.inl s):=fun y' c' Y' I'=>by
        rw [tlE_eq (by omega) m x (by omega) I']
        refine ih (i + 1) y' c' Y' (by omega) (by omega) ?_
        rw [show (60 * ((i + 1:Nat):Int)) = 60 * (i:Int) + 60 by omega]
        exact I'
      have mono:∀ {y':KBt} {c':List (Int × Sh)} {Y':Mdl},Inv t y' c' Y' (60 * (i:Int)) → Inv t y' c' Y' (60 * (i:Int) + 60):=fun I=>⟨I.map,I.rdy,I.lk,I.dn,I.dok,I.lamps,I.la,I.held,I.h0,I.time,by have:=I.tb;omega,I.rel⟩
      by_cases h0:e.1 % 5 = 0
      · obtain ⟨y',Y',r1,r2,r3⟩:=p4_l2_eq 2000 (by decide) x i e he 2000 0 y Y (60 * (i:Int)) (by omega) (by omega) (by omega) I
        rw [show ((0:Nat):Int) = 0 from rfl] at r1
        have hd:y'.1 = y.1:=by rw [r2.dn,r3,I.dn]
        obtain ⟨s,hs⟩:=fin y' c Y' (by rw [show (60 * (i:Int) + 60) = 60 * (i:Int) + (60 - ((0:Nat):Int)) by simp];exact r2)
        refine ⟨s,?_⟩
        rw [h0]
        refine Eq.trans (congrArg (fun q=>Option.bind q _) (a₂:=(some (Sum.inl (y',c,Y',y'.1)):Option (StE ⊕ Bool))) ?_) hs
        rw [if_pos (show ((0:Int) == 0) = true from rfl)]
        refine (congrArg (fun q=>Option.bind q _) r1).trans ?_
        rw [Option.bind_some,d_W]
        show (some (Sum.inl (y',c,Y',y.1)):Option (StE ⊕ Bool)) = some (Sum.inl (y',c,Y',y'.1))
        rw [hd]
      · by_cases h1:e.1 % 5 = 1
        · obtain ⟨l,a,a',y',Y',g1,g2,g3,I',hd⟩:=clear_inv (n:=2000) (by decide) I
          obtain ⟨s,hs⟩:=fin y' [] (Y'.1,Y'.2.1,Y'.2.2.1,0,Y'.2.2.2.2) (mono I')
          have hd2:y'.1 = Zs:=I'.dn.trans hd
          refine ⟨s,?_⟩
          rw [h1]
          refine Eq.trans (congrArg (fun q=>Option.bind q _) (a₂:=(some (Sum.inl (y',[],(Y'.1,Y'.2.1,Y'.2.2.1,0,Y'.2.2.2.2),y'.1)):Option (StE ⊕ Bool))) ?_) hs
          rw [if_neg (show ¬ (((1:Int) == 0) = true) by decide),if_pos (show ((1:Int) == 1) = true from rfl)]
          refine Eq.trans (congrArg (fun q=>Option.bind q _) (a₂:=(some (Sum.inl (y',[],(Y'.1,Y'.2.1,Y'.2.2.1,0,Y'.2.2.2.2),y'.1)):Option (StE ⊕ Bool))) ?_) rfl
          refine (congrArg (fun q=>Option.bind q _) g3).trans ?_
          rw [Option.bind_some]
          refine (congrArg (fun q=>Option.bind q _) g2).trans ?_
          rw [Option.bind_some]
          refine (congrArg (fun q=>Option.bind q _) (p18_refl l a a' (by omega) (by omega))).trans ?_
          rw [Option.bind_some,if_neg (show ¬ ((!true) = true) by decide)]
          show (some (Sum.inl (y',[],(Y'.1,Y'.2.1,Y'.2.2.1,0,Y'.2.2.2.2),Zs)):Option (StE ⊕ Bool)) = some (Sum.inl (y',[],(Y'.1,Y'.2.1,Y'.2.2.1,0,Y'.2.2.2.2),y'.1))
          rw [hd2]
        · obtain ⟨vs,y',c',Y',g1,g2,g3,I'⟩:=feed_inv (n:=2000) (by decide) h hb (some (d_j t e.2.xs)) (by omega) I
          obtain ⟨s,hs⟩:=fin y' c' Y' (mono I')
          refine ⟨s,?_⟩
          refine Eq.trans (congrArg (fun q=>Option.bind q _) (a₂:=(some (Sum.inl (y',c',Y',y'.1)):Option (StE ⊕ Bool))) ?_) hs
          rw [if_neg (show ¬ ((e.1 % 5 == 0) = true) by simpa using h0),if_neg (show ¬ ((e.1 % 5 == 1) = true) by simpa using h1)]
          refine Eq.trans (congrArg (fun q=>Option.bind q _) (a₂:=(some (Sum.inl (y',c',Y',y'.1)):Option (StE ⊕ Bool))) ?_) rfl
          rw [Option.bind_some,p11_eq (by decide) h e.2 hb,Option.bind_some]
          refine (congrArg (fun q=>Option.bind q _) g1).trans ?_
          rw [Option.bind_some]
          refine (congrArg (fun q=>Option.bind q _) g2).trans ?_
          rw [Option.bind_some]
          refine (if_neg (show ¬ (((0:Int) != 0) = true) by decide)).trans ?_
          refine (if_neg (show ¬ (((0:Int) != 0) = true) by decide)).trans ?_
          refine (congrArg (fun q=>Option.bind q _) g3).trans ?_
          rw [Option.bind_some]
          have hel:=c_S y.1 y'.1
          refine (congrArg (fun q=>Option.bind q _) (p18_refl (b_S y.1 y'.1) _ _ (by omega) (by omega))).trans ?_
          rw [Option.bind_some]
          refine (if_neg (show ¬ ((!true) = true) by decide)).trans ?_
          have e3:=p4_l3_eq 2000 (⟨b_S y.1 y'.1,some (b_S y.1 y'.1).length⟩,0,y',c') (by show (b_S y.1 y'.1).length ≤ 1000000;omega) 2000 0 y.1 I.dok.1 (goes_evs _ _) (by show (b_S y.1 y'.1).length - 0 < 2000;omega) (Nat.zero_le _)
          rw [show ((0:Nat):Int) = 0 from rfl,List.drop_zero] at e3
          have e4:(b_S y.1 y'.1).foldl apE y.1 = y'.1:=play_evs I.dok.1 I'.dok.1
          simp only [e4] at e3
          have e5:capO (⟨b_S y.1 y'.1,some (b_S y.1 y'.1).length⟩:Sl Ev) = some ((b_S y.1 y'.1).length:Int):=rfl
          refine (congrArg (fun q=>Option.bind q _) e5).trans ?_
          rw [Option.bind_some]
          refine (if_neg (show ¬ ((((b_S y.1 y'.1).length:Int) != ((b_S y.1 y'.1).length:Int)) = true) by simp)).trans ?_
          refine (congrArg (fun q=>Option.bind q _) e3).trans ?_
          rfl
    · rw [b_V (by rw [a_z];omega)]
      exact ⟨_,rfl⟩
theorem p4_main (x0:Bool × Int × Bool × Int) (x1:Sl (Int × (Sl Int))) (hk:0 ≤ x0.2.1 ∧ x0.2.1 ≤ 255) (hl:0 ≤ x0.2.2.2 ∧ x0.2.2.2 ≤ 255) (hx:∀ e ∈ x1.xs,(0 ≤ e.1 ∧ e.1 ≤ 255) ∧ Byts e.2.xs):p4 2000 x0 x1 = some true:=by
  unfold p4
  by_cases hc:a_m x1 > 40
  · rw [b_U hc,p8_ok];rfl
  · rw [b_V hc]
    rw [a_z] at hc
    obtain ⟨m,e1,h,e2⟩:=map_ok x0 hk hl
    rw [e1,Option.bind_some,e2,Option.bind_some]
    obtain ⟨s,hs⟩:=p4_l1_eq x1 h hx (by omega) 2000 0 (newK m) [] ([Z2,Z2,Z2],Zs,0,0,0) (by omega) (Nat.zero_le _) (Inv.new m)
    rw [show ((0:Nat):Int) = 0 from rfl] at hs
    show (if ((0:Int) != 0) = true then .none else _) = some true
    rw [if_neg (by decide)]
    refine (congrArg (fun q=>Option.bind q _) hs).trans ?_
    rw [Option.bind_some,d_W,p8_ok]
    rfl
theorem mB (b:Bool):b ∈ BB:=by cases b <;> simp [BB]
theorem e_B {p:Bool → Bool} (h:BB.all p = true) (b:Bool):p b = true:=List.all_eq_true.1 h b (mB b)
theorem bitL_or {lm:Int} (h0:0 ≤ lm) (h1:lm ≤ 255):(lm % 8 != 0) = (b_T lm 0 || b_T lm 1 || b_T lm 2):=by
  unfold b_T
  rw [Bool.eq_iff_iff]
  simp only [bne_iff_ne,ne_eq,Bool.or_eq_true,beq_iff_eq]
  have e0:(2:Int) ^ 0 = 1:=rfl
  have e1:(2:Int) ^ 1 = 2:=rfl
  have e2:(2:Int) ^ 2 = 4:=rfl
  rw [e0,e1,e2]
  omega
theorem repR_set {m:Mpt} {nb:Bool} (hnb:m.2.2 = nb) (hl:(oL nb:Int) < b_R m 1 (c_b nb)) (v:Int):∃ b',b_z m b' = (b_z m []).set (oL nb) v ∧ (0 ≤ v ∧ v ≤ 255 → Byts b') ∧ oL nb < (b_z m []).length:=by
  cases nb with
  | true =>
    have hn:∀ b:List Int,b = [] ∨ b = [0,0,v] → c_c m b = 1:=fun b hb=>by
      unfold c_c
      rw [hnb,if_pos rfl]
      rcases hb with rfl | rfl
      · rw [if_neg (by simp)]
      · rw [if_neg (by simp [byt])]
    obtain ⟨k,hk⟩:∃ k,(b_R m 1 1).toNat = k + 3:=⟨(b_R m 1 1).toNat - 3,by have:((oL true:Nat):Int) = 2:=rfl;have:c_b true = 1:=rfl;rw [this] at hl;omega⟩
    have h1:d_j m [] = k + 3:=by unfold d_j;rw [hn [] (.inl rfl)];exact hk
    have h2:d_j m [0,0,v] = k + 3:=by unfold d_j;rw [hn _ (.inr rfl)];exact hk
    refine ⟨[0,0,v],?_,fun h y hy=>?_,?_⟩
    · unfold b_z
      rw [hnb,if_pos rfl,if_pos rfl,h1,h2,hn [] (.inl rfl),hn _ (.inr rfl)]
      simp [c_d,List.replicate_succ,oL]
    · simp at hy;rcases hy with rfl | rfl <;> first | decide | exact h
    · rw [c_U,h1];show 2 < k + 3;omega
  | false =>
    have hn:∀ b:List Int,c_c m b = 0:=fun b=>by unfold c_c;rw [hnb];rfl
    obtain ⟨k,hk⟩:∃ k,(b_R m 1 0).toNat = k + 2:=⟨(b_R m 1 0).toNat - 2,by have:((oL false:Nat):Int) = 1:=rfl;have:c_b false = 0:=rfl;rw [this] at hl;omega⟩
    have h1:d_j m [] = k + 2:=by unfold d_j;rw [hn []];exact hk
    have h2:d_j m [0,v] = k + 2:=by unfold d_j;rw [hn _];exact hk
    refine ⟨[0,v],?_,fun h y hy=>?_,?_⟩
    · unfold b_z
      rw [hnb,if_neg (by decide),if_neg (by decide),h1,h2]
      simp [c_d,List.replicate_succ,oL]
    · simp at hy;rcases hy with rfl | rfl <;> first | decide | exact h
    · rw [c_U,h1];show 1 < k + 2;omega
theorem wrap8 (x:Int):0 ≤ IntKind.wrap .u8 x ∧ IntKind.wrap .u8 x ≤ 255:=by rw [b_P];omega
theorem p5_l2_eq (x0:Bool × Int × Bool × Int) {m:Mpt} (h:MOk m) (hnb:m.2.2 = x0.1) (hl:(oL x0.1:Int) < b_R m 1 (c_b x0.1)) (key:Int):∀ (mm i:Nat) (y:KBt) (c:List (Int × Sh)) (Y:Mdl),2 - i < mm → i ≤ 2 → Inv m y c Y 0 →
    ∃ y' c' Y',p5_l2 2000 x0 m key mm i y c = some (.inl (y',c')) ∧ Inv m y' c' Y' 0 ∧ y'.2.2.2.2.1 = y.2.2.2.2.1:=by
  intro mm
  induction mm with
  | zero=>intro i y c Y hm;exact absurd hm (by omega)
  | succ mm ih =>
    intro i y c Y hm hi I
    rw [p5_l2]
    by_cases hlt:i < 2
    · rw [b_U (by omega),p11_eq (by decide) h ⟨[],some 0⟩ (fun y hy=>by cases hy),Option.bind_some]
      have hj:(if x0.1 = true then (some (2:Int)) else some 1) = some ((oL x0.1:Nat):Int):=by cases x0.1 <;> rfl
      rw [hj,Option.bind_some]
      have hck:ckI .i64 (1 - (i:Int)) = some (1 - (i:Int)):=ckS (by omega) (by omega)
      obtain ⟨b',hb1,hb2,hb3⟩:=repR_set hnb hl (IntKind.wrap .u8 (key * IntKind.wrap .u8 (1 - (i:Int))))
      rw [a_z,b_V (by show ¬ (((b_z m []).length:Int) ≤ _);omega),hck,Option.bind_some]
      obtain ⟨vs,y',c',Y',_,g2,_,I',hlit⟩:=e_Z (n:=2000) (by decide) h (hb2 (wrap8 _)) (some (d_j m [])) (by omega) I
      have hid:idx (b_z m []) ((oL x0.1:Nat):Int) = some (b_z m [])[oL x0.1]:=c_J hb3
      refine (congrArg (fun q=>∃ y' c' Y',Option.bind q _ = some (Sum.inl (y',c')) ∧ Inv m y' c' Y' 0 ∧ y'.2.2.2.2.1 = y.2.2.2.2.1) hid).mpr ?_
      rw [Option.bind_some,Int.toNat_natCast]
      have g2':p12 2000 (y.1,y.2.1,y.2.2.1,y.2.2.2.1,y.2.2.2.2.1,y.2.2.2.2.2.1,y.2.2.2.2.2.2.1,y.2.2.2.2.2.2.2) c ⟨(b_z m []).set (oL x0.1) (IntKind.wrap .u8 (key * IntKind.wrap .u8 (1 - (i:Int)))),some (d_j m [])⟩ = some (⟨b_S y.1 y'.1,some (b_S y.1 y'.1).length⟩,0,y',c'):=by rw [← hb1];exact g2
      refine (congrArg (fun q=>∃ y' c' Y',Option.bind q _ = some (Sum.inl (y',c')) ∧ Inv m y' c' Y' 0 ∧ y'.2.2.2.2.1 = y.2.2.2.2.1) g2').mpr ?_
      rw [Option.bind_some,if_neg (show ¬ (((0:Int) != 0) = true) by decide),ckS (by omega) (by omega),Option.bind_some,a_Q]
      obtain ⟨y2,c2,Y2,r1,r2,r3⟩:=ih (i + 1) y' c' Y' (by omega) (by omega) I'
      exact ⟨y2,c2,Y2,r1,r2,r3.trans hlit⟩
    · rw [b_V (by omega)]
      exact ⟨y,c,Y,rfl,I,rfl⟩
theorem p5_l3_eq (n:Nat) (x0:Bool × Int × Bool × Int) (h0:0 ≤ x0.2.2.2) (h1:x0.2.2.2 ≤ 255) (m:Mpt) (t:(Sl Int) × Bool × KBt) (t2:Int × KBt) (hla:0 ≤ t2.1 ∧ t2.1 ≤ 7) (ht:t.2.1 = true)
    (H:∀ c:Nat,c < 3 → ∃ f v,p26 n m 2 (524289 + (c:Int)) = some f ∧ p27 n m t.1 f.1 f.2.1 = some v ∧ (b_T x0.2.2.2 c = true → f.2.2 = 0 ∧ v = (t2.1 / 2 ^ c % 2,0))):∀ (mm c:Nat),3 - c < mm → c ≤ 3 → p5_l3 n x0 m t t2 mm c = some (.inl ()):=by
  intro mm
  induction mm with
  | zero=>intro c hm;exact absurd hm (by omega)
  | succ mm ih =>
    intro c hm hi
    rw [p5_l3]
    by_cases hlt:c < 3
    · rw [decide_eq_true (show (c:Int) < 3 by omega),if_pos rfl,ht,Option.bind_some,if_pos rfl]
      obtain ⟨f,v,e1,e2,e3⟩:=H c hlt
      rw [show IntKind.wrap .u32 (524289 + IntKind.wrap .u32 (c:Int)) = 524289 + (c:Int) by rw [b_5,b_5];omega,e1,Option.bind_some,e2,Option.bind_some,e_T (by omega),Option.bind_some]
      have h2:0 ≤ x0.2.2.2 / 2 ^ c:=Int.ediv_nonneg h0 (Int.le_of_lt (b_Q c))
      have h3:0 ≤ t2.1 / 2 ^ c:=Int.ediv_nonneg hla.1 (Int.le_of_lt (b_Q c))
      rw [b_c h2 (by decide) (u8R (by omega) (by omega)),Option.bind_some]
      have hq:(if (x0.2.2.2 / 2 ^ c % 2 == 1) = true then (if (f.2.2 != 0) = false then some (v.2 != 0) else some true).bind fun q_306=>(if q_306 = false then (d_J t2.1 (c:Int) .u8).bind fun x_308=>(c_v .u8 x_308 2).bind fun x_309=>some (v.1 != x_309) else some true).bind fun q_307=>some q_307 else some false) = some false:=by
        cases hb:(x0.2.2.2 / 2 ^ c % 2 == 1) with
        | false=>rfl
        | true =>
          obtain ⟨e4,e5⟩:=e3 hb
          rw [if_pos rfl,e4,if_pos (show ((0:Int) != 0) = false from rfl),e5,Option.bind_some,if_pos (show ((0:Int) != 0) = false from rfl),e_T (by omega),Option.bind_some,b_c h3 (by decide) (u8R (by omega) (by omega)),Option.bind_some,bne_self_eq_false]
          rfl
      refine (congrArg (fun q=>Option.bind q _) hq).trans ?_
      rw [Option.bind_some,if_neg Bool.false_ne_true,ckS (by omega) (by omega),Option.bind_some,a_Q]
      exact ih (c + 1) (by omega) (by omega)
    · rw [decide_eq_false (show ¬ (c:Int) < 3 by omega),if_neg Bool.false_ne_true,Option.bind_some,if_neg Bool.false_ne_true]
structure LM (m:Mpt) (nb:Bool) (kc:Int) (bits l0 l1 l2:Bool):Prop where
  eq_:m = mapL nb kc bits l0 l1 l2
  ok:MOk m
  kc_:1 ≤ kc ∧ kc ≤ 8
theorem LM.out {m:Mpt} {nb bits l0 l1 l2:Bool} {kc:Int} (h:LM m nb kc bits l0 l1 l2) (ha:(l0 || l1 || l2) = true):OutM m nb ∧ OutM (cpM m) nb:=by
  have h1:=e_B (e_B (e_B (e_B (e_B (chkO_all kc) nb) bits) l0) l1) l2
  rw [ha] at h1
  unfold chkO at h1
  simp only [Bool.not_true,Bool.false_or,Bool.and_eq_true,beq_iff_eq,List.all_eq_true] at h1
  rw [← h.eq_] at h1
  obtain ⟨⟨h2,h3⟩,h4⟩:=h1
  have ha:∀ f ∈ m.1.xs,f.1 = 2 → fAr f = false:=fun f hf hk=>by have:=h4 f hf;rw [hk] at this;simpa using this
  have hlen:m.1.xs.length ≤ 1000:=Nat.le_trans h.ok.len (by decide)
  have hnb:m.2.2 = nb:=by rw [h.eq_];rfl
  refine ⟨⟨h.ok.ppr,hlen,hnb,h2,h3,ha⟩,⟨(Ppr_cp m).2 h.ok.ppr,h.ok.cp.2.2.1,hnb,(lenR_cp m 2 _).trans h2,(e_A m.1.xs 2 _).trans h3,fun f hf hk=>?_⟩⟩
  obtain ⟨g,hg,rfl⟩:=List.mem_map.1 hf
  exact ha g hg hk
theorem LM.fnd {m x:Mpt} {nb bits l0 l1 l2:Bool} {kc:Int} (h:LM m nb kc bits l0 l1 l2) (hx:x = m ∨ x = cpM m) (u:Int):p26 2000 x 2 u = some (fndL 2 u x.1.xs 0):=by
  have hC:∀ f ∈ m.1.xs,0 ≤ fC f ∧ fC f ≤ 1000000:=fun f hf=>by have:=(h.ok.ppr f hf).1.2;omega
  have hU:∀ f ∈ m.1.xs,(fU f).xs.length < 2000 ∧ (fU f).xs.length ≤ 1000000:=fun f hf=>by have:=h.ok.us f hf;omega
  rcases hx with rfl | rfl
  · exact p26_eq (by decide) x 2 u (Nat.le_trans h.ok.len (by decide)) hU hC
  · refine p26_eq (by decide) (cpM m) 2 u h.ok.cp.2.2.1 (fun f hf=>?_) fun f hf=>?_
    · obtain ⟨g,hg,rfl⟩:=List.mem_map.1 hf
      exact hU g hg
    · obtain ⟨g,hg,rfl⟩:=List.mem_map.1 hf
      exact hC g hg
theorem p27_else {m:Mpt} {nb:Bool} (h:OutM m nb) (hk:(m.1.xs[0]?.map fun f=>(f.1,f.2.1)) = some (1,c_b nb)) (hc:∀ f ∈ m.1.xs,1 ≤ fC f) (hl:(oL nb:Int) < b_R m 1 (c_b nb)) {b:Sl Int} (hb:b.xs.length = oL nb):p27 2000 m b 0 0 = some (0,5):=by
  have h0:0 < m.1.xs.length:=by
    cases hx:m.1.xs with
    | nil=>rw [hx] at hk;cases hk
    | cons a l=>simp
  rw [List.getElem?_eq_getElem h0,Option.map_some] at hk
  have hk:=Option.some.inj hk
  have hf:idx m.1.xs 0 = some m.1.xs[0]:=c_J (i:=0) h0
  have hc0:1 ≤ m.1.xs[0].2.2.2.2.2.2.2.1:=hc _ (List.getElem_mem h0)
  generalize m.1.xs[0] = f at hk hf hc0
  obtain ⟨k1,k2⟩:=Prod.mk.injEq .. ▸ hk
  have e:p43 2000 m b 0 0 = some 5:=by
    unfold p43
    rw [p30_eq (by decide) m h.len,Option.bind_some,decide_eq_true h.ppr,if_neg (show ¬ ((!true) = true) by decide),decide_eq_false (show ¬ (0:Int) < 0 by decide),a_z,decide_eq_false (show ¬ (0:Int) ≥ (m.1.xs.length:Int) by omega),if_pos rfl,Option.bind_some,if_pos rfl,Option.bind_some,if_pos rfl,hf,Option.bind_some,decide_eq_false (show ¬ (0:Int) ≥ f.2.2.2.2.2.2.2.1 by omega),Option.bind_some,if_neg Bool.false_ne_true,Option.bind_some,k1,k2,p32_eq (by decide) m 1 _ h.len,Option.bind_some,a_z,hb,if_pos (bne_iff_ne.2 (by omega))]
  unfold p27
  rw [e,Option.bind_some,if_pos (show ((5:Int) != 0) = true from rfl)]
theorem LM.len1 {m:Mpt} {nb bits l0 l1 l2:Bool} {kc:Int} (h:LM m nb kc bits l0 l1 l2):(oL nb:Int) < b_R m 1 (c_b nb):=by
  have mK:kc ∈ KC:=by have:=h.kc_;unfold KC;simp;omega
  have h1:=e_B (e_B (e_B (e_B (List.all_eq_true.1 (e_B chkI_all nb) kc mK) bits) l0) l1) l2
  rw [h.eq_]
  exact of_decide_eq_true h1
theorem LM.hd {m:Mpt} {nb bits l0 l1 l2:Bool} {kc:Int} (h:LM m nb kc bits l0 l1 l2):(m.1.xs[0]?.map fun f=>(f.1,f.2.1)) = some (1,c_b nb):=by rw [h.eq_];rfl
theorem LM.lamp {m:Mpt} {nb bits l0 l1 l2:Bool} {kc:Int} (h:LM m nb kc bits l0 l1 l2) (ha:(l0 || l1 || l2) = true) {o:Sl Int} {la:Int} {c:Nat} {l:Bool} (hk:chkL nb m o la c l = true) :
    ∃ f v,p26 2000 m 2 (524289 + (c:Int)) = some f ∧ p27 2000 m o f.1 f.2.1 = some v ∧ (l = true → f.2.2 = 0 ∧ v = (la / 2 ^ c % 2,0)):=by
  have hO:=(h.out ha).1
  have hC:∀ f ∈ m.1.xs,1 ≤ fC f:=fun f hf=>(h.ok.ppr f hf).1.2.1
  unfold chkL at hk
  cases l with
  | true =>
    simp only [if_true,Bool.and_eq_true,beq_iff_eq] at hk
    exact ⟨_,_,h.fnd (.inl rfl) _,getO_le hO _ _ _ _ hk.2,fun _=>⟨hk.1,rfl⟩⟩
  | false =>
    simp only [Bool.false_eq_true,if_false,Bool.and_eq_true,beq_iff_eq] at hk
    refine ⟨_,(0,5),h.fnd (.inl rfl) _,?_,fun h=>by cases h⟩
    rw [hk.1.1,hk.1.2]
    exact p27_else hO h.hd hC h.len1 hk.2
theorem rep_step {m:Mpt} {nb bits l0 l1 l2:Bool} {kc:Int} (h:LM m nb kc bits l0 l1 l2) {y:KBt} {c:List (Int × Sh)} {Y:Mdl} (I:Inv m y c Y 0) :
    ∃ o is,p25 2000 y = some (o,is,(y.1,y.2.1,y.2.2.1,y.2.2.2.1,y.2.2.2.1,y.2.2.2.2.2)) ∧ is = ((l0 || l1 || l2) && y.2.2.2.1 != y.2.2.2.2.1) ∧ (is != (o.xs.length == 0)) = true ∧
      (is = true → ∀ c:Nat,c < 3 → ∃ f v,p26 2000 m 2 (524289 + (c:Int)) = some f ∧ p27 2000 m o f.1 f.2.1 = some v ∧ ((if c = 0 then l0 else if c = 1 then l1 else l2) = true → f.2.2 = 0 ∧ v = (y.2.2.2.1 / 2 ^ c % 2,0))):=by
  have h1:=I.map
  have h2:=I.rdy
  have h3:=I.la
  have h4:=I.lamps
  obtain ⟨d,m',r,la,lit,hh,tt,lk⟩:=y
  simp only at h1 h2 h4
  subst h1 h2
  simp only
  rw [← h4] at h3
  by_cases he:la = lit
  · subst he
    exact ⟨_,_,p25_same 2000 d (cpM m) la hh tt lk,by simp,by simp,fun h=>by cases h⟩
  · have mL:la ∈ LA:=by unfold LA;simp;omega
    have hk:=List.all_eq_true.1 (e_B (e_B (e_B (e_B (e_B (chkR_all kc) nb) bits) l0) l1) l2) la mL
    unfold chkR at hk
    simp only [← h.eq_] at hk
    cases hx:p25F (fun u=>some (fndL 2 u (cpM m).1.xs 0)) (blkO (l0 || l1 || l2) nb) (putO (l0 || l1 || l2) nb (cpM m)) ([],cpM m,true,la,0,0,0,[]) with
    | none=>rw [hx] at hk;cases hk
    | some x =>
      rw [hx] at hk
      simp only [Bool.and_eq_true,beq_iff_eq] at hk
      obtain ⟨⟨⟨k1,k2⟩,k3⟩,k4⟩:=hk
      have e:=p25_le 2000 (by decide) d hh tt lk he (fun u=>fun r e=>by rw [h.fnd (.inr rfl) u];exact e) (blkO_le fun ha=>(h.out ha).2) (putO_le fun ha=>(h.out ha).2) hx
      refine ⟨x.1,x.2.1,?_,?_,k2,fun hi c hc=>?_⟩
      · rw [e,putR,k3]
      · rw [k1,bne_iff_ne.2 he,Bool.and_true]
      · rw [hi] at k4 k1
        simp only [Bool.not_true,Bool.false_or,Bool.and_eq_true] at k4
        match c,hc with
        | 0,_=>exact h.lamp k1.symm k4.1.1
        | 1,_=>exact h.lamp k1.symm k4.1.2
        | 2,_=>exact h.lamp k1.symm k4.2
theorem p5_l1_eq (x0:Bool × Int × Bool × Int) (h0:0 ≤ x0.2.2.2) (h1:x0.2.2.2 ≤ 255) (x1:Sl Int) (hx:Byts x1.xs) (hl:x1.xs.length ≤ 20) {m:Mpt} {kc:Int} (h:LM m x0.1 kc x0.2.2.1 (b_T x0.2.2.2 0) (b_T x0.2.2.2 1) (b_T x0.2.2.2 2)) :
    ∀ (mm i:Nat) (y:KBt) (c:List (Int × Sh)) (Y:Mdl),x1.xs.length - i < mm → i ≤ x1.xs.length → Inv m y c Y 0 → ∃ s,p5_l1 2000 x0 x1 m mm i y.2.2.2.2.1 y c = some (.inl s):=by
  intro mm
  induction mm with
  | zero=>intro i y c Y hm;exact absurd hm (by omega)
  | succ mm ih =>
    intro i y c Y hm hi I
    rw [p5_l1,a_z]
    by_cases hlt:i < x1.xs.length
    · have hb:=hx _ (List.getElem_mem hlt)
      rw [b_U (by omega),c_J hlt,Option.bind_some,Option.bind_some]
      generalize x1.xs[i] = k at hb
      rw [b_c hb.1 (by decide) (u8R (by omega) (by omega)),Option.bind_some]
      obtain ⟨key,hkey⟩:∃ key,idx (⟨[83,57,71,4,k],some 5⟩:Sl Int).xs (k % 5) = some key:=⟨_,idx_of (by omega) (by show k % 5 < ((5:Nat):Int);omega)⟩
      rw [hkey,Option.bind_some]
      have hnb:m.2.2 = x0.1:=by rw [h.eq_];rfl
      obtain ⟨y1,c1,Y1,e1,I1,l1⟩:=p5_l2_eq x0 h.ok hnb h.len1 key 2000 0 y c Y (by decide) (by decide) I
      refine (congrArg (fun q=>∃ s,Option.bind q _ = some (Sum.inl s)) e1).mpr ?_
      rw [Option.bind_some,d_W]
      obtain ⟨o,is,e2,e3,e4,e5⟩:=rep_step h I1
      refine (congrArg (fun q=>∃ s,Option.bind q _ = some (Sum.inl s)) e2).mpr ?_
      rw [Option.bind_some,b_c h0 (by decide) (u8R (by omega) (by omega)),Option.bind_some]
      have I2:Inv m (y1.1,y1.2.1,y1.2.2.1,y1.2.2.2.1,y1.2.2.2.1,y1.2.2.2.2.2) c1 Y1 0:=⟨I1.map,I1.rdy,I1.lk,I1.dn,I1.dok,I1.lamps,I1.la,I1.held,I1.h0,I1.time,I1.tb,I1.rel⟩
      have e6:(if (x0.2.2.2 % 8 != 0) = true then (p15 2000 (y1.1,y1.2.1,y1.2.2.1,y1.2.2.2.1,y1.2.2.2.1,y1.2.2.2.2.2)).bind fun t_256=>some ((t_256.1 != y.2.2.2.2.1),t_256.2) else some (false,(y1.1,y1.2.1,y1.2.2.1,y1.2.2.2.1,y1.2.2.2.1,y1.2.2.2.2.2))) = some (is,(y1.1,y1.2.1,y1.2.2.1,y1.2.2.2.1,y1.2.2.2.1,y1.2.2.2.2.2)):=by
        rw [bitL_or h0 h1,e3,← l1]
        cases (b_T x0.2.2.2 0 || b_T x0.2.2.2 1 || b_T x0.2.2.2 2) with
        | false=>rfl
        | true=>rfl
      refine (congrArg (fun q=>∃ s,Option.bind q _ = some (Sum.inl s)) e6).mpr ?_
      rw [Option.bind_some]
      have e7:(if (!(is == is)) = false then some (is == ((a_m o) == 0)) else some true) = some false:=by
        rw [beq_self_eq_true,if_pos (show (!true) = false from rfl),a_z]
        refine congrArg some ?_
        have:(((o.xs.length:Int) == 0)) = (o.xs.length == 0):=by rw [Bool.eq_iff_iff];simp
        rw [this]
        cases is <;> cases hz:(o.xs.length == 0) <;> rw [hz] at e4 <;> first | rfl | cases e4
      refine (congrArg (fun q=>∃ s,Option.bind q _ = some (Sum.inl s)) e7).mpr ?_
      rw [Option.bind_some,if_neg Bool.false_ne_true]
      have hla:0 ≤ y1.2.2.2.1 ∧ y1.2.2.2.1 ≤ 7:=by rw [I1.lamps];exact I1.la
      have e8:p5_l3 2000 x0 m (o,is,(y1.1,y1.2.1,y1.2.2.1,y1.2.2.2.1,y1.2.2.2.1,y1.2.2.2.2.2)) (y1.2.2.2.1,(y1.1,y1.2.1,y1.2.2.1,y1.2.2.2.1,y1.2.2.2.1,y1.2.2.2.2.2)) 2000 0 = some (.inl ()):=by
        cases hi2:is with
        | true =>
          refine p5_l3_eq 2000 x0 h0 h1 m _ _ hla rfl (fun c hc=>?_) 2000 0 (by decide) (by decide)
          obtain ⟨f,v,g1,g2,g3⟩:=e5 hi2 c hc
          refine ⟨f,v,g1,g2,fun hb=>g3 ?_⟩
          match c,hc with
          | 0,_=>exact hb
          | 1,_=>exact hb
          | 2,_=>exact hb
        | false=>rw [show (2000:Nat) = 1999 + 1 from rfl,p5_l3];rfl
      have e9:p25 2000 (y1.1,y1.2.1,y1.2.2.1,y1.2.2.2.1,y1.2.2.2.1,y1.2.2.2.2.2) = some (⟨[],some 0⟩,false,(y1.1,y1.2.1,y1.2.2.1,y1.2.2.2.1,y1.2.2.2.1,y1.2.2.2.2.2)):=by
        rw [I1.rdy]
        exact p25_same 2000 _ _ _ _ _ _
      refine (congrArg (fun q=>∃ s,Option.bind q _ = some (Sum.inl s)) (show p15 2000 (y1.1,y1.2.1,y1.2.2.1,y1.2.2.2.1,y1.2.2.2.1,y1.2.2.2.2.2) = some (y1.2.2.2.1,(y1.1,y1.2.1,y1.2.2.1,y1.2.2.2.1,y1.2.2.2.1,y1.2.2.2.2.2)) from rfl)).mpr ?_
      rw [Option.bind_some]
      refine (congrArg (fun q=>∃ s,Option.bind q _ = some (Sum.inl s)) e8).mpr ?_
      rw [Option.bind_some,d_W]
      refine (congrArg (fun q=>∃ s,Option.bind q _ = some (Sum.inl s)) e9).mpr ?_
      rw [Option.bind_some,if_neg Bool.false_ne_true,ckS (by omega) (by omega),Option.bind_some,a_Q]
      exact ih (i + 1) (y1.1,y1.2.1,y1.2.2.1,y1.2.2.2.1,y1.2.2.2.1,y1.2.2.2.2.2) c1 Y1 (by omega) (by omega) I2
    · rw [b_V (by omega)]
      exact ⟨_,rfl⟩
theorem p5_main (x0:Bool × Int × Bool × Int) (x1:Sl Int) (hk:0 ≤ x0.2.1 ∧ x0.2.1 ≤ 255) (hl:0 ≤ x0.2.2.2 ∧ x0.2.2.2 ≤ 255) (hb:Byts x1.xs):p5 2000 x0 x1 = some true:=by
  unfold p5
  by_cases hc:a_m x1 > 20
  · rw [b_U hc,p8_ok];rfl
  · rw [b_V hc]
    rw [a_z] at hc
    have hM:=MOk.of (chk_ok x0.1 (kc:=1 + x0.2.1 % 8) (by omega) x0.2.2.1 (b_T x0.2.2.2 0) (b_T x0.2.2.2 1) (b_T x0.2.2.2 2))
    have e1:=p9_eq x0 hk hl
    have h:LM (mapL x0.1 (1 + x0.2.1 % 8) x0.2.2.1 (b_T x0.2.2.2 0) (b_T x0.2.2.2 1) (b_T x0.2.2.2 2)) x0.1 (1 + x0.2.1 % 8) x0.2.2.1 (b_T x0.2.2.2 0) (b_T x0.2.2.2 1) (b_T x0.2.2.2 2):=⟨rfl,hM,by omega⟩
    generalize mapL x0.1 (1 + x0.2.1 % 8) x0.2.2.1 (b_T x0.2.2.2 0) (b_T x0.2.2.2 1) (b_T x0.2.2.2 2) = m at e1 h
    have e2:p10 2000 m = some (some (newK m),0):=p10_good (by decide) _ (fun f hf=>Nat.lt_of_le_of_lt (h.ok.us f hf) (by decide)) (fun f hf=>Nat.le_trans (h.ok.us f hf) (by decide)) (Nat.le_trans h.ok.len (by decide)) h.ok.ppr h.ok.key
    obtain ⟨s,e3⟩:=p5_l1_eq x0 hl.1 hl.2 x1 hb (by omega) h 2000 0 (newK m) [] ([Z2,Z2,Z2],Zs,0,0,0) (by omega) (Nat.zero_le _) (Inv.new m)
    rw [e1,Option.bind_some,e2,Option.bind_some]
    show ((p5_l1 2000 x0 x1 m 2000 0 0 (newK m) []).bind _) = _
    refine (congrArg (fun q=>Option.bind q _) e3).trans ?_
    rw [Option.bind_some,d_W,p8_ok]
    rfl
end Go.Proofs.Ytionknddmlmhlaa
