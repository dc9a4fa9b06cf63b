/- Plain theorems for the laws: what the plain functions say. No condition. -/
import Derived.Test.YtaekmgpcdgmlgaaP5
import Derived.Test.YtaekmgpcdgmlgaaXP2
set_option linter.unusedVariables false
set_option linter.unusedSimpArgs false
namespace Go.Proofs.Ytaekmgpcdgmlgaa
open Go.RowKit

theorem idxE {α:Type} {xs:List α} {i:Nat} (h:i < xs.length):idx xs (i:Int) = some xs[i]:=by
  rw [idx_nat,List.getElem?_eq_getElem h]
theorem lenI_mk {α:Type} (l:List α) (c:Option Nat):lenI (⟨l,c⟩:Sl α) = (l.length:Int):=rfl
theorem len_def {α:Type} (s:Sl α):lenI s = (s.xs.length:Int):=rfl
theorem castS (k:Nat):((k:Int) + 1) = ((k + 1:Nat):Int):=by simp
theorem drop_cons {α:Type} {l:List α} {i:Nat} (h:i < l.length):l.drop i = l[i] :: l.drop (i + 1):=List.drop_eq_getElem_cons h
theorem sl3I_all {α:Type} (l:List α) (cp:Option Nat):sl3I (⟨l,cp⟩:Sl α) 0 (lenI (⟨l,cp⟩:Sl α)) (lenI (⟨l,cp⟩:Sl α)) = some ⟨l,some l.length⟩:=by
  unfold sl3I
  rw [lenI_mk,if_pos (show (0:Int) ≤ 0 ∧ (0:Int) ≤ (l.length:Int) ∧ (l.length:Int) ≤ (l.length:Int) ∧ (l.length:Int) ≤ (l.length:Int) by omega)]
  simp
theorem ifDT {α:Type} {p:Prop} [Decidable p] {a b:α} (h:p):(if decide p = true then a else b) = a:=by rw [decide_eq_true h];rfl
theorem ifDF {α:Type} {p:Prop} [Decidable p] {a b:α} (h:¬ p):(if decide p = true then a else b) = b:=by rw [decide_eq_false h];rfl

/-- A need: speed, kind, in, max, period, hub. -/
abbrev Nd:=Int × Int × Bool × Int × Int × Int
/-- A slot: id, need, phase. -/
abbrev Slt:=Int × Nd × Int

/-! ### Periods -/
def isP (p:Int):Bool:=p == 1 || p == 2 || p == 4 || p == 8 || p == 16 || p == 32 || p == 64 || p == 128 || p == 256
theorem isP_cases {p:Int} (h:isP p = true):p = 1 ∨ p = 2 ∨ p = 4 ∨ p = 8 ∨ p = 16 ∨ p = 32 ∨ p = 64 ∨ p = 128 ∨ p = 256:=by
  simp only [isP,Bool.or_eq_true,beq_iff_eq] at h
  omega
theorem isP_range {p:Int} (h:isP p = true):1 ≤ p ∧ p ≤ 256:=by have:=isP_cases h;omega
theorem isP_all:((List.range 257).all fun k=>Nat.beq k 0 || ((bitsI .and .i64 (k:Int) ((k:Int) - 1) == 0) == isP (k:Int))) = true:=by kernel_rfl
theorem and_isP {p:Int} (h1:1 ≤ p) (h2:p ≤ 256):(bitsI .and .i64 p (p - 1) == 0) = isP p:=by
  obtain ⟨k,rfl⟩:=Int.eq_ofNat_of_zero_le (by omega:0 ≤ p)
  have:=List.all_eq_true.1 isP_all k (List.mem_range.2 (by omega))
  rw [Bool.or_eq_true] at this
  rcases this with h | h
  · have:=Nat.eq_of_beq_eq_true h;omega
  · simpa using h

/-! ### Needs -/
def capN (k sp:Int):Int:=if k = 1 then (if sp = 0 then 0 else if sp = 1 then 1023 else 1024) else (if sp = 0 then 8 else if sp = 1 then 64 else 1024)
theorem capN_le (k sp:Int):capN k sp ≤ 1024:=by unfold capN;repeat' split <;> omega
def VN (x:Nd):Prop:=(x.2.1 = 3 ∨ x.2.1 = 1) ∧ x.1 ≤ 2 ∧ 1 ≤ x.2.2.2.1 ∧ x.2.2.2.1 ≤ capN x.2.1 x.1 ∧ x.2.2.2.2.2 ≤ 127 ∧ isP x.2.2.2.2.1 = true ∧ (x.1 = 2 → x.2.2.2.2.2 = 0) ∧ (x.1 ≠ 2 → 8 ≤ x.2.2.2.2.1)
instance (x:Nd):Decidable (VN x):=by unfold VN;infer_instance
theorem p33_eq (n:Nat) (i:Bool) (k mx sp:Int) (hk:k = 3 ∨ k = 1) (h0:0 ≤ sp) (h2:sp ≤ 2) (hm0:0 ≤ mx) (hm:mx ≤ 1024):p33 n (1,i,k,IntKind.wrap .u16 mx,1) sp = some (decide (1 ≤ mx ∧ mx ≤ capN k sp)):=by
  rw [wrap_u16,Int.emod_eq_of_lt hm0 (by omega)]
  have h49:p49 n (1,i,k,mx,1) = some (decide (1 ≤ mx)):=by
    unfold p49
    simp only
    rw [orS,Option.bind_some,orS,Option.bind_some,orS,Option.bind_some]
    by_cases h1:1 ≤ mx
    · rw [decide_eq_true h1,decide_eq_false (show ¬ (1:Int) < 1 by omega),decide_eq_false (show ¬ (1:Int) > 15 by omega),decide_eq_false (show ¬ mx < 1 by omega),decide_eq_false (show ¬ mx > 1024 by omega)]
      rcases hk with rfl | rfl <;> rfl
    · rw [decide_eq_false h1,decide_eq_true (show mx < 1 by omega)]
      simp
  unfold p33
  rw [h49,Option.bind_some,orS,Option.bind_some,decide_eq_false (show ¬ sp > 2 by omega),Bool.or_false]
  by_cases h1:1 ≤ mx
  · rw [decide_eq_true h1]
    have h50:∀ a b c:Int,p50 n a b c (1,i,k,mx,1) sp = some (decide (mx ≤ if sp = 0 then a else if sp = 1 then b else c)):=by
      intro a b c
      unfold p50
      have hsp:sp = 0 ∨ sp = 1 ∨ sp = 2:=by omega
      rcases hsp with rfl | rfl | rfl <;> rfl
    rcases hk with rfl | rfl
    · simp only [h50]
      rw [show (!true) = false from rfl,if_neg (by decide),show ((3:Int) == 1) = false from rfl,if_neg (by decide),show ((3:Int) == 3) = true from rfl,if_pos rfl,Option.bind_some,Option.bind_eq_some_iff]
      refine ⟨_,?_,rfl⟩
      have e:(1 ≤ mx ∧ mx ≤ capN 3 sp) ↔ mx ≤ if sp = 0 then 8 else if sp = 1 then 64 else 1024:=by simp [capN,h1]
      rw [decide_eq_decide.2 e]
      by_cases hh:mx ≤ if sp = 0 then 8 else if sp = 1 then 64 else 1024
      · rw [decide_eq_true hh,if_pos rfl]
        by_cases hs:sp = 2
        · subst hs;rfl
        · rw [if_neg (by simpa using hs)];rfl
      · rw [decide_eq_false hh,if_neg (by decide)]
    · simp only [h50]
      rw [show (!true) = false from rfl,if_neg (by decide),show ((1:Int) == 1) = true from rfl,if_pos rfl,Option.bind_some]
      have e:(1 ≤ mx ∧ mx ≤ capN 1 sp) ↔ mx ≤ if sp = 0 then 0 else if sp = 1 then 1023 else 1024:=by simp [capN,h1]
      rw [decide_eq_decide.2 e]
  · rw [decide_eq_false h1,show (!false) = true from rfl,if_pos rfl,decide_eq_false (fun h=>h1 h.1)]
theorem p24_eq (n:Nat) (x:Nd) (h0:0 ≤ x.1):p24 n x = some (decide (VN x)):=by
  obtain ⟨sp,k,i,mx,per,hub⟩:=x
  unfold p24
  simp only at h0 ⊢
  rw [andS,Option.bind_some,orS,Option.bind_some,orS,Option.bind_some,orS,Option.bind_some,orS,Option.bind_some]
  by_cases hq:(k = 3 ∨ k = 1) ∧ sp ≤ 2 ∧ 0 ≤ mx ∧ mx ≤ 1024 ∧ hub ≤ 127
  · obtain ⟨hk,hsp,hm0,hm1,hh⟩:=hq
    have e1:(k != 3 && k != 1) = false:=by rcases hk with rfl | rfl <;> rfl
    rw [e1,decide_eq_false (show ¬ sp > 2 by omega),decide_eq_false (show ¬ mx < 0 by omega),decide_eq_false (show ¬ mx > 1024 by omega),decide_eq_false (show ¬ hub > 127 by omega)]
    rw [show (false || false || false || false || false) = false from rfl,if_neg (by decide),p33_eq n i k mx sp hk h0 hsp hm0 hm1,Option.bind_some]
    by_cases hf:1 ≤ mx ∧ mx ≤ capN k sp
    · rw [decide_eq_true hf,show (!true) = false from rfl,if_neg (by decide),orS,Option.bind_some]
      by_cases hp:1 ≤ per ∧ per ≤ 256
      · rw [decide_eq_false (show ¬ per < 1 by omega),decide_eq_false (show ¬ per > 256 by omega),show (false || false) = false from rfl,if_pos rfl,ckS (by omega) (by omega),Option.bind_some,Option.bind_some]
        have hb:((bitsI .and .i64 per (per - 1)) != 0) = !isP per:=by rw [← and_isP hp.1 hp.2];rfl
        rw [hb]
        by_cases hi:isP per = true
        · rw [hi,show (!true) = false from rfl,if_neg (by decide)]
          by_cases h2:sp = 2
          · subst h2
            rw [show ((2:Int) == 2) = true from rfl,if_pos rfl]
            congr 1
            exact decide_eq_decide.2 ⟨fun e=>⟨hk,hsp,hf.1,hf.2,hh,hi,fun _=>e,fun c=>absurd rfl c⟩,fun h=>h.2.2.2.2.2.2.1 rfl⟩
          · rw [if_neg (by simpa using h2)]
            congr 1
            exact decide_eq_decide.2 ⟨fun e=>⟨hk,hsp,hf.1,hf.2,hh,hi,fun c=>absurd c h2,fun _=>e⟩,fun h=>h.2.2.2.2.2.2.2 h2⟩
        · have hV:¬ VN (sp,k,i,mx,per,hub):=fun h=>hi h.2.2.2.2.2.1
          rw [Bool.eq_false_iff.2 hi,show (!false) = true from rfl,if_pos rfl,decide_eq_false hV]
      · have hb:(decide (per < 1) || decide (per > 256)) = true:=by simp;omega
        have hV:¬ VN (sp,k,i,mx,per,hub):=fun h=>hp (isP_range h.2.2.2.2.2.1)
        rw [hb,if_neg (by decide),Option.bind_some,if_pos rfl,decide_eq_false hV]
    · have hV:¬ VN (sp,k,i,mx,per,hub):=fun h=>hf ⟨h.2.2.1,h.2.2.2.1⟩
      rw [decide_eq_false hf,show (!false) = true from rfl,if_pos rfl,decide_eq_false hV]
  · have hb:(k != 3 && k != 1 || decide (sp > 2) || decide (mx < 0) || decide (mx > 1024) || decide (hub > 127)) = true:=by
      rw [← Bool.not_eq_false]
      intro h
      simp only [Bool.or_eq_false_iff,Bool.and_eq_false_iff,bne_eq_false_iff_eq,decide_eq_false_iff_not] at h
      exact hq ⟨h.1.1.1.1,by omega,by omega,by omega,by omega⟩
    have hV:¬ VN (sp,k,i,mx,per,hub):=fun h=>by
      have h1:=capN_le k sp
      have h2:1 ≤ mx:=h.2.2.1
      have h3:mx ≤ capN k sp:=h.2.2.2.1
      exact hq ⟨h.1,h.2.1,by omega,by omega,h.2.2.2.2.1⟩
    rw [hb,if_pos rfl,decide_eq_false hV]

/-! ### Slots -/
def okPh (sp ph:Int):Prop:=sp = 2 ∨ ph % 8 ≤ 3
instance (sp ph:Int):Decidable (okPh sp ph):=by unfold okPh;infer_instance
def VS (s:Slt):Prop:=0 ≤ s.1 ∧ VN s.2.1 ∧ 0 ≤ s.2.2 ∧ s.2.2 < s.2.1.2.2.2.2.1 ∧ okPh s.2.1.1 s.2.2
instance (s:Slt):Decidable (VS s):=by unfold VS;infer_instance
theorem p34_eq (n:Nat) (s:Slt) (h0:0 ≤ s.2.1.1):p34 n s = some (decide (VS s)):=by
  obtain ⟨id,x,ph⟩:=s
  unfold p34
  simp only at h0 ⊢
  rw [p24_eq n x h0,Option.bind_some]
  rw [orS,Option.bind_some,orS,Option.bind_some,orS,Option.bind_some]
  by_cases hq:0 ≤ id ∧ VN x ∧ 0 ≤ ph ∧ ph < x.2.2.2.2.1
  · obtain ⟨h1,h2,h3,h4⟩:=hq
    have hp:=isP_range h2.2.2.2.2.2.1
    rw [decide_eq_false (show ¬ id < 0 by omega),decide_eq_true h2,decide_eq_false (show ¬ ph < 0 by omega),decide_eq_false (show ¬ ph ≥ x.2.2.2.2.1 by omega),show (false || !true || false || false) = false from rfl,if_neg (by decide),remS h3 (by decide) (by omega),Option.bind_some,orS,Option.bind_some]
    have e:((x.1 == 2) || decide (ph % 8 ≤ 3)) = decide (okPh x.1 ph):=by
      rw [Bool.eq_iff_iff,Bool.or_eq_true,beq_iff_eq,decide_eq_true_eq,decide_eq_true_eq];exact Iff.rfl
    rw [e]
    congr 1
    exact decide_eq_decide.2 ⟨fun h=>⟨h1,h2,h3,h4,h⟩,fun h=>h.2.2.2.2⟩
  · have hb:(decide (id < 0) || !decide (VN x) || decide (ph < 0) || decide (ph ≥ x.2.2.2.2.1)) = true:=by
      rw [← Bool.not_eq_false]
      intro h
      simp only [Bool.or_eq_false_iff,decide_eq_false_iff_not,Bool.not_eq_false',decide_eq_true_eq] at h
      exact hq ⟨by omega,h.1.1.2,by omega,by omega⟩
    have hV:¬ VS (id,x,ph):=fun h=>hq ⟨h.1,h.2.1,h.2.2.1,h.2.2.2.1⟩
    rw [hb,if_pos rfl,decide_eq_false hV]

/-! ### Costs -/
def wst (n:Int):Int:=8 + 8 * n + (8 * n + 1) / 6 + 3
theorem p58_eq (n:Nat) (x:Int) (h0:0 ≤ x) (h1:x ≤ 2000):p58 n x = some (wst x):=by
  unfold p58
  rw [ckS (by omega) (by omega),Option.bind_some,ckS (by omega) (by omega),Option.bind_some,Option.bind_some,ckS (by omega) (by omega),Option.bind_some,quoS (by omega) (by decide) (by omega),Option.bind_some,ckS (by omega) (by omega),Option.bind_some,ckS (by omega) (by omega),Option.bind_some]
  rfl
theorem wst_range {x:Int} (h0:0 ≤ x) (h1:x ≤ 2000):11 ≤ wst x ∧ wst x ≤ 20000:=by unfold wst;omega
def lst (l:List Int):Int:=(l.map fun x=>wst x + 8).sum
theorem p45_l1_eq (n:Nat) (s:Sl Int) (hs:s.xs.length ≤ 10) (hr:∀ x ∈ s.xs,0 ≤ x ∧ x ≤ 2000):∀ (m k:Nat) (a:Int),k ≤ s.xs.length → s.xs.length - k < m → 0 ≤ a → a + 20008 * ((s.xs.length:Int) - k) ≤ 9223372036854775807 → p45_l1 n s m k a = some (a + lst (s.xs.drop k)):=by
  intro m
  induction m with
  | zero=>intro k a _ h;exact absurd h (by omega)
  | succ m ih =>
    intro k a hk hm ha hb
    unfold p45_l1
    rw [len_def]
    by_cases hlt:k < s.xs.length
    · have hx:=hr s.xs[k] (List.getElem_mem hlt)
      have hw:=wst_range hx.1 hx.2
      rw [ifDT (show (k:Int) < (s.xs.length:Int) by omega),idxE hlt,Option.bind_some,p58_eq n _ hx.1 hx.2,Option.bind_some,ckS (by omega) (by omega),Option.bind_some,ckS (by omega) (by omega),Option.bind_some,ckS (by omega) (by omega),Option.bind_some,castS,ih (k + 1) _ (by omega) (by omega) (by omega) (by omega),drop_cons hlt]
      congr 1
      simp only [lst,List.map_cons,List.sum_cons]
      omega
    · rw [ifDF (by omega),List.drop_eq_nil_of_le (by omega)]
      simp [lst]
theorem p45_eq {n:Nat} (hn:20 ≤ n) (s:Sl Int) (hs:s.xs.length ≤ 10) (hr:∀ x ∈ s.xs,0 ≤ x ∧ x ≤ 2000):p45 n s = some (lst s.xs):=by
  unfold p45
  rw [show (0:Int) = ((0:Nat):Int) from rfl,p45_l1_eq n s hs hr n 0 _ (by omega) (by omega) (by simp) (by simp;omega),Option.bind_some]
  simp
theorem p44_eq (n:Nat) (k mx:Int) (hk:k = 3 ∨ k = 1) (h0:0 ≤ mx) (h1:mx ≤ 1024):p44 n k mx = some true:=by
  unfold p44
  rw [andS,Option.bind_some,andS,Option.bind_some,decide_eq_true (show k ≤ 3 by omega),decide_eq_true (show mx ≥ 0 by omega),decide_eq_true h1];rfl
/-- What a transaction costs on the bus of the device. -/
def c0 (sp k mx:Int):Int :=
  let a:=lst [3,mx + 3] + (if k = 1 then 0 else lst [1])
  if sp = 0 then a * 8 else a
def cS (k:Int) (i:Bool) (mx:Int):Int:=lst (if i then [4,3] else [4,3,mx + 3])
def cC (k:Int) (i:Bool) (mx:Int):Int:=if k = 1 ∧ i = false then 0 else lst ([4,3] ++ (if i then [mx + 3] else []) ++ (if k = 1 then [] else [1]))
theorem p30_eq {n:Nat} (hn:20 ≤ n) (sp k mx:Int) (hk:k = 3 ∨ k = 1) (hs0:0 ≤ sp) (hs:sp ≤ 2) (h0:0 ≤ mx) (h1:mx ≤ 1024):p30 n sp k mx = some (c0 sp k mx,0):=by
  have w1:=wst_range (x:=mx + 3) (by omega) (by omega)
  have e1:lst [3,mx + 3] = 47 + (wst (mx + 3) + 8):=by simp [lst];unfold wst;omega
  have e2:lst [1] = 28:=by decide
  unfold p30
  rw [p44_eq n k mx hk h0 h1,Option.bind_some,orS,Option.bind_some,decide_eq_false (show ¬ sp > 2 by omega),show (false || !true) = false from rfl,if_neg (by decide),ckS (by omega) (by omega),Option.bind_some,p45_eq hn _ (by simp) (by simp;omega),Option.bind_some]
  rw [p45_eq hn ⟨[1],some 1⟩ (by simp) (by simp),Option.bind_some]
  rw [e1,e2,ckS (by omega) (by omega),Option.bind_some]
  have hj:(if (k != 1) = true then some (47 + (wst (mx + 3) + 8) + 28) else some (47 + (wst (mx + 3) + 8))) = some (47 + (wst (mx + 3) + 8) + if k = 1 then 0 else 28):=by
    rcases hk with rfl | rfl <;> simp
  rw [hj,Option.bind_some]
  unfold c0
  rw [e1,e2]
  by_cases hz:sp = 0
  · subst hz
    rw [if_pos rfl,ckS (by split <;> omega) (by split <;> omega)]
    rfl
  · rw [if_neg (by simpa using hz)]
    simp only [if_neg hz]
    rfl
theorem p31_eq {n:Nat} (hn:20 ≤ n) (k:Int) (i:Bool) (mx:Int) (hk:k = 3 ∨ k = 1) (h0:0 ≤ mx) (h1:mx ≤ 1024):p31 n k i mx = some (cS k i mx,0):=by
  unfold p31
  rw [p44_eq n k mx hk h0 h1,Option.bind_some,show (!true) = false from rfl,if_neg (by decide)]
  unfold p46_47 p47_59 p59
  have hk0:(k == 0) = false:=by rcases hk with rfl | rfl <;> rfl
  have hk2:(k == 2) = false:=by rcases hk with rfl | rfl <;> rfl
  rw [ckS (by omega) (by omega)]
  cases i
  · rw [show (!false) = true from rfl,if_pos rfl,Option.bind_some,appI_ok (by simp),Option.bind_some,Option.bind_some,Option.bind_some,orS,Option.bind_some,hk0,hk2,if_neg (by decide),Option.bind_some,Option.bind_some,p45_eq hn _ (by simp) (by simp;omega)]
    rfl
  · rw [show (!true) = false from rfl,if_neg (by decide),Option.bind_some,orS,Option.bind_some,hk0,hk2,if_neg (by decide),Option.bind_some,Option.bind_some,p45_eq hn _ (by simp) (by simp)]
    rfl
theorem p32_eq {n:Nat} (hn:20 ≤ n) (k:Int) (i:Bool) (mx:Int) (hk:k = 3 ∨ k = 1) (h0:0 ≤ mx) (h1:mx ≤ 1024):(p32 n k i mx).map (·.1) = some (cC k i mx):=by
  unfold p32
  rw [p44_eq n k mx hk h0 h1,Option.bind_some]
  unfold p46_48 p48_59 p59
  rw [ckS (by omega) (by omega)]
  rcases hk with rfl | rfl <;> cases i
  · simp only [show (!true) = false from rfl,show ((3:Int) == 1) = false from rfl,Bool.false_eq_true,if_false,if_true,Option.bind_some,show ((3:Int) != 1) = true from rfl]
    rw [appI_ok (by simp)];simp only [Option.bind_some];rw [p45_eq hn _ (by simp) (by simp)]
    rfl
  · simp only [show (!true) = false from rfl,show ((3:Int) == 1) = false from rfl,Bool.false_eq_true,if_false,if_true,Option.bind_some,show ((3:Int) != 1) = true from rfl]
    rw [appI_ok (by simp)];simp only [Option.bind_some];rw [appI_ok (by simp)];simp only [Option.bind_some];rw [p45_eq hn _ (by simp) (by simp;omega)]
    rfl
  · rfl
  · simp only [show (!true) = false from rfl,show ((1:Int) == 1) = true from rfl,Bool.false_eq_true,if_false,if_true,Option.bind_some,show ((1:Int) != 1) = false from rfl]
    rw [appI_ok (by simp)];simp only [Option.bind_some];rw [p45_eq hn _ (by simp) (by simp;omega)]
    rfl
/-- What a need costs. -/
def cst (x:Nd):Int × Int × Int:=if x.1 = 2 then (c0 2 x.2.1 x.2.2.2.1,0,0) else (cS x.2.1 x.2.2.1 x.2.2.2.1,cC x.2.1 x.2.2.1 x.2.2.2.1,c0 x.1 x.2.1 x.2.2.2.1)
theorem lst_cons (x:Int) (l:List Int):lst (x :: l) = wst x + 8 + lst l:=rfl
theorem lst_nil:lst [] = 0:=rfl
theorem cst_range {x:Nd} (h0:0 ≤ x.1) (h:VN x):(0 ≤ (cst x).1 ∧ (cst x).1 ≤ 40000) ∧ (0 ≤ (cst x).2.1 ∧ (cst x).2.1 ≤ 40000) ∧ (0 ≤ (cst x).2.2 ∧ (cst x).2.2 ≤ 40000):=by
  obtain ⟨sp,k,i,mx,per,hub⟩:=x
  obtain ⟨hk,hs,h1,h2,_⟩:=h
  simp only at hk hs h1 h2 h0
  have hc:=capN_le k sp
  have w1:=wst_range (x:=mx + 3) (by omega) (by omega)
  have w2:wst 3 = 39:=by decide
  have w3:wst 4 = 48:=by decide
  have w4:wst 1 = 20:=by decide
  have w5:sp = 0 → wst (mx + 3) ≤ 200:=by
    intro e
    subst e
    have:mx ≤ 8:=by rcases hk with rfl | rfl <;> simp [capN] at h2 <;> omega
    unfold wst;omega
  unfold cst c0 cS cC
  simp only [lst_cons,lst_nil]
  rcases hk with rfl | rfl <;> cases i <;> by_cases e0:sp = 0 <;> by_cases e2:sp = 2 <;> simp only [e0,e2,if_true,if_false,lst_cons,lst_nil,List.cons_append,List.nil_append,List.append_nil] <;> simp [lst_cons,lst_nil] <;> (try have:=w5 e0) <;> omega
theorem p38_eq {n:Nat} (hn:20 ≤ n) (x:Nd) (h0:0 ≤ x.1) (h:VN x):p38 n x = some (cst x):=by
  obtain ⟨sp,k,i,mx,per,hub⟩:=x
  obtain ⟨hk,hs,h1,h2,_⟩:=h
  simp only at hk hs h1 h2 h0
  have hc:=capN_le k sp
  unfold p38 cst
  simp only
  rw [p30_eq hn sp k mx hk h0 hs (by omega) (by omega),Option.bind_some]
  by_cases e:sp = 2
  · subst e;rfl
  · rw [if_neg (by simpa using e),if_neg e,p31_eq hn k i mx hk (by omega) (by omega),Option.bind_some]
    have:=p32_eq hn k i mx hk (by omega) (by omega)
    cases hp:p32 n k i mx with
    | none=>rw [hp] at this;cases this
    | some r =>
      rw [hp] at this
      have e2:r.1 = cC k i mx:=Option.some.inj this
      rw [Option.bind_some,e2]
theorem p12_eq {n:Nat} (hn:20 ≤ n) (x:Nd) (h0:0 ≤ x.1) (h:VN x):p12 n x = some [(cst x).1,(cst x).2.1,(cst x).2.2]:=by
  obtain ⟨sp,k,i,mx,per,hub⟩:=x
  obtain ⟨hk,hs,h1,h2,_⟩:=h
  simp only at hk hs h1 h2 h0
  have hc:=capN_le k sp
  unfold p12 cst
  simp only
  rw [p30_eq hn sp k mx hk h0 hs (by omega) (by omega),Option.bind_some]
  by_cases e:sp = 2
  · subst e;rfl
  · rw [if_neg (by simpa using e),if_neg e,p31_eq hn k i mx hk (by omega) (by omega),Option.bind_some]
    have:=p32_eq hn k i mx hk (by omega) (by omega)
    cases hp:p32 n k i mx with
    | none=>rw [hp] at this;cases this
    | some r =>
      rw [hp] at this
      have e2:r.1 = cC k i mx:=Option.some.inj this
      rw [Option.bind_some,e2]

def due (per ph t:Int):Bool:=decide (0 ≤ t ∧ t % per = ph)
theorem p41_eq (n:Nat) (per ph:Int):p41 n per ph = some (decide (isP per = true ∧ 0 ≤ ph ∧ ph < per)):=by
  unfold p41
  rw [andS,Option.bind_some]
  by_cases hp:1 ≤ per ∧ per ≤ 256
  · rw [decide_eq_true (show per ≥ 1 from hp.1),decide_eq_true hp.2,show (true && true) = true from rfl,if_pos rfl,ckS (by omega) (by omega),Option.bind_some,Option.bind_some,and_isP hp.1 hp.2,andS,Option.bind_some,andS,Option.bind_some]
    congr 1
    rw [Bool.eq_iff_iff]
    simp only [Bool.and_eq_true,decide_eq_true_eq]
    constructor
    · rintro ⟨⟨a,b⟩,c⟩;exact ⟨a,b,c⟩
    · rintro ⟨a,b,c⟩;exact ⟨⟨a,b⟩,c⟩
  · have hb:(decide (per ≥ 1) && decide (per ≤ 256)) = false:=by rw [Bool.and_eq_false_iff,decide_eq_false_iff_not,decide_eq_false_iff_not];omega
    have hV:¬ (isP per = true ∧ 0 ≤ ph ∧ ph < per):=fun h=>hp (isP_range h.1)
    rw [hb,if_neg (by decide),Option.bind_some,if_neg (by decide),Option.bind_some,if_neg (by decide),Option.bind_some,decide_eq_false hV]
theorem p55_eq (n:Nat) (per ph t:Int) (hp:isP per = true) (h0:0 ≤ ph) (h1:ph < per) (ht:t ≤ 9223372036854775807):p55 n per ph t = some (due per ph t):=by
  have hr:=isP_range hp
  unfold p55
  rw [p41_eq,Option.bind_some,decide_eq_true (⟨hp,h0,h1⟩:isP per = true ∧ 0 ≤ ph ∧ ph < per),if_pos rfl,Option.bind_some]
  by_cases h:0 ≤ t
  · rw [decide_eq_true (show t ≥ 0 from h),if_pos rfl,remS h (by omega) ht,Option.bind_some,Option.bind_some]
    congr 1
    exact decide_eq_decide.2 ⟨fun e=>⟨h,e⟩,fun e=>e.2⟩
  · rw [decide_eq_false (show ¬ t ≥ 0 from h),if_neg (by decide),Option.bind_some]
    congr 1
    exact (decide_eq_false (fun e=>h e.1)).symm
/-- The load of a slot in a tick; does it use a hub's translator in a frame. -/
def ld (s:Slt) (t:Int):Int:=(if due s.2.1.2.2.2.2.1 s.2.2 t = true then (cst s.2.1).1 else 0) + (if due s.2.1.2.2.2.2.1 s.2.2 (t - 2) = true then (cst s.2.1).2.1 else 0)
def us (s:Slt) (h f:Int):Bool:=decide (s.2.1.1 ≠ 2 ∧ s.2.1.2.2.2.2.2 = h ∧ due s.2.1.2.2.2.2.1 s.2.2 (f * 8 + s.2.2 % 8) = true)
def fr (s:Slt) (h f:Int):Int:=if us s h f = true then (cst s.2.1).2.2 else 0
theorem ld_range {s:Slt} (h0:0 ≤ s.2.1.1) (h:VN s.2.1) (t:Int):0 ≤ ld s t ∧ ld s t ≤ 80000:=by
  have:=cst_range h0 h
  unfold ld
  split <;> split <;> omega
theorem fr_range {s:Slt} (h0:0 ≤ s.2.1.1) (h:VN s.2.1) (g f:Int):0 ≤ fr s g f ∧ fr s g f ≤ 80000:=by
  have:=cst_range h0 h
  unfold fr
  split <;> omega
theorem p37_eq (n:Nat) (s:Slt) (h0:0 ≤ s.2.1.1) (h:VS s) (t:Int) (h1:-1000 ≤ t) (h2:t ≤ 10000000):p37 n s (cst s.2.1) t = some (ld s t):=by
  obtain ⟨hid,hv,hp0,hp1,_⟩:=h
  have hp:=hv.2.2.2.2.2.1
  have hc:=cst_range h0 hv
  unfold p37 ld
  rw [p55_eq n _ _ t hp hp0 hp1 (by omega),Option.bind_some]
  have e1:(if due s.2.1.2.2.2.2.1 s.2.2 t = true then (ckI .i64 (0 + (cst s.2.1).1)).bind fun x_25=>some x_25 else some 0) = some (if due s.2.1.2.2.2.2.1 s.2.2 t = true then (cst s.2.1).1 else 0):=by
    split
    · rw [ckS (by omega) (by omega),Option.bind_some,Int.zero_add]
    · rfl
  rw [e1,Option.bind_some]
  have e2:(if decide (t ≥ 2) = true then (ckI .i64 (t - 2)).bind fun x_32=>(p55 n s.2.1.2.2.2.2.1 s.2.2 x_32).bind fun t_33=>some t_33 else some false) = some (due s.2.1.2.2.2.2.1 s.2.2 (t - 2)):=by
    by_cases h:2 ≤ t
    · rw [ifDT h,ckS (by omega) (by omega),Option.bind_some,p55_eq n _ _ _ hp hp0 hp1 (by omega),Option.bind_some]
    · rw [ifDF h]
      congr 1
      exact (decide_eq_false (fun e=>by omega)).symm
  rw [e2,Option.bind_some]
  split
  · rw [ckS (by split <;> omega) (by split <;> omega),Option.bind_some]
    rfl
  · rw [Option.bind_some,Int.add_zero]
theorem p39_eq (n:Nat) (s:Slt) (h0:0 ≤ s.2.1.1) (h:VS s) (g f:Int) (h1:-1000 ≤ f) (h2:f ≤ 10000000):p39 n s g f = some (us s g f):=by
  obtain ⟨hid,hv,hp0,hp1,_⟩:=h
  have hp:=hv.2.2.2.2.2.1
  have hr:=isP_range hp
  unfold p39 us
  rw [andS,Option.bind_some]
  by_cases hq:s.2.1.1 ≠ 2 ∧ s.2.1.2.2.2.2.2 = g
  · have hb:(s.2.1.1 != 2 && s.2.1.2.2.2.2.2 == g) = true:=by simp [hq.1,hq.2]
    rw [hb,if_pos rfl,ckS (by omega) (by omega),Option.bind_some,remS hp0 (by decide) (by omega),Option.bind_some,ckS (by omega) (by omega),Option.bind_some,p55_eq n _ _ _ hp hp0 hp1 (by omega),Option.bind_some,Option.bind_some]
    congr 1
    rw [Bool.eq_iff_iff,decide_eq_true_eq]
    exact ⟨fun h=>⟨hq.1,hq.2,h⟩,fun h=>h.2.2⟩
  · have hb:(s.2.1.1 != 2 && s.2.1.2.2.2.2.2 == g) = false:=by
      rw [Bool.and_eq_false_iff,bne_eq_false_iff_eq,beq_eq_false_iff_ne]
      by_cases h:s.2.1.1 = 2
      · exact .inl h
      · exact .inr fun e=>hq ⟨h,e⟩
    rw [hb,if_neg (by decide),Option.bind_some,decide_eq_false (fun h=>hq ⟨h.1,h.2.1⟩)]
def TL (l:List Slt) (t:Int):Int:=(l.map (ld · t)).sum
def FL (l:List Slt) (h f:Int):Int:=(l.map (fr · h f)).sum
theorem TL_append (a b:List Slt) (t:Int):TL (a ++ b) t = TL a t + TL b t:=by simp [TL]
theorem FL_append (a b:List Slt) (h t:Int):FL (a ++ b) h t = FL a h t + FL b h t:=by simp [FL]
theorem TL_one (s:Slt) (t:Int):TL [s] t = ld s t:=by simp [TL]
theorem FL_one (s:Slt) (h t:Int):FL [s] h t = fr s h t:=by simp [FL]
theorem TL_cons (s:Slt) (l:List Slt) (t:Int):TL (s :: l) t = ld s t + TL l t:=by simp [TL]
theorem FL_cons (s:Slt) (l:List Slt) (h t:Int):FL (s :: l) h t = fr s h t + FL l h t:=by simp [FL]
/-- Slots of valid needs. -/
def AllV (l:List Slt):Prop:=∀ s ∈ l,0 ≤ s.2.1.1 ∧ VS s
theorem TL_range {l:List Slt} (h:AllV l) (t:Int):0 ≤ TL l t ∧ TL l t ≤ 80000 * (l.length:Int):=by
  induction l with
  | nil=>simp [TL]
  | cons s l ih =>
    have h1:=ih fun x hx=>h x (by simp [hx])
    have h2:=ld_range (h s (by simp)).1 (h s (by simp)).2.2.1 t
    rw [TL_cons,List.length_cons]
    omega
theorem FL_range {l:List Slt} (h:AllV l) (g t:Int):0 ≤ FL l g t ∧ FL l g t ≤ 80000 * (l.length:Int):=by
  induction l with
  | nil=>simp [FL]
  | cons s l ih =>
    have h1:=ih fun x hx=>h x (by simp [hx])
    have h2:=fr_range (h s (by simp)).1 (h s (by simp)).2.2.1 g t
    rw [FL_cons,List.length_cons]
    omega

/-! ### Adding up in rows -/
def addFrom (f:Nat → Int) (k:Nat) (xs:List Int):List Int:=xs.mapIdx fun i x=>if k ≤ i then x + f i else x
theorem addFrom_get (f:Nat → Int) (k:Nat) (xs:List Int) (i:Nat):(addFrom f k xs)[i]? = (xs[i]?).map fun x=>if k ≤ i then x + f i else x:=by
  unfold addFrom;rw [List.getElem?_mapIdx]
theorem addFrom_end (f:Nat → Int) {k:Nat} {xs:List Int} (h:xs.length ≤ k):addFrom f k xs = xs:=by
  refine List.ext_getElem? fun i=>?_
  rw [addFrom_get]
  cases hx:xs[i]? with
  | none=>rfl
  | some x =>
    have:i < xs.length:=by rcases Nat.lt_or_ge i xs.length with h | h;exact h;rw [List.getElem?_eq_none h] at hx;cases hx
    rw [Option.map_some,if_neg (by omega)]
theorem addFrom_step (f:Nat → Int) {k:Nat} {xs:List Int} (h:k < xs.length):addFrom f (k + 1) (xs.set k (xs[k] + f k)) = addFrom f k xs:=by
  refine List.ext_getElem? fun i=>?_
  rw [addFrom_get,addFrom_get,List.getElem?_set]
  by_cases hik:k = i
  · subst hik
    rw [if_pos rfl,if_pos h,List.getElem?_eq_getElem h,Option.map_some,Option.map_some,if_neg (by omega),if_pos (Nat.le_refl _)]
  · rw [if_neg hik]
    cases xs[i]? with
    | none=>rfl
    | some x =>
      simp only [Option.map_some]
      by_cases h2:k ≤ i
      · rw [if_pos (by omega),if_pos h2]
      · rw [if_neg (by omega),if_neg h2]
theorem addFrom_range (f g:Nat → Int) (n:Nat):addFrom f 0 ((List.range n).map g) = (List.range n).map fun i=>g i + f i:=by
  refine List.ext_getElem? fun i=>?_
  rw [addFrom_get,List.getElem?_map,List.getElem?_map]
  rcases Nat.lt_or_ge i n with h | h
  · rw [List.getElem?_range h];simp
  · rw [List.getElem?_eq_none (by simpa using h)];rfl
def InB (k:Nat) (xs:List Int):Prop:=∀ i x,k ≤ i → xs[i]? = some x → 0 ≤ x ∧ x ≤ 1000000000
theorem InB.set {k:Nat} {xs:List Int} (h:InB k xs) (y:Int):InB (k + 1) (xs.set k y):=fun i x hi hx=>by
  rw [List.getElem?_set,if_neg (by omega)] at hx
  exact h i x (by omega) hx
theorem InB.next {k:Nat} {xs:List Int} (h:InB k xs):InB (k + 1) xs:=fun i x hi hx=>h i x (by omega) hx
theorem InB.at_ {k:Nat} {xs:List Int} (h:InB k xs) (hk:k < xs.length):0 ≤ xs[k] ∧ xs[k] ≤ 1000000000:=h k _ (Nat.le_refl _) (List.getElem?_eq_getElem hk)
theorem p25_l2_eq (n:Nat) (s:Slt) (h0:0 ≤ s.2.1.1) (h:VS s) (fs:List Int):∀ (m k:Nat) (xs:List Int),xs.length = 256 → InB k xs → 256 - k < m → k ≤ 256 →
    p25_l2 n s (cst s.2.1) m k (xs,fs) = some (addFrom (fun i=>ld s i) k xs,fs):=by
  intro m
  induction m with
  | zero=>intro k xs _ _ hm;exact absurd hm (by omega)
  | succ m ih =>
    intro k xs hl hx hm hk
    unfold p25_l2
    by_cases hlt:k < 256
    · have hkl:k < xs.length:=by omega
      have hr:=ld_range h0 h.2.1 (k:Int)
      have hb:=hx.at_ hkl
      rw [ifDT (show (k:Int) < 256 by omega)]
      simp only
      rw [idxE hkl,Option.bind_some,p37_eq n s h0 h (k:Int) (by omega) (by omega),Option.bind_some,ckS (by omega) (by omega),Option.bind_some,Option.bind_some,ckS (by omega) (by omega),Option.bind_some,castS,Int.toNat_natCast]
      rw [ih (k + 1) _ (by rw [List.length_set];exact hl) (hx.set _) (by omega) (by omega),addFrom_step (fun i=>ld s i) hkl]
    · rw [ifDF (by omega),addFrom_end _ (by omega)]
theorem p25_l3_eq (n:Nat) (s:Slt) (h0:0 ≤ s.2.1.1) (h:VS s) (g:Int) (ts:List Int):∀ (m k:Nat) (xs:List Int),xs.length = 32 → InB k xs → 32 - k < m → k ≤ 32 →
    p25_l3 n g s (cst s.2.1) m k (ts,xs) = some (ts,addFrom (fun i=>fr s g i) k xs):=by
  intro m
  induction m with
  | zero=>intro k xs _ _ hm;exact absurd hm (by omega)
  | succ m ih =>
    intro k xs hl hx hm hk
    unfold p25_l3
    by_cases hlt:k < 32
    · have hkl:k < xs.length:=by omega
      have hc:=(cst_range h0 h.2.1).2.2
      have hb:=hx.at_ hkl
      rw [ifDT (show (k:Int) < 32 by omega),p39_eq n s h0 h g (k:Int) (by omega) (by omega),Option.bind_some]
      have e:(if us s g k = true then (idx (ts,xs).2 (k:Int)).bind fun y_178=>(ckI .i64 (y_178 + (cst s.2.1).2.2)).bind fun x_183=>(idx (ts,xs).2 (k:Int)).bind fun y_218=>some ((ts,xs).1,((ts,xs).2.set (k:Int).toNat x_183)) else some (ts,xs)) = some (ts,xs.set k (xs[k] + fr s g k)):=by
        simp only [fr]
        split
        · rw [idxE hkl,Option.bind_some,ckS (by omega) (by omega),Option.bind_some,Option.bind_some,Int.toNat_natCast]
        · rw [Int.add_zero];simp
      rw [e,Option.bind_some,ckS (by omega) (by omega),Option.bind_some,castS,ih (k + 1) _ (by rw [List.length_set];exact hl) (hx.set _) (by omega) (by omega),addFrom_step (fun i=>fr s g i) hkl]
    · rw [ifDF (by omega),addFrom_end _ (by omega)]
def TR (l:List Slt):List Int:=(List.range 256).map fun i:Nat=>TL l (i:Int)
def FR (l:List Slt) (h:Int):List Int:=(List.range 32).map fun i:Nat=>FL l h (i:Int)
theorem TR_in {l:List Slt} (h:AllV l) (hl:l.length ≤ 400):InB 0 (TR l):=fun i x _ hx=>by
  unfold TR at hx
  obtain ⟨j,_,rfl⟩:=List.mem_map.1 (List.mem_of_getElem? hx)
  have:=TL_range h (j:Int)
  omega
theorem FR_in {l:List Slt} (h:AllV l) (hl:l.length ≤ 400) (g:Int):InB 0 (FR l g):=fun i x _ hx=>by
  unfold FR at hx
  obtain ⟨j,_,rfl⟩:=List.mem_map.1 (List.mem_of_getElem? hx)
  have:=FL_range h g (j:Int)
  omega
theorem take_succ_eq {l:List Slt} {k:Nat} (h:k < l.length):l.take (k + 1) = l.take k ++ [l[k]]:=by rw [List.take_add_one,List.getElem?_eq_getElem h];rfl
theorem AllV.take {l:List Slt} (h:AllV l) (k:Nat):AllV (l.take k):=fun s hs=>h s (List.mem_of_mem_take hs)
theorem p25_l1_eq {n:Nat} (hn:300 ≤ n) (x:Sl Slt) (hx:AllV x.xs) (hl:x.xs.length ≤ 300) (g:Int):∀ (m k:Nat),x.xs.length - k < m → k ≤ x.xs.length →
    p25_l1 n x g m k (TR (x.xs.take k),FR (x.xs.take k) g) = some (TR x.xs,FR x.xs g):=by
  intro m
  induction m with
  | zero=>intro k hm;exact absurd hm (by omega)
  | succ m ih =>
    intro k hm hk
    unfold p25_l1
    rw [len_def]
    by_cases hlt:k < x.xs.length
    · have hv:=hx x.xs[k] (List.getElem_mem hlt)
      rw [ifDT (show (k:Int) < (x.xs.length:Int) by omega),idxE hlt,Option.bind_some,p38_eq (by omega) _ hv.1 hv.2.2.1,Option.bind_some]
      have hlk:(x.xs.take k).length ≤ 400:=by rw [List.length_take];omega
      have h1:=p25_l2_eq n x.xs[k] hv.1 hv.2 (FR (x.xs.take k) g) n 0 (TR (x.xs.take k)) (by simp [TR]) (TR_in (hx.take k) hlk) (by omega) (by omega)
      have h2:=p25_l3_eq n x.xs[k] hv.1 hv.2 g (addFrom (fun i=>ld x.xs[k] i) 0 (TR (x.xs.take k))) n 0 (FR (x.xs.take k) g) (by simp [FR]) (FR_in (hx.take k) hlk g) (by omega) (by omega)
      rw [show ((0:Nat):Int) = 0 from rfl] at h1 h2
      rw [h1,Option.bind_some,h2,Option.bind_some,ckS (by omega) (by omega),Option.bind_some,castS]
      have e1:addFrom (fun i=>ld x.xs[k] i) 0 (TR (x.xs.take k)) = TR (x.xs.take (k + 1)):=by
        unfold TR
        rw [addFrom_range (fun i=>ld x.xs[k] (i:Int)) (fun i=>TL (x.xs.take k) (i:Int)),take_succ_eq hlt]
        simp only [TL_append,TL_one]
      have e2:addFrom (fun i=>fr x.xs[k] g i) 0 (FR (x.xs.take k) g) = FR (x.xs.take (k + 1)) g:=by
        unfold FR
        rw [addFrom_range (fun i=>fr x.xs[k] g (i:Int)) (fun i=>FL (x.xs.take k) g (i:Int)),take_succ_eq hlt]
        simp only [FL_append,FL_one]
      rw [e1,e2]
      exact ih (k + 1) (by omega) (by omega)
    · rw [ifDF (by omega),List.take_of_length_le (by omega)]
theorem p25_eq {n:Nat} (hn:320 ≤ n) (x:Sl Slt) (hx:AllV x.xs) (hl:x.xs.length ≤ 300) (g:Int):p25 n x g = some (TR x.xs,FR x.xs g):=by
  unfold p25
  have h:=p25_l1_eq (n:=n) (by omega) x hx hl g n 0 (by omega) (by omega)
  rw [List.take_zero,show ((0:Nat):Int) = 0 from rfl] at h
  have e1:TR [] = List.replicate 256 (0:Int):=by rw [List.eq_replicate_iff];simp [TR,TL]
  have e2:FR [] g = List.replicate 32 (0:Int):=by rw [List.eq_replicate_iff];simp [FR,FL]
  rw [e1,e2] at h
  rw [h,Option.bind_some]

/-! ### The same by the law's text -/
/-- What of the slot's load from tick t on is at place i. -/
def rem (s:Slt) (h t i:Int):Int :=
  if i < 256 then (if due s.2.1.2.2.2.2.1 s.2.2 i = true ∧ t ≤ i then (cst s.2.1).1 else 0) + (if due s.2.1.2.2.2.2.1 s.2.2 (i - 2) = true ∧ t ≤ i - 2 then (cst s.2.1).2.1 else 0)
  else if us s h (i - 256) = true ∧ t ≤ (i - 256) * 8 + s.2.2 % 8 then (cst s.2.1).2.2 else 0
def GR (l:List Slt) (h:Int):List Int:=(List.range 288).map fun i:Nat=>if (i:Int) < 256 then TL l (i:Int) else FL l h ((i:Int) - 256)
def add2 (f:Nat → Int) (xs:List Int):List Int:=xs.mapIdx fun i x=>x + f i
theorem add2_get (f:Nat → Int) (xs:List Int) (i:Nat):(add2 f xs)[i]? = (xs[i]?).map fun x=>x + f i:=by unfold add2;rw [List.getElem?_mapIdx]
def InA (b:Int) (xs:List Int):Prop:=∀ x ∈ xs,0 ≤ x ∧ x ≤ b
theorem InA.at_ {b:Int} {xs:List Int} (h:InA b xs) {k:Nat} (hk:k < xs.length):0 ≤ xs[k] ∧ xs[k] ≤ b:=h _ (List.getElem_mem hk)
theorem InA.set {b c:Int} {xs:List Int} (h:InA b xs) (hbc:b ≤ c) (k:Nat) {y:Int} (hy:0 ≤ y ∧ y ≤ c):InA c (xs.set k y):=fun x hx=>by
  rcases List.mem_or_eq_of_mem_set hx with hx | rfl
  · have:=h x hx;omega
  · exact hy
/-- A turn of the loop over the ticks of a slot. -/
def turn (s:Slt) (h:Int) (t:Nat) (xs:List Int):List Int :=
  let a:=xs.set t (xs.getD t 0 + (cst s.2.1).1)
  let b:=if t + 2 < 256 then a.set (t + 2) (a.getD (t + 2) 0 + (cst s.2.1).2.1) else a
  if s.2.1.1 ≠ 2 ∧ s.2.1.2.2.2.2.2 = h then b.set (256 + t / 8) (b.getD (256 + t / 8) 0 + (cst s.2.1).2.2) else b
theorem turn_len (s:Slt) (h:Int) (t:Nat) (xs:List Int):(turn s h t xs).length = xs.length:=by
  unfold turn
  simp only
  split <;> split <;> simp
theorem getD_of_lt {xs:List Int} {i:Nat} (h:i < xs.length):xs.getD i 0 = xs[i]:=by rw [List.getD_eq_getElem?_getD,List.getElem?_eq_getElem h];rfl
/-- What a turn adds at place i. -/
def tc (s:Slt) (h:Int) (t i:Nat):Int:=(if i = t then (cst s.2.1).1 else 0) + (if i = t + 2 ∧ t + 2 < 256 then (cst s.2.1).2.1 else 0) + (if (s.2.1.1 ≠ 2 ∧ s.2.1.2.2.2.2.2 = h) ∧ i = 256 + t / 8 then (cst s.2.1).2.2 else 0)
theorem set_add_get {xs:List Int} {k:Nat} (c:Int) (hk:k < xs.length) (i:Nat):(xs.set k (xs.getD k 0 + c))[i]? = (xs[i]?).map fun x=>x + if i = k then c else 0:=by
  rw [List.getElem?_set]
  by_cases h:k = i
  · subst h
    rw [if_pos rfl,if_pos hk,List.getElem?_eq_getElem hk,Option.map_some,if_pos rfl,getD_of_lt hk]
  · rw [if_neg h]
    cases xs[i]? with
    | none=>rfl
    | some x=>rw [Option.map_some,if_neg (fun e=>h e.symm),Int.add_zero]
theorem turn_get (s:Slt) (h:Int) (t:Nat) (xs:List Int) (hl:xs.length = 288) (ht:t < 256) (i:Nat):(turn s h t xs)[i]? = (xs[i]?).map fun x=>x + tc s h t i:=by
  unfold turn tc
  simp only
  have h8:t / 8 < 32:=by omega
  split <;> split
  · rename_i h1 h2
    rw [set_add_get _ (by simp [hl];omega),set_add_get _ (by simp [hl];omega),set_add_get _ (by omega)]
    cases xs[i]? with
    | none=>rfl
    | some x =>
      simp only [Option.map_some,h2,h1,and_true,true_and,and_false,false_and,if_false,if_true,ne_eq,not_false_eq_true]
      refine congrArg some ?_
      omega
  · rename_i h1 h2
    rw [set_add_get _ (by simp [hl];omega),set_add_get _ (by omega)]
    cases xs[i]? with
    | none=>rfl
    | some x =>
      simp only [Option.map_some,h2,h1,and_true,true_and,and_false,false_and,if_false,if_true,ne_eq,not_false_eq_true]
      refine congrArg some ?_
      omega
  · rename_i h1 h2
    rw [set_add_get _ (by simp [hl];omega),set_add_get _ (by omega)]
    cases xs[i]? with
    | none=>rfl
    | some x =>
      simp only [Option.map_some,h2,h1,and_true,true_and,and_false,false_and,if_false,if_true,ne_eq,not_false_eq_true]
      refine congrArg some ?_
      omega
  · rename_i h1 h2
    rw [set_add_get _ (by omega)]
    cases xs[i]? with
    | none=>rfl
    | some x =>
      simp only [Option.map_some,h2,h1,and_true,true_and,and_false,false_and,if_false,if_true,ne_eq,not_false_eq_true]
      refine congrArg some ?_
      omega
theorem due_step {per ph t i:Int} (hp:isP per = true) (ht:due per ph t = true):(due per ph i = true ∧ t ≤ i) ↔ (i = t ∨ (due per ph i = true ∧ t + per ≤ i)):=by
  unfold due at *
  rw [decide_eq_true_eq] at *
  rcases isP_cases hp with rfl | rfl | rfl | rfl | rfl | rfl | rfl | rfl | rfl <;> omega
theorem if_or {a b:Prop} [Decidable a] [Decidable b] (hab:a → ¬ b) (c:Int):(if a ∨ b then c else 0) = (if a then c else 0) + (if b then c else 0):=by
  by_cases ha:a
  · rw [if_pos (.inl ha),if_pos ha,if_neg (hab ha),Int.add_zero]
  · by_cases hb:b
    · rw [if_pos (.inr hb),if_neg ha,if_pos hb,Int.zero_add]
    · rw [if_neg (by rintro (h | h);exact ha h;exact hb h),if_neg ha,if_neg hb];rfl
theorem rem_step {s:Slt} (h:Int) (hv:VS s) {t:Nat} (ht:due s.2.1.2.2.2.2.1 s.2.2 t = true) (ht2:t < 256) (i:Nat) (hi:i < 288) :
    tc s h t i + rem s h ((t:Int) + s.2.1.2.2.2.2.1) i = rem s h t i:=by
  have hp:=hv.2.1.2.2.2.2.2.1
  have hr:=isP_range hp
  unfold rem tc
  by_cases h1:(i:Int) < 256
  · rw [if_pos h1,if_pos h1]
    have e1:=due_step (i:=(i:Int)) hp ht
    have e2:=due_step (i:=(i:Int) - 2) hp ht
    rw [if_neg (show ¬ ((s.2.1.1 ≠ 2 ∧ s.2.1.2.2.2.2.2 = h) ∧ i = 256 + t / 8) by omega)]
    simp only [e1,e2]
    rw [if_or (by omega),if_or (by omega)]
    have e3:(if i = t then (cst s.2.1).1 else 0) = if (i:Int) = (t:Int) then (cst s.2.1).1 else 0:=by
      by_cases e:i = t
      · rw [if_pos e,if_pos (by omega)]
      · rw [if_neg e,if_neg (by omega)]
    have e4:(if i = t + 2 ∧ t + 2 < 256 then (cst s.2.1).2.1 else 0) = if (i:Int) - 2 = (t:Int) then (cst s.2.1).2.1 else 0:=by
      by_cases e:i = t + 2
      · rw [if_pos (by omega),if_pos (by omega)]
      · rw [if_neg (by omega),if_neg (by omega)]
    rw [e3,e4]
    omega
  · rw [if_neg h1,if_neg h1,if_neg (show ¬ i = t by omega),if_neg (show ¬ (i = t + 2 ∧ t + 2 < 256) by omega)]
    by_cases hs:s.2.1.1 ≠ 2 ∧ s.2.1.2.2.2.2.2 = h
    · have h8:=hv.2.1.2.2.2.2.2.2.2 hs.1
      have hu:us s h ((i:Int) - 256) = due s.2.1.2.2.2.2.1 s.2.2 (((i:Int) - 256) * 8 + s.2.2 % 8):=by
        unfold us
        rw [Bool.eq_iff_iff,decide_eq_true_eq]
        exact ⟨fun h=>h.2.2,fun h=>⟨hs.1,hs.2,h⟩⟩
      have e1:=due_step (i:=((i:Int) - 256) * 8 + s.2.2 % 8) hp ht
      rw [hu]
      simp only [e1]
      rw [if_or (by omega)]
      have ht8:(t:Int) % 8 = s.2.2 % 8:=by
        unfold due at ht
        rw [decide_eq_true_eq] at ht
        rcases isP_cases hp with e | e | e | e | e | e | e | e | e <;> rw [e] at ht h8 <;> omega
      have e2:((s.2.1.1 ≠ 2 ∧ s.2.1.2.2.2.2.2 = h) ∧ i = 256 + t / 8) ↔ ((i:Int) - 256) * 8 + s.2.2 % 8 = (t:Int):=by
        constructor
        · rintro ⟨_,e⟩;omega
        · intro e;exact ⟨hs,by omega⟩
      simp only [e2]
      omega
    · have hu:us s h ((i:Int) - 256) = false:=decide_eq_false fun e=>hs ⟨e.1,e.2.1⟩
      rw [hu,if_neg (fun e=>hs e.1),if_neg (by simp),if_neg (by simp)]
      rfl
theorem turn_step {s:Slt} (h:Int) (hv:VS s) {t:Nat} (ht:due s.2.1.2.2.2.2.1 s.2.2 t = true) (ht2:t < 256) {xs:List Int} (hl:xs.length = 288) :
    add2 (fun i=>rem s h ((t:Int) + s.2.1.2.2.2.2.1) i) (turn s h t xs) = add2 (fun i=>rem s h t i) xs:=by
  refine List.ext_getElem? fun i=>?_
  rw [add2_get,add2_get,turn_get s h t xs hl ht2]
  rcases Nat.lt_or_ge i xs.length with hi | hi
  · rw [List.getElem?_eq_getElem hi,Option.map_some,Option.map_some,Option.map_some,← rem_step h hv ht ht2 i (by omega)]
    exact congrArg some (Int.add_assoc _ _ _)
  · rw [List.getElem?_eq_none hi];simp only [Option.map_none]
theorem rem_end {s:Slt} (h:Int) {t:Int} (ht:256 ≤ t) (i:Nat) (hi:i < 288):rem s h t i = 0:=by
  unfold rem
  split
  · rw [if_neg (by omega),if_neg (by omega)];rfl
  · rw [if_neg (by omega)]
theorem turn_in {s:Slt} (h0:0 ≤ s.2.1.1) (hv:VN s.2.1) (h:Int) (t:Nat) (ht:t < 256) {xs:List Int} (hl:xs.length = 288) {b:Int} (hx:InA b xs):InA (b + 120000) (turn s h t xs):=fun x hm=>by
  obtain ⟨i,hi⟩:=List.mem_iff_getElem?.1 hm
  rw [turn_get s h t xs hl ht] at hi
  obtain ⟨y,hy,rfl⟩:=Option.map_eq_some_iff.1 hi
  have h1:=hx y (List.mem_of_getElem? hy)
  have hc:=cst_range h0 hv
  have:0 ≤ tc s h t i ∧ tc s h t i ≤ 120000:=by unfold tc;split <;> split <;> split <;> omega
  omega
theorem idx3_0 {a b c:Int}:idx [a,b,c] 0 = some a:=rfl
theorem idx3_1 {a b c:Int}:idx [a,b,c] 1 = some b:=rfl
theorem idx3_2 {a b c:Int}:idx [a,b,c] 2 = some c:=rfl
theorem p13_l2_eq (n:Nat) (x:Sl Slt) (g:Int) (j:Nat) (hj:j < x.xs.length) (h0:0 ≤ x.xs[j].2.1.1) (hv:VS x.xs[j]):∀ (m t:Nat) (xs:List Int) (b:Int),xs.length = 288 → InA b xs → 0 ≤ b → b + 120000 * (256 - (t:Int)) ≤ 1000000000000000 → 256 - t < m →
    due x.xs[j].2.1.2.2.2.2.1 x.xs[j].2.2 t = true → t ≤ 512 → p13_l2 n x g j [(cst x.xs[j].2.1).1,(cst x.xs[j].2.1).2.1,(cst x.xs[j].2.1).2.2] m t xs = some (add2 (fun i=>rem x.xs[j] g t i) xs):=by
  have hp:=hv.2.1.2.2.2.2.2.1
  have hr:=isP_range hp
  have hc:=cst_range h0 hv.2.1
  intro m
  induction m with
  | zero=>intro t xs b _ _ _ _ hm;exact absurd hm (by omega)
  | succ m ih =>
    intro t xs b hl hx hb0 hb hm ht ht5
    unfold p13_l2
    by_cases hlt:t < 256
    · have k1:t < xs.length:=by omega
      have b1:=hx.at_ k1
      rw [ifDT (show (t:Int) < 256 by omega),idxE k1,Option.bind_some,idx3_0,Option.bind_some,ckS (by omega) (by omega),Option.bind_some,Option.bind_some,ckS (by omega) (by omega),Option.bind_some,Int.toNat_natCast]
      have e1:xs.set t (xs[t] + (cst x.xs[j].2.1).1) = xs.set t (xs.getD t 0 + (cst x.xs[j].2.1).1):=by rw [getD_of_lt k1]
      rw [e1]
      have hA:InA (b + 40000) (xs.set t (xs.getD t 0 + (cst x.xs[j].2.1).1)):=hx.set (by omega) t (by rw [getD_of_lt k1];omega)
      generalize hAe:xs.set t (xs.getD t 0 + (cst x.xs[j].2.1).1) = A at *
      have hAl:A.length = 288:=by rw [← hAe,List.length_set,hl]
      have e2:(if decide ((t:Int) + 2 < 256) = true then (some ((t:Int) + 2)).bind fun x_138=>(idx A x_138).bind fun y_139=>(idx [(cst x.xs[j].2.1).1,(cst x.xs[j].2.1).2.1,(cst x.xs[j].2.1).2.2] 1).bind fun y_142=>(ckI .i64 (y_139 + y_142)).bind fun x_171=>(idx A x_138).bind fun y_172=>some (A.set x_138.toNat x_171) else some A)
          = some (if t + 2 < 256 then A.set (t + 2) (A.getD (t + 2) 0 + (cst x.xs[j].2.1).2.1) else A):=by
        by_cases h2:t + 2 < 256
        · have k2:t + 2 < A.length:=by omega
          have b2:=hA.at_ k2
          rw [ifDT (by omega),if_pos h2,Option.bind_some,show ((t:Int) + 2) = ((t + 2:Nat):Int) by simp,idxE k2,Option.bind_some,idx3_1,Option.bind_some,ckS (by omega) (by omega),Option.bind_some,Option.bind_some,Int.toNat_natCast,getD_of_lt k2]
        · rw [ifDF (by omega),if_neg h2]
      rw [e2,Option.bind_some]
      have hB:InA (b + 80000) (if t + 2 < 256 then A.set (t + 2) (A.getD (t + 2) 0 + (cst x.xs[j].2.1).2.1) else A):=by
        split
        · rename_i h2
          have k2:t + 2 < A.length:=by omega
          have b2:=hA.at_ k2
          exact hA.set (by omega) _ (by rw [getD_of_lt k2];omega)
        · exact fun y hy=>by have:=hA y hy;omega
      generalize hBe:(if t + 2 < 256 then A.set (t + 2) (A.getD (t + 2) 0 + (cst x.xs[j].2.1).2.1) else A) = B at *
      have hBl:B.length = 288:=by rw [← hBe];split <;> simp [hAl]
      rw [idxE hj,Option.bind_some]
      have e3:(if (x.xs[j].2.1.1 != 2) = true then (some x.xs[j]).bind fun y_183=>some (y_183.2.1.2.2.2.2.2 == g) else some false) = some (decide (x.xs[j].2.1.1 ≠ 2 ∧ x.xs[j].2.1.2.2.2.2.2 = g)):=by
        rw [Option.bind_some,andS]
        refine congrArg some ?_
        rw [Bool.eq_iff_iff,Bool.and_eq_true,bne_iff_ne,beq_iff_eq,decide_eq_true_eq]
      rw [e3,Option.bind_some]
      have e4:(if decide (x.xs[j].2.1.1 ≠ 2 ∧ x.xs[j].2.1.2.2.2.2.2 = g) = true then (quoI .i64 (t:Int) 8).bind fun x_232=>(ckI .i64 (256 + x_232)).bind fun x_233=>(idx B x_233).bind fun y_234=>(idx [(cst x.xs[j].2.1).1,(cst x.xs[j].2.1).2.1,(cst x.xs[j].2.1).2.2] 2).bind fun y_237=>(ckI .i64 (y_234 + y_237)).bind fun x_270=>(idx B x_233).bind fun y_271=>some (B.set x_233.toNat x_270) else some B)
          = some (turn x.xs[j] g t xs):=by
        unfold turn
        simp only
        rw [hAe,hBe]
        by_cases h3:x.xs[j].2.1.1 ≠ 2 ∧ x.xs[j].2.1.2.2.2.2.2 = g
        · have k3:256 + t / 8 < B.length:=by omega
          have b3:=hB.at_ k3
          rw [ifDT h3,if_pos h3,quoS (by omega) (by decide) (by omega),Option.bind_some,ckS (by omega) (by omega),Option.bind_some,show (256 + (t:Int) / 8) = ((256 + t / 8:Nat):Int) by simp,idxE k3,Option.bind_some,idx3_2,Option.bind_some,ckS (by omega) (by omega),Option.bind_some,Option.bind_some,Int.toNat_natCast,getD_of_lt k3]
        · rw [ifDF h3,if_neg h3]
      rw [e4,Option.bind_some,Option.bind_some,ckS (by omega) (by omega),Option.bind_some]
      obtain ⟨q,hq⟩:=Int.eq_ofNat_of_zero_le (show 0 ≤ x.xs[j].2.1.2.2.2.2.1 by omega)
      have hd:due x.xs[j].2.1.2.2.2.2.1 x.xs[j].2.2 ((t + q:Nat):Int) = true:=by
        unfold due at ht ⊢
        rw [decide_eq_true_eq] at ht ⊢
        rw [hq] at ht ⊢
        refine ⟨by omega,?_⟩
        rw [← ht.2]
        simp
      have:=ih (t + q) (turn x.xs[j] g t xs) (b + 120000) (by rw [turn_len,hl]) (turn_in h0 hv.2.1 g t hlt hl hx) (by omega) (by omega) (by omega) hd (by omega)
      rw [hq,show ((t:Int) + (q:Int)) = ((t + q:Nat):Int) by simp,this,← turn_step g hv ht hlt hl,hq]
      rfl
    · rw [ifDF (by omega)]
      refine congrArg some (List.ext_getElem? fun i=>?_)
      rw [add2_get]
      rcases Nat.lt_or_ge i xs.length with hi | hi
      · rw [List.getElem?_eq_getElem hi,Option.map_some,rem_end g (by omega) i (by omega),Int.add_zero]
      · rw [List.getElem?_eq_none hi];simp only [Option.map_none]
theorem rem_start {s:Slt} (h:Int) (hv:VS s) (i:Nat) (hi:i < 288):rem s h s.2.2 i = if (i:Int) < 256 then ld s i else fr s h ((i:Int) - 256):=by
  have hp:=hv.2.1.2.2.2.2.2.1
  have h0:=hv.2.2.1
  have h1:=hv.2.2.2.1
  have key:∀ t:Int,due s.2.1.2.2.2.2.1 s.2.2 t = true → s.2.2 ≤ t:=by
    intro t ht
    unfold due at ht
    rw [decide_eq_true_eq] at ht
    rcases isP_cases hp with e | e | e | e | e | e | e | e | e <;> rw [e] at ht h1 <;> omega
  unfold rem
  by_cases hq:(i:Int) < 256
  · rw [if_pos hq,if_pos hq]
    unfold ld
    have e1:(due s.2.1.2.2.2.2.1 s.2.2 (i:Int) = true ∧ s.2.2 ≤ (i:Int)) ↔ due s.2.1.2.2.2.2.1 s.2.2 (i:Int) = true:=⟨fun h=>h.1,fun h=>⟨h,key _ h⟩⟩
    have e2:(due s.2.1.2.2.2.2.1 s.2.2 ((i:Int) - 2) = true ∧ s.2.2 ≤ (i:Int) - 2) ↔ due s.2.1.2.2.2.2.1 s.2.2 ((i:Int) - 2) = true:=⟨fun h=>h.1,fun h=>⟨h,key _ h⟩⟩
    simp only [e1,e2]
  · rw [if_neg hq,if_neg hq]
    unfold fr
    have e1:(us s h ((i:Int) - 256) = true ∧ s.2.2 ≤ ((i:Int) - 256) * 8 + s.2.2 % 8) ↔ us s h ((i:Int) - 256) = true:=⟨fun h=>h.1,fun h=>⟨h,key _ (by unfold us at h;rw [decide_eq_true_eq] at h;exact h.2.2)⟩⟩
    simp only [e1]
theorem GR_get (l:List Slt) (h:Int) (i:Nat):(GR l h)[i]? = if i < 288 then some (if (i:Int) < 256 then TL l (i:Int) else FL l h ((i:Int) - 256)) else none:=by
  unfold GR
  rw [List.getElem?_map]
  by_cases hi:i < 288
  · rw [List.getElem?_range hi,if_pos hi];rfl
  · rw [List.getElem?_eq_none (by simpa using hi),if_neg hi];rfl
theorem GR_in {l:List Slt} (h:AllV l) (hl:l.length ≤ 400) (g:Int):InA 100000000 (GR l g):=fun x hx=>by
  obtain ⟨i,hi⟩:=List.mem_iff_getElem?.1 hx
  rw [GR_get] at hi
  split at hi
  · obtain rfl:=Option.some.inj hi
    split
    · have:=TL_range h (i:Int);omega
    · have:=FL_range h g ((i:Int) - 256);omega
  · cases hi
theorem GR_len (l:List Slt) (h:Int):(GR l h).length = 288:=by unfold GR;rw [List.length_map,List.length_range]
theorem p13_l1_eq {n:Nat} (hn:600 ≤ n) (x:Sl Slt) (hx:AllV x.xs) (hl:x.xs.length ≤ 300) (g:Int):∀ (m k:Nat),x.xs.length - k < m → k ≤ x.xs.length →
    p13_l1 n x g m k (GR (x.xs.take k) g) = some (GR x.xs g):=by
  intro m
  induction m with
  | zero=>intro k hm;exact absurd hm (by omega)
  | succ m ih =>
    intro k hm hk
    unfold p13_l1
    rw [len_def]
    by_cases hlt:k < x.xs.length
    · have hv:=hx x.xs[k] (List.getElem_mem hlt)
      have hp:=isP_range hv.2.2.1.2.2.2.2.2.1
      have h0:=hv.2.2.2.1
      have h1:=hv.2.2.2.2.1
      have hlk:(x.xs.take k).length ≤ 400:=by rw [List.length_take];omega
      rw [ifDT (show (k:Int) < (x.xs.length:Int) by omega),idxE hlt,Option.bind_some,decide_eq_false (show ¬ x.xs[k].2.1.2.2.2.2.1 < 1 by omega),if_pos rfl,Option.bind_some,decide_eq_false (show ¬ x.xs[k].2.2 < 0 by omega),Option.bind_some,if_neg (by decide),Option.bind_some,p12_eq (by omega) _ hv.1 hv.2.2.1,Option.bind_some,Option.bind_some]
      obtain ⟨q,hq⟩:=Int.eq_ofNat_of_zero_le h0
      have hd:due x.xs[k].2.1.2.2.2.2.1 x.xs[k].2.2 (q:Int) = true:=by
        unfold due
        rw [decide_eq_true_eq,hq]
        exact ⟨by omega,Int.emod_eq_of_lt (by omega) (by omega)⟩
      have:=p13_l2_eq n x g k hlt hv.1 hv.2 n q (GR (x.xs.take k) g) 100000000 (GR_len _ _) (GR_in (hx.take k) hlk g) (by omega) (by omega) (by omega) hd (by omega)
      rw [hq,this,Option.bind_some,ckS (by omega) (by omega),Option.bind_some,castS]
      have e:add2 (fun i=>rem x.xs[k] g q i) (GR (x.xs.take k) g) = GR (x.xs.take (k + 1)) g:=by
        refine List.ext_getElem? fun i=>?_
        rw [add2_get,GR_get,GR_get]
        by_cases hi:i < 288
        · rw [if_pos hi,if_pos hi,Option.map_some,show (q:Int) = x.xs[k].2.2 from hq.symm,rem_start g hv.2 i hi,take_succ_eq hlt]
          refine congrArg some ?_
          split
          · rw [TL_append,TL_one]
          · rw [FL_append,FL_one]
        · rw [if_neg hi,if_neg hi,Option.map_none]
      rw [e]
      exact ih (k + 1) (by omega) (by omega)
    · rw [ifDF (by omega),List.take_of_length_le (by omega)]
theorem p13_eq {n:Nat} (hn:600 ≤ n) (x:Sl Slt) (hx:AllV x.xs) (hl:x.xs.length ≤ 300) (g:Int):p13 n x g = some (GR x.xs g):=by
  unfold p13
  have h:=p13_l1_eq (n:=n) hn x hx hl g n 0 (by omega) (by omega)
  rw [List.take_zero,show ((0:Nat):Int) = 0 from rfl] at h
  have e1:GR [] g = List.replicate 288 (0:Int):=by rw [List.eq_replicate_iff];simp [GR,TL,FL]
  rw [e1] at h
  rw [h,Option.bind_some]

/-! ### The greatest of a row -/
theorem p52_l1_eq (n:Nat) (s:Sl Int) (hs:s.xs.length ≤ 1000):∀ (m k:Nat) (a:Int),s.xs.length - k < m → k ≤ s.xs.length → ∃ M,p52_l1 n s m k a = some M ∧ ∀ b,(M ≤ b ↔ a ≤ b ∧ ∀ x ∈ s.xs.drop k,x ≤ b):=by
  intro m
  induction m with
  | zero=>intro k a h;exact absurd h (by omega)
  | succ m ih =>
    intro k a hm hk
    unfold p52_l1
    rw [len_def]
    by_cases hlt:k < s.xs.length
    · rw [ifDT (show (k:Int) < (s.xs.length:Int) by omega),idxE hlt,Option.bind_some,ckS (by omega) (by omega),Option.bind_some,castS]
      obtain ⟨M,h1,h2⟩:=ih (k + 1) (if s.xs[k] > a then s.xs[k] else a) (by omega) (by omega)
      refine ⟨M,h1,fun b=>?_⟩
      rw [h2,drop_cons hlt]
      constructor
      · rintro ⟨h3,h4⟩
        split at h3
        · exact ⟨by omega,fun x hx=>by rcases List.mem_cons.1 hx with rfl | hx;exact h3;exact h4 x hx⟩
        · exact ⟨h3,fun x hx=>by rcases List.mem_cons.1 hx with rfl | hx;omega;exact h4 x hx⟩
      · rintro ⟨h3,h4⟩
        refine ⟨?_,fun x hx=>h4 x (List.mem_cons_of_mem _ hx)⟩
        have:=h4 s.xs[k] List.mem_cons_self
        split <;> omega
    · rw [ifDF (by omega)]
      refine ⟨a,rfl,fun b=>?_⟩
      rw [List.drop_eq_nil_of_le (by omega)]
      simp
theorem p52_eq {n:Nat} (hn:1001 ≤ n) (s:Sl Int) (hs:s.xs.length ≤ 1000) (h0:0 < s.xs.length):∃ M,p52 n s = some M ∧ ∀ b,(M ≤ b ↔ ∀ x ∈ s.xs,x ≤ b):=by
  unfold p52
  rw [len_def,ifDF (by omega),show (0:Int) = ((0:Nat):Int) from rfl,idxE h0,Option.bind_some]
  obtain ⟨M,h1,h2⟩:=p52_l1_eq n s hs n 1 s.xs[0] (by omega) (by omega)
  rw [show (1:Int) = ((1:Nat):Int) from rfl,h1,Option.bind_some]
  refine ⟨M,rfl,fun b=>?_⟩
  rw [h2]
  have e:s.xs = s.xs[0] :: s.xs.drop 1:=by rw [← drop_cons h0,List.drop_zero]
  constructor
  · rintro ⟨h3,h4⟩ x hx
    rw [e] at hx
    rcases List.mem_cons.1 hx with rfl | hx
    · exact h3
    · exact h4 x hx
  · intro h3
    exact ⟨h3 _ (List.getElem_mem h0),fun x hx=>h3 x (List.mem_of_mem_drop hx)⟩
theorem p43_2 (n:Nat):p43 n 2 = some 48000:=by rfl
theorem p43_1 (n:Nat):p43 n 1 = some 10800:=by rfl
def RoomT (l:List Slt):Prop:=∀ t:Nat,t < 256 → TL l (t:Int) ≤ 48000
def RoomF (l:List Slt) (g:Int):Prop:=∀ f:Nat,f < 32 → FL l g (f:Int) ≤ 10800
instance (l:List Slt):Decidable (RoomT l):=by unfold RoomT;infer_instance
instance (l:List Slt) (g:Int):Decidable (RoomF l g):=by unfold RoomF;infer_instance
theorem p35_eq {n:Nat} (hn:1001 ≤ n) (l:List Slt) (g:Int):p35 n (TR l,FR l g) = some (decide (RoomT l ∧ RoomF l g)):=by
  unfold p35
  obtain ⟨M,h1,h2⟩:=p52_eq hn (⟨TR l,some 256⟩:Sl Int) (by simp [TR]) (by simp [TR])
  obtain ⟨M',h3,h4⟩:=p52_eq hn (⟨FR l g,some 32⟩:Sl Int) (by simp [FR]) (by simp [FR])
  simp only
  rw [h1,Option.bind_some,p43_2,Option.bind_some,h3,Option.bind_some,p43_1,Option.bind_some]
  rw [andS,Option.bind_some]
  refine congrArg some ?_
  rw [Bool.eq_iff_iff,Bool.and_eq_true,decide_eq_true_eq,decide_eq_true_eq,decide_eq_true_eq,h2,h4]
  refine and_congr ⟨fun h t ht=>h _ (List.mem_map.2 ⟨t,List.mem_range.2 ht,rfl⟩),fun h x hx=>?_⟩ ⟨fun h t ht=>h _ (List.mem_map.2 ⟨t,List.mem_range.2 ht,rfl⟩),fun h x hx=>?_⟩
  · obtain ⟨t,ht,rfl⟩:=List.mem_map.1 hx
    exact h t (List.mem_range.1 ht)
  · obtain ⟨t,ht,rfl⟩:=List.mem_map.1 hx
    exact h t (List.mem_range.1 ht)

/-! ### Sets of numbers -/
def insAll (a:List Int) (zs:List Int):List Int:=zs.foldl (fun a z=>insK z a) a
theorem insK_mem {z y:Int} {a:List Int}:y ∈ insK z a ↔ y ∈ a ∨ y = z:=by
  unfold insK
  split
  · rename_i h
    exact ⟨fun k=>.inl k,fun k=>by rcases k with k | rfl;exact k;exact h⟩
  · simp
theorem insAll_mem {y:Int}:∀ {zs a:List Int},y ∈ insAll a zs ↔ y ∈ a ∨ y ∈ zs
  | [],a=>by simp [insAll]
  | z :: zs,a=>by
    have:=insAll_mem (y:=y) (zs:=zs) (a:=insK z a)
    unfold insAll at this ⊢
    rw [List.foldl_cons,this,insK_mem,List.mem_cons]
    constructor
    · rintro ((h | h) | h)
      · exact .inl h
      · exact .inr (.inl h)
      · exact .inr (.inr h)
    · rintro (h | h | h)
      · exact .inl (.inl h)
      · exact .inl (.inr h)
      · exact .inr h
theorem insAll_len:∀ (zs a:List Int),a.Nodup → (insAll a zs).length ≤ a.length + zs.length ∧ ((insAll a zs).length = a.length + zs.length ↔ zs.Nodup ∧ ∀ z ∈ zs,z ∉ a)
  | [],a,_=>by simp [insAll]
  | z :: zs,a,ha=>by
    by_cases h:z ∈ a
    · have hi:=insAll_len zs a ha
      have e:insAll a (z :: zs) = insAll a zs:=by unfold insAll;rw [List.foldl_cons,insK,if_pos h]
      rw [e,List.length_cons]
      refine ⟨by omega,⟨fun k=>by omega,fun k=>absurd h (k.2 z (by simp))⟩⟩
    · have ha':(a ++ [z]).Nodup:=List.nodup_append.2 ⟨ha,by simp,fun x hx y hy=>by rw [List.mem_singleton.1 hy];exact fun e=>h (e ▸ hx)⟩
      have hi:=insAll_len zs (a ++ [z]) ha'
      have e:insAll a (z :: zs) = insAll (a ++ [z]) zs:=by unfold insAll;rw [List.foldl_cons,insK,if_neg h]
      rw [e,List.length_cons]
      rw [List.length_append,List.length_singleton] at hi
      refine ⟨by omega,?_⟩
      rw [show a.length + (zs.length + 1) = a.length + 1 + zs.length by omega,hi.2,List.nodup_cons]
      constructor
      · rintro ⟨h1,h2⟩
        refine ⟨⟨fun hz=>h2 z hz (by simp),h1⟩,fun y hy=>?_⟩
        rcases List.mem_cons.1 hy with rfl | hy
        · exact h
        · exact fun k=>h2 y hy (by simp [k])
      · rintro ⟨⟨h1,h2⟩,h3⟩
        refine ⟨h2,fun y hy k=>?_⟩
        rcases List.mem_append.1 k with k | k
        · exact h3 y (by simp [hy]) k
        · rw [List.mem_singleton.1 k] at hy;exact h1 hy
theorem mapAny_if {f:Int → Option (Unit ⊕ Int)} {r:Int} {p:Int → Prop} [DecidablePred p]:∀ (xs:List Int),(∀ x ∈ xs,f x = some (if p x then .inl () else .inr r)) → mapAny f xs = some (if ∀ x ∈ xs,p x then .inl () else .inr r)
  | [],_=>by simp [mapAny]
  | x :: xs,h=>by
    have ih:=mapAny_if xs fun y hy=>h y (by simp [hy])
    unfold mapAny
    rw [h x (by simp),Option.bind_some,ih,Option.bind_some]
    by_cases h1:p x
    · rw [if_pos h1]
      simp only
      by_cases h2:∀ y ∈ xs,p y
      · rw [if_pos h2,if_pos (show ∀ y ∈ x :: xs,p y from fun y hy=>by rcases List.mem_cons.1 hy with rfl | hy;exact h1;exact h2 y hy)]
      · rw [if_neg h2,if_neg (show ¬ ∀ y ∈ x :: xs,p y from fun k=>h2 fun y hy=>k y (by simp [hy]))]
    · rw [if_neg h1,if_neg (show ¬ ∀ y ∈ x :: xs,p y from fun k=>h1 (k x (by simp)))]
      by_cases h2:∀ y ∈ xs,p y
      · rw [if_pos h2]
      · rw [if_neg h2];simp

/-! ### Check -/
def chk (l:List Slt):Int:=if l.length > 256 then 3 else if ¬ (∀ s ∈ l,VS s) then 1 else if ¬ (l.map (·.1)).Nodup then 8 else if ¬ (∀ s ∈ l,RoomT l ∧ RoomF l s.2.1.2.2.2.2.2) then 14 else 0
theorem p18_l1_eq (n:Nat) (x:Sl Slt) (hg:∀ s ∈ x.xs,0 ≤ s.2.1.1) (hl:x.xs.length ≤ 300):∀ (m k:Nat) (a b:List Int),x.xs.length - k < m → k ≤ x.xs.length →
    p18_l1 n x m k a b = some (if ∀ s ∈ x.xs.drop k,VS s then .inl (insAll a ((x.xs.drop k).map (·.1)),insAll b ((x.xs.drop k).map fun s=>s.2.1.2.2.2.2.2)) else .inr 1):=by
  intro m
  induction m with
  | zero=>intro k a b h;exact absurd h (by omega)
  | succ m ih =>
    intro k a b hm hk
    unfold p18_l1
    rw [len_def]
    by_cases hlt:k < x.xs.length
    · rw [ifDT (show (k:Int) < (x.xs.length:Int) by omega),idxE hlt,Option.bind_some,p34_eq n _ (hg _ (List.getElem_mem hlt)),Option.bind_some,drop_cons hlt]
      by_cases hv:VS x.xs[k]
      · rw [decide_eq_true hv,show (!true) = false from rfl,if_neg (by decide),Option.bind_some,ckS (by omega) (by omega),Option.bind_some,castS,ih (k + 1) _ _ (by omega) (by omega)]
        refine congrArg some ?_
        by_cases h2:∀ s ∈ x.xs.drop (k + 1),VS s
        · rw [if_pos h2,if_pos (show ∀ s ∈ x.xs[k] :: x.xs.drop (k + 1),VS s from fun s hs=>by rcases List.mem_cons.1 hs with rfl | hs;exact hv;exact h2 s hs)]
          rfl
        · rw [if_neg h2,if_neg (show ¬ ∀ s ∈ x.xs[k] :: x.xs.drop (k + 1),VS s from fun q=>h2 fun s hs=>q s (List.mem_cons_of_mem _ hs))]
      · rw [decide_eq_false hv,show (!false) = true from rfl,if_pos rfl,if_neg (show ¬ ∀ s ∈ x.xs[k] :: x.xs.drop (k + 1),VS s from fun q=>hv (q _ List.mem_cons_self))]
    · rw [ifDF (by omega),List.drop_eq_nil_of_le (by omega),if_pos (by simp)]
      rfl
theorem p18_eq {n:Nat} (hn:1100 ≤ n) (x:Sl Slt) (hg:∀ s ∈ x.xs,0 ≤ s.2.1.1) (hl:x.xs.length ≤ 300):p18 n x = some (chk x.xs):=by
  unfold p18 chk
  rw [len_def]
  by_cases h1:x.xs.length > 256
  · rw [ifDT (by omega),if_pos h1]
  · rw [ifDF (by omega),if_neg h1,show (0:Int) = ((0:Nat):Int) from rfl,p18_l1_eq n x hg hl n 0 [] [] (by omega) (by omega),List.drop_zero,Option.bind_some]
    by_cases h2:∀ s ∈ x.xs,VS s
    · rw [if_pos h2,if_neg (fun q=>q h2),lrKl]
      simp only
      have hlen:=insAll_len (x.xs.map (·.1)) [] List.nodup_nil
      rw [List.length_nil,List.length_map,Nat.zero_add] at hlen
      rw [ckS (by omega) (by omega),Option.bind_some]
      by_cases h3:(x.xs.map (·.1)).Nodup
      · rw [ifDF (by have:=hlen.2.2 ⟨h3,by simp⟩;omega),if_neg (fun q=>q h3)]
        have hm:=mapAny_if (f:=p18_l2_b n x) (r:=14) (p:=fun g=>RoomT x.xs ∧ RoomF x.xs g) (insAll [] (x.xs.map fun s=>s.2.1.2.2.2.2.2)) fun g _=>by
          unfold p18_l2_b
          rw [p25_eq (by omega) x (fun s hs=>⟨hg s hs,h2 s hs⟩) hl g,Option.bind_some,p35_eq (by omega),Option.bind_some]
          by_cases h:RoomT x.xs ∧ RoomF x.xs g
          · rw [decide_eq_true h,if_pos h];rfl
          · rw [decide_eq_false h,if_neg h];rfl
        rw [hm,Option.bind_some]
        have e:(∀ g ∈ insAll [] (x.xs.map fun s=>s.2.1.2.2.2.2.2),RoomT x.xs ∧ RoomF x.xs g) ↔ ∀ s ∈ x.xs,RoomT x.xs ∧ RoomF x.xs s.2.1.2.2.2.2.2:=by
          constructor
          · intro h s hs
            exact h _ (insAll_mem.2 (.inr (List.mem_map.2 ⟨s,hs,rfl⟩)))
          · intro h g hg
            rcases insAll_mem.1 hg with hg | hg
            · cases hg
            · obtain ⟨s,hs,rfl⟩:=List.mem_map.1 hg
              exact h s hs
        by_cases h4:∀ s ∈ x.xs,RoomT x.xs ∧ RoomF x.xs s.2.1.2.2.2.2.2
        · rw [if_pos (e.2 h4),if_neg (fun q=>q h4),lrKl]
        · rw [if_neg (fun q=>h4 (e.1 q)),if_pos h4,lrKr]
      · rw [ifDT (by
          have:¬ (insAll [] (x.xs.map (·.1))).length = x.xs.length:=fun q=>h3 (hlen.2.1 q).1
          omega),if_pos h3]
    · rw [if_neg h2,if_pos h2,lrKr]
theorem chk_zero {l:List Slt} (h:chk l = 0):l.length ≤ 256 ∧ (∀ s ∈ l,VS s) ∧ (l.map (·.1)).Nodup ∧ ∀ s ∈ l,RoomT l ∧ RoomF l s.2.1.2.2.2.2.2:=by
  unfold chk at h
  split at h
  · cases h
  · split at h
    · cases h
    · split at h
      · cases h
      · split at h
        · cases h
        · rename_i h1 h2 h3 h4
          exact ⟨by omega,by simpa using h2,by simpa using h3,Decidable.not_not.1 h4⟩
theorem chk_of {l:List Slt} (h1:l.length ≤ 256) (h2:∀ s ∈ l,VS s) (h3:(l.map (·.1)).Nodup) (h4:∀ s ∈ l,RoomT l ∧ RoomF l s.2.1.2.2.2.2.2):chk l = 0:=by
  unfold chk
  rw [if_neg (by omega),if_neg (fun q=>q h2),if_neg (fun q=>q h3),if_neg (fun q=>q h4)]

/-! ### Find -/
theorem p53_eq (n:Nat) (x:Sl Slt) (id:Int) (hl:x.xs.length ≤ 300):∀ (m k:Nat),x.xs.length - k < m → k ≤ x.xs.length → p53_54_l1 n x id m k = some (match (x.xs.drop k).findIdx? (fun s=>s.1 == id) with | some i=>.inr ((k + i:Nat):Int) | none=>.inl ()):=by
  intro m
  induction m with
  | zero=>intro k h;exact absurd h (by omega)
  | succ m ih =>
    intro k hm hk
    unfold p53_54_l1
    rw [len_def]
    by_cases hlt:k < x.xs.length
    · rw [ifDT (show (k:Int) < (x.xs.length:Int) by omega),idxE hlt,Option.bind_some,p54,Option.bind_some,drop_cons hlt,List.findIdx?_cons]
      by_cases he:(x.xs[k].1 == id) = true
      · rw [if_pos he,if_pos he];rfl
      · rw [if_neg he,if_neg he,ckS (by omega) (by omega),Option.bind_some,castS,ih (k + 1) (by omega) (by omega)]
        cases (x.xs.drop (k + 1)).findIdx? (fun s=>s.1 == id) with
        | none=>rfl
        | some i=>simp;omega
    · rw [ifDF (by omega),List.drop_eq_nil_of_le (by omega)]
      rfl
theorem p36_eq {n:Nat} (hn:400 ≤ n) (x:Sl Slt) (id:Int) (hl:x.xs.length ≤ 300):p36 n x id = some (match x.xs.findIdx? (fun s=>s.1 == id) with | some i=>(i:Int) | none=>-1):=by
  unfold p36 p53_54
  rw [show (0:Int) = ((0:Nat):Int) from rfl,p53_eq n x id hl n 0 (by omega) (by omega),List.drop_zero,Option.bind_some]
  cases x.xs.findIdx? (fun s=>s.1 == id) with
  | none=>rfl
  | some i=>simp [lrK]
def hasId (l:List Slt) (id:Int):Bool:=l.any fun s=>s.1 == id
theorem hasId_iff {l:List Slt} {id:Int}:hasId l id = true ↔ id ∈ l.map (·.1):=by
  unfold hasId
  simp only [List.any_eq_true,beq_iff_eq,List.mem_map]
theorem findIdx_none {l:List Slt} {id:Int} (h:hasId l id = false):l.findIdx? (fun s=>s.1 == id) = none:=by
  rw [List.findIdx?_eq_none_iff]
  intro s hs
  unfold hasId at h
  rw [List.any_eq_false] at h
  simpa using h s hs
theorem findIdx_some {l:List Slt} {id:Int} (h:hasId l id = true):∃ i,∃ hi:i < l.length,l.findIdx? (fun s=>s.1 == id) = some i ∧ l[i].1 = id:=by
  cases hf:l.findIdx? (fun s=>s.1 == id) with
  | none =>
    rw [List.findIdx?_eq_none_iff] at hf
    obtain ⟨s,hs,he⟩:=List.any_eq_true.1 h
    rw [hf s hs] at he;cases he
  | some i =>
    rw [List.findIdx?_eq_some_iff_getElem] at hf
    obtain ⟨hi,h1,_⟩:=hf
    exact ⟨i,hi,rfl,by simpa using h1⟩
theorem p19_no {n:Nat} (hn:400 ≤ n) (x:Sl Slt) (id:Int) (hl:x.xs.length ≤ 300) (h:hasId x.xs id = false):p19 n x id = some ((0,(0,0,false,0,0,0),0),false):=by
  unfold p19
  rw [p36_eq hn x id hl,findIdx_none h,Option.bind_some]
  rfl
theorem p19_yes {n:Nat} (hn:400 ≤ n) (x:Sl Slt) (id:Int) (hl:x.xs.length ≤ 300) {i:Nat} (hi:i < x.xs.length) (h:x.xs.findIdx? (fun s=>s.1 == id) = some i):p19 n x id = some (x.xs[i],true):=by
  unfold p19
  rw [p36_eq hn x id hl,h,Option.bind_some]
  simp only
  rw [ifDF (by omega),idxE hi,Option.bind_some]
theorem p19_eq {n:Nat} (hn:400 ≤ n) (x:Sl Slt) (id:Int) (hl:x.xs.length ≤ 300):∃ s,p19 n x id = some (s,hasId x.xs id):=by
  cases h:hasId x.xs id with
  | false=>exact ⟨_,p19_no hn x id hl h⟩
  | true =>
    obtain ⟨i,hi,hf,_⟩:=findIdx_some h
    exact ⟨_,p19_yes hn x id hl hi hf⟩

/-! ### Is there room for a slot? -/
def okT (l:List Slt) (x:Nd) (t:Nat):Prop:=TL l (t:Int) + (cst x).1 ≤ 48000 ∧ (x.1 ≠ 2 → TL l ((t:Int) + 2) + (cst x).2.1 ≤ 48000 ∧ FL l x.2.2.2.2.2 ((t:Int) / 8) + (cst x).2.2 ≤ 10800)
instance (l:List Slt) (x:Nd) (t:Nat):Decidable (okT l x t):=by unfold okT;infer_instance
def Fit (l:List Slt) (x:Nd) (ph:Int):Prop:=∀ t:Nat,t < 256 → due x.2.2.2.2.1 ph (t:Int) = true → okT l x t
instance (l:List Slt) (x:Nd) (ph:Int):Decidable (Fit l x ph):=by unfold Fit;infer_instance
/-- The ticks from t on. -/
def FitF (l:List Slt) (x:Nd) (ph:Int) (u:Nat):Prop:=∀ t:Nat,t < 256 → u ≤ t → due x.2.2.2.2.1 ph (t:Int) = true → okT l x t
instance (l:List Slt) (x:Nd) (ph:Int) (u:Nat):Decidable (FitF l x ph u):=by unfold FitF;infer_instance
theorem FitF_step {l:List Slt} {x:Nd} {ph:Int} (hp:isP x.2.2.2.2.1 = true) {u q:Nat} (hq:x.2.2.2.2.1 = (q:Int)) (hd:due x.2.2.2.2.1 ph (u:Int) = true) (hu:u < 256):FitF l x ph u ↔ okT l x u ∧ FitF l x ph (u + q):=by
  constructor
  · intro h
    exact ⟨h u hu (Nat.le_refl _) hd,fun t h1 h2 h3=>h t h1 (by omega) h3⟩
  · rintro ⟨h1,h2⟩ t h3 h4 h5
    rcases (due_step (i:=(t:Int)) hp hd).1 ⟨h5,by omega⟩ with e | e
    · have:t = u:=by omega
      rw [this];exact h1
    · exact h2 t h3 (by omega) h5
theorem FitF_end {l:List Slt} {x:Nd} {ph:Int} {u:Nat} (hu:256 ≤ u):FitF l x ph u:=fun t h1 h2 _=>absurd h1 (by omega)
theorem due_le {x:Nd} {ph t:Int} (hp:isP x.2.2.2.2.1 = true) (h1:ph < x.2.2.2.2.1) (h:due x.2.2.2.2.1 ph t = true):ph ≤ t:=by
  unfold due at h
  rw [decide_eq_true_eq] at h
  rcases isP_cases hp with e | e | e | e | e | e | e | e | e <;> rw [e] at h h1 <;> omega
theorem FitF_start {l:List Slt} {x:Nd} {q:Nat} (hp:isP x.2.2.2.2.1 = true) (h1:(q:Int) < x.2.2.2.2.1):FitF l x (q:Int) q ↔ Fit l x (q:Int) :=
  ⟨fun h t ht hd=>h t ht (by have:=due_le hp h1 hd;omega) hd,fun h t ht _ hd=>h t ht hd⟩
theorem due_first {per ph:Int} (h0:0 ≤ ph) (h1:ph < per):due per ph ph = true:=by
  unfold due
  rw [decide_eq_true_eq]
  exact ⟨h0,Int.emod_eq_of_lt h0 h1⟩
theorem due_next {per ph t:Int} (hp:0 < per) (h:due per ph t = true):due per ph (t + per) = true:=by
  unfold due at *
  rw [decide_eq_true_eq] at *
  exact ⟨by omega,by simpa using h.2⟩
/-- Ticks in which a slower transaction begins. -/
theorem due_slow {x:Nd} {ph t:Int} (hv:VN x) (hs:x.1 ≠ 2) (h:due x.2.2.2.2.1 ph t = true):t % 8 = ph % 8:=by
  have h8:=hv.2.2.2.2.2.2.2 hs
  unfold due at h
  rw [decide_eq_true_eq] at h
  rcases isP_cases hv.2.2.2.2.2.1 with e | e | e | e | e | e | e | e | e <;> rw [e] at h h8 <;> omega
theorem idxTR (l:List Slt) (t:Nat) (h:t < 256):idx (TR l) (t:Int) = some (TL l (t:Int)):=by
  rw [idx_nat];unfold TR;rw [List.getElem?_map,List.getElem?_range h];rfl
theorem idxFR (l:List Slt) (g:Int) (t:Nat) (h:t < 32):idx (FR l g) (t:Int) = some (FL l g (t:Int)):=by
  rw [idx_nat];unfold FR;rw [List.getElem?_map,List.getElem?_range h];rfl
theorem p27_l1_eq (n:Nat) (l:List Slt) (hl:AllV l) (hll:l.length ≤ 300) (id:Int) (x:Nd) (h0:0 ≤ x.1) (hv:VN x) (ph:Int) (hok:okPh x.1 ph):∀ (m u:Nat),256 - u < m → u ≤ 600 → due x.2.2.2.2.1 ph (u:Int) = true →
    p27_l1 n (TR l,FR l x.2.2.2.2.2) (id,x,ph) (cst x) m u = some (if FitF l x ph u then .inl () else .inr false):=by
  have hp:=hv.2.2.2.2.2.1
  have hr:=isP_range hp
  have hc:=cst_range h0 hv
  obtain ⟨q,hq⟩:=Int.eq_ofNat_of_zero_le (show 0 ≤ x.2.2.2.2.1 by omega)
  intro m
  induction m with
  | zero=>intro u h;exact absurd h (by omega)
  | succ m ih =>
    intro u hm hu hd
    unfold p27_l1
    by_cases hlt:u < 256
    · have b1:=TL_range hl (u:Int)
      rw [ifDT (show (u:Int) < 256 by omega)]
      simp only
      rw [idxTR l u hlt,Option.bind_some,ckS (by omega) (by omega),Option.bind_some,p43_2,Option.bind_some]
      have hst:=FitF_step (l:=l) hp hq hd hlt
      have hdn:=due_next (by omega) hd
      rw [hq] at hdn
      have ih':=ih (u + q) (by omega) (by omega) (by rw [hq];simpa using hdn)
      by_cases h1:TL l (u:Int) + (cst x).1 > 48000
      · rw [ifDT h1,if_neg (fun k=>by have:=(hst.1 k).1.1;omega)]
      · rw [ifDF h1]
        by_cases hs:x.1 = 2
        · rw [if_pos (by simpa using hs),ckS (by omega) (by omega),Option.bind_some,hq,show ((u:Int) + (q:Int)) = ((u + q:Nat):Int) by simp,ih']
          refine congrArg some ?_
          have e:FitF l x ph u ↔ FitF l x ph (u + q):=by rw [hst];exact ⟨fun h=>h.2,fun h=>⟨⟨by omega,fun c=>absurd hs c⟩,h⟩⟩
          by_cases h2:FitF l x ph (u + q)
          · rw [if_pos h2,if_pos (e.2 h2)]
          · rw [if_neg h2,if_neg (fun k=>h2 (e.1 k))]
        · have h8:=due_slow hv hs hd
          have hph:ph % 8 ≤ 3:=by rcases hok with h | h;exact absurd h hs;exact h
          have b2:=TL_range hl ((u:Int) + 2)
          have b3:=FL_range hl x.2.2.2.2.2 ((u:Int) / 8)
          rw [if_neg (by simpa using hs),ckS (by omega) (by omega),Option.bind_some,show ((u:Int) + 2) = ((u + 2:Nat):Int) by simp,idxTR l (u + 2) (by omega),Option.bind_some,show (((u + 2:Nat):Int)) = (u:Int) + 2 by simp,ckS (by omega) (by omega),Option.bind_some,Option.bind_some]
          rw [quoS (by omega) (by decide) (by omega),Option.bind_some,show ((u:Int) / 8) = ((u / 8:Nat):Int) by simp,idxFR l _ (u / 8) (by omega),Option.bind_some,show (((u / 8:Nat):Int)) = (u:Int) / 8 by simp,ckS (by omega) (by omega),Option.bind_some,p43_1,Option.bind_some,orS,Option.bind_some]
          by_cases h2:TL l ((u:Int) + 2) + (cst x).2.1 > 48000 ∨ FL l x.2.2.2.2.2 ((u:Int) / 8) + (cst x).2.2 > 10800
          · have hb:(decide (TL l ((u:Int) + 2) + (cst x).2.1 > 48000) || decide (FL l x.2.2.2.2.2 ((u:Int) / 8) + (cst x).2.2 > 10800)) = true:=by
              rw [Bool.or_eq_true,decide_eq_true_eq,decide_eq_true_eq];exact h2
            rw [hb,if_pos rfl,if_neg (fun k=>by have:=(hst.1 k).1.2 hs;omega)]
          · have hb:(decide (TL l ((u:Int) + 2) + (cst x).2.1 > 48000) || decide (FL l x.2.2.2.2.2 ((u:Int) / 8) + (cst x).2.2 > 10800)) = false:=by
              rw [Bool.or_eq_false_iff,decide_eq_false_iff_not,decide_eq_false_iff_not];omega
            rw [hb,if_neg (by decide),ckS (by omega) (by omega),Option.bind_some,hq,show ((u:Int) + (q:Int)) = ((u + q:Nat):Int) by simp,ih']
            refine congrArg some ?_
            have e:FitF l x ph u ↔ FitF l x ph (u + q):=by rw [hst];exact ⟨fun h=>h.2,fun h=>⟨⟨by omega,fun _=>by omega⟩,h⟩⟩
            by_cases h2:FitF l x ph (u + q)
            · rw [if_pos h2,if_pos (e.2 h2)]
            · rw [if_neg h2,if_neg (fun k=>h2 (e.1 k))]
    · rw [ifDF (by omega),if_pos (FitF_end (by omega))]
theorem p27_eq {n:Nat} (hn:300 ≤ n) (l:List Slt) (hl:AllV l) (hll:l.length ≤ 300) (id:Int) (x:Nd) (h0:0 ≤ x.1) (hv:VN x) (q:Nat) (h1:(q:Int) < x.2.2.2.2.1) (hok:okPh x.1 (q:Int)):p27 n (TR l,FR l x.2.2.2.2.2) (id,x,(q:Int)) = some (decide (Fit l x (q:Int))):=by
  have hr:=isP_range hv.2.2.2.2.2.1
  unfold p27
  simp only
  rw [p38_eq (by omega) x h0 hv,Option.bind_some,p27_l1_eq n l hl hll id x h0 hv (q:Int) hok n q (by omega) (by omega) (due_first (by omega) h1),Option.bind_some]
  have e:=FitF_start (l:=l) (x:=x) (q:=q) hv.2.2.2.2.2.1 h1
  by_cases h:Fit l x (q:Int)
  · rw [if_pos (e.2 h),decide_eq_true h,lrKl]
  · rw [if_neg (fun k=>h (e.1 k)),decide_eq_false h,lrKr]

/-! ### Add -/
def phOk (l:List Slt) (x:Nd) (q:Nat):Prop:=okPh x.1 (q:Int) ∧ Fit l x (q:Int)
instance (l:List Slt) (x:Nd) (q:Nat):Decidable (phOk l x q):=by unfold phOk;infer_instance
/-- The first phase from u on in which there is room. -/
def fstPh (l:List Slt) (x:Nd) (u:Nat):Option Nat:=(List.range' u (x.2.2.2.2.1.toNat - u)).find? fun q=>decide (phOk l x q)
theorem fstPh_cons {l:List Slt} {x:Nd} {u:Nat} (h:u < x.2.2.2.2.1.toNat):fstPh l x u = if phOk l x u then some u else fstPh l x (u + 1):=by
  unfold fstPh
  obtain ⟨k,hk⟩:∃ k,x.2.2.2.2.1.toNat - u = k + 1:=⟨x.2.2.2.2.1.toNat - u - 1,by omega⟩
  rw [hk,List.range'_succ,List.find?_cons,show x.2.2.2.2.1.toNat - (u + 1) = k by omega]
  by_cases h1:phOk l x u
  · rw [decide_eq_true h1,if_pos h1]
  · rw [decide_eq_false h1,if_neg h1]
theorem fstPh_end {l:List Slt} {x:Nd} {u:Nat} (h:x.2.2.2.2.1.toNat ≤ u):fstPh l x u = none:=by
  unfold fstPh
  rw [show x.2.2.2.2.1.toNat - u = 0 by omega]
  rfl
theorem fstPh_some {l:List Slt} {x:Nd} {q:Nat} (h:fstPh l x 0 = some q):q < x.2.2.2.2.1.toNat ∧ phOk l x q ∧ ∀ r,r < q → ¬ phOk l x r:=by
  have key:∀ (k u:Nat),x.2.2.2.2.1.toNat - u = k → fstPh l x u = some q → u ≤ q ∧ q < x.2.2.2.2.1.toNat ∧ phOk l x q ∧ ∀ r,u ≤ r → r < q → ¬ phOk l x r:=by
    intro k
    induction k with
    | zero=>intro u hk h;rw [fstPh_end (by omega)] at h;cases h
    | succ k ih =>
      intro u hk h
      rw [fstPh_cons (by omega)] at h
      by_cases h1:phOk l x u
      · rw [if_pos h1] at h
        obtain rfl:=Option.some.inj h
        exact ⟨Nat.le_refl _,by omega,h1,fun r _ _=>by omega⟩
      · rw [if_neg h1] at h
        obtain ⟨a,b,c,d⟩:=ih (u + 1) (by omega) h
        exact ⟨by omega,b,c,fun r h2 h3=>by
          by_cases e:r = u
          · rw [e];exact h1
          · exact d r (by omega) h3⟩
  obtain ⟨_,b,c,d⟩:=key _ 0 rfl h
  exact ⟨b,c,fun r hr=>d r (Nat.zero_le _) hr⟩
def nilS:Sl Slt:=⟨[],some 0⟩
def addR (l:List Slt) (id:Int) (x:Nd):Sl Slt × Int :=
  if chk l ≠ 0 then (nilS,chk l) else if id < 0 ∨ ¬ VN x then (nilS,1) else if hasId l id = true then (nilS,8) else if l.length = 256 then (nilS,3) else
  match fstPh l x 0 with
  | some q=>(⟨l ++ [(id,x,(q:Int))],some (l.length + 1)⟩,0)
  | none=>(nilS,14)
theorem p29_eq (n:Nat) (x:Sl Slt) (hl:x.xs.length ≤ 300):∃ c,p29 n x = some ⟨x.xs,c⟩:=by
  unfold p29
  rw [appI_ok (by simp;omega),Option.bind_some,List.nil_append]
  exact ⟨_,rfl⟩
theorem p28_eq (n:Nat) (x:Sl Slt):p28 n x = some ⟨x.xs,some x.xs.length⟩:=by
  obtain ⟨l,c⟩:=x
  unfold p28
  rw [sl3I_all,Option.bind_some]
theorem p11_r1_eq {n:Nat} (hn:300 ≤ n) (x:Sl Slt) (hl:AllV x.xs) (hll:x.xs.length ≤ 300) (id:Int) (y:Nd) (h0:0 ≤ y.1) (hv:VN y) (q:Nat) (h1:(q:Int) < y.2.2.2.2.1) (hok:okPh y.1 (q:Int)) (s:Sl Slt) :
    p11_r1 n x id y (TR x.xs,FR x.xs y.2.2.2.2.2) s (q:Int) = some (if Fit x.xs y (q:Int) then (1,⟨x.xs ++ [(id,y,(q:Int))],some (x.xs.length + 1)⟩) else (0,s)):=by
  unfold p11_r1
  rw [p27_eq hn x.xs hl hll id y h0 hv q h1 hok,Option.bind_some]
  by_cases h:Fit x.xs y (q:Int)
  · obtain ⟨c,hc⟩:=p29_eq n x hll
    rw [ifDT h,if_pos h,hc,Option.bind_some,appI_ok (by simp;omega),Option.bind_some,p28_eq,Option.bind_some,Option.bind_some]
    simp
  · rw [ifDF h,if_neg h]
theorem rnd_0 {σ α:Type} (b:σ → α → Option (Nat × σ)) (s:σ) (x:α):rnd b (0,s) x = (b s x).map fun r=>(Nat.beq r.1 0,r):=rfl
theorem p42_l1_eq (n n2:Nat) (hn:300 ≤ n2) (x:Sl Slt) (hl:AllV x.xs) (hll:x.xs.length ≤ 300) (id:Int) (y:Nd) (h0:0 ≤ y.1) (hv:VN y) (s:Sl Slt):∀ (m u:Nat),y.2.2.2.2.1.toNat - u < m → u ≤ y.2.2.2.2.1.toNat →
    p42_l1 n (Nat × Sl Slt) y (rnd (p11_r1 n2 x id y (TR x.xs,FR x.xs y.2.2.2.2.2))) m u (0,s) = some (match fstPh x.xs y u with | some q=>.inr (1,⟨x.xs ++ [(id,y,(q:Int))],some (x.xs.length + 1)⟩) | none=>.inl (0,s)):=by
  have hr:=isP_range hv.2.2.2.2.2.1
  intro m
  induction m with
  | zero=>intro u h;exact absurd h (by omega)
  | succ m ih =>
    intro u hm hu
    unfold p42_l1
    by_cases hlt:u < y.2.2.2.2.1.toNat
    · rw [ifDT (show (u:Int) < y.2.2.2.2.1 by omega),remS (by omega) (by decide) (by omega),Option.bind_some,orS,Option.bind_some,fstPh_cons hlt]
      have e:((y.1 == 2) || decide ((u:Int) % 8 ≤ 3)) = decide (okPh y.1 (u:Int)):=by
        rw [Bool.eq_iff_iff,Bool.or_eq_true,beq_iff_eq,decide_eq_true_eq,decide_eq_true_eq];exact Iff.rfl
      rw [e]
      by_cases hok:okPh y.1 (u:Int)
      · rw [ifDT hok]
        rw [rnd_0,p11_r1_eq hn x hl hll id y h0 hv u (by omega) hok s,Option.map_some,Option.bind_some,Option.bind_some]
        by_cases hf:Fit x.xs y (u:Int)
        · rw [if_pos hf,if_pos (show phOk x.xs y u from ⟨hok,hf⟩)]
          rfl
        · rw [if_neg hf,if_neg (show ¬ phOk x.xs y u from fun k=>hf k.2)]
          rw [show (!Nat.beq (0,s).1 0) = false from rfl,if_neg Bool.false_ne_true,ckS (by omega) (by omega),Option.bind_some,castS]
          exact ih (u + 1) (by omega) (by omega)
      · rw [ifDF hok,Option.bind_some,if_neg Bool.false_ne_true,ckS (by omega) (by omega),Option.bind_some,castS,if_neg (show ¬ phOk x.xs y u from fun k=>hok k.1)]
        exact ih (u + 1) (by omega) (by omega)
    · rw [ifDF (by omega),fstPh_end (by omega)]
theorem p11_eq {n:Nat} (hn:1100 ≤ n) (x:Sl Slt) (hg:∀ s ∈ x.xs,0 ≤ s.2.1.1) (hll:x.xs.length ≤ 300) (id:Int) (y:Nd) (h0:0 ≤ y.1):p11 n x id y = some (addR x.xs id y):=by
  unfold p11 addR
  rw [p18_eq hn x hg hll,Option.bind_some]
  by_cases h1:chk x.xs = 0
  · rw [if_neg (show ¬ (chk x.xs != 0) = true by simpa using h1),if_neg (show ¬ chk x.xs ≠ 0 from fun k=>k h1)]
    obtain ⟨s,hs⟩:=p19_eq (n:=n) (by omega) x id hll
    obtain ⟨c1,c2,c3,c4⟩:=chk_zero h1
    rw [hs,Option.bind_some,p24_eq n y h0,Option.bind_some,orS,Option.bind_some]
    by_cases h2:id < 0 ∨ ¬ VN y
    · have hb:(decide (id < 0) || !decide (VN y)) = true:=by rw [Bool.or_eq_true,decide_eq_true_eq];rcases h2 with h | h;exact .inl h;exact .inr (by rw [decide_eq_false h];rfl)
      rw [hb,if_pos rfl,if_pos h2];rfl
    · have hb:(decide (id < 0) || !decide (VN y)) = false:=by
        rw [Bool.or_eq_false_iff,decide_eq_false_iff_not]
        have hv:VN y:=Decidable.not_not.1 fun k=>h2 (.inr k)
        exact ⟨fun k=>h2 (.inl k),by rw [decide_eq_true hv];rfl⟩
      have hv:VN y:=Decidable.not_not.1 fun k=>h2 (.inr k)
      have hr:=isP_range hv.2.2.2.2.2.1
      rw [hb,if_neg (by decide),if_neg h2]
      simp only
      by_cases h3:hasId x.xs id = true
      · rw [if_pos h3,if_pos h3];rfl
      · rw [if_neg h3,if_neg h3,len_def]
        by_cases h4:x.xs.length = 256
        · rw [if_pos (by rw [h4];rfl),if_pos h4];rfl
        · have hA:AllV x.xs:=fun s hs=>⟨hg s hs,c2 s hs⟩
          rw [if_neg (by simp;omega),if_neg h4,p25_eq (by omega) x hA hll,Option.bind_some,p26,Option.bind_some]
          unfold p42
          rw [show (0:Int) = ((0:Nat):Int) from rfl]
          have:=p42_l1_eq n n (by omega) x hA hll id y h0 hv ⟨[],some 0⟩ n 0 (by omega) (by omega)
          rw [this,Option.bind_some]
          cases fstPh x.xs y 0 with
          | none=>rfl
          | some q=>rfl
  · rw [if_pos (show (chk x.xs != 0) = true by simpa using h1),if_pos h1]
    rfl

/-! ### What Add leads to -/
theorem due_2 {x:Nd} (hv:VN x) (hs:x.1 ≠ 2) {ph t:Int} (h:due x.2.2.2.2.1 ph t = true):due x.2.2.2.2.1 ph (t - 2) = false:=by
  cases hc:due x.2.2.2.2.1 ph (t - 2) with
  | false=>rfl
  | true =>
    have h1:=due_slow hv hs h
    have h2:=due_slow hv hs hc
    omega
theorem room_add {l:List Slt} (hA:AllV l) (h:∀ s ∈ l,RoomT l ∧ RoomF l s.2.1.2.2.2.2.2) {id:Int} {x:Nd} (h0:0 ≤ x.1) (hv:VN x) {q:Nat} (hq:(q:Int) < x.2.2.2.2.1) (hok:okPh x.1 (q:Int)) (hf:Fit l x (q:Int)) :
    ∀ s ∈ l ++ [(id,x,(q:Int))],RoomT (l ++ [(id,x,(q:Int))]) ∧ RoomF (l ++ [(id,x,(q:Int))]) s.2.1.2.2.2.2.2:=by
  have hT:RoomT l:=by
    cases l with
    | nil=>intro t _;simp [TL]
    | cons s l=>exact (h s (by simp)).1
  have hF:∀ g,(∃ s ∈ l ++ [(id,x,(q:Int))],s.2.1.2.2.2.2.2 = g) → RoomF l g ∨ ∀ f,FL l g f = 0:=by
    intro g _
    by_cases hg:∃ s ∈ l,s.2.1.2.2.2.2.2 = g
    · obtain ⟨s,hs,rfl⟩:=hg
      exact .inl (h s hs).2
    · refine .inr fun f=>?_
      unfold FL
      have:∀ y ∈ l.map (fr · g f),y = 0:=by
        intro y hy
        obtain ⟨s,hs,rfl⟩:=List.mem_map.1 hy
        unfold fr
        rw [if_neg]
        unfold us
        rw [decide_eq_true_eq]
        exact fun k=>hg ⟨s,hs,k.2.1⟩
      generalize l.map (fr · g f) = zs at this
      induction zs with
      | nil=>rfl
      | cons z zs ih=>rw [List.sum_cons,this z (by simp),ih fun y hy=>this y (by simp [hy])];rfl
  have hc:=cst_range h0 hv
  intro s hs
  refine ⟨fun t ht=>?_,fun f hf2=>?_⟩
  · rw [TL_append,TL_one]
    have b:=hT t ht
    unfold ld
    simp only
    by_cases d1:due x.2.2.2.2.1 (q:Int) (t:Int) = true
    · rw [if_pos d1]
      have k:=hf t ht d1
      by_cases hs2:x.1 = 2
      · have:(cst x).2.1 = 0:=by unfold cst;rw [if_pos hs2]
        rw [this]
        have:=k.1
        split <;> omega
      · rw [due_2 hv hs2 d1,if_neg (by decide)]
        have:=k.1
        omega
    · rw [if_neg d1]
      by_cases d2:due x.2.2.2.2.1 (q:Int) ((t:Int) - 2) = true
      · rw [if_pos d2]
        by_cases hs2:x.1 = 2
        · have:(cst x).2.1 = 0:=by unfold cst;rw [if_pos hs2]
          omega
        · have h2:2 ≤ t:=by
            have:0 ≤ (t:Int) - 2:=by unfold due at d2;rw [decide_eq_true_eq] at d2;exact d2.1
            omega
          have e:((t - 2:Nat):Int) = (t:Int) - 2:=by omega
          have k:=(hf (t - 2) (by omega) (by rw [e];exact d2)).2 hs2
          rw [e,show (t:Int) - 2 + 2 = (t:Int) by omega] at k
          omega
      · rw [if_neg d2];omega
  · rw [FL_append,FL_one]
    have hz:=hF _ ⟨s,hs,rfl⟩
    have b:FL l s.2.1.2.2.2.2.2 (f:Int) ≤ 10800:=by
      rcases hz with hz | hz
      · exact hz f hf2
      · rw [hz];decide
    unfold fr
    by_cases hu:us (id,x,(q:Int)) s.2.1.2.2.2.2.2 (f:Int) = true
    · rw [if_pos hu]
      unfold us at hu
      rw [decide_eq_true_eq] at hu
      simp only at hu ⊢
      obtain ⟨u1,u2,u3⟩:=hu
      have hp8:(q:Int) % 8 ≤ 3:=by rcases hok with h | h;exact absurd h u1;exact h
      obtain ⟨t,ht⟩:=Int.eq_ofNat_of_zero_le (show 0 ≤ (f:Int) * 8 + (q:Int) % 8 by omega)
      have k:=(hf t (by omega) (by rw [← ht];exact u3)).2 u1
      have e:(t:Int) / 8 = (f:Int):=by omega
      rw [e,u2] at k
      exact k.2
    · rw [if_neg hu];omega
theorem chk_add {l:List Slt} (hg:∀ s ∈ l,0 ≤ s.2.1.1) (hc:chk l = 0) {id:Int} {x:Nd} (h0:0 ≤ x.1) (hid:0 ≤ id) (hv:VN x) (hni:hasId l id = false) (hl:l.length ≠ 256) {q:Nat} (hq:fstPh l x 0 = some q):chk (l ++ [(id,x,(q:Int))]) = 0:=by
  obtain ⟨c1,c2,c3,c4⟩:=chk_zero hc
  obtain ⟨f1,f2,_⟩:=fstPh_some hq
  have hr:=isP_range hv.2.2.2.2.2.1
  have hqp:(q:Int) < x.2.2.2.2.1:=by omega
  refine chk_of (by simp;omega) (fun s hs=>?_) ?_ (room_add (fun s hs=>⟨hg s hs,c2 s hs⟩) c4 h0 hv hqp f2.1 f2.2)
  · rcases List.mem_append.1 hs with hs | hs
    · exact c2 s hs
    · rw [List.mem_singleton.1 hs]
      exact ⟨hid,hv,(show (0:Int) ≤ (q:Int) by omega),hqp,f2.1⟩
  · rw [List.map_append,List.nodup_append]
    refine ⟨c3,by simp,fun a ha b hb=>?_⟩
    have:b = id:=by simpa using hb
    rw [this]
    intro e
    rw [e] at ha
    rw [hasId_iff.2 ha] at hni
    cases hni
/-! ### Remove -/
section
set_option maxRecDepth 100000

instance decNd:DecidableEq Nd:=inferInstanceAs (DecidableEq (Int × Int × Bool × Int × Int × Int))
instance decSlt:DecidableEq Slt:=inferInstanceAs (DecidableEq (Int × Nd × Int))
instance decSlts:DecidableEq (List Slt):=inferInstanceAs (DecidableEq (List Slt))
theorem p15_ok:p15 6000 = some true:=by kernel_rfl
/-! ### Two plans -/
theorem eqS_iff (x y:Slt):eqN gf6 x y = true ↔ x = y:=by
  have h:=eqn45
  simp only [eqM,Bool.and_eq_true] at h
  exact eqN_iff (t:=.st gf6) h.1.1 x y
theorem p14_l1_eq (n:Nat) (a b:Sl Slt) (hl:a.xs.length = b.xs.length) (h3:a.xs.length ≤ 300):∀ (m k:Nat),a.xs.length - k < m → k ≤ a.xs.length → p14_l1 n a b m k = some (if a.xs.drop k = b.xs.drop k then .inl () else .inr false):=by
  intro m
  induction m with
  | zero=>intro k h;exact absurd h (by omega)
  | succ m ih =>
    intro k hm hk
    unfold p14_l1
    rw [len_def]
    by_cases hlt:k < a.xs.length
    · have hb:k < b.xs.length:=by omega
      rw [ifDT (show (k:Int) < (a.xs.length:Int) by omega),idxE hlt,Option.bind_some,idxE hb,Option.bind_some,drop_cons hlt,drop_cons hb]
      by_cases he:a.xs[k] = b.xs[k]
      · rw [(eqS_iff _ _).2 he,if_neg (by decide),ckS (by omega) (by omega),Option.bind_some,castS,ih (k + 1) (by omega) (by omega)]
        refine congrArg some ?_
        by_cases h2:a.xs.drop (k + 1) = b.xs.drop (k + 1)
        · rw [if_pos h2,if_pos (by rw [he,h2])]
        · rw [if_neg h2,if_neg (fun q=>h2 (List.cons.inj q).2)]
      · have:eqN gf6 a.xs[k] b.xs[k] = false:=Bool.eq_false_iff.2 fun q=>he ((eqS_iff _ _).1 q)
        rw [this,if_pos (by rfl),if_neg (fun q=>he (List.cons.inj q).1)]
    · rw [ifDF (by omega),List.drop_eq_nil_of_le (by omega),List.drop_eq_nil_of_le (by omega),if_pos rfl]
theorem p14_eq {n:Nat} (hn:400 ≤ n) (a b:List Slt) (ca:Nat) (cb:Option Nat) (hc:ca ≤ 1000) (h3:a.length ≤ 300) (h4:b.length ≤ 300):p14 n ⟨a,some ca⟩ ⟨b,cb⟩ = some (decide (a = b ∧ ca = a.length)):=by
  unfold p14
  rw [lenI_mk,lenI_mk]
  have hcap:capO (⟨a,some ca⟩:Sl Slt) = some (ca:Int):=by unfold capO;rfl
  by_cases hl:a.length = b.length
  · rw [if_pos (by rw [hl];simp),hcap,Option.bind_some,Option.bind_some]
    by_cases h5:ca = a.length
    · rw [if_neg (by rw [h5];simp),show (0:Int) = ((0:Nat):Int) from rfl,p14_l1_eq n ⟨a,some ca⟩ ⟨b,cb⟩ hl h3 n 0 (by simp;omega) (by simp),List.drop_zero,List.drop_zero,Option.bind_some]
      by_cases h:a = b
      · rw [if_pos h,lrKl,decide_eq_true (⟨h,h5⟩:a = b ∧ ca = a.length)]
      · rw [if_neg h,lrKr,decide_eq_false (fun q=>h q.1)]
    · rw [if_pos (by simp;omega),decide_eq_false (fun q=>h5 q.2)]
  · rw [if_neg (by simp;omega),Option.bind_some,if_pos rfl,decide_eq_false (fun q=>hl (by rw [q.1]))]

/-! ### Remove -/
/-! ### Needs out of plain data -/
theorem p10_ok (n:Nat) (x:Int × Bool × Bool × Int × Int × Int) (h1:0 ≤ x.1 ∧ x.1 ≤ 255) (h2:0 ≤ x.2.2.2.1 ∧ x.2.2.2.1 ≤ 65535) (h3:0 ≤ x.2.2.2.2.1 ∧ x.2.2.2.2.1 ≤ 255) (h4:0 ≤ x.2.2.2.2.2 ∧ x.2.2.2.2.2 ≤ 255) :
    ∃ y,p10 n x = some y ∧ VN y ∧ 0 ≤ y.1 ∧ 0 ≤ y.2.2.2.2.2 ∧ y.2.2.2.2.2 ≤ 2:=by
  obtain ⟨sp,iso,i,mx,per,hub⟩:=x
  simp only at h1 h2 h3 h4
  unfold p10
  simp only
  have r8:∀ {a b:Int},0 ≤ a → a ≤ 255 → 0 < b → b ≤ 255 → remI .u8 a b = some (a % b):=fun {a b} q1 q2 q3 q4=>remI_ok q1 q3 (inR_u8.2 ⟨Int.emod_nonneg a (by omega),by have:=Int.emod_lt_of_pos a q3;omega⟩)
  have hM:∀ most:Int,0 < most → most ≤ 1024 → (remI .i64 mx most).bind (fun x_81=>(ckI .i64 (1 + x_81)).bind fun x_82=>some x_82) = some (1 + mx % most) ∧ 1 ≤ 1 + mx % most ∧ 1 + mx % most ≤ most:=by
    intro most q1 q2
    have a1:=Int.emod_nonneg mx (show most ≠ 0 by omega)
    have a2:=Int.emod_lt_of_pos mx q1
    rw [remS h2.1 q1 (by omega),Option.bind_some,ckS (by omega) (by omega),Option.bind_some]
    exact ⟨rfl,by omega,by omega⟩
  rw [r8 h1.1 h1.2 (by decide) (by decide),Option.bind_some,r8 h3.1 h3.2 (by decide) (by decide),Option.bind_some]
  have hs:sp % 3 = 0 ∨ sp % 3 = 1 ∨ sp % 3 = 2:=by omega
  have hp9:∃ q,shlI .i64 1 (per % 9) = some q ∧ isP q = true:=by
    have:per % 9 = 0 ∨ per % 9 = 1 ∨ per % 9 = 2 ∨ per % 9 = 3 ∨ per % 9 = 4 ∨ per % 9 = 5 ∨ per % 9 = 6 ∨ per % 9 = 7 ∨ per % 9 = 8:=by omega
    rcases this with e | e | e | e | e | e | e | e | e <;> rw [e] <;> exact ⟨_,rfl,rfl⟩
  have hp6:∃ q,shlI .i64 8 (per % 6) = some q ∧ isP q = true ∧ 8 ≤ q:=by
    have:per % 6 = 0 ∨ per % 6 = 1 ∨ per % 6 = 2 ∨ per % 6 = 3 ∨ per % 6 = 4 ∨ per % 6 = 5:=by omega
    rcases this with e | e | e | e | e | e <;> rw [e] <;> exact ⟨_,rfl,rfl,by decide⟩
  obtain ⟨q9,e9,i9⟩:=hp9
  obtain ⟨q6,e6,i6,l6⟩:=hp6
  rw [e9,Option.bind_some]
  have fin:∀ (k most:Int),(k = 3 ∨ k = 1) → 0 < most → most ≤ capN k (sp % 3) → sp % 3 ≠ 2 →
      ∃ y,((remI .u8 per 6).bind fun x_69=>(shlI .i64 8 x_69).bind fun x_70=>(remI .u8 hub 3).bind fun x_75=>some ((most,(sp % 3,k,i,0,x_70,x_75)):Int × Nd)).bind (fun j_65=>(remI .i64 mx j_65.1).bind fun x_81=>(ckI .i64 (1 + x_81)).bind fun x_82=>some ((j_65.2.1,j_65.2.2.1,j_65.2.2.2.1,x_82,j_65.2.2.2.2.2.1,j_65.2.2.2.2.2.2):Nd)) = some y ∧ VN y ∧ 0 ≤ y.1 ∧ 0 ≤ y.2.2.2.2.2 ∧ y.2.2.2.2.2 ≤ 2:=by
    intro k most q1 q2 q3 q4
    have hc:=capN_le k (sp % 3)
    have a1:=Int.emod_nonneg mx (show most ≠ 0 by omega)
    have a2:=Int.emod_lt_of_pos mx q2
    rw [r8 h3.1 h3.2 (by decide) (by decide),Option.bind_some,e6,Option.bind_some,r8 h4.1 h4.2 (by decide) (by decide),Option.bind_some,Option.bind_some]
    simp only
    rw [remS h2.1 q2 (by omega),Option.bind_some,ckS (by omega) (by omega),Option.bind_some]
    refine ⟨_,rfl,⟨q1,?_,?_,?_,?_,i6,fun c=>absurd c q4,fun _=>l6⟩,?_,?_,?_⟩ <;> simp only <;> omega
  have fin2:∀ (k:Int),(k = 3 ∨ k = 1) → sp % 3 = 2 →
      ∃ y,(some ((1024,(sp % 3,k,i,0,q9,0)):Int × Nd)).bind (fun j_65=>(remI .i64 mx j_65.1).bind fun x_81=>(ckI .i64 (1 + x_81)).bind fun x_82=>some ((j_65.2.1,j_65.2.2.1,j_65.2.2.2.1,x_82,j_65.2.2.2.2.2.1,j_65.2.2.2.2.2.2):Nd)) = some y ∧ VN y ∧ 0 ≤ y.1 ∧ 0 ≤ y.2.2.2.2.2 ∧ y.2.2.2.2.2 ≤ 2:=by
    intro k q1 q4
    have a1:=Int.emod_nonneg mx (show (1024:Int) ≠ 0 by decide)
    have a2:=Int.emod_lt_of_pos mx (show (0:Int) < 1024 by decide)
    have hc:capN k (sp % 3) = 1024:=by rw [q4];rcases q1 with rfl | rfl <;> rfl
    rw [Option.bind_some]
    simp only
    rw [remS h2.1 (by decide) (by omega),Option.bind_some,ckS (by omega) (by omega),Option.bind_some]
    refine ⟨_,rfl,⟨q1,?_,?_,?_,?_,i9,fun _=>rfl,fun c=>absurd q4 c⟩,?_,?_,?_⟩ <;> simp only <;> omega
  rcases hs with e | e | e
  · have hi:(if iso = true then some (sp % 3 != 0) else some false) = some false:=by rw [e];cases iso <;> rfl
    rw [hi,Option.bind_some,if_neg (by decide),Option.bind_some]
    simp only
    rw [if_neg (show ¬ (sp % 3 == 1) = true by rw [e];decide),Option.bind_some,if_neg (show ¬ (sp % 3 == 2) = true by rw [e];decide)]
    exact fin 3 8 (.inl rfl) (by decide) (by rw [e];decide) (by omega)
  · cases iso
    · rw [show (if false = true then some (sp % 3 != 0) else some false) = some false from rfl,Option.bind_some,if_neg (by decide),Option.bind_some]
      simp only
      rw [if_pos (show (sp % 3 == 1) = true by rw [e];rfl),if_neg (show ¬ ((3:Int) == 1) = true by decide),Option.bind_some,Option.bind_some,if_neg (show ¬ (sp % 3 == 2) = true by rw [e];decide)]
      exact fin 3 64 (.inl rfl) (by decide) (by rw [e];decide) (by omega)
    · rw [show (if true = true then some (sp % 3 != 0) else some false) = some true by rw [e];rfl,Option.bind_some,if_pos rfl,Option.bind_some]
      simp only
      rw [if_pos (show (sp % 3 == 1) = true by rw [e];rfl),if_pos (show ((1:Int) == 1) = true from rfl),Option.bind_some,Option.bind_some,if_neg (show ¬ (sp % 3 == 2) = true by rw [e];decide)]
      exact fin 1 1023 (.inr rfl) (by decide) (by rw [e];decide) (by omega)
  · cases iso
    · rw [show (if false = true then some (sp % 3 != 0) else some false) = some false from rfl,Option.bind_some,if_neg (by decide),Option.bind_some]
      simp only
      rw [if_neg (show ¬ (sp % 3 == 1) = true by rw [e];decide),Option.bind_some,if_pos (show (sp % 3 == 2) = true by rw [e];rfl)]
      exact fin2 3 (.inl rfl) e
    · rw [show (if true = true then some (sp % 3 != 0) else some false) = some true by rw [e];rfl,Option.bind_some,if_pos rfl,Option.bind_some]
      simp only
      rw [if_neg (show ¬ (sp % 3 == 1) = true by rw [e];decide),Option.bind_some,if_pos (show (sp % 3 == 2) = true by rw [e];rfl)]
      exact fin2 1 (.inr rfl) e

/-! ### Plans of admitted needs -/
/-- A plan without an error, whose ids lie below b. -/
structure GP (p:Sl Slt) (b:Int):Prop where
  chk:chk p.xs = 0
  sp:∀ s ∈ p.xs,0 ≤ s.2.1.1
  id:∀ s ∈ p.xs,0 ≤ s.1 ∧ s.1 < b
  cap:p.cap = some p.xs.length
theorem GP.nil (b:Int):GP ⟨[],some 0⟩ b:=⟨by decide,fun _ h=>(List.not_mem_nil h).elim,fun _ h=>(List.not_mem_nil h).elim,rfl⟩
theorem GP.allV {p:Sl Slt} {b:Int} (h:GP p b):AllV p.xs:=fun s hs=>⟨h.sp s hs,(chk_zero h.chk).2.1 s hs⟩
theorem GP.no {p:Sl Slt} {b:Int} (h:GP p b) {i:Int} (hi:b ≤ i):hasId p.xs i = false:=by
  cases hc:hasId p.xs i with
  | false=>rfl
  | true =>
    obtain ⟨s,hs,e⟩:=List.mem_map.1 (hasId_iff.1 hc)
    have:=(h.id s hs).2
    omega
theorem GP.len {p:Sl Slt} {b:Nat} (h:GP p b):p.xs.length ≤ b:=by
  have hn:=(chk_zero h.chk).2.2.1
  have h1:(p.xs.map fun s=>s.1.toNat).Nodup:=by
    refine List.Pairwise.map _ (fun a c hac=>?_) (List.pairwise_map.1 hn |>.imp_of_mem (S:=fun a c=>a.1 ≠ c.1 ∧ 0 ≤ a.1 ∧ 0 ≤ c.1) fun {a c} ha hc hne=>⟨hne,(h.id a ha).1,(h.id c hc).1⟩)
    omega
  have:=nodup_len b h1 fun k hk=>by
    obtain ⟨s,hs,rfl⟩:=List.mem_map.1 hk
    have:=h.id s hs
    omega
  simpa using this
/-- Add to such a plan. -/
theorem GP.add {p:Sl Slt} {b c:Int} (h:GP p b) {id:Int} {x:Nd} (h0:0 ≤ x.1) (hv:VN x) (hid:0 ≤ id) (hic:id < c) (hbc:b ≤ c) (hl:p.xs.length < 256) :
    (hasId p.xs id = true ∧ addR p.xs id x = (nilS,8)) ∨ (hasId p.xs id = false ∧ fstPh p.xs x 0 = none ∧ addR p.xs id x = (nilS,14)) ∨
    ∃ q,hasId p.xs id = false ∧ fstPh p.xs x 0 = some q ∧ addR p.xs id x = (⟨p.xs ++ [(id,x,(q:Int))],some (p.xs.length + 1)⟩,0) ∧ GP ⟨p.xs ++ [(id,x,(q:Int))],some (p.xs.length + 1)⟩ c:=by
  unfold addR
  rw [if_neg (fun k=>k h.chk),if_neg (by rintro (k | k);omega;exact k hv)]
  cases hi:hasId p.xs id with
  | true=>exact .inl ⟨rfl,by rw [if_pos rfl]⟩
  | false =>
    rw [if_neg (by decide),if_neg (by omega)]
    cases hf:fstPh p.xs x 0 with
    | none=>exact .inr (.inl ⟨rfl,rfl,rfl⟩)
    | some q =>
      refine .inr (.inr ⟨q,rfl,rfl,rfl,chk_add h.sp h.chk h0 hid hv hi (by omega) hf,fun s hs=>?_,fun s hs=>?_,by simp⟩)
      · rcases List.mem_append.1 hs with hs | hs
        · exact h.sp s hs
        · rw [List.mem_singleton.1 hs];exact h0
      · rcases List.mem_append.1 hs with hs | hs
        · have:=h.id s hs;omega
        · rw [List.mem_singleton.1 hs];exact ⟨hid,hic⟩
def GoodL (x:Int × Bool × Bool × Int × Int × Int):Prop:=(0 ≤ x.1 ∧ x.1 ≤ 255) ∧ (0 ≤ x.2.2.2.1 ∧ x.2.2.2.1 ≤ 65535) ∧ (0 ≤ x.2.2.2.2.1 ∧ x.2.2.2.2.1 ≤ 255) ∧ (0 ≤ x.2.2.2.2.2 ∧ x.2.2.2.2.2 ≤ 255)
theorem p9_l1_eq {n:Nat} (hn:1100 ≤ n) (x:Sl (Int × Bool × Bool × Int × Int × Int)) (hx:∀ y ∈ x.xs,GoodL y):∀ (m k:Nat) (c:Int) (p:Sl Slt),20 - k < m → k ≤ 20 → 0 ≤ c → c ≤ (k:Int) → GP p k →
    ∃ c' p',p9_l1 n x m k c p = some (c',p') ∧ GP p' 20:=by
  intro m
  induction m with
  | zero=>intro k c p h;exact absurd h (by omega)
  | succ m ih =>
    intro k c p hm hk hc0 hc hp
    have hl:=hp.len
    unfold p9_l1
    rw [len_def,andS,Option.bind_some]
    by_cases hq:k < x.xs.length ∧ k < 20
    · have hb:(decide ((k:Int) < (x.xs.length:Int)) && decide ((k:Int) < 20)) = true:=by rw [Bool.and_eq_true,decide_eq_true_eq,decide_eq_true_eq];omega
      obtain ⟨g1,g2,g3,g4⟩:=hx x.xs[k] (List.getElem_mem hq.1)
      obtain ⟨y,hy,hv,h0,_,_⟩:=p10_ok n x.xs[k] g1 g2 g3 g4
      rw [hb,if_pos rfl,idxE hq.1,Option.bind_some,hy,Option.bind_some,p11_eq hn p hp.sp (by omega) k y h0,Option.bind_some]
      rcases hp.add (c:=((k + 1:Nat):Int)) (id:=(k:Int)) h0 hv (by omega) (by omega) (by omega) (by omega) with ⟨h1,h2⟩ | ⟨h1,h2,h3⟩ | ⟨q,h1,h2,h3,h4⟩
      · rw [hp.no (Int.le_refl _)] at h1;cases h1
      · rw [h3,if_neg (by decide),ckS (by omega) (by omega),Option.bind_some,Option.bind_some,ckS (by omega) (by omega),Option.bind_some,castS]
        exact ih (k + 1) _ _ (by omega) (by omega) (by omega) (by omega) ⟨hp.chk,hp.sp,fun s hs=>by have:=hp.id s hs;omega,hp.cap⟩
      · rw [h3,if_pos (show ((0:Int) == 0) = true from rfl),Option.bind_some,ckS (by omega) (by omega),Option.bind_some,castS]
        exact ih (k + 1) _ _ (by omega) (by omega) (by omega) (by omega) h4
    · have hb:(decide ((k:Int) < (x.xs.length:Int)) && decide ((k:Int) < 20)) = false:=by rw [Bool.and_eq_false_iff,decide_eq_false_iff_not,decide_eq_false_iff_not];omega
      rw [hb,if_neg (by decide)]
      exact ⟨c,p,rfl,hp.chk,hp.sp,fun s hs=>by have:=hp.id s hs;omega,hp.cap⟩
theorem p9_ok {n:Nat} (hn:1100 ≤ n) (x:Sl (Int × Bool × Bool × Int × Int × Int)) (hx:∀ y ∈ x.xs,GoodL y):∃ c p,p9 n x = some (p,c) ∧ GP p 20:=by
  unfold p9
  obtain ⟨c,p,h1,h2⟩:=p9_l1_eq hn x hx n 0 0 ⟨[],some 0⟩ (by omega) (by omega) (by omega) (by omega) (GP.nil _)
  rw [show ((0:Nat):Int) = 0 from rfl] at h1
  exact ⟨c,p,by rw [h1,Option.bind_some],h2⟩
end

def okG (l:List Slt) (h:Int) (i:Nat):Prop:=((i:Int) < 256 → TL l (i:Int) ≤ 48000) ∧ (256 ≤ (i:Int) → FL l h ((i:Int) - 256) ≤ 10800)
instance (l:List Slt) (h:Int) (i:Nat):Decidable (okG l h i):=by unfold okG;infer_instance
def RoomA (l zs:List Slt):Prop:=∀ s ∈ zs,RoomT l ∧ RoomF l s.2.1.2.2.2.2.2
instance decRoomA (l zs:List Slt):Decidable (RoomA l zs):=by unfold RoomA;infer_instance
def okGs (l:List Slt) (h:Int) (k:Nat):Prop:=∀ i:Nat,i < 288 → k ≤ i → okG l h i
instance (l:List Slt) (h:Int) (k:Nat):Decidable (okGs l h k):=by unfold okGs;infer_instance
end Go.Proofs.Ytaekmgpcdgmlgaa
