/- Events: paths compared, nodes found, in plain words. Plain theorems, no condition. -/
import Derived.Test.YtmcpcdmonglkjaaP3
import Derived.Test.YtmcpcdmonglkjaaXP2
set_option linter.unusedVariables false
set_option linter.unusedSimpArgs false
namespace Go.Proofs.Ytmcpcdmonglkjaa
open Go.RowKit

abbrev Nd:Type:=Sl Int × Int × Int
abbrev N:Type:=List Int × Int × Int
def nd (y:Nd):N:=(y.1.xs,y.2.1,y.2.2)
theorem lrl {α β γ:Type} (a:α) (g:β → Option γ) (f:α → Option γ):lrK (.inl a) g f = f a:=rfl
theorem lrr {α β γ:Type} (a:β) (g:β → Option γ) (f:α → Option γ):lrK (.inr a) g f = g a:=rfl
theorem ixN {α:Type} {xs:List α} {i:Nat} (h:i < xs.length):idx xs (i:Int) = some xs[i]:=by rw [idx_nat,List.getElem?_eq_getElem h]
theorem succI (k:Nat):((k:Int) + 1) = ((k + 1:Nat):Int):=by omega
theorem lenSl {α:Type} (xs:List α) (c:Option Nat):lenI (⟨xs,c⟩:Sl α) = (xs.length:Int):=rfl

/-! ### slices.Equal -/
theorem p61_l1_eq (n:Nat) (x y:Sl Int) (hl:x.xs.length = y.xs.length) (hL:x.xs.length ≤ 1000000):∀ (m k:Nat),x.xs.length < k + m → k ≤ x.xs.length →
    p61_l1 n x y m k = some (if x.xs.drop k = y.xs.drop k then .inl () else .inr false):=by
  intro m
  induction m with
  | zero=>intro k h hk;omega
  | succ m IH =>
    intro k h hk
    rw [p61_l1]
    by_cases hlt:k < x.xs.length
    · have hy:k < y.xs.length:=by omega
      rw [if_pos (decide_eq_true (show (k:Int) < lenI x by unfold lenI;omega)),ixN hlt,Option.bind_some,ixN hy,Option.bind_some,List.drop_eq_getElem_cons hlt,List.drop_eq_getElem_cons hy]
      by_cases he:x.xs[k] = y.xs[k]
      · rw [if_neg (by simp [he]),ckS (by omega) (by omega),Option.bind_some,succI,IH (k + 1) (by omega) (by omega)]
        by_cases hd:x.xs.drop (k + 1) = y.xs.drop (k + 1)
        · rw [if_pos hd,if_pos (by rw [he,hd])]
        · rw [if_neg hd,if_neg (fun e=>hd (List.cons.inj e).2)]
      · rw [if_pos (by simpa using he),if_neg (fun e=>he (List.cons.inj e).1)]
    · rw [if_neg (by rw [decide_eq_true_eq];unfold lenI;omega),List.drop_eq_nil_of_le (by omega),List.drop_eq_nil_of_le (by omega),if_pos rfl]
theorem p61_eq (n:Nat) (x y:Sl Int) (hn:x.xs.length < n) (hL:x.xs.length ≤ 1000000):p61 n x y = some (decide (x.xs = y.xs)):=by
  unfold p61
  by_cases hl:x.xs.length = y.xs.length
  · have e:=p61_l1_eq n x y hl hL n 0 (by omega) (by omega)
    rw [if_neg (by simp [lenI,hl]),show (0:Int) = ((0:Nat):Int) from rfl,e,Option.bind_some]
    simp only [List.drop_zero]
    by_cases he:x.xs = y.xs
    · rw [if_pos he,lrl,decide_eq_true he]
    · rw [if_neg he,lrr,decide_eq_false he]
  · rw [if_pos (by simp [lenI];omega),decide_eq_false (fun e=>hl (by rw [e]))]

/-! ### slices.Compare, and the definition's order -/
def cmpL:List Int → List Int → Int
  | [],[]=>0
  | [],_ :: _=>-1
  | _ :: _,[]=>1
  | a :: x,b :: y=>if a < b then -1 else if a > b then 1 else cmpL x y
def bef:List Int → List Int → Bool
  | [],[]=>false
  | [],_ :: _=>true
  | _ :: _,[]=>false
  | a :: x,b :: y=>if a = b then bef x y else decide (a < b)
theorem bef_cmp:∀ x y:List Int,bef x y = decide (cmpL x y < 0)
  | [],[]=>rfl
  | [],_ :: _=>rfl
  | _ :: _,[]=>rfl
  | a :: x,b :: y=>by
    unfold bef cmpL
    by_cases h1:a < b
    · rw [if_neg (by omega),if_pos h1,decide_eq_true h1];rfl
    · by_cases h2:a > b
      · rw [if_neg (by omega),if_neg h1,if_pos h2,decide_eq_false h1];rfl
      · rw [if_pos (by omega),if_neg h1,if_neg h2];exact bef_cmp x y
theorem bef_irr:∀ x:List Int,bef x x = false
  | []=>rfl
  | a :: x=>by unfold bef;rw [if_pos rfl];exact bef_irr x
theorem bef_eq:∀ x y:List Int,bef x y = false → bef y x = false → x = y
  | [],[],_,_=>rfl
  | [],_ :: _,h,_=>by cases h
  | _ :: _,[],_,h=>by cases h
  | a :: x,b :: y,h,k=>by
    unfold bef at h k
    by_cases e:a = b
    · subst e
      rw [if_pos rfl] at h k
      rw [bef_eq x y h k]
    · rw [if_neg e] at h
      rw [if_neg (Ne.symm e)] at k
      simp at h k
      omega
theorem bef_trans:∀ x y z:List Int,bef x y = true → bef y z = true → bef x z = true
  | [],[],_,h,_=>by cases h
  | [],_ :: _,[],_,h=>by cases h
  | [],_ :: _,_ :: _,_,_=>rfl
  | _ :: _,[],_,h,_=>by cases h
  | _ :: _,_ :: _,[],_,h=>by cases h
  | a :: x,b :: y,c :: z,h,k=>by
    unfold bef at h k ⊢
    by_cases e1:a = b
    · rw [if_pos e1] at h
      by_cases e2:b = c
      · rw [if_pos e2] at k
        rw [if_pos (e1.trans e2)]
        exact bef_trans x y z h k
      · rw [if_neg e2] at k
        rw [if_neg (fun e=>e2 (e1 ▸ e)),e1]
        exact k
    · rw [if_neg e1] at h
      by_cases e2:b = c
      · rw [if_neg (fun e=>e1 (e.trans e2.symm)),← e2]
        exact h
      · rw [if_neg e2] at k
        simp at h k
        rw [if_neg (by omega)]
        simp
        omega
theorem bef_asymm (x y:List Int) (h:bef x y = true):bef y x = false:=by
  cases hq:bef y x with
  | false=>rfl
  | true=>have:=bef_trans x y x h hq;rw [bef_irr] at this;cases this
theorem bef_dropLast:∀ p:List Int,p ≠ [] → bef p.dropLast p = true
  | [],h=>absurd rfl h
  | [a],_=>rfl
  | a :: b :: p,_=>by
    rw [List.dropLast_cons_cons]
    unfold bef
    rw [if_pos rfl]
    exact bef_dropLast (b :: p) (by simp)
theorem p67_eq (n:Nat) (a b:Int):p67 n a b = some (if a < b then -1 else if a > b then 1 else 0):=by
  unfold p67 p69
  have h:∀ z:Int,(z != z) = false:=fun z=>by simp
  rw [Option.bind_some,Option.bind_some,h,h,if_neg (by decide),if_neg (by decide)]
  by_cases h1:a < b
  · rw [if_pos (decide_eq_true h1),if_pos h1]
  · by_cases h2:a > b
    · rw [if_neg (by rw [decide_eq_true_eq];exact h1),if_pos (decide_eq_true h2),if_neg h1,if_pos h2]
    · rw [if_neg (by rw [decide_eq_true_eq];exact h1),if_neg (by rw [decide_eq_true_eq];exact h2),if_neg h1,if_neg h2]
theorem p58_l1_eq (n:Nat) (x y:Sl Int) (hL:x.xs.length ≤ 1000000):∀ (m k:Nat),x.xs.length < k + m → k ≤ x.xs.length → k ≤ y.xs.length →
    (p58_l1 n x y m k = some (.inl ()) ∧ cmpL (x.xs.drop k) (y.xs.drop k) = if x.xs.length < y.xs.length then -1 else 0) ∨ p58_l1 n x y m k = some (.inr (cmpL (x.xs.drop k) (y.xs.drop k))):=by
  intro m
  induction m with
  | zero=>intro k h hk _;omega
  | succ m IH =>
    intro k h hk hky
    rw [p58_l1]
    by_cases hlt:k < x.xs.length
    · rw [if_pos (decide_eq_true (show (k:Int) < lenI x by unfold lenI;omega)),ixN hlt,Option.bind_some,List.drop_eq_getElem_cons hlt]
      by_cases hy:k < y.xs.length
      · rw [if_neg (by rw [decide_eq_true_eq];unfold lenI;omega),ixN hy,Option.bind_some,p67_eq,Option.bind_some,List.drop_eq_getElem_cons hy]
        unfold cmpL
        by_cases h1:x.xs[k] < y.xs[k]
        · rw [if_pos h1,if_pos (by decide),if_pos h1];exact .inr rfl
        · rw [if_neg h1,if_neg h1]
          by_cases h2:x.xs[k] > y.xs[k]
          · rw [if_pos h2,if_pos (by decide),if_pos h2];exact .inr rfl
          · rw [if_neg h2,if_neg (by decide),if_neg h2,ckS (by omega) (by omega),Option.bind_some,succI]
            exact IH (k + 1) (by omega) (by omega) (by omega)
      · rw [if_pos (decide_eq_true (show (k:Int) ≥ lenI y by unfold lenI;omega)),List.drop_eq_nil_of_le (by omega:y.xs.length ≤ k)]
        exact .inr rfl
    · rw [if_neg (by rw [decide_eq_true_eq];unfold lenI;omega),List.drop_eq_nil_of_le (by omega)]
      refine .inl ⟨rfl,?_⟩
      by_cases hy:k < y.xs.length
      · rw [List.drop_eq_getElem_cons hy,if_pos (by omega)];rfl
      · rw [List.drop_eq_nil_of_le (by omega),if_neg (by omega)];rfl
theorem p35_eq (n:Nat) (x y:Sl Int) (hn:x.xs.length < n) (hL:x.xs.length ≤ 1000000):p35 n x y = some (cmpL x.xs y.xs):=by
  unfold p35 p58
  rcases p58_l1_eq n x y hL n 0 (by omega) (by omega) (by omega) with ⟨h1,h2⟩ | h1
  · rw [show (0:Int) = ((0:Nat):Int) from rfl,h1,Option.bind_some,lrl]
    simp only [List.drop_zero] at h2
    rw [h2,lenI,lenI]
    by_cases hlt:x.xs.length < y.xs.length
    · rw [if_pos (decide_eq_true (by omega)),if_pos hlt];rfl
    · rw [if_neg (by rw [decide_eq_true_eq];omega),if_neg hlt];rfl
  · rw [show (0:Int) = ((0:Nat):Int) from rfl,h1,Option.bind_some,lrr]
    rfl
theorem p28_l1_eq (n:Nat) (x y:Sl Int) (hL:x.xs.length ≤ 1000000):∀ (m k:Nat),x.xs.length < k + m → k ≤ x.xs.length → k ≤ y.xs.length →
    (p28_l1 n x y m k = some (.inl ()) ∧ bef (x.xs.drop k) (y.xs.drop k) = decide (x.xs.length < y.xs.length)) ∨ p28_l1 n x y m k = some (.inr (bef (x.xs.drop k) (y.xs.drop k))):=by
  intro m
  induction m with
  | zero=>intro k h hk _;omega
  | succ m IH =>
    intro k h hk hky
    rw [p28_l1]
    by_cases hlt:k < x.xs.length
    · rw [if_pos (decide_eq_true (show (k:Int) < lenI x by unfold lenI;omega)),Option.bind_some]
      by_cases hy:k < y.xs.length
      · rw [if_pos (decide_eq_true (show (k:Int) < lenI y by unfold lenI;omega)),ixN hlt,Option.bind_some,ixN hy,Option.bind_some,List.drop_eq_getElem_cons hlt,List.drop_eq_getElem_cons hy]
        unfold bef
        by_cases he:x.xs[k] = y.xs[k]
        · rw [if_neg (by simp [he]),if_pos he,ckS (by omega) (by omega),Option.bind_some,succI]
          exact IH (k + 1) (by omega) (by omega) (by omega)
        · rw [if_pos (by simpa using he),if_neg he,Option.bind_some,Option.bind_some]
          exact .inr rfl
      · rw [if_neg (by rw [decide_eq_true_eq];unfold lenI;omega),List.drop_eq_getElem_cons hlt,List.drop_eq_nil_of_le (by omega:y.xs.length ≤ k),decide_eq_false (by omega)]
        exact .inl ⟨rfl,rfl⟩
    · rw [if_neg (by rw [decide_eq_true_eq];unfold lenI;omega),Option.bind_some,if_neg (by decide),List.drop_eq_nil_of_le (by omega)]
      refine .inl ⟨rfl,?_⟩
      by_cases hy:k < y.xs.length
      · rw [List.drop_eq_getElem_cons hy,decide_eq_true (by omega)];rfl
      · rw [List.drop_eq_nil_of_le (by omega),decide_eq_false (by omega)];rfl
theorem p28_eq (n:Nat) (x y:Sl Int) (hn:x.xs.length < n) (hL:x.xs.length ≤ 1000000):p28 n x y = some (bef x.xs y.xs):=by
  unfold p28
  rcases p28_l1_eq n x y hL n 0 (by omega) (by omega) (by omega) with ⟨h1,h2⟩ | h1
  · rw [show (0:Int) = ((0:Nat):Int) from rfl,h1,Option.bind_some,lrl]
    simp only [List.drop_zero] at h2
    rw [h2,lenI,lenI]
    congr 1
    by_cases hlt:x.xs.length < y.xs.length
    · rw [decide_eq_true hlt,decide_eq_true (by omega)]
    · rw [decide_eq_false hlt,decide_eq_false (by omega)]
  · rw [show (0:Int) = ((0:Nat):Int) from rfl,h1,Option.bind_some,lrr]
    rfl
theorem p17_eq (n:Nat) (x y:Sl Int) (hn:x.xs.length < n) (hm:y.xs.length < n) (hL:x.xs.length ≤ 1000000) (hM:y.xs.length ≤ 1000000):p17 n x y = some (decide (x.xs = y.xs)):=by
  unfold p17
  rw [p28_eq n x y hn hL,Option.bind_some,p28_eq n y x hm hM,Option.bind_some,andS,Option.bind_some]
  congr 1
  by_cases he:x.xs = y.xs
  · rw [he,bef_irr,decide_eq_true rfl];rfl
  · rw [decide_eq_false he]
    cases h1:bef x.xs y.xs with
    | true=>rfl
    | false =>
      cases h2:bef y.xs x.xs with
      | true=>rfl
      | false=>exact absurd (bef_eq _ _ h1 h2) he
end Go.Proofs.Ytmcpcdmonglkjaa
