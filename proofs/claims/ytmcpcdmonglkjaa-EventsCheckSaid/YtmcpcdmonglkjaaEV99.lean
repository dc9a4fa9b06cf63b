/- Plain theorems for the laws: what the plain functions say. No condition. -/
import Derived.Test.YtmcpcdmonglkjaaP3
import Derived.Test.YtmcpcdmonglkjaaLB1
import Derived.Test.YtmcpcdmonglkjaaLB2
import Derived.Test.YtmcpcdmonglkjaaP4
import Derived.Test.YtmcpcdmonglkjaaP5
import Derived.Test.YtmcpcdmonglkjaaP6
set_option linter.unusedVariables false
set_option linter.unusedSimpArgs false
namespace Go.Proofs.Ytmcpcdmonglkjaa
open Go.RowKit
abbrev Nd:Type:=Sl Int × Int × Int
abbrev N:Type:=List Int × Int × Int
def nd (y:Nd):N:=(y.1.xs,y.2.1,y.2.2)
theorem lrl {α β γ:Type} (a:α) (g:β → Option γ) (f:α → Option γ):lrK (.inl a) g f = f a:=rfl
theorem lrr {α β γ:Type} (a:β) (g:β → Option γ) (f:α → Option γ):lrK (.inr a) g f = g a:=rfl
theorem ixN {α:Type} {xs:List α} {i:Nat} (h:i < xs.length):idx xs (i:Int) = some xs[i]:=by rw [d_a,List.getElem?_eq_getElem h]
theorem b_o (k:Nat):((k:Int) + 1) = ((k + 1:Nat):Int):=by omega
theorem p61_l1_eq (n:Nat) (x y:Sl Int) (hl:x.xs.length = y.xs.length) (hL:x.xs.length ≤ 9223372036854775807):∀ (m k:Nat),x.xs.length < k + m → k ≤ x.xs.length →
    p61_l1 n x y m k = some (if x.xs.drop k = y.xs.drop k then .inl () else .inr false):=by
  intro m
  induction m with
  | zero=>intro k h hk;omega
  | succ m IH =>
    intro k h hk
    rw [p61_l1]
    by_cases hlt:k < x.xs.length
    · have hy:k < y.xs.length:=by omega
      rw [if_pos (decide_eq_true (show (k:Int) < a_e x by unfold a_e;omega)),ixN hlt,Option.bind_some,ixN hy,Option.bind_some,List.drop_eq_getElem_cons hlt,List.drop_eq_getElem_cons hy]
      by_cases he:x.xs[k] = y.xs[k]
      · rw [if_neg (by simp [he]),ckS (by omega) (by omega),Option.bind_some,b_o,IH (k + 1) (by omega) (by omega)]
        by_cases hd:x.xs.drop (k + 1) = y.xs.drop (k + 1)
        · rw [if_pos hd,if_pos (by rw [he,hd])]
        · rw [if_neg hd,if_neg (fun e=>hd (List.cons.inj e).2)]
      · rw [if_pos (by simpa using he),if_neg (fun e=>he (List.cons.inj e).1)]
    · rw [if_neg (by rw [decide_eq_true_eq];unfold a_e;omega),List.drop_eq_nil_of_le (by omega),List.drop_eq_nil_of_le (by omega),if_pos rfl]
theorem p61_eq (n:Nat) (x y:Sl Int) (hn:x.xs.length < n) (hL:x.xs.length ≤ 9223372036854775807):p61 n x y = some (decide (x.xs = y.xs)):=by
  unfold p61
  by_cases hl:x.xs.length = y.xs.length
  · have e:=p61_l1_eq n x y hl hL n 0 (by omega) (by omega)
    rw [if_neg (by simp [a_e,hl]),show (0:Int) = ((0:Nat):Int) from rfl,e,Option.bind_some]
    simp only [List.drop_zero]
    by_cases he:x.xs = y.xs
    · rw [if_pos he,lrl,decide_eq_true he]
    · rw [if_neg he,lrr,decide_eq_false he]
  · rw [if_pos (by simp [a_e];omega),decide_eq_false (fun e=>hl (by rw [e]))]
def cmpL:List Int → List Int → Int
  | [],[]=>0
  | [],_ :: _=>-1
  | _ :: _,[]=>1
  | a :: x,b :: y=>if a < b then -1 else if a > b then 1 else cmpL x y
def bef:List Int → List Int → Bool
  | [],[]=>false
  | [],_ :: _=>true
  | _ :: _,[]=>false
  | a :: x,b :: y=>if a = b then bef x y else decide (a < b)
theorem d_o:∀ x y:List Int,bef x y = decide (cmpL x y < 0)
  | [],[]=>rfl
  | [],_ :: _=>rfl
  | _ :: _,[]=>rfl
  | a :: x,b :: y=>by
    unfold bef cmpL
    by_cases h1:a < b
    · rw [if_neg (by omega),if_pos h1,decide_eq_true h1];rfl
    · by_cases h2:a > b
      · rw [if_neg (by omega),if_neg h1,if_pos h2,decide_eq_false h1];rfl
      · rw [if_pos (by omega),if_neg h1,if_neg h2];exact d_o x y
theorem b_8:∀ x:List Int,bef x x = false
  | []=>rfl
  | a :: x=>by unfold bef;rw [if_pos rfl];exact b_8 x
theorem bef_eq:∀ x y:List Int,bef x y = false → bef y x = false → x = y
  | [],[],_,_=>rfl
  | [],_ :: _,h,_=>by cases h
  | _ :: _,[],_,h=>by cases h
  | a :: x,b :: y,h,k=>by
    unfold bef at h k
    by_cases e:a = b
    · subst e
      rw [if_pos rfl] at h k
      rw [bef_eq x y h k]
    · rw [if_neg e] at h
      rw [if_neg (Ne.symm e)] at k
      simp at h k
      omega
theorem b_W:∀ x y z:List Int,bef x y = true → bef y z = true → bef x z = true
  | [],[],_,h,_=>by cases h
  | [],_ :: _,[],_,h=>by cases h
  | [],_ :: _,_ :: _,_,_=>rfl
  | _ :: _,[],_,h,_=>by cases h
  | _ :: _,_ :: _,[],_,h=>by cases h
  | a :: x,b :: y,c :: z,h,k=>by
    unfold bef at h k ⊢
    by_cases e1:a = b
    · rw [if_pos e1] at h
      by_cases e2:b = c
      · rw [if_pos e2] at k
        rw [if_pos (e1.trans e2)]
        exact b_W x y z h k
      · rw [if_neg e2] at k
        rw [if_neg (fun e=>e2 (e1 ▸ e)),e1]
        exact k
    · rw [if_neg e1] at h
      by_cases e2:b = c
      · rw [if_neg (fun e=>e1 (e.trans e2.symm)),← e2]
        exact h
      · rw [if_neg e2] at k
        simp at h k
        rw [if_neg (by omega)]
        simp
        omega
theorem d_F (x y:List Int) (h:bef x y = true):bef y x = false:=by
  cases hq:bef y x with
  | false=>rfl
  | true=>have:=b_W x y x h hq;rw [b_8] at this;cases this
theorem b_X:∀ p:List Int,p ≠ [] → bef p.dropLast p = true
  | [],h=>absurd rfl h
  | [a],_=>rfl
  | a :: b :: p,_=>by
    rw [List.dropLast_cons_cons]
    unfold bef
    rw [if_pos rfl]
    exact b_X (b :: p) (by simp)
theorem p67_eq (n:Nat) (a b:Int):p67 n a b = some (if a < b then -1 else if a > b then 1 else 0):=by
  unfold p67 p69
  have h:∀ z:Int,(z != z) = false:=fun z=>by simp
  rw [Option.bind_some,Option.bind_some,h,h,if_neg (by decide),if_neg (by decide)]
  by_cases h1:a < b
  · rw [if_pos (decide_eq_true h1),if_pos h1]
  · by_cases h2:a > b
    · rw [if_neg (by rw [decide_eq_true_eq];exact h1),if_pos (decide_eq_true h2),if_neg h1,if_pos h2]
    · rw [if_neg (by rw [decide_eq_true_eq];exact h1),if_neg (by rw [decide_eq_true_eq];exact h2),if_neg h1,if_neg h2]
theorem p58_l1_eq (n:Nat) (x y:Sl Int) (hL:x.xs.length ≤ 9223372036854775807):∀ (m k:Nat),x.xs.length < k + m → k ≤ x.xs.length → k ≤ y.xs.length →
    (p58_l1 n x y m k = some (.inl ()) ∧ cmpL (x.xs.drop k) (y.xs.drop k) = if x.xs.length < y.xs.length then -1 else 0) ∨ p58_l1 n x y m k = some (.inr (cmpL (x.xs.drop k) (y.xs.drop k))):=by
  intro m
  induction m with
  | zero=>intro k h hk _;omega
  | succ m IH =>
    intro k h hk hky
    rw [p58_l1]
    by_cases hlt:k < x.xs.length
    · rw [if_pos (decide_eq_true (show (k:Int) < a_e x by unfold a_e;omega)),ixN hlt,Option.bind_some,List.drop_eq_getElem_cons hlt]
      by_cases hy:k < y.xs.length
      · rw [if_neg (by rw [decide_eq_true_eq];unfold a_e;omega),ixN hy,Option.bind_some,p67_eq,Option.bind_some,List.drop_eq_getElem_cons hy]
        unfold cmpL
        by_cases h1:x.xs[k] < y.xs[k]
        · rw [if_pos h1,if_pos (by decide),if_pos h1];exact .inr rfl
        · rw [if_neg h1,if_neg h1]
          by_cases h2:x.xs[k] > y.xs[k]
          · rw [if_pos h2,if_pos (by decide),if_pos h2];exact .inr rfl
          · rw [if_neg h2,if_neg (by decide),if_neg h2,ckS (by omega) (by omega),Option.bind_some,b_o]
            exact IH (k + 1) (by omega) (by omega) (by omega)
      · rw [if_pos (decide_eq_true (show (k:Int) ≥ a_e y by unfold a_e;omega)),List.drop_eq_nil_of_le (by omega:y.xs.length ≤ k)]
        exact .inr rfl
    · rw [if_neg (by rw [decide_eq_true_eq];unfold a_e;omega),List.drop_eq_nil_of_le (by omega)]
      refine .inl ⟨rfl,?_⟩
      by_cases hy:k < y.xs.length
      · rw [List.drop_eq_getElem_cons hy,if_pos (by omega)];rfl
      · rw [List.drop_eq_nil_of_le (by omega),if_neg (by omega)];rfl
theorem p35_eq (n:Nat) (x y:Sl Int) (hn:x.xs.length < n) (hL:x.xs.length ≤ 9223372036854775807):p35 n x y = some (cmpL x.xs y.xs):=by
  unfold p35 p58
  rcases p58_l1_eq n x y hL n 0 (by omega) (by omega) (by omega) with ⟨h1,h2⟩ | h1
  · rw [show (0:Int) = ((0:Nat):Int) from rfl,h1,Option.bind_some,lrl]
    simp only [List.drop_zero] at h2
    rw [h2,a_e,a_e]
    by_cases hlt:x.xs.length < y.xs.length
    · rw [if_pos (decide_eq_true (by omega)),if_pos hlt];rfl
    · rw [if_neg (by rw [decide_eq_true_eq];omega),if_neg hlt];rfl
  · rw [show (0:Int) = ((0:Nat):Int) from rfl,h1,Option.bind_some,lrr]
    rfl
theorem p28_l1_eq (n:Nat) (x y:Sl Int) (hL:x.xs.length ≤ 9223372036854775807):∀ (m k:Nat),x.xs.length < k + m → k ≤ x.xs.length → k ≤ y.xs.length →
    (p28_l1 n x y m k = some (.inl ()) ∧ bef (x.xs.drop k) (y.xs.drop k) = decide (x.xs.length < y.xs.length)) ∨ p28_l1 n x y m k = some (.inr (bef (x.xs.drop k) (y.xs.drop k))):=by
  intro m
  induction m with
  | zero=>intro k h hk _;omega
  | succ m IH =>
    intro k h hk hky
    rw [p28_l1]
    by_cases hlt:k < x.xs.length
    · rw [if_pos (decide_eq_true (show (k:Int) < a_e x by unfold a_e;omega)),Option.bind_some]
      by_cases hy:k < y.xs.length
      · rw [if_pos (decide_eq_true (show (k:Int) < a_e y by unfold a_e;omega)),ixN hlt,Option.bind_some,ixN hy,Option.bind_some,List.drop_eq_getElem_cons hlt,List.drop_eq_getElem_cons hy]
        unfold bef
        by_cases he:x.xs[k] = y.xs[k]
        · rw [if_neg (by simp [he]),if_pos he,ckS (by omega) (by omega),Option.bind_some,b_o]
          exact IH (k + 1) (by omega) (by omega) (by omega)
        · rw [if_pos (by simpa using he),if_neg he,Option.bind_some,Option.bind_some]
          exact .inr rfl
      · rw [if_neg (by rw [decide_eq_true_eq];unfold a_e;omega),List.drop_eq_getElem_cons hlt,List.drop_eq_nil_of_le (by omega:y.xs.length ≤ k),decide_eq_false (by omega)]
        exact .inl ⟨rfl,rfl⟩
    · rw [if_neg (by rw [decide_eq_true_eq];unfold a_e;omega),Option.bind_some,if_neg (by decide),List.drop_eq_nil_of_le (by omega)]
      refine .inl ⟨rfl,?_⟩
      by_cases hy:k < y.xs.length
      · rw [List.drop_eq_getElem_cons hy,decide_eq_true (by omega)];rfl
      · rw [List.drop_eq_nil_of_le (by omega),decide_eq_false (by omega)];rfl
theorem p28_eq (n:Nat) (x y:Sl Int) (hn:x.xs.length < n) (hL:x.xs.length ≤ 9223372036854775807):p28 n x y = some (bef x.xs y.xs):=by
  unfold p28
  rcases p28_l1_eq n x y hL n 0 (by omega) (by omega) (by omega) with ⟨h1,h2⟩ | h1
  · rw [show (0:Int) = ((0:Nat):Int) from rfl,h1,Option.bind_some,lrl]
    simp only [List.drop_zero] at h2
    rw [h2,a_e,a_e]
    congr 1
    by_cases hlt:x.xs.length < y.xs.length
    · rw [decide_eq_true hlt,decide_eq_true (by omega)]
    · rw [decide_eq_false hlt,decide_eq_false (by omega)]
  · rw [show (0:Int) = ((0:Nat):Int) from rfl,h1,Option.bind_some,lrr]
    rfl
theorem p17_eq (n:Nat) (x y:Sl Int) (hn:x.xs.length < n) (hm:y.xs.length < n) (hL:x.xs.length ≤ 9223372036854775807) (hM:y.xs.length ≤ 9223372036854775807):p17 n x y = some (decide (x.xs = y.xs)):=by
  unfold p17
  rw [p28_eq n x y hn hL,Option.bind_some,p28_eq n y x hm hM,Option.bind_some,andS,Option.bind_some]
  congr 1
  by_cases he:x.xs = y.xs
  · rw [he,b_8,decide_eq_true rfl];rfl
  · rw [decide_eq_false he]
    cases h1:bef x.xs y.xs with
    | true=>rfl
    | false =>
      cases h2:bef y.xs x.xs with
      | true=>rfl
      | false=>exact absurd (bef_eq _ _ h1 h2) he
def ixO (o:Option Nat):Int:=match o with | some k=>(k:Int) | none=>-1
def thr (p hub:List Int):Bool:=decide (hub.length < p.length) && decide (p.take hub.length = hub)
theorem a_9 {α:Type} {xs:List α} {c:Option Nat} {k:Nat} (h:k ≤ xs.length):∃ d,slI (⟨xs,c⟩:Sl α) 0 (k:Int) = some ⟨xs.take k,d⟩:=by
  unfold slI
  rw [if_pos ⟨by omega,by omega,by simpa using h⟩]
  exact ⟨_,by rw [Int.toNat_natCast];rfl⟩
theorem c_A {α:Type} {xs:List α} {c:Option Nat} {k:Nat} (h:k ≤ xs.length):∃ d,slI (⟨xs,c⟩:Sl α) (k:Int) (a_e (⟨xs,c⟩:Sl α)) = some ⟨xs.drop k,d⟩:=by
  unfold slI a_e
  rw [if_pos ⟨by omega,by simpa using h,by simp⟩]
  exact ⟨_,by rw [Int.toNat_natCast,Int.toNat_natCast,List.take_length]⟩
theorem p60_eq (n:Nat) (y:Nd) (p:Sl Int) (hn:y.1.xs.length < n) (hL:y.1.xs.length ≤ 9223372036854775807):p60 n y p = some (decide (y.1.xs = p.xs)):=by
  unfold p60
  rw [p61_eq n y.1 p hn hL,Option.bind_some]
theorem p49_eq (n:Nat) (x p:Sl Int) (hn:x.xs.length < n) (hL:x.xs.length ≤ 9223372036854775807):p49 n x p = some (thr x.xs p.xs):=by
  unfold p49 thr
  by_cases h:p.xs.length < x.xs.length
  · obtain ⟨d,hd⟩:=a_9 (xs:=x.xs) (c:=x.cap) (k:=p.xs.length) (by omega)
    have hd':slI x 0 (a_e p) = some ⟨x.xs.take p.xs.length,d⟩:=hd
    rw [if_pos (decide_eq_true (show a_e x > a_e p by unfold a_e;omega)),hd',Option.bind_some,p61_eq n _ p (by simp only [List.length_take];omega) (by simp only [List.length_take];omega),Option.bind_some,Option.bind_some,decide_eq_true h]
    rfl
  · rw [if_neg (by rw [decide_eq_true_eq];unfold a_e;omega),Option.bind_some,decide_eq_false h]
    rfl
theorem p65_eq (n:Nat) (y:Nd) (p:Sl Int) (hn:y.1.xs.length < n) (hL:y.1.xs.length ≤ 9223372036854775807):p65 n y p = some (thr y.1.xs p.xs):=by
  unfold p65
  rw [p49_eq n y.1 p hn hL,Option.bind_some]
theorem p27_eq (n:Nat) (x p:Sl Int) (hn:x.xs.length < n) (hm:p.xs.length < n) (hL:x.xs.length ≤ 9223372036854775807) (hM:p.xs.length ≤ 9223372036854775807):p27 n x p = some (thr x.xs p.xs):=by
  unfold p27 thr
  by_cases h:p.xs.length < x.xs.length
  · obtain ⟨d,hd⟩:=a_9 (xs:=x.xs) (c:=x.cap) (k:=p.xs.length) (by omega)
    have hd':slI x 0 (a_e p) = some ⟨x.xs.take p.xs.length,d⟩:=hd
    rw [if_pos (decide_eq_true (show a_e x > a_e p by unfold a_e;omega)),hd',Option.bind_some,p17_eq n _ p (by simp only [List.length_take];omega) hm (by simp only [List.length_take];omega) hM,Option.bind_some,Option.bind_some,decide_eq_true h]
    rfl
  · rw [if_neg (by rw [decide_eq_true_eq];unfold a_e;omega),Option.bind_some,decide_eq_false h]
    rfl
theorem p66_eq (n:Nat) (y:Nd) (e:Int × Int × (Sl Int) × Int):p66 n y e = some (y.2.2 == e.2.2.2):=rfl
theorem p59_60_l1_eq (n:Nat) (x0:Sl Nd) (p:Sl Int) (hL:x0.xs.length ≤ 9223372036854775807) (hB:∀ y ∈ x0.xs,y.1.xs.length < n ∧ y.1.xs.length ≤ 9223372036854775807):∀ (m k:Nat),x0.xs.length < k + m → k ≤ x0.xs.length →
    p59_60_l1 n x0 p m k = some (match (x0.xs.drop k).findIdx? (fun y=>decide (y.1.xs = p.xs)) with | some j=>.inr ((k + j:Nat):Int) | none=>.inl ()):=by
  intro m
  induction m with
  | zero=>intro k h hk;omega
  | succ m IH =>
    intro k h hk
    rw [p59_60_l1]
    by_cases hlt:k < x0.xs.length
    · rw [if_pos (decide_eq_true (show (k:Int) < a_e x0 by unfold a_e;omega)),ixN hlt,Option.bind_some,List.drop_eq_getElem_cons hlt,List.findIdx?_cons]
      have hs:=p60_eq n x0.xs[k] p (hB _ (List.getElem_mem hlt)).1 (hB _ (List.getElem_mem hlt)).2
      rw [hs,Option.bind_some]
      cases hq:(fun y:Nd=>decide (y.1.xs = p.xs)) x0.xs[k] with
      | true =>
        have hq':(decide ((x0.xs[k]).1.xs = p.xs)) = true:=hq
        rw [hq',if_pos rfl,if_pos (by simp)]
        rfl
      | false =>
        have hq':(decide ((x0.xs[k]).1.xs = p.xs)) = false:=hq
        rw [hq',if_neg (by decide),if_neg (by decide),ckS (by omega) (by omega),Option.bind_some,b_o,IH (k + 1) (by omega) (by omega)]
        cases (x0.xs.drop (k + 1)).findIdx? (fun y=>decide (y.1.xs = p.xs)) with
        | none=>rfl
        | some j=>simp only [Option.map_some];rw [show k + 1 + j = k + (j + 1) by omega]
    · rw [if_neg (by rw [decide_eq_true_eq];unfold a_e;omega),List.drop_eq_nil_of_le (by omega)]
      rfl
theorem p59_60_eq (n:Nat) (x0:Sl Nd) (p:Sl Int) (hn:x0.xs.length < n) (hL:x0.xs.length ≤ 9223372036854775807) (hB:∀ y ∈ x0.xs,y.1.xs.length < n ∧ y.1.xs.length ≤ 9223372036854775807):p59_60 n x0 p = some (ixO (x0.xs.findIdx? (fun y=>decide (y.1.xs = p.xs)))):=by
  unfold p59_60
  have hE_:=p59_60_l1_eq n x0 p hL hB n 0 (by omega) (by omega)
  rw [show (0:Int) = ((0:Nat):Int) from rfl,hE_,Option.bind_some]
  simp only [List.drop_zero]
  cases x0.xs.findIdx? (fun y=>decide (y.1.xs = p.xs)) with
  | none=>rfl
  | some j=>simp only [lrr,Nat.zero_add];rfl
theorem p26_l1_eq (n:Nat) (x0:Sl Nd) (p:Sl Int) (hL:x0.xs.length ≤ 9223372036854775807) (hB:(p.xs.length < n ∧ p.xs.length ≤ 9223372036854775807) ∧ ∀ y ∈ x0.xs,y.1.xs.length < n ∧ y.1.xs.length ≤ 9223372036854775807):∀ (m k:Nat),x0.xs.length < k + m → k ≤ x0.xs.length →
    p26_l1 n x0 p m k = some (match (x0.xs.drop k).findIdx? (fun y=>decide (y.1.xs = p.xs)) with | some j=>.inr ((k + j:Nat):Int) | none=>.inl ()):=by
  intro m
  induction m with
  | zero=>intro k h hk;omega
  | succ m IH =>
    intro k h hk
    rw [p26_l1]
    by_cases hlt:k < x0.xs.length
    · rw [if_pos (decide_eq_true (show (k:Int) < a_e x0 by unfold a_e;omega)),ixN hlt,Option.bind_some,List.drop_eq_getElem_cons hlt,List.findIdx?_cons]
      have hs:=p17_eq n x0.xs[k].1 p (hB.2 _ (List.getElem_mem hlt)).1 hB.1.1 (hB.2 _ (List.getElem_mem hlt)).2 hB.1.2
      rw [hs,Option.bind_some]
      cases hq:(fun y:Nd=>decide (y.1.xs = p.xs)) x0.xs[k] with
      | true =>
        have hq':(decide ((x0.xs[k]).1.xs = p.xs)) = true:=hq
        rw [hq',if_pos rfl,if_pos (by simp)]
        rfl
      | false =>
        have hq':(decide ((x0.xs[k]).1.xs = p.xs)) = false:=hq
        rw [hq',if_neg (by decide),if_neg (by decide),ckS (by omega) (by omega),Option.bind_some,b_o,IH (k + 1) (by omega) (by omega)]
        cases (x0.xs.drop (k + 1)).findIdx? (fun y=>decide (y.1.xs = p.xs)) with
        | none=>rfl
        | some j=>simp only [Option.map_some];rw [show k + 1 + j = k + (j + 1) by omega]
    · rw [if_neg (by rw [decide_eq_true_eq];unfold a_e;omega),List.drop_eq_nil_of_le (by omega)]
      rfl
theorem p26_eq (n:Nat) (x0:Sl Nd) (p:Sl Int) (hn:x0.xs.length < n) (hL:x0.xs.length ≤ 9223372036854775807) (hB:(p.xs.length < n ∧ p.xs.length ≤ 9223372036854775807) ∧ ∀ y ∈ x0.xs,y.1.xs.length < n ∧ y.1.xs.length ≤ 9223372036854775807):p26 n x0 p = some (ixO (x0.xs.findIdx? (fun y=>decide (y.1.xs = p.xs)))):=by
  unfold p26
  have hE_:=p26_l1_eq n x0 p hL hB n 0 (by omega) (by omega)
  rw [show (0:Int) = ((0:Nat):Int) from rfl,hE_,Option.bind_some]
  simp only [List.drop_zero]
  cases x0.xs.findIdx? (fun y=>decide (y.1.xs = p.xs)) with
  | none=>rfl
  | some j=>simp only [lrr,Nat.zero_add];rfl
theorem p59_65_l1_eq (n:Nat) (x0:Sl Nd) (p:Sl Int) (hL:x0.xs.length ≤ 9223372036854775807) (hB:∀ y ∈ x0.xs,y.1.xs.length < n ∧ y.1.xs.length ≤ 9223372036854775807):∀ (m k:Nat),x0.xs.length < k + m → k ≤ x0.xs.length →
    p59_65_l1 n x0 p m k = some (match (x0.xs.drop k).findIdx? (fun y=>thr y.1.xs p.xs) with | some j=>.inr ((k + j:Nat):Int) | none=>.inl ()):=by
  intro m
  induction m with
  | zero=>intro k h hk;omega
  | succ m IH =>
    intro k h hk
    rw [p59_65_l1]
    by_cases hlt:k < x0.xs.length
    · rw [if_pos (decide_eq_true (show (k:Int) < a_e x0 by unfold a_e;omega)),ixN hlt,Option.bind_some,List.drop_eq_getElem_cons hlt,List.findIdx?_cons]
      have hs:=p65_eq n x0.xs[k] p (hB _ (List.getElem_mem hlt)).1 (hB _ (List.getElem_mem hlt)).2
      rw [hs,Option.bind_some]
      cases hq:(fun y:Nd=>thr y.1.xs p.xs) x0.xs[k] with
      | true =>
        have hq':(thr (x0.xs[k]).1.xs p.xs) = true:=hq
        rw [hq',if_pos rfl,if_pos (by simp)]
        rfl
      | false =>
        have hq':(thr (x0.xs[k]).1.xs p.xs) = false:=hq
        rw [hq',if_neg (by decide),if_neg (by decide),ckS (by omega) (by omega),Option.bind_some,b_o,IH (k + 1) (by omega) (by omega)]
        cases (x0.xs.drop (k + 1)).findIdx? (fun y=>thr y.1.xs p.xs) with
        | none=>rfl
        | some j=>simp only [Option.map_some];rw [show k + 1 + j = k + (j + 1) by omega]
    · rw [if_neg (by rw [decide_eq_true_eq];unfold a_e;omega),List.drop_eq_nil_of_le (by omega)]
      rfl
theorem p59_65_eq (n:Nat) (x0:Sl Nd) (p:Sl Int) (hn:x0.xs.length < n) (hL:x0.xs.length ≤ 9223372036854775807) (hB:∀ y ∈ x0.xs,y.1.xs.length < n ∧ y.1.xs.length ≤ 9223372036854775807):p59_65 n x0 p = some (ixO (x0.xs.findIdx? (fun y=>thr y.1.xs p.xs))):=by
  unfold p59_65
  have hE_:=p59_65_l1_eq n x0 p hL hB n 0 (by omega) (by omega)
  rw [show (0:Int) = ((0:Nat):Int) from rfl,hE_,Option.bind_some]
  simp only [List.drop_zero]
  cases x0.xs.findIdx? (fun y=>thr y.1.xs p.xs) with
  | none=>rfl
  | some j=>simp only [lrr,Nat.zero_add];rfl
theorem p59_66_l1_eq (n:Nat) (x0:Sl Nd) (e:Int × Int × (Sl Int) × Int) (hL:x0.xs.length ≤ 9223372036854775807) :∀ (m k:Nat),x0.xs.length < k + m → k ≤ x0.xs.length →
    p59_66_l1 n x0 e m k = some (match (x0.xs.drop k).findIdx? (fun y=>y.2.2 == e.2.2.2) with | some j=>.inr ((k + j:Nat):Int) | none=>.inl ()):=by
  intro m
  induction m with
  | zero=>intro k h hk;omega
  | succ m IH =>
    intro k h hk
    rw [p59_66_l1]
    by_cases hlt:k < x0.xs.length
    · rw [if_pos (decide_eq_true (show (k:Int) < a_e x0 by unfold a_e;omega)),ixN hlt,Option.bind_some,List.drop_eq_getElem_cons hlt,List.findIdx?_cons]
      have hs:=p66_eq n x0.xs[k] e
      rw [hs,Option.bind_some]
      cases hq:(fun y:Nd=>y.2.2 == e.2.2.2) x0.xs[k] with
      | true =>
        have hq':((x0.xs[k]).2.2 == e.2.2.2) = true:=hq
        rw [hq',if_pos rfl,if_pos (by simp)]
        rfl
      | false =>
        have hq':((x0.xs[k]).2.2 == e.2.2.2) = false:=hq
        rw [hq',if_neg (by decide),if_neg (by decide),ckS (by omega) (by omega),Option.bind_some,b_o,IH (k + 1) (by omega) (by omega)]
        cases (x0.xs.drop (k + 1)).findIdx? (fun y=>y.2.2 == e.2.2.2) with
        | none=>rfl
        | some j=>simp only [Option.map_some];rw [show k + 1 + j = k + (j + 1) by omega]
    · rw [if_neg (by rw [decide_eq_true_eq];unfold a_e;omega),List.drop_eq_nil_of_le (by omega)]
      rfl
theorem p59_66_eq (n:Nat) (x0:Sl Nd) (e:Int × Int × (Sl Int) × Int) (hn:x0.xs.length < n) (hL:x0.xs.length ≤ 9223372036854775807) :p59_66 n x0 e = some (ixO (x0.xs.findIdx? (fun y=>y.2.2 == e.2.2.2))):=by
  unfold p59_66
  have hE_:=p59_66_l1_eq n x0 e hL  n 0 (by omega) (by omega)
  rw [show (0:Int) = ((0:Nat):Int) from rfl,hE_,Option.bind_some]
  simp only [List.drop_zero]
  cases x0.xs.findIdx? (fun y=>y.2.2 == e.2.2.2) with
  | none=>rfl
  | some j=>simp only [lrr,Nat.zero_add];rfl
theorem p38_eq (n:Nat) (x0:Sl Nd) (p:Sl Int) (hn:x0.xs.length < n) (hL:x0.xs.length ≤ 9223372036854775807) (hB:∀ y ∈ x0.xs,y.1.xs.length < n ∧ y.1.xs.length ≤ 9223372036854775807):p38 n x0 p = some (ixO (x0.xs.findIdx? (fun y=>decide (y.1.xs = p.xs)))):=by
  unfold p38
  rw [p59_60_eq n x0 p hn hL hB,Option.bind_some]
theorem d_Y (o:Option Nat):decide (ixO o ≥ 0) = o.isSome:=by
  cases o with
  | none=>rfl
  | some k=>exact decide_eq_true (show ((k:Nat):Int) ≥ 0 by omega)
theorem b_9 {α:Type} (l:List α) (q:α → Bool):(l.findIdx? q).isSome = l.any q:=by simp [List.findIdx?_isSome]
theorem p47_65_eq (n:Nat) (x0:Sl Nd) (p:Sl Int) (hn:x0.xs.length < n) (hL:x0.xs.length ≤ 9223372036854775807) (hB:∀ y ∈ x0.xs,y.1.xs.length < n ∧ y.1.xs.length ≤ 9223372036854775807):p47_65 n x0 p = some (x0.xs.any fun y=>thr y.1.xs p.xs):=by
  unfold p47_65
  rw [p59_65_eq n x0 p hn hL hB,Option.bind_some,d_Y,b_9]
theorem p47_66_eq (n:Nat) (x0:Sl Nd) (e:Int × Int × (Sl Int) × Int) (hn:x0.xs.length < n) (hL:x0.xs.length ≤ 9223372036854775807):p47_66 n x0 e = some (x0.xs.any fun y=>y.2.2 == e.2.2.2):=by
  unfold p47_66
  rw [p59_66_eq n x0 e hn hL,Option.bind_some,d_Y,b_9]
theorem p41_eq (n:Nat) (x:Sl Int) (hL:x.xs.length ≤ 1000000):∃ d,p41 n x = some ⟨x.xs,d⟩:=by
  unfold p41
  refine ⟨a_Q (some 0) x.xs.length,?_⟩
  have e:c_K ([]:List Int) x.xs = some x.xs:=by
    unfold c_K
    rw [if_pos (by simp;omega)]
    simp
  rw [e,Option.bind_some]
theorem p44_eq (n:Nat) (x:Sl Int):p44 n x = some ⟨x.xs,some x.xs.length⟩:=by
  unfold p44
  have h:∃ r,sl3I x 0 (a_e x) (a_e x) = some r:=by
    unfold sl3I a_e
    rw [if_pos (by omega)]
    exact ⟨_,rfl⟩
  obtain ⟨r,hr⟩:=h
  rw [hr,Option.bind_some,clip_val hr]
def d_p (y:Nd):Nd:=(⟨y.1.xs,some y.1.xs.length⟩,y.2.1,y.2.2)
theorem p39_eq (n:Nat) (y:Nd) (hL:y.1.xs.length ≤ 1000000):p39 n y = some (d_p y):=by
  unfold p39
  obtain ⟨d,hd⟩:=p41_eq n y.1 hL
  rw [hd,Option.bind_some,p44_eq,Option.bind_some]
  rfl
theorem p45_l1_eq (n:Nat) (x0:Sl Nd) (z:Nd) (hL:x0.xs.length ≤ 1000000) (hB:∀ y ∈ x0.xs,y.1.xs.length ≤ 1000000):∀ (m k:Nat),x0.xs.length < k + m → k ≤ x0.xs.length →
    p45_l1 n x0 m k ((x0.xs.take k).map d_p ++ List.replicate (x0.xs.length - k) z) = some (x0.xs.map d_p):=by
  intro m
  induction m with
  | zero=>intro k h hk;omega
  | succ m IH =>
    intro k h hk
    rw [p45_l1]
    by_cases hlt:k < x0.xs.length
    · have hl:((x0.xs.take k).map d_p).length = k:=by simp;omega
      have hi:idx ((x0.xs.take k).map d_p ++ List.replicate (x0.xs.length - k) z) (k:Int) = some z:=by
        rw [d_a,List.getElem?_append_right (by omega),hl,List.getElem?_replicate,if_pos (by omega)]
      have hset:((x0.xs.take k).map d_p ++ List.replicate (x0.xs.length - k) z).set k (d_p x0.xs[k]) = (x0.xs.take (k + 1)).map d_p ++ List.replicate (x0.xs.length - (k + 1)) z:=by
        rw [List.set_append_right _ _ (by omega),hl,Nat.sub_self,show x0.xs.length - k = (x0.xs.length - (k + 1)) + 1 by omega,List.replicate_succ,List.set_cons_zero,List.take_succ_eq_append_getElem hlt,List.map_append,List.append_assoc]
        rfl
      rw [if_pos (decide_eq_true (show (k:Int) < a_e x0 by unfold a_e;omega)),ixN hlt,Option.bind_some,p39_eq n _ (hB _ (List.getElem_mem hlt)),Option.bind_some,hi,Option.bind_some,ckS (by omega) (by omega),Option.bind_some,b_o,Int.toNat_natCast,hset]
      exact IH (k + 1) (by omega) (by omega)
    · obtain rfl:k = x0.xs.length:=by omega
      rw [if_neg (by rw [decide_eq_true_eq];unfold a_e;omega)]
      simp
theorem p45_eq (n:Nat) (x0:Sl Nd) (hn:x0.xs.length < n) (hL:x0.xs.length ≤ 1000000) (hB:∀ y ∈ x0.xs,y.1.xs.length ≤ 1000000):p45 n x0 = some ⟨x0.xs.map d_p,some x0.xs.length⟩:=by
  unfold p45
  have hm:mkI (a_e x0) (a_e x0) = some (x0.xs.length,x0.xs.length):=by
    unfold mkI a_e
    rw [if_pos (by omega)]
    simp
  have e:=p45_l1_eq n x0 (⟨[],some 0⟩,0,0) hL hB n 0 (by omega) (by omega)
  simp only [List.take_zero,List.map_nil,List.nil_append,Nat.sub_zero] at e
  rw [hm,Option.bind_some]
  have e':p45_l1 n x0 n 0 (List.replicate x0.xs.length ((⟨[],some 0⟩,0,0):Nd)) = some (x0.xs.map d_p):=e
  show ((p45_l1 n x0 n 0 (List.replicate x0.xs.length ((⟨[],some 0⟩,0,0):Nd))).bind _) = _
  rw [e',Option.bind_some]
def fnd (t:List N) (p:List Int):Option Nat:=t.findIdx? (fun y=>decide (y.1 = p))
def hel (t:List N) (p:List Int):Bool:=decide (p.length = 1) || (match fnd t p.dropLast with | some k=>decide ((t[k]?).map (·.2.1) = some 2) | none=>false)
def b_J (t:List N) (p:List Int):Nat:=(t.takeWhile (fun y=>bef y.1 p)).length
def a_O (t:List N) (w:Int) (p:List Int) (ad:Int):List N × Int :=
  match fnd t p with
  | some i=>if w = 1 then ([],8) else if w = 4 then (if t.any (fun y=>thr y.1 p) then ([],6) else (t.eraseIdx i,0))
      else if (t[i]?).map (·.2.1) = some 1 then (if w = 2 ∧ t.any (fun y=>y.2.2 == ad) = true then ([],8) else (t.set i (p,w,ad),0)) else ([],6)
  | none=>if w = 1 then (if hel t p then (if 127 ≤ t.length then ([],9) else (t.take (b_J t p) ++ (p,1,0) :: t.drop (b_J t p),0)) else ([],7)) else ([],7)
structure Bd (n:Nat) (t:List Nd):Prop where
  big:1000 < n
  few:t.length ≤ 900
  short:∀ y ∈ t,y.1.xs.length ≤ 900
theorem Bd.all {n:Nat} {t:List Nd} (h:Bd n t):∀ y ∈ t,y.1.xs.length < n ∧ y.1.xs.length ≤ 9223372036854775807:=fun y hy=>by have:=h.short y hy;have:=h.big;omega
theorem fnd_nd (t:List Nd) (p:List Int):t.findIdx? (fun y=>decide (y.1.xs = p)) = fnd (t.map nd) p:=by
  unfold fnd
  rw [List.findIdx?_map]
  rfl
theorem p38_fnd {n:Nat} {t:Sl Nd} (h:Bd n t.xs) (p:Sl Int):p38 n t p = some (ixO (fnd (t.xs.map nd) p.xs)):=by
  rw [p38_eq n t p (by have:=h.big;have:=h.few;omega) (by have:=h.few;omega) h.all,fnd_nd]
theorem p26_fnd {n:Nat} {t:Sl Nd} (h:Bd n t.xs) (p:Sl Int) (hp:p.xs.length ≤ 900):p26 n t p = some (ixO (fnd (t.xs.map nd) p.xs)):=by
  have:=h.big;have:=h.few
  rw [p26_eq n t p (by omega) (by omega) ⟨⟨by omega,by omega⟩,h.all⟩,fnd_nd]
theorem b_K {t:List N} {p:List Int} {k:Nat} (h:fnd t p = some k):∃ hk:k < t.length,(t[k]'hk).1 = p:=by
  unfold fnd at h
  rw [List.findIdx?_eq_some_iff_getElem] at h
  obtain ⟨hk,h1,_⟩:=h
  exact ⟨hk,by simpa using h1⟩
theorem c_B {t:List N} {p:List Int} (h:fnd t p = none):∀ y ∈ t,y.1 ≠ p:=fun y hy e=>by
  unfold fnd at h
  rw [List.findIdx?_eq_none_iff] at h
  have:=h y hy
  simp [e] at this
theorem ndAt {t:List Nd} {k:Nat} (h:k < t.length):(t.map nd)[k]? = some (nd t[k]):=by rw [List.getElem?_map,List.getElem?_eq_getElem h];rfl
theorem p57_eq (n:Nat) (p:Sl Int) (hp:p.xs ≠ []) (hL:p.xs.length ≤ 900):∃ z,p57 n p = some (⟨p.xs.dropLast,some p.xs.dropLast.length⟩,z):=by
  unfold p57
  have hpos:0 < p.xs.length:=List.length_pos_iff.2 hp
  obtain ⟨d,hd⟩:=a_9 (xs:=p.xs) (c:=p.cap) (k:=p.xs.length - 1) (by omega)
  have e1:ckI .i64 (a_e p - 1) = some ((p.xs.length - 1:Nat):Int):=(ckS (by unfold a_e;omega) (by unfold a_e;omega)).trans (by unfold a_e;congr 1;omega)
  rw [if_neg (by unfold a_e;simp;exact hp),e1,Option.bind_some]
  have hd':slI p 0 ((p.xs.length - 1:Nat):Int) = some ⟨p.xs.take (p.xs.length - 1),d⟩:=hd
  obtain ⟨d2,hd2⟩:=p41_eq n ⟨p.xs.take (p.xs.length - 1),d⟩ (by simp;omega)
  rw [hd',Option.bind_some,hd2,Option.bind_some,p44_eq,Option.bind_some,ixN (by omega),Option.bind_some]
  simp only [List.dropLast_eq_take]
  exact ⟨_,rfl⟩
theorem p34_eq {n:Nat} {t:Sl Nd} (h:Bd n t.xs) (p:Sl Int) (hp:p.xs ≠ []) (hL:p.xs.length ≤ 900):p34 n t p = some (hel (t.xs.map nd) p.xs):=by
  unfold p34 hel
  by_cases h1:p.xs.length = 1
  · rw [if_pos (by simp [a_e,h1]),decide_eq_true h1];rfl
  · obtain ⟨z,hz⟩:=p57_eq n p hp hL
    rw [if_neg (by simp [a_e];omega),hz,Option.bind_some,p38_fnd h,Option.bind_some,decide_eq_false h1]
    cases hf:fnd (t.xs.map nd) p.xs.dropLast with
    | none=>rfl
    | some k =>
      obtain ⟨hk,_⟩:=b_K hf
      have hk':k < t.xs.length:=by simpa using hk
      rw [if_pos (by simp [ixO]),show ixO (some k) = (k:Int) from rfl,ixN hk',Option.bind_some,Option.bind_some]
      simp only [ndAt hk',Option.map_some,Bool.false_or]
      congr 1
      simp [nd]
      by_cases e:t.xs[k].2.1 = 2 <;> simp [e]
theorem p54_l1_eq (n:Nat) (x0:Sl Nd) (p:Sl Int) (hL:x0.xs.length ≤ 9223372036854775807) (hB:∀ y ∈ x0.xs,y.1.xs.length < n ∧ y.1.xs.length ≤ 9223372036854775807):∀ (m k:Nat),x0.xs.length < k + m → k ≤ x0.xs.length →
    p54_l1 n x0 p m k = some ((k + ((x0.xs.drop k).takeWhile (fun y=>bef y.1.xs p.xs)).length:Nat):Int):=by
  intro m
  induction m with
  | zero=>intro k h hk;omega
  | succ m IH =>
    intro k h hk
    rw [p54_l1]
    by_cases hlt:k < x0.xs.length
    · rw [if_pos (decide_eq_true (show (k:Int) < a_e x0 by unfold a_e;omega)),ixN hlt,Option.bind_some,p35_eq n _ p (hB _ (List.getElem_mem hlt)).1 (hB _ (List.getElem_mem hlt)).2,Option.bind_some,Option.bind_some,← d_o,List.drop_eq_getElem_cons hlt,List.takeWhile_cons]
      cases hb:bef x0.xs[k].1.xs p.xs with
      | true =>
        rw [if_pos rfl,if_pos rfl,ckS (by omega) (by omega),Option.bind_some,b_o,IH (k + 1) (by omega) (by omega),List.length_cons]
        congr 1;omega
      | false=>rw [if_neg (by decide),if_neg (by decide)];rfl
    · rw [if_neg (by rw [decide_eq_true_eq];unfold a_e;omega),Option.bind_some,if_neg (by decide),List.drop_eq_nil_of_le (by omega)]
      rfl
theorem p14_l1_eq (n:Nat) (x0:Sl Nd) (e:Int × Int × (Sl Int) × Int) (hL:x0.xs.length ≤ 9223372036854775807) (hB:∀ y ∈ x0.xs,y.1.xs.length < n ∧ y.1.xs.length ≤ 9223372036854775807):∀ (m k:Nat),x0.xs.length < k + m → k ≤ x0.xs.length →
    p14_l1 n x0 e m k = some ((k + ((x0.xs.drop k).takeWhile (fun y=>bef y.1.xs e.2.2.1.xs)).length:Nat):Int):=by
  intro m
  induction m with
  | zero=>intro k h hk;omega
  | succ m IH =>
    intro k h hk
    rw [p14_l1]
    by_cases hlt:k < x0.xs.length
    · rw [if_pos (decide_eq_true (show (k:Int) < a_e x0 by unfold a_e;omega)),ixN hlt,Option.bind_some,p28_eq n _ e.2.2.1 (hB _ (List.getElem_mem hlt)).1 (hB _ (List.getElem_mem hlt)).2,Option.bind_some,Option.bind_some,List.drop_eq_getElem_cons hlt,List.takeWhile_cons]
      cases hb:bef x0.xs[k].1.xs e.2.2.1.xs with
      | true =>
        rw [if_pos rfl,if_pos rfl,ckS (by omega) (by omega),Option.bind_some,b_o,IH (k + 1) (by omega) (by omega),List.length_cons]
        congr 1;omega
      | false=>rw [if_neg (by decide),if_neg (by decide)];rfl
    · rw [if_neg (by rw [decide_eq_true_eq];unfold a_e;omega),Option.bind_some,if_neg (by decide),List.drop_eq_nil_of_le (by omega)]
      rfl
theorem pos_nd (t:List Nd) (p:List Int):(t.takeWhile (fun y=>bef y.1.xs p)).length = b_J (t.map nd) p:=by
  unfold b_J
  induction t with
  | nil=>rfl
  | cons y t ih =>
    rw [List.map_cons,List.takeWhile_cons,List.takeWhile_cons]
    show _ = (if bef y.1.xs p = true then _ else _:List N).length
    cases bef y.1.xs p with
    | true=>rw [if_pos rfl,if_pos rfl,List.length_cons,List.length_cons,ih]
    | false=>rw [if_neg (by decide),if_neg (by decide)];rfl
theorem posN_le (t:List N) (p:List Int):b_J t p ≤ t.length:=(List.takeWhile_sublist _).length_le
def c_T (l:List (Sl Nd)):List Nd:=(l.map Sl.xs).flatten
theorem p64_l1_eq (n:Nat) (x:Sl (Sl Nd)) (hL:x.xs.length ≤ 1000) (hs:∀ s ∈ x.xs,s.xs.length ≤ 100000):∀ (m k:Nat) (acc:Nat),x.xs.length < k + m → k ≤ x.xs.length → acc ≤ 100000 * k →
    ∃ z:Nat,p64_l1 n x m k acc = some (z:Int) ∧ z ≤ 100000 * x.xs.length:=by
  intro m
  induction m with
  | zero=>intro k acc h hk ha;omega
  | succ m IH =>
    intro k acc h hk ha
    rw [p64_l1]
    by_cases hlt:k < x.xs.length
    · have hk2:=hs _ (List.getElem_mem hlt)
      rw [if_pos (decide_eq_true (show (k:Int) < a_e x by unfold a_e;omega)),ixN hlt,Option.bind_some,show ckI .i64 ((acc:Int) + a_e x.xs[k]) = some ((acc + x.xs[k].xs.length:Nat):Int) from (ckS (by unfold a_e;omega) (by unfold a_e;omega)).trans (by unfold a_e;congr 1),Option.bind_some,if_neg (by rw [decide_eq_true_eq];omega),ckS (by omega) (by omega),Option.bind_some,b_o]
      exact IH (k + 1) _ (by omega) (by omega) (by omega)
    · rw [if_neg (by rw [decide_eq_true_eq];unfold a_e;omega)]
      have hk2:k = x.xs.length:=by omega
      exact ⟨acc,rfl,by omega⟩
theorem p64_l2_eq (n:Nat) (x:Sl (Sl Nd)) (hL:x.xs.length ≤ 1000) (hs:∀ s ∈ x.xs,s.xs.length ≤ 100000):∀ (m k:Nat) (acc:List Nd),x.xs.length < k + m → k ≤ x.xs.length → acc.length ≤ 100000 * k →
    p64_l2 n x m k acc = some (acc ++ c_T (x.xs.drop k)):=by
  intro m
  induction m with
  | zero=>intro k acc h hk ha;omega
  | succ m IH =>
    intro k acc h hk ha
    rw [p64_l2]
    by_cases hlt:k < x.xs.length
    · have hk2:=hs _ (List.getElem_mem hlt)
      have ea:c_K acc x.xs[k].xs = some (acc ++ x.xs[k].xs):=by unfold c_K;rw [if_pos (by omega)]
      rw [if_pos (decide_eq_true (show (k:Int) < a_e x by unfold a_e;omega)),ixN hlt,Option.bind_some,ea,Option.bind_some,ckS (by omega) (by omega),Option.bind_some,b_o,IH (k + 1) _ (by omega) (by omega) (by rw [List.length_append];omega),List.drop_eq_getElem_cons hlt]
      show _ = some (acc ++ (x.xs[k].xs ++ c_T (x.xs.drop (k + 1))))
      rw [List.append_assoc]
    · rw [if_neg (by rw [decide_eq_true_eq];unfold a_e;omega),List.drop_eq_nil_of_le (by omega)]
      simp [c_T]
theorem p68_eq (n:Nat) (z:Nat) (hz:z ≤ 1000000000):p68_nil n (z:Int) = some ⟨[],.none⟩:=by
  unfold p68_nil
  have e0:capO (⟨[],some 0⟩:Sl Nd) = some 0:=rfl
  have e1:ckI .i64 ((0:Int) - a_e (⟨[],some 0⟩:Sl Nd)) = some 0:=rfl
  rw [if_neg (by rw [decide_eq_true_eq];omega),e0,Option.bind_some,e1,Option.bind_some,show ckI .i64 ((z:Int) - 0) = some (z:Int) from (ckS (by omega) (by omega)).trans (by rw [Int.sub_zero]),Option.bind_some]
  by_cases h:0 < z
  · have e2:cutI ([]:List Nd) 0 = some []:=rfl
    have e3:appZ ([]:List Nd) (z:Int) (⟨[],some 0⟩,0,0) = some (List.replicate z (⟨[],some 0⟩,0,0)):=by
      unfold appZ
      rw [if_pos ⟨by omega,by simp;omega⟩]
      simp
    have e4:cutI (List.replicate z ((⟨[],some 0⟩,0,0):Nd)) (a_e (⟨[],some 0⟩:Sl Nd)) = some []:=by
      unfold cutI a_e
      rw [if_pos (by simp)]
      simp
    rw [if_pos (decide_eq_true (by omega)),Option.bind_some,e2,Option.bind_some,e3,Option.bind_some,e4,Option.bind_some,Option.bind_some]
  · rw [if_neg (by rw [decide_eq_true_eq];omega),Option.bind_some]
theorem p64_eq (n:Nat) (x:Sl (Sl Nd)) (hn:x.xs.length < n) (hL:x.xs.length ≤ 1000) (hs:∀ s ∈ x.xs,s.xs.length ≤ 100000):p64 n x = some ⟨c_T x.xs,.none⟩:=by
  unfold p64
  obtain ⟨z,hz,hz2⟩:=p64_l1_eq n x hL hs n 0 0 (by omega) (by omega) (by omega)
  have hz':p64_l1 n x n 0 0 = some (z:Int):=hz
  have h2:=p64_l2_eq n x hL hs n 0 [] (by omega) (by omega) (by simp)
  have h2':p64_l2 n x n 0 [] = some (c_T x.xs):=by simpa using h2
  rw [hz',Option.bind_some,p68_eq n z (by omega),Option.bind_some,h2',Option.bind_some]
section
variable {t:List N} {p:List Int} {ad w:Int} {k:Nat}
theorem sA1 (h:fnd t p = some k):a_O t 1 p ad = ([],8):=by simp [a_O,h]
theorem sA2 (h:fnd t p = none) (h2:hel t p = false):a_O t 1 p ad = ([],7):=by simp [a_O,h,h2]
theorem sA3 (h:fnd t p = none) (h2:hel t p = true) (h3:127 ≤ t.length):a_O t 1 p ad = ([],9):=by simp [a_O,h,h2,h3]
theorem sA4 (h:fnd t p = none) (h2:hel t p = true) (h3:¬ 127 ≤ t.length):a_O t 1 p ad = (t.take (b_J t p) ++ (p,1,0) :: t.drop (b_J t p),0):=by simp only [a_O,h,h2,if_true,if_neg h3]
theorem sD1 (h:fnd t p = none) (hw:w ≠ 1):a_O t w p ad = ([],7):=by simp [a_O,h,hw]
theorem sD2 (h:fnd t p = some k) (h2:(t.any fun y=>thr y.1 p) = true):a_O t 4 p ad = ([],6):=by simp only [a_O,h,h2,if_true,if_neg (show ¬ (4:Int) = 1 by decide)]
theorem sD3 (h:fnd t p = some k) (h2:(t.any fun y=>thr y.1 p) = false):a_O t 4 p ad = (t.eraseIdx k,0):=by simp only [a_O,h,h2,if_true,if_neg (show ¬ (4:Int) = 1 by decide),if_neg (show ¬ (false = true) by decide)]
theorem sS2 (h:fnd t p = some k) (h1:w ≠ 1) (h4:w ≠ 4) (h2:¬ (t[k]?).map (·.2.1) = some 1):a_O t w p ad = ([],6):=by simp only [a_O,h,if_neg h1,if_neg h4,if_neg h2]
theorem sS3 (h:fnd t p = some k) (h1:w ≠ 1) (h4:w ≠ 4) (h2:(t[k]?).map (·.2.1) = some 1) (h3:w = 2 ∧ (t.any fun y=>y.2.2 == ad) = true):a_O t w p ad = ([],8):=by simp only [a_O,h,if_neg h1,if_neg h4,if_pos h2,if_pos h3]
theorem sS4 (h:fnd t p = some k) (h1:w ≠ 1) (h4:w ≠ 4) (h2:(t[k]?).map (·.2.1) = some 1) (h3:¬ (w = 2 ∧ (t.any fun y=>y.2.2 == ad) = true)):a_O t w p ad = (t.set k (p,w,ad),0):=by simp only [a_O,h,if_neg h1,if_neg h4,if_pos h2,if_neg h3]
end
def Out (T:Sl Nd) (r:List N):Prop:=T.xs.map nd = r ∧ T.xs.length ≤ 901 ∧ ∀ y ∈ T.xs,y.1.xs.length ≤ 900
theorem Out.nil {c:Option Nat}:Out ⟨[],c⟩ []:=⟨rfl,by simp,fun y hy=>by cases hy⟩
theorem appN {α:Type} {xs ys:List α} (h:xs.length + ys.length ≤ 1099511627776):c_K xs ys = some (xs ++ ys):=by unfold c_K;rw [if_pos h]
theorem d_G (t:List Nd) (q:N → Bool):(t.map nd).any q = t.any (fun y=>q (nd y)):=by rw [List.any_map];rfl
theorem Out.ins {n:Nat} {t:Sl Nd} (h:Bd n t.xs) {p:Sl Int} (hL:p.xs.length ≤ 900) (k:Nat) {c:Option Nat}:Out ⟨t.xs.take k ++ (p,1,0) :: t.xs.drop k,c⟩ ((t.xs.map nd).take k ++ (p.xs,1,0) :: (t.xs.map nd).drop k):=by
  have hf:=h.few
  refine ⟨by simp [nd],by simp;omega,fun y hy=>?_⟩
  rcases List.mem_append.1 hy with hy | hy
  · exact h.short y (List.mem_of_mem_take hy)
  · rcases List.mem_cons.1 hy with rfl | hy
    · exact hL
    · exact h.short y (List.mem_of_mem_drop hy)
theorem Out.del {n:Nat} {t:Sl Nd} (h:Bd n t.xs) (k:Nat) {c:Option Nat}:Out ⟨t.xs.take k ++ t.xs.drop (k + 1),c⟩ ((t.xs.map nd).eraseIdx k):=by
  have hf:=h.few
  refine ⟨by simp [List.eraseIdx_eq_take_drop_succ],by simp;omega,fun y hy=>?_⟩
  rcases List.mem_append.1 hy with hy | hy
  · exact h.short y (List.mem_of_mem_take hy)
  · exact h.short y (List.mem_of_mem_drop hy)
theorem p54_eq {n:Nat} {t:Sl Nd} (h:Bd n t.xs) (p:Sl Int) (hp:p.xs ≠ []) (hL:p.xs.length ≤ 900) (ad:Int) :
    ∃ T:Sl Nd,p54 n t p = some (T,(a_O (t.xs.map nd) 1 p.xs ad).2) ∧ Out T (a_O (t.xs.map nd) 1 p.xs ad).1:=by
  have hb:=h.big;have hf:=h.few
  have tl:(t.xs.map nd).length = t.xs.length:=List.length_map _
  unfold p54
  rw [p38_fnd h,Option.bind_some]
  cases hq:fnd (t.xs.map nd) p.xs with
  | some k =>
    rw [if_pos (decide_eq_true (show ixO (some k) ≥ 0 by simp [ixO])),sA1 hq]
    exact ⟨_,rfl,Out.nil⟩
  | none =>
    rw [if_neg (by rw [decide_eq_true_eq];simp [ixO]),p34_eq h p hp hL,Option.bind_some]
    cases hh:hel (t.xs.map nd) p.xs with
    | false=>rw [if_pos (by rfl),sA2 hq hh];exact ⟨_,rfl,Out.nil⟩
    | true =>
      rw [if_neg (by decide)]
      by_cases h127:127 ≤ t.xs.length
      · rw [if_pos (decide_eq_true (show a_e t ≥ 127 by unfold a_e;omega)),sA3 hq hh (by omega)];exact ⟨_,rfl,Out.nil⟩
      · have hpos:b_J (t.xs.map nd) p.xs ≤ t.xs.length:=by have:=posN_le (t.xs.map nd) p.xs;omega
        have e1:=p54_l1_eq n t p (by omega) h.all n 0 (by omega) (by omega)
        have e1':p54_l1 n t p n 0 = some ((b_J (t.xs.map nd) p.xs:Nat):Int):=by simpa [pos_nd] using e1
        obtain ⟨d1,hd1⟩:=a_9 (xs:=t.xs) (c:=t.cap) hpos
        obtain ⟨d2,hd2⟩:=c_A (xs:=t.xs) (c:=t.cap) hpos
        have hd1':slI t 0 ((b_J (t.xs.map nd) p.xs:Nat):Int) = some ⟨t.xs.take (b_J (t.xs.map nd) p.xs),d1⟩:=hd1
        have hd2':slI t ((b_J (t.xs.map nd) p.xs:Nat):Int) (a_e t) = some ⟨t.xs.drop (b_J (t.xs.map nd) p.xs),d2⟩:=hd2
        rw [if_neg (by rw [decide_eq_true_eq];unfold a_e;omega),e1',Option.bind_some,hd1',Option.bind_some,hd2',Option.bind_some,p64_eq n _ (by simp;omega) (by simp) (by
          intro s hs
          simp only [List.mem_cons,List.not_mem_nil,or_false] at hs
          rcases hs with rfl | rfl | rfl <;> simp <;> omega),Option.bind_some,sA4 hq hh (by omega)]
        refine ⟨_,rfl,?_⟩
        have e:c_T [(⟨t.xs.take (b_J (t.xs.map nd) p.xs),d1⟩:Sl Nd),(⟨[(p,1,0)],some 1⟩:Sl Nd),(⟨t.xs.drop (b_J (t.xs.map nd) p.xs),d2⟩:Sl Nd)] = t.xs.take (b_J (t.xs.map nd) p.xs) ++ (p,1,0) :: t.xs.drop (b_J (t.xs.map nd) p.xs):=by simp [c_T]
        show Out ⟨c_T _,_⟩ _
        rw [e]
        exact Out.ins h hL _
theorem p55_eq {n:Nat} {t:Sl Nd} (h:Bd n t.xs) (p:Sl Int) (ad:Int) :
    ∃ T:Sl Nd,p55 n t p = some (T,(a_O (t.xs.map nd) 4 p.xs ad).2) ∧ Out T (a_O (t.xs.map nd) 4 p.xs ad).1:=by
  have hb:=h.big;have hf:=h.few
  unfold p55
  rw [p38_fnd h,Option.bind_some]
  cases hq:fnd (t.xs.map nd) p.xs with
  | none =>
    rw [if_pos (decide_eq_true (show ixO none < 0 by simp [ixO])),sD1 hq (by decide)]
    exact ⟨_,rfl,Out.nil⟩
  | some k =>
    obtain ⟨hk,_⟩:=b_K hq
    have hk':k < t.xs.length:=by simpa using hk
    have hany:((t.xs.map nd).any fun y=>thr y.1 p.xs) = t.xs.any fun y=>thr y.1.xs p.xs:=d_G _ _
    rw [if_neg (by rw [decide_eq_true_eq];simp [ixO]),p47_65_eq n t p (by omega) (by omega) h.all,Option.bind_some]
    cases ha:t.xs.any fun y=>thr y.1.xs p.xs with
    | true=>rw [if_pos rfl,sD2 hq (hany.trans ha)];exact ⟨_,rfl,Out.nil⟩
    | false =>
      obtain ⟨d1,hd1⟩:=a_9 (xs:=t.xs) (c:=t.cap) (show k ≤ t.xs.length by omega)
      obtain ⟨d2,hd2⟩:=c_A (xs:=t.xs) (c:=t.cap) (show k + 1 ≤ t.xs.length by omega)
      have hd1':slI t 0 (ixO (some k)) = some ⟨t.xs.take k,d1⟩:=hd1
      have hd2':slI t ((k + 1:Nat):Int) (a_e t) = some ⟨t.xs.drop (k + 1),d2⟩:=hd2
      rw [if_neg (by simp),hd1',Option.bind_some,show ckI .i64 (ixO (some k) + 1) = some ((k + 1:Nat):Int) from (ckS (by simp only [ixO];omega) (by simp only [ixO];omega)).trans (by simp only [ixO];congr 1),Option.bind_some,hd2',Option.bind_some,p64_eq n _ (by simp;omega) (by simp) (by
          intro s hs
          simp only [List.mem_cons,List.not_mem_nil,or_false] at hs
          rcases hs with rfl | rfl <;> simp <;> omega),Option.bind_some,sD3 hq (hany.trans ha)]
      refine ⟨_,rfl,?_⟩
      have e:c_T [(⟨t.xs.take k,d1⟩:Sl Nd),(⟨t.xs.drop (k + 1),d2⟩:Sl Nd)] = t.xs.take k ++ t.xs.drop (k + 1):=by simp [c_T]
      show Out ⟨c_T _,_⟩ _
      rw [e]
      exact Out.del h k
theorem Out.set {n:Nat} {l:List Nd} (h:Bd n l) {k:Nat} (hk:k < l.length) {w ad:Int} {c:Option Nat}:Out ⟨l.set k (l[k].1,w,ad),c⟩ ((l.map nd).set k (l[k].1.xs,w,ad)):=by
  have hf:=h.few
  refine ⟨by simp [nd,List.map_set],by simp;omega,fun y hy=>?_⟩
  rcases List.mem_or_eq_of_mem_set hy with hy | rfl
  · exact h.short y hy
  · exact h.short l[k] (List.getElem_mem hk)
theorem p56_eq {n:Nat} {t:Sl Nd} (h:Bd n t.xs) (e:Int × Int × (Sl Int) × Int) (h1:e.2.1 ≠ 1) (h4:e.2.1 ≠ 4) :
    ∃ T:Sl Nd,p56 n t e = some (T,(a_O (t.xs.map nd) e.2.1 e.2.2.1.xs e.2.2.2).2) ∧ Out T (a_O (t.xs.map nd) e.2.1 e.2.2.1.xs e.2.2.2).1:=by
  have hb:=h.big;have hf:=h.few
  unfold p56
  rw [p38_fnd h,Option.bind_some]
  cases hq:fnd (t.xs.map nd) e.2.2.1.xs with
  | none =>
    rw [if_pos (decide_eq_true (show ixO none < 0 by simp [ixO])),sD1 hq h1]
    exact ⟨_,rfl,Out.nil⟩
  | some k =>
    obtain ⟨hk,hkp⟩:=b_K hq
    have hk':k < t.xs.length:=by simpa using hk
    have hp:t.xs[k].1.xs = e.2.2.1.xs:=by simpa [nd] using hkp
    have hat:=ndAt hk'
    rw [if_neg (by rw [decide_eq_true_eq];simp [ixO]),show ixO (some k) = (k:Int) from rfl,ixN hk',Option.bind_some]
    by_cases hw:t.xs[k].2.1 = 1
    · have hm:((t.xs.map nd)[k]?).map (·.2.1) = some 1:=by rw [hat];simp [nd,hw]
      have hany:((t.xs.map nd).any fun y=>y.2.2 == e.2.2.2) = t.xs.any fun y=>y.2.2 == e.2.2.2:=d_G _ _
      rw [if_neg (by simp [hw])]
      have hcond:(if (e.2.1 == 2) = true then (p47_66 n t e).bind fun t_23=>some t_23 else some false) = some (decide (e.2.1 = 2 ∧ (t.xs.any fun y=>y.2.2 == e.2.2.2) = true)):=by
        by_cases h2:e.2.1 = 2
        · rw [if_pos (by simp [h2]),p47_66_eq n t e (by omega) (by omega),Option.bind_some];simp [h2]
        · rw [if_neg (by simp [h2])];simp [h2]
      rw [hcond,Option.bind_some]
      by_cases h3:e.2.1 = 2 ∧ (t.xs.any fun y=>y.2.2 == e.2.2.2) = true
      · rw [if_pos (decide_eq_true h3),sS3 hq h1 h4 hm ⟨h3.1,hany.trans h3.2⟩]
        exact ⟨_,rfl,Out.nil⟩
      · have hl:k < (t.xs.map d_p).length:=by simpa using hk'
        have hb2:Bd n (t.xs.map d_p):=⟨hb,by simpa using hf,fun y hy=>by
          obtain ⟨z,hz,rfl⟩:=List.mem_map.1 hy
          exact h.short z hz⟩
        have hg:(t.xs.map d_p)[k] = d_p t.xs[k]:=List.getElem_map _
        have hset:∀ z:Nd,((t.xs.map d_p).set k z)[k]? = some z:=fun z=>by simp [hk']
        rw [if_neg (by simpa using h3),p45_eq n t (by omega) (by omega) (fun y hy=>(by have:=h.short y hy;omega)),Option.bind_some,ixN hl,Option.bind_some]
        simp only [Int.toNat_natCast]
        rw [d_a,hset,Option.bind_some,sS4 hq h1 h4 hm (by rw [hany];exact h3),List.set_set]
        refine ⟨_,rfl,?_⟩
        have ho:=Out.set hb2 hl (w:=e.2.1) (ad:=e.2.2.2) (c:=some t.xs.length)
        have e1:(t.xs.map d_p).map nd = t.xs.map nd:=by rw [List.map_map];rfl
        rw [e1] at ho
        have e2:(t.xs.map d_p)[k].1.xs = e.2.2.1.xs:=by rw [hg];exact hp
        rw [e2] at ho
        exact ho
    · have hm:¬ ((t.xs.map nd)[k]?).map (·.2.1) = some 1:=by rw [hat];simp [nd,hw]
      rw [if_pos (by simpa using hw),sS2 hq h1 h4 hm]
      exact ⟨_,rfl,Out.nil⟩
theorem p14_l2_eq (n:Nat) (x0:Sl Nd) (e:Int × Int × (Sl Int) × Int) (hp:e.2.2.1.xs.length ≤ 900) (h:Bd n x0.xs):∀ (m k:Nat),x0.xs.length < k + m → k ≤ x0.xs.length →
    p14_l2 n x0 e m k = some (if (x0.xs.drop k).any (fun y=>thr y.1.xs e.2.2.1.xs) then .inr (⟨[],some 0⟩,6) else .inl ()):=by
  intro m
  have hf:=h.few;have hb:=h.big
  induction m with
  | zero=>intro k h hk;omega
  | succ m IH =>
    intro k hkm hk
    rw [p14_l2]
    by_cases hlt:k < x0.xs.length
    · have ha:=h.all _ (List.getElem_mem hlt)
      rw [if_pos (decide_eq_true (show (k:Int) < a_e x0 by unfold a_e;omega)),ixN hlt,Option.bind_some,p27_eq n _ e.2.2.1 ha.1 (by omega) ha.2 (by omega),Option.bind_some,List.drop_eq_getElem_cons hlt,List.any_cons]
      try rw [Option.bind_some]
      cases hb:thr x0.xs[k].1.xs e.2.2.1.xs with
      | true=>rw [if_pos rfl,if_pos (by rfl)]
      | false=>rw [if_neg (by decide),ckS (by omega) (by omega),Option.bind_some,b_o,IH (k + 1) (by omega) (by omega)];rfl
    · rw [if_neg (by rw [decide_eq_true_eq];unfold a_e;omega),List.drop_eq_nil_of_le (by omega)]
      rfl
theorem p14_l3_eq (n:Nat) (x0:Sl Nd) (e:Int × Int × (Sl Int) × Int) (h:Bd n x0.xs):∀ (m k:Nat),x0.xs.length < k + m → k ≤ x0.xs.length →
    p14_l3 n x0 e m k = some (if e.2.1 = 2 ∧ ((x0.xs.drop k).any fun y=>y.2.2 == e.2.2.2) = true then .inr (⟨[],some 0⟩,8) else .inl ()):=by
  intro m
  have hf:=h.few;have hb:=h.big
  induction m with
  | zero=>intro k h hk;omega
  | succ m IH =>
    intro k hkm hk
    rw [p14_l3]
    by_cases hlt:k < x0.xs.length
    · rw [if_pos (decide_eq_true (show (k:Int) < a_e x0 by unfold a_e;omega)),ixN hlt,List.drop_eq_getElem_cons hlt,List.any_cons,ckS (by omega) (by omega),b_o]
      simp only [Option.bind_some]
      rw [IH (k + 1) (by omega) (by omega)]
      by_cases h2:e.2.1 = 2
      · rw [if_pos (by simp [h2]),Option.bind_some]
        cases hq:x0.xs[k].2.2 == e.2.2.2 with
        | true=>rw [if_pos rfl,if_pos ⟨h2,by rfl⟩]
        | false=>rw [if_neg (by decide)];simp only [Bool.false_or]
      · rw [if_neg (by simp [h2]),Option.bind_some,if_neg (by decide),if_neg (by simp [h2]),if_neg (by simp [h2])]
    · rw [if_neg (by rw [decide_eq_true_eq];unfold a_e;omega),List.drop_eq_nil_of_le (by omega)]
      simp
theorem p14_eq {n:Nat} {t:Sl Nd} (h:Bd n t.xs) (e:Int × Int × (Sl Int) × Int) (hp:e.2.2.1.xs ≠ []) (hL:e.2.2.1.xs.length ≤ 900) :
    ∃ T:Sl Nd,p14 n t e = some (T,(a_O (t.xs.map nd) e.2.1 e.2.2.1.xs e.2.2.2).2) ∧ Out T (a_O (t.xs.map nd) e.2.1 e.2.2.1.xs e.2.2.2).1:=by
  have hb:=h.big;have hf:=h.few
  have tl:(t.xs.map nd).length = t.xs.length:=List.length_map _
  have hpos:0 < e.2.2.1.xs.length:=List.length_pos_iff.2 hp
  unfold p14
  rw [p26_fnd h _ hL,Option.bind_some]
  by_cases h1:e.2.1 = 1
  · rw [if_pos (by simp [h1]),h1]
    cases hq:fnd (t.xs.map nd) e.2.2.1.xs with
    | some k =>
      rw [if_pos (decide_eq_true (show ixO (some k) ≥ 0 by simp [ixO])),sA1 hq]
      exact ⟨_,rfl,Out.nil⟩
    | none =>
      obtain ⟨d,hd⟩:=a_9 (xs:=e.2.2.1.xs) (c:=e.2.2.1.cap) (k:=e.2.2.1.xs.length - 1) (by omega)
      have e1:ckI .i64 (a_e e.2.2.1 - 1) = some ((e.2.2.1.xs.length - 1:Nat):Int):=(ckS (by unfold a_e;omega) (by unfold a_e;omega)).trans (by unfold a_e;congr 1;omega)
      have hd':slI e.2.2.1 0 ((e.2.2.1.xs.length - 1:Nat):Int) = some ⟨e.2.2.1.xs.take (e.2.2.1.xs.length - 1),d⟩:=hd
      rw [if_neg (by rw [decide_eq_true_eq];simp [ixO]),e1,Option.bind_some,hd',Option.bind_some,p26_fnd h _ (by simp;omega),Option.bind_some]
      have hcond:((if (decide ((a_e e.2.2.1) > 1)) = true then (if (decide (ixO (fnd (t.xs.map nd) (e.2.2.1.xs.take (e.2.2.1.xs.length - 1))) < 0)) = false then (idx t.xs (ixO (fnd (t.xs.map nd) (e.2.2.1.xs.take (e.2.2.1.xs.length - 1))))).bind fun y_34=>some (y_34.2.1 != 2) else some true).bind fun q_33=>some q_33 else some false):Option Bool) = some (!hel (t.xs.map nd) e.2.2.1.xs):=by
        unfold hel
        rw [← List.dropLast_eq_take]
        by_cases hl1:e.2.2.1.xs.length = 1
        · rw [if_neg (by rw [decide_eq_true_eq];unfold a_e;omega),decide_eq_true hl1];rfl
        · rw [if_pos (decide_eq_true (by unfold a_e;omega)),decide_eq_false hl1]
          cases hf2:fnd (t.xs.map nd) e.2.2.1.xs.dropLast with
          | none=>rfl
          | some k =>
            obtain ⟨hk,_⟩:=b_K hf2
            have hk':k < t.xs.length:=by simpa using hk
            rw [if_pos (decide_eq_false (by simp only [ixO];omega)),show ixO (some k) = (k:Int) from rfl,ixN hk',Option.bind_some,Option.bind_some]
            simp only [ndAt hk',Option.map_some,Bool.false_or]
            congr 1
            simp [nd]
            by_cases e:t.xs[k].2.1 = 2 <;> simp [e]
      have hcond':=hcond
      simp only at hcond' ⊢
      rw [hcond',Option.bind_some]
      cases hh:hel (t.xs.map nd) e.2.2.1.xs with
      | false=>rw [if_pos (by rfl),sA2 hq hh];exact ⟨_,rfl,Out.nil⟩
      | true =>
        rw [if_neg (by decide)]
        by_cases h127:127 ≤ t.xs.length
        · rw [if_pos (decide_eq_true (show a_e t ≥ 127 by unfold a_e;omega)),sA3 hq hh (by omega)];exact ⟨_,rfl,Out.nil⟩
        · have hpos:b_J (t.xs.map nd) e.2.2.1.xs ≤ t.xs.length:=by have:=posN_le (t.xs.map nd) e.2.2.1.xs;omega
          have e1:=p14_l1_eq n t e (by omega) h.all n 0 (by omega) (by omega)
          have e1':p14_l1 n t e n 0 = some ((b_J (t.xs.map nd) e.2.2.1.xs:Nat):Int):=by simpa [pos_nd] using e1
          obtain ⟨d1,hd1⟩:=a_9 (xs:=t.xs) (c:=t.cap) hpos
          obtain ⟨d2,hd2⟩:=c_A (xs:=t.xs) (c:=t.cap) hpos
          have hd1':slI t 0 ((b_J (t.xs.map nd) e.2.2.1.xs:Nat):Int) = some ⟨t.xs.take (b_J (t.xs.map nd) e.2.2.1.xs),d1⟩:=hd1
          have hd2':slI t ((b_J (t.xs.map nd) e.2.2.1.xs:Nat):Int) (a_e t) = some ⟨t.xs.drop (b_J (t.xs.map nd) e.2.2.1.xs),d2⟩:=hd2
          rw [if_neg (by rw [decide_eq_true_eq];unfold a_e;omega),e1',Option.bind_some,hd1',Option.bind_some,appN (by simp;omega),Option.bind_some,appN (by simp;omega),Option.bind_some,hd2',Option.bind_some,appN (by simp;omega),Option.bind_some,Option.bind_some,sA4 hq hh (by omega)]
          refine ⟨_,rfl,?_⟩
          have e2:([] ++ t.xs.take (b_J (t.xs.map nd) e.2.2.1.xs) ++ [(e.2.2.1,1,0)]) ++ t.xs.drop (b_J (t.xs.map nd) e.2.2.1.xs) = t.xs.take (b_J (t.xs.map nd) e.2.2.1.xs) ++ (e.2.2.1,1,0) :: t.xs.drop (b_J (t.xs.map nd) e.2.2.1.xs):=by simp
          show Out ⟨([] ++ t.xs.take (b_J (t.xs.map nd) e.2.2.1.xs) ++ [(e.2.2.1,1,0)]) ++ t.xs.drop (b_J (t.xs.map nd) e.2.2.1.xs),_⟩ _
          rw [e2]
          exact Out.ins h hL _
  · rw [if_neg (by simp [h1])]
    cases hq:fnd (t.xs.map nd) e.2.2.1.xs with
    | none =>
      rw [if_pos (decide_eq_true (show ixO none < 0 by simp [ixO])),sD1 hq h1]
      exact ⟨_,rfl,Out.nil⟩
    | some k =>
      obtain ⟨hk,hkp⟩:=b_K hq
      have hk':k < t.xs.length:=by simpa using hk
      have hp:t.xs[k].1.xs = e.2.2.1.xs:=by simpa [nd] using hkp
      have hat:=ndAt hk'
      rw [if_neg (by rw [decide_eq_true_eq];simp [ixO]),show ixO (some k) = (k:Int) from rfl]
      by_cases h4:e.2.1 = 4
      · have e2:=p14_l2_eq n t e hL h n 0 (by omega) (by omega)
        have e2':p14_l2 n t e n 0 = some (if t.xs.any (fun y=>thr y.1.xs e.2.2.1.xs) then .inr (⟨[],some 0⟩,6) else .inl ()):=by rw [List.drop_zero] at e2;exact e2
        have hany:((t.xs.map nd).any fun y=>thr y.1 e.2.2.1.xs) = t.xs.any fun y=>thr y.1.xs e.2.2.1.xs:=d_G _ _
        rw [if_pos (by simp [h4]),e2',Option.bind_some,h4]
        cases ha:t.xs.any fun y=>thr y.1.xs e.2.2.1.xs with
        | true=>rw [if_pos rfl,lrr,sD2 hq (hany.trans ha)];exact ⟨_,rfl,Out.nil⟩
        | false =>
          obtain ⟨d1,hd1⟩:=a_9 (xs:=t.xs) (c:=t.cap) (show k ≤ t.xs.length by omega)
          obtain ⟨d2,hd2⟩:=c_A (xs:=t.xs) (c:=t.cap) (show k + 1 ≤ t.xs.length by omega)
          have hd1':slI t 0 (k:Int) = some ⟨t.xs.take k,d1⟩:=hd1
          have hd2':slI t ((k + 1:Nat):Int) (a_e t) = some ⟨t.xs.drop (k + 1),d2⟩:=hd2
          rw [if_neg (by decide),lrl,hd1',Option.bind_some,appN (by simp;omega),Option.bind_some,ckS (by omega) (by omega),Option.bind_some,b_o,hd2',Option.bind_some,appN (by simp;omega),Option.bind_some,Option.bind_some,sD3 hq (hany.trans ha)]
          refine ⟨_,rfl,?_⟩
          have e:([] ++ t.xs.take k) ++ t.xs.drop (k + 1) = t.xs.take k ++ t.xs.drop (k + 1):=by simp
          show Out ⟨([] ++ t.xs.take k) ++ t.xs.drop (k + 1),_⟩ _
          rw [e]
          exact Out.del h k
      · rw [if_neg (by simp [h4]),ixN hk',Option.bind_some]
        by_cases hw:t.xs[k].2.1 = 1
        · have hm:((t.xs.map nd)[k]?).map (·.2.1) = some 1:=by rw [hat];simp [nd,hw]
          have hany:((t.xs.map nd).any fun y=>y.2.2 == e.2.2.2) = t.xs.any fun y=>y.2.2 == e.2.2.2:=d_G _ _
          have e3:=p14_l3_eq n t e h n 0 (by omega) (by omega)
          have e3':p14_l3 n t e n 0 = some (if e.2.1 = 2 ∧ (t.xs.any fun y=>y.2.2 == e.2.2.2) = true then .inr (⟨[],some 0⟩,8) else .inl ()):=by rw [List.drop_zero] at e3;exact e3
          rw [if_neg (by simp [hw]),e3',Option.bind_some]
          by_cases h3:e.2.1 = 2 ∧ (t.xs.any fun y=>y.2.2 == e.2.2.2) = true
          · rw [if_pos h3,lrr,sS3 hq h1 h4 hm ⟨h3.1,hany.trans h3.2⟩]
            exact ⟨_,rfl,Out.nil⟩
          · have ha:c_K ([]:List Nd) t.xs = some t.xs:=appN (by simp;omega)
            have hset:∀ z:Nd,(t.xs.set k z)[k]? = some z:=fun z=>by simp [hk']
            rw [if_neg h3,lrl,ha,Option.bind_some,ixN hk',Option.bind_some]
            simp only [Int.toNat_natCast]
            rw [d_a,hset,Option.bind_some,sS4 hq h1 h4 hm (by rw [hany];exact h3),List.set_set]
            refine ⟨_,rfl,?_⟩
            have ho:=Out.set h hk' (w:=e.2.1) (ad:=e.2.2.2) (c:=a_Q (some 0) t.xs.length)
            rw [hp] at ho
            exact ho
        · have hm:¬ ((t.xs.map nd)[k]?).map (·.2.1) = some 1:=by rw [hat];simp [nd,hw]
          rw [if_pos (by simpa using hw),sS2 hq h1 h4 hm]
          exact ⟨_,rfl,Out.nil⟩
def b_L (p:Int):Bool:=decide (1 ≤ p) && decide (p ≤ 7)
def b_0 (p:List Int):Bool:=decide (1 ≤ p.length) && decide (p.length ≤ 6) && p.all b_L
def adr (w ad:Int):Bool:=if w = 2 then decide (1 ≤ ad) && decide (ad ≤ 127) else decide (ad = 0)
theorem p53_eq (n:Nat) (a:Int):p53 n a = some (!b_L a):=by
  unfold p53 b_L
  rw [orS,Option.bind_some]
  congr 1
  by_cases h1:a < 1
  · rw [decide_eq_true h1,decide_eq_false (show ¬ 1 ≤ a by omega)];rfl
  · by_cases h2:a > 7
    · rw [decide_eq_true h2,decide_eq_false (show ¬ a ≤ 7 by omega)];simp
    · rw [decide_eq_false h1,decide_eq_false h2,decide_eq_true (show 1 ≤ a by omega),decide_eq_true (show a ≤ 7 by omega)];rfl
theorem p63_53_l1_eq (n:Nat) (x0:Sl Int) (hL:x0.xs.length ≤ 9223372036854775807):∀ (m k:Nat),x0.xs.length < k + m → k ≤ x0.xs.length →
    (p63_53_l1 n x0 m k = some (.inl ()) ∧ (x0.xs.drop k).all b_L = true) ∨ (∃ z:Int,0 ≤ z ∧ p63_53_l1 n x0 m k = some (.inr z) ∧ (x0.xs.drop k).all b_L = false):=by
  intro m
  induction m with
  | zero=>intro k h hk;omega
  | succ m IH =>
    intro k h hk
    rw [p63_53_l1]
    by_cases hlt:k < x0.xs.length
    · rw [if_pos (decide_eq_true (show (k:Int) < a_e x0 by unfold a_e;omega)),ixN hlt,Option.bind_some,p53_eq,Option.bind_some,List.drop_eq_getElem_cons hlt,List.all_cons]
      cases hb:b_L x0.xs[k] with
      | true=>rw [if_neg (by decide),ckS (by omega) (by omega),Option.bind_some,b_o];exact IH (k + 1) (by omega) (by omega)
      | false=>rw [if_pos (by rfl)];exact .inr ⟨_,by omega,rfl,rfl⟩
    · rw [if_neg (by rw [decide_eq_true_eq];unfold a_e;omega),List.drop_eq_nil_of_le (by omega)]
      exact .inl ⟨rfl,rfl⟩
theorem p52_eq (n:Nat) (x0:Sl Int) (hn:x0.xs.length < n) (hL:x0.xs.length ≤ 9223372036854775807):p52_53 n x0 = some (!x0.xs.all b_L):=by
  unfold p52_53 p63_53
  rcases p63_53_l1_eq n x0 hL n 0 (by omega) (by omega) with ⟨h1,h2⟩ | ⟨z,hz,h1,h2⟩
  · have h1':p63_53_l1 n x0 n 0 = some (.inl ()):=h1
    have h2':x0.xs.all b_L = true:=by simpa using h2
    rw [h1',Option.bind_some,lrl,Option.bind_some,h2']
    rfl
  · have h1':p63_53_l1 n x0 n 0 = some (.inr z):=h1
    have h2':x0.xs.all b_L = false:=by simpa only [List.drop_zero] using h2
    rw [h1',Option.bind_some,lrr,Option.bind_some,h2',decide_eq_true (by omega)]
    rfl
theorem p32_eq (n:Nat) (x0:Sl Int) (hn:x0.xs.length < n) (hL:x0.xs.length ≤ 9223372036854775807):p32 n x0 = some (b_0 x0.xs):=by
  unfold p32 p29 b_0
  by_cases h0:x0.xs.length = 0
  · rw [if_neg (by rw [decide_eq_true_eq];unfold a_e;omega),Option.bind_some,decide_eq_false (by omega:¬ 1 ≤ x0.xs.length)];rfl
  · rw [if_pos (decide_eq_true (by unfold a_e;omega)),decide_eq_false (by unfold a_e;omega:¬ a_e x0 < 1),if_pos rfl,Option.bind_some,decide_eq_true (by omega:1 ≤ x0.xs.length)]
    by_cases h6:x0.xs.length ≤ 6
    · rw [decide_eq_false (by unfold a_e;omega:¬ a_e x0 > 6),if_pos rfl,p52_eq n x0 hn hL,Option.bind_some,Option.bind_some,decide_eq_true h6]
      cases x0.xs.all b_L <;> rfl
    · rw [decide_eq_true (by unfold a_e;omega:a_e x0 > 6),if_neg (by decide),Option.bind_some,if_pos rfl,decide_eq_false h6]
      rfl
theorem p33_eq (n:Nat) (w ad:Int):p33 n w ad = some (adr w ad):=by
  unfold p33 adr
  by_cases h:w = 2
  · rw [if_pos (by simp [h]),if_pos h,andS,Option.bind_some]
  · rw [if_neg (by simp [h]),if_neg h]
    congr 1
theorem plcd_iff {p:List Int}:b_0 p = true ↔ (1 ≤ p.length ∧ p.length ≤ 6) ∧ ∀ a ∈ p,1 ≤ a ∧ a ≤ 7:=by simp [b_0,b_L,List.all_eq_true]
def Own (T:Sl Nd):Prop:=T.cap = some T.xs.length ∧ ∀ y ∈ T.xs,y.1.cap = some y.1.xs.length
theorem step_err (t:List N) (w:Int) (p:List Int) (ad:Int):(a_O t w p ad).2 ≠ 0 → (a_O t w p ad).1 = []:=by
  unfold a_O
  repeat' split
  all_goals simp
theorem Out.own {n:Nat} {l:List Nd} {c:Option Nat} {r:List N} (h:Out ⟨l,c⟩ r):Out ⟨l.map d_p,some l.length⟩ r ∧ Own ⟨l.map d_p,some l.length⟩:=by
  obtain ⟨h1,h2,h3⟩:=h
  refine ⟨⟨?_,by simpa using h2,?_⟩,by simp [],?_⟩
  · rw [← h1];simp [List.map_map];intros;rfl
  · intro y hy
    obtain ⟨z,hz,rfl⟩:=List.mem_map.1 hy
    exact h3 z hz
  · intro y hy
    obtain ⟨z,hz,rfl⟩:=List.mem_map.1 hy
    rfl
theorem p30_eq {n:Nat} {t:Sl Nd} (h:Bd n t.xs) (e:Int × Int × (Sl Int) × Int) (hw:1 ≤ e.2.1 ∧ e.2.1 ≤ 4) (hp:b_0 e.2.2.1.xs = true) (ha:adr e.2.1 e.2.2.2 = true) :
    ∃ T:Sl Nd,p30 n t e = some (T,(a_O (t.xs.map nd) e.2.1 e.2.2.1.xs e.2.2.2).2) ∧ Out T (a_O (t.xs.map nd) e.2.1 e.2.2.1.xs e.2.2.2).1 ∧ Own T:=by
  have hb:=h.big;have hf:=h.few
  have hpl:=(plcd_iff.1 hp).1
  have key:∀ T:Sl Nd,Out T (a_O (t.xs.map nd) e.2.1 e.2.2.1.xs e.2.2.2).1 → ∃ T':Sl Nd,(if ((a_O (t.xs.map nd) e.2.1 e.2.2.1.xs e.2.2.2).2 != 0) then (some ((⟨[],some 0⟩:Sl Nd),(a_O (t.xs.map nd) e.2.1 e.2.2.1.xs e.2.2.2).2)) else (p45 n (⟨T.xs,.none⟩:Sl Nd)).bind fun t_138=>some ((⟨t_138.xs,t_138.cap⟩:Sl Nd),0)) = some (T',(a_O (t.xs.map nd) e.2.1 e.2.2.1.xs e.2.2.2).2) ∧ Out T' (a_O (t.xs.map nd) e.2.1 e.2.2.1.xs e.2.2.2).1 ∧ Own T':=by
    intro T hT
    by_cases h0:(a_O (t.xs.map nd) e.2.1 e.2.2.1.xs e.2.2.2).2 = 0
    · rw [if_neg (by simp [h0]),p45_eq n ⟨T.xs,.none⟩ (by have:=hT.2.1;show T.xs.length < n;omega) (by have:=hT.2.1;show T.xs.length ≤ 1000000;omega) (fun y hy=>by have:=hT.2.2 y hy;omega),Option.bind_some,h0]
      obtain ⟨o1,o2⟩:=Out.own (n:=n) (c:=T.cap) (show Out ⟨T.xs,T.cap⟩ _ from hT)
      exact ⟨_,rfl,o1,o2⟩
    · rw [if_pos (by simpa using h0),step_err _ _ _ _ h0]
      exact ⟨_,rfl,Out.nil,rfl,fun y hy=>by cases hy⟩
  unfold p30
  rw [decide_eq_false (by omega:¬ e.2.1 < 1),if_pos rfl,Option.bind_some,decide_eq_false (by omega:¬ e.2.1 > 4),if_pos rfl,p32_eq n _ (by omega) (by omega),Option.bind_some,hp,Option.bind_some]
  simp only [Bool.not_true,if_true,if_neg (show ¬ (false = true) by decide)]
  rw [p33_eq,Option.bind_some,ha,Option.bind_some]
  simp only [Bool.not_true,if_neg (show ¬ (false = true) by decide)]
  have hne:e.2.2.1.xs ≠ []:=fun h=>by rw [h] at hpl;simp at hpl
  by_cases h1:e.2.1 = 1
  · rw [if_pos (by simp [h1])]
    rw [h1] at key ⊢
    obtain ⟨T,hT,ho⟩:=p54_eq h e.2.2.1 hne (by omega) e.2.2.2
    rw [hT]
    exact key T ho
  · by_cases h4:e.2.1 = 4
    · rw [if_neg (by simp [h1]),if_pos (by simp [h4])]
      rw [h4] at key ⊢
      obtain ⟨T,hT,ho⟩:=p55_eq h e.2.2.1 e.2.2.2
      rw [hT]
      exact key T ho
    · rw [if_neg (by simp [h1]),if_neg (by simp [h4])]
      obtain ⟨T,hT,ho⟩:=p56_eq h e h1 h4
      rw [hT]
      exact key T ho
def BefR (a b:N):Prop:=bef a.1 b.1 = true
def AdrR (a b:N):Prop:=a.2.1 = 2 → b.2.1 = 2 → a.2.2 ≠ b.2.2
structure V (t:List N):Prop where
  few:t.length ≤ 127
  nodes:∀ y ∈ t,b_0 y.1 = true ∧ (1 ≤ y.2.1 ∧ y.2.1 ≤ 3) ∧ adr y.2.1 y.2.2 = true
  par:∀ y ∈ t,y.1.length = 1 ∨ ∃ z ∈ t,z.1 = y.1.dropLast ∧ z.2.1 = 2
  ord:t.Pairwise BefR
  adrs:t.Pairwise AdrR
theorem V.nil:V []:=⟨by simp,fun y hy=>(by cases hy),fun y hy=>(by cases hy),.nil,.nil⟩
theorem V.bd {n:Nat} {t:List Nd} (hn:1000 < n) (h:V (t.map nd)):Bd n t:=⟨hn,by have:=h.few;simp at this;omega,fun y hy=>by
  have:=(plcd_iff.1 (h.nodes (nd y) (List.mem_map_of_mem hy)).1).1
  have e:(nd y).1 = y.1.xs:=rfl
  rw [e] at this
  omega⟩
theorem ord_inj {t:List N} (h:t.Pairwise BefR) {i j:Nat} (hi:i < t.length) (hj:j < t.length) (e:t[i].1 = t[j].1):i = j:=by
  rw [List.pairwise_iff_getElem] at h
  rcases Nat.lt_trichotomy i j with hlt | he | hgt
  · have:=h i j hi hj hlt
    unfold BefR at this
    rw [e,b_8] at this
    cases this
  · exact he
  · have:=h j i hj hi hgt
    unfold BefR at this
    rw [e,b_8] at this
    cases this
theorem fnd_at {t:List N} (h:t.Pairwise BefR) {j:Nat} (hj:j < t.length):fnd t t[j].1 = some j:=by
  cases hf:fnd t t[j].1 with
  | none=>exact absurd rfl (c_B hf _ (List.getElem_mem hj))
  | some i =>
    obtain ⟨hi,e⟩:=b_K hf
    rw [ord_inj h hi hj e]
theorem hel_of {t:List N} (h:t.Pairwise BefR) {p:List Int} (hp:p.length = 1 ∨ ∃ j,∃ hj:j < t.length,(t[j]'hj).1 = p.dropLast ∧ (t[j]'hj).2.1 = 2):hel t p = true:=by
  unfold hel
  rcases hp with h1 | ⟨j,hj,e1,e2⟩
  · rw [decide_eq_true h1];rfl
  · rw [← e1,fnd_at h hj]
    simp [List.getElem?_eq_getElem hj,e2]
theorem of_hel {t:List N} {p:List Int} (h:hel t p = true):p.length = 1 ∨ ∃ z ∈ t,z.1 = p.dropLast ∧ z.2.1 = 2:=by
  unfold hel at h
  rw [Bool.or_eq_true] at h
  rcases h with h | h
  · exact .inl (of_decide_eq_true h)
  · cases hf:fnd t p.dropLast with
    | none=>rw [hf] at h;cases h
    | some k =>
      obtain ⟨hk,e⟩:=b_K hf
      rw [hf] at h
      simp [List.getElem?_eq_getElem hk] at h
      exact .inr ⟨_,List.getElem_mem hk,e,h⟩
theorem d_Z (p:List Int):∀ {t:List N},t.Pairwise BefR → (∀ y ∈ t,y.1 ≠ p) → ∀ b ∈ t.dropWhile (fun y=>bef y.1 p),bef p b.1 = true
  | [],_,_,b,hb=>by cases hb
  | y :: t,h,hn,b,hb=>by
    rw [List.pairwise_cons] at h
    rw [List.dropWhile_cons] at hb
    cases hy:bef y.1 p with
    | true =>
      rw [if_pos hy] at hb
      exact d_Z p h.2 (fun z hz=>hn z (by simp [hz])) b hb
    | false =>
      rw [if_neg (by simp [hy])] at hb
      have hpy:bef p y.1 = true:=by
        cases hq:bef p y.1 with
        | true=>rfl
        | false=>exact absurd (bef_eq _ _ hy hq) (hn y (by simp))
      rcases List.mem_cons.1 hb with rfl | hb
      · exact hpy
      · exact b_W _ _ _ hpy (h.1 b hb)
theorem d_0 (p:List Int):∀ {t:List N},∀ b ∈ t.takeWhile (fun y=>bef y.1 p),bef b.1 p = true
  | [],b,hb=>by cases hb
  | y :: t,b,hb=>by
    rw [List.takeWhile_cons] at hb
    cases hy:bef y.1 p with
    | true =>
      rw [if_pos hy] at hb
      rcases List.mem_cons.1 hb with rfl | hb
      · exact hy
      · exact d_0 p b hb
    | false=>rw [if_neg (by simp [hy])] at hb;cases hb
theorem pos_split (t:List N) (p:List Int):t.take (b_J t p) = t.takeWhile (fun y=>bef y.1 p) ∧ t.drop (b_J t p) = t.dropWhile (fun y=>bef y.1 p):=by
  have e:t.takeWhile (fun y=>bef y.1 p) ++ t.dropWhile (fun y=>bef y.1 p) = t:=List.takeWhile_append_dropWhile
  refine ⟨?_,?_⟩
  · have:=List.take_left' (l₁:=t.takeWhile (fun y=>bef y.1 p)) (l₂:=t.dropWhile (fun y=>bef y.1 p)) (i:=b_J t p) rfl
    rw [e] at this;exact this
  · have:=List.drop_left' (l₁:=t.takeWhile (fun y=>bef y.1 p)) (l₂:=t.dropWhile (fun y=>bef y.1 p)) (i:=b_J t p) rfl
    rw [e] at this;exact this
theorem V.ins {t:List N} (h:V t) {p:List Int} (hp:b_0 p = true) (hf:fnd t p = none) (hh:hel t p = true) (hl:¬ 127 ≤ t.length):V (t.take (b_J t p) ++ (p,1,0) :: t.drop (b_J t p)):=by
  have mem:∀ z ∈ t,z ∈ t.take (b_J t p) ++ (p,1,0) :: t.drop (b_J t p):=fun z hz=>by
    rw [← List.take_append_drop (b_J t p) t,List.mem_append] at hz
    rw [List.mem_append,List.mem_cons]
    rcases hz with hz | hz
    · exact .inl hz
    · exact .inr (.inr hz)
  have old:∀ z ∈ t.take (b_J t p) ++ (p,1,0) :: t.drop (b_J t p),z = (p,1,0) ∨ z ∈ t:=fun z hz=>by
    rw [List.mem_append,List.mem_cons] at hz
    rcases hz with hz | hz | hz
    · exact .inr (List.mem_of_mem_take hz)
    · exact .inl hz
    · exact .inr (List.mem_of_mem_drop hz)
  have hn:=c_B hf
  refine ⟨by simp;omega,fun y hy=>?_,fun y hy=>?_,?_,?_⟩
  · rcases old y hy with rfl | hy
    · exact ⟨hp,by show (1:Int) ≤ 1 ∧ (1:Int) ≤ 3;omega,rfl⟩
    · exact h.nodes y hy
  · rcases old y hy with rfl | hy
    · rcases of_hel hh with h1 | ⟨z,hz,e⟩
      · exact .inl h1
      · exact .inr ⟨z,mem z hz,e⟩
    · rcases h.par y hy with h1 | ⟨z,hz,e⟩
      · exact .inl h1
      · exact .inr ⟨z,mem z hz,e⟩
  · obtain ⟨e1,e2⟩:=pos_split t p
    have hd:=d_Z p h.ord hn
    have ht:=d_0 p (t:=t)
    rw [List.pairwise_append,List.pairwise_cons]
    refine ⟨h.ord.sublist (List.take_sublist _ _),⟨fun b hb=>?_,h.ord.sublist (List.drop_sublist _ _)⟩,fun a ha b hb=>?_⟩
    · rw [e2] at hb;exact hd b hb
    · rw [e1] at ha
      rcases List.mem_cons.1 hb with rfl | hb
      · exact ht a ha
      · rw [e2] at hb;exact b_W _ _ _ (ht a ha) (hd b hb)
  · have ho:=h.adrs
    rw [← List.take_append_drop (b_J t p) t,List.pairwise_append] at ho
    rw [List.pairwise_append,List.pairwise_cons]
    refine ⟨ho.1,⟨fun b hb h1=>?_,ho.2.1⟩,fun a ha b hb=>?_⟩
    · cases h1
    · rcases List.mem_cons.1 hb with rfl | hb
      · intro _ h2;cases h2
      · exact ho.2.2 a ha b hb
theorem V.del {t:List N} (h:V t) {p:List Int} {k:Nat} (hf:fnd t p = some k) (ht:(t.any fun y=>thr y.1 p) = false):V (t.eraseIdx k):=by
  obtain ⟨hk,hp⟩:=b_K hf
  have sub:=List.eraseIdx_sublist t k
  refine ⟨by have:=sub.length_le;have:=h.few;omega,fun y hy=>h.nodes y (sub.subset hy),fun y hy=>?_,h.ord.sublist sub,h.adrs.sublist sub⟩
  have hy':=sub.subset hy
  rcases h.par y hy' with h1 | ⟨z,hz,e,e2⟩
  · exact .inl h1
  · refine .inr ⟨z,?_,e,e2⟩
    obtain ⟨i,hi,rfl⟩:=List.mem_iff_getElem.1 hz
    rw [List.mem_eraseIdx_iff_getElem]
    refine ⟨i,hi,fun hik=>?_,rfl⟩
    subst hik
    have hne:1 ≤ y.1.length:=(plcd_iff.1 (h.nodes y hy').1).1.1
    have hthr:thr y.1 p = true:=by
      unfold thr
      rw [← hp,e,Bool.and_eq_true,decide_eq_true_eq,decide_eq_true_eq,List.length_dropLast]
      exact ⟨by omega,by rw [List.dropLast_eq_take]⟩
    have:=List.any_eq_false.1 ht y hy'
    exact this hthr
theorem V.set {t:List N} (h:V t) {p:List Int} {k:Nat} {w ad:Int} (hf:fnd t p = some k) (hw:1 ≤ w ∧ w ≤ 4) (h1:w ≠ 1) (h4:w ≠ 4) (ha:adr w ad = true)
    (hm:(t[k]?).map (·.2.1) = some 1) (h3:¬ (w = 2 ∧ (t.any fun y=>y.2.2 == ad) = true)):V (t.set k (p,w,ad)):=by
  obtain ⟨hk,hp⟩:=b_K hf
  rw [List.getElem?_eq_getElem hk] at hm
  have hm:t[k].2.1 = 1:=Option.some.inj hm
  have at_:∀ i (hi:i < (t.set k (p,w,ad)).length),(t.set k (p,w,ad))[i] = (p,w,ad) ∧ i = k ∨ (∃ hi':i < t.length,(t.set k (p,w,ad))[i] = t[i] ∧ i ≠ k):=fun i hi=>by
    rw [List.getElem_set]
    by_cases e:k = i
    · exact .inl ⟨if_pos e,e.symm⟩
    · exact .inr ⟨by simpa using hi,if_neg e,fun h=>e h.symm⟩
  have keep:∀ z ∈ t,z.2.1 = 2 → z ∈ t.set k (p,w,ad):=fun z hz h2=>by
    obtain ⟨i,hi,rfl⟩:=List.mem_iff_getElem.1 hz
    have hik:k ≠ i:=fun e=>by subst e;rw [hm] at h2;cases h2
    exact List.mem_iff_getElem.2 ⟨i,by simpa using hi,by rw [List.getElem_set,if_neg hik]⟩
  refine ⟨by simpa using h.few,fun y hy=>?_,fun y hy=>?_,?_,?_⟩
  · rcases List.mem_or_eq_of_mem_set hy with hy | rfl
    · exact h.nodes y hy
    · exact ⟨by rw [← hp];exact (h.nodes _ (List.getElem_mem hk)).1,by show 1 ≤ w ∧ w ≤ 3;omega,ha⟩
  · have:y.1.length = 1 ∨ ∃ z ∈ t,z.1 = y.1.dropLast ∧ z.2.1 = 2:=by
      rcases List.mem_or_eq_of_mem_set hy with hy | rfl
      · exact h.par y hy
      · have:=h.par _ (List.getElem_mem hk)
        rw [hp] at this
        exact this
    rcases this with h1 | ⟨z,hz,e,e2⟩
    · exact .inl h1
    · exact .inr ⟨z,keep z hz e2,e,e2⟩
  · have ho:=h.ord
    rw [List.pairwise_iff_getElem] at ho ⊢
    intro i j hi hj hij
    have hpath:∀ i (hi:i < (t.set k (p,w,ad)).length),∃ hi':i < t.length,((t.set k (p,w,ad))[i]).1 = t[i].1:=fun i hi=>by
      rcases at_ i hi with ⟨e,rfl⟩ | ⟨hi',e,_⟩
      · exact ⟨hk,by rw [e];exact hp.symm⟩
      · exact ⟨hi',by rw [e]⟩
    obtain ⟨hi',e1⟩:=hpath i hi
    obtain ⟨hj',e2⟩:=hpath j hj
    unfold BefR
    rw [e1,e2]
    exact ho i j hi' hj' hij
  · have ho:=h.adrs
    rw [List.pairwise_iff_getElem] at ho ⊢
    intro i j hi hj hij
    have hno:w = 2 → ∀ y ∈ t,y.2.2 ≠ ad:=fun h2 y hy e=>h3 ⟨h2,List.any_eq_true.2 ⟨y,hy,by simpa using e⟩⟩
    rcases at_ i hi with ⟨e1,rfl⟩ | ⟨hi',e1,_⟩
    · rcases at_ j hj with ⟨e2,rfl⟩ | ⟨hj',e2,_⟩
      · omega
      · rw [e1,e2];exact fun g1 g2 e=>hno g1 _ (List.getElem_mem hj') e.symm
    · rcases at_ j hj with ⟨e2,rfl⟩ | ⟨hj',e2,_⟩
      · rw [e1,e2];exact fun g1 g2 e=>hno g2 _ (List.getElem_mem hi') e
      · rw [e1,e2];exact ho i j hi' hj' hij
theorem V.step {t:List N} (h:V t) {w ad:Int} {p:List Int} (hw:1 ≤ w ∧ w ≤ 4) (hp:b_0 p = true) (ha:adr w ad = true):V (a_O t w p ad).1:=by
  cases hf:fnd t p with
  | none =>
    by_cases h1:w = 1
    · subst h1
      cases hh:hel t p with
      | false=>rw [sA2 hf hh];exact V.nil
      | true =>
        by_cases h3:127 ≤ t.length
        · rw [sA3 hf hh h3];exact V.nil
        · rw [sA4 hf hh h3];exact h.ins hp hf hh h3
    · rw [sD1 hf h1];exact V.nil
  | some k =>
    by_cases h1:w = 1
    · subst h1;rw [sA1 hf];exact V.nil
    · by_cases h4:w = 4
      · subst h4
        cases ht:t.any fun y=>thr y.1 p with
        | true=>rw [sD2 hf ht];exact V.nil
        | false=>rw [sD3 hf ht];exact h.del hf ht
      · by_cases hm:(t[k]?).map (·.2.1) = some 1
        · by_cases h3:w = 2 ∧ (t.any fun y=>y.2.2 == ad) = true
          · rw [sS3 hf h1 h4 hm h3];exact V.nil
          · rw [sS4 hf h1 h4 hm h3];exact h.set hf hw h1 h4 ha hm h3
        · rw [sS2 hf h1 h4 hm];exact V.nil
theorem p10_l1_eq {n:Nat} {x0:Sl Nd} (hn:1000 < n) (h:V (x0.xs.map nd)):∀ (m k:Nat) (S:List Int),x0.xs.length < k + m → k ≤ x0.xs.length →
    (∀ a ∈ S,∃ j,∃ hj:j < x0.xs.length,j < k ∧ (x0.xs[j]).2.1 = 2 ∧ (x0.xs[j]).2.2 = a) → ∃ S',p10_l1 n x0 m k S = some (.inl S'):=by
  intro m
  have hbd:=h.bd hn
  have hf:=hbd.few
  induction m with
  | zero=>intro k S h hk;omega
  | succ m IH =>
    intro k S hkm hk hS
    rw [p10_l1]
    by_cases hlt:k < x0.xs.length
    · have hkn:k < (x0.xs.map nd).length:=by simpa using hlt
      have hg:(x0.xs.map nd)[k] = nd x0.xs[k]:=List.getElem_map _
      have hm:nd x0.xs[k] ∈ x0.xs.map nd:=List.mem_map_of_mem (List.getElem_mem hlt)
      obtain ⟨v1,v2,v3⟩:=h.nodes _ hm
      have v1:b_0 x0.xs[k].1.xs = true:=v1
      have v2:1 ≤ x0.xs[k].2.1 ∧ x0.xs[k].2.1 ≤ 3:=v2
      have v3:adr x0.xs[k].2.1 x0.xs[k].2.2 = true:=v3
      have vl:=(plcd_iff.1 v1).1
      obtain ⟨d,hd⟩:=a_9 (xs:=x0.xs) (c:=x0.cap) (show k ≤ x0.xs.length by omega)
      have hd':slI x0 0 (k:Int) = some ⟨x0.xs.take k,d⟩:=hd
      have hhel:hel ((x0.xs.take k).map nd) x0.xs[k].1.xs = true:=by
        rw [List.map_take]
        refine hel_of (h.ord.sublist (List.take_sublist _ _)) ?_
        rcases h.par _ hm with h1 | ⟨z,hz,e1,e2⟩
        · exact .inl h1
        · obtain ⟨j,hj,rfl⟩:=List.mem_iff_getElem.1 hz
          have hjk:j < k:=by
            have ho:=h.ord
            rw [List.pairwise_iff_getElem] at ho
            have hb:bef (x0.xs.map nd)[j].1 (x0.xs.map nd)[k].1 = true:=by
              rw [e1,hg]
              exact b_X _ (fun e=>by rw [show (nd x0.xs[k]).1 = x0.xs[k].1.xs from rfl] at e;rw [e] at vl;simp at vl)
            rcases Nat.lt_trichotomy j k with hlt2 | he | hgt
            · exact hlt2
            · subst he;rw [b_8] at hb;cases hb
            · have h2:=ho k j hkn hj hgt
              unfold BefR at h2
              rw [d_F _ _ h2] at hb
              cases hb
          refine .inr ⟨j,by rw [List.length_take];omega,?_⟩
          rw [List.getElem_take]
          exact ⟨e1,e2⟩
      rw [if_pos (decide_eq_true (show (k:Int) < a_e x0 by unfold a_e;omega)),ixN hlt,Option.bind_some,p32_eq n _ (by omega) (by omega),Option.bind_some,v1,decide_eq_false (show ¬ x0.xs[k].2.1 < 1 by omega),decide_eq_false (show ¬ x0.xs[k].2.1 > 3 by omega),p33_eq,v3,hd']
      simp only [Bool.not_true,Bool.false_eq_true,if_false,if_true,Option.bind_some]
      rw [p34_eq (t:=⟨x0.xs.take k,d⟩) ⟨hn,by simp;omega,fun y hy=>hbd.short y (List.mem_of_mem_take hy)⟩ _ (fun e=>by rw [e] at vl;simp at vl) (by omega),Option.bind_some,Option.bind_some]
      rw [hhel]
      simp only [Bool.not_true,if_neg (show ¬ (false = true) by decide)]
      obtain ⟨S2,hcore,hS2⟩:∃ S2,(if (x0.xs[k].2.1 == 2) = true then ((p36 n S x0.xs[k].2.2).bind fun t_421=>some ((!t_421.1),t_421.2)) else (some (false,S))) = some (false,S2) ∧ ∀ a ∈ S2,∃ j,∃ hj:j < x0.xs.length,j < k + 1 ∧ (x0.xs[j]).2.1 = 2 ∧ (x0.xs[j]).2.2 = a:=by
        by_cases h2:x0.xs[k].2.1 = 2
        · rw [if_pos (by simp [h2])]
          have hnot:x0.xs[k].2.2 ∉ S:=fun hm2=>by
            obtain ⟨j,hj,hjk,e1,e2⟩:=hS _ hm2
            have ho:=h.adrs
            rw [List.pairwise_iff_getElem] at ho
            have:=ho j k (by simpa using hj) hkn hjk
            rw [List.getElem_map,List.getElem_map] at this
            exact this e1 h2 e2
          refine ⟨insK x0.xs[k].2.2 S,?_,fun a ha=>?_⟩
          · unfold p36
            rw [Option.bind_some,decide_eq_false hnot]
            rfl
          · unfold insK at ha
            rw [if_neg hnot,List.mem_append,List.mem_singleton] at ha
            rcases ha with ha | rfl
            · obtain ⟨j,hj,hjk,e⟩:=hS a ha
              exact ⟨j,hj,by omega,e⟩
            · exact ⟨k,hlt,by omega,h2,rfl⟩
        · refine ⟨S,if_neg (by simp [h2]),fun a ha=>?_⟩
          obtain ⟨j,hj,hjk,e⟩:=hS a ha
          exact ⟨j,hj,by omega,e⟩
      have hj:(if (decide ((k:Int) > 0)) = true then ((ckI .i64 ((k:Int) - 1)).bind fun x_371=>(idx x0.xs x_371).bind fun y_372=>(p35 n y_372.1 x0.xs[k].1).bind fun t_380=>(if (decide (t_380 ≥ 0)) = true then (some (true,S)) else ((if (x0.xs[k].2.1 == 2) = true then ((p36 n S x0.xs[k].2.2).bind fun t_421=>some ((!t_421.1),t_421.2)) else (some (false,S)))))) else ((if (x0.xs[k].2.1 == 2) = true then ((p36 n S x0.xs[k].2.2).bind fun t_546=>some ((!t_546.1),t_546.2)) else (some (false,S))))) = some (false,S2):=by
        by_cases h0:k = 0
        · rw [if_neg (by rw [decide_eq_true_eq];omega)];exact hcore
        · have hb:bef x0.xs[k - 1].1.xs x0.xs[k].1.xs = true:=by
            have ho:=h.ord
            rw [List.pairwise_iff_getElem] at ho
            have:=ho (k - 1) k (by simp;omega) hkn (by omega)
            rw [List.getElem_map,List.getElem_map] at this
            exact this
          have hs:=hbd.short _ (List.getElem_mem (show k - 1 < x0.xs.length by omega))
          rw [d_o] at hb
          have hb:=of_decide_eq_true hb
          rw [if_pos (decide_eq_true (by omega)),show ckI .i64 ((k:Int) - 1) = some ((k - 1:Nat):Int) from (ckS (by omega) (by omega)).trans (by congr 1;omega),Option.bind_some,ixN (by omega),Option.bind_some,p35_eq n _ _ (by omega) (by omega),Option.bind_some,if_neg (by rw [decide_eq_true_eq];omega)]
          exact hcore
      simp only [decide_eq_true_eq] at hj ⊢
      rw [hj,Option.bind_some,if_neg Bool.false_ne_true,ckS (by omega) (by omega),Option.bind_some,b_o]
      exact IH (k + 1) S2 (by omega) (by omega) hS2
    · rw [if_neg (by rw [decide_eq_true_eq];unfold a_e;omega)]
      exact ⟨_,rfl⟩
theorem p10_eq {n:Nat} {x0:Sl Nd} (hn:1000 < n) (h:V (x0.xs.map nd)):p10 n x0 = some 0:=by
  have hf:=(h.bd hn).few
  have h127:=h.few
  rw [List.length_map] at h127
  obtain ⟨S,hS⟩:=p10_l1_eq hn h n 0 [] (by omega) (by omega) (fun a ha=>by cases ha)
  have hS':p10_l1 n x0 n 0 [] = some (.inl S):=hS
  unfold p10 p31
  rw [if_neg (by rw [decide_eq_true_eq];unfold a_e;omega),Option.bind_some,hS',Option.bind_some,lrl]
def EvOk (e:Int × Int × (Sl Int) × Int):Prop:=(1 ≤ e.2.1 ∧ e.2.1 ≤ 4) ∧ b_0 e.2.2.1.xs = true ∧ adr e.2.1 e.2.2.2 = true
theorem V.inj {t:List N} (h:V t) {x y:N} (hx:x ∈ t) (hy:y ∈ t) (e:x.1 = y.1):x = y:=by
  obtain ⟨i,hi,rfl⟩:=List.mem_iff_getElem.1 hx
  obtain ⟨j,hj,rfl⟩:=List.mem_iff_getElem.1 hy
  have:=ord_inj h.ord hi hj e
  subst this
  rfl
def c_U (n:N) (B:List N):Bool:=B.any fun m=>decide (m.1 = n.1) && (decide (n.2.1 = 1) || (decide (n.2.1 = m.2.1) && decide (n.2.2 = m.2.2)))
def goes (n:N) (B g:List N):Bool:=!c_U n B || g.any fun x=>thr n.1 x.1
def d_1 (B:List N):List N → List N → List N → List N × List N
  | [],g,l=>(g,l)
  | n :: r,g,l=>if goes n B g = true then d_1 B r (g ++ [n]) l else d_1 B r g (l ++ [n])
abbrev E3:Type:=Int × List Int × Int
def d_O (L:List N) (p:List Int):Option Int:=(L.find? fun y=>decide (y.1 = p)).map (·.2.1)
def e_c (L:List N) (b:N):List E3:=(if (d_O L b.1).isSome then [] else [(1,b.1,0)]) ++ (if b.2.1 = (d_O L b.1).getD 1 then [] else [(b.2.1,b.1,b.2.2)])
def adds (L B:List N):List E3:=B.flatMap (e_c L)
theorem oldW_some {L:List N} {p:List Int} {w:Int} (h:d_O L p = some w):∃ l ∈ L,l.1 = p ∧ l.2.1 = w:=by
  unfold d_O at h
  cases hf:L.find? (fun y=>decide (y.1 = p)) with
  | none=>rw [hf] at h;cases h
  | some l =>
    rw [hf] at h
    have h1:=List.find?_some hf
    exact ⟨l,List.mem_of_find?_eq_some hf,by simpa using h1,Option.some.inj h⟩
theorem oldW_none {L:List N} {p:List Int} (h:d_O L p = none):∀ l ∈ L,l.1 ≠ p:=by
  unfold d_O at h
  rw [Option.map_eq_none_iff,List.find?_eq_none] at h
  exact fun l hl e=>h l hl (by simp [e])
theorem ad0 {w ad:Int} (h:adr w ad = true) (hw:w ≠ 2):ad = 0:=by
  unfold adr at h
  rw [if_neg hw] at h
  simpa using h
theorem ad2 {ad:Int} (h:adr 2 ad = true):1 ≤ ad:=by
  unfold adr at h
  rw [if_pos rfl] at h
  simp at h
  exact h.1
theorem stays_iff {n:N} {B:List N}:c_U n B = true ↔ ∃ m ∈ B,m.1 = n.1 ∧ (n.2.1 = 1 ∨ (n.2.1 = m.2.1 ∧ n.2.2 = m.2.2)):=by
  unfold c_U
  rw [List.any_eq_true]
  simp
theorem stays_fnd {B:List N} (hB:V B) (n:N):c_U n B = (match fnd B n.1 with | some k=>(match B[k]? with | some m=>decide (n.2.1 = 1) || (decide (n.2.1 = m.2.1) && decide (n.2.2 = m.2.2)) | none=>false) | none=>false):=by
  cases hf:fnd B n.1 with
  | none =>
    have h:=c_B hf
    cases hs:c_U n B with
    | false=>rfl
    | true =>
      obtain ⟨m,hm,e,_⟩:=stays_iff.1 hs
      exact absurd e (h m hm)
  | some k =>
    obtain ⟨hk,e⟩:=b_K hf
    simp only [List.getElem?_eq_getElem hk]
    have key:c_U n B = true ↔ (decide (n.2.1 = 1) || (decide (n.2.1 = B[k].2.1) && decide (n.2.2 = B[k].2.2))) = true:=by
      rw [stays_iff]
      simp only [Bool.or_eq_true,Bool.and_eq_true,decide_eq_true_eq]
      constructor
      · rintro ⟨m,hm,e1,h⟩
        have:m = B[k]:=hB.inj hm (List.getElem_mem hk) (by rw [e1,e])
        rw [← this];exact h
      · exact fun h=>⟨B[k],List.getElem_mem hk,e,h⟩
    exact Bool.eq_iff_iff.2 key
theorem eqI (a b:Int):(a == b) = decide (a = b):=by by_cases h:a = b <;> simp [h]
theorem p46_eq {n:Nat} (hn:1000 < n) (y:Nd) {x1:Sl Nd} (hV:V (x1.xs.map nd)):p46 n y x1 = some (c_U (nd y) (x1.xs.map nd)):=by
  unfold p46
  rw [p38_fnd (hV.bd hn),Option.bind_some,stays_fnd hV,d_Y]
  cases hf:fnd (x1.xs.map nd) (nd y).1 with
  | none =>
    have hf':fnd (x1.xs.map nd) y.1.xs = none:=hf
    rw [hf'];rfl
  | some k =>
    have hf':fnd (x1.xs.map nd) y.1.xs = some k:=hf
    obtain ⟨hk,e⟩:=b_K hf
    have hk2:k < x1.xs.length:=by simpa using hk
    have hix:idx x1.xs (ixO (some k)) = some x1.xs[k]:=ixN hk2
    rw [hf',hix]
    simp only [Option.isSome_some,if_true,List.getElem?_eq_getElem hk,List.getElem_map]
    by_cases h1:y.2.1 = 1
    · rw [if_neg (by simp [h1]),Option.bind_some,Option.bind_some,show decide ((nd y).2.1 = 1) = true from decide_eq_true h1]
      rfl
    · rw [if_pos (by simp [h1]),Option.bind_some,show decide ((nd y).2.1 = 1) = false from decide_eq_false h1]
      by_cases h2:y.2.1 = x1.xs[k].2.1
      · rw [if_pos (by simp [h2]),Option.bind_some,eqI,Option.bind_some,Option.bind_some,Option.bind_some,Bool.false_or,show decide ((nd y).2.1 = (nd x1.xs[k]).2.1) = true from decide_eq_true h2,Bool.true_and]
        rfl
      · rw [if_neg (by simp [h2]),Option.bind_some,Option.bind_some,Option.bind_some,Bool.false_or,show decide ((nd y).2.1 = (nd x1.xs[k]).2.1) = false from decide_eq_false h2,Bool.false_and]
theorem p48_eq (n:Nat) (x y:Nd) (hn:y.1.xs.length < n) (hL:y.1.xs.length ≤ 9223372036854775807):p48 n x y = some (thr y.1.xs x.1.xs):=by
  unfold p48
  rw [p49_eq n y.1 x.1 hn hL,Option.bind_some]
theorem p59_48_l1_eq (n:Nat) (x0:Sl Nd) (p:Nd) (hL:x0.xs.length ≤ 9223372036854775807) (hB:p.1.xs.length < n ∧ p.1.xs.length ≤ 9223372036854775807):∀ (m k:Nat),x0.xs.length < k + m → k ≤ x0.xs.length →
    p59_48_l1 n x0 p m k = some (match (x0.xs.drop k).findIdx? (fun y=>thr p.1.xs y.1.xs) with | some j=>.inr ((k + j:Nat):Int) | none=>.inl ()):=by
  intro m
  induction m with
  | zero=>intro k h hk;omega
  | succ m IH =>
    intro k h hk
    rw [p59_48_l1]
    by_cases hlt:k < x0.xs.length
    · rw [if_pos (decide_eq_true (show (k:Int) < a_e x0 by unfold a_e;omega)),ixN hlt,Option.bind_some,List.drop_eq_getElem_cons hlt,List.findIdx?_cons]
      have hs:=p48_eq n x0.xs[k] p hB.1 hB.2
      rw [hs,Option.bind_some]
      cases hq:(fun y:Nd=>thr p.1.xs y.1.xs) x0.xs[k] with
      | true =>
        have hq':(thr p.1.xs (x0.xs[k]).1.xs) = true:=hq
        rw [hq',if_pos rfl,if_pos (by simp)]
        rfl
      | false =>
        have hq':(thr p.1.xs (x0.xs[k]).1.xs) = false:=hq
        rw [hq',if_neg (by decide),if_neg (by decide),ckS (by omega) (by omega),Option.bind_some,b_o,IH (k + 1) (by omega) (by omega)]
        cases (x0.xs.drop (k + 1)).findIdx? (fun y=>thr p.1.xs y.1.xs) with
        | none=>rfl
        | some j=>simp only [Option.map_some];rw [show k + 1 + j = k + (j + 1) by omega]
    · rw [if_neg (by rw [decide_eq_true_eq];unfold a_e;omega),List.drop_eq_nil_of_le (by omega)]
      rfl
theorem p47_48_eq (n:Nat) (x0:Sl Nd) (p:Nd) (hn:x0.xs.length < n) (hL:x0.xs.length ≤ 9223372036854775807) (hB:p.1.xs.length < n ∧ p.1.xs.length ≤ 9223372036854775807):p47_48 n x0 p = some (x0.xs.any fun y=>thr p.1.xs y.1.xs):=by
  unfold p47_48 p59_48
  have hE_:=p59_48_l1_eq n x0 p hL hB n 0 (by omega) (by omega)
  rw [show (0:Int) = ((0:Nat):Int) from rfl,hE_,Option.bind_some]
  simp only [List.drop_zero]
  rw [← b_9]
  cases x0.xs.findIdx? (fun y=>thr p.1.xs y.1.xs) with
  | none=>rfl
  | some j=>simp only [lrr,Nat.zero_add,Option.bind_some,Option.isSome_some];exact congrArg some (decide_eq_true (by omega))
theorem p25_l2_eq {n:Nat} (hn:1000 < n) {x0 x1:Sl Nd} (h0:V (x0.xs.map nd)) (h1:V (x1.xs.map nd)):∀ (m k:Nat) (l g:List Nd),x0.xs.length < k + m → k ≤ x0.xs.length → g.length ≤ k → l.length ≤ k →
    ∃ G L:List Nd,p25_l2 n x0 x1 m k l g = some (G,L) ∧ G.length ≤ x0.xs.length ∧ L.length ≤ x0.xs.length ∧ (∀ y ∈ G,y ∈ g ∨ y ∈ x0.xs) ∧ (∀ y ∈ L,y ∈ l ∨ y ∈ x0.xs) ∧ (G.map nd,L.map nd) = d_1 (x1.xs.map nd) ((x0.xs.map nd).drop k) (g.map nd) (l.map nd):=by
  have hf:=(h0.bd hn).few
  intro m
  induction m with
  | zero=>intro k l g h hk;omega
  | succ m IH =>
    intro k l g hkm hk hg hl
    rw [p25_l2]
    by_cases hlt:k < x0.xs.length
    · have hs:=(h0.bd hn).short _ (List.getElem_mem hlt)
      have hd:(x0.xs.map nd).drop k = nd x0.xs[k] :: (x0.xs.map nd).drop (k + 1):=by rw [List.drop_eq_getElem_cons (by simpa using hlt),List.getElem_map]
      have hgo:goes (nd x0.xs[k]) (x1.xs.map nd) (g.map nd) = (!c_U (nd x0.xs[k]) (x1.xs.map nd) || g.any fun y=>thr x0.xs[k].1.xs y.1.xs):=by unfold goes;rw [d_G];rfl
      rw [if_pos (decide_eq_true (show (k:Int) < a_e x0 by unfold a_e;omega)),ixN hlt,Option.bind_some,p46_eq hn _ h1,Option.bind_some,p47_48_eq n _ _ (by simp only;omega) (by simp only;omega) ⟨by omega,by omega⟩]
      simp only [Option.bind_some]
      have hor:(if (!c_U (nd x0.xs[k]) (x1.xs.map nd)) = false then some (g.any fun y=>thr x0.xs[k].1.xs y.1.xs) else some true) = some (goes (nd x0.xs[k]) (x1.xs.map nd) (g.map nd)):=by
        rw [hgo]
        cases (!c_U (nd x0.xs[k]) (x1.xs.map nd)) <;> rfl
      rw [hor,Option.bind_some,hd,d_1]
      cases hq:goes (nd x0.xs[k]) (x1.xs.map nd) (g.map nd) with
      | true =>
        rw [if_pos rfl,if_pos rfl,appN (by simp;omega),Option.bind_some,Option.bind_some,ckS (by omega) (by omega),Option.bind_some,b_o]
        obtain ⟨G,L,e,a1,a2,a3,a4,a5⟩:=IH (k + 1) l (g ++ [x0.xs[k]]) (by omega) (by omega) (by simp;omega) (by omega)
        refine ⟨G,L,e,a1,a2,fun y hy=>?_,a4,by rw [a5,List.map_append];rfl⟩
        rcases a3 y hy with h | h
        · rcases List.mem_append.1 h with h | h
          · exact .inl h
          · rw [List.mem_singleton.1 h];exact .inr (List.getElem_mem hlt)
        · exact .inr h
      | false =>
        rw [if_neg (by decide),if_neg (by decide),appN (by simp;omega),Option.bind_some,Option.bind_some,ckS (by omega) (by omega),Option.bind_some,b_o]
        obtain ⟨G,L,e,a1,a2,a3,a4,a5⟩:=IH (k + 1) (l ++ [x0.xs[k]]) g (by omega) (by omega) (by omega) (by simp;omega)
        refine ⟨G,L,e,a1,a2,a3,fun y hy=>?_,by rw [a5,List.map_append];rfl⟩
        rcases a4 y hy with h | h
        · rcases List.mem_append.1 h with h | h
          · exact .inl h
          · rw [List.mem_singleton.1 h];exact .inr (List.getElem_mem hlt)
        · exact .inr h
    · rw [if_neg (by rw [decide_eq_true_eq];unfold a_e;omega),List.drop_eq_nil_of_le (by simp;omega)]
      exact ⟨g,l,rfl,by omega,by omega,fun y hy=>.inl hy,fun y hy=>.inl hy,rfl⟩
abbrev Ev2:Type:=Int × Int × (Sl Int) × Int
def e3 (e:Ev2):E3:=(e.2.1,e.2.2.1.xs,e.2.2.2)
theorem p50_eq {n:Nat} (w:Int) (y:Nd) (ad:Int) (l:List Ev2) (f:Int) (hy:y.1.xs.length ≤ 900) (hl:l.length ≤ 100000):p50 n w y ad l f = some (l ++ [(f,w,⟨y.1.xs,some y.1.xs.length⟩,ad)]):=by
  unfold p50
  rw [p39_eq n y (by omega),Option.bind_some,appN (by simp;omega),Option.bind_some]
  rfl
def Evs (f:Int) (l:List Ev2) (r:List E3):Prop:=l.map e3 = r ∧ ∀ e ∈ l,e.1 = f
theorem Evs.snoc {f:Int} {l:List Ev2} {r:List E3} (h:Evs f l r) (w:Int) (p:Sl Int) (ad:Int):Evs f (l ++ [(f,w,p,ad)]) (r ++ [(w,p.xs,ad)]) :=
  ⟨by rw [List.map_append,h.1];rfl,fun e he=>by
    rcases List.mem_append.1 he with he | he
    · exact h.2 e he
    · rw [List.mem_singleton.1 he]⟩
theorem p62_l1_eq {n:Nat} (f:Int) (G:Sl Nd) (hG:∀ y ∈ G.xs,y.1.xs.length ≤ 900) (hL:G.xs.length ≤ 900):∀ (k m:Nat) (l:List Ev2) (r:List E3),k ≤ G.xs.length → k < m → l.length + k ≤ 2000 → Evs f l r →
    ∃ l':List Ev2,p62_l1 n (Nat × List Ev2) G (rnd (p25_r3 n f)) m ((k:Int) - 1) (0,l) = some (.inl (0,l')) ∧ Evs f l' (r ++ ((G.xs.take k).map nd).reverse.map fun g=>(4,g.1,0)) ∧ l'.length = l.length + k:=by
  intro k
  induction k with
  | zero =>
    intro m l r hk hm hl h
    obtain ⟨m,rfl⟩:∃ q,m = q + 1:=⟨m - 1,by omega⟩
    rw [p62_l1,if_neg (by rw [decide_eq_true_eq];omega)]
    exact ⟨l,rfl,by simpa using h,rfl⟩
  | succ k IH =>
    intro m l r hk hm hl h
    obtain ⟨m,rfl⟩:∃ q,m = q + 1:=⟨m - 1,by omega⟩
    have hkl:k < G.xs.length:=by omega
    have e1:(((k + 1:Nat):Int) - 1) = (k:Int):=by omega
    rw [e1,p62_l1,if_pos (decide_eq_true (by omega)),ixN hkl,Option.bind_some]
    have er:rnd (p25_r3 n f) (0,l) ((k:Int),G.xs[k]) = some (true,(0,l ++ [(f,4,⟨G.xs[k].1.xs,some G.xs[k].1.xs.length⟩,0)])):=by
      unfold rnd p25_r3
      simp only
      rw [p50_eq 4 G.xs[k] 0 l f (hG _ (List.getElem_mem hkl)) (by omega)]
      rfl
    rw [er,Option.bind_some,if_neg (by simp),ckS (by omega) (by omega),Option.bind_some]
    obtain ⟨l',e,hE,hl'⟩:=IH m _ _ (by omega) (by omega) (by simp;omega) (h.snoc 4 ⟨G.xs[k].1.xs,some G.xs[k].1.xs.length⟩ 0)
    refine ⟨l',e,?_,by rw [hl'];simp;omega⟩
    rw [show ((G.xs.take (k + 1)).map nd).reverse = nd G.xs[k] :: ((G.xs.take k).map nd).reverse by rw [List.take_add_one,List.getElem?_eq_getElem hkl,Option.toList_some,List.map_append,List.reverse_append];rfl]
    rw [List.append_assoc] at hE
    exact hE
theorem p16_old {n:Nat} (hn:1000 < n) {L:Sl Nd} (hV:V (L.xs.map nd)) (p:Sl Int):∃ z:Nd × Bool,p16 n L p = some z ∧ z.2 = (d_O (L.xs.map nd) p.xs).isSome ∧ (∀ w,d_O (L.xs.map nd) p.xs = some w → z.1.2.1 = w):=by
  unfold p16
  rw [p38_fnd (hV.bd hn),Option.bind_some]
  cases hf:fnd (L.xs.map nd) p.xs with
  | none =>
    have ho:d_O (L.xs.map nd) p.xs = none:=by
      unfold d_O
      rw [Option.map_eq_none_iff,List.find?_eq_none]
      exact fun l hl e=>c_B hf l hl (by simpa using e)
    rw [if_pos (decide_eq_true (by simp [ixO])),ho]
    exact ⟨_,rfl,rfl,fun w h=>by cases h⟩
  | some k =>
    obtain ⟨hk,e⟩:=b_K hf
    have hk2:k < L.xs.length:=by simpa using hk
    have hs:=(hV.bd hn).short _ (List.getElem_mem hk2)
    have ho:d_O (L.xs.map nd) p.xs = some (nd L.xs[k]).2.1:=by
      cases ho:d_O (L.xs.map nd) p.xs with
      | none =>
        exact absurd e (oldW_none ho _ (List.getElem_mem hk))
      | some w =>
        obtain ⟨l,hl,e1,e2⟩:=oldW_some ho
        have:l = (L.xs.map nd)[k]:=hV.inj hl (List.getElem_mem hk) (by rw [e1,e])
        rw [← e2,this,List.getElem_map]
    rw [if_neg (by rw [decide_eq_true_eq];simp only [ixO];omega),show ixO (some k) = (k:Int) from rfl,ixN hk2,Option.bind_some,p39_eq n _ (by omega),Option.bind_some,ho]
    exact ⟨_,rfl,rfl,fun w h=>Option.some.inj h⟩
theorem p25_l4_eq {n:Nat} (hn:1000 < n) {x1 L:Sl Nd} (f:Int) (h1:V (x1.xs.map nd)) (hV:V (L.xs.map nd)):∀ (m k:Nat) (l:List Ev2) (r:List E3),x1.xs.length < k + m → k ≤ x1.xs.length → l.length ≤ 1000 + 2 * k → Evs f l r →
    ∃ l':List Ev2,p25_l4 n x1 f m k L l = some l' ∧ Evs f l' (r ++ adds (L.xs.map nd) ((x1.xs.map nd).drop k)):=by
  have hf:=(h1.bd hn).few
  intro m
  induction m with
  | zero=>intro k l r h hk;omega
  | succ m IH =>
    intro k l r hkm hk hl h
    rw [p25_l4]
    by_cases hlt:k < x1.xs.length
    · have hs:=(h1.bd hn).short _ (List.getElem_mem hlt)
      have hd:(x1.xs.map nd).drop k = nd x1.xs[k] :: (x1.xs.map nd).drop (k + 1):=by rw [List.drop_eq_getElem_cons (by simpa using hlt),List.getElem_map]
      obtain ⟨z,ez,hz1,hz2⟩:=p16_old hn hV x1.xs[k].1
      rw [if_pos (decide_eq_true (show (k:Int) < a_e x1 by unfold a_e;omega)),ixN hlt,Option.bind_some,ez,Option.bind_some,hd,show ∀ b R,adds (L.xs.map nd) (b :: R) = e_c (L.xs.map nd) b ++ adds (L.xs.map nd) R from fun _ _=>rfl,← List.append_assoc]
      have second:∀ (l2:List Ev2) (r2:List E3) (o:Int),l2.length ≤ 1001 + 2 * k → Evs f l2 r2 → ∃ l3:List Ev2,(if (x1.xs[k].2.1 != o) = true then ((p50 n x1.xs[k].2.1 x1.xs[k] x1.xs[k].2.2 l2 f).bind fun t_303=>some t_303) else some l2) = some l3 ∧ l3.length ≤ 1002 + 2 * k ∧ Evs f l3 (r2 ++ if x1.xs[k].2.1 = o then [] else [(x1.xs[k].2.1,x1.xs[k].1.xs,x1.xs[k].2.2)]):=by
        intro l2 r2 o hl2 h2
        by_cases ho:x1.xs[k].2.1 = o
        · rw [if_neg (by simp [ho]),if_pos ho]
          exact ⟨l2,rfl,by omega,by simpa using h2⟩
        · rw [if_pos (by simpa using ho),if_neg ho,p50_eq _ _ _ _ _ hs (by omega),Option.bind_some]
          exact ⟨_,rfl,by simp;omega,h2.snoc _ _ _⟩
      have rest:∀ (l3:List Ev2) (r3:List E3),l3.length ≤ 1002 + 2 * k → Evs f l3 r3 → ∃ l':List Ev2,((ckI .i64 ((k:Int) + 1)).bind fun x=>p25_l4 n x1 f m x L l3) = some l' ∧ Evs f l' (r3 ++ adds (L.xs.map nd) ((x1.xs.map nd).drop (k + 1))):=by
        intro l3 r3 hl3 h3
        rw [ckS (by omega) (by omega),Option.bind_some,b_o]
        exact IH (k + 1) l3 r3 (by omega) (by omega) (by omega) h3
      unfold e_c
      cases ho:d_O (L.xs.map nd) (nd x1.xs[k]).1 with
      | none =>
        have ho':d_O (L.xs.map nd) x1.xs[k].1.xs = none:=ho
        rw [ho'] at hz1
        rw [if_pos (by rw [hz1];rfl),p50_eq _ _ _ _ _ hs (by omega)]
        simp only [Option.bind_some]
        obtain ⟨l3,e3,hl3,h3⟩:=second _ _ 1 (by simp;omega) (h.snoc 1 ⟨x1.xs[k].1.xs,some x1.xs[k].1.xs.length⟩ 0)
        rw [e3,Option.bind_some]
        obtain ⟨l',e',h'⟩:=rest l3 _ hl3 h3
        refine ⟨l',e',?_⟩
        simp only [Option.isSome_none,Bool.false_eq_true,if_false,Option.getD_none]
        rw [← List.append_assoc r]
        exact h'
      | some w =>
        have ho':d_O (L.xs.map nd) x1.xs[k].1.xs = some w:=ho
        rw [ho'] at hz1
        have hzw:=hz2 w ho'
        rw [if_neg (by rw [hz1];simp)]
        simp only [Option.bind_some]
        obtain ⟨l3,e3,hl3,h3⟩:=second l r z.1.2.1 (by omega) h
        rw [e3,Option.bind_some]
        obtain ⟨l',e',h'⟩:=rest l3 _ hl3 h3
        refine ⟨l',e',?_⟩
        rw [hzw] at h'
        simp only [Option.isSome_some,if_true,Option.getD_some,List.nil_append]
        exact h'
    · rw [if_neg (by rw [decide_eq_true_eq];unfold a_e;omega),List.drop_eq_nil_of_le (by simp;omega)]
      exact ⟨l,rfl,by simpa [adds] using h⟩
theorem p29_eq (n:Nat) (x:Sl Int) (hn:x.xs.length < n) (hL:x.xs.length ≤ 9223372036854775807):p29 n x = some (if b_0 x.xs = true then 0 else 1):=by
  unfold p29
  by_cases h1:x.xs.length < 1 ∨ x.xs.length > 6
  · have hp:b_0 x.xs = false:=by
      cases h:b_0 x.xs with
      | false=>rfl
      | true=>have:=(plcd_iff.1 h).1;omega
    have hq:(if (decide ((a_e x) < 1)) = false then some (decide ((a_e x) > 6)) else some true) = some true:=by
      by_cases h2:x.xs.length < 1
      · rw [if_neg (by rw [decide_eq_false_iff_not];unfold a_e;omega)]
      · rw [if_pos (decide_eq_false (by unfold a_e;omega))]
        exact congrArg some (decide_eq_true (by unfold a_e;omega))
    rw [hq,Option.bind_some,if_neg (by decide),Option.bind_some,if_pos rfl,hp]
    rfl
  · have hq:(if (decide ((a_e x) < 1)) = false then some (decide ((a_e x) > 6)) else some true) = some false:=by
      rw [if_pos (decide_eq_false (by unfold a_e;omega))]
      exact congrArg some (decide_eq_false (by unfold a_e;omega))
    have hp:b_0 x.xs = x.xs.all b_L:=by
      unfold b_0
      rw [decide_eq_true (by omega),decide_eq_true (by omega)];rfl
    rw [hq,Option.bind_some,if_pos rfl,p52_eq n x hn hL,Option.bind_some,Option.bind_some,hp]
    cases x.xs.all b_L <;> rfl
theorem V.snoc {t:List N} (h:V t) {y:N} (hl:t.length < 127) (h1:b_0 y.1 = true) (h2:1 ≤ y.2.1 ∧ y.2.1 ≤ 3) (h3:adr y.2.1 y.2.2 = true) (hb:∀ z ∈ t,bef z.1 y.1 = true) (hh:hel t y.1 = true) (ha:y.2.1 = 2 → ∀ z ∈ t,z.2.1 = 2 → z.2.2 ≠ y.2.2):V (t ++ [y]):=by
  refine ⟨by simp;omega,fun z hz=>?_,fun z hz=>?_,?_,?_⟩
  · rcases List.mem_append.1 hz with hz | hz
    · exact h.nodes z hz
    · rw [List.mem_singleton.1 hz];exact ⟨h1,h2,h3⟩
  · rcases List.mem_append.1 hz with hz | hz
    · rcases h.par z hz with hp | ⟨u,hu,e⟩
      · exact .inl hp
      · exact .inr ⟨u,by simp [hu],e⟩
    · rw [List.mem_singleton.1 hz]
      rcases of_hel hh with hp | ⟨u,hu,e⟩
      · exact .inl hp
      · exact .inr ⟨u,by simp [hu],e⟩
  · refine List.pairwise_append.2 ⟨h.ord,by simp,fun z hz u hu=>?_⟩
    rw [List.mem_singleton.1 hu];exact hb z hz
  · refine List.pairwise_append.2 ⟨h.adrs,by simp,fun z hz u hu=>?_⟩
    rw [List.mem_singleton.1 hu];exact fun e1 e2=>ha e2 z hz e1
theorem V.take {t:List N} (h:V t) (k:Nat):V (t.take k):=by
  refine ⟨by rw [List.length_take];have:=h.few;omega,fun z hz=>h.nodes z (List.mem_of_mem_take hz),fun z hz=>?_,h.ord.sublist (List.take_sublist _ _),h.adrs.sublist (List.take_sublist _ _)⟩
  rcases h.par z (List.mem_of_mem_take hz) with hp | ⟨u,hu,e1,e2⟩
  · exact .inl hp
  · refine .inr ⟨u,?_,e1,e2⟩
    obtain ⟨i,hi,rfl⟩:=List.mem_iff_getElem.1 hz
    obtain ⟨j,hj,rfl⟩:=List.mem_iff_getElem.1 hu
    rw [List.length_take] at hi
    rw [List.getElem_take] at e1
    have hz':=h.nodes (t[i]'(by omega)) (List.getElem_mem _)
    have hb:bef t[j].1 (t[i]'(by omega)).1 = true:=by
      rw [e1];exact b_X _ (fun e=>by have:=(plcd_iff.1 hz'.1).1;rw [e] at this;simp at this)
    have hji:j < i:=by
      rcases Nat.lt_trichotomy j i with h1 | h1 | h1
      · exact h1
      · subst h1;rw [b_8] at hb;cases hb
      · have:=List.pairwise_iff_getElem.1 h.ord i j (by omega) hj h1
        unfold BefR at this
        rw [d_F _ _ this] at hb;cases hb
    exact List.mem_iff_getElem.2 ⟨j,by rw [List.length_take];omega,by rw [List.getElem_take]⟩
structure Pth (n:Nat) (t:List Nd):Prop where
  big:1000 < n
  all:∀ y ∈ t,y.1.xs.length < n ∧ y.1.xs.length ≤ 9223372036854775807
def SOk (t:List Nd) (k:Nat) (S:List Int):Prop:=∀ a,a ∈ S ↔ ∃ j,∃ hj:j < t.length,j < k ∧ (t[j]).2.1 = 2 ∧ (t[j]).2.2 = a
theorem p10_l1_any {n:Nat} {x0:Sl Nd} (hP:Pth n x0.xs) (hL:x0.xs.length ≤ 127):∀ (m k:Nat) (S:List Int),x0.xs.length < k + m → k ≤ x0.xs.length → V ((x0.xs.take k).map nd) → SOk x0.xs k S →
    p10_l1 n x0 m k S = some (.inr 1) ∨ ∃ S',p10_l1 n x0 m k S = some (.inl S') ∧ V (x0.xs.map nd):=by
  intro m
  induction m with
  | zero=>intro k S h hk;omega
  | succ m IH =>
    intro k S hkm hk hV hS
    rw [p10_l1]
    by_cases hlt:k < x0.xs.length
    · have hp:=hP.all _ (List.getElem_mem hlt)
      obtain ⟨d,hd⟩:=a_9 (xs:=x0.xs) (c:=x0.cap) (show k ≤ x0.xs.length by omega)
      have hd':slI x0 0 (k:Int) = some ⟨x0.xs.take k,d⟩:=hd
      rw [if_pos (decide_eq_true (show (k:Int) < a_e x0 by unfold a_e;omega)),ixN hlt,Option.bind_some,p32_eq n _ hp.1 hp.2,Option.bind_some,p33_eq,hd']
      simp only [Option.bind_some]
      by_cases h1:b_0 x0.xs[k].1.xs = true
      · rw [h1,if_neg (by decide)]
        by_cases h2:x0.xs[k].2.1 < 1
        · rw [if_pos (decide_eq_true h2)];exact .inl rfl
        rw [if_neg (by simpa using h2)]
        by_cases h3:x0.xs[k].2.1 > 3
        · rw [if_pos (decide_eq_true h3)];exact .inl rfl
        rw [if_neg (by simpa using h3)]
        by_cases h4:adr x0.xs[k].2.1 x0.xs[k].2.2 = true
        · rw [h4,if_neg (by decide)]
          have vl:=(plcd_iff.1 h1).1
          rw [p34_eq (t:=⟨x0.xs.take k,d⟩) (hV.bd hP.big) _ (fun e=>by rw [e] at vl;simp at vl) (by omega),Option.bind_some,Option.bind_some]
          by_cases h5:hel ((x0.xs.take k).map nd) x0.xs[k].1.xs = true
          · rw [h5,if_neg (by decide)]
            have hlast:∀ h0:0 < k,(ckI .i64 ((k:Int) - 1)) = some ((k - 1:Nat):Int):=fun h0=>(ckS (by omega) (by omega)).trans (by congr 1;omega)
            have hord:∀ (h0:0 < k),bef x0.xs[k - 1].1.xs x0.xs[k].1.xs = true → ∀ z ∈ (x0.xs.take k).map nd,bef z.1 (nd x0.xs[k]).1 = true:=by
              intro h0 hb z hz
              obtain ⟨i,hi,rfl⟩:=List.mem_iff_getElem.1 hz
              simp only [List.length_map,List.length_take] at hi
              rw [List.getElem_map,List.getElem_take]
              by_cases hik:i = k - 1
              · subst hik;exact hb
              · have:=List.pairwise_iff_getElem.1 hV.ord i (k - 1) (by simp;omega) (by simp;omega) (by omega)
                unfold BefR at this
                rw [List.getElem_map,List.getElem_map,List.getElem_take,List.getElem_take] at this
                exact b_W _ _ _ this hb
            have fin:∀ S2,SOk x0.xs (k + 1) S2 → (∀ z ∈ (x0.xs.take k).map nd,bef z.1 (nd x0.xs[k]).1 = true) → (x0.xs[k].2.1 = 2 → x0.xs[k].2.2 ∉ S) →
                ((ckI .i64 ((k:Int) + 1)).bind fun x=>p10_l1 n x0 m x S2) = some (.inr 1) ∨ ∃ S',((ckI .i64 ((k:Int) + 1)).bind fun x=>p10_l1 n x0 m x S2) = some (.inl S') ∧ V (x0.xs.map nd):=by
              intro S2 hS2 hb hns
              rw [ckS (by omega) (by omega),Option.bind_some,b_o]
              refine IH (k + 1) S2 (by omega) (by omega) ?_ hS2
              rw [List.take_add_one,List.getElem?_eq_getElem hlt,Option.toList_some,List.map_append]
              refine hV.snoc (by simp;omega) h1 (by show 1 ≤ x0.xs[k].2.1 ∧ x0.xs[k].2.1 ≤ 3;omega) h4 hb h5 fun hw z hz hz2 he=>?_
              obtain ⟨i,hi,rfl⟩:=List.mem_iff_getElem.1 hz
              simp only [List.length_map,List.length_take] at hi
              rw [List.getElem_map,List.getElem_take] at hz2 he
              exact hns hw ((hS _).2 ⟨i,by omega,by omega,hz2,he⟩)
            have hcore:∃ (b:Bool) (S2:List Int),(if (x0.xs[k].2.1 == 2) = true then ((p36 n S x0.xs[k].2.2).bind fun t_421=>some ((!t_421.1),t_421.2)) else (some (false,S))) = some (b,S2) ∧ (b = false → SOk x0.xs (k + 1) S2 ∧ (x0.xs[k].2.1 = 2 → x0.xs[k].2.2 ∉ S)):=by
              by_cases hw:x0.xs[k].2.1 = 2
              · rw [if_pos (by simp [hw])]
                unfold p36
                rw [Option.bind_some]
                by_cases hin:x0.xs[k].2.2 ∈ S
                · exact ⟨true,_,by rw [decide_eq_true hin];rfl,fun h=>by cases h⟩
                · refine ⟨false,insK x0.xs[k].2.2 S,by rw [decide_eq_false hin];rfl,fun _=>⟨fun a=>?_,fun _=>hin⟩⟩
                  unfold insK
                  rw [if_neg hin,List.mem_append,List.mem_singleton,hS a]
                  constructor
                  · rintro (⟨j,hj,hjk,e⟩ | rfl)
                    · exact ⟨j,hj,by omega,e⟩
                    · exact ⟨k,hlt,by omega,hw,rfl⟩
                  · rintro ⟨j,hj,hjk,e1,e2⟩
                    by_cases hjk2:j = k
                    · subst hjk2;exact .inr e2.symm
                    · exact .inl ⟨j,hj,by omega,e1,e2⟩
              · refine ⟨false,S,if_neg (by simp [hw]),fun _=>⟨fun a=>?_,fun h=>absurd h hw⟩⟩
                rw [hS a]
                constructor
                · rintro ⟨j,hj,hjk,e⟩;exact ⟨j,hj,by omega,e⟩
                · rintro ⟨j,hj,hjk,e1,e2⟩
                  by_cases hjk2:j = k
                  · subst hjk2;exact absurd e1 hw
                  · exact ⟨j,hj,by omega,e1,e2⟩
            obtain ⟨b,S2,ec,hb⟩:=hcore
            simp only [ec]
            by_cases h0:0 < k
            · have hp2:=hP.all _ (List.getElem_mem (show k - 1 < x0.xs.length by omega))
              have hpl:((x0.xs.take k).map nd)[k - 1]'(by simp;omega) = nd x0.xs[k - 1]:=by rw [List.getElem_map,List.getElem_take]
              rw [if_pos (decide_eq_true (by omega)),hlast h0,Option.bind_some,ixN (by omega),Option.bind_some,p35_eq n _ _ hp2.1 hp2.2,Option.bind_some]
              by_cases hc:cmpL x0.xs[k - 1].1.xs x0.xs[k].1.xs ≥ 0
              · rw [if_pos (decide_eq_true hc)];exact .inl rfl
              · rw [if_neg (by simpa using hc),Option.bind_some]
                have hbf:bef x0.xs[k - 1].1.xs x0.xs[k].1.xs = true:=by rw [d_o];exact decide_eq_true (by omega)
                cases b with
                | true=>exact .inl rfl
                | false =>
                  rw [if_neg (by simp)]
                  obtain ⟨q1,q2⟩:=hb rfl
                  exact fin S2 q1 (hord h0 hbf) q2
            · rw [if_neg (by rw [decide_eq_true_eq];omega),Option.bind_some]
              cases b with
              | true=>exact .inl rfl
              | false =>
                rw [if_neg (by simp)]
                obtain ⟨q1,q2⟩:=hb rfl
                refine fin S2 q1 (fun z hz=>?_) q2
                have:k = 0:=by omega
                subst this
                simp at hz
          · rw [show hel ((x0.xs.take k).map nd) x0.xs[k].1.xs = false by simpa using h5];exact .inl rfl
        · rw [show adr x0.xs[k].2.1 x0.xs[k].2.2 = false by simpa using h4];exact .inl rfl
      · rw [show b_0 x0.xs[k].1.xs = false by simpa using h1];exact .inl rfl
    · rw [if_neg (by rw [decide_eq_true_eq];unfold a_e;omega)]
      have:k = x0.xs.length:=by omega
      subst this
      rw [List.take_length] at hV
      exact .inr ⟨S,rfl,hV⟩
theorem p10_any {n:Nat} {x0:Sl Nd} (hP:Pth n x0.xs) (hl:x0.xs.length < n):(x0.xs.length > 127 ∧ p10 n x0 = some 3) ∨ (x0.xs.length ≤ 127 ∧ p10 n x0 = some 0 ∧ V (x0.xs.map nd)) ∨ (x0.xs.length ≤ 127 ∧ p10 n x0 = some 1 ∧ ¬ V (x0.xs.map nd)):=by
  by_cases h:x0.xs.length > 127
  · refine .inl ⟨h,?_⟩
    unfold p10
    rw [if_pos (decide_eq_true (by unfold a_e;omega))]
  · have h':x0.xs.length ≤ 127:=by omega
    refine .inr ?_
    by_cases hv:V (x0.xs.map nd)
    · exact .inl ⟨h',p10_eq hP.big hv,hv⟩
    · refine .inr ⟨h',?_,hv⟩
      rcases p10_l1_any hP h' n 0 [] (by omega) (by omega) V.nil (fun a=>by simp) with e | ⟨S,e,hv2⟩
      · have e':p10_l1 n x0 n 0 [] = some (.inr 1):=e
        unfold p10 p31
        rw [if_neg (by rw [decide_eq_true_eq];unfold a_e;omega),Option.bind_some,e',Option.bind_some,lrr]
      · exact absurd hv2 hv
end Go.Proofs.Ytmcpcdmonglkjaa
