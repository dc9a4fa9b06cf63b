/- Events: searches, copies and joins, in plain words. Plain theorems, no condition. -/
import Derived.Test.YtmcpcdmonglkjaaEV1
import Derived.Test.YtmcpcdmonglkjaaXE34
set_option linter.unusedVariables false
set_option linter.unusedSimpArgs false
namespace Go.Proofs.Ytmcpcdmonglkjaa
open Go.RowKit

def ixO (o:Option Nat):Int:=match o with | some k=>(k:Int) | none=>-1
def thr (p hub:List Int):Bool:=decide (hub.length < p.length) && decide (p.take hub.length = hub)
theorem slI_take {α:Type} {xs:List α} {c:Option Nat} {k:Nat} (h:k ≤ xs.length):∃ d,slI (⟨xs,c⟩:Sl α) 0 (k:Int) = some ⟨xs.take k,d⟩:=by
  unfold slI
  rw [if_pos ⟨by omega,by omega,by simpa using h⟩]
  exact ⟨_,by rw [Int.toNat_natCast];rfl⟩
theorem slI_drop {α:Type} {xs:List α} {c:Option Nat} {k:Nat} (h:k ≤ xs.length):∃ d,slI (⟨xs,c⟩:Sl α) (k:Int) (lenI (⟨xs,c⟩:Sl α)) = some ⟨xs.drop k,d⟩:=by
  unfold slI lenI
  rw [if_pos ⟨by omega,by simpa using h,by simp⟩]
  exact ⟨_,by rw [Int.toNat_natCast,Int.toNat_natCast,List.take_length]⟩
theorem p60_eq (n:Nat) (y:Nd) (p:Sl Int) (hn:y.1.xs.length < n) (hL:y.1.xs.length ≤ 1000000):p60 n y p = some (decide (y.1.xs = p.xs)):=by
  unfold p60
  rw [p61_eq n y.1 p hn hL,Option.bind_some]
theorem p49_eq (n:Nat) (x p:Sl Int) (hn:x.xs.length < n) (hL:x.xs.length ≤ 1000000):p49 n x p = some (thr x.xs p.xs):=by
  unfold p49 thr
  by_cases h:p.xs.length < x.xs.length
  · obtain ⟨d,hd⟩:=slI_take (xs:=x.xs) (c:=x.cap) (k:=p.xs.length) (by omega)
    have hd':slI x 0 (lenI p) = some ⟨x.xs.take p.xs.length,d⟩:=hd
    rw [if_pos (decide_eq_true (show lenI x > lenI p by unfold lenI;omega)),hd',Option.bind_some,p61_eq n _ p (by simp only [List.length_take];omega) (by simp only [List.length_take];omega),Option.bind_some,Option.bind_some,decide_eq_true h]
    rfl
  · rw [if_neg (by rw [decide_eq_true_eq];unfold lenI;omega),Option.bind_some,decide_eq_false h]
    rfl
theorem p65_eq (n:Nat) (y:Nd) (p:Sl Int) (hn:y.1.xs.length < n) (hL:y.1.xs.length ≤ 1000000):p65 n y p = some (thr y.1.xs p.xs):=by
  unfold p65
  rw [p49_eq n y.1 p hn hL,Option.bind_some]
theorem p27_eq (n:Nat) (x p:Sl Int) (hn:x.xs.length < n) (hm:p.xs.length < n) (hL:x.xs.length ≤ 1000000) (hM:p.xs.length ≤ 1000000):p27 n x p = some (thr x.xs p.xs):=by
  unfold p27 thr
  by_cases h:p.xs.length < x.xs.length
  · obtain ⟨d,hd⟩:=slI_take (xs:=x.xs) (c:=x.cap) (k:=p.xs.length) (by omega)
    have hd':slI x 0 (lenI p) = some ⟨x.xs.take p.xs.length,d⟩:=hd
    rw [if_pos (decide_eq_true (show lenI x > lenI p by unfold lenI;omega)),hd',Option.bind_some,p17_eq n _ p (by simp only [List.length_take];omega) hm (by simp only [List.length_take];omega) hM,Option.bind_some,Option.bind_some,decide_eq_true h]
    rfl
  · rw [if_neg (by rw [decide_eq_true_eq];unfold lenI;omega),Option.bind_some,decide_eq_false h]
    rfl
theorem p66_eq (n:Nat) (y:Nd) (e:Int × Int × (Sl Int) × Int):p66 n y e = some (y.2.2 == e.2.2.2):=rfl
theorem p59_60_l1_eq (n:Nat) (x0:Sl Nd) (p:Sl Int) (hL:x0.xs.length ≤ 1000000) (hB:∀ y ∈ x0.xs,y.1.xs.length < n ∧ y.1.xs.length ≤ 1000000):∀ (m k:Nat),x0.xs.length < k + m → k ≤ x0.xs.length →
    p59_60_l1 n x0 p m k = some (match (x0.xs.drop k).findIdx? (fun y=>decide (y.1.xs = p.xs)) with | some j=>.inr ((k + j:Nat):Int) | none=>.inl ()):=by
  intro m
  induction m with
  | zero=>intro k h hk;omega
  | succ m IH =>
    intro k h hk
    rw [p59_60_l1]
    by_cases hlt:k < x0.xs.length
    · rw [if_pos (decide_eq_true (show (k:Int) < lenI x0 by unfold lenI;omega)),ixN hlt,Option.bind_some,List.drop_eq_getElem_cons hlt,List.findIdx?_cons]
      have hs:=p60_eq n x0.xs[k] p (hB _ (List.getElem_mem hlt)).1 (hB _ (List.getElem_mem hlt)).2
      rw [hs,Option.bind_some]
      cases hq:(fun y:Nd=>decide (y.1.xs = p.xs)) x0.xs[k] with
      | true =>
        have hq':(decide ((x0.xs[k]).1.xs = p.xs)) = true:=hq
        rw [hq',if_pos rfl,if_pos (by simp)]
        rfl
      | false =>
        have hq':(decide ((x0.xs[k]).1.xs = p.xs)) = false:=hq
        rw [hq',if_neg (by decide),if_neg (by decide),ckS (by omega) (by omega),Option.bind_some,succI,IH (k + 1) (by omega) (by omega)]
        cases (x0.xs.drop (k + 1)).findIdx? (fun y=>decide (y.1.xs = p.xs)) with
        | none=>rfl
        | some j=>simp only [Option.map_some];rw [show k + 1 + j = k + (j + 1) by omega]
    · rw [if_neg (by rw [decide_eq_true_eq];unfold lenI;omega),List.drop_eq_nil_of_le (by omega)]
      rfl
theorem p59_60_eq (n:Nat) (x0:Sl Nd) (p:Sl Int) (hn:x0.xs.length < n) (hL:x0.xs.length ≤ 1000000) (hB:∀ y ∈ x0.xs,y.1.xs.length < n ∧ y.1.xs.length ≤ 1000000):p59_60 n x0 p = some (ixO (x0.xs.findIdx? (fun y=>decide (y.1.xs = p.xs)))):=by
  unfold p59_60
  have hE_:=p59_60_l1_eq n x0 p hL hB n 0 (by omega) (by omega)
  rw [show (0:Int) = ((0:Nat):Int) from rfl,hE_,Option.bind_some]
  simp only [List.drop_zero]
  cases x0.xs.findIdx? (fun y=>decide (y.1.xs = p.xs)) with
  | none=>rfl
  | some j=>simp only [lrr,Nat.zero_add];rfl

theorem p26_l1_eq (n:Nat) (x0:Sl Nd) (p:Sl Int) (hL:x0.xs.length ≤ 1000000) (hB:(p.xs.length < n ∧ p.xs.length ≤ 1000000) ∧ ∀ y ∈ x0.xs,y.1.xs.length < n ∧ y.1.xs.length ≤ 1000000):∀ (m k:Nat),x0.xs.length < k + m → k ≤ x0.xs.length →
    p26_l1 n x0 p m k = some (match (x0.xs.drop k).findIdx? (fun y=>decide (y.1.xs = p.xs)) with | some j=>.inr ((k + j:Nat):Int) | none=>.inl ()):=by
  intro m
  induction m with
  | zero=>intro k h hk;omega
  | succ m IH =>
    intro k h hk
    rw [p26_l1]
    by_cases hlt:k < x0.xs.length
    · rw [if_pos (decide_eq_true (show (k:Int) < lenI x0 by unfold lenI;omega)),ixN hlt,Option.bind_some,List.drop_eq_getElem_cons hlt,List.findIdx?_cons]
      have hs:=p17_eq n x0.xs[k].1 p (hB.2 _ (List.getElem_mem hlt)).1 hB.1.1 (hB.2 _ (List.getElem_mem hlt)).2 hB.1.2
      rw [hs,Option.bind_some]
      cases hq:(fun y:Nd=>decide (y.1.xs = p.xs)) x0.xs[k] with
      | true =>
        have hq':(decide ((x0.xs[k]).1.xs = p.xs)) = true:=hq
        rw [hq',if_pos rfl,if_pos (by simp)]
        rfl
      | false =>
        have hq':(decide ((x0.xs[k]).1.xs = p.xs)) = false:=hq
        rw [hq',if_neg (by decide),if_neg (by decide),ckS (by omega) (by omega),Option.bind_some,succI,IH (k + 1) (by omega) (by omega)]
        cases (x0.xs.drop (k + 1)).findIdx? (fun y=>decide (y.1.xs = p.xs)) with
        | none=>rfl
        | some j=>simp only [Option.map_some];rw [show k + 1 + j = k + (j + 1) by omega]
    · rw [if_neg (by rw [decide_eq_true_eq];unfold lenI;omega),List.drop_eq_nil_of_le (by omega)]
      rfl
theorem p26_eq (n:Nat) (x0:Sl Nd) (p:Sl Int) (hn:x0.xs.length < n) (hL:x0.xs.length ≤ 1000000) (hB:(p.xs.length < n ∧ p.xs.length ≤ 1000000) ∧ ∀ y ∈ x0.xs,y.1.xs.length < n ∧ y.1.xs.length ≤ 1000000):p26 n x0 p = some (ixO (x0.xs.findIdx? (fun y=>decide (y.1.xs = p.xs)))):=by
  unfold p26
  have hE_:=p26_l1_eq n x0 p hL hB n 0 (by omega) (by omega)
  rw [show (0:Int) = ((0:Nat):Int) from rfl,hE_,Option.bind_some]
  simp only [List.drop_zero]
  cases x0.xs.findIdx? (fun y=>decide (y.1.xs = p.xs)) with
  | none=>rfl
  | some j=>simp only [lrr,Nat.zero_add];rfl

theorem p59_65_l1_eq (n:Nat) (x0:Sl Nd) (p:Sl Int) (hL:x0.xs.length ≤ 1000000) (hB:∀ y ∈ x0.xs,y.1.xs.length < n ∧ y.1.xs.length ≤ 1000000):∀ (m k:Nat),x0.xs.length < k + m → k ≤ x0.xs.length →
    p59_65_l1 n x0 p m k = some (match (x0.xs.drop k).findIdx? (fun y=>thr y.1.xs p.xs) with | some j=>.inr ((k + j:Nat):Int) | none=>.inl ()):=by
  intro m
  induction m with
  | zero=>intro k h hk;omega
  | succ m IH =>
    intro k h hk
    rw [p59_65_l1]
    by_cases hlt:k < x0.xs.length
    · rw [if_pos (decide_eq_true (show (k:Int) < lenI x0 by unfold lenI;omega)),ixN hlt,Option.bind_some,List.drop_eq_getElem_cons hlt,List.findIdx?_cons]
      have hs:=p65_eq n x0.xs[k] p (hB _ (List.getElem_mem hlt)).1 (hB _ (List.getElem_mem hlt)).2
      rw [hs,Option.bind_some]
      cases hq:(fun y:Nd=>thr y.1.xs p.xs) x0.xs[k] with
      | true =>
        have hq':(thr (x0.xs[k]).1.xs p.xs) = true:=hq
        rw [hq',if_pos rfl,if_pos (by simp)]
        rfl
      | false =>
        have hq':(thr (x0.xs[k]).1.xs p.xs) = false:=hq
        rw [hq',if_neg (by decide),if_neg (by decide),ckS (by omega) (by omega),Option.bind_some,succI,IH (k + 1) (by omega) (by omega)]
        cases (x0.xs.drop (k + 1)).findIdx? (fun y=>thr y.1.xs p.xs) with
        | none=>rfl
        | some j=>simp only [Option.map_some];rw [show k + 1 + j = k + (j + 1) by omega]
    · rw [if_neg (by rw [decide_eq_true_eq];unfold lenI;omega),List.drop_eq_nil_of_le (by omega)]
      rfl
theorem p59_65_eq (n:Nat) (x0:Sl Nd) (p:Sl Int) (hn:x0.xs.length < n) (hL:x0.xs.length ≤ 1000000) (hB:∀ y ∈ x0.xs,y.1.xs.length < n ∧ y.1.xs.length ≤ 1000000):p59_65 n x0 p = some (ixO (x0.xs.findIdx? (fun y=>thr y.1.xs p.xs))):=by
  unfold p59_65
  have hE_:=p59_65_l1_eq n x0 p hL hB n 0 (by omega) (by omega)
  rw [show (0:Int) = ((0:Nat):Int) from rfl,hE_,Option.bind_some]
  simp only [List.drop_zero]
  cases x0.xs.findIdx? (fun y=>thr y.1.xs p.xs) with
  | none=>rfl
  | some j=>simp only [lrr,Nat.zero_add];rfl

theorem p59_66_l1_eq (n:Nat) (x0:Sl Nd) (e:Int × Int × (Sl Int) × Int) (hL:x0.xs.length ≤ 1000000) :∀ (m k:Nat),x0.xs.length < k + m → k ≤ x0.xs.length →
    p59_66_l1 n x0 e m k = some (match (x0.xs.drop k).findIdx? (fun y=>y.2.2 == e.2.2.2) with | some j=>.inr ((k + j:Nat):Int) | none=>.inl ()):=by
  intro m
  induction m with
  | zero=>intro k h hk;omega
  | succ m IH =>
    intro k h hk
    rw [p59_66_l1]
    by_cases hlt:k < x0.xs.length
    · rw [if_pos (decide_eq_true (show (k:Int) < lenI x0 by unfold lenI;omega)),ixN hlt,Option.bind_some,List.drop_eq_getElem_cons hlt,List.findIdx?_cons]
      have hs:=p66_eq n x0.xs[k] e
      rw [hs,Option.bind_some]
      cases hq:(fun y:Nd=>y.2.2 == e.2.2.2) x0.xs[k] with
      | true =>
        have hq':((x0.xs[k]).2.2 == e.2.2.2) = true:=hq
        rw [hq',if_pos rfl,if_pos (by simp)]
        rfl
      | false =>
        have hq':((x0.xs[k]).2.2 == e.2.2.2) = false:=hq
        rw [hq',if_neg (by decide),if_neg (by decide),ckS (by omega) (by omega),Option.bind_some,succI,IH (k + 1) (by omega) (by omega)]
        cases (x0.xs.drop (k + 1)).findIdx? (fun y=>y.2.2 == e.2.2.2) with
        | none=>rfl
        | some j=>simp only [Option.map_some];rw [show k + 1 + j = k + (j + 1) by omega]
    · rw [if_neg (by rw [decide_eq_true_eq];unfold lenI;omega),List.drop_eq_nil_of_le (by omega)]
      rfl
theorem p59_66_eq (n:Nat) (x0:Sl Nd) (e:Int × Int × (Sl Int) × Int) (hn:x0.xs.length < n) (hL:x0.xs.length ≤ 1000000) :p59_66 n x0 e = some (ixO (x0.xs.findIdx? (fun y=>y.2.2 == e.2.2.2))):=by
  unfold p59_66
  have hE_:=p59_66_l1_eq n x0 e hL  n 0 (by omega) (by omega)
  rw [show (0:Int) = ((0:Nat):Int) from rfl,hE_,Option.bind_some]
  simp only [List.drop_zero]
  cases x0.xs.findIdx? (fun y=>y.2.2 == e.2.2.2) with
  | none=>rfl
  | some j=>simp only [lrr,Nat.zero_add];rfl

theorem p38_eq (n:Nat) (x0:Sl Nd) (p:Sl Int) (hn:x0.xs.length < n) (hL:x0.xs.length ≤ 1000000) (hB:∀ y ∈ x0.xs,y.1.xs.length < n ∧ y.1.xs.length ≤ 1000000):p38 n x0 p = some (ixO (x0.xs.findIdx? (fun y=>decide (y.1.xs = p.xs)))):=by
  unfold p38
  rw [p59_60_eq n x0 p hn hL hB,Option.bind_some]
theorem ixO_ge (o:Option Nat):decide (ixO o ≥ 0) = o.isSome:=by
  cases o with
  | none=>rfl
  | some k=>exact decide_eq_true (show ((k:Nat):Int) ≥ 0 by omega)
theorem findIdx_any {α:Type} (l:List α) (q:α → Bool):(l.findIdx? q).isSome = l.any q:=by simp [List.findIdx?_isSome]
theorem p47_65_eq (n:Nat) (x0:Sl Nd) (p:Sl Int) (hn:x0.xs.length < n) (hL:x0.xs.length ≤ 1000000) (hB:∀ y ∈ x0.xs,y.1.xs.length < n ∧ y.1.xs.length ≤ 1000000):p47_65 n x0 p = some (x0.xs.any fun y=>thr y.1.xs p.xs):=by
  unfold p47_65
  rw [p59_65_eq n x0 p hn hL hB,Option.bind_some,ixO_ge,findIdx_any]
theorem p47_66_eq (n:Nat) (x0:Sl Nd) (e:Int × Int × (Sl Int) × Int) (hn:x0.xs.length < n) (hL:x0.xs.length ≤ 1000000):p47_66 n x0 e = some (x0.xs.any fun y=>y.2.2 == e.2.2.2):=by
  unfold p47_66
  rw [p59_66_eq n x0 e hn hL,Option.bind_some,ixO_ge,findIdx_any]
/-! ### Copies -/
theorem p41_eq (n:Nat) (x:Sl Int) (hL:x.xs.length ≤ 1000000):∃ d,p41 n x = some ⟨x.xs,d⟩:=by
  unfold p41
  refine ⟨capA (some 0) x.xs.length,?_⟩
  have e:appI ([]:List Int) x.xs = some x.xs:=by
    unfold appI
    rw [if_pos (by simp;omega)]
    simp
  rw [e,Option.bind_some]
theorem p44_eq (n:Nat) (x:Sl Int):p44 n x = some ⟨x.xs,some x.xs.length⟩:=by
  unfold p44
  have h:∃ r,sl3I x 0 (lenI x) (lenI x) = some r:=by
    unfold sl3I lenI
    rw [if_pos (by omega)]
    exact ⟨_,rfl⟩
  obtain ⟨r,hr⟩:=h
  rw [hr,Option.bind_some,clip_val hr]
def ownN (y:Nd):Nd:=(⟨y.1.xs,some y.1.xs.length⟩,y.2.1,y.2.2)
theorem p39_eq (n:Nat) (y:Nd) (hL:y.1.xs.length ≤ 1000000):p39 n y = some (ownN y):=by
  unfold p39
  obtain ⟨d,hd⟩:=p41_eq n y.1 hL
  rw [hd,Option.bind_some,p44_eq,Option.bind_some]
  rfl
theorem p45_l1_eq (n:Nat) (x0:Sl Nd) (z:Nd) (hL:x0.xs.length ≤ 1000000) (hB:∀ y ∈ x0.xs,y.1.xs.length ≤ 1000000):∀ (m k:Nat),x0.xs.length < k + m → k ≤ x0.xs.length →
    p45_l1 n x0 m k ((x0.xs.take k).map ownN ++ List.replicate (x0.xs.length - k) z) = some (x0.xs.map ownN):=by
  intro m
  induction m with
  | zero=>intro k h hk;omega
  | succ m IH =>
    intro k h hk
    rw [p45_l1]
    by_cases hlt:k < x0.xs.length
    · have hl:((x0.xs.take k).map ownN).length = k:=by simp;omega
      have hi:idx ((x0.xs.take k).map ownN ++ List.replicate (x0.xs.length - k) z) (k:Int) = some z:=by
        rw [idx_nat,List.getElem?_append_right (by omega),hl,List.getElem?_replicate,if_pos (by omega)]
      have hset:((x0.xs.take k).map ownN ++ List.replicate (x0.xs.length - k) z).set k (ownN x0.xs[k]) = (x0.xs.take (k + 1)).map ownN ++ List.replicate (x0.xs.length - (k + 1)) z:=by
        rw [List.set_append_right _ _ (by omega),hl,Nat.sub_self,show x0.xs.length - k = (x0.xs.length - (k + 1)) + 1 by omega,List.replicate_succ,List.set_cons_zero,List.take_succ_eq_append_getElem hlt,List.map_append,List.append_assoc]
        rfl
      rw [if_pos (decide_eq_true (show (k:Int) < lenI x0 by unfold lenI;omega)),ixN hlt,Option.bind_some,p39_eq n _ (hB _ (List.getElem_mem hlt)),Option.bind_some,hi,Option.bind_some,ckS (by omega) (by omega),Option.bind_some,succI,Int.toNat_natCast,hset]
      exact IH (k + 1) (by omega) (by omega)
    · obtain rfl:k = x0.xs.length:=by omega
      rw [if_neg (by rw [decide_eq_true_eq];unfold lenI;omega)]
      simp
theorem p45_eq (n:Nat) (x0:Sl Nd) (hn:x0.xs.length < n) (hL:x0.xs.length ≤ 1000000) (hB:∀ y ∈ x0.xs,y.1.xs.length ≤ 1000000):p45 n x0 = some ⟨x0.xs.map ownN,some x0.xs.length⟩:=by
  unfold p45
  have hm:mkI (lenI x0) (lenI x0) = some (x0.xs.length,x0.xs.length):=by
    unfold mkI lenI
    rw [if_pos (by omega)]
    simp
  have e:=p45_l1_eq n x0 (⟨[],some 0⟩,0,0) hL hB n 0 (by omega) (by omega)
  simp only [List.take_zero,List.map_nil,List.nil_append,Nat.sub_zero] at e
  rw [hm,Option.bind_some]
  have e':p45_l1 n x0 n 0 (List.replicate x0.xs.length ((⟨[],some 0⟩,0,0):Nd)) = some (x0.xs.map ownN):=e
  show ((p45_l1 n x0 n 0 (List.replicate x0.xs.length ((⟨[],some 0⟩,0,0):Nd))).bind _) = _
  rw [e',Option.bind_some]
end Go.Proofs.Ytmcpcdmonglkjaa
