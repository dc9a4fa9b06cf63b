/- Events: Behind and resolveOne, in plain words. Plain theorems, no condition. -/
import Derived.Test.YtmcpcdmonglkjaaEV3
set_option linter.unusedVariables false
set_option linter.unusedSimpArgs false
namespace Go.Proofs.Ytmcpcdmonglkjaa
open Go.RowKit

theorem p14_l2_eq (n:Nat) (x0:Sl Nd) (e:Int × Int × (Sl Int) × Int) (hp:e.2.2.1.xs.length ≤ 900) (h:Bd n x0.xs):∀ (m k:Nat),x0.xs.length < k + m → k ≤ x0.xs.length →
    p14_l2 n x0 e m k = some (if (x0.xs.drop k).any (fun y=>thr y.1.xs e.2.2.1.xs) then .inr (⟨[],some 0⟩,6) else .inl ()):=by
  intro m
  have hf:=h.few;have hb:=h.big
  induction m with
  | zero=>intro k h hk;omega
  | succ m IH =>
    intro k hkm hk
    rw [p14_l2]
    by_cases hlt:k < x0.xs.length
    · have ha:=h.all _ (List.getElem_mem hlt)
      rw [if_pos (decide_eq_true (show (k:Int) < lenI x0 by unfold lenI;omega)),ixN hlt,Option.bind_some,p27_eq n _ e.2.2.1 ha.1 (by omega) ha.2 (by omega),Option.bind_some,List.drop_eq_getElem_cons hlt,List.any_cons]
      try rw [Option.bind_some]
      cases hb:thr x0.xs[k].1.xs e.2.2.1.xs with
      | true=>rw [if_pos rfl,if_pos (by rfl)]
      | false=>rw [if_neg (by decide),ckS (by omega) (by omega),Option.bind_some,succI,IH (k + 1) (by omega) (by omega)];rfl
    · rw [if_neg (by rw [decide_eq_true_eq];unfold lenI;omega),List.drop_eq_nil_of_le (by omega)]
      rfl
theorem p14_l3_eq (n:Nat) (x0:Sl Nd) (e:Int × Int × (Sl Int) × Int) (h:Bd n x0.xs):∀ (m k:Nat),x0.xs.length < k + m → k ≤ x0.xs.length →
    p14_l3 n x0 e m k = some (if e.2.1 = 2 ∧ ((x0.xs.drop k).any fun y=>y.2.2 == e.2.2.2) = true then .inr (⟨[],some 0⟩,8) else .inl ()):=by
  intro m
  have hf:=h.few;have hb:=h.big
  induction m with
  | zero=>intro k h hk;omega
  | succ m IH =>
    intro k hkm hk
    rw [p14_l3]
    by_cases hlt:k < x0.xs.length
    · rw [if_pos (decide_eq_true (show (k:Int) < lenI x0 by unfold lenI;omega)),ixN hlt,List.drop_eq_getElem_cons hlt,List.any_cons,ckS (by omega) (by omega),succI]
      simp only [Option.bind_some]
      rw [IH (k + 1) (by omega) (by omega)]
      by_cases h2:e.2.1 = 2
      · rw [if_pos (by simp [h2]),Option.bind_some]
        cases hq:x0.xs[k].2.2 == e.2.2.2 with
        | true=>rw [if_pos rfl,if_pos ⟨h2,by rfl⟩]
        | false=>rw [if_neg (by decide)];simp only [Bool.false_or]
      · rw [if_neg (by simp [h2]),Option.bind_some,if_neg (by decide),if_neg (by simp [h2]),if_neg (by simp [h2])]
    · rw [if_neg (by rw [decide_eq_true_eq];unfold lenI;omega),List.drop_eq_nil_of_le (by omega)]
      simp
theorem p14_eq {n:Nat} {t:Sl Nd} (h:Bd n t.xs) (e:Int × Int × (Sl Int) × Int) (hp:e.2.2.1.xs ≠ []) (hL:e.2.2.1.xs.length ≤ 900) :
    ∃ T:Sl Nd,p14 n t e = some (T,(stepN (t.xs.map nd) e.2.1 e.2.2.1.xs e.2.2.2).2) ∧ Out T (stepN (t.xs.map nd) e.2.1 e.2.2.1.xs e.2.2.2).1:=by
  have hb:=h.big;have hf:=h.few
  have tl:(t.xs.map nd).length = t.xs.length:=List.length_map _
  have hpos:0 < e.2.2.1.xs.length:=List.length_pos_iff.2 hp
  unfold p14
  rw [p26_fnd h _ hL,Option.bind_some]
  by_cases h1:e.2.1 = 1
  · rw [if_pos (by simp [h1]),h1]
    cases hq:fnd (t.xs.map nd) e.2.2.1.xs with
    | some k =>
      rw [if_pos (decide_eq_true (show ixO (some k) ≥ 0 by simp [ixO])),sA1 hq]
      exact ⟨_,rfl,Out.nil⟩
    | none =>
      obtain ⟨d,hd⟩:=slI_take (xs:=e.2.2.1.xs) (c:=e.2.2.1.cap) (k:=e.2.2.1.xs.length - 1) (by omega)
      have e1:ckI .i64 (lenI e.2.2.1 - 1) = some ((e.2.2.1.xs.length - 1:Nat):Int):=(ckS (by unfold lenI;omega) (by unfold lenI;omega)).trans (by unfold lenI;congr 1;omega)
      have hd':slI e.2.2.1 0 ((e.2.2.1.xs.length - 1:Nat):Int) = some ⟨e.2.2.1.xs.take (e.2.2.1.xs.length - 1),d⟩:=hd
      rw [if_neg (by rw [decide_eq_true_eq];simp [ixO]),e1,Option.bind_some,hd',Option.bind_some,p26_fnd h _ (by simp;omega),Option.bind_some]
      have hcond:((if (decide ((lenI e.2.2.1) > 1)) = true then (if (decide (ixO (fnd (t.xs.map nd) (e.2.2.1.xs.take (e.2.2.1.xs.length - 1))) < 0)) = false then (idx t.xs (ixO (fnd (t.xs.map nd) (e.2.2.1.xs.take (e.2.2.1.xs.length - 1))))).bind fun y_34=>some (y_34.2.1 != 2) else some true).bind fun q_33=>some q_33 else some false):Option Bool) = some (!hel (t.xs.map nd) e.2.2.1.xs):=by
        unfold hel
        rw [← List.dropLast_eq_take]
        by_cases hl1:e.2.2.1.xs.length = 1
        · rw [if_neg (by rw [decide_eq_true_eq];unfold lenI;omega),decide_eq_true hl1];rfl
        · rw [if_pos (decide_eq_true (by unfold lenI;omega)),decide_eq_false hl1]
          cases hf2:fnd (t.xs.map nd) e.2.2.1.xs.dropLast with
          | none=>rfl
          | some k =>
            obtain ⟨hk,_⟩:=fnd_lt hf2
            have hk':k < t.xs.length:=by simpa using hk
            rw [if_pos (decide_eq_false (by simp only [ixO];omega)),show ixO (some k) = (k:Int) from rfl,ixN hk',Option.bind_some,Option.bind_some]
            simp only [ndAt hk',Option.map_some,Bool.false_or]
            congr 1
            simp [nd]
            by_cases e:t.xs[k].2.1 = 2 <;> simp [e]
      have hcond':=hcond
      simp only at hcond' ⊢
      rw [hcond',Option.bind_some]
      cases hh:hel (t.xs.map nd) e.2.2.1.xs with
      | false=>rw [if_pos (by rfl),sA2 hq hh];exact ⟨_,rfl,Out.nil⟩
      | true =>
        rw [if_neg (by decide)]
        by_cases h127:127 ≤ t.xs.length
        · rw [if_pos (decide_eq_true (show lenI t ≥ 127 by unfold lenI;omega)),sA3 hq hh (by omega)];exact ⟨_,rfl,Out.nil⟩
        · have hpos:posN (t.xs.map nd) e.2.2.1.xs ≤ t.xs.length:=by have:=posN_le (t.xs.map nd) e.2.2.1.xs;omega
          have e1:=p14_l1_eq n t e (by omega) h.all n 0 (by omega) (by omega)
          have e1':p14_l1 n t e n 0 = some ((posN (t.xs.map nd) e.2.2.1.xs:Nat):Int):=by simpa [pos_nd] using e1
          obtain ⟨d1,hd1⟩:=slI_take (xs:=t.xs) (c:=t.cap) hpos
          obtain ⟨d2,hd2⟩:=slI_drop (xs:=t.xs) (c:=t.cap) hpos
          have hd1':slI t 0 ((posN (t.xs.map nd) e.2.2.1.xs:Nat):Int) = some ⟨t.xs.take (posN (t.xs.map nd) e.2.2.1.xs),d1⟩:=hd1
          have hd2':slI t ((posN (t.xs.map nd) e.2.2.1.xs:Nat):Int) (lenI t) = some ⟨t.xs.drop (posN (t.xs.map nd) e.2.2.1.xs),d2⟩:=hd2
          rw [if_neg (by rw [decide_eq_true_eq];unfold lenI;omega),e1',Option.bind_some,hd1',Option.bind_some,appN (by simp;omega),Option.bind_some,appN (by simp;omega),Option.bind_some,hd2',Option.bind_some,appN (by simp;omega),Option.bind_some,Option.bind_some,sA4 hq hh (by omega)]
          refine ⟨_,rfl,?_⟩
          have e2:([] ++ t.xs.take (posN (t.xs.map nd) e.2.2.1.xs) ++ [(e.2.2.1,1,0)]) ++ t.xs.drop (posN (t.xs.map nd) e.2.2.1.xs) = t.xs.take (posN (t.xs.map nd) e.2.2.1.xs) ++ (e.2.2.1,1,0) :: t.xs.drop (posN (t.xs.map nd) e.2.2.1.xs):=by simp
          show Out ⟨([] ++ t.xs.take (posN (t.xs.map nd) e.2.2.1.xs) ++ [(e.2.2.1,1,0)]) ++ t.xs.drop (posN (t.xs.map nd) e.2.2.1.xs),_⟩ _
          rw [e2]
          exact Out.ins h hL _
  · rw [if_neg (by simp [h1])]
    cases hq:fnd (t.xs.map nd) e.2.2.1.xs with
    | none =>
      rw [if_pos (decide_eq_true (show ixO none < 0 by simp [ixO])),sD1 hq h1]
      exact ⟨_,rfl,Out.nil⟩
    | some k =>
      obtain ⟨hk,hkp⟩:=fnd_lt hq
      have hk':k < t.xs.length:=by simpa using hk
      have hp:t.xs[k].1.xs = e.2.2.1.xs:=by simpa [nd] using hkp
      have hat:=ndAt hk'
      rw [if_neg (by rw [decide_eq_true_eq];simp [ixO]),show ixO (some k) = (k:Int) from rfl]
      by_cases h4:e.2.1 = 4
      · have e2:=p14_l2_eq n t e hL h n 0 (by omega) (by omega)
        have e2':p14_l2 n t e n 0 = some (if t.xs.any (fun y=>thr y.1.xs e.2.2.1.xs) then .inr (⟨[],some 0⟩,6) else .inl ()):=by rw [List.drop_zero] at e2;exact e2
        have hany:((t.xs.map nd).any fun y=>thr y.1 e.2.2.1.xs) = t.xs.any fun y=>thr y.1.xs e.2.2.1.xs:=any_nd _ _
        rw [if_pos (by simp [h4]),e2',Option.bind_some,h4]
        cases ha:t.xs.any fun y=>thr y.1.xs e.2.2.1.xs with
        | true=>rw [if_pos rfl,lrr,sD2 hq (hany.trans ha)];exact ⟨_,rfl,Out.nil⟩
        | false =>
          obtain ⟨d1,hd1⟩:=slI_take (xs:=t.xs) (c:=t.cap) (show k ≤ t.xs.length by omega)
          obtain ⟨d2,hd2⟩:=slI_drop (xs:=t.xs) (c:=t.cap) (show k + 1 ≤ t.xs.length by omega)
          have hd1':slI t 0 (k:Int) = some ⟨t.xs.take k,d1⟩:=hd1
          have hd2':slI t ((k + 1:Nat):Int) (lenI t) = some ⟨t.xs.drop (k + 1),d2⟩:=hd2
          rw [if_neg (by decide),lrl,hd1',Option.bind_some,appN (by simp;omega),Option.bind_some,ckS (by omega) (by omega),Option.bind_some,succI,hd2',Option.bind_some,appN (by simp;omega),Option.bind_some,Option.bind_some,sD3 hq (hany.trans ha)]
          refine ⟨_,rfl,?_⟩
          have e:([] ++ t.xs.take k) ++ t.xs.drop (k + 1) = t.xs.take k ++ t.xs.drop (k + 1):=by simp
          show Out ⟨([] ++ t.xs.take k) ++ t.xs.drop (k + 1),_⟩ _
          rw [e]
          exact Out.del h k
      · rw [if_neg (by simp [h4]),ixN hk',Option.bind_some]
        by_cases hw:t.xs[k].2.1 = 1
        · have hm:((t.xs.map nd)[k]?).map (·.2.1) = some 1:=by rw [hat];simp [nd,hw]
          have hany:((t.xs.map nd).any fun y=>y.2.2 == e.2.2.2) = t.xs.any fun y=>y.2.2 == e.2.2.2:=any_nd _ _
          have e3:=p14_l3_eq n t e h n 0 (by omega) (by omega)
          have e3':p14_l3 n t e n 0 = some (if e.2.1 = 2 ∧ (t.xs.any fun y=>y.2.2 == e.2.2.2) = true then .inr (⟨[],some 0⟩,8) else .inl ()):=by rw [List.drop_zero] at e3;exact e3
          rw [if_neg (by simp [hw]),e3',Option.bind_some]
          by_cases h3:e.2.1 = 2 ∧ (t.xs.any fun y=>y.2.2 == e.2.2.2) = true
          · rw [if_pos h3,lrr,sS3 hq h1 h4 hm ⟨h3.1,hany.trans h3.2⟩]
            exact ⟨_,rfl,Out.nil⟩
          · have ha:appI ([]:List Nd) t.xs = some t.xs:=appN (by simp;omega)
            have hset:∀ z:Nd,(t.xs.set k z)[k]? = some z:=fun z=>by simp [hk']
            rw [if_neg h3,lrl,ha,Option.bind_some,ixN hk',Option.bind_some]
            simp only [Int.toNat_natCast]
            rw [idx_nat,hset,Option.bind_some,sS4 hq h1 h4 hm (by rw [hany];exact h3),List.set_set]
            refine ⟨_,rfl,?_⟩
            have ho:=Out.set h hk' (w:=e.2.1) (ad:=e.2.2.2) (c:=capA (some 0) t.xs.length)
            rw [hp] at ho
            exact ho
        · have hm:¬ ((t.xs.map nd)[k]?).map (·.2.1) = some 1:=by rw [hat];simp [nd,hw]
          rw [if_pos (by simpa using hw),sS2 hq h1 h4 hm]
          exact ⟨_,rfl,Out.nil⟩
/-! ### What is placed and addressed -/
def portOk (p:Int):Bool:=decide (1 ≤ p) && decide (p ≤ 7)
def plcd (p:List Int):Bool:=decide (1 ≤ p.length) && decide (p.length ≤ 6) && p.all portOk
def adr (w ad:Int):Bool:=if w = 2 then decide (1 ≤ ad) && decide (ad ≤ 127) else decide (ad = 0)
theorem p53_eq (n:Nat) (a:Int):p53 n a = some (!portOk a):=by
  unfold p53 portOk
  rw [orS,Option.bind_some]
  congr 1
  by_cases h1:a < 1
  · rw [decide_eq_true h1,decide_eq_false (show ¬ 1 ≤ a by omega)];rfl
  · by_cases h2:a > 7
    · rw [decide_eq_true h2,decide_eq_false (show ¬ a ≤ 7 by omega)];simp
    · rw [decide_eq_false h1,decide_eq_false h2,decide_eq_true (show 1 ≤ a by omega),decide_eq_true (show a ≤ 7 by omega)];rfl
theorem p63_53_l1_eq (n:Nat) (x0:Sl Int) (hL:x0.xs.length ≤ 1000000):∀ (m k:Nat),x0.xs.length < k + m → k ≤ x0.xs.length →
    (p63_53_l1 n x0 m k = some (.inl ()) ∧ (x0.xs.drop k).all portOk = true) ∨ (∃ z:Int,0 ≤ z ∧ p63_53_l1 n x0 m k = some (.inr z) ∧ (x0.xs.drop k).all portOk = false):=by
  intro m
  induction m with
  | zero=>intro k h hk;omega
  | succ m IH =>
    intro k h hk
    rw [p63_53_l1]
    by_cases hlt:k < x0.xs.length
    · rw [if_pos (decide_eq_true (show (k:Int) < lenI x0 by unfold lenI;omega)),ixN hlt,Option.bind_some,p53_eq,Option.bind_some,List.drop_eq_getElem_cons hlt,List.all_cons]
      cases hb:portOk x0.xs[k] with
      | true=>rw [if_neg (by decide),ckS (by omega) (by omega),Option.bind_some,succI];exact IH (k + 1) (by omega) (by omega)
      | false=>rw [if_pos (by rfl)];exact .inr ⟨_,by omega,rfl,rfl⟩
    · rw [if_neg (by rw [decide_eq_true_eq];unfold lenI;omega),List.drop_eq_nil_of_le (by omega)]
      exact .inl ⟨rfl,rfl⟩
theorem p52_eq (n:Nat) (x0:Sl Int) (hn:x0.xs.length < n) (hL:x0.xs.length ≤ 1000000):p52_53 n x0 = some (!x0.xs.all portOk):=by
  unfold p52_53 p63_53
  rcases p63_53_l1_eq n x0 hL n 0 (by omega) (by omega) with ⟨h1,h2⟩ | ⟨z,hz,h1,h2⟩
  · have h1':p63_53_l1 n x0 n 0 = some (.inl ()):=h1
    have h2':x0.xs.all portOk = true:=by simpa using h2
    rw [h1',Option.bind_some,lrl,Option.bind_some,h2']
    rfl
  · have h1':p63_53_l1 n x0 n 0 = some (.inr z):=h1
    have h2':x0.xs.all portOk = false:=by simpa only [List.drop_zero] using h2
    rw [h1',Option.bind_some,lrr,Option.bind_some,h2',decide_eq_true (by omega)]
    rfl
theorem p32_eq (n:Nat) (x0:Sl Int) (hn:x0.xs.length < n) (hL:x0.xs.length ≤ 1000000):p32 n x0 = some (plcd x0.xs):=by
  unfold p32 p29 plcd
  by_cases h0:x0.xs.length = 0
  · rw [if_neg (by rw [decide_eq_true_eq];unfold lenI;omega),Option.bind_some,decide_eq_false (by omega:¬ 1 ≤ x0.xs.length)];rfl
  · rw [if_pos (decide_eq_true (by unfold lenI;omega)),decide_eq_false (by unfold lenI;omega:¬ lenI x0 < 1),if_pos rfl,Option.bind_some,decide_eq_true (by omega:1 ≤ x0.xs.length)]
    by_cases h6:x0.xs.length ≤ 6
    · rw [decide_eq_false (by unfold lenI;omega:¬ lenI x0 > 6),if_pos rfl,p52_eq n x0 hn hL,Option.bind_some,Option.bind_some,decide_eq_true h6]
      cases x0.xs.all portOk <;> rfl
    · rw [decide_eq_true (by unfold lenI;omega:lenI x0 > 6),if_neg (by decide),Option.bind_some,if_pos rfl,decide_eq_false h6]
      rfl
theorem p33_eq (n:Nat) (w ad:Int):p33 n w ad = some (adr w ad):=by
  unfold p33 adr
  by_cases h:w = 2
  · rw [if_pos (by simp [h]),if_pos h,andS,Option.bind_some]
  · rw [if_neg (by simp [h]),if_neg h]
    congr 1
theorem plcd_iff {p:List Int}:plcd p = true ↔ (1 ≤ p.length ∧ p.length ≤ 6) ∧ ∀ a ∈ p,1 ≤ a ∧ a ≤ 7:=by simp [plcd,portOk,List.all_eq_true]
/-- A tree whose slices are of their own length. -/
def Own (T:Sl Nd):Prop:=T.cap = some T.xs.length ∧ ∀ y ∈ T.xs,y.1.cap = some y.1.xs.length
theorem step_err (t:List N) (w:Int) (p:List Int) (ad:Int):(stepN t w p ad).2 ≠ 0 → (stepN t w p ad).1 = []:=by
  unfold stepN
  repeat' split
  all_goals simp
theorem Out.own {n:Nat} {l:List Nd} {c:Option Nat} {r:List N} (h:Out ⟨l,c⟩ r):Out ⟨l.map ownN,some l.length⟩ r ∧ Own ⟨l.map ownN,some l.length⟩:=by
  obtain ⟨h1,h2,h3⟩:=h
  refine ⟨⟨?_,by simpa using h2,?_⟩,by simp [],?_⟩
  · rw [← h1];simp [List.map_map];intros;rfl
  · intro y hy
    obtain ⟨z,hz,rfl⟩:=List.mem_map.1 hy
    exact h3 z hz
  · intro y hy
    obtain ⟨z,hz,rfl⟩:=List.mem_map.1 hy
    rfl
theorem p30_eq {n:Nat} {t:Sl Nd} (h:Bd n t.xs) (e:Int × Int × (Sl Int) × Int) (hw:1 ≤ e.2.1 ∧ e.2.1 ≤ 4) (hp:plcd e.2.2.1.xs = true) (ha:adr e.2.1 e.2.2.2 = true) :
    ∃ T:Sl Nd,p30 n t e = some (T,(stepN (t.xs.map nd) e.2.1 e.2.2.1.xs e.2.2.2).2) ∧ Out T (stepN (t.xs.map nd) e.2.1 e.2.2.1.xs e.2.2.2).1 ∧ Own T:=by
  have hb:=h.big;have hf:=h.few
  have hpl:=(plcd_iff.1 hp).1
  have key:∀ T:Sl Nd,Out T (stepN (t.xs.map nd) e.2.1 e.2.2.1.xs e.2.2.2).1 → ∃ T':Sl Nd,(if ((stepN (t.xs.map nd) e.2.1 e.2.2.1.xs e.2.2.2).2 != 0) then (some ((⟨[],some 0⟩:Sl Nd),(stepN (t.xs.map nd) e.2.1 e.2.2.1.xs e.2.2.2).2)) else (p45 n (⟨T.xs,.none⟩:Sl Nd)).bind fun t_138=>some ((⟨t_138.xs,t_138.cap⟩:Sl Nd),0)) = some (T',(stepN (t.xs.map nd) e.2.1 e.2.2.1.xs e.2.2.2).2) ∧ Out T' (stepN (t.xs.map nd) e.2.1 e.2.2.1.xs e.2.2.2).1 ∧ Own T':=by
    intro T hT
    by_cases h0:(stepN (t.xs.map nd) e.2.1 e.2.2.1.xs e.2.2.2).2 = 0
    · rw [if_neg (by simp [h0]),p45_eq n ⟨T.xs,.none⟩ (by have:=hT.2.1;show T.xs.length < n;omega) (by have:=hT.2.1;show T.xs.length ≤ 1000000;omega) (fun y hy=>by have:=hT.2.2 y hy;omega),Option.bind_some,h0]
      obtain ⟨o1,o2⟩:=Out.own (n:=n) (c:=T.cap) (show Out ⟨T.xs,T.cap⟩ _ from hT)
      exact ⟨_,rfl,o1,o2⟩
    · rw [if_pos (by simpa using h0),step_err _ _ _ _ h0]
      exact ⟨_,rfl,Out.nil,rfl,fun y hy=>by cases hy⟩
  unfold p30
  rw [decide_eq_false (by omega:¬ e.2.1 < 1),if_pos rfl,Option.bind_some,decide_eq_false (by omega:¬ e.2.1 > 4),if_pos rfl,p32_eq n _ (by omega) (by omega),Option.bind_some,hp,Option.bind_some]
  simp only [Bool.not_true,if_true,if_neg (show ¬ (false = true) by decide)]
  rw [p33_eq,Option.bind_some,ha,Option.bind_some]
  simp only [Bool.not_true,if_neg (show ¬ (false = true) by decide)]
  have hne:e.2.2.1.xs ≠ []:=fun h=>by rw [h] at hpl;simp at hpl
  by_cases h1:e.2.1 = 1
  · rw [if_pos (by simp [h1])]
    rw [h1] at key ⊢
    obtain ⟨T,hT,ho⟩:=p54_eq h e.2.2.1 hne (by omega) e.2.2.2
    rw [hT]
    exact key T ho
  · by_cases h4:e.2.1 = 4
    · rw [if_neg (by simp [h1]),if_pos (by simp [h4])]
      rw [h4] at key ⊢
      obtain ⟨T,hT,ho⟩:=p55_eq h e.2.2.1 e.2.2.2
      rw [hT]
      exact key T ho
    · rw [if_neg (by simp [h1]),if_neg (by simp [h4])]
      obtain ⟨T,hT,ho⟩:=p56_eq h e h1 h4
      rw [hT]
      exact key T ho
end Go.Proofs.Ytmcpcdmonglkjaa
