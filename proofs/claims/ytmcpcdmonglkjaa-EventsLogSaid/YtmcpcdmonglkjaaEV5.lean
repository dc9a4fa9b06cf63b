/- Events: a valid tree stays valid. Plain theorems, no condition. -/
import Derived.Test.YtmcpcdmonglkjaaEV4
set_option linter.unusedVariables false
set_option linter.unusedSimpArgs false
namespace Go.Proofs.Ytmcpcdmonglkjaa
open Go.RowKit

def BefR (a b:N):Prop:=bef a.1 b.1 = true
def AdrR (a b:N):Prop:=a.2.1 = 2 → b.2.1 = 2 → a.2.2 ≠ b.2.2
structure V (t:List N):Prop where
  few:t.length ≤ 127
  nodes:∀ y ∈ t,plcd y.1 = true ∧ (1 ≤ y.2.1 ∧ y.2.1 ≤ 3) ∧ adr y.2.1 y.2.2 = true
  par:∀ y ∈ t,y.1.length = 1 ∨ ∃ z ∈ t,z.1 = y.1.dropLast ∧ z.2.1 = 2
  ord:t.Pairwise BefR
  adrs:t.Pairwise AdrR
theorem V.nil:V []:=⟨by simp,fun y hy=>(by cases hy),fun y hy=>(by cases hy),.nil,.nil⟩
theorem V.bd {n:Nat} {t:List Nd} (hn:1000 < n) (h:V (t.map nd)):Bd n t:=⟨hn,by have:=h.few;simp at this;omega,fun y hy=>by
  have:=(plcd_iff.1 (h.nodes (nd y) (List.mem_map_of_mem hy)).1).1
  have e:(nd y).1 = y.1.xs:=rfl
  rw [e] at this
  omega⟩
theorem ord_inj {t:List N} (h:t.Pairwise BefR) {i j:Nat} (hi:i < t.length) (hj:j < t.length) (e:t[i].1 = t[j].1):i = j:=by
  rw [List.pairwise_iff_getElem] at h
  rcases Nat.lt_trichotomy i j with hlt | he | hgt
  · have:=h i j hi hj hlt
    unfold BefR at this
    rw [e,bef_irr] at this
    cases this
  · exact he
  · have:=h j i hj hi hgt
    unfold BefR at this
    rw [e,bef_irr] at this
    cases this
theorem fnd_at {t:List N} (h:t.Pairwise BefR) {j:Nat} (hj:j < t.length):fnd t t[j].1 = some j:=by
  cases hf:fnd t t[j].1 with
  | none=>exact absurd rfl (fnd_none hf _ (List.getElem_mem hj))
  | some i =>
    obtain ⟨hi,e⟩:=fnd_lt hf
    rw [ord_inj h hi hj e]
theorem hel_of {t:List N} (h:t.Pairwise BefR) {p:List Int} (hp:p.length = 1 ∨ ∃ j,∃ hj:j < t.length,(t[j]'hj).1 = p.dropLast ∧ (t[j]'hj).2.1 = 2):hel t p = true:=by
  unfold hel
  rcases hp with h1 | ⟨j,hj,e1,e2⟩
  · rw [decide_eq_true h1];rfl
  · rw [← e1,fnd_at h hj]
    simp [List.getElem?_eq_getElem hj,e2]
theorem of_hel {t:List N} {p:List Int} (h:hel t p = true):p.length = 1 ∨ ∃ z ∈ t,z.1 = p.dropLast ∧ z.2.1 = 2:=by
  unfold hel at h
  rw [Bool.or_eq_true] at h
  rcases h with h | h
  · exact .inl (of_decide_eq_true h)
  · cases hf:fnd t p.dropLast with
    | none=>rw [hf] at h;cases h
    | some k =>
      obtain ⟨hk,e⟩:=fnd_lt hf
      rw [hf] at h
      simp [List.getElem?_eq_getElem hk] at h
      exact .inr ⟨_,List.getElem_mem hk,e,h⟩
theorem drop_bef (p:List Int):∀ {t:List N},t.Pairwise BefR → (∀ y ∈ t,y.1 ≠ p) → ∀ b ∈ t.dropWhile (fun y=>bef y.1 p),bef p b.1 = true
  | [],_,_,b,hb=>by cases hb
  | y :: t,h,hn,b,hb=>by
    rw [List.pairwise_cons] at h
    rw [List.dropWhile_cons] at hb
    cases hy:bef y.1 p with
    | true =>
      rw [if_pos hy] at hb
      exact drop_bef p h.2 (fun z hz=>hn z (by simp [hz])) b hb
    | false =>
      rw [if_neg (by simp [hy])] at hb
      have hpy:bef p y.1 = true:=by
        cases hq:bef p y.1 with
        | true=>rfl
        | false=>exact absurd (bef_eq _ _ hy hq) (hn y (by simp))
      rcases List.mem_cons.1 hb with rfl | hb
      · exact hpy
      · exact bef_trans _ _ _ hpy (h.1 b hb)
theorem take_bef (p:List Int):∀ {t:List N},∀ b ∈ t.takeWhile (fun y=>bef y.1 p),bef b.1 p = true
  | [],b,hb=>by cases hb
  | y :: t,b,hb=>by
    rw [List.takeWhile_cons] at hb
    cases hy:bef y.1 p with
    | true =>
      rw [if_pos hy] at hb
      rcases List.mem_cons.1 hb with rfl | hb
      · exact hy
      · exact take_bef p b hb
    | false=>rw [if_neg (by simp [hy])] at hb;cases hb
theorem pos_split (t:List N) (p:List Int):t.take (posN t p) = t.takeWhile (fun y=>bef y.1 p) ∧ t.drop (posN t p) = t.dropWhile (fun y=>bef y.1 p):=by
  have e:t.takeWhile (fun y=>bef y.1 p) ++ t.dropWhile (fun y=>bef y.1 p) = t:=List.takeWhile_append_dropWhile
  refine ⟨?_,?_⟩
  · have:=List.take_left' (l₁:=t.takeWhile (fun y=>bef y.1 p)) (l₂:=t.dropWhile (fun y=>bef y.1 p)) (i:=posN t p) rfl
    rw [e] at this;exact this
  · have:=List.drop_left' (l₁:=t.takeWhile (fun y=>bef y.1 p)) (l₂:=t.dropWhile (fun y=>bef y.1 p)) (i:=posN t p) rfl
    rw [e] at this;exact this
theorem V.ins {t:List N} (h:V t) {p:List Int} (hp:plcd p = true) (hf:fnd t p = none) (hh:hel t p = true) (hl:¬ 127 ≤ t.length):V (t.take (posN t p) ++ (p,1,0) :: t.drop (posN t p)):=by
  have mem:∀ z ∈ t,z ∈ t.take (posN t p) ++ (p,1,0) :: t.drop (posN t p):=fun z hz=>by
    rw [← List.take_append_drop (posN t p) t,List.mem_append] at hz
    rw [List.mem_append,List.mem_cons]
    rcases hz with hz | hz
    · exact .inl hz
    · exact .inr (.inr hz)
  have old:∀ z ∈ t.take (posN t p) ++ (p,1,0) :: t.drop (posN t p),z = (p,1,0) ∨ z ∈ t:=fun z hz=>by
    rw [List.mem_append,List.mem_cons] at hz
    rcases hz with hz | hz | hz
    · exact .inr (List.mem_of_mem_take hz)
    · exact .inl hz
    · exact .inr (List.mem_of_mem_drop hz)
  have hn:=fnd_none hf
  refine ⟨by simp;omega,fun y hy=>?_,fun y hy=>?_,?_,?_⟩
  · rcases old y hy with rfl | hy
    · exact ⟨hp,by show (1:Int) ≤ 1 ∧ (1:Int) ≤ 3;omega,rfl⟩
    · exact h.nodes y hy
  · rcases old y hy with rfl | hy
    · rcases of_hel hh with h1 | ⟨z,hz,e⟩
      · exact .inl h1
      · exact .inr ⟨z,mem z hz,e⟩
    · rcases h.par y hy with h1 | ⟨z,hz,e⟩
      · exact .inl h1
      · exact .inr ⟨z,mem z hz,e⟩
  · obtain ⟨e1,e2⟩:=pos_split t p
    have hd:=drop_bef p h.ord hn
    have ht:=take_bef p (t:=t)
    rw [List.pairwise_append,List.pairwise_cons]
    refine ⟨h.ord.sublist (List.take_sublist _ _),⟨fun b hb=>?_,h.ord.sublist (List.drop_sublist _ _)⟩,fun a ha b hb=>?_⟩
    · rw [e2] at hb;exact hd b hb
    · rw [e1] at ha
      rcases List.mem_cons.1 hb with rfl | hb
      · exact ht a ha
      · rw [e2] at hb;exact bef_trans _ _ _ (ht a ha) (hd b hb)
  · have ho:=h.adrs
    rw [← List.take_append_drop (posN t p) t,List.pairwise_append] at ho
    rw [List.pairwise_append,List.pairwise_cons]
    refine ⟨ho.1,⟨fun b hb h1=>?_,ho.2.1⟩,fun a ha b hb=>?_⟩
    · cases h1
    · rcases List.mem_cons.1 hb with rfl | hb
      · intro _ h2;cases h2
      · exact ho.2.2 a ha b hb
theorem V.del {t:List N} (h:V t) {p:List Int} {k:Nat} (hf:fnd t p = some k) (ht:(t.any fun y=>thr y.1 p) = false):V (t.eraseIdx k):=by
  obtain ⟨hk,hp⟩:=fnd_lt hf
  have sub:=List.eraseIdx_sublist t k
  refine ⟨by have:=sub.length_le;have:=h.few;omega,fun y hy=>h.nodes y (sub.subset hy),fun y hy=>?_,h.ord.sublist sub,h.adrs.sublist sub⟩
  have hy':=sub.subset hy
  rcases h.par y hy' with h1 | ⟨z,hz,e,e2⟩
  · exact .inl h1
  · refine .inr ⟨z,?_,e,e2⟩
    obtain ⟨i,hi,rfl⟩:=List.mem_iff_getElem.1 hz
    rw [List.mem_eraseIdx_iff_getElem]
    refine ⟨i,hi,fun hik=>?_,rfl⟩
    subst hik
    have hne:1 ≤ y.1.length:=(plcd_iff.1 (h.nodes y hy').1).1.1
    have hthr:thr y.1 p = true:=by
      unfold thr
      rw [← hp,e,Bool.and_eq_true,decide_eq_true_eq,decide_eq_true_eq,List.length_dropLast]
      exact ⟨by omega,by rw [List.dropLast_eq_take]⟩
    have:=List.any_eq_false.1 ht y hy'
    exact this hthr
theorem V.set {t:List N} (h:V t) {p:List Int} {k:Nat} {w ad:Int} (hf:fnd t p = some k) (hw:1 ≤ w ∧ w ≤ 4) (h1:w ≠ 1) (h4:w ≠ 4) (ha:adr w ad = true)
    (hm:(t[k]?).map (·.2.1) = some 1) (h3:¬ (w = 2 ∧ (t.any fun y=>y.2.2 == ad) = true)):V (t.set k (p,w,ad)):=by
  obtain ⟨hk,hp⟩:=fnd_lt hf
  rw [List.getElem?_eq_getElem hk] at hm
  have hm:t[k].2.1 = 1:=Option.some.inj hm
  have at_:∀ i (hi:i < (t.set k (p,w,ad)).length),(t.set k (p,w,ad))[i] = (p,w,ad) ∧ i = k ∨ (∃ hi':i < t.length,(t.set k (p,w,ad))[i] = t[i] ∧ i ≠ k):=fun i hi=>by
    rw [List.getElem_set]
    by_cases e:k = i
    · exact .inl ⟨if_pos e,e.symm⟩
    · exact .inr ⟨by simpa using hi,if_neg e,fun h=>e h.symm⟩
  have keep:∀ z ∈ t,z.2.1 = 2 → z ∈ t.set k (p,w,ad):=fun z hz h2=>by
    obtain ⟨i,hi,rfl⟩:=List.mem_iff_getElem.1 hz
    have hik:k ≠ i:=fun e=>by subst e;rw [hm] at h2;cases h2
    exact List.mem_iff_getElem.2 ⟨i,by simpa using hi,by rw [List.getElem_set,if_neg hik]⟩
  refine ⟨by simpa using h.few,fun y hy=>?_,fun y hy=>?_,?_,?_⟩
  · rcases List.mem_or_eq_of_mem_set hy with hy | rfl
    · exact h.nodes y hy
    · exact ⟨by rw [← hp];exact (h.nodes _ (List.getElem_mem hk)).1,by show 1 ≤ w ∧ w ≤ 3;omega,ha⟩
  · have:y.1.length = 1 ∨ ∃ z ∈ t,z.1 = y.1.dropLast ∧ z.2.1 = 2:=by
      rcases List.mem_or_eq_of_mem_set hy with hy | rfl
      · exact h.par y hy
      · have:=h.par _ (List.getElem_mem hk)
        rw [hp] at this
        exact this
    rcases this with h1 | ⟨z,hz,e,e2⟩
    · exact .inl h1
    · exact .inr ⟨z,keep z hz e2,e,e2⟩
  · have ho:=h.ord
    rw [List.pairwise_iff_getElem] at ho ⊢
    intro i j hi hj hij
    have hpath:∀ i (hi:i < (t.set k (p,w,ad)).length),∃ hi':i < t.length,((t.set k (p,w,ad))[i]).1 = t[i].1:=fun i hi=>by
      rcases at_ i hi with ⟨e,rfl⟩ | ⟨hi',e,_⟩
      · exact ⟨hk,by rw [e];exact hp.symm⟩
      · exact ⟨hi',by rw [e]⟩
    obtain ⟨hi',e1⟩:=hpath i hi
    obtain ⟨hj',e2⟩:=hpath j hj
    unfold BefR
    rw [e1,e2]
    exact ho i j hi' hj' hij
  · have ho:=h.adrs
    rw [List.pairwise_iff_getElem] at ho ⊢
    intro i j hi hj hij
    have hno:w = 2 → ∀ y ∈ t,y.2.2 ≠ ad:=fun h2 y hy e=>h3 ⟨h2,List.any_eq_true.2 ⟨y,hy,by simpa using e⟩⟩
    rcases at_ i hi with ⟨e1,rfl⟩ | ⟨hi',e1,_⟩
    · rcases at_ j hj with ⟨e2,rfl⟩ | ⟨hj',e2,_⟩
      · omega
      · rw [e1,e2];exact fun g1 g2 e=>hno g1 _ (List.getElem_mem hj') e.symm
    · rcases at_ j hj with ⟨e2,rfl⟩ | ⟨hj',e2,_⟩
      · rw [e1,e2];exact fun g1 g2 e=>hno g2 _ (List.getElem_mem hi') e
      · rw [e1,e2];exact ho i j hi' hj' hij
theorem V.step {t:List N} (h:V t) {w ad:Int} {p:List Int} (hw:1 ≤ w ∧ w ≤ 4) (hp:plcd p = true) (ha:adr w ad = true):V (stepN t w p ad).1:=by
  cases hf:fnd t p with
  | none =>
    by_cases h1:w = 1
    · subst h1
      cases hh:hel t p with
      | false=>rw [sA2 hf hh];exact V.nil
      | true =>
        by_cases h3:127 ≤ t.length
        · rw [sA3 hf hh h3];exact V.nil
        · rw [sA4 hf hh h3];exact h.ins hp hf hh h3
    · rw [sD1 hf h1];exact V.nil
  | some k =>
    by_cases h1:w = 1
    · subst h1;rw [sA1 hf];exact V.nil
    · by_cases h4:w = 4
      · subst h4
        cases ht:t.any fun y=>thr y.1 p with
        | true=>rw [sD2 hf ht];exact V.nil
        | false=>rw [sD3 hf ht];exact h.del hf ht
      · by_cases hm:(t[k]?).map (·.2.1) = some 1
        · by_cases h3:w = 2 ∧ (t.any fun y=>y.2.2 == ad) = true
          · rw [sS3 hf h1 h4 hm h3];exact V.nil
          · rw [sS4 hf h1 h4 hm h3];exact h.set hf hw h1 h4 ha hm h3
        · rw [sS2 hf h1 h4 hm];exact V.nil
theorem step_paths {t:List N} {w ad:Int} {p:List Int}:∀ y ∈ (stepN t w p ad).1,y.1 = p ∨ ∃ z ∈ t,z.1 = y.1:=by
  intro y hy
  unfold stepN at hy
  repeat' split at hy
  all_goals first
    | (cases hy;done)
    | skip
  · exact .inr ⟨y,(List.eraseIdx_sublist t _).subset hy,rfl⟩
  · rcases List.mem_or_eq_of_mem_set hy with hy | rfl
    · exact .inr ⟨y,hy,rfl⟩
    · exact .inl rfl
  · rw [List.mem_append,List.mem_cons] at hy
    rcases hy with hy | hy | hy
    · exact .inr ⟨y,List.mem_of_mem_take hy,rfl⟩
    · exact .inl (by rw [hy])
    · exact .inr ⟨y,List.mem_of_mem_drop hy,rfl⟩
/-! ### Check finds a valid tree valid -/
theorem p10_l1_eq {n:Nat} {x0:Sl Nd} (hn:1000 < n) (h:V (x0.xs.map nd)):∀ (m k:Nat) (S:List Int),x0.xs.length < k + m → k ≤ x0.xs.length →
    (∀ a ∈ S,∃ j,∃ hj:j < x0.xs.length,j < k ∧ (x0.xs[j]).2.1 = 2 ∧ (x0.xs[j]).2.2 = a) → ∃ S',p10_l1 n x0 m k S = some (.inl S'):=by
  intro m
  have hbd:=h.bd hn
  have hf:=hbd.few
  induction m with
  | zero=>intro k S h hk;omega
  | succ m IH =>
    intro k S hkm hk hS
    rw [p10_l1]
    by_cases hlt:k < x0.xs.length
    · have hkn:k < (x0.xs.map nd).length:=by simpa using hlt
      have hg:(x0.xs.map nd)[k] = nd x0.xs[k]:=List.getElem_map _
      have hm:nd x0.xs[k] ∈ x0.xs.map nd:=List.mem_map_of_mem (List.getElem_mem hlt)
      obtain ⟨v1,v2,v3⟩:=h.nodes _ hm
      have v1:plcd x0.xs[k].1.xs = true:=v1
      have v2:1 ≤ x0.xs[k].2.1 ∧ x0.xs[k].2.1 ≤ 3:=v2
      have v3:adr x0.xs[k].2.1 x0.xs[k].2.2 = true:=v3
      have vl:=(plcd_iff.1 v1).1
      obtain ⟨d,hd⟩:=slI_take (xs:=x0.xs) (c:=x0.cap) (show k ≤ x0.xs.length by omega)
      have hd':slI x0 0 (k:Int) = some ⟨x0.xs.take k,d⟩:=hd
      have hhel:hel ((x0.xs.take k).map nd) x0.xs[k].1.xs = true:=by
        rw [List.map_take]
        refine hel_of (h.ord.sublist (List.take_sublist _ _)) ?_
        rcases h.par _ hm with h1 | ⟨z,hz,e1,e2⟩
        · exact .inl h1
        · obtain ⟨j,hj,rfl⟩:=List.mem_iff_getElem.1 hz
          have hjk:j < k:=by
            have ho:=h.ord
            rw [List.pairwise_iff_getElem] at ho
            have hb:bef (x0.xs.map nd)[j].1 (x0.xs.map nd)[k].1 = true:=by
              rw [e1,hg]
              exact bef_dropLast _ (fun e=>by rw [show (nd x0.xs[k]).1 = x0.xs[k].1.xs from rfl] at e;rw [e] at vl;simp at vl)
            rcases Nat.lt_trichotomy j k with hlt2 | he | hgt
            · exact hlt2
            · subst he;rw [bef_irr] at hb;cases hb
            · have h2:=ho k j hkn hj hgt
              unfold BefR at h2
              rw [bef_asymm _ _ h2] at hb
              cases hb
          refine .inr ⟨j,by rw [List.length_take];omega,?_⟩
          rw [List.getElem_take]
          exact ⟨e1,e2⟩
      rw [if_pos (decide_eq_true (show (k:Int) < lenI x0 by unfold lenI;omega)),ixN hlt,Option.bind_some,p32_eq n _ (by omega) (by omega),Option.bind_some,v1,decide_eq_false (show ¬ x0.xs[k].2.1 < 1 by omega),decide_eq_false (show ¬ x0.xs[k].2.1 > 3 by omega),p33_eq,v3,hd']
      simp only [Bool.not_true,Bool.false_eq_true,if_false,if_true,Option.bind_some]
      rw [p34_eq (t:=⟨x0.xs.take k,d⟩) ⟨hn,by simp;omega,fun y hy=>hbd.short y (List.mem_of_mem_take hy)⟩ _ (fun e=>by rw [e] at vl;simp at vl) (by omega),Option.bind_some,Option.bind_some]
      rw [hhel]
      simp only [Bool.not_true,if_neg (show ¬ (false = true) by decide)]
      obtain ⟨S2,hcore,hS2⟩:∃ S2,(if (x0.xs[k].2.1 == 2) = true then ((p36 n S x0.xs[k].2.2).bind fun t_421=>some ((!t_421.1),t_421.2)) else (some (false,S))) = some (false,S2) ∧ ∀ a ∈ S2,∃ j,∃ hj:j < x0.xs.length,j < k + 1 ∧ (x0.xs[j]).2.1 = 2 ∧ (x0.xs[j]).2.2 = a:=by
        by_cases h2:x0.xs[k].2.1 = 2
        · rw [if_pos (by simp [h2])]
          have hnot:x0.xs[k].2.2 ∉ S:=fun hm2=>by
            obtain ⟨j,hj,hjk,e1,e2⟩:=hS _ hm2
            have ho:=h.adrs
            rw [List.pairwise_iff_getElem] at ho
            have:=ho j k (by simpa using hj) hkn hjk
            rw [List.getElem_map,List.getElem_map] at this
            exact this e1 h2 e2
          refine ⟨insK x0.xs[k].2.2 S,?_,fun a ha=>?_⟩
          · unfold p36
            rw [Option.bind_some,decide_eq_false hnot]
            rfl
          · unfold insK at ha
            rw [if_neg hnot,List.mem_append,List.mem_singleton] at ha
            rcases ha with ha | rfl
            · obtain ⟨j,hj,hjk,e⟩:=hS a ha
              exact ⟨j,hj,by omega,e⟩
            · exact ⟨k,hlt,by omega,h2,rfl⟩
        · refine ⟨S,if_neg (by simp [h2]),fun a ha=>?_⟩
          obtain ⟨j,hj,hjk,e⟩:=hS a ha
          exact ⟨j,hj,by omega,e⟩
      have hj:(if (decide ((k:Int) > 0)) = true then ((ckI .i64 ((k:Int) - 1)).bind fun x_371=>(idx x0.xs x_371).bind fun y_372=>(p35 n y_372.1 x0.xs[k].1).bind fun t_380=>(if (decide (t_380 ≥ 0)) = true then (some (true,S)) else ((if (x0.xs[k].2.1 == 2) = true then ((p36 n S x0.xs[k].2.2).bind fun t_421=>some ((!t_421.1),t_421.2)) else (some (false,S)))))) else ((if (x0.xs[k].2.1 == 2) = true then ((p36 n S x0.xs[k].2.2).bind fun t_546=>some ((!t_546.1),t_546.2)) else (some (false,S))))) = some (false,S2):=by
        by_cases h0:k = 0
        · rw [if_neg (by rw [decide_eq_true_eq];omega)];exact hcore
        · have hb:bef x0.xs[k - 1].1.xs x0.xs[k].1.xs = true:=by
            have ho:=h.ord
            rw [List.pairwise_iff_getElem] at ho
            have:=ho (k - 1) k (by simp;omega) hkn (by omega)
            rw [List.getElem_map,List.getElem_map] at this
            exact this
          have hs:=hbd.short _ (List.getElem_mem (show k - 1 < x0.xs.length by omega))
          rw [bef_cmp] at hb
          have hb:=of_decide_eq_true hb
          rw [if_pos (decide_eq_true (by omega)),show ckI .i64 ((k:Int) - 1) = some ((k - 1:Nat):Int) from (ckS (by omega) (by omega)).trans (by congr 1;omega),Option.bind_some,ixN (by omega),Option.bind_some,p35_eq n _ _ (by omega) (by omega),Option.bind_some,if_neg (by rw [decide_eq_true_eq];omega)]
          exact hcore
      simp only [decide_eq_true_eq] at hj ⊢
      rw [hj,Option.bind_some,if_neg Bool.false_ne_true,ckS (by omega) (by omega),Option.bind_some,succI]
      exact IH (k + 1) S2 (by omega) (by omega) hS2
    · rw [if_neg (by rw [decide_eq_true_eq];unfold lenI;omega)]
      exact ⟨_,rfl⟩
theorem p10_eq {n:Nat} {x0:Sl Nd} (hn:1000 < n) (h:V (x0.xs.map nd)):p10 n x0 = some 0:=by
  have hf:=(h.bd hn).few
  have h127:=h.few
  rw [List.length_map] at h127
  obtain ⟨S,hS⟩:=p10_l1_eq hn h n 0 [] (by omega) (by omega) (fun a ha=>by cases ha)
  have hS':p10_l1 n x0 n 0 [] = some (.inl S):=hS
  unfold p10 p31
  rw [if_neg (by rw [decide_eq_true_eq];unfold lenI;omega),Option.bind_some,hS',Option.bind_some,lrl]
/-- An event that is well formed. -/
def EvOk (e:Int × Int × (Sl Int) × Int):Prop:=(1 ≤ e.2.1 ∧ e.2.1 ≤ 4) ∧ plcd e.2.2.1.xs = true ∧ adr e.2.1 e.2.2.2 = true
theorem p9_eq {n:Nat} {t:Sl Nd} (hn:1000 < n) (h:V (t.xs.map nd)) {e:Int × Int × (Sl Int) × Int} (he:EvOk e) :
    ∃ T:Sl Nd,p9 n t e = some (T,(stepN (t.xs.map nd) e.2.1 e.2.2.1.xs e.2.2.2).2) ∧ Out T (stepN (t.xs.map nd) e.2.1 e.2.2.1.xs e.2.2.2).1 ∧ Own T:=by
  obtain ⟨T,hT,ho⟩:=p30_eq (h.bd hn) e he.1 he.2.1 he.2.2
  refine ⟨T,?_,ho⟩
  unfold p9
  rw [p10_eq hn h,Option.bind_some,if_neg (by decide),hT,Option.bind_some]
end Go.Proofs.Ytmcpcdmonglkjaa
