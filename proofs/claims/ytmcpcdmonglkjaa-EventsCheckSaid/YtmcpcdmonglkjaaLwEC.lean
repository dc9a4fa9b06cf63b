/- EventsCheck in plain words: every tree, every event. -/
import Derived.Test.YtmcpcdmonglkjaaEV99
import Derived.Test.YtmcpcdmonglkjaaLB2
set_option linter.unusedVariables false
set_option linter.unusedSimpArgs false
namespace Go.Proofs.Ytmcpcdmonglkjaa
open Go.RowKit
def lB (t:List N) (j:Nat):Prop:=∃ h:j < t.length,b_0 t[j].1 = true ∧ (1 ≤ t[j].2.1 ∧ t[j].2.1 ≤ 3) ∧ adr t[j].2.1 t[j].2.2 = true ∧ (∀ k (hk:k < j),bef (t[k]'(by omega)).1 t[j].1 = true ∧ (t[j].2.2 = 0 ∨ (t[k]'(by omega)).2.2 ≠ t[j].2.2)) ∧ hel (t.take j) t[j].1 = true
theorem lB_V {t:List N} (hl:t.length ≤ 127):(∀ j,j < t.length → lB t j) ↔ V t:=by
  constructor
  · intro h
    refine ⟨hl,fun y hy=>?_,fun y hy=>?_,?_,?_⟩
    · obtain ⟨j,hj,rfl⟩:=List.mem_iff_getElem.1 hy
      obtain ⟨_,h1,h2,h3,_⟩:=h j hj
      exact ⟨h1,h2,h3⟩
    · obtain ⟨j,hj,rfl⟩:=List.mem_iff_getElem.1 hy
      obtain ⟨_,_,_,_,_,h5⟩:=h j hj
      rcases of_hel h5 with e | ⟨z,hz,e⟩
      · exact .inl e
      · exact .inr ⟨z,List.mem_of_mem_take hz,e⟩
    · refine List.pairwise_iff_getElem.2 fun i j hi hj hij=>?_
      obtain ⟨_,_,_,_,h4,_⟩:=h j hj
      exact (h4 i hij).1
    · refine List.pairwise_iff_getElem.2 fun i j hi hj hij e1 e2=>?_
      obtain ⟨_,_,_,h3,h4,_⟩:=h j hj
      rcases (h4 i hij).2 with e | e
      · have:=ad2 (e2 ▸ h3);omega
      · exact e
  · intro h j hj
    have hn:=h.nodes _ (List.getElem_mem hj)
    refine ⟨hj,hn.1,hn.2.1,hn.2.2,fun k hk=>⟨List.pairwise_iff_getElem.1 h.ord k j (by omega) hj hk,?_⟩,?_⟩
    · by_cases h2:t[j].2.1 = 2
      · by_cases h3:(t[k]'(by omega)).2.1 = 2
        · exact .inr (List.pairwise_iff_getElem.1 h.adrs k j (by omega) hj hk h3 h2)
        · have:=ad0 (h.nodes _ (List.getElem_mem (show k < t.length by omega))).2.2 h3
          have:=ad2 (h2 ▸ hn.2.2)
          exact .inr (by omega)
      · exact .inl (ad0 hn.2.2 h2)
    · have h1:=h.take (j + 1)
      have hm:t[j] ∈ t.take (j + 1):=List.mem_iff_getElem.2 ⟨j,by rw [List.length_take];omega,by rw [List.getElem_take]⟩
      refine hel_of (h.take j).ord ?_
      rcases h1.par _ hm with e | ⟨z,hz,e1,e2⟩
      · exact .inl e
      · rw [List.take_add_one,List.getElem?_eq_getElem hj,Option.toList_some,List.mem_append,List.mem_singleton] at hz
        rcases hz with hz | hz
        · obtain ⟨i,hi,e⟩:=List.mem_iff_getElem.1 hz
          exact .inr ⟨i,hi,by rw [e];exact e1,by rw [e];exact e2⟩
        · rw [hz] at e1
          have:=congrArg List.length e1
          rw [List.length_dropLast] at this
          have:=(plcd_iff.1 hn.1).1
          omega
def fK (t:List Nd) (y:Nd) (q:Nat):Bool:=match t[q]? with | some a=>bef a.1.xs y.1.xs && (y.2.2 == 0 || a.2.2 != y.2.2) | none=>true
def af2 (f:Nat → Bool):Nat → Nat → Bool
  | 0,_=>true
  | c + 1,s=>f s && af2 f c (s + 1)
theorem af2_iff (f:Nat → Bool):∀ (c s:Nat),af2 f c s = true ↔ ∀ q,s ≤ q → q < s + c → f q = true
  | 0,s=>by simp [af2];intro q h1 h2;omega
  | c + 1,s=>by
    unfold af2
    rw [Bool.and_eq_true,af2_iff f c (s + 1)]
    constructor
    · rintro ⟨h1,h2⟩ q hq hq2
      by_cases h:q = s
      · rw [h];exact h1
      · exact h2 q (by omega) (by omega)
    · intro h
      exact ⟨h s (Nat.le_refl _) (by omega),fun q h1 h2=>h q (by omega) (by omega)⟩
theorem p8_l3_eq {n:Nat} {t:Sl Nd} (hP:Pth n t.xs) (hL:t.xs.length ≤ 1000) {i:Nat} (hi:i ≤ t.xs.length) (y:Nd):∀ (m k:Nat) (b:Bool),i < k + m → k ≤ i → p8_l3 n i t y m k b = some (b && af2 (fK t.xs y) (i - k) k):=by
  intro m
  induction m with
  | zero=>intro k b h hk;omega
  | succ m IH =>
    intro k b hkm hk
    rw [p8_l3]
    by_cases hlt:k < i
    · have hkl:k < t.xs.length:=by omega
      have hp:=hP.all _ (List.getElem_mem hkl)
      have hf:fK t.xs y k = (bef t.xs[k].1.xs y.1.xs && (y.2.2 == 0 || t.xs[k].2.2 != y.2.2)):=by unfold fK;rw [List.getElem?_eq_getElem hkl]
      have hs:i - k = (i - (k + 1)) + 1:=by omega
      rw [if_pos (decide_eq_true (by omega)),ixN hkl]
      simp only [Option.bind_some]
      rw [p28_eq n _ _ hp.1 hp.2,hs,af2,hf,← Bool.and_assoc,← IH (k + 1) (b && (bef t.xs[k].1.xs y.1.xs && (y.2.2 == 0 || t.xs[k].2.2 != y.2.2))) (by omega) (by omega),← b_o]
      have hck:ckI .i64 ((k:Int) + 1) = some ((k:Int) + 1):=ckS (by omega) (by omega)
      rw [hck]
      cases b <;> cases bef t.xs[k].1.xs y.1.xs <;> cases hz:(y.2.2 == 0) <;> simp [hz]
    · have:i - k = 0:=by omega
      rw [if_neg (by rw [decide_eq_true_eq];omega),this,af2,Bool.and_true]
theorem p8_l2_eq {n:Nat} {t:Sl Nd} (hP:Pth n t.xs) (hL:t.xs.length ≤ 1000) (hln:t.xs.length < n) (hA:∀ y ∈ t.xs,0 ≤ y.2.2):∀ (m i:Nat) (w:Int),t.xs.length < i + m → i ≤ t.xs.length → (w = 0 ∨ w = 1) →
    ∃ w',p8_l2 n m i w t = some (t,w') ∧ (w' = 0 ∨ w' = 1) ∧ (w' = 0 ↔ w = 0 ∧ ∀ j,i ≤ j → j < t.xs.length → lB (t.xs.map nd) j):=by
  intro m
  induction m with
  | zero=>intro i w h hi;omega
  | succ m IH =>
    intro i w him hi hw
    rw [p8_l2]
    by_cases hlt:i < t.xs.length
    · have hp:=hP.all _ (List.getElem_mem hlt)
      have ha:=hA _ (List.getElem_mem hlt)
      obtain ⟨d,hd⟩:=a_9 (xs:=t.xs) (c:=t.cap) (show i ≤ t.xs.length by omega)
      have hd':slI t 0 (i:Int) = some ⟨t.xs.take i,d⟩:=hd
      rw [if_pos (decide_eq_true (show (i:Int) < a_e t by unfold a_e;omega)),ixN hlt,Option.bind_some]
      obtain ⟨g,eg,hg⟩:∃ g:Bool,(((((if (decide ((a_e t.xs[i].1) > 0)) = true then (p29 n t.xs[i].1).bind fun t_100=>some (t_100 == 0) else some false).bind fun q_97=>(if q_97 = true then some (decide (t.xs[i].2.1 > 0)) else some false)).bind fun q_106=>(if q_106 = true then some (decide (t.xs[i].2.1 < 4)) else some false)).bind fun q_109=>(if q_109 = true then some ((t.xs[i].2.1 == 2) == (decide (t.xs[i].2.2 > 0))) else some false)).bind fun q_112=>(if q_112 = true then some (decide (t.xs[i].2.2 ≤ 127)) else some false)) = some g ∧ (g = true ↔ b_0 t.xs[i].1.xs = true ∧ (1 ≤ t.xs[i].2.1 ∧ t.xs[i].2.1 ≤ 3) ∧ adr t.xs[i].2.1 t.xs[i].2.2 = true):=by
        have e0:(if (decide ((a_e t.xs[i].1) > 0)) = true then (p29 n t.xs[i].1).bind fun t_100=>some (t_100 == 0) else some false) = some (b_0 t.xs[i].1.xs):=by
          by_cases h0:t.xs[i].1.xs.length > 0
          · rw [if_pos (decide_eq_true (by unfold a_e;omega)),p29_eq n _ hp.1 hp.2,Option.bind_some]
            cases b_0 t.xs[i].1.xs <;> rfl
          · rw [if_neg (by rw [decide_eq_true_eq];unfold a_e;omega)]
            cases h:b_0 t.xs[i].1.xs with
            | false=>rfl
            | true=>have:=(plcd_iff.1 h).1;omega
        rw [e0]
        refine ⟨b_0 t.xs[i].1.xs && (decide (t.xs[i].2.1 > 0) && (decide (t.xs[i].2.1 < 4) && (((t.xs[i].2.1 == 2) == (decide (t.xs[i].2.2 > 0))) && decide (t.xs[i].2.2 ≤ 127)))),?_,?_⟩
        · cases b_0 t.xs[i].1.xs <;> cases decide (t.xs[i].2.1 > 0) <;> cases decide (t.xs[i].2.1 < 4) <;> cases ((t.xs[i].2.1 == 2) == (decide (t.xs[i].2.2 > 0))) <;> rfl
        · have had:adr t.xs[i].2.1 t.xs[i].2.2 = true ↔ (((t.xs[i].2.1 == 2) == (decide (t.xs[i].2.2 > 0))) = true ∧ t.xs[i].2.2 ≤ 127):=by
            unfold adr
            by_cases h2:t.xs[i].2.1 = 2
            · rw [if_pos h2,show (t.xs[i].2.1 == 2) = true by simp [h2]]
              by_cases h3:t.xs[i].2.2 > 0
              · rw [decide_eq_true h3,decide_eq_true (show 1 ≤ t.xs[i].2.2 by omega)];simp
              · rw [decide_eq_false h3,decide_eq_false (show ¬ 1 ≤ t.xs[i].2.2 by omega)];simp
            · rw [if_neg h2,show (t.xs[i].2.1 == 2) = false by simp [h2]]
              by_cases h3:t.xs[i].2.2 > 0
              · rw [decide_eq_true h3,decide_eq_false (show ¬ t.xs[i].2.2 = 0 by omega)];simp
              · rw [decide_eq_false h3,decide_eq_true (show t.xs[i].2.2 = 0 by omega)];simp;omega
          rw [had]
          simp only [Bool.and_eq_true,decide_eq_true_eq]
          constructor
          · rintro ⟨a1,a2,a3,a4,a5⟩;exact ⟨a1,⟨by omega,by omega⟩,a4,a5⟩
          · rintro ⟨a1,a2,a4,a5⟩;exact ⟨a1,by omega,by omega,a4,a5⟩
      have e3:=p8_l3_eq hP hL (Nat.le_of_lt hlt) t.xs[i] n 0 g (by omega) (by omega)
      have e3':p8_l3 n (i:Int) t t.xs[i] n 0 g = some (g && af2 (fK t.xs t.xs[i]) (i - 0) 0):=e3
      have key:∀ {α:Type} (F:Bool → Option α),((if (decide ((a_e t.xs[i].1) > 0)) = true then (p29 n t.xs[i].1).bind fun t_100=>some (t_100 == 0) else some false).bind fun q_97=>(if q_97 = true then some (decide (t.xs[i].2.1 > 0)) else some false).bind fun q_106=>(if q_106 = true then some (decide (t.xs[i].2.1 < 4)) else some false).bind fun q_109=>(if q_109 = true then some ((t.xs[i].2.1 == 2) == (decide (t.xs[i].2.2 > 0))) else some false).bind fun q_112=>(if q_112 = true then some (decide (t.xs[i].2.2 ≤ 127)) else some false).bind F) = F g:=by
        intro α F
        have:=congrArg (fun o:Option Bool=>o.bind F) eg
        simp only [Option.bind_assoc,Option.bind_some] at this
        exact this
      rw [key,e3',Option.bind_some]
      obtain ⟨g2,eg2,hg2⟩:∃ g2:Bool,(if (decide ((a_e t.xs[i].1) > 1)) = true then ((slI t 0 (i:Int)).bind fun s_610=>(ckI .i64 ((a_e t.xs[i].1) - 1)).bind fun x_616=>(slI t.xs[i].1 0 x_616).bind fun s_619=>(p26 n s_610 s_619).bind fun t_620=>(if (g && af2 (fK t.xs t.xs[i]) (i - 0) 0) = true then some (decide (t_620 ≥ 0)) else some false).bind fun q_686=>(if q_686 = true then (idx t.xs t_620).bind fun y_688=>some (y_688.2.1 == 2) else some false).bind fun q_687=>some q_687) else some (g && af2 (fK t.xs t.xs[i]) (i - 0) 0)) = some g2 ∧ (g2 = true ↔ lB (t.xs.map nd) i):=by
        have hif:i < (t.xs.map nd).length:=by simpa using hlt
        have hti:(t.xs.map nd)[i] = nd t.xs[i]:=List.getElem_map _
        have hfk:af2 (fK t.xs t.xs[i]) (i - 0) 0 = true ↔ ∀ k (hk:k < i),bef ((t.xs.map nd)[k]'(by simp;omega)).1 (t.xs.map nd)[i].1 = true ∧ ((t.xs.map nd)[i].2.2 = 0 ∨ ((t.xs.map nd)[k]'(by simp;omega)).2.2 ≠ (t.xs.map nd)[i].2.2):=by
          rw [af2_iff]
          have hq:∀ q (h:q < i),fK t.xs t.xs[i] q = true ↔ bef ((t.xs.map nd)[q]'(by simp;omega)).1 (t.xs.map nd)[i].1 = true ∧ ((t.xs.map nd)[i].2.2 = 0 ∨ ((t.xs.map nd)[q]'(by simp;omega)).2.2 ≠ (t.xs.map nd)[i].2.2):=by
            intro q h
            unfold fK
            rw [List.getElem?_eq_getElem (show q < t.xs.length by omega),List.getElem_map,List.getElem_map]
            simp only [Bool.and_eq_true,Bool.or_eq_true,beq_iff_eq,bne_iff_ne,ne_eq]
            exact Iff.rfl
          exact ⟨fun h k hk=>(hq k hk).1 (h k (by omega) (by omega)),fun h q _ h2=>(hq q (by omega)).2 (h q (by omega))⟩
        by_cases h1:t.xs[i].1.xs.length > 1
        · obtain ⟨d2,hd2⟩:=a_9 (xs:=t.xs[i].1.xs) (c:=t.xs[i].1.cap) (show t.xs[i].1.xs.length - 1 ≤ t.xs[i].1.xs.length by omega)
          have hd2':slI t.xs[i].1 0 ((t.xs[i].1.xs.length - 1:Nat):Int) = some ⟨t.xs[i].1.xs.take (t.xs[i].1.xs.length - 1),d2⟩:=hd2
          have hc:ckI .i64 (a_e t.xs[i].1 - 1) = some ((t.xs[i].1.xs.length - 1:Nat):Int):=(ckS (by unfold a_e;omega) (by unfold a_e;omega)).trans (by unfold a_e;congr 1;omega)
          have h26:=p26_eq n (⟨t.xs.take i,d⟩:Sl Nd) (⟨t.xs[i].1.xs.take (t.xs[i].1.xs.length - 1),d2⟩:Sl Int) (by simp only [List.length_take];omega) (by simp only [List.length_take];omega) ⟨⟨by simp only [List.length_take];omega,by simp only [List.length_take];omega⟩,fun y hy=>hP.all y (List.mem_of_mem_take hy)⟩
          rw [if_pos (decide_eq_true (by unfold a_e;omega)),hd',Option.bind_some,hc,Option.bind_some,hd2',Option.bind_some,h26,Option.bind_some]
          simp only
          have hfn:(t.xs.take i).findIdx? (fun y=>decide (y.1.xs = t.xs[i].1.xs.take (t.xs[i].1.xs.length - 1))) = fnd ((t.xs.map nd).take i) (nd t.xs[i]).1.dropLast:=by
            rw [fnd_nd,← List.map_take,List.dropLast_eq_take];rfl
          rw [hfn,d_Y]
          have hhel:hel ((t.xs.map nd).take i) (nd t.xs[i]).1 = (match fnd ((t.xs.map nd).take i) (nd t.xs[i]).1.dropLast with | some k=>decide ((((t.xs.map nd).take i)[k]?).map (·.2.1) = some 2) | none=>false):=by
            unfold hel
            rw [decide_eq_false (show ¬ (nd t.xs[i]).1.length = 1 by show ¬ t.xs[i].1.xs.length = 1;omega),Bool.false_or]
            rfl
          unfold lB
          rw [show (∃ h:i < (t.xs.map nd).length,b_0 (t.xs.map nd)[i].1 = true ∧ (1 ≤ (t.xs.map nd)[i].2.1 ∧ (t.xs.map nd)[i].2.1 ≤ 3) ∧ adr (t.xs.map nd)[i].2.1 (t.xs.map nd)[i].2.2 = true ∧ (∀ k (hk:k < i),bef ((t.xs.map nd)[k]'(by omega)).1 (t.xs.map nd)[i].1 = true ∧ ((t.xs.map nd)[i].2.2 = 0 ∨ ((t.xs.map nd)[k]'(by omega)).2.2 ≠ (t.xs.map nd)[i].2.2)) ∧ hel ((t.xs.map nd).take i) (t.xs.map nd)[i].1 = true) ↔ ((g && af2 (fK t.xs t.xs[i]) (i - 0) 0) = true ∧ hel ((t.xs.map nd).take i) (nd t.xs[i]).1 = true) by
            rw [Bool.and_eq_true,hg,hfk]
            constructor
            · rintro ⟨_,a1,a2,a3,a4,a5⟩
              rw [hti] at a1 a2 a3 a5
              exact ⟨⟨⟨a1,a2,a3⟩,a4⟩,a5⟩
            · rintro ⟨⟨⟨a1,a2,a3⟩,a4⟩,a5⟩
              exact ⟨hif,by rw [hti];exact a1,by rw [hti];exact a2,by rw [hti];exact a3,a4,by rw [hti];exact a5⟩]
          rw [hhel]
          cases (g && af2 (fK t.xs t.xs[i]) (i - 0) 0) with
          | false=>exact ⟨false,rfl,by simp⟩
          | true =>
            cases hf:fnd ((t.xs.map nd).take i) (nd t.xs[i]).1.dropLast with
            | none=>exact ⟨false,rfl,by simp⟩
            | some k =>
              obtain ⟨hk,_⟩:=b_K hf
              simp only [List.length_take,List.length_map] at hk
              have hkl:k < t.xs.length:=by omega
              have hix:idx t.xs (ixO (some k)) = some t.xs[k]:=ixN hkl
              have hg4:(((t.xs.map nd).take i)[k]?).map (·.2.1) = some t.xs[k].2.1:=by
                rw [List.getElem?_take,if_pos (by omega),List.getElem?_map,List.getElem?_eq_getElem hkl];rfl
              rw [if_pos rfl,Option.bind_some,Option.isSome_some,if_pos rfl,hix,Option.bind_some,Option.bind_some]
              refine ⟨_,rfl,?_⟩
              simp only [hg4]
              simp
        · rw [if_neg (by rw [decide_eq_true_eq];unfold a_e;omega)]
          refine ⟨_,rfl,?_⟩
          unfold lB
          rw [Bool.and_eq_true,hg,hfk]
          constructor
          · rintro ⟨⟨a1,a2,a3⟩,a4⟩
            refine ⟨hif,by rw [hti];exact a1,by rw [hti];exact a2,by rw [hti];exact a3,a4,?_⟩
            unfold hel
            have:=(plcd_iff.1 a1).1
            rw [hti,show decide ((nd t.xs[i]).1.length = 1) = true from decide_eq_true (by show t.xs[i].1.xs.length = 1;omega)];rfl
          · rintro ⟨_,a1,a2,a3,a4,a5⟩
            rw [hti] at a1 a2 a3
            exact ⟨⟨a1,a2,a3⟩,a4⟩
      rw [eg2,Option.bind_some]
      have hw2:∃ w2:Int,(if (!g2) = true then some 1 else some w) = some w2 ∧ (w2 = 0 ∨ w2 = 1) ∧ (w2 = 0 ↔ w = 0 ∧ g2 = true):=by
        cases g2 with
        | false=>exact ⟨1,rfl,.inr rfl,by simp⟩
        | true=>exact ⟨w,rfl,hw,by simp⟩
      obtain ⟨w2,ew2,hw21,hw22⟩:=hw2
      rw [ew2,Option.bind_some,ckS (by omega) (by omega),Option.bind_some,b_o]
      obtain ⟨w',e',h1,h2⟩:=IH (i + 1) w2 (by omega) (by omega) hw21
      refine ⟨w',e',h1,h2.trans ?_⟩
      rw [hw22,hg2]
      constructor
      · rintro ⟨⟨a1,a2⟩,a3⟩
        refine ⟨a1,fun j h3 h4=>?_⟩
        by_cases hji:j = i
        · subst hji;exact a2
        · exact a3 j (by omega) h4
      · rintro ⟨a1,a2⟩
        exact ⟨⟨a1,a2 i (Nat.le_refl _) hlt⟩,fun j h3 h4=>a2 j (by omega) h4⟩
    · rw [if_neg (by rw [decide_eq_true_eq];unfold a_e;omega)]
      refine ⟨w,rfl,hw,⟨fun h=>⟨h,fun j h1 h2=>by omega⟩,fun h=>h.1⟩⟩
theorem p8_l1_eq {n:Nat} (x1:Int) (hx:0 ≤ x1 ∧ x1 ≤ 255) (L:List Nd) (hL:L.length ≤ 12):∀ (m k:Nat) (acc:List Nd),130 < k + m → k ≤ 130 → acc.length = L.length + k → (∀ y ∈ acc,y ∈ L ∨ (y.1.xs.length = 4 ∧ y.2.2 = 0)) →
    ∃ r:List Nd,p8_l1 n x1 m k acc = some r ∧ r.length ≤ 142 ∧ ∀ y ∈ r,y ∈ L ∨ (y.1.xs.length = 4 ∧ y.2.2 = 0):=by
  intro m
  induction m with
  | zero=>intro k acc h hk;omega
  | succ m IH =>
    intro k acc hkm hk hl ha
    rw [p8_l1,remI_ok hx.1 (by decide) (inR_u8.2 (by omega)),Option.bind_some]
    by_cases hlt:(k:Int) < x1 % 130
    · have hw:IntKind.wrap .u8 (k:Int) = (k:Int):=by rw [wrap_u8];omega
      have q:∀ y:Int,0 < y → y ≤ 255 → quoI .u8 (k:Int) y = some ((k:Int) / y):=fun y h1 h2=>quoI_ok (by omega) h1 (inR_u8.2 ⟨Int.ediv_nonneg (by omega) (by omega),Int.le_trans (Int.ediv_le_self _ (by omega)) (by omega)⟩)
      have r7:∀ y:Int,0 ≤ y → remI .u8 y 7 = some (y % 7):=fun y h1=>remI_ok h1 (by decide) (inR_u8.2 (by omega))
      have n1:0 ≤ (k:Int) / 49:=by omega
      have n2:0 ≤ (k:Int) / 7:=by omega
      rw [if_pos (decide_eq_true hlt),hw,q 49 (by decide) (by decide),Option.bind_some,r7 _ n1,Option.bind_some,q 7 (by decide) (by decide),Option.bind_some,r7 _ n2,Option.bind_some,r7 _ (by omega),Option.bind_some,appN (by simp;omega),Option.bind_some,ckS (by omega) (by omega),Option.bind_some,b_o]
      refine IH (k + 1) _ (by omega) (by omega) (by simp;omega) fun y hy=>?_
      rcases List.mem_append.1 hy with hy | hy
      · exact ha y hy
      · rw [List.mem_singleton.1 hy];exact .inr ⟨rfl,rfl⟩
    · rw [if_neg (by rw [decide_eq_true_eq];exact hlt)]
      exact ⟨acc,rfl,by omega,ha⟩
theorem p25_bad {q:Nat} {t:Sl Nd} {e:Int} (hq:1000 < q + 3) (he:p10 (q + 3) t = some e) (h0:e ≠ 0):p25 (q + 3) t (⟨[],some 0⟩:Sl Nd) 0 = some (⟨[],some 0⟩,e) ∧ p25 (q + 3) (⟨[],some 0⟩:Sl Nd) t 0 = some (⟨[],some 0⟩,e):=by
  have hn:p10 (q + 3) (⟨[],some 0⟩:Sl Nd) = some 0:=p10_eq hq V.nil
  constructor
  · unfold p25
    rw [p25_l1,if_pos (by simp [a_e]),show idx (⟨[t,(⟨[],some 0⟩:Sl Nd)],some 2⟩:Sl (Sl Nd)).xs 0 = some t from rfl,Option.bind_some,he,Option.bind_some,if_pos (by simpa using h0),Option.bind_some,lrr]
  · unfold p25
    rw [p25_l1,if_pos (by simp [a_e]),show idx (⟨[(⟨[],some 0⟩:Sl Nd),t],some 2⟩:Sl (Sl Nd)).xs 0 = some (⟨[],some 0⟩:Sl Nd) from rfl,Option.bind_some,hn,Option.bind_some,if_neg (by simp),show ckI .i64 ((0:Int) + 1) = some 1 from rfl,Option.bind_some]
    rw [p25_l1,if_pos (by simp [a_e]),show idx (⟨[(⟨[],some 0⟩:Sl Nd),t],some 2⟩:Sl (Sl Nd)).xs 1 = some t from rfl,Option.bind_some,he,Option.bind_some,if_pos (by simpa using h0),Option.bind_some,lrr]
theorem p25_good {n:Nat} (hn:3000 < n) {x0 x1:Sl Nd} (h0:V (x0.xs.map nd)) (h1:V (x1.xs.map nd)) (hx:x0.xs = [] ∨ x1.xs = []):∃ l:Sl Ev2,p25 n x0 x1 0 = some (l,0):=by
  have hn':1000 < n:=by omega
  obtain ⟨q,rfl⟩:∃ q,n = q + 3:=⟨n - 3,by omega⟩
  have hf0:=(h0.bd hn').few
  have hf1:=(h1.bd hn').few
  have e1:p25_l1 (q + 3) x0 x1 (q + 3) 0 = some (.inl ()):=by
    rw [p25_l1,if_pos (by simp [a_e]),show idx (⟨[x0,x1],some 2⟩:Sl (Sl Nd)).xs 0 = some x0 from rfl,Option.bind_some,p10_eq hn' h0,Option.bind_some,if_neg (by simp),show ckI .i64 ((0:Int) + 1) = some 1 from rfl,Option.bind_some]
    rw [p25_l1,if_pos (by simp [a_e]),show idx (⟨[x0,x1],some 2⟩:Sl (Sl Nd)).xs 1 = some x1 from rfl,Option.bind_some,p10_eq hn' h1,Option.bind_some,if_neg (by simp),show ckI .i64 ((1:Int) + 1) = some 2 from rfl,Option.bind_some]
    rw [p25_l1,if_neg (by simp [a_e])]
  obtain ⟨G,L,e2,a1,a2,a3,a4,a5⟩:=p25_l2_eq hn' h0 h1 (q + 3) 0 [] [] (by omega) (by omega) (by simp) (by simp)
  have e2':p25_l2 (q + 3) x0 x1 (q + 3) 0 [] [] = some (G,L):=e2
  have hGs:∀ y ∈ G,y.1.xs.length ≤ 900:=fun y hy=>by
    rcases a3 y hy with h | h
    · cases h
    · exact (h0.bd hn').short y h
  obtain ⟨l1,e3,h3,hl3⟩:=p62_l1_eq (n:=q + 3) 0 (⟨G,.none⟩:Sl Nd) hGs (by simp only;omega) G.length (q + 3) [] [] (Nat.le_refl _) (by omega) (by simp;omega) ⟨rfl,fun e he=>by cases he⟩
  simp only [List.length_nil,Nat.zero_add] at hl3
  obtain ⟨l2,e4,hl4⟩:∃ l2:List Ev2,p25_l4 (q + 3) x1 0 (q + 3) 0 (⟨L,.none⟩:Sl Nd) l1 = some l2 ∧ l2.length ≤ 1000000:=by
    rcases hx with hx | hx
    · have hLn:L = []:=by
        have:L.length ≤ 0:=by rw [hx] at a2;simpa using a2
        exact List.eq_nil_of_length_eq_zero (by omega)
      subst hLn
      obtain ⟨l2,e4,h4⟩:=p25_l4_eq hn' (x1:=x1) (L:=⟨[],.none⟩) 0 h1 V.nil (q + 3) 0 l1 _ (by omega) (by omega) (by omega) h3
      refine ⟨l2,e4,?_⟩
      have:=congrArg List.length h4.1
      simp only [List.length_map,List.length_append,List.length_reverse,List.drop_zero] at this
      have hb:(adds (([]:List Nd).map nd) (x1.xs.map nd)).length ≤ 2 * x1.xs.length:=by
        unfold adds
        rw [List.length_flatMap]
        have:∀ q:List N,(q.map fun b=>(e_c (([]:List Nd).map nd) b).length).sum ≤ 2 * q.length:=by
          intro q
          induction q with
          | nil=>simp
          | cons b q ih =>
            have:(e_c (([]:List Nd).map nd) b).length ≤ 2:=by
              unfold e_c
              rw [List.length_append]
              split <;> split <;> simp
            simp only [List.map_cons,List.sum_cons,List.length_cons]
            omega
        have:=this (x1.xs.map nd)
        simpa using this
      have hG:(G.take G.length).length ≤ 900:=by rw [List.take_length];omega
      simp only [List.length_nil,Nat.zero_add] at this
      omega
    · refine ⟨l1,?_,by omega⟩
      rw [p25_l4,if_neg (by rw [decide_eq_true_eq];unfold a_e;rw [hx];simp)]
  have e4':p25_l4 (q + 3) x1 0 (q + 3) 0 (⟨L,.none⟩:Sl Nd) l1 = some l2:=e4
  refine ⟨⟨l2,some l2.length⟩,?_⟩
  unfold p25 p51 p62
  rw [e1,Option.bind_some,lrl,e2',Option.bind_some,Option.bind_some,show a_e (⟨G,.none⟩:Sl Nd) = (G.length:Int) from rfl,ckS (by omega) (by omega),Option.bind_some]
  rw [e3,Option.bind_some,lrl,Option.bind_some]
  simp only
  rw [e4',Option.bind_some]
  unfold p42 sl3I
  rw [if_pos (by unfold a_e;simp only;omega)]
  simp [a_e]
theorem step_code (t:List N) (w:Int) (p:List Int) (ad:Int):(a_O t w p ad).2 ≠ 1:=by
  unfold a_O
  repeat' split
  all_goals simp
theorem p30_any {n:Nat} {t:Sl Nd} (h:Bd n t.xs) (e:Ev2) (hn:e.2.2.1.xs.length < n) (hL:e.2.2.1.xs.length ≤ 9223372036854775807):(EvOk e ∧ ∃ T,p30 n t e = some (T,(a_O (t.xs.map nd) e.2.1 e.2.2.1.xs e.2.2.2).2)) ∨ (¬ EvOk e ∧ ∃ T,p30 n t e = some (T,1)):=by
  by_cases hok:EvOk e
  · obtain ⟨T,hT,_⟩:=p30_eq h e hok.1 hok.2.1 hok.2.2
    exact .inl ⟨hok,T,hT⟩
  · refine .inr ⟨hok,⟨[],some 0⟩,?_⟩
    unfold p30
    rw [p32_eq n _ hn hL,p33_eq]
    simp only [Option.bind_some]
    have key:(if (decide (e.2.1 < 1)) = false then some (decide (e.2.1 > 4)) else some true) = some (decide (e.2.1 < 1) || decide (e.2.1 > 4)):=by cases decide (e.2.1 < 1) <;> rfl
    rw [key,Option.bind_some]
    have key2:(if (decide (e.2.1 < 1) || decide (e.2.1 > 4)) = false then some (!b_0 e.2.2.1.xs) else some true) = some (decide (e.2.1 < 1) || decide (e.2.1 > 4) || !b_0 e.2.2.1.xs):=by cases (decide (e.2.1 < 1) || decide (e.2.1 > 4)) <;> rfl
    rw [key2,Option.bind_some]
    have key3:(if (decide (e.2.1 < 1) || decide (e.2.1 > 4) || !b_0 e.2.2.1.xs) = false then some (!adr e.2.1 e.2.2.2) else some true) = some (decide (e.2.1 < 1) || decide (e.2.1 > 4) || !b_0 e.2.2.1.xs || !adr e.2.1 e.2.2.2):=by cases (decide (e.2.1 < 1) || decide (e.2.1 > 4) || !b_0 e.2.2.1.xs) <;> rfl
    rw [key3,Option.bind_some,if_pos]
    cases h1:b_0 e.2.2.1.xs with
    | false=>simp
    | true =>
      cases h2:adr e.2.1 e.2.2.2 with
      | false=>simp
      | true =>
        have:e.2.1 < 1 ∨ e.2.1 > 4:=by
          by_cases h3:e.2.1 < 1 ∨ e.2.1 > 4
          · exact h3
          · exact absurd ⟨by omega,h1,h2⟩ hok
        simp only [Bool.or_eq_true,decide_eq_true_eq]
        exact .inl (.inl this)
set_option maxRecDepth 1000000 in
theorem livesC (m:Nat):p11 (m + 300) = some true:=by kernel_rfl
def fuel8 (x0:Sl Nd) (x2:Ev2):Nat:=(x0.xs.map fun y=>y.1.xs.length).sum + x2.2.2.1.xs.length + 4000
theorem sum_le {l:List Nat} {a:Nat} (h:a ∈ l):a ≤ l.sum:=by
  induction l with
  | nil=>cases h
  | cons b l ih =>
    rw [List.sum_cons]
    rcases List.mem_cons.1 h with rfl | h
    · omega
    · have:=ih h;omega
theorem p8_law {x0:Sl Nd} {x1:Int} {x2:Ev2} (F0:Fine (.sl (.st (.pair (.sl (.int .u8)) (.pair (.int .u8) (.int .u8))))) x0) (G1:InR .u8 x1) (F2:Fine (.st (.pair (.int .i64) (.pair (.int .u8) (.pair (.sl (.int .u8)) (.int .u8))))) x2):p8 (fuel8 x0 x2) x0 x1 x2 = some true:=by
  obtain ⟨m,hm⟩:∃ m,fuel8 x0 x2 = m + 4000:=⟨_,rfl⟩
  have hp0:∀ y ∈ x0.xs,y.1.xs.length ≤ m ∧ y.1.xs.length ≤ 9223372036854775807:=fun y hy=>by
    have h1:=sum_le (List.mem_map_of_mem (f:=fun y:Nd=>y.1.xs.length) hy)
    have h2:=(F0.2.2 y hy).1.1
    unfold fuel8 at hm
    exact ⟨by omega,h2⟩
  have hp2:x2.2.2.1.xs.length ≤ m ∧ x2.2.2.1.xs.length ≤ 9223372036854775807:=⟨by unfold fuel8 at hm;omega,F2.2.2.1.1⟩
  rw [hm]
  have hlv:p11 (m + 4000) = some true:=livesC (m + 3700)
  unfold p8
  by_cases h12:a_e x0 > 12
  · rw [if_pos (decide_eq_true h12),hlv];rfl
  · have hl:x0.xs.length ≤ 12:=by unfold a_e at h12;omega
    have hx1:=inR_u8.1 G1
    obtain ⟨r,er,hr,hrm⟩:=p8_l1_eq (n:=m + 4000) x1 hx1 x0.xs hl (m + 4000) 0 x0.xs (by omega) (by omega) (by omega) (fun y hy=>.inl hy)
    have er':p8_l1 (m + 4000) x1 (m + 4000) 0 x0.xs = some r:=er
    have hPt:Pth (m + 4000) r:=⟨by omega,fun y hy=>by
      rcases hrm y hy with h | h
      · have:=hp0 y h;omega
      · omega⟩
    have hA:∀ y ∈ r,0 ≤ y.2.2:=fun y hy=>by
      rcases hrm y hy with h | h
      · exact (inR_u8.1 (F0.2.2 y h).2.2).1
      · omega
    obtain ⟨w',ew,hw,hwi⟩:=p8_l2_eq (t:=(⟨r,.none⟩:Sl Nd)) hPt (by simp only;omega) (by simp only;omega) hA (m + 4000) 0 0 (by simp only;omega) (by simp only;omega) (.inl rfl)
    have ew':p8_l2 (m + 4000) (m + 4000) 0 0 (⟨r,.none⟩:Sl Nd) = some (⟨r,.none⟩,w'):=ew
    have hwV:r.length ≤ 127 → (w' = 0 ↔ V (r.map nd)):=fun h127=>by
      rw [hwi,← lB_V (by simpa using h127)]
      simp
    rw [if_neg (by rw [decide_eq_true_eq];exact h12),appN (by simp;omega),Option.bind_some,List.nil_append,er',Option.bind_some,ew',Option.bind_some]
    simp only
    have p29e:=p29_eq (m + 4000) x2.2.2.1 (by omega) hp2.2
    obtain ⟨va,ev,hva⟩:∃ va:Bool,((((((if (decide (x2.2.1 > 0)) = true then some (decide (x2.2.1 < 5)) else some false).bind fun q_742=>(if q_742 = true then some (decide ((a_e x2.2.2.1) > 0)) else some false)).bind fun q_745=>(if q_745 = true then (p29 (m + 4000) x2.2.2.1).bind fun t_752=>some (t_752 == 0) else some false)).bind fun q_749=>(if q_749 = true then some ((x2.2.1 == 2) == (decide (x2.2.2.2 > 0))) else some false)).bind fun q_758=>(if q_758 = true then some (decide (x2.2.2.2 ≤ 127)) else some false))) = some va ∧ (va = true ↔ EvOk x2):=by
      rw [p29e]
      refine ⟨decide (x2.2.1 > 0) && (decide (x2.2.1 < 5) && (decide (a_e x2.2.2.1 > 0) && (b_0 x2.2.2.1.xs && (((x2.2.1 == 2) == (decide (x2.2.2.2 > 0))) && decide (x2.2.2.2 ≤ 127))))),?_,?_⟩
      · cases decide (x2.2.1 > 0) <;> cases decide (x2.2.1 < 5) <;> cases decide (a_e x2.2.2.1 > 0) <;> cases b_0 x2.2.2.1.xs <;> cases ((x2.2.1 == 2) == (decide (x2.2.2.2 > 0))) <;> rfl
      · have ha:=(inR_u8.1 F2.2.2.2).1
        have had:adr x2.2.1 x2.2.2.2 = true ↔ (((x2.2.1 == 2) == (decide (x2.2.2.2 > 0))) = true ∧ x2.2.2.2 ≤ 127):=by
          unfold adr
          by_cases h2:x2.2.1 = 2
          · rw [if_pos h2,show (x2.2.1 == 2) = true by simp [h2]]
            by_cases h3:x2.2.2.2 > 0
            · rw [decide_eq_true h3,decide_eq_true (show 1 ≤ x2.2.2.2 by omega)];simp
            · rw [decide_eq_false h3,decide_eq_false (show ¬ 1 ≤ x2.2.2.2 by omega)];simp
          · rw [if_neg h2,show (x2.2.1 == 2) = false by simp [h2]]
            by_cases h3:x2.2.2.2 > 0
            · rw [decide_eq_true h3,decide_eq_false (show ¬ x2.2.2.2 = 0 by omega)];simp
            · rw [decide_eq_false h3,decide_eq_true (show x2.2.2.2 = 0 by omega)];simp;omega
        unfold EvOk
        rw [had]
        simp only [Bool.and_eq_true,decide_eq_true_eq]
        constructor
        · rintro ⟨a1,a2,a3,a4,a5,a6⟩;exact ⟨⟨by omega,by omega⟩,a4,a5,a6⟩
        · rintro ⟨a1,a4,a5,a6⟩
          have:=(plcd_iff.1 a4).1
          exact ⟨by omega,by omega,by unfold a_e;omega,a4,a5,a6⟩
    have vkey:∀ {α:Type} (F:Bool → Option α),((if (decide (x2.2.1 > 0)) = true then some (decide (x2.2.1 < 5)) else some false).bind fun q_742=>(if q_742 = true then some (decide ((a_e x2.2.2.1) > 0)) else some false).bind fun q_745=>(if q_745 = true then (p29 (m + 4000) x2.2.2.1).bind fun t_752=>some (t_752 == 0) else some false).bind fun q_749=>(if q_749 = true then some ((x2.2.1 == 2) == (decide (x2.2.2.2 > 0))) else some false).bind fun q_758=>(if q_758 = true then some (decide (x2.2.2.2 ≤ 127)) else some false).bind F) = F va:=by
      intro α F
      have:=congrArg (fun o:Option Bool=>o.bind F) ev
      simp only [Option.bind_assoc,Option.bind_some] at this
      exact this
    have enil1:p21_nil (m + 4000) x2 = some 2:=rfl
    have enil2:p24_nil (m + 4000) = some ⟨[],some 0⟩:=rfl
    have enil3:p22_nil (m + 4000) = some ⟨[],some 0⟩:=rfl
    have ez1:p21 (m + 4000) (false,false,0,⟨[],some 0⟩) [] x2 = some (2,(false,false,0,⟨[],some 0⟩),[]):=rfl
    have ez2:p24 (m + 4000) (false,false,0,⟨[],some 0⟩) [] = some (⟨[],some 0⟩,(false,false,0,⟨[],some 0⟩),[]):=rfl
    have ez3:p22 (m + 4000) (false,false,0,⟨[],some 0⟩) [] = some (⟨[],some 0⟩,(false,false,0,⟨[],some 0⟩),[]):=rfl
    rcases p10_any (x0:=(⟨r,.none⟩:Sl Nd)) hPt (by simp only;omega) with ⟨g1,g2⟩ | ⟨g1,g2,g3⟩ | ⟨g1,g2,g3⟩
    · -- too many nodes
      simp only at g1
      obtain ⟨b1,b2⟩:=p25_bad (q:=m + 3997) (by omega) g2 (by decide)
      have e9:p9 (m + 4000) (⟨r,.none⟩:Sl Nd) x2 = some (⟨[],some 0⟩,3):=by unfold p9;rw [g2];rfl
      rw [if_pos (decide_eq_true (by unfold a_e;simp only;omega)),Option.bind_some,b1,Option.bind_some,b2,Option.bind_some,g2,Option.bind_some]
      simp only [bne_self_eq_false,if_true,Option.bind_some,if_neg Bool.false_ne_true]
      rw [show ckI .i64 (a_e (⟨[],some 0⟩:Sl Ev2) + a_e (⟨[],some 0⟩:Sl Ev2)) = some 0 from rfl,e9]
      simp only [show ((3:Int) != 0) = true from rfl,show ((0:Int) != 0) = false from rfl,bne_self_eq_false,if_true,Option.bind_some,if_neg Bool.false_ne_true]
      rw [vkey]
      simp only [enil1,enil2,enil3,ez1,ez2,ez3,hlv]
      rfl
    · -- a valid tree
      simp only at g1 g3
      obtain rfl:w' = 0:=(hwV g1).2 g3
      obtain ⟨l1,b1⟩:=p25_good (n:=m + 4000) (by omega) (x0:=(⟨r,.none⟩:Sl Nd)) (x1:=(⟨[],some 0⟩:Sl Nd)) g3 V.nil (.inr rfl)
      obtain ⟨l2,b2⟩:=p25_good (n:=m + 4000) (by omega) (x0:=(⟨[],some 0⟩:Sl Nd)) (x1:=(⟨r,.none⟩:Sl Nd)) V.nil g3 (.inl rfl)
      have hbd:Bd (m + 4000) r:=g3.bd (by omega)
      rw [if_neg (by rw [decide_eq_true_eq];unfold a_e;simp only;omega),Option.bind_some,b1,Option.bind_some,b2,Option.bind_some,g2,Option.bind_some]
      simp only [bne_self_eq_false,if_true,Option.bind_some,if_neg Bool.false_ne_true]
      rcases p30_any (t:=(⟨r,.none⟩:Sl Nd)) hbd x2 (by omega) hp2.2 with ⟨hok,T,hT⟩ | ⟨hok,T,hT⟩
      · have hv:va = true:=hva.2 hok
        subst hv
        obtain ⟨T2,hT2,_⟩:=p14_eq (t:=(⟨r,.none⟩:Sl Nd)) hbd x2 (fun e=>by have:=(plcd_iff.1 hok.2.1).1;rw [e] at this;simp at this) (by have:=(plcd_iff.1 hok.2.1).1;omega)
        have e9:p9 (m + 4000) (⟨r,.none⟩:Sl Nd) x2 = some (T,(a_O (r.map nd) x2.2.1 x2.2.2.1.xs x2.2.2.2).2):=by unfold p9;rw [g2,Option.bind_some,if_neg (by simp),hT];rfl
        have h1:((a_O (r.map nd) x2.2.1 x2.2.2.1.xs x2.2.2.2).2 == 1) = false:=by simpa using step_code (r.map nd) x2.2.1 x2.2.2.1.xs x2.2.2.2
        rw [e9,Option.bind_some,vkey]
        simp only [h1,Option.bind_some]
        rw [hT2]
        simp only [Option.bind_some,bne_self_eq_false,enil1,enil2,enil3,ez1,ez2,ez3,hlv]
        rfl
      · have hv:va = false:=by
          cases h:va with
          | false=>rfl
          | true=>exact absurd (hva.1 h) hok
        subst hv
        have e9:p9 (m + 4000) (⟨r,.none⟩:Sl Nd) x2 = some (T,1):=by unfold p9;rw [g2,Option.bind_some,if_neg (by simp),hT];rfl
        rw [e9,Option.bind_some,vkey]
        simp only [enil1,enil2,enil3,ez1,ez2,ez3,hlv]
        rfl
    · -- not valid
      simp only at g1 g3
      obtain rfl:w' = 1:=hw.resolve_left fun h=>g3 ((hwV g1).1 h)
      obtain ⟨b1,b2⟩:=p25_bad (q:=m + 3997) (by omega) g2 (by decide)
      have e9:p9 (m + 4000) (⟨r,.none⟩:Sl Nd) x2 = some (⟨[],some 0⟩,1):=by unfold p9;rw [g2];rfl
      rw [if_neg (by rw [decide_eq_true_eq];unfold a_e;simp only;omega),Option.bind_some,b1,Option.bind_some,b2,Option.bind_some,g2,Option.bind_some]
      simp only [bne_self_eq_false,if_true,Option.bind_some,if_neg Bool.false_ne_true]
      rw [show ckI .i64 (a_e (⟨[],some 0⟩:Sl Ev2) + a_e (⟨[],some 0⟩:Sl Ev2)) = some 0 from rfl,e9]
      simp only [show ((1:Int) != 0) = true from rfl,show ((0:Int) != 0) = false from rfl,bne_self_eq_false,if_true,Option.bind_some,if_neg Bool.false_ne_true]
      rw [vkey]
      simp only [enil1,enil2,enil3,ez1,ez2,ez3,hlv]
      rfl
end Go.Proofs.Ytmcpcdmonglkjaa
