/- NetworksPacker in plain words: every packer, every list of frames. -/
import Derived.Test.YtlgalcekkffhnaaPK1
set_option linter.unusedVariables false
set_option linter.unusedSimpArgs false
namespace Go.Proofs.Ytlgalcekkffhnaa
open Go.RowKit
structure Inv6 (x0:Int) (wt pw:List (Sl Int)) (y:Int × Int):Prop where
  same:a_r wt = a_r pw
  few:wt.length ≤ 64
  ok:okW x0 (a_r pw)
  most:y.1 = x0
theorem Inv6.len {x0:Int} {wt pw:List (Sl Int)} {y:Int × Int} (h:Inv6 x0 wt pw y):wt.length = pw.length:=by
  have:=congrArg List.length h.same
  simpa [a_r] using this
theorem andS2 {b c:Bool}:(if b = true then some c else some false) = some (b && c):=by cases b <;> rfl
theorem p6_l2_eq (n:Nat) (x0:Int) (x1:Sl (Sl Int)) (j:Int) (hx:40 ≤ x0 ∧ x0 ≤ 16384) (hL:x1.xs.length ≤ 80) (hn:1000 < n) (num:Int):∀ (m i k:Nat) (wt pw:List (Sl Int)),x1.xs.length < k + m → k ≤ x1.xs.length → i ≤ k → Inv6 x0 wt pw (x0,num) →
    p6_l2 n x0 x1 j m i k wt pw (x0,num) = some (.inr true) ∨
    ∃ (k':Nat) (wt' pw':List (Sl Int)),p6_l2 n x0 x1 j m i k wt pw (x0,num) = some (.inl (wt',(k':Int),pw',(x0,num))) ∧ Inv6 x0 wt' pw' (x0,num) ∧ k' ≤ x1.xs.length ∧ k ≤ k' ∧ wt'.length ≤ wt.length + (k' - k) ∧ ((i:Int) < j → k < x1.xs.length → k < k')
  | 0,i,k,wt,pw,h,hk,hi,hI=>by omega
  | m + 1,i,k,wt,pw,h,hk,hi,hI=>by
    unfold p6_l2
    rw [andS2,Option.bind_some]
    by_cases hc:(i:Int) < j ∧ k < x1.xs.length
    · obtain ⟨hij,hlt⟩:=hc
      rw [if_pos (by simp [a_d];omega),a_I,List.getElem?_eq_getElem hlt,Option.bind_some,a_o (by omega),Option.bind_some]
      by_cases h16:a_d x1.xs[k] > 1600
      · left
        rw [if_pos (by simpa using h16),livesK n (by omega)]
        rfl
      · have hlen:x1.xs[k].xs.length ≤ 1600:=by simp only [a_d] at h16;omega
        rw [if_neg (by simpa using h16),sizes_one,p9_eq n _ _ (by simp;omega) (by omega) (by simp),Option.bind_some]
        have hwl:=hI.len
        have hfew:=hI.few
        have e64:(if ((a_d (⟨wt,.none⟩:Sl (Sl Int))) == 64) = true then some (9:Int) else some 0) = some (if wt.length = 64 then 9 else 0):=by
          by_cases h:wt.length = 64
          · rw [if_pos (by simp [a_d];omega),if_pos h]
          · rw [if_neg (by simp [a_d];omega),if_neg h]
        rw [e64,Option.bind_some,orS,Option.bind_some]
        have h17:=p17_eq n x0 num pw x1.xs[k] (by omega) hlen (by omega) (by omega)
        have next:∀ (wt2 pw2:List (Sl Int)),Inv6 x0 wt2 pw2 (x0,num) → wt2.length ≤ wt.length + 1 →
            p6_l2 n x0 x1 j m ((i + 1:Nat):Int) ((k + 1:Nat):Int) wt2 pw2 (x0,num) = some (.inr true) ∨
            ∃ (k':Nat) (wt' pw':List (Sl Int)),p6_l2 n x0 x1 j m ((i + 1:Nat):Int) ((k + 1:Nat):Int) wt2 pw2 (x0,num) = some (.inl (wt',(k':Int),pw',(x0,num))) ∧ Inv6 x0 wt' pw' (x0,num) ∧ k' ≤ x1.xs.length ∧ k ≤ k' ∧ wt'.length ≤ wt.length + (k' - k) ∧ ((i:Int) < j → k < x1.xs.length → k < k'):=by
          intro wt2 pw2 hI2 hl2
          rcases p6_l2_eq n x0 x1 j hx hL hn num m (i + 1) (k + 1) wt2 pw2 (by omega) (by omega) (by omega) hI2 with e | ⟨k',wt',pw',e,h1,h2,h3,h4,h5⟩
          · exact .inl e
          · exact .inr ⟨k',wt',pw',e,h1,h2,by omega,by omega,fun _ _=>by omega⟩
        have hci:ckI .i64 ((i:Int) + 1) = some ((i + 1:Nat):Int):=by rw [a_o (by omega)];simp
        have hck:((k:Int) + 1) = ((k + 1:Nat):Int):=by simp
        by_cases hb:bad x0 [x1.xs[k].xs] = true
        · rw [if_pos hb] at h17
          have hb2:=hb
          unfold bad at hb2
          rw [if_pos hb2,Option.bind_some,h17,Option.bind_some,if_neg (by simp),if_neg (by simp),Option.bind_some,hci,Option.bind_some,hck]
          exact next wt pw hI (by omega)
        · rw [if_neg hb] at h17
          have hb2:=hb
          unfold bad at hb2
          rw [if_neg hb2,Option.bind_some]
          by_cases h64:wt.length = 64
          · rw [if_pos (by omega)] at h17
            rw [if_pos h64,h17,Option.bind_some,if_neg (by simp),if_neg (by simp),Option.bind_some,hci,Option.bind_some,hck]
            exact next wt pw hI (by omega)
          · rw [if_neg (by omega)] at h17
            rw [if_neg h64,h17,Option.bind_some,if_neg (by simp),if_pos (by simp),b_i (by simp;omega),Option.bind_some,Option.bind_some,hci,Option.bind_some,hck]
            refine next _ _ ⟨?_,by simp;omega,?_,rfl⟩ (by simp)
            · rw [raws_append,raws_append,hI.same];rfl
            · intro f hf
              rw [raws_append] at hf
              rcases List.mem_append.1 hf with hf | hf
              · exact hI.ok f hf
              · have:f = x1.xs[k].xs:=by simpa [a_r] using hf
                rw [this]
                exact (bad_iff hx.2 _).1 (by simpa using hb)
    · right
      rw [if_neg (by simp [a_d];omega)]
      exact ⟨k,wt,pw,rfl,hI,hk,Nat.le_refl _,by omega,fun h1 h2=>absurd ⟨h1,h2⟩ hc⟩
theorem p6_l3_eq (n:Nat) (s:List (Sl Int) × Int × List (Sl Int) × (Int × Int)) (t:(Int × Sl (Sl Int)) × Int) (c:Nat) (hc:a_d t.1.2 = (c:Int)) (hlt:c < s.1.length) (hL:s.1.length ≤ 64):∀ (m k:Nat),c + 1 < k + m → k ≤ c + 1 →
    p6_l3 n s t m k (a_P (a_r (s.1.take k))) = some (a_P (a_r (s.1.take (c + 1))))
  | 0,k,h,hk=>by omega
  | m + 1,k,h,hk=>by
    unfold p6_l3
    rw [hc]
    by_cases hlk:k ≤ c
    · have hkl:k < s.1.length:=by omega
      rw [if_pos (by simpa using hlk),a_I,List.getElem?_eq_getElem hkl,Option.bind_some,b_i (by simp [a_P,a_r];omega),Option.bind_some,a_o (by omega),Option.bind_some,
        show ((k:Int) + 1) = ((k + 1:Nat):Int) by simp,show a_P (a_r (s.1.take k)) ++ [a_d s.1[k]] = a_P (a_r (s.1.take (k + 1))) by rw [List.take_add_one,List.getElem?_eq_getElem hkl];simp only [a_P,a_r,List.map_append,Option.toList_some,List.map_cons,List.map_nil];rfl]
      exact p6_l3_eq n s t c hc hlt hL m (k + 1) (by omega) (by omega)
    · obtain rfl:k = c + 1:=by omega
      rw [if_neg (by simp only [decide_eq_true_eq];omega)]
theorem p18_eq (n:Nat) (a b:Int) (l:List (Sl Int)) (c:Option Nat):p18 n (a,b,⟨l,c⟩) = some (l.length:Int):=rfl
theorem many_ok (x2:Sl Int) (hx2:∀ y ∈ x2.xs,0 ≤ y ∧ y ≤ 255) (r:Nat) (hr:r ≤ 1000):∃ j:Int,(if (decide ((a_d x2) > 0)) = true then ((b_D .i64 (r:Int) (a_d x2)).bind fun x_95=>(idx x2.xs x_95).bind fun y_96=>(b_D .i64 y_96 90).bind fun x_102=>some x_102) else some 3) = some j ∧ 0 ≤ j:=by
  by_cases h:a_d x2 > 0
  · have hl:0 < x2.xs.length:=by simp only [a_d] at h;omega
    rw [if_pos (by simpa using h)]
    have hm:(r:Int) % (x2.xs.length:Int) = ((r % x2.xs.length:Nat):Int):=by simp
    have hlt:r % x2.xs.length < x2.xs.length:=Nat.mod_lt _ hl
    have hle:r % x2.xs.length ≤ r:=Nat.mod_le _ _
    rw [show a_d x2 = (x2.xs.length:Int) from rfl,a_S (by omega) (by omega) (by rw [hm];exact inR_i64.2 (by omega)),Option.bind_some,hm,a_I,List.getElem?_eq_getElem hlt,Option.bind_some]
    have hy:=hx2 _ (List.getElem_mem hlt)
    rw [a_S hy.1 (by decide) (inR_i64.2 (by omega)),Option.bind_some]
    exact ⟨_,rfl,by omega⟩
  · rw [if_neg (by simpa using h)]
    exact ⟨3,rfl,by decide⟩
theorem p6_l1_eq (n:Nat) (x0:Int) (x1:Sl (Sl Int)) (x2:Sl Int) (hx:40 ≤ x0 ∧ x0 ≤ 16384) (hL:x1.xs.length ≤ 80) (hn:1000 < n) (hx2:∀ y ∈ x2.xs,0 ≤ y ∧ y ≤ 255):∀ (m r k:Nat) (wt pw:List (Sl Int)),2 * (x1.xs.length - k) + wt.length < m → k ≤ x1.xs.length → r + 2 * (x1.xs.length - k) + wt.length ≤ 500 → Inv6 x0 wt pw (x0,(r:Int)) →
    p6_l1 n x0 x1 x2 m r k wt pw (x0,(r:Int)) = some (.inr true) ∨ ∃ s,p6_l1 n x0 x1 x2 m r k wt pw (x0,(r:Int)) = some (.inl s)
  | 0,r,k,wt,pw,h,hk,hr,hI=>by omega
  | m + 1,r,k,wt,pw,h,hk,hr,hI=>by
    unfold p6_l1
    rw [orS,Option.bind_some]
    by_cases hc:k < x1.xs.length ∨ 0 < wt.length
    · rw [if_pos (by simp only [Bool.or_eq_true,decide_eq_true_eq];simp only [a_d];omega)]
      obtain ⟨j,ej,hj0⟩:=many_ok x2 hx2 r (by omega)
      rw [ej,Option.bind_some,andS2,Option.bind_some]
      obtain ⟨j2,ej2,hj2⟩:∃ j2:Int,(if (decide ((k:Int) < a_d x1) && (j == 0)) = true then some 1 else some j) = some j2 ∧ (k < x1.xs.length → 0 < j2):=by
        by_cases hz:(decide ((k:Int) < a_d x1) && (j == 0)) = true
        · rw [if_pos hz];exact ⟨1,rfl,fun _=>by decide⟩
        · rw [if_neg hz]
          refine ⟨j,rfl,fun hkl=>?_⟩
          simp only [Bool.and_eq_true,decide_eq_true_eq,beq_iff_eq,not_and] at hz
          simp only [a_d] at hz
          have:=hz (by omega)
          omega
      rw [ej2,Option.bind_some]
      rcases (show p6_l2 n x0 x1 j2 n 0 k wt pw (x0,(r:Int)) = some (.inr true) ∨ ∃ (k':Nat) (wt' pw':List (Sl Int)),p6_l2 n x0 x1 j2 n 0 k wt pw (x0,(r:Int)) = some (.inl (wt',(k':Int),pw',(x0,(r:Int)))) ∧ Inv6 x0 wt' pw' (x0,(r:Int)) ∧ k' ≤ x1.xs.length ∧ k ≤ k' ∧ wt'.length ≤ wt.length + (k' - k) ∧ ((0:Int) < j2 → k < x1.xs.length → k < k') from
        p6_l2_eq n x0 x1 j2 hx hL hn r n 0 k wt pw (by omega) hk (by omega) hI) with e | ⟨k',wt',pw',e,hI',hk',hkk,hwl,hpr⟩
      · left
        rw [e,Option.bind_some]
        rfl
      · rw [e,Option.bind_some,lrKK]
        have hlen:=hI'.len
        have hfew:=hI'.few
        have hprog:2 * (x1.xs.length - k') + wt'.length < 2 * (x1.xs.length - k) + wt.length ∨ (k' = k ∧ wt'.length = wt.length ∧ 0 < wt'.length) ∨ (2 * (x1.xs.length - k') + wt'.length ≤ 2 * (x1.xs.length - k) + wt.length ∧ 0 < wt'.length):=by
          by_cases hkl:k < x1.xs.length
          · have:=hpr (hj2 hkl) hkl
            left;omega
          · by_cases h0:0 < wt'.length
            · right;right;omega
            · left;omega
        simp only
        rw [p18_eq,Option.bind_some,show a_d (⟨wt',.none⟩:Sl (Sl Int)) = (wt'.length:Int) from rfl,if_neg (by simp;omega)]
        by_cases hw0:pw' = []
        · have hw0':wt' = []:=List.eq_nil_of_length_eq_zero (by rw [hlen,hw0];rfl)
          subst hw0 hw0'
          have e19:p19 n (x0,(r:Int)) [] = some (⟨[],some 0⟩,false,(x0,(r:Int)),[]):=rfl
          rw [e19,Option.bind_some]
          simp only
          rw [if_pos (by simp),orS,Option.bind_some,if_neg (by simp [a_d])]
          simp only [List.length_nil] at hprog hr ⊢
          exact p6_l1_eq n x0 x1 x2 hx hL hn hx2 m r k' [] [] (by simp only [List.length_nil];omega) hk' (by simp only [List.length_nil];omega) hI'
        · obtain ⟨c,h1,h2,h3,h4,e19⟩:=p19_eq n (x0,(r:Int)) pw' hx.2 ⟨by omega,by omega⟩ (by omega) (by omega) hI'.ok hw0
          have hcl:(a_r (pw'.take c)).length = c:=by rw [raws_len,List.length_take];omega
          have g:Good (r:Int) (a_r (pw'.take c)):=h3.good hx.2 ⟨by omega,by omega⟩
          have h32:=h3.2.2
          simp only at h32
          rw [e19,Option.bind_some]
          simp only
          rw [if_neg (by simp),p12_eq g n _ (by omega),Option.bind_some]
          have hraw:a_r (wt'.take c) = a_r (pw'.take c):=by rw [raws_take,raws_take,hI'.same]
          have houts:a_r (b_X (a_r (pw'.take c))) = a_r (pw'.take c):=by unfold a_r b_X;rw [List.map_map];exact List.map_id _
          have hol:(b_X (a_r (pw'.take c))).length = c:=by unfold b_X;rw [List.length_map,hcl]
          have e1:a_d (⟨b_X (a_r (pw'.take c)),some (a_r (pw'.take c)).length⟩:Sl (Sl Int)) = (c:Int):=by simp [a_d,hol]
          have e2:a_d (⟨b_m (r:Int) (a_r (pw'.take c)),some (a_J (a_r (pw'.take c)))⟩:Sl Int) = (a_J (a_r (pw'.take c)):Int):=by simp [a_d,b_O]
          simp only [e1,e2]
          rw [if_neg (by simp),if_neg (by simp;omega),if_neg (by simp),if_neg (by simp;omega),if_neg (by simp;omega),slI_take wt' .none c (by omega),Option.bind_some,p13_eqK n _ _ (by simp only;rw [houts,hraw]) (by simp only;omega) (by simp only;omega),Option.bind_some,Option.bind_some,if_neg (by simp)]
          have ecut:(if (decide ((c:Int) < (wt'.length:Int))) = true then ((p6_l3 n (wt',(k':Int),pw',(x0,(r:Int))) (((r:Int),(⟨b_X (a_r (pw'.take c)),some (a_r (pw'.take c)).length⟩:Sl (Sl Int))),0) n 0 []).bind fun (y_507:(List (Int)))=>(p9 n (⟨y_507,.none⟩:Sl (Int))).bind fun t_536=>(if (t_536.2 == 0) = true then some (decide (t_536.1 ≤ x0)) else some false).bind fun q_543=>if q_543 = true then (some (.inr false)) else some (.inl ())) else some (.inl ())) = some (.inl ():Unit ⊕ Bool):=by
            by_cases hcw:c < wt'.length
            · have el3:p6_l3 n (wt',(k':Int),pw',(x0,(r:Int))) (((r:Int),(⟨b_X (a_r (pw'.take c)),some (a_r (pw'.take c)).length⟩:Sl (Sl Int))),0) n 0 [] = some (a_P (a_r (wt'.take (c + 1)))):=p6_l3_eq n (wt',(k':Int),pw',(x0,(r:Int))) _ c e1 hcw (by simp only;omega) n 0 (by omega) (by omega)
              have hb:=h4 (by omega)
              have hraw2:a_r (wt'.take (c + 1)) = a_r (pw'.take (c + 1)):=by rw [raws_take,raws_take,hI'.same]
              rw [if_pos (by simpa using hcw),el3,Option.bind_some,p9_eq n _ _ (by rw [raws_len,List.length_take];omega) (by omega) (by rw [raws_len,List.length_take];omega),Option.bind_some,andS2,Option.bind_some,hraw2]
              unfold bad at hb
              rw [if_neg]
              simp only [Bool.or_eq_true,bne_iff_ne,ne_eq,decide_eq_true_eq,Bool.and_eq_true,beq_iff_eq,not_and] at hb ⊢
              intro h0
              rcases hb with hb | hb
              · exact absurd h0 hb
              · omega
            · rw [if_neg (by simpa using hcw)]
          rw [ecut,Option.bind_some,lrKK]
          have edr:dropI wt' (c:Int) = some (wt'.drop c):=by unfold dropI;rw [if_pos (by omega)];simp
          rw [edr,Option.bind_some,a_o (by omega),Option.bind_some,show ((r:Int) + 1) = ((r + 1:Nat):Int) by simp,c_y,show (((r + 1:Nat):Int) % 65536) = ((r + 1:Nat):Int) by omega]
          have hdl:(wt'.drop c).length = wt'.length - c:=List.length_drop
          refine p6_l1_eq n x0 x1 x2 hx hL hn hx2 m (r + 1) k' (wt'.drop c) (pw'.drop c) (by omega) hk' (by omega) ⟨?_,by omega,fun f hf=>hI'.ok f ?_,rfl⟩
          · rw [raws_drop,raws_drop,hI'.same]
          · rw [raws_drop] at hf;exact List.mem_of_mem_drop hf
    · right
      rw [if_neg (by simp only [Bool.or_eq_true,decide_eq_true_eq];simp only [a_d];omega)]
      exact ⟨_,rfl⟩
theorem p6_law {x0:Int} {x1:Sl (Sl Int)} {x2:Sl Int} (G0:InR .i64 x0) (F1:d_1 (.sl (.sl (.int .u8))) x1) (F2:d_1 (.sl (.int .u8)) x2):p6 20000 x0 x1 x2 = some true:=by
  have hx2:∀ y ∈ x2.xs,0 ≤ y ∧ y ≤ 255:=fun y hy=>inR_u8.1 (F2.2.2 y hy)
  unfold p6 p16
  rw [orS,Option.bind_some]
  by_cases h:x0 < 40 ∨ x0 > 16384
  · have hb:(decide (x0 < 40) || decide (x0 > 16384)) = true:=by simpa using h
    rw [hb,if_pos rfl,Option.bind_some]
    simp only [optK,orS,hb,Option.bind_some,if_pos]
    rw [livesK 20000 (by omega)]
    rfl
  · have hb:(decide (x0 < 40) || decide (x0 > 16384)) = false:=by simpa using h
    rw [hb,if_neg (by simp),Option.bind_some]
    simp only [optK,orS,hb,Option.bind_some]
    rw [if_neg (by simp)]
    by_cases h80:a_d x1 > 80
    · rw [if_pos (by simpa using h80),livesK 20000 (by omega)]
      rfl
    · rw [if_neg (by simpa using h80)]
      have hL:x1.xs.length ≤ 80:=by simp only [a_d] at h80;omega
      rcases (show p6_l1 20000 x0 x1 x2 20000 0 0 [] [] (x0,0) = some (.inr true) ∨ ∃ s,p6_l1 20000 x0 x1 x2 20000 0 0 [] [] (x0,0) = some (.inl s) from
        p6_l1_eq 20000 x0 x1 x2 (by omega) hL (by omega) hx2 20000 0 0 [] [] (by simp;omega) (by omega) (by simp;omega) ⟨rfl,by simp,fun f hf=>by simp [a_r] at hf,rfl⟩) with e | ⟨s,e⟩
      · rw [e,Option.bind_some]
        rfl
      · rw [e,Option.bind_some,lrKK]
        have e1:p19_nil 20000 = some (⟨[],some 0⟩,false):=rfl
        have e2:p19 20000 (0,0) [] = some (⟨[],some 0⟩,false,(0,0),[]):=rfl
        rw [e1,Option.bind_some,e2,Option.bind_some,livesK 20000 (by omega)]
        rfl
end Go.Proofs.Ytlgalcekkffhnaa
