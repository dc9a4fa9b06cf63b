/- TopTyped, in plain words. -/
import Derived.Test.YtlfgpmcohfaabaaGreatDoorKL99
set_option linter.unusedVariables false
set_option linter.unusedSimpArgs false
namespace Go.Proofs.YtlfgpmcohfaabaaGreatDoor
open Go.RowKit
set_option maxRecDepth 100000 in
theorem p4_ok:p4 2000 = some true:=by kernel_rfl
theorem upZ (d:List Bool):upP d Zs = a_Y d:=funext fun k=>by unfold upP;rw [c_D];simp
theorem sfx_up (d:List Bool) (i:Nat):sfx (upP Zs d) i = []:=by
  unfold sfx
  rw [List.filter_eq_nil_iff]
  intro k _
  unfold upP
  rw [c_D];simp
theorem evs_new (d:List Bool):d_j Zs d = evD (sfx (a_Y d) 0):=by
  unfold d_j
  rw [sfx_up,upZ];rfl
theorem p3_l2_eq (n:Nat) (e:List Vl × List Bool) (c:(Sl Ev) × Int × KBt × List (Int × Sh)) (g:(Sl Int) × KBt) (hd:e.2.length = 256) {S:List Nat} (hc:c.1.xs = evD S) (hg:g.1.xs = S.map fun (k:Nat)=>(k:Int)) (hS:S.length ≤ 256) :
    ∀ (q i j:Nat),256 - i < q → i ≤ 256 → S.drop j = sfx (a_Y e.2) i → j ≤ S.length → p3_l2 n e c g q i j = some (.inl (S.length:Int)):=by
  intro q
  induction q with
  | zero=>intro i j h;exact absurd h (by omega)
  | succ q ih =>
    intro i j hq hi hdr hj
    rw [p3_l2]
    by_cases hlt:i < 256
    · rw [c_7 (by omega),b_D (by omega),Option.bind_some]
      rw [c_L _ hlt] at hdr
      cases hb:a_Y e.2 i with
      | false =>
        rw [hb,if_neg Bool.false_ne_true] at hdr
        rw [if_pos (show (!false) = true from rfl),ckS (by omega) (by omega),Option.bind_some,a_1]
        exact ih (i + 1) j (by omega) (by omega) hdr hj
      | true =>
        rw [hb,if_pos rfl] at hdr
        have hjl:j < S.length:=by
          rcases Nat.lt_or_ge j S.length with h | h
          · exact h
          · rw [List.drop_eq_nil_of_le h] at hdr;cases hdr
        rw [a_4 hjl] at hdr
        have hdr':=List.cons.inj hdr
        have hlg:g.1.xs.length = S.length:=by rw [hg,List.length_map]
        have hlc:c.1.xs.length = S.length:=by rw [hc,e_t]
        have e1:(if decide ((j:Int) ≥ a_i g.1) = false then (idx g.1.xs (j:Int)).bind fun y=>some (y != (i:Int)) else some true) = some false:=by
          rw [orO (b:=decide ((j:Int) ≥ a_i g.1)) (c:=false) (fun _=>by
            rw [d_M (by rw [hlg];exact hjl),Option.bind_some]
            simp only [hg,List.getElem_map,hdr'.1,bne_self_eq_false]),a_L,hlg,decide_eq_false (by omega)]
          rfl
        have e2:idx c.1.xs (j:Int) = some ((i:Int),true,false):=by
          rw [d_M (by rw [hlc];exact hjl)]
          simp only [hc,evD,List.getElem_map,hdr'.1]
        have e3:eqP gf1 ((i:Int),true,false) (IntKind.wrap .u8 (i:Int),true,false) = true:=by rw [u8_id hlt];simp [eqP]
        rw [if_neg (show ¬ ((!true) = true) by decide),e1,Option.bind_some,if_pos rfl,a_L,hlc,decide_eq_false (show ¬ (j:Int) ≥ (S.length:Int) by omega),Option.bind_some,if_pos rfl,e2,Option.bind_some,e3,Option.bind_some,if_neg (show ¬ ((!true) = true) by decide),ckS (by omega) (by omega),Option.bind_some,ckS (by omega) (by omega),Option.bind_some,a_1,a_1]
        exact ih (i + 1) (j + 1) (by omega) (by omega) hdr'.2 (by omega)
    · rw [d_h (by omega)]
      rw [d_a _ (by omega)] at hdr
      have:S.length ≤ j:=by
        have:=congrArg List.length hdr
        rw [List.length_drop] at this
        simp at this
        omega
      congr 2
      omega
theorem feed_new {nb:Bool} {kc:Int} (hk:1 ≤ kc ∧ kc ≤ 8) {bits l0 l1 l2:Bool} {i:Nat} {a:Int} {vs:List Vl} {d:List Bool} {ks:List Int} (J:Jv kc i a vs d ks) {b:List Int} (P:Pk nb kc bits l0 l1 l2 vs ks b) (cc:Option Nat) :
    ∃ c',p8 2000 (newK (b_7 nb kc bits l0 l1 l2)) [] ⟨b,cc⟩ = some (⟨d_j Zs d,some (d_j Zs d).length⟩,0,kbx (newK (b_7 nb kc bits l0 l1 l2)) d,c'):=by
  have hM:=MOk.of (chk_ok nb hk bits l0 l1 l2)
  generalize hm:b_7 nb kc bits l0 l1 l2 = m at *
  have hnb:m.2.2 = nb:=by rw [← hm];rfl
  obtain ⟨hU,_,hl,_⟩:=hM.cp
  have hz:(if m.2.2 = true then byt b 0 else 0) = b_s nb:=by
    rw [hnb]
    cases nb with
    | true=>rw [if_pos rfl];have:=P.rep.nr;rw [hm] at this;exact this hnb
    | false=>rfl
  have hR:=P.rep
  rw [hm] at hR
  have hany:c_8 m.1.xs 1 (b_s nb) = true:=by have:=hM.one.1;rw [hnb] at this;exact this
  have hlen:(b.length:Int) = c_v m 1 (b_s nb):=hR.len
  have hlen1:1 ≤ c_v m 1 (b_s nb):=by have:=hM.one.2.1;rw [hnb] at this;exact this
  have hb0:b ≠ []:=fun h=>by rw [h] at hlen;simp at hlen;omega
  have hv:=p18_good (n:=2000) (by decide) (cpM m) hl hU 1 ⟨b,cc⟩ hR.by_ ((Ppr_cp m).2 hM.ppr) (fun h=>hb0 h.2) (by
    show c_8 (m.1.xs.map cpF) 1 (if m.2.2 = true then byt b 0 else 0) = true
    rw [hz,anyM_cp];exact hany) (by
    show (b.length:Int) = c_v (cpM m) 1 (if m.2.2 = true then byt b 0 else 0)
    rw [hz,lenR_cp];exact hlen)
  have hv':p18 2000 (cpM m) 1 ⟨b,cc⟩ = some (⟨rpV m b 1 (b_s nb) 0 m.1.xs,some (rpV m b 1 (b_s nb) 0 m.1.xs).length⟩,0):=by
    refine hv.trans ?_
    show some ((⟨rpV (cpM m) b 1 (if m.2.2 = true then byt b 0 else 0) 0 (m.1.xs.map cpF),some (rpV (cpM m) b 1 (if m.2.2 = true then byt b 0 else 0) 0 (m.1.xs.map cpF)).length⟩:Sl Vl),(0:Int)) = _
    rw [hz,rpV_cp]
  have hlv:=rpV_len m hM.ppr b 1 (b_s nb) m.1.xs 0 (fun f hf=>hf)
  have h6:=hM.len
  have hz3:0 ≤ b_s nb ∧ b_s nb ≤ 2:=by cases nb <;> decide
  obtain ⟨c',R',e⟩:=p8_eq (n:=2000) (by decide) (newK m) [] ⟨b,cc⟩ ⟨rpV m b 1 (b_s nb) 0 m.1.xs,some (rpV m b 1 (b_s nb) 0 m.1.xs).length⟩ (b_s nb) rfl rfl Zs_ok.1 hv' (by show (rpV m b 1 (b_s nb) 0 m.1.xs).length < 2000;omega) (by show (rpV m b 1 (b_s nb) 0 m.1.xs).length ≤ 1000000;omega) (fun v hv=>by
      have:=rpV_idx m b 1 (b_s nb) m.1.xs 0 v hv
      show 0 ≤ v.1 ∧ v.1 < (((m.1.xs.map cpF).length:Nat):Int)
      rw [List.length_map]
      omega) (by
      show (if m.2.2 = true then ((idx b 0).bind fun q=>some q) else some 0) = some (b_s nb)
      rw [← hz]
      cases h:m.2.2 with
      | true =>
        rw [if_pos rfl,if_pos rfl,show (0:Int) = ((0:Nat):Int) from rfl,byt_of (Nat.pos_of_ne_zero fun h=>hb0 (List.eq_nil_of_length_eq_zero h))];rfl
      | false=>rfl) hz3 RelC.nil (X:=Z2) (by cases nb <;> rfl)
  have hD:e_Z (([Z2,Z2,Z2]:List Sh).set (b_s nb).toNat (e_w (newK m).2.1.1.xs (rpV m b 1 (b_s nb) 0 m.1.xs) Z2)) = d:=by
    refine c_M (d_K _) J.len fun k hk2=>?_
    rw [allK_one (by cases nb <;> decide) k hk2]
    have hn:e_w (newK m).2.1.1.xs (rpV m b 1 (b_s nb) 0 m.1.xs) Z2 = e_w m.1.xs (rpV m b 1 (b_s nb) 0 m.1.xs) Z2:=nowF_cp _ _ _
    rw [hn]
    have h1:((rpV m b 1 (b_s nb) 0 m.1.xs).foldl (stV m.1.xs) (false,Z2)).1 = false:=d_7 _ _ _ rfl (by have:=no_roll hk J P;rw [hm] at this;exact this)
    have h2:=d_6 m.1.xs k (rpV m b 1 (b_s nb) 0 m.1.xs) (false,Z2) Z2_ok
    unfold e_w
    simp only [h1,Bool.false_eq_true,if_false]
    rw [h2,d_2,Bool.false_or]
    have:=hit_iff hk J P hk2
    rw [hm] at this
    exact this
  refine ⟨c',?_⟩
  rw [e,hD]
  rfl
set_option maxRecDepth 100000 in
theorem p3_main (x0:Bool × Int × Bool × Int) (x1:Sl Int) (hk:0 ≤ x0.2.1 ∧ x0.2.1 ≤ 255) (hl:0 ≤ x0.2.2.2 ∧ x0.2.2.2 ≤ 255) (hb:Byts x1.xs):p3 2000 x0 x1 = some true:=by
  unfold p3
  by_cases hc:a_i x1 > 8
  · rw [c_7 hc,p4_ok];rfl
  · rw [d_h hc]
    rw [a_L] at hc
    have hk8:1 ≤ 1 + x0.2.1 % 8 ∧ 1 + x0.2.1 % 8 ≤ 8:=by omega
    have e5:=p5_eq x0 hk hl
    generalize hkc:1 + x0.2.1 % 8 = kc at *
    generalize x0.1 = nb at *
    generalize x0.2.2.1 = bits at *
    generalize e_x x0.2.2.2 0 = l0 at *
    generalize e_x x0.2.2.2 1 = l1 at *
    generalize e_x x0.2.2.2 2 = l2 at *
    have hM:=MOk.of (chk_ok nb hk8 bits l0 l1 l2)
    have e6:=p6_good (n:=2000) (by decide) (b_7 nb kc bits l0 l1 l2) (fun f hf=>by have:=hM.us f hf;omega) (fun f hf=>by have:=hM.us f hf;omega) (Nat.le_trans hM.len (by decide)) hM.ppr hM.key
    obtain ⟨vs,d,a,ks,e1,J⟩:=p3_l1_eq nb hk8 bits l0 l1 l2 x1 hb (by omega) 2000 0 0 [] Zs [] (by omega) (Nat.zero_le _) (Jv.zero hk8)
    rw [show ((0:Nat):Int) = 0 from rfl] at e1
    obtain ⟨b,cc,e7,P⟩:=pack_eq nb hk8 bits l0 l1 l2 (by omega) J
    obtain ⟨c',e8⟩:=feed_new hk8 J P cc
    have e9:=p9_eq (n:=2000) (by decide) (kbx (newK (b_7 nb kc bits l0 l1 l2)) d) J.len
    have eS:∀ c'',p3_l2 2000 (vs,d) (⟨d_j Zs d,some (d_j Zs d).length⟩,0,kbx (newK (b_7 nb kc bits l0 l1 l2)) d,c'') (⟨e_y d 0,.none⟩,kbx (newK (b_7 nb kc bits l0 l1 l2)) d) 2000 0 0 = some (.inl ((sfx (a_Y d) 0).length:Int)):=fun c'' =>
      p3_l2_eq 2000 (vs,d) _ _ J.len (S:=sfx (a_Y d) 0) (evs_new d) rfl (d_b _ _) 2000 0 0 (by omega) (by omega) rfl (Nat.zero_le _)
    rw [e5,Option.bind_some,e6,Option.bind_some]
    show (if ((0:Int) != 0) = true then .none else _) = some true
    rw [if_neg (show ¬ (((0:Int) != 0) = true) by decide),show idx (b_7 nb kc bits l0 l1 l2).1.xs 0 = some (fdM nb) from rfl,Option.bind_some]
    refine (congrArg (fun q=>Option.bind q _) e1).trans ?_
    rw [Option.bind_some]
    refine (congrArg (fun q=>Option.bind q _) e7).trans ?_
    rw [Option.bind_some]
    refine (congrArg (fun q=>Option.bind q _) e8).trans ?_
    rw [Option.bind_some]
    refine (congrArg (fun q=>Option.bind q _) (show (if ((0:Int) != 0) = false then some ((0:Int) != 0) else some true) = some false from rfl)).trans ?_
    rw [Option.bind_some,if_neg Bool.false_ne_true]
    refine (congrArg (fun q=>Option.bind q _) e9).trans ?_
    rw [Option.bind_some]
    refine (congrArg (fun q=>Option.bind q _) (eS c')).trans ?_
    rw [Option.bind_some,lrKl]
    have q1:a_i (⟨e_y d 0,.none⟩:Sl Int) = ((sfx (a_Y d) 0).length:Int):=by rw [d_H];unfold e_y;rw [List.length_map]
    have q2:a_i (⟨d_j Zs d,some (d_j Zs d).length⟩:Sl Ev) = ((sfx (a_Y d) 0).length:Int):=by rw [d_H,evs_new,e_t]
    show ((if (((sfx (a_Y d) 0).length:Int) == a_i (⟨e_y d 0,.none⟩:Sl Int)) = true then some (((sfx (a_Y d) 0).length:Int) == a_i (⟨d_j Zs d,some (d_j Zs d).length⟩:Sl Ev)) else some false).bind fun j0=>(if j0 = true then (p4 2000).bind fun l0=>some l0 else some false).bind fun k0=>some k0) = some true
    rw [q1,q2,beq_self_eq_true,if_pos rfl,Option.bind_some,if_pos rfl,p4_ok]
    rfl
theorem p3_law {x0:Bool × Int × Bool × Int} {x1:Sl Int} (F0:Fine (.st (.pair .bool (.pair (.int .u8) (.pair .bool (.int .u8))))) x0) (F1:Fine (.sl (.int .u8)) x1):p3 2000 x0 x1 = some true :=
  p3_main x0 x1 (inR_u8.1 F0.2.1) (inR_u8.1 F0.2.2.2) fun y hy=>inR_u8.1 (F1.2.2 y hy)
end Go.Proofs.YtlfgpmcohfaabaaGreatDoor
