/- KeyboardsEvents, in plain words. -/
import Derived.Test.YtionknddmlmhlaaKL99
set_option linter.unusedVariables false
set_option linter.unusedSimpArgs false
namespace Go.Proofs.Ytionknddmlmhlaa
open Go.RowKit
abbrev StE:=KBt × (List (Int × Sh)) × Mdl × (List Bool)
def tlE (n m:Nat) (x:Sl Act') (t:Mpt) (i:Int) (s:StE):Option (StE ⊕ Bool) :=
  (p13 n s.1).bind fun t1=>(p4_l4 n s t1 n 0 0).bind fun y1=>lrK y1 (fun r=>some (.inr r)) fun k=>(if (k != a_i t1.1) = true then some (true,t1.2) else (p15 n t1.2).bind fun t2=>some (t2.1 != s.2.2.1.2.2.1,t2.2)).bind fun (j:Bool × KBt)=>if j.1 = true then some (.inr false) else (ckI .i64 (i + 1)).bind fun i'=>p4_l1 n x t m i' j.2 s.2.1 s.2.2.1 s.2.2.2
theorem tlE_eq {n:Nat} (hn:300 ≤ n) (m:Nat) (x:Sl Act') {t:Mpt} {i:Nat} (hi:i ≤ 100) {y:KBt} {c:List (Int × Sh)} {Y:Mdl} {T:Int} (I:Inv t y c Y T):tlE n m x t i (y,c,Y,y.1) = p4_l1 n x t m ((i + 1:Nat):Int) y c Y y.1:=by
  have e1:=p13_eq hn y I.dok.1
  have e2:=p4_l4_eq n (y,c,Y,y.1) (⟨c_H y.1 0,.none⟩,y) y.1 I.dok.1 rfl I.dn.symm rfl n 0 0 (Nat.zero_le _) rfl (by omega) (by omega)
  rw [show ((0:Nat):Int) = 0 from rfl] at e2
  unfold tlE
  rw [e1,Option.bind_some,e2,Option.bind_some,lrKl,b_Q,if_neg (by simp)]
  have e3:p15 n y = some (y.2.2.2.1,y):=rfl
  rw [e3,Option.bind_some,I.lamps,Option.bind_some,show ((Y.2.2.1 != Y.2.2.1) = false) by simp,if_neg (show ¬ (false = true) by decide),ckS (by omega) (by omega),Option.bind_some,a_Y]
theorem p4_l1_eq (x:Sl Act') {t:Mpt} (h:MOk t) (hx:∀ e ∈ x.xs,(0 ≤ e.1 ∧ e.1 ≤ 255) ∧ Byts e.2.xs) (hl:x.xs.length ≤ 40):∀ (m i:Nat) (y:KBt) (c:List (Int × Sh)) (Y:Mdl),x.xs.length - i < m → i ≤ x.xs.length → Inv t y c Y (60 * (i:Int)) → ∃ s,p4_l1 2000 x t m i y c Y y.1 = some (.inl s):=by
  intro m
  induction m with
  | zero=>intro i y c Y hm;exact absurd hm (by omega)
  | succ m ih =>
    intro i y c Y hm hi I
    rw [p4_l1]
    by_cases hlt:i < x.xs.length
    · have hmem:x.xs[i] ∈ x.xs:=List.getElem_mem hlt
      have he:idx x.xs (i:Int) = some x.xs[i]:=d_f hlt
      rw [c_o (by rw [a_C];omega),he,Option.bind_some]
      generalize x.xs[i] = e at hmem he
      obtain ⟨hw,hb⟩:=hx e hmem
      rw [d_i hw.1 (by decide) (u8R (by omega) (by omega)),Option.bind_some]
      have fin:∀ (y':KBt) (c':List (Int × Sh)) (Y':Mdl),Inv t y' c' Y' (60 * (i:Int) + 60) → ∃ s,tlE 2000 m x t i (y',c',Y',y'.1) = some (.inl s):=fun y' c' Y' I'=>by
        rw [tlE_eq (by omega) m x (by omega) I']
        refine ih (i + 1) y' c' Y' (by omega) (by omega) ?_
        rw [show (60 * ((i + 1:Nat):Int)) = 60 * (i:Int) + 60 by omega]
        exact I'
      have mono:∀ {y':KBt} {c':List (Int × Sh)} {Y':Mdl},Inv t y' c' Y' (60 * (i:Int)) → Inv t y' c' Y' (60 * (i:Int) + 60):=fun I=>⟨I.map,I.rdy,I.lk,I.dn,I.dok,I.lamps,I.la,I.held,I.h0,I.time,by have:=I.tb;omega,I.rel⟩
      by_cases h0:e.1 % 5 = 0
      · obtain ⟨y',Y',r1,r2,r3⟩:=p4_l2_eq 2000 (by decide) x i e he 2000 0 y Y (60 * (i:Int)) (by omega) (by omega) (by omega) I
        rw [show ((0:Nat):Int) = 0 from rfl] at r1
        have hd:y'.1 = y.1:=by rw [r2.dn,r3,I.dn]
        obtain ⟨s,hs⟩:=fin y' c Y' (by rw [show (60 * (i:Int) + 60) = 60 * (i:Int) + (60 - ((0:Nat):Int)) by simp];exact r2)
        refine ⟨s,?_⟩
        rw [h0]
        refine Eq.trans (congrArg (fun q=>Option.bind q _) (a₂:=(some (Sum.inl (y',c,Y',y'.1)):Option (StE ⊕ Bool))) ?_) hs
        rw [if_pos (show ((0:Int) == 0) = true from rfl)]
        refine (congrArg (fun q=>Option.bind q _) r1).trans ?_
        rw [Option.bind_some,lrKl]
        show (some (Sum.inl (y',c,Y',y.1)):Option (StE ⊕ Bool)) = some (Sum.inl (y',c,Y',y'.1))
        rw [hd]
      · by_cases h1:e.1 % 5 = 1
        · obtain ⟨l,a,a',y',Y',g1,g2,g3,I',hd⟩:=clear_inv (n:=2000) (by decide) I
          obtain ⟨s,hs⟩:=fin y' [] (Y'.1,Y'.2.1,Y'.2.2.1,0,Y'.2.2.2.2) (mono I')
          have hd2:y'.1 = Zs:=I'.dn.trans hd
          refine ⟨s,?_⟩
          rw [h1]
          refine Eq.trans (congrArg (fun q=>Option.bind q _) (a₂:=(some (Sum.inl (y',[],(Y'.1,Y'.2.1,Y'.2.2.1,0,Y'.2.2.2.2),y'.1)):Option (StE ⊕ Bool))) ?_) hs
          rw [if_neg (show ¬ (((1:Int) == 0) = true) by decide),if_pos (show ((1:Int) == 1) = true from rfl)]
          refine Eq.trans (congrArg (fun q=>Option.bind q _) (a₂:=(some (Sum.inl (y',[],(Y'.1,Y'.2.1,Y'.2.2.1,0,Y'.2.2.2.2),y'.1)):Option (StE ⊕ Bool))) ?_) rfl
          refine (congrArg (fun q=>Option.bind q _) g3).trans ?_
          rw [Option.bind_some]
          refine (congrArg (fun q=>Option.bind q _) g2).trans ?_
          rw [Option.bind_some]
          refine (congrArg (fun q=>Option.bind q _) (p18_refl l a a' (by omega) (by omega))).trans ?_
          rw [Option.bind_some,if_neg (show ¬ ((!true) = true) by decide)]
          show (some (Sum.inl (y',[],(Y'.1,Y'.2.1,Y'.2.2.1,0,Y'.2.2.2.2),Zs)):Option (StE ⊕ Bool)) = some (Sum.inl (y',[],(Y'.1,Y'.2.1,Y'.2.2.1,0,Y'.2.2.2.2),y'.1))
          rw [hd2]
        · obtain ⟨vs,y',c',Y',g1,g2,g3,I'⟩:=feed_inv (n:=2000) (by decide) h hb (some (e_0 t e.2.xs)) (by omega) I
          obtain ⟨s,hs⟩:=fin y' c' Y' (mono I')
          refine ⟨s,?_⟩
          refine Eq.trans (congrArg (fun q=>Option.bind q _) (a₂:=(some (Sum.inl (y',c',Y',y'.1)):Option (StE ⊕ Bool))) ?_) hs
          rw [if_neg (show ¬ ((e.1 % 5 == 0) = true) by simpa using h0),if_neg (show ¬ ((e.1 % 5 == 1) = true) by simpa using h1)]
          refine Eq.trans (congrArg (fun q=>Option.bind q _) (a₂:=(some (Sum.inl (y',c',Y',y'.1)):Option (StE ⊕ Bool))) ?_) rfl
          rw [Option.bind_some,p11_eq (by decide) h e.2 hb,Option.bind_some]
          refine (congrArg (fun q=>Option.bind q _) g1).trans ?_
          rw [Option.bind_some]
          refine (congrArg (fun q=>Option.bind q _) g2).trans ?_
          rw [Option.bind_some]
          refine Eq.trans (congrArg (fun q=>Option.bind q _) (a₂:=some false) rfl) ?_
          rw [Option.bind_some,if_pos rfl]
          refine (congrArg (fun q=>Option.bind (Option.bind q _) _) g3).trans ?_
          rw [Option.bind_some]
          have hel:=c_G y.1 y'.1
          refine (congrArg (fun q=>Option.bind (Option.bind q _) _) (p18_refl (b_R y.1 y'.1) _ _ (by omega) (by omega))).trans ?_
          rw [Option.bind_some,Option.bind_some]
          have e3:=p4_l3_eq 2000 (⟨b_R y.1 y'.1,some (b_R y.1 y'.1).length⟩,0,y',c') (by show (b_R y.1 y'.1).length ≤ 1000000;omega) 2000 0 y.1 I.dok.1 (goes_evs _ _) (by show (b_R y.1 y'.1).length - 0 < 2000;omega) (Nat.zero_le _)
          rw [show ((0:Nat):Int) = 0 from rfl,List.drop_zero] at e3
          have e4:(b_R y.1 y'.1).foldl apE y.1 = y'.1:=play_evs I.dok.1 I'.dok.1
          simp only [e4] at e3
          have e5:capO (⟨b_R y.1 y'.1,some (b_R y.1 y'.1).length⟩:Sl Ev) = some ((b_R y.1 y'.1).length:Int):=rfl
          refine Eq.trans (congrArg (fun q=>Option.bind q _) (a₂:=some false) ?_) ?_
          · show ((capO (⟨b_R y.1 y'.1,some (b_R y.1 y'.1).length⟩:Sl Ev)).bind fun z=>some (z != a_i (⟨b_R y.1 y'.1,some (b_R y.1 y'.1).length⟩:Sl Ev))) = some false
            rw [e5,Option.bind_some,b_Q];simp
          rw [Option.bind_some,if_neg (show ¬ (false = true) by decide)]
          refine (congrArg (fun q=>Option.bind q _) e3).trans ?_
          rfl
    · rw [c_u (by rw [a_C];omega)]
      exact ⟨_,rfl⟩
theorem p4_main (x0:Bool × Int × Bool × Int) (x1:Sl (Int × (Sl Int))) (hk:0 ≤ x0.2.1 ∧ x0.2.1 ≤ 255) (hl:0 ≤ x0.2.2.2 ∧ x0.2.2.2 ≤ 255) (hx:∀ e ∈ x1.xs,(0 ≤ e.1 ∧ e.1 ≤ 255) ∧ Byts e.2.xs):p4 2000 x0 x1 = some true:=by
  unfold p4
  by_cases hc:a_i x1 > 40
  · rw [c_o hc,p8_ok];rfl
  · rw [c_u hc]
    rw [a_C] at hc
    obtain ⟨m,e1,h,e2⟩:=map_ok x0 hk hl
    rw [e1,Option.bind_some,e2,Option.bind_some]
    obtain ⟨s,hs⟩:=p4_l1_eq x1 h hx (by omega) 2000 0 (newK m) [] ([Z2,Z2,Z2],Zs,0,0,0) (by omega) (Nat.zero_le _) (Inv.new m)
    rw [show ((0:Nat):Int) = 0 from rfl] at hs
    show (if ((0:Int) != 0) = true then some false else _) = some true
    rw [if_neg (by decide)]
    refine (congrArg (fun q=>Option.bind q _) hs).trans ?_
    rw [Option.bind_some,lrKl,p8_ok]
    rfl
theorem p4_law {x0:Bool × Int × Bool × Int} {x1:Sl (Int × (Sl Int))} (F0:Fine (.st (.pair .bool (.pair (.int .u8) (.pair .bool (.int .u8))))) x0) (F1:Fine (.sl (.st (.pair (.int .u8) (.sl (.int .u8))))) x1):p4 2000 x0 x1 = some true :=
  p4_main x0 x1 (inR_u8.1 F0.2.1) (inR_u8.1 F0.2.2.2) fun e he=>⟨inR_u8.1 (F1.2.2 e he).1,fun y hy=>inR_u8.1 ((F1.2.2 e he).2.2.2 y hy)⟩
end Go.Proofs.Ytionknddmlmhlaa
