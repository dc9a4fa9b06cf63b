/- TopFrames, in plain words. -/
import Derived.Test.YtjinaepmpoclaaaGreatDoorKL99
set_option linter.unusedVariables false
set_option linter.unusedSimpArgs false
namespace Go.Proofs.YtjinaepmpoclaaaGreatDoor
open Go.RowKit
set_option maxRecDepth 100000 in
theorem p4_ok:p4 600000 = some true:=by kernel_rfl
theorem Jn.zero {most:Int} {s:Nat}:Jn most s 0 [] [] [] 0 [] :=
  ⟨rfl,fun _ h=>absurd h List.not_mem_nil,rfl,fun _ h=>absurd h List.not_mem_nil,Nat.le_refl _,Nat.le_refl _,rfl,fun _ h=>absurd h List.not_mem_nil,Nat.le_refl _⟩
set_option maxRecDepth 100000 in
theorem p3_main (x0 x1:Int) (x2:Sl (Sl Int)) (h0:0 ≤ x0 ∧ x0 ≤ 65535) (h1:0 ≤ x1 ∧ x1 ≤ 255):p3 600000 x0 x1 x2 = some true:=by
  unfold p3
  by_cases hc:a_d x2 > 30
  · rw [if_pos (decide_eq_true hc),p4_ok];rfl
  · rw [if_neg (show ¬ (decide (a_d x2 > 30) = true) by simpa using hc)]
    have hL:x2.xs.length ≤ 30:=by unfold a_d at hc;omega
    have e5:p5 600000 (40 + x0 % 4000) = some (some (40 + x0 % 4000,0),0):=by
      unfold p5
      rw [if_pos (show decide (40 + x0 % 4000 < 40) = false from decide_eq_false (by omega)),Option.bind_some,if_neg (show ¬ (decide (40 + x0 % 4000 > 16384) = true) by simp;omega)]
    have hm:40 ≤ 40 + x0 % 4000 ∧ 40 + x0 % 4000 ≤ 16384:=by omega
    rw [b_3 (by omega) (by decide) (inR_u16.2 (by omega)),Option.bind_some,a_t (by omega),Option.bind_some,e5,Option.bind_some]
    generalize 40 + x0 % 4000 = most at hm
    have hs:∃ s:Nat,(1 ≤ s ∧ s ≤ 1024) ∧ idx ([8,64,512]:List Int) (x1 % 3) = some (s:Int):=by
      have:x1 % 3 = 0 ∨ x1 % 3 = 1 ∨ x1 % 3 = 2:=by omega
      rcases this with h | h | h <;> rw [h]
      · exact ⟨8,by decide,rfl⟩
      · exact ⟨64,by decide,rfl⟩
      · exact ⟨512,by decide,rfl⟩
    obtain ⟨s,hs1,hs2⟩:=hs
    obtain ⟨want,sent,num,Bs,e1,J⟩:=p3_l1_eq 600000 (by decide) hm hs1 x2 hL 600000 0 [] [] [] 0 [] (by omega) (Nat.zero_le _) (fun _=>rfl) Jn.zero
    rw [show ((0:Nat):Int) = 0 from rfl] at e1
    have hb:=J.blen
    have hsc:=J.scnt
    have htot:=J.tot
    have hcnt:=J.cnt
    rw [List.length_nil,Nat.add_zero] at hb
    have hw:want = Bs.flatten:=by rw [J.eqw];exact List.append_nil _
    obtain ⟨done,c,e9,hd⟩:=p9_eq' 600000 sent hs1 J.lens (by omega) (by omega) (by omega) J.join
    have e3:=p3_l3_eq 600000 (by decide) hm.2 (want,sent,([]:List (Sl Int)),(most,num)) ((⟨done,c⟩:Sl (Sl Int)),cl [],(0:Int)) hd (fun fs hf=>(J.fit fs hf).1) (by omega) hw (by show want.length ≤ 1000;omega) 600000 0 0 (by omega) (Nat.zero_le _) (Nat.zero_le _) (by show want.drop 0 = _;rw [List.drop_zero,List.drop_zero,hw])
    rw [show ((0:Nat):Int) = 0 from rfl] at e3
    show (if ((0:Int) != 0) = true then some false else _) = some true
    rw [if_neg (show ¬ (((0:Int) != 0) = true) by decide),b_3 (by omega) (by decide) (inR_u8.2 (by omega)),Option.bind_some,hs2,Option.bind_some]
    refine (congrArg (fun q=>Option.bind q _) e1).trans ?_
    rw [Option.bind_some,lrKK]
    refine (congrArg (fun q=>Option.bind q _) e9).trans ?_
    rw [Option.bind_some]
    refine (congrArg (fun q=>Option.bind q _) (show (if ((0:Int) != 0) = false then some ((a_d (cl [])) != 0) else some true) = some false from rfl)).trans ?_
    rw [Option.bind_some]
    refine (congrArg (fun q=>Option.bind q _) (show (if false = false then (p10 600000 (most,num,(⟨([]:List (Sl Int)),.none⟩:Sl (Sl Int)))).bind fun k0=>some (k0 != 0) else some true) = some false from rfl)).trans ?_
    rw [Option.bind_some,if_neg Bool.false_ne_true]
    refine (congrArg (fun q=>Option.bind q _) e3).trans ?_
    rw [Option.bind_some,lrKK]
    show ((if ((want.length:Int) == (want.length:Int)) = true then (p4 600000).bind fun l0=>some l0 else some false).bind fun h0=>some h0) = some true
    rw [beq_self_eq_true,if_pos rfl,p4_ok]
    rfl
theorem p3_law {x0 x1:Int} {x2:Sl (Sl Int)} (G0:InR .u16 x0) (G1:InR .u8 x1):p3 600000 x0 x1 x2 = some true:=p3_main x0 x1 x2 (inR_u16.1 G0) (inR_u8.1 G1)
end Go.Proofs.YtjinaepmpoclaaaGreatDoor
