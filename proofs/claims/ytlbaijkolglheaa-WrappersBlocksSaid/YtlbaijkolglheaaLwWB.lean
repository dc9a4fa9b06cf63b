/- WrappersBlocks in plain words. Plain theorems, no condition. -/
import Derived.Test.YtlbaijkolglheaaWR9
import Derived.Test.YtlbaijkolglheaaPb1
set_option linter.unusedVariables false
set_option linter.unusedSimpArgs false
namespace Go.Proofs.Ytlbaijkolglheaa
open Go.RowKit
theorem bytF {x:Sl Int} (F:Fine (.sl (.int .u8)) x):Byts x.xs:=fun y hy=>inR_u8.1 (F.2.2 y hy)
theorem p3_l1_eq (n:Nat):∀ (m:Nat) (s:List Int),s.length ≤ 31 → 31 < s.length + m → p3_l1 n m s = some (s ++ List.replicate (31 - s.length) 0)
  | 0,s,h,hm=>by omega
  | m + 1,s,h,hm=>by
    unfold p3_l1
    by_cases hl:s.length < 31
    · rw [if_pos (decide_eq_true (show lenS s < 31 from by show (s.length:Int) < 31;omega)),c_g (by simp;omega),Option.bind_some,p3_l1_eq n m _ (by simp;omega) (by simp;omega),List.append_assoc]
      have e:31 - s.length = (31 - (s ++ [0]).length) + 1:=by simp;omega
      rw [e,List.replicate_succ]
      rfl
    · rw [if_neg (by rw [decide_eq_true_eq];show ¬ (s.length:Int) < 31;omega),show 31 - s.length = 0 by omega]
      simp
theorem blkB_cons {t k u:Int} {i:Bool} {c:List Int} (h:c.length ≤ 16):c_8 t k i u c = e_n t k i u c.length ++ (c ++ List.replicate (16 - c.length) 0):=by
  unfold c_8
  rw [cpy16 h,b_N]
  congr 2
  omega
theorem blkB_byts {t k u:Int} {i:Bool} {c:List Int} (h:c.length ≤ 16) (hu:0 ≤ u ∧ u ≤ 255) (hc:Byts c):Byts (c_8 t k i u c):=by
  rw [blkB_cons h]
  intro y hy
  rcases List.mem_append.1 hy with hy | hy
  · rcases List.mem_append.1 hy with hy | hy
    · simp only [List.mem_cons,List.not_mem_nil,or_false] at hy;omega
    · rcases List.mem_append.1 hy with hy | hy
      · exact c_N t y hy
      · rcases List.mem_append.1 hy with hy | hy
        · exact c_N k y hy
        · simp only [List.mem_cons,List.not_mem_nil,or_false] at hy
          rcases hy with rfl | rfl | rfl
          · cases i <;> decide
          · exact hu
          · omega
  · rcases List.mem_append.1 hy with hy | hy
    · exact hc y hy
    · rw [List.mem_replicate] at hy;omega
theorem p11_ok (n:Nat) (hn:31 < n) {t k u:Int} {i:Bool} {c:List Int} {q:Option Nat} (ht:InR .u32 t) (hk:InR .u32 k) (hr:rgt k i u c = true):p11 n ⟨c_8 t k i u c,q⟩ = some ((t,k,i,u,⟨c,some c.length⟩),0):=by
  have h16:1 ≤ c.length ∧ c.length ≤ 16:=by
    unfold rgt at hr
    simp only [Bool.and_eq_true,decide_eq_true_eq] at hr
    exact ⟨hr.2.1,hr.2.2.1⟩
  have hl:=c_O (t:=t) (l:=k) (i:=i) (u:=u) h16.2
  have hp8:=p8_ok n (q:=some c.length) ht hk hr
  have hp34:p34 n (⟨c_8 t k i u c,some 31⟩:Sl Int) ⟨c_8 t k i u c,q⟩ = some true:=by rw [p34_eq n (by rw [hl];exact hn) (by rw [hl];decide),decide_eq_true rfl]
  have hb:=c_N t
  have hb2:=c_N k
  rw [blkB_cons h16.2] at hl hp8 hp34 ⊢
  have e14:idx (e_n t k i u c.length ++ (c ++ List.replicate (16 - c.length) 0)) 14 = some (c.length:Int):=rfl
  have e12:idx (e_n t k i u c.length ++ (c ++ List.replicate (16 - c.length) 0)) 12 = some (if i then 128 else 0):=rfl
  have e13:idx (e_n t k i u c.length ++ (c ++ List.replicate (16 - c.length) 0)) 13 = some u:=rfl
  have eA:slI (⟨e_n t k i u c.length ++ (c ++ List.replicate (16 - c.length) 0),q⟩:Sl Int) 4 8 = some ⟨bts t,q.map (· - 4)⟩:=by unfold slI;rw [if_pos (by rw [hl];decide)];rfl
  have eB:slI (⟨e_n t k i u c.length ++ (c ++ List.replicate (16 - c.length) 0),q⟩:Sl Int) 8 12 = some ⟨bts k,q.map (· - 8)⟩:=by unfold slI;rw [if_pos (by rw [hl];decide)];rfl
  have hw:IntKind.wrap .u8 (15 + (c.length:Int)) = ((15 + c.length:Nat):Int):=by rw [b_N];omega
  have eC:slI (⟨e_n t k i u c.length ++ (c ++ List.replicate (16 - c.length) 0),q⟩:Sl Int) 15 ((15 + c.length:Nat):Int) = some ⟨c,q.map (· - 15)⟩:=by
    unfold slI
    rw [if_pos (by rw [hl];omega),Int.toNat_natCast]
    refine congrArg some ?_
    have:((e_n t k i u c.length ++ (c ++ List.replicate (16 - c.length) 0)).take (15 + c.length)).drop (15:Int).toNat = c:=by
      rw [show (15:Int).toNat = (e_n t k i u c.length).length from rfl,show 15 + c.length = (e_n t k i u c.length).length + c.length from rfl,List.take_length_add_append,List.drop_left,List.take_left]
    rw [this]
    rfl
  have pA:p31 n ⟨bts t,q.map (· - 4)⟩ = some t:=by
    have:=p31_ok n (s:=⟨bts t,q.map (· - 4)⟩) rfl rfl rfl rfl (hb _ (by simp [bts])) (hb _ (by simp [bts])) (hb _ (by simp [bts])) (hb _ (by simp [bts]))
    rwa [nmb_bts ht] at this
  have pB:p31 n ⟨bts k,q.map (· - 8)⟩ = some k:=by
    have:=p31_ok n (s:=⟨bts k,q.map (· - 8)⟩) rfl rfl rfl rfl (hb2 _ (by simp [bts])) (hb2 _ (by simp [bts])) (hb2 _ (by simp [bts])) (hb2 _ (by simp [bts]))
    rwa [nmb_bts hk] at this
  have ei:((if i then (128:Int) else 0) == 128) = i:=by cases i <;> rfl
  unfold p11
  rw [show (a_h (⟨e_n t k i u c.length ++ (c ++ List.replicate (16 - c.length) 0),q⟩:Sl Int) != 31) = false by simp only [a_h,hl];rfl,a_2]
  dsimp only
  rw [e14,Option.bind_some,Option.bind_some,decide_eq_false (by omega:¬ (c.length:Int) < 1),a_2,Option.bind_some,Option.bind_some,decide_eq_false (by omega:¬ (c.length:Int) > 16),b_1,eA,Option.bind_some,pA,Option.bind_some,eB,Option.bind_some,pB,Option.bind_some,e12,Option.bind_some,e13,Option.bind_some,Option.bind_some,hw,eC,Option.bind_some,p33_eq n _ (by show c.length ≤ _;omega),Option.bind_some,p32_eq,Option.bind_some,ei,hp8,Option.bind_some]
  dsimp only
  rw [show ((0:Int) != 0) = false from rfl,a_2,hp34]
  rfl
theorem rem_u8 {y d:Int} (hy:0 ≤ y ∧ y ≤ 255) (hd:0 < d ∧ d ≤ 255):e_w .u8 y d = some (y % d):=by
  unfold e_w
  rw [if_neg (by omega),Int.tmod_eq_emod_of_nonneg hy.1]
  unfold ckI
  have h2:0 ≤ y % d:=Int.emod_nonneg _ (by omega)
  have h3:y % d < d:=Int.emod_lt_of_pos _ hd.1
  rw [if_pos (by simp only [IntKind.min,IntKind.max,IntKind.signed,IntKind.bits];simp;omega)]
theorem p3_tail {x1:Sl Int} (hB:Byts x1.xs):((p11 200 x1).bind fun t_896=>if (t_896.2 == 0) then ((p8 200 t_896.1).bind fun t_911=>(if (t_911.2 == 0) = true then some (decide ((⟨t_911.1.xs,t_911.1.cap⟩:Sl (Int)).xs = x1.xs)) else some false).bind fun q_918=>(if q_918 = true then (p7 200).bind fun t_920=>some t_920 else some false).bind fun q_919=>some q_919) else (if (t_896.2 == 4) = true then some ((a_h t_896.1.2.2.2.2) == 0) else some false).bind fun q_926=>(if q_926 = true then some (t_896.1.1 == 0) else some false).bind fun q_930=>(if q_930 = true then (p7 200).bind fun t_934=>some t_934 else some false).bind fun q_933=>some q_933) = some true:=by
  obtain ⟨l,q⟩:=x1
  rcases p11_spec 200 (by decide) (l:=l) (q:=q) hB with h | ⟨t,k,i,u,c,h,ht,hk,hr,rfl,hl⟩
  · rw [h,p7_ok];rfl
  · rw [h,Option.bind_some]
    dsimp only
    rw [p8_ok 200 ht hk hr,p7_ok,show ((0:Int) == 0) = true from rfl,b_0,Option.bind_some]
    dsimp only
    rw [decide_eq_true rfl]
    rfl
theorem right_first {t k u:Int} {i:Bool} {c:List Int} (hr:rgt k i u c = true):1 ≤ c.length ∧ c.length ≤ 16:=by
  unfold rgt at hr
  simp only [Bool.and_eq_true,decide_eq_true_eq] at hr
  exact ⟨hr.2.1,hr.2.2.1⟩
theorem p3_law {x0:Int × Int × Bool × Int × (Sl (Int))} {x1:Sl Int} {x2:List Int} (F0:Fine (.st (.pair (.int .u32) (.pair (.int .u32) (.pair .bool (.pair (.int .u8) (.sl (.int .u8))))))) x0) (F1:Fine (.sl (.int .u8)) x1) (F2:Fine (.arr 2 (.int .u8)) x2):p3 200 x0 x1 x2 = some true:=by
  obtain ⟨t,k,i,u,c,q⟩:=x0
  have ht:InR .u32 t:=F0.1
  have hk:InR .u32 k:=F0.2.1
  have hu:0 ≤ u ∧ u ≤ 255:=inR_u8.1 F0.2.2.2.1
  have hc:Byts c:=bytF (x:=⟨c,q⟩) F0.2.2.2.2
  have hB:=bytF F1
  have tail:=p3_tail hB
  obtain ⟨z0,z1,rfl⟩:∃ z0 z1,x2 = [z0,z1]:=by
    match x2,F2.1 with
    | [a,b],_=>exact ⟨a,b,rfl⟩
  have hz0:0 ≤ z0 ∧ z0 ≤ 255:=inR_u8.1 (F2.2 z0 (by simp))
  have hz1:0 ≤ z1 ∧ z1 ≤ 255:=inR_u8.1 (F2.2 z1 (by simp))
  unfold p3
  rw [orK fun _=>rfl,Option.bind_some]
  cases hbig:(decide ((a_h (t,k,i,u,(⟨c,q⟩:Sl Int)).2.2.2.2) > 40) || decide ((a_h x1) > 40)) with
  | true=>rw [b_0,p7_ok];rfl
  | false =>
    rw [b_1]
    cases hr:rgt k i u c with
    | false =>
      rw [p8_bad 200 hr,Option.bind_some,p9_eq,Option.bind_some,hr]
      exact tail
    | true =>
      have h16:=right_first (t:=t) (u:=u) hr
      have hl:=c_O (t:=t) (l:=k) (i:=i) (u:=u) h16.2
      have hbb:=blkB_byts (t:=t) (k:=k) (i:=i) h16.2 hu hc
      have ej:(if i = true then some [128] else some [0]:Option (List Int)) = some [if i then 128 else 0]:=by cases i <;> rfl
      have lb:(bts t).length = 4:=rfl
      have lk:(bts k).length = 4:=rfl
      have c1:d_I [85,83,66,67] (bts t) = some ([85,83,66,67] ++ bts t):=c_g (by simp [bts])
      have c2:d_I ([85,83,66,67] ++ bts t) (bts k) = some ([85,83,66,67] ++ bts t ++ bts k):=c_g (by simp [bts])
      have c3:d_I ([85,83,66,67] ++ bts t ++ bts k) [if i then 128 else 0] = some ([85,83,66,67] ++ bts t ++ bts k ++ [if i then 128 else 0]):=c_g (by simp [bts])
      have c4:d_I ([85,83,66,67] ++ bts t ++ bts k ++ [if i then 128 else 0]) [u,IntKind.wrap .u8 (a_h (⟨c,q⟩:Sl Int))] = some ([85,83,66,67] ++ bts t ++ bts k ++ [if i then 128 else 0] ++ [u,IntKind.wrap .u8 (a_h (⟨c,q⟩:Sl Int))]):=c_g (by simp [bts])
      have c5:d_I ([85,83,66,67] ++ bts t ++ bts k ++ [if i then 128 else 0] ++ [u,IntKind.wrap .u8 (a_h (⟨c,q⟩:Sl Int))]) c = some ([85,83,66,67] ++ bts t ++ bts k ++ [if i then 128 else 0] ++ [u,IntKind.wrap .u8 (a_h (⟨c,q⟩:Sl Int))] ++ c):=c_g (by simp [bts];omega)
      have hs:([85,83,66,67] ++ bts t ++ bts k ++ [if i then 128 else 0] ++ [u,IntKind.wrap .u8 (a_h (⟨c,q⟩:Sl Int))] ++ c).length = 15 + c.length:=by simp [bts];omega
      have eW:p3_l1 200 200 ([85,83,66,67] ++ bts t ++ bts k ++ [if i then 128 else 0] ++ [u,IntKind.wrap .u8 (a_h (⟨c,q⟩:Sl Int))] ++ c) = some (c_8 t k i u c):=by
        rw [p3_l1_eq 200 200 _ (by rw [hs];omega) (by rw [hs];omega),hs]
        refine congrArg some ?_
        unfold c_8
        rw [cpy16 h16.2,show 31 - (15 + c.length) = 16 - c.length by omega]
        simp only [e_n,List.append_assoc,List.cons_append,List.nil_append]
        rfl
      have d1:(!decide (c_8 t k i u c = c_8 t k i u c)) = false:=by rw [decide_eq_true rfl];rfl
      have d2:((31:Int) != a_h (⟨c_8 t k i u c,some 31⟩:Sl Int)) = false:=by simp only [a_h,hl];rfl
      have d3:(!decide (c = c)) = false:=by rw [decide_eq_true rfl];rfl
      have d0:((0:Int) != 0) = false:=rfl
      have hj:(z0 % 31).toNat < (c_8 t k i u c).length:=by rw [hl];omega
      have ey:idx (c_8 t k i u c) (z0 % 31) = some ((c_8 t k i u c)[(z0 % 31).toNat]):=by
        unfold idx
        rw [if_pos (by omega)]
        exact List.getElem?_eq_getElem hj
      rw [p8_ok 200 ht hk hr,Option.bind_some,p9_eq,Option.bind_some,hr]
      dsimp only
      rw [show (!true) = false from rfl,b_1,ej,Option.bind_some,p10_ok 200 ht,Option.bind_some,c1,Option.bind_some,p10_ok 200 hk,Option.bind_some,c2,Option.bind_some,c3,Option.bind_some,c4,Option.bind_some,c5,Option.bind_some,eW,Option.bind_some,p11_ok 200 (by decide) ht hk hr,Option.bind_some]
      dsimp only
      rw [d0,a_2,d1,Option.bind_some,a_2,show capO (⟨c_8 t k i u c,some 31⟩:Sl Int) = some 31 from rfl,Option.bind_some,d2,Option.bind_some,a_2,Option.bind_some,a_2,d3,Option.bind_some,a_2,show capO (⟨c,some c.length⟩:Sl Int) = some (c.length:Int) from rfl,Option.bind_some,show a_h (⟨c,some c.length⟩:Sl Int) = (c.length:Int) from rfl,bne_self_eq_false,Option.bind_some,a_2,bne_self_eq_false,Option.bind_some,a_2,bne_self_eq_false,Option.bind_some,a_2,show (!(i == i)) = false by cases i <;> rfl,Option.bind_some,a_2,bne_self_eq_false,Option.bind_some,b_1]
      rw [show idx [z0,z1] 0 = some z0 from rfl,Option.bind_some,rem_u8 hz0 (by decide),Option.bind_some,Option.bind_some,rem_u8 hz0 (by decide),Option.bind_some,ey,Option.bind_some,show idx [z0,z1] 1 = some z1 from rfl,Option.bind_some,rem_u8 hz1 (by decide),Option.bind_some,Option.bind_some,Option.bind_some]
      have hbo:Byts ((c_8 t k i u c).set (z0 % 31).toNat (a_L .xor .u8 (c_8 t k i u c)[(z0 % 31).toNat] (IntKind.wrap .u8 (1 + z1 % 255)))):=by
        intro y hy
        rcases List.mem_or_eq_of_mem_set hy with hy | rfl
        · exact hbb y hy
        · exact inR_u8.1 a_4
      rcases p11_spec 200 (by decide) (q:=.none) hbo with h | ⟨t',k',i',u',c',h,ht',hk',hr',he',hl'⟩
      · rw [h]
        exact tail
      · rw [h,Option.bind_some]
        dsimp only
        rw [p8_ok 200 ht' hk' hr',show ((0:Int) == 0) = true from rfl,b_0,Option.bind_some]
        dsimp only
        rw [d0,a_2,← he',decide_eq_true rfl]
        exact tail
end Go.Proofs.Ytlbaijkolglheaa
