/- FieldsBack in plain words. Plain theorems, no condition. -/
import Derived.Test.YthknbcfelkljcaaFE3
import Derived.Test.YthknbcfelkljcaaLB2
set_option linter.unusedVariables false
set_option linter.unusedSimpArgs false
namespace Go.Proofs.Ythknbcfelkljcaa
open Go.RowKit
theorem valR_rep {m:Mpt} {k r:Int} {b:List Int} (hp:Ppr m) (h:Rep m k r b) (hany:d_g m.1.xs k r = true) (hr:m.2.2 = false → r = 0):d_M m k b = (rpV m b k r 0 m.1.xs,0):=by
  have hR:=c_N m.1.xs k r
  have hnum:(if m.2.2 = true then byt b 0 else 0) = r:=by
    by_cases hn:m.2.2 = true
    · rw [if_pos hn];exact h.nr hn
    · rw [if_neg hn];exact (hr (Bool.eq_false_iff.2 hn)).symm
  have h5:¬ (m.2.2 = true ∧ b = []):=by
    rintro ⟨h1,h2⟩
    have:=h.len
    unfold d_K at this
    rw [hany,Bool.true_and,if_pos h1,h2] at this
    simp only [List.length_nil] at this
    omega
  unfold d_M
  rw [if_neg (not_not_intro hp),if_neg h5,hnum,hany,if_neg (by decide),if_neg (not_not_intro h.len)]
theorem mem_rpW {W:Nat → Nat → Option Int} {e:V4}:∀ (l:List Fd) (i0:Nat),e ∈ rpW W i0 l → ∃ (t j:Nat) (f:Fd) (u V v:Int),l[t]? = some f ∧ (j:Int) < fC f ∧ W (i0 + t) j = some v ∧ hld f j v = some (u,V) ∧ e = (((i0 + t:Nat):Int),(j:Int),u,V)
  | [],i0,h=>by cases h
  | f :: l,i0,h=>by
    rw [rpW_cons] at h
    rcases List.mem_append.1 h with h | h
    · unfold flE at h
      obtain ⟨j,h1,h2⟩:=List.mem_flatMap.1 h
      have hj:=(List.mem_range'_1.1 h1).2
      unfold eLW at h2
      cases hW:W i0 j with
      | none=>rw [hW] at h2;cases h2
      | some v =>
        rw [hW] at h2
        simp only at h2
        cases hh:hld f j v with
        | none=>rw [hh] at h2;cases h2
        | some q =>
          obtain ⟨u,V⟩:=q
          rw [hh] at h2
          simp only at h2
          exact ⟨0,j,f,u,V,v,rfl,by omega,hW,hh,List.mem_singleton.1 h2⟩
    · obtain ⟨t,j,g,u,V,v,h1,h2,h3,h4,h5⟩:=mem_rpW l (i0 + 1) h
      refine ⟨t + 1,j,g,u,V,v,h1,h2,?_,h4,?_⟩
      · rw [← h3];congr 1;omega
      · rw [h5,show i0 + 1 + t = i0 + (t + 1) by omega]
theorem rpW_mem {W:Nat → Nat → Option Int}:∀ (l:List Fd) (i0 t j:Nat) (f:Fd) (u V v:Int),l[t]? = some f → (j:Int) < fC f → W (i0 + t) j = some v → hld f j v = some (u,V) → (((i0 + t:Nat):Int),(j:Int),u,V) ∈ rpW W i0 l
  | [],i0,t,j,f,u,V,v,h,_,_,_=>by simp at h
  | g :: l,i0,0,j,f,u,V,v,h,hj,hW,hh=>by
    obtain rfl:g = f:=by simpa using h
    rw [rpW_cons]
    refine List.mem_append_left _ ?_
    unfold flE
    refine List.mem_flatMap.2 ⟨j,List.mem_range'_1.2 ⟨by omega,by omega⟩,?_⟩
    unfold eLW
    rw [show W i0 j = some v from hW]
    simp only
    rw [hh]
    exact List.mem_singleton.2 rfl
  | g :: l,i0,t + 1,j,f,u,V,v,h,hj,hW,hh=>by
    rw [rpW_cons]
    refine List.mem_append_right _ ?_
    have:=rpW_mem l (i0 + 1) t j f u V v (by simpa using h) hj (by rw [show i0 + 1 + t = i0 + (t + 1) by omega];exact hW) hh
    rw [show i0 + 1 + t = i0 + (t + 1) by omega] at this
    exact this
theorem flE_len {B:Nat → List V4} {i:Nat} (h:One i B) (C j:Nat):(flE B C j).length ≤ C - j:=by
  unfold flE
  have:∀ (l:List Nat),(l.flatMap B).length ≤ l.length:=by
    intro l
    induction l with
    | nil=>simp
    | cons t l ih =>
      have:(B t).length ≤ 1:=by rcases h t with h | ⟨u,V,h⟩ <;> rw [h] <;> simp
      rw [List.flatMap_cons,List.length_append,List.length_cons];omega
  have h2:=this (List.range' j (C - j))
  rw [List.length_range'] at h2
  exact h2
theorem rpW_len (W:Nat → Nat → Option Int):∀ (l:List Fd) (i:Nat),FBs l → (rpW W i l).length ≤ 6 * l.length
  | [],i,_=>by simp [rpW]
  | f :: l,i,h=>by
    have h1:=rpW_len W l (i + 1) fun g hg=>h g (by simp [hg])
    have h2:=flE_len (eLW_one W i f) (fC f).toNat 0
    have hC:=(h f (by simp)).C
    rw [rpW_cons,List.length_append,List.length_cons];omega
theorem p5_main {x0:Bool × Sl Dy} {x1:List Int} {x2:Sl Int} (hx0:∀ y ∈ x0.2.xs,Dok y) (hx1:x1.length = 2 ∧ ∀ y ∈ x1,0 ≤ y ∧ y ≤ 255) (hx2:Byts x2.xs):p5 6000 x0 x1 x2 = some true:=by
  have h8:p8 6000 = some true:=p8_ok
  obtain ⟨m,h20,hl,hS,hC,hnb⟩:=p20_ok (n:=6000) (by decide) x0 hx0
  have hp:Ppr m:=hC.ppr hl hS
  have hA:Apt m.1.xs:=hC.apt hS
  have hU:=hS.us
  obtain ⟨hlen,hby⟩:=hx1
  have i0:idx x1 0 = some (x1[0]'(by omega)):=c_H (i:=0) (by omega)
  have i1:idx x1 1 = some (x1[1]'(by omega)):=c_H (i:=1) (by omega)
  have hz0:=hby _ (List.getElem_mem (show 0 < x1.length by omega))
  have hz1:=hby _ (List.getElem_mem (show 1 < x1.length by omega))
  have r0:b_J .u8 (x1[0]'(by omega)) 3 = some ((x1[0]'(by omega)) % 3):=b_O hz0.1 (by decide) (inR_u8.2 (by omega))
  have r1:b_J .u8 (x1[1]'(by omega)) 3 = some ((x1[1]'(by omega)) % 3):=b_O hz1.1 (by decide) (inR_u8.2 (by omega))
  generalize x1[0]'(by omega) = z0 at i0 r0
  generalize x1[1]'(by omega) = z1 at i1 r1 hz1
  obtain ⟨r,hr,hr1,hr2⟩:∃ r:Int,(if x0.1 = true then ((idx x1 1).bind fun y_34=>(b_J .u8 y_34 3).bind fun x_37=>some (IntKind.wrap .u8 (1 + x_37))) else some 0) = some r ∧ (0 ≤ r ∧ r ≤ 255) ∧ (x0.1 = false → r = 0):=by
    by_cases h:x0.1 = true
    · rw [if_pos h,i1,Option.bind_some,r1,Option.bind_some]
      refine ⟨_,rfl,?_,fun q=>by rw [h] at q;cases q⟩
      rw [IntKind.wrap_u8];omega
    · rw [if_neg h]
      exact ⟨0,rfl,by decide,fun _=>rfl⟩
  unfold p5
  rw [h20,Option.bind_some,i0,Option.bind_some,r0,Option.bind_some,hr,Option.bind_some]
  generalize hx25:z0 % 3 = x25
  generalize hk:IntKind.wrap .u8 (1 + x25) = k
  by_cases hany:d_g m.1.xs k r = true
  · have hne:m.1.xs ≠ []:=fun q=>by rw [q] at hany;cases hany
    have hrn:m.2.2 = false → r = 0:=fun q=>hr2 (by rw [← hnb.resolve_left hne];exact q)
    obtain ⟨b0,c0,h21,hb0⟩:=p21_ok (n:=6000) (by decide) m (by omega) hp hU k r hr1 hany
    have hv0:=valR_rep hp hb0 hany hrn
    have h10:=p10_eq (n:=6000) (by decide) m (by omega) hU k (⟨b0,c0⟩:Sl Int) hb0.by_
    rw [show d_M m k (⟨b0,c0⟩:Sl Int).xs = _ from hv0] at h10
    have h51:=p5_l1_eq (n:=6000) (by decide) m hl hS x25 r x2 hx2 6000 0 [] (by omega) (by omega) (by simp) (by simp [cnt])
    rw [show ((0:Nat):Int) = 0 from rfl,show cnt (IntKind.wrap .u8 (1 + x25)) r (m.1.xs.take 0) = 0 from rfl,List.drop_zero,List.nil_append,hk,show ((0:Nat):Int) = 0 from rfl] at h51
    have hWl:=rpW_len (Wm m k r x2) m.1.xs 0 hS
    have hEnt:∀ e ∈ rpW (Wm m k r x2) 0 m.1.xs,Ent m k r (Wm m k r x2) e:=by
      intro e he
      obtain ⟨t,j,f,u,V,v,e1,e2,e3,e4,e5⟩:=mem_rpW _ _ he
      rw [Nat.zero_add] at e3 e5
      obtain ⟨f',u',V',w1,w2,w3,w4,w5,w6,w7⟩:=Wm_some hx2 hS e3
      rw [e1] at w1
      obtain rfl:=Option.some.inj w1
      exact ⟨t,j,f,v,u,V,e5,e1,w2,w3,e2,w5,w6,e4,e3⟩
    obtain ⟨b1,h23,hb1,hnum⟩:=p23_l1_eq (n:=6000) (by decide) m (by omega) hp hS hA k r (Wm m k r x2) (rpW (Wm m k r x2) 0 m.1.xs) .none (by omega) hEnt (⟨b0,c0⟩,0) 6000 0 b0 (by omega) (by omega) hb0
    rw [show ((0:Nat):Int) = 0 from rfl] at h23
    have h23':p23 6000 m k r (⟨rpW (Wm m k r x2) 0 m.1.xs,.none⟩:Sl V4) = some (⟨b1,c0⟩,0):=by
      unfold p23
      rw [h21,Option.bind_some]
      simp only
      rw [if_neg (by decide),h23,Option.bind_some,lrKl]
    have hv1:=valR_rep hp hb1 hany hrn
    have h10':=p10_eq (n:=6000) (by decide) m (by omega) hU k (⟨b1,c0⟩:Sl Int) hb1.by_
    rw [show d_M m k (⟨b1,c0⟩:Sl Int).xs = _ from hv1] at h10'
    have hl0:=d_3 m hp b0 k r m.1.xs 0 fun f hf=>hf
    have hl1:=d_3 m hp b1 k r m.1.xs 0 fun f hf=>hf
    have hG:∀ (i j:Nat) (f:Fd),m.1.xs[i]? = some f → j < (fC f).toNat → eB m b1 k r i f j = if eLW (Wm m k r x2) i f j ≠ [] then eLW (Wm m k r x2) i f j else eB m b0 k r i f j:=by
      intro i j f hf hj
      have hj':(j:Int) < fC f:=by omega
      by_cases hm:mt k r f = true
      · have hn:=hnum i j f hf hm hj'
        rw [List.drop_zero] at hn
        cases hW:Wm m k r x2 i j with
        | some v =>
          obtain ⟨f',u,V,w1,w2,w3,w4,w5,w6,w7⟩:=Wm_some hx2 hS hW
          rw [hf] at w1
          obtain rfl:=Option.some.inj w1
          have hmem:=rpW_mem (W:=Wm m k r x2) m.1.xs 0 i j f u V v hf hj' (by rw [Nat.zero_add];exact hW) w7
          rw [Nat.zero_add] at hmem
          have e:=hn.1 ⟨_,hmem,rfl,rfl⟩
          rw [hW] at e
          have e2:eLW (Wm m k r x2) i f j = [((i:Int),(j:Int),u,V)]:=by
            unfold eLW
            rw [hW]
            simp only
            rw [w7]
          rw [if_pos (by rw [e2];simp),e2]
          unfold eB elV
          rw [if_pos hm,← Option.some.inj e,w7]
        | none =>
          have e2:eLW (Wm m k r x2) i f j = []:=by
            unfold eLW
            rw [hW]
          have hno:¬ ∃ e ∈ rpW (Wm m k r x2) 0 m.1.xs,e.1 = (i:Int) ∧ e.2.1 = (j:Int):=by
            rintro ⟨e,h1,h2,h3⟩
            obtain ⟨t,j2,g,u,V,v,g1,g2,g3,g4,g5⟩:=mem_rpW _ _ h1
            rw [Nat.zero_add] at g3 g5
            rw [g5] at h2 h3
            have a1:t = i:=by
              have:((t:Nat):Int) = (i:Int):=h2
              omega
            have a2:j2 = j:=by
              have:((j2:Nat):Int) = (j:Int):=h3
              omega
            rw [a1,a2,hW] at g3
            cases g3
          rw [if_neg (by rw [e2];simp)]
          unfold eB elV
          rw [hn.2 hno]
      · have e2:eLW (Wm m k r x2) i f j = []:=by
          unfold eLW
          rw [Wm_no hf (fun q=>hm (by unfold okF at q;rw [Bool.and_eq_true] at q;exact q.1))]
        rw [if_neg (by rw [e2];simp)]
        unfold eB
        rw [if_neg hm,if_neg hm]
    have h53:=p5_l3_eq (n:=6000) (by decide) m (by omega) (fun f hf=>(hp f hf).1) k r b0 b1 (Wm m k r x2) (⟨rpV m b0 k r 0 m.1.xs,some (rpV m b0 k r 0 m.1.xs).length⟩,0) (⟨rpV m b1 k r 0 m.1.xs,some (rpV m b1 k r 0 m.1.xs).length⟩,0) (rpW (Wm m k r x2) 0 m.1.xs) (by simp only;omega) (by omega) (by simp only;omega) hG 6000 0 0 0 0 (by omega) (by omega) (by omega) (by omega) (by omega) rfl rfl rfl
    rw [show ((0:Nat):Int) = 0 from rfl] at h53
    rw [h21,Option.bind_some,if_neg (show ¬ ((0:Int) != 0) = true by decide),h10,Option.bind_some,if_neg (show ¬ ((0:Int) != 0) = true by decide),h51,Option.bind_some,h23',Option.bind_some,h10',Option.bind_some,if_pos (show ((0:Int) != 0) = false from rfl),Option.bind_some,if_neg (show ¬ ((0:Int) != 0) = true by decide),h53,Option.bind_some,lrKl,b_g,if_pos (by rw [beq_iff_eq]),h8,Option.bind_some,Option.bind_some]
  · have hany':d_g m.1.xs k r = false:=Bool.eq_false_iff.2 hany
    have h22:p22 6000 m k r = some 0:=by
      rw [p22_eq (by decide) m k r (by omega)]
      refine congrArg some ?_
      unfold d_K
      rw [hany',Bool.false_and,if_neg (by decide)]
      have:d_Z m.1.xs k r = 0:=by
        unfold d_Z
        rw [List.filter_eq_nil_iff.2 (fun f hf q=>hany (List.any_eq_true.2 ⟨f,hf,q⟩))]
        rfl
      rw [this];rfl
    rw [p21_none (by decide) m (by omega) hp k r hany',Option.bind_some,if_pos (by decide),if_pos (by decide),h22,Option.bind_some,Option.bind_some,if_pos (by decide),h8,Option.bind_some,Option.bind_some]
theorem inR_i16' {x:Int}:InR .i16 x ↔ -32768 ≤ x ∧ x ≤ 32767:=by simp [InR,IntKind.min,IntKind.max,IntKind.signed,IntKind.bits]
theorem p5_law {x0:Bool × Sl Dy} {x1:List Int} {x2:Sl Int} (F0:Fine gt6 x0) (F1:Fine (.arr 2 (.int .u8)) x1) (F2:Fine (.sl (.int .u8)) x2):p5 6000 x0 x1 x2 = some true:=by
  refine p5_main (fun y hy=>?_) ⟨F1.1,fun y hy=>inR_u8.1 (F1.2 y hy)⟩ (fun y hy=>inR_u8.1 (F2.2.2 y hy))
  obtain ⟨f1,f2,f3,f4,f5,f6,f7,f8⟩:=F0.2.2.2 y hy
  exact ⟨inR_u8.1 f1,inR_u8.1 f2,inR_u8.1 f4,inR_i16'.1 f5,inR_u16.1 f6,inR_u8.1 f7⟩
end Go.Proofs.Ythknbcfelkljcaa
