/- BandwidthsRemove in plain words. Plain theorems, no condition. -/
import Derived.Test.YtaekmgpcdgmlgaaBW6
import Derived.Test.YtaekmgpcdgmlgaaXE16
import Derived.Test.YtaekmgpcdgmlgaaPr1
set_option linter.unusedVariables false
set_option linter.unusedSimpArgs false
namespace Go.Proofs.Ytaekmgpcdgmlgaa
open Go.RowKit

theorem findIdx_at {l:List Slt} (hn:(l.map (·.1)).Nodup) {i:Nat} (hi:i < l.length):l.findIdx? (fun s=>s.1 == l[i].1) = some i:=by
  rw [List.findIdx?_eq_some_iff_getElem]
  refine ⟨hi,by simp,fun j hj=>?_⟩
  have:=List.nodup_iff_pairwise_ne.1 hn
  rw [List.pairwise_map,List.pairwise_iff_getElem] at this
  have:=this j i (by omega) hi hj
  simpa using this
theorem findIdx_last {l:List Slt} {s:Slt} (h:hasId l s.1 = false):(l ++ [s]).findIdx? (fun x=>x.1 == s.1) = some l.length:=by
  rw [List.findIdx?_append,findIdx_none h]
  simp
theorem hasId_rest {l:List Slt} (hn:(l.map (·.1)).Nodup) {i:Nat} (hi:i < l.length):hasId (l.take i ++ l.drop (i + 1)) l[i].1 = false:=by
  cases hc:hasId (l.take i ++ l.drop (i + 1)) l[i].1 with
  | false=>rfl
  | true =>
    have hm:=hasId_iff.1 hc
    have e:l = l.take i ++ l[i] :: l.drop (i + 1):=by rw [← drop_cons hi,List.take_append_drop]
    have hn':=hn
    rw [e,List.map_append,List.map_cons] at hn'
    rw [List.map_append] at hm
    rw [List.nodup_append] at hn'
    obtain ⟨_,h2,h3⟩:=hn'
    rcases List.mem_append.1 hm with h | h
    · exact absurd rfl (h3 _ h _ (by simp))
    · exact absurd h (List.nodup_cons.1 h2).1
theorem fit_less {a b:List Slt} {id:Int} {x:Nd} {ph:Int} (h0:0 ≤ x.1) (hv:VN x) (hok:okPh x.1 ph) (hr:(∀ s ∈ a ++ (id,x,ph) :: b,RoomT (a ++ (id,x,ph) :: b) ∧ RoomF (a ++ (id,x,ph) :: b) s.2.1.2.2.2.2.2)):Fit (a ++ b) x ph:=by
  have hc:=cst_range h0 hv
  have hm:=hr (id,x,ph) (by simp)
  intro t ht hd
  have k1:=hm.1 t ht
  rw [sum_perm_T] at k1
  refine ⟨?_,fun hs=>?_⟩
  · unfold ld at k1
    simp only at k1
    rw [if_pos hd] at k1
    split at k1 <;> omega
  · have h8:=due_slow hv hs hd
    have hph:ph % 8 ≤ 3:=by rcases hok with h | h;exact absurd h hs;exact h
    have k2:=hm.1 (t + 2) (by omega)
    rw [sum_perm_T,show (((t + 2:Nat):Int)) = (t:Int) + 2 by simp] at k2
    have k3:=hm.2 (t / 8) (by omega)
    simp only at k3
    rw [sum_perm_F,show (((t / 8:Nat):Int)) = (t:Int) / 8 by simp] at k3
    refine ⟨?_,?_⟩
    · unfold ld at k2
      simp only at k2
      rw [show (t:Int) + 2 - 2 = (t:Int) by omega,if_pos hd] at k2
      split at k2 <;> omega
    · have hu:us (id,x,ph) x.2.2.2.2.2 ((t:Int) / 8) = true:=by
        unfold us
        rw [decide_eq_true_eq]
        refine ⟨hs,rfl,?_⟩
        rw [show (t:Int) / 8 * 8 + ph % 8 = (t:Int) by omega]
        exact hd
      unfold fr at k3
      rw [if_pos hu] at k3
      exact (by simp only at k3;omega)
theorem eqD_iff (x y:Nd):eqP gf4 x y = true ↔ x = y:=eqP_iff (t:=gf4) rfl x y
theorem goodL_ofR {x:Sl (Int × Bool × Bool × Int × Int × Int)} (F:Fine (.sl gt3) x):∀ y ∈ x.xs,GoodL y:=fun y hy=>by
  have:=F.2.2 y hy
  obtain ⟨h1,_,_,h2,h3,h4⟩:=this
  exact ⟨inR_u8.1 h1,inR_u16.1 h2,inR_u8.1 h3,inR_u8.1 h4⟩
theorem p7_law {x0:Sl (Int × Bool × Bool × Int × Int × Int)} {x1:Int × Bool × Bool × Int × Int × Int} {x2:Int} (F0:Fine (.sl gt3) x0) (F1:Fine gt3 x1) (G2:InR .u8 x2):p7 6000 x0 x1 x2 = some true:=by
  have hx2:=inR_u8.1 G2
  obtain ⟨c,p,hp,hg⟩:=p9_ok (n:=6000) (by decide) x0 (goodL_ofR F0)
  have hl:=GP.len (b:=20) hg
  obtain ⟨h1,_,_,h2,h3,h4⟩:=F1
  obtain ⟨y,hy,hv,h0,_,_⟩:=p10_ok 6000 x1 (inR_u8.1 h1) (inR_u16.1 h2) (inR_u8.1 h3) (inR_u8.1 h4)
  obtain ⟨l,cp⟩:=p
  have hcap:cp = some l.length:=hg.cap
  subst hcap
  simp only at hl
  unfold p7
  rw [hp,Option.bind_some,hy,Option.bind_some]
  simp only
  rw [p11_eq (by decide) ⟨l,some l.length⟩ hg.sp (by simp only;omega) 100 y h0,Option.bind_some]
  have hno:hasId l 100 = false:=hg.no (by decide)
  have e1:(if ((addR l 100 y).2 == 0) = true then (p22 6000 (addR l 100 y).1 100).bind fun t_140=>(if (t_140.2 != 0) = false then (p14 6000 t_140.1 ⟨l,some l.length⟩).bind fun t_158=>some (!t_158) else some true).bind fun q_153=>if q_153 = true then some (.inr false) else some (.inl ()) else some (.inl ():Unit ⊕ Bool)) = some (.inl ()):=by
    rcases hg.add (c:=101) (id:=100) h0 hv (by decide) (by decide) (by decide) (by simp only;omega) with ⟨k1,_⟩ | ⟨_,_,k3⟩ | ⟨q,_,_,k3,_⟩
    · rw [hno] at k1;cases k1
    · simp only at k3
      rw [k3];rfl
    · simp only at k3
      rw [k3]
      simp only
      have hf:(l ++ [((100:Int),y,(q:Int))]).findIdx? (fun s=>s.1 == 100) = some l.length:=findIdx_last (s:=((100:Int),y,(q:Int))) hno
      rw [if_pos (by rfl),p22_yes (by decide) ⟨l ++ [((100:Int),y,(q:Int))],some (l.length + 1)⟩ 100 (by simp;omega) (i:=l.length) (by simp) hf,Option.bind_some]
      simp only
      have e:(l ++ [((100:Int),y,(q:Int))]).take l.length ++ (l ++ [((100:Int),y,(q:Int))]).drop (l.length + 1) = l:=by simp
      have e2:(l ++ [((100:Int),y,(q:Int))]).length - 1 = l.length:=by simp
      rw [e,e2,if_pos (by rfl),p14_eq (by decide) _ _ _ _ (by omega) (by omega) (by omega),Option.bind_some,decide_eq_true (by simp),Option.bind_some]
      rfl
  rw [e1,Option.bind_some,lrKl,p22_no (by decide) ⟨l,some l.length⟩ 100 (by simp only;omega) hno,Option.bind_some]
  rw [show ((nilS,(7:Int)).2 != 7) = false from rfl,if_neg (by decide),lenI_mk]
  by_cases hz:l.length = 0
  · rw [if_pos (by rw [hz];rfl),p15_ok,Option.bind_some]
  · rw [if_neg (by simp;exact fun k=>hz (by rw [k];rfl)),remS hx2.1 (by omega) (by omega),Option.bind_some]
    obtain ⟨w,rfl⟩:=Int.eq_ofNat_of_zero_le hx2.1
    have hw:w % l.length < l.length:=Nat.mod_lt _ (by omega)
    obtain ⟨c1,c2,c3,c4⟩:=chk_zero hg.chk
    simp only at c1 c2 c3 c4
    rw [show ((w:Int) % (l.length:Int)) = ((w % l.length:Nat):Int) by simp,idxE hw,Option.bind_some]
    generalize hi:w % l.length = i at hw
    have hs:=hg.id l[i] (List.getElem_mem hw)
    have hsv:=c2 l[i] (List.getElem_mem hw)
    have hs0:=hg.sp l[i] (List.getElem_mem hw)
    have hfi:=findIdx_at c3 hw
    have hrest:=hasId_rest c3 hw
    have e:l = l.take i ++ l[i] :: l.drop (i + 1):=by rw [← drop_cons hw,List.take_append_drop]
    have hrl:(l.take i ++ l.drop (i + 1)).length = l.length - 1:=by simp;omega
    have hrc:chk (l.take i ++ l.drop (i + 1)) = 0:=chk_less (s:=l[i]) (by rw [← e];exact hg.sp) (by rw [← e];exact hg.chk)
    have hrm:∀ s ∈ l.take i ++ l.drop (i + 1),s ∈ l:=fun s hs=>by
      rcases List.mem_append.1 hs with h | h
      · exact List.mem_of_mem_take h
      · exact List.mem_of_mem_drop h
    rw [p22_yes (by decide) ⟨l,some l.length⟩ l[i].1 (by simp only;omega) hw hfi,Option.bind_some]
    simp only
    generalize hR:l.take i ++ l.drop (i + 1) = R at *
    rw [if_pos (by rfl),ckS (by omega) (by omega),Option.bind_some,lenI_mk,hrl]
    rw [show (((l.length - 1:Nat):Int) != (l.length:Int) - 1) = false by simp;omega,Option.bind_some,if_pos (by rfl),p18_eq (by decide) ⟨R,some (l.length - 1)⟩ (fun s hs=>hg.sp s (hrm s hs)) (by simp only;omega),Option.bind_some]
    simp only
    rw [hrc,show ((0:Int) != 0) = false from rfl,Option.bind_some,if_neg (by decide)]
    rw [p19_no (by decide) ⟨R,some (l.length - 1)⟩ l[i].1 (by simp only;omega) hrest,Option.bind_some]
    simp only
    rw [p11_eq (by decide) ⟨R,some (l.length - 1)⟩ (fun s hs=>hg.sp s (hrm s hs)) (by simp only;omega) l[i].1 l[i].2.1 hs0,Option.bind_some]
    have hfit:Fit R l[i].2.1 l[i].2.2:=by
      rw [← hR]
      exact fit_less (id:=l[i].1) hs0 hsv.2.1 hsv.2.2.2.2 (by rw [show (l[i].1,l[i].2.1,l[i].2.2) = l[i] from rfl,← e];exact c4)
    obtain ⟨u,hu⟩:=Int.eq_ofNat_of_zero_le hsv.2.2.1
    obtain ⟨q,hq1,hq2⟩:=fstPh_le (l:=R) (x:=l[i].2.1) (r:=u) (by have:=hsv.2.2.2.1;omega) ⟨by rw [← hu];exact hsv.2.2.2.2,by rw [← hu];exact hfit⟩
    have ha:addR R l[i].1 l[i].2.1 = (⟨R ++ [(l[i].1,l[i].2.1,(q:Int))],some (R.length + 1)⟩,0):=by
      unfold addR
      rw [if_neg (fun k=>k hrc),if_neg (by rintro (k | k);omega;exact k hsv.2.1),if_neg (by rw [hrest];decide),if_neg (by omega),hq1]
    rw [ha]
    simp only
    have hfl:(R ++ [(l[i].1,l[i].2.1,(q:Int))]).findIdx? (fun s=>s.1 == l[i].1) = some R.length:=findIdx_last (s:=(l[i].1,l[i].2.1,(q:Int))) hrest
    rw [p19_yes (by decide) ⟨R ++ [(l[i].1,l[i].2.1,(q:Int))],some (R.length + 1)⟩ l[i].1 (by simp;omega) (i:=R.length) (by simp) hfl,Option.bind_some]
    simp only
    have e3:(R ++ [(l[i].1,l[i].2.1,(q:Int))])[R.length]'(by simp) = (l[i].1,l[i].2.1,(q:Int)):=by simp
    rw [e3]
    simp only
    rw [if_pos (by rfl),Option.bind_some,if_pos (by rfl),Option.bind_some,if_pos rfl,decide_eq_true (show (q:Int) ≤ l[i].2.2 by omega),Option.bind_some,if_pos rfl,(eqD_iff _ _).2 rfl,Option.bind_some,if_pos rfl,p15_ok,Option.bind_some,Option.bind_some]
end Go.Proofs.Ytaekmgpcdgmlgaa
