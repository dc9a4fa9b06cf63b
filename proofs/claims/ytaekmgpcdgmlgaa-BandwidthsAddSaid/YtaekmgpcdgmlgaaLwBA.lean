/- BandwidthsAdd in plain words: a pipe gets the least phase in which there is room. Plain theorems, no condition. -/
import Derived.Test.YtaekmgpcdgmlgaaBW6
import Derived.Test.YtaekmgpcdgmlgaaXE16
import Derived.Test.YtaekmgpcdgmlgaaPa1
set_option linter.unusedVariables false
set_option linter.unusedSimpArgs false
namespace Go.Proofs.Ytaekmgpcdgmlgaa
open Go.RowKit

theorem idxGA1 (l:List Slt) (g:Int) (t:Nat) (h:t < 256):idx (GR l g) (t:Int) = some (TL l (t:Int)):=by
  rw [idx_nat,GR_get,if_pos (by omega),if_pos (by omega)]
theorem idxGA2 (l:List Slt) (g:Int) (t:Nat) (h:t < 32):idx (GR l g) (256 + (t:Int)) = some (FL l g (t:Int)):=by
  rw [show (256 + (t:Int)) = ((256 + t:Nat):Int) by simp,idx_nat,GR_get,if_pos (by omega),if_neg (by omega),show (((256 + t:Nat):Int) - 256) = (t:Int) by omega]
theorem p3_l2_eq (n:Nat) (l:List Slt) (hl:AllV l) (hll:l.length ≤ 300) (x:Nd) (h0:0 ≤ x.1) (hv:VN x) (ph:Int) (hok:okPh x.1 ph):∀ (m u:Nat) (b:Bool),256 - u < m → u ≤ 600 → due x.2.2.2.2.1 ph (u:Int) = true →
    p3_l2 n x [(cst x).1,(cst x).2.1,(cst x).2.2] (GR l x.2.2.2.2.2) m u b = some (b && decide (FitF l x ph u)):=by
  have hp:=hv.2.2.2.2.2.1
  have hr:=isP_range hp
  have hc:=cst_range h0 hv
  obtain ⟨q,hq⟩:=Int.eq_ofNat_of_zero_le (show 0 ≤ x.2.2.2.2.1 by omega)
  intro m
  induction m with
  | zero=>intro u b h;exact absurd h (by omega)
  | succ m ih =>
    intro u b hm hu hd
    unfold p3_l2
    by_cases hlt:u < 256
    · have b1:=TL_range hl (u:Int)
      have hst:=FitF_step (l:=l) hp hq hd hlt
      have hdn:=due_next (by omega) hd
      rw [hq] at hdn
      have ih':=fun b=>ih (u + q) b (by omega) (by omega) (by rw [hq];simpa using hdn)
      have e1:(if b = true then (idx (GR l x.2.2.2.2.2) (u:Int)).bind fun y_104=>(idx [(cst x).1,(cst x).2.1,(cst x).2.2] 0).bind fun y_107=>(ckI .i64 (y_104 + y_107)).bind fun x_110=>some (decide (x_110 ≤ 48000)) else some false) = some (b && decide (TL l (u:Int) + (cst x).1 ≤ 48000)):=by
        refine andK fun _=>?_
        rw [idxGA1 l _ u hlt,Option.bind_some,idx3_0,Option.bind_some,ckS (by omega) (by omega),Option.bind_some]
      rw [ifDT (show (u:Int) < 256 by omega),e1,Option.bind_some]
      by_cases hs:x.1 = 2
      · rw [if_neg (show ¬ (x.1 != 2) = true by rw [hs];decide),Option.bind_some,ckS (by omega) (by omega),Option.bind_some,hq,show ((u:Int) + (q:Int)) = ((u + q:Nat):Int) by simp,ih']
        refine congrArg some ?_
        rw [Bool.and_assoc]
        refine congrArg (b && ·) ?_
        rw [Bool.eq_iff_iff,Bool.and_eq_true,decide_eq_true_eq,decide_eq_true_eq,decide_eq_true_eq,hst]
        exact ⟨fun h=>⟨⟨h.1,fun c=>absurd hs c⟩,h.2⟩,fun h=>⟨h.1.1,h.2⟩⟩
      · have h8:=due_slow hv hs hd
        have hph:ph % 8 ≤ 3:=by rcases hok with h | h;exact absurd h hs;exact h
        have b2:=TL_range hl ((u:Int) + 2)
        have b3:=FL_range hl x.2.2.2.2.2 ((u:Int) / 8)
        generalize hB:(b && decide (TL l (u:Int) + (cst x).1 ≤ 48000)) = B
        have e2:(if B = true then (ckI .i64 ((u:Int) + 2)).bind fun x_451=>(idx (GR l x.2.2.2.2.2) x_451).bind fun y_452=>(idx [(cst x).1,(cst x).2.1,(cst x).2.2] 1).bind fun y_455=>(ckI .i64 (y_452 + y_455)).bind fun x_458=>some (decide (x_458 ≤ 48000)) else some false) = some (B && decide (TL l ((u:Int) + 2) + (cst x).2.1 ≤ 48000)):=by
          refine andK fun _=>?_
          rw [ckS (by omega) (by omega),Option.bind_some,show ((u:Int) + 2) = ((u + 2:Nat):Int) by simp,idxGA1 l _ (u + 2) (by omega),Option.bind_some,idx3_1,Option.bind_some,show (((u + 2:Nat):Int)) = (u:Int) + 2 by simp,ckS (by omega) (by omega),Option.bind_some]
        generalize hC:(B && decide (TL l ((u:Int) + 2) + (cst x).2.1 ≤ 48000)) = C
        rw [hC] at e2
        have e3:(if C = true then (quoI .i64 (u:Int) 8).bind fun x_461=>(ckI .i64 (256 + x_461)).bind fun x_462=>(idx (GR l x.2.2.2.2.2) x_462).bind fun y_463=>(idx [(cst x).1,(cst x).2.1,(cst x).2.2] 2).bind fun y_466=>(ckI .i64 (y_463 + y_466)).bind fun x_469=>some (decide (x_469 ≤ 10800)) else some false) = some (C && decide (FL l x.2.2.2.2.2 ((u:Int) / 8) + (cst x).2.2 ≤ 10800)):=by
          refine andK fun _=>?_
          rw [quoS (by omega) (by decide) (by omega),Option.bind_some,ckS (by omega) (by omega),Option.bind_some,show ((u:Int) / 8) = ((u / 8:Nat):Int) by simp,idxGA2 l _ (u / 8) (by omega),Option.bind_some,idx3_2,Option.bind_some,show (((u / 8:Nat):Int)) = (u:Int) / 8 by simp,ckS (by omega) (by omega),Option.bind_some]
        rw [if_pos (show (x.1 != 2) = true by simpa using hs),e2,Option.bind_some,e3,Option.bind_some,Option.bind_some,ckS (by omega) (by omega),Option.bind_some,hq,show ((u:Int) + (q:Int)) = ((u + q:Nat):Int) by simp,ih',← hC,← hB]
        refine congrArg some ?_
        simp only [Bool.and_assoc]
        refine congrArg (b && ·) ?_
        rw [Bool.eq_iff_iff]
        simp only [Bool.and_eq_true,decide_eq_true_eq]
        rw [hst]
        exact ⟨fun h=>⟨⟨h.1,fun _=>⟨h.2.1,h.2.2.1⟩⟩,h.2.2.2⟩,fun h=>⟨h.1.1,(h.1.2 hs).1,(h.1.2 hs).2,h.2⟩⟩
    · rw [ifDF (by omega),decide_eq_true (FitF_end (by omega)),Bool.and_true]
theorem p3_l1_eq (p:Sl Slt) (cc:Int) (hg:GP p 20) (x:Nd) (h0:0 ≤ x.1) (hv:VN x) (t:Sl Slt × Int) (ht:∀ q,fstPh p.xs x 0 = some q → t = (⟨p.xs ++ [(100,x,(q:Int))],some (p.xs.length + 1)⟩,0)):∀ (m u:Nat),x.2.2.2.2.1.toNat - u < m → u ≤ x.2.2.2.2.1.toNat → fstPh p.xs x 0 = fstPh p.xs x u →
    p3_l1 6000 (p,cc) x t [(cst x).1,(cst x).2.1,(cst x).2.2] (GR p.xs x.2.2.2.2.2) m u = some (match fstPh p.xs x u with | some q=>.inr true | none=>.inl ()):=by
  have hp:=hv.2.2.2.2.2.1
  have hr:=isP_range hp
  have hl:=GP.len (b:=20) hg
  intro m
  induction m with
  | zero=>intro u h;exact absurd h (by omega)
  | succ m ih =>
    intro u hm hu hfs
    unfold p3_l1
    by_cases hlt:u < x.2.2.2.2.1.toNat
    · have e1:(if (x.1 != 2) = true then (remI .i64 (u:Int) 8).bind fun x_90=>some (decide (x_90 > 3)) else some false) = some (!decide (okPh x.1 (u:Int))):=by
        by_cases hs:x.1 = 2
        · rw [if_neg (by rw [hs];decide),decide_eq_true (show okPh x.1 (u:Int) from .inl hs)];rfl
        · rw [if_pos (by simpa using hs),remS (by omega) (by decide) (by omega),Option.bind_some]
          refine congrArg some ?_
          by_cases hk:(u:Int) % 8 ≤ 3
          · rw [decide_eq_true (show okPh x.1 (u:Int) from .inr hk),decide_eq_false (by omega)];rfl
          · rw [decide_eq_false (show ¬ okPh x.1 (u:Int) from fun q=>by rcases q with q | q;exact hs q;exact hk q),decide_eq_true (by omega)];rfl
      rw [ifDT (show (u:Int) < x.2.2.2.2.1 by omega),e1,Option.bind_some]
      have hf:=fstPh_cons (l:=p.xs) (x:=x) hlt
      by_cases hok:okPh x.1 (u:Int)
      · rw [decide_eq_true hok,show (!true) = false from rfl,if_neg (by decide),p3_l2_eq 6000 p.xs hg.allV (by omega) x h0 hv (u:Int) hok 6000 u true (by omega) (by omega) (due_first (by omega) (by omega)),Option.bind_some,Bool.true_and]
        have e:=FitF_start (l:=p.xs) (x:=x) (q:=u) hp (by omega)
        by_cases hfit:Fit p.xs x (u:Int)
        · rw [if_pos (show phOk p.xs x u from ⟨hok,hfit⟩)] at hf
          have hq:=ht u (by rw [hfs,hf])
          rw [decide_eq_true (e.2 hfit),if_pos rfl,hq]
          simp only
          rw [appI_ok (by simp;omega),Option.bind_some,appI_ok (by simp;omega),Option.bind_some,Option.bind_some,if_pos (by rfl),List.nil_append,p14_eq (by decide) _ _ _ _ (by omega) (by simp;omega) (by simp;omega),Option.bind_some,decide_eq_true (by simp),Option.bind_some,if_pos rfl,p15_ok,Option.bind_some,Option.bind_some,hf]
        · rw [if_neg (show ¬ phOk p.xs x u from fun k=>hfit k.2)] at hf
          rw [decide_eq_false (fun k=>hfit (e.1 k)),if_neg (by decide),ckS (by omega) (by omega),Option.bind_some,castS,hf]
          exact ih (u + 1) (by omega) (by omega) (by rw [hfs,hf])
      · rw [if_neg (show ¬ phOk p.xs x u from fun k=>hok k.1)] at hf
        rw [decide_eq_false hok,show (!false) = true from rfl,if_pos rfl,ckS (by omega) (by omega),Option.bind_some,castS,hf]
        exact ih (u + 1) (by omega) (by omega) (by rw [hfs,hf])
    · rw [ifDF (by omega),fstPh_end (by omega)]
theorem goodL_ofA {x:Sl (Int × Bool × Bool × Int × Int × Int)} (F:Fine (.sl gt3) x):∀ y ∈ x.xs,GoodL y:=fun y hy=>by
  have:=F.2.2 y hy
  obtain ⟨h1,_,_,h2,h3,h4⟩:=this
  exact ⟨inR_u8.1 h1,inR_u16.1 h2,inR_u8.1 h3,inR_u8.1 h4⟩
theorem p3_law {x0:Sl (Int × Bool × Bool × Int × Int × Int)} {x1:Int × Bool × Bool × Int × Int × Int} (F0:Fine (.sl gt3) x0) (F1:Fine gt3 x1):p3 6000 x0 x1 = some true:=by
  obtain ⟨c,p,hp,hg⟩:=p9_ok (n:=6000) (by decide) x0 (goodL_ofA F0)
  have hl:=GP.len (b:=20) hg
  obtain ⟨h1,_,_,h2,h3,h4⟩:=F1
  obtain ⟨y,hy,hv,h0,_,_⟩:=p10_ok 6000 x1 (inR_u8.1 h1) (inR_u16.1 h2) (inR_u8.1 h3) (inR_u8.1 h4)
  have hr:=isP_range hv.2.2.2.2.2.1
  unfold p3
  rw [hp,Option.bind_some,hy,Option.bind_some]
  simp only
  rw [p11_eq (by decide) p hg.sp (by omega) 100 y h0,Option.bind_some,p12_eq (by decide) y h0 hv,Option.bind_some,p13_eq (by decide) p hg.allV (by omega),Option.bind_some]
  have hadd:=hg.add (c:=101) (id:=100) h0 hv (by decide) (by decide) (by decide) (by omega)
  have ht:∀ q,fstPh p.xs y 0 = some q → addR p.xs 100 y = (⟨p.xs ++ [(100,y,(q:Int))],some (p.xs.length + 1)⟩,0):=by
    intro q hq
    rcases hadd with ⟨k1,_⟩ | ⟨_,k2,_⟩ | ⟨q',_,k2,k3,_⟩
    · rw [hg.no (by decide)] at k1;cases k1
    · rw [k2] at hq;cases hq
    · rw [k2] at hq;obtain rfl:=Option.some.inj hq;exact k3
  rw [show (0:Int) = ((0:Nat):Int) from rfl,p3_l1_eq p c hg y h0 hv _ ht 6000 0 (by omega) (by omega) rfl,Option.bind_some]
  cases hf:fstPh p.xs y 0 with
  | some q=>rfl
  | none =>
    have:addR p.xs 100 y = (nilS,14):=by
      rcases hadd with ⟨k1,_⟩ | ⟨_,_,k3⟩ | ⟨q',_,k2,_⟩
      · rw [hg.no (by decide)] at k1;cases k1
      · exact k3
      · rw [hf] at k2;cases k2
    rw [lrKl,this]
    simp only
    rw [if_pos (by rfl),Option.bind_some,if_pos (by rfl),p15_ok,Option.bind_some,Option.bind_some]
end Go.Proofs.Ytaekmgpcdgmlgaa
