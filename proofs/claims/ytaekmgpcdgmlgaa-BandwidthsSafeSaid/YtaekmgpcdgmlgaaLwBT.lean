/- BandwidthsSafe in plain words. Plain theorems, no condition. -/
import Derived.Test.YtaekmgpcdgmlgaaBW6
import Derived.Test.YtaekmgpcdgmlgaaXE16
import Derived.Test.YtaekmgpcdgmlgaaPt1
set_option linter.unusedVariables false
set_option linter.unusedSimpArgs false
namespace Go.Proofs.Ytaekmgpcdgmlgaa
open Go.RowKit

theorem p23_one (n:Nat) {per ph b:Int} (hp:isP per = true) (h0:0 ≤ ph) (h1:ph < per) (hb0:0 ≤ b) (hb1:b ≤ 100000):p23 n per ph b (b + per) = some 1:=by
  have hr:=isP_range hp
  unfold p23
  rw [p41_eq,Option.bind_some,decide_eq_true (⟨hp,h0,h1⟩:isP per = true ∧ 0 ≤ ph ∧ ph < per),if_neg (show ¬ (0:Int) > b by omega),if_pos (by decide),Option.bind_some,decide_eq_false (show ¬ b + per ≤ b by omega),if_neg (by decide)]
  rw [ckS (by omega) (by omega),Option.bind_some,show b + per - b = per by omega,remS (by omega) (by omega) (by omega),Option.bind_some,quoS (by omega) (by omega) (by omega),Option.bind_some,Int.emod_self,Int.ediv_self (by omega)]
  have a1:=Int.emod_nonneg b (show per ≠ 0 by omega)
  have a2:=Int.emod_lt_of_pos b (show 0 < per by omega)
  rw [remS (by omega) (by omega) (by omega),Option.bind_some,ckS (by omega) (by omega),Option.bind_some,ckS (by omega) (by omega),Option.bind_some,remS (by omega) (by omega) (by omega),Option.bind_some]
  have a3:=Int.emod_nonneg (ph - b % per + per) (show per ≠ 0 by omega)
  rw [decide_eq_false (show ¬ (ph - b % per + per) % per < 0 by omega),if_neg (by decide),Option.bind_some]
theorem p8_l2_eq {n:Nat} (x1:Int) (hx1:0 ≤ x1 ∧ x1 ≤ 255) (p:Sl Slt) (h:∀ s ∈ p.xs,VS s) (hl:p.xs.length ≤ 300):∀ (m k:Nat),p.xs.length - k < m → k ≤ p.xs.length → p8_l2 n x1 p m k = some (.inl ()):=by
  intro m
  induction m with
  | zero=>intro k hm;exact absurd hm (by omega)
  | succ m ih =>
    intro k hm hk
    rw [p8_l2]
    by_cases hlt:k < p.xs.length
    · have hv:=h p.xs[k] (List.getElem_mem hlt)
      have hp:=hv.2.1.2.2.2.2.2.1
      have hr:=isP_range hp
      have h0:=hv.2.2.1
      have h1:=hv.2.2.2.1
      rw [len_def,ifDT (by omega),idxE hlt,Option.bind_some,ckS (by omega) (by omega),Option.bind_some,ckS (by omega) (by omega),Option.bind_some,p23_one n hp h0 h1 (by omega) (by omega),Option.bind_some,if_neg (by decide),ckS (by omega) (by omega),Option.bind_some,castS,ih (k + 1) (by omega) (by omega)]
    · rw [len_def,ifDF (by omega)]
def GoodA (y:Bool × Int × (Int × Bool × Bool × Int × Int × Int)):Prop:=(0 ≤ y.2.1 ∧ y.2.1 ≤ 255) ∧ GoodL y.2.2
theorem GP.less {p:Sl Slt} {b:Int} (h:GP p b) {i:Nat} (hi:i < p.xs.length):GP ⟨p.xs.take i ++ p.xs.drop (i + 1),some (p.xs.length - 1)⟩ b:=by
  have e:p.xs = p.xs.take i ++ p.xs[i] :: p.xs.drop (i + 1):=by rw [← drop_cons hi,List.take_append_drop]
  have hm:∀ s ∈ p.xs.take i ++ p.xs.drop (i + 1),s ∈ p.xs:=fun s hs=>by
    rcases List.mem_append.1 hs with h | h
    · exact List.mem_of_mem_take h
    · exact List.mem_of_mem_drop h
  refine ⟨chk_less (s:=p.xs[i]) (by rw [← e];exact h.sp) (by rw [← e];exact h.chk),fun s hs=>h.sp s (hm s hs),fun s hs=>h.id s (hm s hs),?_⟩
  have:(p.xs.take i ++ p.xs.drop (i + 1)).length = p.xs.length - 1:=by simp;omega
  simp only
  rw [this]
theorem p8_l1_eq {n:Nat} (hn:1100 ≤ n) (x:Sl (Bool × Int × (Int × Bool × Bool × Int × Int × Int))) (hx:∀ y ∈ x.xs,GoodA y) (hxl:x.xs.length ≤ 1000):∀ (m k:Nat) (p:Sl Slt),x.xs.length - k < m → k ≤ x.xs.length → GP p (24:Nat) →
    ∃ p',p8_l1 n x m k p = some (.inl p') ∧ GP p' (24:Nat):=by
  intro m
  induction m with
  | zero=>intro k p hm;exact absurd hm (by omega)
  | succ m ih =>
    intro k p hm hk hg
    have hl:=hg.len
    by_cases hlt:k < x.xs.length
    · obtain ⟨⟨u1,u2⟩,v1,v2,v3,v4⟩:=hx x.xs[k] (List.getElem_mem hlt)
      have a1:=Int.emod_nonneg x.xs[k].2.1 (show (24:Int) ≠ 0 by decide)
      have a2:=Int.emod_lt_of_pos x.xs[k].2.1 (show (0:Int) < 24 by decide)
      obtain ⟨s,hs⟩:=p19_eq (n:=n) (by omega) p (x.xs[k].2.1 % 24) (by omega)
      have fin:∀ q:Sl Slt,GP q (24:Nat) → ∃ p',((ckI .i64 ((k:Int) + 1)).bind fun x_78=>p8_l1 n x m x_78 q) = some (.inl p') ∧ GP p' (24:Nat):=by
        intro q hq
        rw [ckS (by omega) (by omega),Option.bind_some,castS]
        exact ih (k + 1) q (by omega) (by omega) hq
      rw [p8_l1,len_def,ifDT (by omega),idxE hlt,Option.bind_some,remI_ok u1 (by decide) (inR_u8.2 ⟨a1,by omega⟩),Option.bind_some,hs,Option.bind_some,Option.bind_some]
      simp only
      generalize x.xs[k].2.1 % 24 = i at a1 a2
      by_cases hb:x.xs[k].1 = true
      · rw [if_pos hb]
        cases hh:hasId p.xs i with
        | false =>
          rw [p22_no (by omega) p i (by omega) hh,Option.bind_some]
          simp only
          rw [show ((7:Int) == 0) = false from rfl,show (!(false == false)) = false from rfl,if_pos rfl,show (!false) = true from rfl,if_pos rfl,Option.bind_some,Option.bind_some,show ((7:Int) != 7) = false from rfl,if_neg (by decide),if_neg (by decide),Option.bind_some]
          exact fin p hg
        | true =>
          obtain ⟨j,hj,hf,_⟩:=findIdx_some hh
          rw [p22_yes (by omega) p i (by omega) hj hf,Option.bind_some]
          simp only
          rw [show ((0:Int) == 0) = true from rfl,show (!(true == true)) = false from rfl,if_pos rfl,show (!true) = false from rfl,if_neg (by decide),Option.bind_some,Option.bind_some,if_neg (by decide),if_pos trivial,Option.bind_some]
          exact fin _ (hg.less hj)
      · obtain ⟨y,hy,hv,h0,_,_⟩:=p10_ok n x.xs[k].2.2 v1 v2 v3 v4
        rw [if_neg hb,Option.bind_some,hy,Option.bind_some,p11_eq hn p hg.sp (by omega) i y h0,Option.bind_some]
        rcases hg.add (c:=(24:Nat)) (id:=i) h0 hv a1 (by omega) (by omega) (by omega) with ⟨k1,k2⟩ | ⟨k1,_,k3⟩ | ⟨q,k1,_,k3,k4⟩
        · rw [k1,k2]
          simp only
          rw [show ((8:Int) == 8) = true from rfl,show (!(true == true)) = false from rfl,if_pos rfl,show ((8:Int) != 0) = true from rfl,if_pos rfl,Option.bind_some,show ((8:Int) != 8) = false from rfl,if_neg (by decide),Option.bind_some,Option.bind_some,if_neg (by decide),show ((8:Int) == 0) = false from rfl,if_neg (by decide),Option.bind_some]
          exact fin p hg
        · rw [k1,k3]
          simp only
          rw [show ((14:Int) == 8) = false from rfl,show (!(false == false)) = false from rfl,if_pos rfl,show ((14:Int) != 0) = true from rfl,if_pos rfl,Option.bind_some,show ((14:Int) != 8) = true from rfl,if_pos rfl,Option.bind_some,show ((14:Int) != 14) = false from rfl,Option.bind_some,if_neg (by decide),show ((14:Int) == 0) = false from rfl,if_neg (by decide),Option.bind_some]
          exact fin p hg
        · rw [k1,k3]
          simp only
          rw [show ((0:Int) == 8) = false from rfl,show (!(false == false)) = false from rfl,if_pos rfl,show ((0:Int) != 0) = false from rfl,if_neg (by decide),Option.bind_some,if_neg (by decide),Option.bind_some,Option.bind_some,if_neg (by decide),show ((0:Int) == 0) = true from rfl,if_pos rfl,Option.bind_some]
          exact fin _ k4
    · refine ⟨p,?_,hg⟩
      rw [p8_l1,len_def,ifDF (by omega)]
theorem goodA_of {x:Sl (Bool × Int × (Int × Bool × Bool × Int × Int × Int))} (F:Fine (.sl gt5) x):∀ y ∈ x.xs,GoodA y:=fun y hy=>by
  have:=F.2.2 y hy
  obtain ⟨_,h0,h1,_,_,h2,h3,h4⟩:=this
  exact ⟨inR_u8.1 h0,inR_u8.1 h1,inR_u16.1 h2,inR_u8.1 h3,inR_u8.1 h4⟩
theorem p8_law {x0:Sl (Bool × Int × (Int × Bool × Bool × Int × Int × Int))} {x1:Int} (F0:Fine (.sl gt5) x0) (G1:InR .u8 x1):p8 6000 x0 x1 = some true:=by
  unfold p8
  rw [len_def]
  by_cases h30:(x0.xs.length:Int) > 30
  · rw [ifDT h30,p15_ok,Option.bind_some]
  · rw [ifDF h30]
    obtain ⟨p,hp,hg⟩:=p8_l1_eq (n:=6000) (by decide) x0 (goodA_of F0) (by omega) 6000 0 ⟨[],some 0⟩ (by omega) (by omega) (GP.nil _)
    rw [show ((0:Nat):Int) = 0 from rfl] at hp
    have hl:=hg.len
    obtain ⟨c1,c2,c3,c4⟩:=chk_zero hg.chk
    have h2:=p8_l2_eq (n:=6000) x1 (inR_u8.1 G1) p c2 (by omega) 6000 0 (by omega) (by omega)
    rw [show ((0:Nat):Int) = 0 from rfl] at h2
    rw [hp,Option.bind_some,lrKl,p18_eq (by decide) p hg.sp (by omega),hg.chk,Option.bind_some,show ((0:Int) != 0) = false from rfl,if_pos rfl,p17_eq (by decide) p hg.allV (by omega),decide_eq_true (show RoomA p.xs p.xs from c4),Option.bind_some,Option.bind_some,show (!true) = false from rfl,if_neg (by decide),h2,Option.bind_some,lrKl,p15_ok,Option.bind_some]
end Go.Proofs.Ytaekmgpcdgmlgaa
