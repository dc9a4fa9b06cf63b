/- SchedulesDue in plain words. Plain theorems, no condition. -/
import Derived.Test.YtfelbalkobcfhaaSD9
import Derived.Test.YtfelbalkobcfhaaLB2
import Derived.Test.YtfelbalkobcfhaaPd1
set_option linter.unusedVariables false
set_option linter.unusedSimpArgs false
namespace Go.Proofs.Ytfelbalkobcfhaa
open Go.RowKit
theorem p6_l1_eq (n:Nat) (V:List (Int × Int)) (c d:Option Nat) (hV:V.length ≤ 1000):∀ (m k:Nat),V.length - k < m → k ≤ V.length → p6_l1 n ⟨V,c⟩ ⟨V,d⟩ m k = some (.inl ()):=by
  intro m
  induction m with
  | zero=>intro k hm;exact absurd hm (by omega)
  | succ m ih =>
    intro k hm hk
    rw [p6_l1,a_9]
    by_cases hlt:k < V.length
    · have e:eqP gf0 V[k] V[k] = true:=(eqP_iff (t:=gf0) rfl _ _).2 rfl
      rw [c_i (show (k:Int) < (V.length:Int) by omega),e_u hlt,Option.bind_some,Option.bind_some,e,if_neg (by decide),ckS (by omega) (by omega),Option.bind_some,b_O]
      exact ih (k + 1) (by omega) (by omega)
    · rw [c_b (show ¬ (k:Int) < (V.length:Int) by omega)]
theorem goodL_ofD {x:Sl (Int × Bool × Bool × Int × Int × Int)} (F:∀ y ∈ x.xs,(InR .u8 y.1) ∧ InR .u16 y.2.2.2.1 ∧ InR .u8 y.2.2.2.2.1 ∧ InR .u8 y.2.2.2.2.2):∀ y ∈ x.xs,GoodL y:=fun y hy=>by
  obtain ⟨h1,h2,h3,h4⟩:=F y hy
  exact ⟨inR_u8.1 h1,inR_u16.1 h2,inR_u8.1 h3,inR_u8.1 h4⟩
theorem p6_main {x0:Sl (Int × Bool × Bool × Int × Int × Int)} {x1 x2:Int} (F:∀ y ∈ x0.xs,(InR .u8 y.1) ∧ InR .u16 y.2.2.2.1 ∧ InR .u8 y.2.2.2.2.1 ∧ InR .u8 y.2.2.2.2.2) (G1:InR .u8 x1) (G2:InR .u8 x2):p6 6000 x0 x1 x2 = some true:=by
  have g1:=inR_u8.1 G1
  have g2:=inR_u8.1 G2
  obtain ⟨c,p,h1,hg⟩:=p19_ok (n:=6000) (by decide) x0 (goodL_ofD F)
  have hlp:=GP.len (b:=20) hg
  have hT:0 ≤ x1 + 256 * x2 ∧ x1 + 256 * x2 ≤ 1048576:=by omega
  have h2:=p11_eq0 (n:=6000) (by decide) p (fun s hs=>(hg.allV s hs).1) hlp (x1 + 256 * x2) hT
  have h3:=p10_eq (n:=6000) (by decide) p (fun s hs=>(hg.allV s hs).2) (by omega) (x1 + 256 * x2) hT
  have hl:=f_c p.xs (x1 + 256 * x2)
  have h4:=p6_l1_eq 6000 (e_C p.xs (x1 + 256 * x2)) (some (e_C p.xs (x1 + 256 * x2)).length) .none (by omega) 6000 0 (by omega) (by omega)
  rw [show ((0:Nat):Int) = 0 from rfl] at h4
  have hc:capO (⟨e_C p.xs (x1 + 256 * x2),some (e_C p.xs (x1 + 256 * x2)).length⟩:Sl (Int × Int)) = some ((e_C p.xs (x1 + 256 * x2)).length:Int):=rfl
  unfold p6
  rw [h1,Option.bind_some,ckS (by omega) (by omega),Option.bind_some,ckS (by omega) (by omega),Option.bind_some,h2,Option.bind_some,h3,Option.bind_some]
  rw [if_pos (by rw [a_9,a_9,bne_self_eq_false]),hc,Option.bind_some,Option.bind_some,if_neg (by rw [a_9,bne_self_eq_false];decide),h4,Option.bind_some,lrKl,ckS (by omega) (by omega),Option.bind_some,p11_out _ _ _ (by omega),Option.bind_some,ckS (by omega) (by omega),Option.bind_some,p11_out _ _ _ (by omega),Option.bind_some,a_9,show ((([]:List (Int × Int)).length:Nat):Int) + ((([]:List (Int × Int)).length:Nat):Int) = 0 from rfl,ckS (by omega) (by omega),Option.bind_some,if_pos (by decide),p8_ok,Option.bind_some,Option.bind_some]
theorem p6_law {x0:Sl (Int × Bool × Bool × Int × Int × Int)} {x1 x2:Int} (F0:Fine (.sl gt6) x0) (G1:InR .u8 x1) (G2:InR .u8 x2):p6 6000 x0 x1 x2 = some true :=
  p6_main (fun y hy=>by
    obtain ⟨h1,_,_,h2,h3,h4⟩:=F0.2.2 y hy
    exact ⟨h1,h2,h3,h4⟩) G1 G2
end Go.Proofs.Ytfelbalkobcfhaa
