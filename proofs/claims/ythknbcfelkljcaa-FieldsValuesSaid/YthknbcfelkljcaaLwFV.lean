/- FieldsValues in plain words. Plain theorems, no condition. -/
import Derived.Test.YthknbcfelkljcaaFD9
import Derived.Test.YthknbcfelkljcaaLB2
import Derived.Test.YthknbcfelkljcaaPv1
set_option linter.unusedVariables false
set_option linter.unusedSimpArgs false
namespace Go.Proofs.Ythknbcfelkljcaa
open Go.RowKit
theorem p3_l1_eq (n:Nat) (R:List (Int × Int × Int × Int)) (c d:Option Nat) (e1 e2:Int) (hR:R.length ≤ 3000):∀ (m k:Nat),R.length - k < m → k ≤ R.length → p3_l1 n (⟨R,c⟩,e1) (⟨R,d⟩,e2) m k = some (.inl ()):=by
  intro m
  induction m with
  | zero=>intro k hm;exact absurd hm (by omega)
  | succ m ih =>
    intro k hm hk
    rw [p3_l1,c_v]
    by_cases hlt:k < R.length
    · have e:eqP gf2 R[k] R[k] = true:=(eqP_iff (t:=gf2) rfl _ _).2 rfl
      rw [c_X (show (k:Int) < (R.length:Int) by omega),d_i hlt,Option.bind_some,Option.bind_some,e,if_neg (by decide),ckS (by omega) (by omega),Option.bind_some,b_l]
      exact ih (k + 1) (by omega) (by omega)
    · rw [c_Y (show ¬ (k:Int) < (R.length:Int) by omega)]
theorem p3_main {x0:Mpt} {x1:Int} {x2:Sl Int} (hU:Us x0) (hb:Byts x2.xs) (G1:InR .u8 x1):p3 6000 x0 x1 x2 = some true:=by
  have g:=inR_u8.1 G1
  have h8:p8 6000 = some true:=p8_ok
  obtain ⟨c,h7,hc⟩:=p7_eq (n:=6000) (by decide) x0
  unfold p3
  rw [h7,Option.bind_some]
  cases c with
  | false=>rw [if_neg (by decide),Option.bind_some,if_pos rfl,h8,Option.bind_some]
  | true =>
    have hl:=hc rfl
    rw [if_pos (show (!true) = false from rfl),Option.bind_some]
    by_cases h600:a_n x2 > 600
    · rw [c_X h600,h8,Option.bind_some]
    · have hk:d_n .u8 x1 5 = some (x1 % 5):=remI_ok g.1 (by decide) (inR_u8.2 ⟨by omega,by omega⟩)
      obtain ⟨c9,h9⟩:=p9_eq (n:=6000) (by decide) x0 (by omega) hU (x1 % 5) x2 hb
      have h10:=p10_eq (n:=6000) (by decide) x0 (by omega) hU (x1 % 5) x2 hb
      have hvl:=valR_len x0 (x1 % 5) x2.xs
      have h1:=p3_l1_eq 6000 (b_p x0 (x1 % 5) x2.xs).1 c9 (some (b_p x0 (x1 % 5) x2.xs).1.length) (b_p x0 (x1 % 5) x2.xs).2 (b_p x0 (x1 % 5) x2.xs).2 (by omega) 6000 0 (by omega) (by omega)
      rw [show ((0:Nat):Int) = 0 from rfl] at h1
      have hcap:capO (⟨(b_p x0 (x1 % 5) x2.xs).1,some (b_p x0 (x1 % 5) x2.xs).1.length⟩:Sl (Int × Int × Int × Int)) = some (((b_p x0 (x1 % 5) x2.xs).1.length:Nat):Int):=rfl
      rw [c_Y h600,hk,Option.bind_some,h9,Option.bind_some,Option.bind_some,h10,Option.bind_some]
      simp only
      rw [bne_self_eq_false,if_pos rfl,Option.bind_some]
      rw [if_pos (by rw [c_v,c_v,bne_self_eq_false]),hcap,Option.bind_some,Option.bind_some,if_neg (by rw [c_v,bne_self_eq_false];decide),h1,Option.bind_some,lrKl,h8,Option.bind_some]
theorem usF {x0:Mpt} (F0:Fine gt8 x0):Us x0:=fun f hf=>(F0.1.2.2 f hf).2.2.2.1.1
theorem bytF {x:Sl Int} (F:Fine (.sl (.int .u8)) x):Byts x.xs:=fun y hy=>inR_u8.1 (F.2.2 y hy)
theorem p3_law {x0:Mpt} {x1:Int} {x2:Sl Int} (F0:Fine gt8 x0) (G1:InR .u8 x1) (F2:Fine (.sl (.int .u8)) x2):p3 6000 x0 x1 x2 = some true:=p3_main (usF F0) (bytF F2) G1
end Go.Proofs.Ythknbcfelkljcaa
