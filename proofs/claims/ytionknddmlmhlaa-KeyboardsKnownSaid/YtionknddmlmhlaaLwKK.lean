/- KeyboardsKnown, in plain words. -/
import Derived.Test.YtionknddmlmhlaaKL99
set_option linter.unusedVariables false
set_option linter.unusedSimpArgs false
namespace Go.Proofs.Ytionknddmlmhlaa
open Go.RowKit
theorem p7_l2_eq {b:Int} (hb:0 ≤ b ∧ b ≤ 255):∀ (m a:Nat),8 - a < m → a ≤ 8 → p7_l2 2000 b m a = some (.inl ()):=by
  intro m
  induction m with
  | zero=>intro a h;exact absurd h (by omega)
  | succ m ih =>
    intro a hm ha
    rw [p7_l2]
    by_cases h:a < 8
    · obtain ⟨v,h1,h2,h3⟩:=char_eq 2000 (((a:Int) % 2) == 0) hb (la:=(a:Int)) ⟨by omega,by omega⟩
      rw [b_U (by omega),b_c (by omega) (by decide) (inR_u8.2 (by omega)),Option.bind_some,b_P b,show b % 256 = b by omega,h1,Option.bind_some,Option.bind_some,h2,Option.bind_some,if_neg (show ¬ ((v != v) = true) by simp),b_P,show ((a:Int) + 1) % 256 = ((a + 1:Nat):Int) by omega]
      exact ih (a + 1) (by omega) (by omega)
    · rw [b_V (by omega)]
theorem p7_l1_eq:∀ (m k:Nat),256 - k < m → k ≤ 256 → p7_l1 2000 m k = some (.inl ()):=by
  intro m
  induction m with
  | zero=>intro a h;exact absurd h (by omega)
  | succ m ih =>
    intro a hm ha
    rw [p7_l1]
    by_cases h:a < 256
    · have e:=p7_l2_eq (b:=(a:Int)) ⟨by omega,by omega⟩ 2000 0 (by omega) (by omega)
      rw [show ((0:Nat):Int) = 0 from rfl] at e
      rw [b_U (by omega),e,Option.bind_some,d_W,ckS (by omega) (by omega),Option.bind_some,a_Q]
      exact ih (a + 1) (by omega) (by omega)
    · rw [b_V (by omega)]
def OkA (e:Int × (Sl Int)):Prop:=(0 ≤ e.1 ∧ e.1 ≤ 255) ∧ Byts e.2.xs
theorem slI_any {l:List Int} {c:Option Nat} {q:Int} (h0:0 ≤ q) (h1:q ≤ l.length):∃ s,slI (⟨l,c⟩:Sl Int) 0 q = some s ∧ ∀ y ∈ s.xs,y ∈ l :=
  ⟨_,if_pos ⟨Int.le_refl _,h0,h1⟩,fun y hy=>List.mem_of_mem_take (List.mem_of_mem_drop hy)⟩
theorem p7_l4_eq:∀ (m i:Nat) (c:List (Int × (Sl Int))) (k:Int),12 - i < m → i ≤ 12 → 0 ≤ k → k < 100003 → c.length ≤ i → (∀ e ∈ c,OkA e) → ∃ k' c',p7_l4 2000 m i c k = some (k',c') ∧ (0 ≤ k' ∧ k' < 100003) ∧ ∀ e ∈ c',OkA e:=by
  intro m
  induction m with
  | zero=>intro i c k h;exact absurd h (by omega)
  | succ m ih =>
    intro i c k hm hi k0 k1 hl hc
    rw [p7_l4]
    by_cases h:i < 12
    · obtain ⟨s,hs,hm2⟩:=slI_any (l:=[k % 256,(k / 3) % 256,(k / 7) % 256,((k / 11) % 256) % 2,(k / 13) % 256,0,4,5,6,7]) (c:=some 10) (q:=k % 11) (by omega) (by show k % 11 ≤ ((10:Nat):Int);omega)
      rw [b_U (by omega),d_a k0 (by decide) (inR_i64.2 (by omega)),Option.bind_some,d_a k0 (by decide) (inR_i64.2 (by omega)),Option.bind_some,d_a k0 (by decide) (inR_i64.2 (by omega)),Option.bind_some]
      simp only [b_P]
      rw [b_c (by omega) (by decide) (inR_u8.2 (by omega)),Option.bind_some,d_a k0 (by decide) (inR_i64.2 (by omega)),Option.bind_some,b_c k0 (by decide) (inR_i64.2 (by omega)),Option.bind_some,hs,Option.bind_some,b_j (by omega),Option.bind_some,
        ckS (by omega) (by omega),Option.bind_some,ckS (by omega) (by omega),Option.bind_some,ckS (by omega) (by omega),Option.bind_some,ckS (by omega) (by omega),Option.bind_some,b_c (by omega) (by decide) (inR_i64.2 (by omega)),Option.bind_some,ckS (by omega) (by omega),Option.bind_some,a_Q]
      refine ih (i + 1) _ _ (by omega) (by omega) (by omega) (by omega) (by rw [List.length_append,List.length_singleton];omega) fun e he=>?_
      rcases List.mem_append.1 he with he | he
      · exact hc e he
      · rw [List.mem_singleton.1 he]
        refine ⟨⟨by show 0 ≤ k % 256;omega,by show k % 256 ≤ 255;omega⟩,fun y hy=>?_⟩
        have:=hm2 y hy
        simp only [List.mem_cons,List.not_mem_nil,or_false] at this
        omega
    · rw [b_V (by omega)]
      exact ⟨k,c,rfl,⟨k0,k1⟩,hc⟩
theorem p7_l3_eq:∀ (m i:Nat) (k:Int),30 - i < m → i ≤ 30 → 0 ≤ k → k < 100003 → p7_l3 2000 m i k = some (.inl ()):=by
  intro m
  induction m with
  | zero=>intro i k h;exact absurd h (by omega)
  | succ m ih =>
    intro i k hm hi k0 k1
    rw [p7_l3]
    by_cases h:i < 30
    · obtain ⟨k',c',e,⟨g0,g1⟩,g2⟩:=p7_l4_eq 2000 0 [] k (by omega) (by omega) k0 k1 (Nat.le_refl _) (fun _ h=>by cases h)
      rw [show ((0:Nat):Int) = 0 from rfl] at e
      have hw:0 ≤ IntKind.wrap .u8 (i:Int) ∧ IntKind.wrap .u8 (i:Int) ≤ 255:=by rw [b_P];omega
      have hk:0 ≤ IntKind.wrap .u8 k' ∧ IntKind.wrap .u8 k' ≤ 255:=by rw [b_P];omega
      have e4:=p4_main ((((i:Int) % 2) == 0),IntKind.wrap .u8 (i:Int),(((i:Int) % 3) == 0),IntKind.wrap .u8 (i:Int)) (⟨c',.none⟩:Sl (Int × (Sl (Int)))) hw hw g2
      have e5:=p5_main ((((i:Int) % 2) == 0),IntKind.wrap .u8 (i:Int),(((i:Int) % 3) == 0),IntKind.wrap .u8 (i:Int)) (⟨[0,1,2,IntKind.wrap .u8 k',0],some 5⟩:Sl Int) hw hw fun y hy=>by
        simp only [List.mem_cons,List.not_mem_nil,or_false] at hy
        omega
      rw [b_U (by omega),b_c (by omega) (by decide) (inR_i64.2 (by omega)),Option.bind_some,b_c (by omega) (by decide) (inR_i64.2 (by omega)),Option.bind_some,e,Option.bind_some,e4,Option.bind_some,if_pos (show (!true) = false from rfl),e5,Option.bind_some,Option.bind_some,if_neg (show ¬ ((!true) = true) by decide),ckS (by omega) (by omega),Option.bind_some,a_Q]
      exact ih (i + 1) k' (by omega) (by omega) g0 g1
    · rw [b_V (by omega)]
theorem p7_law:p7 2000 = some true:=by
  have e1:=p7_l1_eq 2000 0 (by omega) (by omega)
  have e2:=p7_l3_eq 2000 0 1 (by omega) (by omega) (by decide) (by decide)
  rw [show ((0:Nat):Int) = 0 from rfl] at e1 e2
  unfold p7
  rw [e1,Option.bind_some,d_W,e2,Option.bind_some,d_W,p8_ok]
  rfl
end Go.Proofs.Ytionknddmlmhlaa
