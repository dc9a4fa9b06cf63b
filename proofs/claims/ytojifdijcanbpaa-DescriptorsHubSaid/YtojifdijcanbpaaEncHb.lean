/- The walk of EncodeHub. -/
import Derived.Test.YtojifdijcanbpaaEncEp
set_option linter.unusedSimpArgs false
set_option linter.unusedVariables false
namespace Go.Proofs.Ytojifdijcanbpaa
open Go.RowKit

def bls (l : List Bool) : List Value := l.map Value.bool
abbrev hbV (p d c : Int) (A : Option Addr) (n k : Nat) : Value := .agg #[.int .u8 p, .int .u8 d, .int .u8 c, .slice A n k]
/-- The bits of the first k ports. -/
def fbk (l : List Bool) : Nat → Int
  | 0 => 0
  | k + 1 => fbk l k + if l.getD k false then 2 ^ (k + 1) else 0
theorem fbk_bd (l : List Bool) (k : Nat) : 0 ≤ fbk l k ∧ fbk l k ≤ 2 ^ (k + 1) - 2 := by
  induction k with
  | zero => simp [fbk]
  | succ k ih =>
    have e : (2 : Int) ^ (k + 1 + 1) = 2 * 2 ^ (k + 1) := by rw [Int.pow_succ]; omega
    have hp : (0 : Int) < 2 ^ (k + 1) := Int.pow_pos (by omega)
    unfold fbk
    split <;> omega
def hbB (p : Int) (n : Nat) : Bool := decide (1 ≤ p ∧ p ≤ 7 ∧ (n : Int) = p)
def hbL (p d c : Int) (l : List Bool) : List Int := if hbB p l.length then [9, 41, p, 9, 0, d, c, fbk l l.length, 255] else []
theorem hb_no {p d c : Int} {l : List Bool} (h : ¬ (1 ≤ p ∧ p ≤ 7 ∧ (l.length : Int) = p)) : hbL p d c l = [] := by unfold hbL; rw [if_neg (by unfold hbB; simpa using h)]
theorem hb_yes {p d c : Int} {l : List Bool} (h : 1 ≤ p ∧ p ≤ 7 ∧ (l.length : Int) = p) : hbL p d c l = [9, 41, p, 9, 0, d, c, fbk l l.length, 255] := by unfold hbL; rw [if_pos (by unfold hbB; simpa using h)]

theorem orPow (k : Nat) (a : Int) (hk : k < 7) (h0 : 0 ≤ a) (h1 : a ≤ 2 ^ (k + 1) - 2) : bits BinOp.or IntKind.u8 a (2 ^ (k + 1)) = a + 2 ^ (k + 1) := by
  have key : ∀ k : Fin 7, ∀ a : Fin 128, (a.val : Int) ≤ 2 ^ (k.val + 1) - 2 → bits BinOp.or IntKind.u8 (a.val : Int) (2 ^ (k.val + 1)) = a.val + 2 ^ (k.val + 1) := by decide +kernel
  obtain ⟨n, rfl⟩ := Int.eq_ofNat_of_zero_le h0
  have hb : ((2 : Int) ^ (k + 1)) ≤ 128 := by
    have : ∀ k : Fin 7, ((2 : Int) ^ (k.val + 1)) ≤ 128 := by decide
    exact this ⟨k, hk⟩
  exact key ⟨k, hk⟩ ⟨n, by omega⟩ h1

set_option maxHeartbeats 1000000 in
set_option maxRecDepth 100000 in
theorem encHb_any (p d c : Int) (A : Option Addr) (n q : Nat) (l : List Bool) (w : World) (hp : U8 p) (hn : l.length = n) (hr : Rd w w.heap.size A (bls l)) (hm : n ≤ 9223372036854775807) :
    Calls Try.prog 27 #[hbV p d c A n q] w (EncPost (hbL p d c l) w) := by
  obtain ⟨hp0, hp1⟩ := hp
  have HN := Lib.hid hn
  clear hn
  by_cases hv : 1 ≤ p ∧ p ≤ 7 ∧ (n : Int) = p
  · obtain ⟨h1, h2, h3⟩ := hv
    have HE := Lib.hid (hb_yes (p := p) (d := d) (c := c) (l := l) ⟨h1, h2, by rw [HN.out]; exact h3⟩)
    have hle : (n : Int) ≤ 7 := by omega
    obtain rfl : p = n := h3.symm
    clear h3
    go_enter Try.func27, Try.ntmps27
    go_wp2_with fail
    go_loop [4, 27] (fun f i => ∃ k : Nat, k ≤ n ∧ i = .int .i64 k ∧ f = .int .u8 (fbk l k)) (fun _ i => n - (intOf i).toNat)
    case atStart => exact ⟨0, Nat.zero_le _, rfl, rfl⟩
    case round =>
      obtain ⟨k, hk, rfl, rfl⟩ := hrel
      by_cases hlt : k < n
      · obtain ⟨gb, off, rfl, hgb, hcell⟩ := hr.at_ (k := k) (by simp [bls, HN.out]; exact hlt)
        have hcc : (w.alloc (.cells #[.int .u8 n, .int .u8 d, .int .u8 c, .slice (some ⟨gb, off, none⟩) n q] 66)).cell? ⟨gb, off + k, none⟩ = some (.bool (l.getD k false)) := by
          rw [World.cell?_alloc_past _ _ _ hgb, hcell]
          simp [bls, List.getD, show k < l.length by rw [HN.out]; exact hlt]
        have hb := fbk_bd l k
        have HS := Lib.hid (show fbk l (k + 1) = fbk l k + if l.getD k false then 2 ^ (k + 1) else 0 from rfl)
        obtain ⟨b, hbe⟩ : ∃ b, b = l.getD k false := ⟨_, rfl⟩
        rw [← hbe] at hcc
        have HBE := Lib.hid hbe
        clear hbe hcell hr
        cases b
        all_goals
          go_wp2_with fail
          go_round
          case measure => simp [intOf]; omega
          case rel =>
            refine ⟨k + 1, by omega, by go_num, congrArg (Value.int IntKind.u8) ?_⟩
            rw [HS.out, ← HBE.out]
            first
              | (simp; done)
              | (rw [show (2 * 2 ^ k % 256 : Int) = 2 ^ (k + 1) from by
                   have : ∀ k : Fin 7, (2 * 2 ^ k.val % 256 : Int) = 2 ^ (k.val + 1) := by decide
                   exact this ⟨k, by omega⟩, orPow k _ (by omega) hb.1 hb.2]
                 simp)
      · obtain rfl : k = n := by omega
        go_wp2_with (go_at_call 41; refine (join_any _ [(k : Int), 9, 0, d, c, fbk l k, 255] _ 7 _ rfl (by omega) _ ?_).mono ?_; (exact heap_new (by simp)); rintro e' w1 ⟨v, rfl, ⟨g, rfl, hn, hg⟩, hb1⟩)
        go_ret2
        exact encPost_yes HE.out rfl (by simp) rfl (by rw [HN.out]; simpa using hg) (((Below.refl _ _).alloc (Nat.le_refl _) _).trans (((Below.refl _ _).alloc (by simp) _).trans (hb1.mono (by simp; omega))))
  · have HE := Lib.hid (hb_no (p := p) (d := d) (c := c) (l := l) (by rw [HN.out]; exact hv))
    have hv' : p < 1 ∨ 7 < p ∨ (1 ≤ p ∧ p ≤ 7 ∧ ((n : Int) == p) = false) := by
      by_cases a : p < 1
      · exact .inl a
      · by_cases b : 7 < p
        · exact .inr (.inl b)
        · exact .inr (.inr ⟨by omega, by omega, by simp; omega⟩)
    clear hv
    rcases hv' with hv | hv | ⟨hv1, hv2, hv3⟩
    all_goals
      go_enter Try.func27, Try.ntmps27
      go_wp2_with fail
      all_goals first
        | (go_ret2; exact encPost_no HE.out ((Below.refl _ _).alloc (Nat.le_refl _) _))
        | (exfalso; omega)
        | go_ways

end Go.Proofs.Ytojifdijcanbpaa
