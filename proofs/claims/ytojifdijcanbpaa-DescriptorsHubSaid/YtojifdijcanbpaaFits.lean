/- The walks of FitsZero, valid, Address, address, two, and endpoint: what each returns, for every argument. -/
import Derived.Test.YtojifdijcanbpaaCommon
namespace Go.Proofs.Ytojifdijcanbpaa
open Go.RowKit

def fzB (m s : Int) : Bool := decide ((s = 0 ∧ m = 8) ∨ (s = 1 ∧ (m = 8 ∨ m = 16 ∨ m = 32 ∨ m = 64)) ∨ (s = 2 ∧ m = 64))

set_option maxHeartbeats 400000 in
theorem fitsZero_any (m s : Int) (w : World) (hs : 0 ≤ s ∧ s ≤ 255) :
    Calls Try.prog 15 #[.int .i64 m, .int .u8 s] w fun e w' => e = .returned (.bool (fzB m s)) ∧ w = w' := by
  obtain ⟨hs0, hs1⟩ := hs
  go_enter Try.func15, Try.ntmps15
  go_wp2
  all_goals go_ret
  all_goals refine ⟨ret_bool ?_, rfl⟩
  all_goals try simp only [beq_iff_eq, beq_eq_false_iff_ne, ne_eq] at *
  all_goals rw [Bool.eq_iff_iff]
  all_goals simp only [fzB, decide_eq_true_eq, beq_iff_eq, true_iff, false_iff, Bool.false_eq_true]
  all_goals omega

def validB (n k m i : Int) : Bool := decide (1 ≤ n ∧ n ≤ 15 ∧ 1 ≤ m ∧ m ≤ 1024 ∧ ((k = 2 ∧ i = 0) ∨ (k = 1 ∧ 1 ≤ i ∧ i ≤ 16) ∨ (k = 3 ∧ 1 ≤ i)))

abbrev epV (n : Int) (b : Bool) (k m i : Int) : Value := .agg #[.int .u8 n, .bool b, .int .u8 k, .int .u16 m, .int .u8 i]
def IsEp (n k m i : Int) : Prop := (0 ≤ n ∧ n ≤ 255) ∧ (0 ≤ k ∧ k ≤ 255) ∧ (0 ≤ m ∧ m ≤ 65535) ∧ 0 ≤ i ∧ i ≤ 255

set_option maxHeartbeats 1000000 in
theorem valid_any (n : Int) (b : Bool) (k m i : Int) (w : World) (he : IsEp n k m i) :
    Calls Try.prog 39 #[epV n b k m i] w fun e w' => e = .returned (.bool (validB n k m i)) ∧ Below w.heap.size w w' := by
  obtain ⟨⟨hn0, hn1⟩, ⟨hk0, hk1⟩, ⟨hm0, hm1⟩, hi0, hi1⟩ := he
  go_enter Try.func39, Try.ntmps39
  go_wp2
  all_goals go_ret
  all_goals refine ⟨ret_bool ?_, by repeat (first | exact Below.refl _ _ | apply Below.drew | refine Below.alloc ?_ (by simp) _)⟩
  all_goals try simp only [beq_iff_eq, beq_eq_false_iff_ne, ne_eq] at *
  all_goals rw [Bool.eq_iff_iff]
  all_goals simp only [validB, decide_eq_true_eq, beq_iff_eq, false_iff, Bool.false_eq_true]
  all_goals omega

def adr (n : Int) (b : Bool) : Int := n % 16 + if b then 128 else 0
theorem or128 (n : Int) (h0 : 0 ≤ n) (h1 : n ≤ 127) : bits BinOp.or IntKind.u8 n 128 = n + 128 := by
  obtain ⟨k, rfl⟩ := Int.eq_ofNat_of_zero_le h0
  have hk : k < 128 := by omega
  have : ∀ k : Fin 128, bits BinOp.or IntKind.u8 (k.val : Int) 128 = (k.val : Int) + 128 := by decide +kernel
  exact this ⟨k, hk⟩

set_option maxHeartbeats 1000000 in
theorem Address_any (n : Int) (b : Bool) (k m i : Int) (w : World) (he : IsEp n k m i) :
    Calls Try.prog 24 #[epV n b k m i] w fun e w' => e = .returned (.int .u8 (adr n b)) ∧ Below w.heap.size w w' := by
  obtain ⟨⟨hn0, hn1⟩, ⟨hk0, hk1⟩, ⟨hm0, hm1⟩, hi0, hi1⟩ := he
  cases b
  all_goals
    go_enter Try.func24, Try.ntmps24
    go_wp2
    go_ret
    refine ⟨ret_int ?_, by repeat (first | exact Below.refl _ _ | apply Below.drew | refine Below.alloc ?_ (by simp) _)⟩
  all_goals simp only [adr]
  all_goals first | (simp; done) | exact or128 _ (by omega) (by omega)

set_option maxHeartbeats 1000000 in
theorem address_any (n : Int) (b : Bool) (k m i : Int) (w : World) (he : IsEp n k m i) :
    Calls Try.prog 25 #[epV n b k m i] w fun e w' => e = .returned (.int .u8 (adr n b)) ∧ Below w.heap.size w w' := by
  obtain ⟨⟨hn0, hn1⟩, ⟨hk0, hk1⟩, ⟨hm0, hm1⟩, hi0, hi1⟩ := he
  cases b
  all_goals
    go_enter Try.func25, Try.ntmps25
    go_wp2
    go_ret
    refine ⟨ret_int ?_, by repeat (first | exact Below.refl _ _ | apply Below.drew | refine Below.alloc ?_ (by simp) _)⟩
  all_goals simp [adr]

set_option maxHeartbeats 1000000 in
set_option maxRecDepth 100000 in
theorem two_any (n : Int) (w : World) (h0 : 0 ≤ n) (h1 : n ≤ 65535) :
    Calls Try.prog 38 #[.int .u16 n] w fun e w' => e = .returned (.string (strOfNums [n % 256, n / 256])) ∧ Below w.heap.size w w' := by
  obtain ⟨n, rfl⟩ := Int.eq_ofNat_of_zero_le h0
  have hs := run_str_lit (P := Try.prog) w 23 9 5 Try.underlying23 Try.underlying5 Try.underlying9 2 2 w.heap.size #[.int .u8 ((n : Int) % 256), .int .u8 ((n : Int) / 256)] [(n : Int) % 256, (n : Int) / 256] rfl rfl rfl
  go_enter Try.func38, Try.ntmps38
  go_wp2
  go_ret
  exact ⟨rfl, (Below.refl _ _).alloc (by simp) _⟩

def epL (n : Int) (b : Bool) (k m i : Int) : List Int := if validB n k m i then [7, 5, adr n b, k, m % 256, m / 256, i] else []

end Go.Proofs.Ytojifdijcanbpaa
