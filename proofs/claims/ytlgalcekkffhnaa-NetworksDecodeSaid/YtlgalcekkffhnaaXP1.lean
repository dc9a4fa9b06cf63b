/- What the plain words compute on small numbers. Plain theorems, no condition. -/
import Derived.Test.YtlgalcekkffhnaaXE12
set_option linter.unusedVariables false
set_option linter.unusedSimpArgs false
namespace Go.Proofs.Ytlgalcekkffhnaa
open Go.RowKit

@[simp] theorem inR_u8 {x : Int} : InR .u8 x ↔ 0 ≤ x ∧ x ≤ 255 := by simp [InR, IntKind.min, IntKind.max, IntKind.signed, IntKind.bits]
@[simp] theorem inR_u16 {x : Int} : InR .u16 x ↔ 0 ≤ x ∧ x ≤ 65535 := by simp [InR, IntKind.min, IntKind.max, IntKind.signed, IntKind.bits]
@[simp] theorem inR_u32 {x : Int} : InR .u32 x ↔ 0 ≤ x ∧ x ≤ 4294967295 := by simp [InR, IntKind.min, IntKind.max, IntKind.signed, IntKind.bits]
@[simp] theorem inR_u64 {x : Int} : InR .u64 x ↔ 0 ≤ x ∧ x ≤ 18446744073709551615 := by simp [InR, IntKind.min, IntKind.max, IntKind.signed, IntKind.bits]
@[simp] theorem inR_i64 {x : Int} : InR .i64 x ↔ -9223372036854775808 ≤ x ∧ x ≤ 9223372036854775807 := by simp [InR, IntKind.min, IntKind.max, IntKind.signed, IntKind.bits]
@[simp] theorem inR_i32 {x : Int} : InR .i32 x ↔ -2147483648 ≤ x ∧ x ≤ 2147483647 := by simp [InR, IntKind.min, IntKind.max, IntKind.signed, IntKind.bits]
theorem ckI_ok {k : IntKind} {z : Int} (h : InR k z) : ckI k z = some z := if_pos h
theorem ck_i64 {z : Int} (h : -9223372036854775808 ≤ z ∧ z ≤ 9223372036854775807) : ckI .i64 z = some z := ckI_ok (inR_i64.2 h)
theorem wrap_u8 (x : Int) : IntKind.wrap .u8 x = x % 256 := by simp [IntKind.wrap, IntKind.bits, IntKind.signed]
theorem wrap_u16 (x : Int) : IntKind.wrap .u16 x = x % 65536 := by simp [IntKind.wrap, IntKind.bits, IntKind.signed]
theorem wrap_u32 (x : Int) : IntKind.wrap .u32 x = x % 4294967296 := by simp [IntKind.wrap, IntKind.bits, IntKind.signed]
theorem wrap_u64 (x : Int) : IntKind.wrap .u64 x = x % 18446744073709551616 := by simp [IntKind.wrap, IntKind.bits, IntKind.signed]
theorem shrI_8 {x : Int} {k : IntKind} (hk : 8 ≤ k.bits) (h : 0 ≤ x) : shrI x 8 k = some (x / 256) := by
  have : min (8 : Int).toNat k.bits = 8 := by show min 8 k.bits = 8; omega
  unfold shrI
  rw [if_pos (by decide), this]
  congr 1
  exact Int.fdiv_eq_ediv_of_nonneg x (by decide)
theorem remI_ok {k : IntKind} {x y : Int} (h : 0 ≤ x) (hy : 0 < y) (hk : InR k (x % y)) : remI k x y = some (x % y) := by
  unfold remI
  rw [if_neg (by omega), Int.tmod_eq_emod_of_nonneg h, ckI_ok hk]
theorem quoI_ok {k : IntKind} {x y : Int} (h : 0 ≤ x) (hy : 0 < y) (hk : InR k (x / y)) : quoI k x y = some (x / y) := by
  unfold quoI
  rw [if_neg (by omega), Int.tdiv_eq_ediv_of_nonneg h, ckI_ok hk]
theorem andS {b c : Bool} : (if b = true then some c else some false) = some (b && c) := by cases b <;> rfl
theorem orS {b c : Bool} : (if b = false then some c else some true) = some (b || c) := by cases b <;> rfl
theorem or_u8 {x y : Int} (hx : 0 ≤ x ∧ x ≤ 255) (hy : 0 ≤ y ∧ y ≤ 255) : bitsI .or .u8 x y = ((x.toNat ||| y.toNat : Nat) : Int) := by
  obtain ⟨a, rfl⟩ := Int.eq_ofNat_of_zero_le hx.1
  obtain ⟨b, rfl⟩ := Int.eq_ofNat_of_zero_le hy.1
  have h : a ||| b < 2 ^ 8 := Nat.or_lt_two_pow (by omega) (by omega)
  show IntKind.wrap .u8 ((BitVec.ofInt 8 (a : Int) ||| BitVec.ofInt 8 (b : Int)).toNat : Int) = _
  simp only [BitVec.toNat_or, BitVec.ofInt_natCast, BitVec.toNat_ofNat, wrap_u8, Int.toNat_natCast]
  rw [Nat.mod_eq_of_lt (by omega : a < 2 ^ 8), Nat.mod_eq_of_lt (by omega : b < 2 ^ 8)]
  omega
theorem or16I {a b : Int} (ha : 0 ≤ a ∧ a ≤ 255) (hb : 0 ≤ b ∧ b ≤ 255) : bitsI .or .u16 a (b * 256) = a + 256 * b := by
  obtain ⟨m, rfl⟩ := Int.eq_ofNat_of_zero_le ha.1
  obtain ⟨n, rfl⟩ := Int.eq_ofNat_of_zero_le hb.1
  have h1 : m < 2 ^ 8 := by omega
  have e : ((n : Int) * 256) = ((n * 256 : Nat) : Int) := by simp
  rw [e]
  show IntKind.wrap .u16 ((BitVec.ofInt 16 (m : Int) ||| BitVec.ofInt 16 ((n * 256 : Nat) : Int)).toNat : Int) = _
  simp only [BitVec.toNat_or, BitVec.ofInt_natCast, BitVec.toNat_ofNat, wrap_u16]
  rw [Nat.mod_eq_of_lt (by omega : m < 2 ^ 16), Nat.mod_eq_of_lt (by omega : n * 256 < 2 ^ 16), Nat.or_comm, show n * 256 = n <<< 8 by rw [Nat.shiftLeft_eq], ← Nat.shiftLeft_add_eq_or_of_lt h1, Nat.shiftLeft_eq]
  omega
theorem shl_8 {b : Int} (hb : 0 ≤ b ∧ b ≤ 255) : shlI .u16 b 8 = some (b * 256) := by
  unfold shlI
  rw [if_pos (by decide)]
  simp only [IntKind.bits, wrap_u16]
  congr 1
  show b * 2 ^ 8 % 65536 = b * 256
  omega
theorem idx_ok {α : Type} {xs : List α} {n : Nat} {x : α} (h : xs[n]? = some x) : idx xs (n : Int) = some x := by
  unfold idx
  rw [if_pos (by omega)]
  simpa using h
theorem idx_nat {α : Type} (xs : List α) (n : Nat) : idx xs (n : Int) = xs[n]? := by
  unfold idx
  rw [if_pos (by omega)]
  simp
theorem idx_lit {α : Type} (xs : List α) (n : Nat) : idx xs (OfNat.ofNat n : Int) = xs[n]? := idx_nat xs n
theorem appI_ok {α : Type} {xs ys : List α} (h : xs.length + ys.length ≤ 1099511627776) : appI xs ys = some (xs ++ ys) := if_pos h
theorem catS_ok' {a b : List Int} (h : a.length + b.length ≤ 9223372036854775807) : catS a b = some (a ++ b) := by
  unfold catS
  rw [if_pos (by omega)]
theorem catS_le {a b : List Int} (h : a.length + b.length ≤ 1000) : catS a b = some (a ++ b) := catS_ok' (by omega)
theorem mkI_ok {m c : Int} (h0 : 0 ≤ m) (h1 : m ≤ c) (h2 : c ≤ 1099511627776) : mkI m c = some (m.toNat, c.toNat) := if_pos ⟨h0, h1, h2⟩
end Go.Proofs.Ytlgalcekkffhnaa
