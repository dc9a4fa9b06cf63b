/- What the plain words compute on small numbers. Plain theorems, no condition. -/
import Derived.Test.YtfelbalkobcfhaaXE12
set_option linter.unusedVariables false
set_option linter.unusedSimpArgs false
namespace Go.Proofs.Ytfelbalkobcfhaa
open Go.RowKit
@[simp] theorem inR_u8 {x:Int}:InR .u8 x ↔ 0 ≤ x ∧ x ≤ 255:=by simp [InR,IntKind.min,IntKind.max,IntKind.signed,IntKind.bits]
@[simp] theorem inR_u16 {x:Int}:InR .u16 x ↔ 0 ≤ x ∧ x ≤ 65535:=by simp [InR,IntKind.min,IntKind.max,IntKind.signed,IntKind.bits]
@[simp] theorem inR_u32 {x:Int}:InR .u32 x ↔ 0 ≤ x ∧ x ≤ 4294967295:=by simp [InR,IntKind.min,IntKind.max,IntKind.signed,IntKind.bits]
@[simp] theorem inR_u64 {x:Int}:InR .u64 x ↔ 0 ≤ x ∧ x ≤ 18446744073709551615:=by simp [InR,IntKind.min,IntKind.max,IntKind.signed,IntKind.bits]
@[simp] theorem inR_i64 {x:Int}:InR .i64 x ↔ -9223372036854775808 ≤ x ∧ x ≤ 9223372036854775807:=by simp [InR,IntKind.min,IntKind.max,IntKind.signed,IntKind.bits]
@[simp] theorem inR_i32 {x:Int}:InR .i32 x ↔ -2147483648 ≤ x ∧ x ≤ 2147483647:=by simp [InR,IntKind.min,IntKind.max,IntKind.signed,IntKind.bits]
theorem ckI_ok {k:IntKind} {z:Int} (h:InR k z):ckI k z = some z:=if_pos h
theorem ck_i64 {z:Int} (h:-9223372036854775808 ≤ z ∧ z ≤ 9223372036854775807):ckI .i64 z = some z:=ckI_ok (inR_i64.2 h)
theorem wrap_u16 (x:Int):IntKind.wrap .u16 x = x % 65536:=by simp [IntKind.wrap,IntKind.bits,IntKind.signed]
theorem remI_ok {k:IntKind} {x y:Int} (h:0 ≤ x) (hy:0 < y) (hk:InR k (x % y)):c_L k x y = some (x % y):=by
  unfold c_L
  rw [if_neg (by omega),Int.tmod_eq_emod_of_nonneg h,ckI_ok hk]
theorem quoI_ok {k:IntKind} {x y:Int} (h:0 ≤ x) (hy:0 < y) (hk:InR k (x / y)):e_R k x y = some (x / y):=by
  unfold e_R
  rw [if_neg (by omega),Int.tdiv_eq_ediv_of_nonneg h,ckI_ok hk]
theorem andS {b c:Bool}:(if b = true then some c else some false) = some (b && c):=by cases b <;> rfl
theorem orS {b c:Bool}:(if b = false then some c else some true) = some (b || c):=by cases b <;> rfl
theorem d_d {α:Type} (xs:List α) (n:Nat):idx xs (n:Int) = xs[n]?:=by
  unfold idx
  rw [if_pos (by omega)]
  simp
theorem b_U {α:Type} {xs ys:List α} (h:xs.length + ys.length ≤ 1099511627776):e_0 xs ys = some (xs ++ ys):=if_pos h
end Go.Proofs.Ytfelbalkobcfhaa
