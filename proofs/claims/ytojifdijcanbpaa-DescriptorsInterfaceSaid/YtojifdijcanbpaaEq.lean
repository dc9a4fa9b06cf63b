/- The walks of slices.Equal at bytes, of two, of good and of refused. -/
import Derived.Test.YtojifdijcanbpaaEncEp
import Derived.Lib.EndianBits
set_option linter.unusedSimpArgs false
set_option linter.unusedVariables false
namespace Go.Proofs.Ytojifdijcanbpaa
open Go.RowKit

def eqB (a b : List Int) : Bool := decide (a = b)
theorem take_eq_succ {a b : List Int} {k : Nat} (hl : a.length = b.length) (hk : k < a.length) (h : a.take k = b.take k) (he : a.getD k 0 = b.getD k 0) : a.take (k + 1) = b.take (k + 1) := by
  rw [List.take_add_one, List.take_add_one, h]
  have h1 : a[k]? = some (a.getD k 0) := by simp [List.getD, hk]
  have h2 : b[k]? = some (b.getD k 0) := by simp [List.getD, show k < b.length by omega]
  rw [h1, h2, he]

theorem bel_drewN (B : Nat) (w : World) (n : Nat) : Below B w (w.drewN n) := ⟨rfl, rfl, rfl, Nat.le_refl _, fun _ _ => rfl⟩

def EqPost (r : Bool) (w : World) (e : Ending) (w' : World) : Prop := e = .returned (.bool r) ∧ Below w.heap.size w w'
theorem u8_at {w : World} {B : Nat} {A : Option Addr} {l : List Int} (h : Rd w B A (u8s l)) {k : Nat} (hk : k < l.length) : ∃ b off, A = some ⟨b, off, none⟩ ∧ b < B ∧ w.cell? ⟨b, off + k, none⟩ = some (.int .u8 (l.getD k 0)) := by
  obtain ⟨b, off, rfl, hb, hc⟩ := h.at_ (k := k) (by simpa using hk)
  exact ⟨b, off, rfl, hb, by rw [hc]; simp [u8s, List.getD, hk]⟩

set_option maxHeartbeats 1000000 in
set_option maxRecDepth 100000 in
theorem equal_any (A B : Option Addr) (n c m d : Nat) (a b : List Int) (w : World) (ha : a.length = n) (hb : b.length = m) (hra : Rd w w.heap.size A (u8s a)) (hrb : Rd w w.heap.size B (u8s b)) (hn : n ≤ 1000000) (hm : m ≤ 1000000) :
    Calls Try.prog 55 #[.slice A n c, .slice B m d] w (EqPost (eqB a b) w) := by
  have HA := Lib.hid ha
  have HB := Lib.hid hb
  clear ha hb
  by_cases hnm : n = m
  · subst hnm
    go_enter Try.func55, Try.ntmps55
    go_wp2_with fail
    go_loopw [13] (fun i wr => ∃ k : Nat, k ≤ n ∧ i = .int .i64 k ∧ Below w.heap.size w wr ∧ Hid (a.take k = b.take k)) (fun i _ => n - (intOf i).toNat)
    case atStart => exact ⟨0, Nat.zero_le _, rfl, Below.refl _ _, Lib.hid (by simp)⟩
    case round =>
      obtain ⟨k, hk, rfl, hbel, Hk⟩ := hrel
      by_cases hlt : k < n
      · obtain ⟨g1, o1, rfl, _, hc1⟩ := u8_at (hra.below hbel) (k := k) (by rw [HA.out]; exact hlt)
        obtain ⟨g2, o2, rfl, _, hc2⟩ := u8_at (hrb.below hbel) (k := k) (by rw [HB.out]; exact hlt)
        obtain ⟨x, hx⟩ : ∃ x, x = a.getD k 0 := ⟨_, rfl⟩
        obtain ⟨y, hy⟩ : ∃ y, y = b.getD k 0 := ⟨_, rfl⟩
        rw [← hx] at hc1
        rw [← hy] at hc2
        have HX := Lib.hid hx
        have HY := Lib.hid hy
        have Hbel := Lib.hid hbel
        have i1 : (0 : Int) ≤ (k : Int) := by omega
        have i2 : (k : Int) < (n : Int) := by omega
        clear hx hy hra hrb hbel
        by_cases hxy : x = y
        · have hne : (x != y) = false := by simp [hxy]
          have HXY := Lib.hid hxy
          clear hxy
          go_wp2_with fail
          go_quiet (fail)
          go_wp2_with fail
          go_roundw
          case rel => exact ⟨k + 1, by omega, by go_num, Hbel.out.trans (bel_drewN _ _ _), Lib.hid (take_eq_succ (by rw [HA.out, HB.out]) (by rw [HA.out]; exact hlt) Hk.out (by rw [← HX.out, ← HY.out, HXY.out]))⟩
          case measure => simp [intOf]; omega
        · have hne : (x != y) = true := by simp [hxy]
          have hab : eqB a b = false := by
            simp only [eqB, decide_eq_false_iff_not]
            intro h
            apply hxy
            rw [HX.out, HY.out, h]
          have Hab := Lib.hid hab
          clear hxy hab
          go_wp2_with fail
          go_quiet (fail)
          go_wp2_with fail
          go_ret
          exact ⟨ret_bool Hab.out.symm, Hbel.out.trans (bel_drewN _ _ _)⟩
      · obtain rfl : k = n := by omega
        have hab : eqB a b = true := by
          have h := Hk.out
          rw [List.take_of_length_le (by rw [HA.out]; omega), List.take_of_length_le (by rw [HB.out]; omega)] at h
          simp [eqB, h]
        have Hab := Lib.hid hab
        clear hab
        go_wp2_with fail
        go_ret
        exact ⟨ret_bool Hab.out.symm, hbel⟩
  · have hab : eqB a b = false := by
      simp only [eqB, decide_eq_false_iff_not]
      intro h
      apply hnm
      rw [← HA.out, ← HB.out, h]
    have Hab := Lib.hid hab
    have hne : ((n : Int) != (m : Int)) = true := by simp; omega
    clear hab hnm
    go_enter Try.func55, Try.ntmps55
    go_wp2_with fail
    go_ret
    exact ⟨ret_bool Hab.out.symm, Below.refl _ _⟩

theorem or16 (a b : Int) (ha : U8 a) (hb : U8 b) : bits BinOp.or IntKind.u16 a (b * 256) = a + 256 * b := by
  obtain ⟨_, _⟩ := ha
  obtain ⟨_, _⟩ := hb
  have h := u16_or8 (x := b * 256) (y := a) (by omega) (by omega) (by omega) (by omega) (by omega)
  rw [h]
  omega

set_option maxHeartbeats 1000000 in
set_option maxRecDepth 100000 in
theorem two2_any (g off n c k : Nat) (x y : Int) (w : World) (hc1 : w.cell? ⟨g, off + k, none⟩ = some (.int .u8 x)) (hc2 : w.cell? ⟨g, off + (k + 1), none⟩ = some (.int .u8 y)) (hk : k + 1 < n) (hn : n ≤ 1000000) (hx : U8 x) (hy : U8 y) :
    Calls Try.prog 46 #[.slice (some ⟨g, off, none⟩) n c, .int .i64 k] w fun e w' => e = .returned (.int .u16 (x + 256 * y)) ∧ ∃ nq, w' = w.drewN nq := by
  have Hx := Lib.hid hx
  have Hy := Lib.hid hy
  obtain ⟨hx0, hx1⟩ := hx
  obtain ⟨hy0, hy1⟩ := hy
  have i1 : (0 : Int) ≤ (k : Int) := by omega
  have i2 : (k : Int) < (n : Int) := by omega
  have i3 : (0 : Int) ≤ (k : Int) + 1 := by omega
  have i4 : (k : Int) + 1 < (n : Int) := by omega
  have i5 : IntKind.i64.wrap ((k : Int) + 1) = (k : Int) + 1 := IntWalk.i64_in _ (by omega)
  have i6 : ((k : Int) + 1).toNat = k + 1 := by omega
  go_enter Try.func46, Try.ntmps46
  go_wp2_with fail
  go_quiet (fail)
  go_wp2_with fail
  go_ret
  refine ⟨ret_int ?_, _, rfl⟩
  exact or16 _ _ Hx.out Hy.out
end Go.Proofs.Ytojifdijcanbpaa
