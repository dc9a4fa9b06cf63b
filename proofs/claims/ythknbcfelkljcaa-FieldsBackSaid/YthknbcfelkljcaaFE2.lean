/- Fields in plain words: the values that are chosen. Plain theorems, no condition. -/
import Derived.Test.YthknbcfelkljcaaPb3
import Derived.Test.YthknbcfelkljcaaFE1
set_option linter.unusedVariables false
set_option linter.unusedSimpArgs false
namespace Go.Proofs.Ythknbcfelkljcaa
open Go.RowKit
abbrev V4 := Int × Int × Int × Int
def okF (k r : Int) (f : Fd) : Bool := mt k r f && !fCo f
def pkN (f : Fd) (c : Int) : Int := if fAr f = true then fLo f + (if fLo f + c % ((fU f).xs.length : Int) > fHi f then 0 else c % ((fU f).xs.length : Int)) else fLo f + (c * 257) % (fHi f - fLo f + 1)
def pk (f : Fd) (c : Int) : Option Int := if c % 3 = 0 then .none else some (pkN f c)
def ch (x : Sl Int) (q : Nat) : Int := if 0 < x.xs.length then byt x.xs (q % x.xs.length) else 0
theorem ch_rng {x : Sl Int} (h : Byts x.xs) (q : Nat) : 0 ≤ ch x q ∧ ch x q ≤ 255 := by
  unfold ch
  split
  · exact h.rng _
  · omega
theorem rem64 {a b : Int} (h0 : 0 ≤ a) (h1 : a ≤ 1000000) (hb : 0 < b) : b_J .i64 a b = some (a % b) := by
  have h2 := Int.emod_nonneg a (show b ≠ 0 by omega)
  have h3 : a % b ≤ a := by
    obtain ⟨x, rfl⟩ := Int.eq_ofNat_of_zero_le h0
    obtain ⟨y, rfl⟩ := Int.eq_ofNat_of_zero_le (show 0 ≤ b by omega)
    have := Nat.mod_le x y
    rw [← Int.natCast_emod]; omega
  exact b_O h0 hb (by unfold InR; simp only [IntKind.min, IntKind.max, IntKind.signed, IntKind.bits]; simp; omega)
theorem pick_ok {f : Fd} (hB : FB f) (hco : fCo f = false) {c : Int} (h0 : 0 ≤ c) (h1 : c ≤ 255) (i j : Nat) : fLo f ≤ pkN f c ∧ pkN f c ≤ fHi f ∧ ∃ u V, hld f j (pkN f c) = some (u, V) ∧ ∀ {β : Type} (K : V4 → Option β),
    (((ckI .i64 ((a_h f.2.2.2.1) - 1)).bind fun x_172 => (idx f.2.2.2.1.xs (if x_172 < (j : Int) then x_172 else (j : Int))).bind fun y_173 => (ckI .i64 (c * 257)).bind fun x_181 => (ckI .i64 (f.2.2.2.2.2.1 - f.2.2.2.2.1)).bind fun x_186 => (ckI .i64 (x_186 + 1)).bind fun x_187 => (b_J .i64 x_181 x_187).bind fun x_188 => (ckI .i64 (f.2.2.2.2.1 + x_188)).bind fun x_189 => some ((i : Int), (j : Int), y_173, x_189)).bind fun (j_1 : V4) => (if f.2.2.2.2.2.2.2.2.2.2.1 = true then ((b_J .i64 c (a_h f.2.2.2.1)).bind fun x_360 => (ckI .i64 (f.2.2.2.2.1 + x_360)).bind fun x_363 => (if (decide (x_363 > f.2.2.2.2.2.1)) = true then (some 0) else some x_360).bind fun (j_366 : (Int)) => (idx f.2.2.2.1.xs j_366).bind fun y_371 => some (j_1.1, j_1.2.1, y_371, (1 : Int))) else some j_1).bind K) = K ((i : Int), (j : Int), u, V) := by
  have hR := hB.R
  have hU := hB.U
  have hR' : -32768 ≤ f.2.2.2.2.1 ∧ f.2.2.2.2.1 ≤ f.2.2.2.2.2.1 ∧ f.2.2.2.2.2.1 ≤ 98302 := hR
  have hU' : 1 ≤ f.2.2.2.1.xs.length ∧ f.2.2.2.1.xs.length ≤ 6 := hU
  have m1 := Int.emod_nonneg (c * 257) (show f.2.2.2.2.2.1 - f.2.2.2.2.1 + 1 ≠ 0 by omega)
  have m2 := Int.emod_lt_of_pos (c * 257) (show 0 < f.2.2.2.2.2.1 - f.2.2.2.2.1 + 1 by omega)
  have m3 := Int.emod_nonneg c (show ((f.2.2.2.1.xs.length : Nat) : Int) ≠ 0 by omega)
  have m4 := Int.emod_lt_of_pos c (show 0 < ((f.2.2.2.1.xs.length : Nat) : Int) by omega)
  have eix : ∃ u0, idx f.2.2.2.1.xs (if ((f.2.2.2.1.xs.length : Nat) : Int) - 1 < (j : Int) then ((f.2.2.2.1.xs.length : Nat) : Int) - 1 else (j : Int)) = some u0 ∧ f.2.2.2.1.xs[min j (f.2.2.2.1.xs.length - 1)]? = some u0 := by
    have hm : min j (f.2.2.2.1.xs.length - 1) < f.2.2.2.1.xs.length := by omega
    refine ⟨_, ?_, List.getElem?_eq_getElem hm⟩
    rw [show (if ((f.2.2.2.1.xs.length : Nat) : Int) - 1 < (j : Int) then ((f.2.2.2.1.xs.length : Nat) : Int) - 1 else (j : Int)) = ((min j (f.2.2.2.1.xs.length - 1) : Nat) : Int) by split <;> omega]
    exact c_H hm
  obtain ⟨u0, eix, eu0⟩ := eix
  have hco' : ¬ (fCo f = true ∨ pkN f c < fLo f ∨ pkN f c > fHi f) → True := fun _ => trivial
  have hrng : fLo f ≤ pkN f c ∧ pkN f c ≤ fHi f := by
    unfold pkN
    show f.2.2.2.2.1 ≤ (if f.2.2.2.2.2.2.2.2.2.2.1 = true then f.2.2.2.2.1 + (if f.2.2.2.2.1 + c % ((f.2.2.2.1.xs.length : Nat) : Int) > f.2.2.2.2.2.1 then 0 else c % ((f.2.2.2.1.xs.length : Nat) : Int)) else f.2.2.2.2.1 + (c * 257) % (f.2.2.2.2.2.1 - f.2.2.2.2.1 + 1)) ∧ (if f.2.2.2.2.2.2.2.2.2.2.1 = true then f.2.2.2.2.1 + (if f.2.2.2.2.1 + c % ((f.2.2.2.1.xs.length : Nat) : Int) > f.2.2.2.2.2.1 then 0 else c % ((f.2.2.2.1.xs.length : Nat) : Int)) else f.2.2.2.2.1 + (c * 257) % (f.2.2.2.2.2.1 - f.2.2.2.2.1 + 1)) ≤ f.2.2.2.2.2.1
    split
    · split <;> omega
    · omega
  have hno : ¬ (fCo f = true ∨ pkN f c < fLo f ∨ pkN f c > fHi f) := by
    rintro (h | h | h)
    · rw [hco] at h; cases h
    · omega
    · omega
  refine ⟨hrng.1, hrng.2, ?_⟩
  have pre : ∀ {β : Type} (G : Int → Int → Option β), ((ckI .i64 ((a_h f.2.2.2.1) - 1)).bind fun x_172 => (idx f.2.2.2.1.xs (if x_172 < (j : Int) then x_172 else (j : Int))).bind fun y_173 => (ckI .i64 (c * 257)).bind fun x_181 => (ckI .i64 (f.2.2.2.2.2.1 - f.2.2.2.2.1)).bind fun x_186 => (ckI .i64 (x_186 + 1)).bind fun x_187 => (b_J .i64 x_181 x_187).bind fun x_188 => (ckI .i64 (f.2.2.2.2.1 + x_188)).bind fun x_189 => G y_173 x_189) = G u0 (f.2.2.2.2.1 + (c * 257) % (f.2.2.2.2.2.1 - f.2.2.2.2.1 + 1)) := by
    intro β G
    rw [a_O, ckS (by omega) (by omega), Option.bind_some, eix, Option.bind_some, ckS (by omega) (by omega), Option.bind_some, ckS (by omega) (by omega), Option.bind_some, ckS (by omega) (by omega), Option.bind_some, rem64 (by omega) (by omega) (by omega), Option.bind_some, ckS (by omega) (by omega), Option.bind_some]
  by_cases ha : fAr f = true
  · have ha' : f.2.2.2.2.2.2.2.2.2.2.1 = true := ha
    obtain ⟨a, hae, hal, hav⟩ : ∃ a : Nat, (if (decide (f.2.2.2.2.1 + c % ((f.2.2.2.1.xs.length : Nat) : Int) > f.2.2.2.2.2.1)) = true then some 0 else some (c % ((f.2.2.2.1.xs.length : Nat) : Int))) = some (a : Int) ∧ a < f.2.2.2.1.xs.length ∧ pkN f c = f.2.2.2.2.1 + (a : Int) := by
      by_cases hg : f.2.2.2.2.1 + c % ((f.2.2.2.1.xs.length : Nat) : Int) > f.2.2.2.2.2.1
      · refine ⟨0, by rw [c_s hg]; rfl, by omega, ?_⟩
        unfold pkN
        rw [if_pos ha]
        have hg' : fLo f + c % ((fU f).xs.length : Int) > fHi f := hg
        rw [if_pos hg']; rfl
      · obtain ⟨a, hae⟩ := Int.eq_ofNat_of_zero_le m3
        refine ⟨a, by rw [c_E hg, hae], by omega, ?_⟩
        unfold pkN
        rw [if_pos ha]
        have hg' : ¬ fLo f + c % ((fU f).xs.length : Int) > fHi f := hg
        rw [if_neg hg']
        show f.2.2.2.2.1 + c % ((f.2.2.2.1.xs.length : Nat) : Int) = _
        rw [hae]
    refine ⟨f.2.2.2.1.xs[a], 1, ?_, ?_⟩
    · unfold hld
      rw [if_neg hno, if_pos ha, hav]
      show ((f.2.2.2.1.xs[(f.2.2.2.2.1 + (a : Int) - f.2.2.2.2.1).toNat]?).map fun u => (u, 1)) = _
      rw [show (f.2.2.2.2.1 + (a : Int) - f.2.2.2.2.1).toNat = a by omega, List.getElem?_eq_getElem hal]
      rfl
    · intro β K
      rw [pre fun y_173 x_189 => some ((i : Int), (j : Int), y_173, x_189), Option.bind_some]
      rw [if_pos ha', a_O, rem64 h0 (by omega) (by omega), Option.bind_some, ckS (by omega) (by omega), Option.bind_some, hae, Option.bind_some, c_H hal, Option.bind_some, Option.bind_some]
  · have ha' : ¬ f.2.2.2.2.2.2.2.2.2.2.1 = true := ha
    have hpk : pkN f c = f.2.2.2.2.1 + (c * 257) % (f.2.2.2.2.2.1 - f.2.2.2.2.1 + 1) := by
      unfold pkN
      rw [if_neg ha]
    refine ⟨u0, pkN f c, ?_, ?_⟩
    · unfold hld
      rw [if_neg hno, if_neg ha]
      show ((f.2.2.2.1.xs[min j (f.2.2.2.1.xs.length - 1)]?).map fun u => (u, pkN f c)) = _
      rw [eu0]; rfl
    · intro β K
      rw [pre fun y_173 x_189 => some ((i : Int), (j : Int), y_173, x_189), Option.bind_some]
      rw [if_neg ha', Option.bind_some, hpk]
def eLW (W : Nat → Nat → Option Int) (i : Nat) (f : Fd) (j : Nat) : List V4 :=
  match W i j with
  | some v => match hld f j v with
    | some (u, V) => [((i : Int), (j : Int), u, V)]
    | none => []
  | none => []
def fdW (W : Nat → Nat → Option Int) (i : Nat) (f : Fd) (j : Nat) : List V4 := (List.range' j ((fC f).toNat - j)).flatMap (eLW W i f)
def rpW (W : Nat → Nat → Option Int) : Nat → List Fd → List V4
  | _, [] => []
  | i, f :: l => fdW W i f 0 ++ rpW W (i + 1) l
theorem fdW_cons (W : Nat → Nat → Option Int) (i : Nat) (f : Fd) {j : Nat} (h : j < (fC f).toNat) : fdW W i f j = eLW W i f j ++ fdW W i f (j + 1) := by
  unfold fdW
  obtain ⟨q, hq⟩ : ∃ q, (fC f).toNat - j = q + 1 := ⟨(fC f).toNat - j - 1, by omega⟩
  rw [hq, show (fC f).toNat - (j + 1) = q by omega, List.range'_succ, List.flatMap_cons]
theorem fdW_nil (W : Nat → Nat → Option Int) (i : Nat) (f : Fd) {j : Nat} (h : (fC f).toNat ≤ j) : fdW W i f j = [] := by
  unfold fdW
  rw [show (fC f).toNat - j = 0 by omega]; rfl
theorem fdW_none {W : Nat → Nat → Option Int} {i : Nat} (f : Fd) (j : Nat) (h : ∀ j, W i j = .none) : fdW W i f j = [] := by
  unfold fdW
  rw [List.flatMap_eq_nil_iff]
  intro t _
  unfold eLW
  rw [h t]
def cnt (k r : Int) (l : List Fd) : Nat := ((l.filter (okF k r)).map fun f => (fC f).toNat).sum
theorem cnt_snoc (k r : Int) (l : List Fd) (f : Fd) : cnt k r (l ++ [f]) = cnt k r l + if okF k r f = true then (fC f).toNat else 0 := by
  unfold cnt
  rw [List.filter_append, List.map_append, List.sum_append]
  by_cases h : okF k r f = true
  · rw [List.filter_cons_of_pos h, if_pos h]; rfl
  · rw [List.filter_cons_of_neg h, if_neg h]; rfl
def Wm (m : Mpt) (k r : Int) (x : Sl Int) (i j : Nat) : Option Int :=
  match m.1.xs[i]? with
  | some f => if okF k r f = true ∧ (j : Int) < fC f then pk f (ch x (cnt k r (m.1.xs.take i) + j)) else .none
  | none => .none
theorem Wm_at {m : Mpt} {k r : Int} {x : Sl Int} {i j : Nat} {f : Fd} (hf : m.1.xs[i]? = some f) (h : okF k r f = true) (hj : (j : Int) < fC f) : Wm m k r x i j = pk f (ch x (cnt k r (m.1.xs.take i) + j)) := by
  unfold Wm
  rw [hf]
  exact if_pos ⟨h, hj⟩
theorem Wm_no {m : Mpt} {k r : Int} {x : Sl Int} {i j : Nat} {f : Fd} (hf : m.1.xs[i]? = some f) (h : ¬ okF k r f = true) : Wm m k r x i j = .none := by
  unfold Wm
  rw [hf]
  exact if_neg fun q => h q.1
theorem Wm_some {m : Mpt} {k r : Int} {x : Sl Int} (hx : Byts x.xs) (hS : FBs m.1.xs) {i j : Nat} {v : Int} (h : Wm m k r x i j = some v) : ∃ f u V, m.1.xs[i]? = some f ∧ mt k r f = true ∧ fCo f = false ∧ (j : Int) < fC f ∧ fLo f ≤ v ∧ v ≤ fHi f ∧ hld f j v = some (u, V) := by
  unfold Wm at h
  cases hf : m.1.xs[i]? with
  | none => rw [hf] at h; cases h
  | some f =>
    rw [hf] at h
    simp only at h
    split at h
    · rename_i hc
      have hm : mt k r f = true ∧ fCo f = false := by
        have := hc.1
        unfold okF at this
        rw [Bool.and_eq_true, Bool.not_eq_true'] at this
        exact this
      have hr := ch_rng hx (cnt k r (m.1.xs.take i) + j)
      obtain ⟨p1, p2, u, V, p3, _⟩ := pick_ok (hS f (List.mem_of_getElem? hf)) hm.2 hr.1 hr.2 i j
      unfold pk at h
      split at h
      · cases h
      · obtain rfl := Option.some.inj h
        exact ⟨f, u, V, rfl, hm.1, hm.2, hc.2, p1, p2, p3⟩
    · cases h
theorem p5_l2_eq {n : Nat} (m : Mpt) (hS : FBs m.1.xs) (x25 r : Int) (x : Sl Int) (hx : Byts x.xs) (i : Nat) (f : Fd) (hf : m.1.xs[i]? = some f) (hk : okF (IntKind.wrap .u8 (1 + x25)) r f = true) (hc : cnt (IntKind.wrap .u8 (1 + x25)) r (m.1.xs.take i) ≤ 1000) : ∀ (q j : Nat) (a : List V4), (fC f).toNat - j < q → j ≤ (fC f).toNat → a.length ≤ 1000 + j →
    p5_l2 n x x25 r i f q j ((cnt (IntKind.wrap .u8 (1 + x25)) r (m.1.xs.take i) + j : Nat) : Int) a = some (a ++ fdW (Wm m (IntKind.wrap .u8 (1 + x25)) r x) i f j, ((cnt (IntKind.wrap .u8 (1 + x25)) r (m.1.xs.take i) + (fC f).toNat : Nat) : Int)) := by
  have hB := hS f (List.mem_of_getElem? hf)
  have hC := hB.C
  have hk' : mt (IntKind.wrap .u8 (1 + x25)) r f = true ∧ fCo f = false := by
    have := hk
    unfold okF at this
    rw [Bool.and_eq_true, Bool.not_eq_true'] at this
    exact this
  have hmt := d_L hk'.1
  have hco : f.2.2.2.2.2.2.2.2.2.1 = false := hk'.2
  intro q
  induction q with
  | zero => intro j a h; exact absurd h (by omega)
  | succ q ih =>
    intro j a h1 h2 h3
    rw [p5_l2]
    by_cases hlt : j < (fC f).toNat
    · have hlt' : (j : Int) < fC f := by omega
      have hr := ch_rng hx (cnt (IntKind.wrap .u8 (1 + x25)) r (m.1.xs.take i) + j)
      obtain ⟨p1, p2, u, V, p3, p4⟩ := pick_ok hB hk'.2 hr.1 hr.2 i j
      have hW := Wm_at (x := x) hf hk hlt'
      have hch : (if (decide ((a_h x) > 0)) = true then ((b_J .i64 ((cnt (IntKind.wrap .u8 (1 + x25)) r (m.1.xs.take i) + j : Nat) : Int) (a_h x)).bind fun x_156 => (idx x.xs x_156).bind fun y_157 => some y_157) else some 0) = some (ch x (cnt (IntKind.wrap .u8 (1 + x25)) r (m.1.xs.take i) + j)) := by
        unfold ch
        rw [a_O]
        by_cases hl : 0 < x.xs.length
        · rw [c_s (by omega), rem64 (by omega) (by omega) (by omega), Option.bind_some, if_pos hl]
          have e : ((cnt (IntKind.wrap .u8 (1 + x25)) r (m.1.xs.take i) + j : Nat) : Int) % (x.xs.length : Int) = (((cnt (IntKind.wrap .u8 (1 + x25)) r (m.1.xs.take i) + j) % x.xs.length : Nat) : Int) := (Int.natCast_emod _ _).symm
          rw [e, byt_of (Nat.mod_lt _ hl), Option.bind_some]
        · rw [c_E (by omega), if_neg hl]
      have hr3 : b_J .i64 (ch x (cnt (IntKind.wrap .u8 (1 + x25)) r (m.1.xs.take i) + j)) 3 = some (ch x (cnt (IntKind.wrap .u8 (1 + x25)) r (m.1.xs.take i) + j) % 3) := rem64 hr.1 (by omega) (by decide)
      have hinc : ((cnt (IntKind.wrap .u8 (1 + x25)) r (m.1.xs.take i) + j : Nat) : Int) + 1 = ((cnt (IntKind.wrap .u8 (1 + x25)) r (m.1.xs.take i) + (j + 1) : Nat) : Int) := by omega
      rw [c_s (show (j : Int) < f.2.2.2.2.2.2.2.1 from hlt'), hco, Option.bind_some, if_pos (show (!false) = true from rfl), hmt.1, beq_self_eq_true, Option.bind_some, if_pos rfl, hmt.2, beq_self_eq_true, Option.bind_some, if_pos rfl, hch, Option.bind_some, ckS (by omega) (by omega), Option.bind_some, hr3, Option.bind_some, fdW_cons _ i f hlt, hinc]
      by_cases h0 : ch x (cnt (IntKind.wrap .u8 (1 + x25)) r (m.1.xs.take i) + j) % 3 = 0
      · have e : eLW (Wm m (IntKind.wrap .u8 (1 + x25)) r x) i f j = [] := by
          unfold eLW
          rw [hW]
          unfold pk
          rw [if_pos h0]
        rw [if_pos (by rw [beq_iff_eq]; exact h0), ckS (by omega) (by omega), Option.bind_some, a_3, ih (j + 1) a (by omega) (by omega) (by omega), e, List.nil_append]
      · have e : eLW (Wm m (IntKind.wrap .u8 (1 + x25)) r x) i f j = [((i : Int), (j : Int), u, V)] := by
          unfold eLW
          rw [hW]
          unfold pk
          rw [if_neg h0]
          simp only
          rw [p3]
        rw [if_neg (by rw [beq_iff_eq]; exact h0)]
        refine (p4 _).trans ?_
        rw [b_6 (by omega), Option.bind_some, ckS (by omega) (by omega), Option.bind_some, a_3, ih (j + 1) _ (by omega) (by omega) (by rw [List.length_append, List.length_singleton]; omega), e, List.append_assoc]
    · rw [c_E (show ¬ (j : Int) < f.2.2.2.2.2.2.2.1 from (show ¬ (j : Int) < fC f by omega)), Option.bind_some, if_neg (by decide), Option.bind_some, if_neg (by decide), Option.bind_some, if_neg (by decide), fdW_nil _ i f (by omega), List.append_nil, show j = (fC f).toNat by omega]
theorem p5_l2_no {n : Nat} (x25 r : Int) (x : Sl Int) (i : Int) (f : Fd) (hk : ¬ okF (IntKind.wrap .u8 (1 + x25)) r f = true) (q : Nat) (hq : 0 < q) (j c : Int) (a : List V4) : p5_l2 n x x25 r i f q j c a = some (a, c) := by
  obtain ⟨q, rfl⟩ : ∃ t, q = t + 1 := ⟨q - 1, by omega⟩
  rw [p5_l2]
  have e : ∀ {β : Type} (G : Bool → Option β), ((if (decide (j < f.2.2.2.2.2.2.2.1)) = true then some (!f.2.2.2.2.2.2.2.2.2.1) else some false).bind fun q_135 => (if q_135 = true then some (f.1 == (IntKind.wrap .u8 (1 + x25))) else some false).bind fun q_138 => (if q_138 = true then some (f.2.1 == r) else some false).bind G) = G false := by
    intro β G
    have h1 : (!f.2.2.2.2.2.2.2.2.2.1 && (f.1 == (IntKind.wrap .u8 (1 + x25)) && f.2.1 == r)) = false := by
      have : (okF (IntKind.wrap .u8 (1 + x25)) r f) = false := Bool.eq_false_iff.2 hk
      unfold okF mt at this
      rw [Bool.and_comm]; exact this
    rw [e_l fun _ => rfl, Option.bind_some, e_l fun _ => rfl, Option.bind_some, e_l fun _ => rfl, Option.bind_some, Bool.and_assoc, Bool.and_assoc, h1, Bool.and_false]
  rw [e, if_neg (by decide)]
theorem p5_l1_eq {n : Nat} (hn : 1100 ≤ n) (m : Mpt) (hl : m.1.xs.length ≤ 20) (hS : FBs m.1.xs) (x25 r : Int) (x : Sl Int) (hx : Byts x.xs) : ∀ (q i : Nat) (a : List V4), m.1.xs.length - i < q → i ≤ m.1.xs.length → a.length ≤ 6 * i → cnt (IntKind.wrap .u8 (1 + x25)) r (m.1.xs.take i) ≤ 6 * i →
    p5_l1 n x m x25 r q i ((cnt (IntKind.wrap .u8 (1 + x25)) r (m.1.xs.take i) : Nat) : Int) a = some (a ++ rpW (Wm m (IntKind.wrap .u8 (1 + x25)) r x) i (m.1.xs.drop i)) := by
  intro q
  induction q with
  | zero => intro i a h; exact absurd h (by omega)
  | succ q ih =>
    intro i a h1 h2 h3 h4
    rw [p5_l1, a_O]
    by_cases hlt : i < m.1.xs.length
    · have hf : m.1.xs[i]? = some m.1.xs[i] := List.getElem?_eq_getElem hlt
      have hC := (hS _ (List.getElem_mem hlt)).C
      have ht : m.1.xs.take (i + 1) = m.1.xs.take i ++ [m.1.xs[i]] := d_J hlt
      have hfl : (fdW (Wm m (IntKind.wrap .u8 (1 + x25)) r x) i m.1.xs[i] 0).length ≤ 6 := by
        have : ∀ (l : List Nat), (l.flatMap (eLW (Wm m (IntKind.wrap .u8 (1 + x25)) r x) i m.1.xs[i])).length ≤ l.length := by
          intro l
          induction l with
          | nil => simp
          | cons t l ih =>
            have : (eLW (Wm m (IntKind.wrap .u8 (1 + x25)) r x) i m.1.xs[i] t).length ≤ 1 := by
              unfold eLW
              split
              · split <;> simp
              · simp
            rw [List.flatMap_cons, List.length_append, List.length_cons]; omega
        have h5 := this (List.range' 0 ((fC m.1.xs[i]).toNat - 0))
        rw [List.length_range'] at h5
        unfold fdW
        omega
      rw [c_s (by omega), c_H hlt, Option.bind_some, a_Q hlt, rpW]
      generalize hg : m.1.xs[i] = f at hf hC ht hfl
      have hs := cnt_snoc (IntKind.wrap .u8 (1 + x25)) r (m.1.xs.take i) f
      rw [← ht] at hs
      by_cases hk : okF (IntKind.wrap .u8 (1 + x25)) r f = true
      · have h5 := p5_l2_eq (n := n) m hS x25 r x hx i f hf hk (by omega) n 0 a (by omega) (by omega) (by omega)
        rw [show ((0 : Nat) : Int) = 0 from rfl, Nat.add_zero] at h5
        rw [if_pos hk] at hs
        rw [h5, Option.bind_some, ckS (by omega) (by omega), Option.bind_some, a_3, ← hs]
        simp only
        rw [ih (i + 1) _ (by omega) (by omega) (by rw [List.length_append]; omega) (by omega), List.append_assoc]
      · rw [if_neg hk, Nat.add_zero (cnt (IntKind.wrap .u8 (1 + x25)) r (m.1.xs.take i))] at hs
        rw [p5_l2_no x25 r x (i : Int) f hk n (by omega), Option.bind_some, ckS (by omega) (by omega), Option.bind_some, a_3, ← hs]
        simp only
        rw [ih (i + 1) _ (by omega) (by omega) (by omega) (by omega), fdW_none f 0 (fun j => Wm_no hf hk), List.nil_append]
    · rw [c_E (by omega), List.drop_eq_nil_of_le (by omega), rpW, List.append_nil]
end Go.Proofs.Ythknbcfelkljcaa
