/- The law DescriptorsInterface, walked. -/
import Derived.Test.YtojifdijcanbpaaDecIf2
import Derived.Test.YtojifdijcanbpaaGood
import Derived.Test.YtojifdijcanbpaaLives
set_option linter.unusedSimpArgs false
set_option linter.unusedVariables false
namespace Go.Proofs.Ytojifdijcanbpaa
open Go.RowKit

def isIf (l : List Int) : Bool := decide (l.length = 9 ∧ l.getD 0 0 = 9 ∧ l.getD 1 0 = 4 ∧ l.getD 2 0 < 16 ∧ l.getD 3 0 < 16 ∧ l.getD 4 0 < 31)
theorem isIf_iff {l : List Int} (h : l.length = 9) : isIf l = decide (lstIf l = l) := by
  match l, h with
  | [a, b, c, d, e, f, g, i, j], _ =>
    rw [Bool.eq_iff_iff]
    simp only [isIf, lstIf, ifL, ifB, decide_eq_true_eq]
    simp
    constructor
    · intro h
      rw [if_pos (by omega)]
      simp
      omega
    · intro h
      split at h
      · simp at h
        omega
      · simp at h
theorem back_if {n a e c s p t : Int} (hne : ifL n a e c s p t ≠ []) : lstIf (ifL n a e c s p t) = ifL n a e c s p t ∧ rdIf (ifL n a e c s p t) = ifV n a e c s p t ∧ (ifL n a e c s p t).length = 9 := by
  unfold ifL at *
  split at hne
  · rename_i h
    rw [if_pos h]
    refine ⟨?_, rfl, rfl⟩
    show (if ifB n a e = true then _ else _) = _
    rw [if_pos h]
    rfl
  · exact absurd rfl hne
theorem ifL_byt {n a e c s p t : Int} (h1 : U8 n) (h2 : U8 a) (h3 : U8 e) (h4 : U8 c) (h5 : U8 s) (h6 : U8 p) (h7 : U8 t) : Byt (ifL n a e c s p t) := by
  unfold ifL
  split
  · intro z hz
    simp at hz
    unfold U8 at *
    omega
  · exact Byt.nil

theorem box7 {W : World} {g : Nat} {v0 v1 v2 v3 v4 v5 v6 : Value} {e : TypeId} (h : W.heap[g]? = some (.cells #[v0, v1, v2, v3, v4, v5, v6] e (0, 0))) :
    g < W.heap.size ∧ W.cell? ⟨g, 0, none⟩ = some v0 ∧ W.cell? ⟨g, 1, none⟩ = some v1 ∧ W.cell? ⟨g, 2, none⟩ = some v2 ∧ W.cell? ⟨g, 3, none⟩ = some v3 ∧ W.cell? ⟨g, 4, none⟩ = some v4 ∧ W.cell? ⟨g, 5, none⟩ = some v5 ∧ W.cell? ⟨g, 6, none⟩ = some v6 :=
  ⟨(Array.getElem?_eq_some_iff.1 h).1, cell_of_row W g 0 _ e (0, 0) h, cell_of_row W g 1 _ e (0, 0) h, cell_of_row W g 2 _ e (0, 0) h, cell_of_row W g 3 _ e (0, 0) h, cell_of_row W g 4 _ e (0, 0) h, cell_of_row W g 5 _ e (0, 0) h, cell_of_row W g 6 _ e (0, 0) h⟩

set_option maxHeartbeats 4000000 in
set_option maxRecDepth 100000 in
theorem lawIf_any (n a e c s p t : Int) (A : Option Addr) (m q : Nat) (l : List Int) (w : World) (h1 : U8 n) (h2 : U8 a) (h3 : U8 e) (h4 : U8 c) (h5 : U8 s) (h6 : U8 p) (h7 : U8 t)
    (hl : l.length = m) (hr : Rd w w.heap.size A (u8s l)) (hB : Byt l) (hm : m ≤ 9223372036854775807) :
    Calls Try.prog 9 #[ifV n a e c s p t, .slice A m q] w (LivesPost w) := by
  have HL := Lib.hid hl
  clear hl
  by_cases hbig : 40 < m
  · go_enter Try.func9, Try.ntmps9
    go_wp2_with (go_at_call 11; refine (lives_any _).mono ?_; rintro e' w1 ⟨rfl, hb1⟩)
    go_ret
    exact ⟨rfl, ((Below.refl _ _).alloc (Nat.le_refl _) _).trans (hb1.mono (by simp))⟩
  · have hm40 : m ≤ 40 := by omega
    clear hbig
    have HB := Lib.hid (ifL_byt h1 h2 h3 h4 h5 h6 h7)
    have HU := Lib.hid (show U8 n ∧ U8 a ∧ U8 e ∧ U8 c ∧ U8 s ∧ U8 p ∧ U8 t from ⟨h1, h2, h3, h4, h5, h6, h7⟩)
    clear h1 h2 h3 h4 h5 h6 h7
    go_enter Try.func9, Try.ntmps9
    go_wp2_with fail
    refine (encIf_any _ _ _ _ _ _ _ _ HU.out.1 HU.out.2.1 HU.out.2.2.1 HU.out.2.2.2.1 HU.out.2.2.2.2.1 HU.out.2.2.2.2.2.1 HU.out.2.2.2.2.2.2).mono ?_
    intro e1 w1 he1
    have hb1 : Below w.heap.size w w1 := by
      have h0 : Below w.heap.size w (w.alloc (.cells #[.int .u8 n, .int .u8 a, .int .u8 e, .int .u8 c, .int .u8 s, .int .u8 p, .int .u8 t] 73)) := (Below.refl _ _).alloc (Nat.le_refl _) _
      rcases he1 with ⟨_, _, h⟩ | ⟨_, _, _, _, h⟩ <;> exact h0.trans (h.mono (by simp))
    have hk1 : w1.heap[w.heap.size]? = some (.cells #[.int .u8 n, .int .u8 a, .int .u8 e, .int .u8 c, .int .u8 s, .int .u8 p, .int .u8 t] 73 (0, 0)) := by
      rcases he1 with ⟨_, _, h⟩ | ⟨_, _, _, _, h⟩ <;> (rw [h.block _ (by simp)]; exact heap_alloc_new _ _)
    have HB1 := Lib.hid hb1
    have HK1 := Lib.hid hk1
    clear hb1 hk1
    rcases he1 with ⟨hnil, rfl, _⟩ | ⟨hne, g, rfl, hg, _⟩
    · obtain ⟨z1, b10, b11, b12, b13, b14, b15, b16⟩ := box7 HK1.out
      have Hnil := Lib.hid hnil
      clear hnil
      go_wp2_with fail
      refine (setting_any _ _ _ _ _ _ _ _ HU.out.1 HU.out.2.1 HU.out.2.2.1).mono ?_
      rintro e2 w2 ⟨rfl, hb2⟩
      have HK2 := Lib.hid ((hb2.block _ z1).trans HK1.out)
      have HB2 := Lib.hid (HB1.out.trans (hb2.mono (by omega)))
      clear b10 b11 b12 b13 b14 b15 b16 z1 hb2
      obtain ⟨z2, b20, b21, b22, b23, b24, b25, b26⟩ := box7 HK2.out
      rw [Hnil.out]
      go_wp2_with (go_at_call 19; refine (good_nil _).mono ?_; rintro e' w' ⟨rfl, rfl⟩)
      refine (decodeIf_any none 0 0 [] _ rfl Rd.nil Byt.nil (by omega)).mono ?_
      rintro e3 w3 ⟨hb3, h3⟩
      obtain rfl : e3 = .returned (.tuple #[noIf, .int .i64 5]) := by
        rcases h3 with ⟨_, h⟩ | ⟨h, _⟩ | ⟨h, _⟩
        · exact h
        · simp at h
        · simp at h
      have HK3 := Lib.hid ((hb3.block _ z2).trans HK2.out)
      have HB3 := Lib.hid (HB2.out.trans (hb3.mono HB2.out.size))
      clear b20 b21 b22 b23 b24 b25 b26 z2 hb3 h3
      obtain ⟨z3, b30, b31, b32, b33, b34, b35, b36⟩ := box7 HK3.out
      go_wp2_with fail
      have hA3 : Below w.heap.size w (w3.alloc (.cells #[.int .u8 0, .int .u8 0, .int .u8 0, .int .u8 0, .int .u8 0, .int .u8 0, .int .u8 0] 73)) := HB3.out.alloc HB3.out.size _
      refine (decodeIf_any A m q l _ HL.out ((hr.below hA3).more hA3.size) hB (by omega)).mono ?_
      clear hA3
      rintro e4 w4 ⟨hb4, h4⟩
      have HB4 := Lib.hid ((HB3.out.alloc HB3.out.size _).trans (hb4.mono (by have := HB3.out.size; simp; omega)))
      have hz4 : w.heap.size < w4.heap.size := by have := hb4.size; simp at this; omega
      clear b30 b31 b32 b33 b34 b35 b36 z3 hb4
      rcases h4 with ⟨h4, rfl⟩ | ⟨h4, h5, he4⟩ | ⟨h4, h5, rfl⟩
      · have h9 : ((m : Int) == 9) = false := by rw [HL.out] at h4; simp; omega
        have H9 := Lib.hid h4
        clear h4
        go_wp2_with (first
          | (go_at_call 22; refine (refused_any _ _ _ _ (by have := H9.out; rw [HL.out] at this; left; constructor; omega; rfl)).mono ?_; rintro e' w' ⟨rfl, rfl⟩)
          | (go_at_call 11; refine (lives_any _).mono ?_; rintro e' w5 ⟨rfl, hb5⟩))
        go_ret
        exact ⟨rfl, (HB4.out.alloc HB4.out.size _).trans (hb5.mono (by have := HB4.out.size; simp; omega))⟩
      · obtain ⟨x2, x3, x4, x5, x6, x7, x8, y2, y3, y4, _, _, _, _, HR, HX⟩ := open_if hB
        rw [HR.out] at he4
        subst he4
        have HE : ifL x2 x3 x4 x5 x6 x7 x8 = l := HX.out.symm.trans h5
        have HE' := Lib.hid HE
        have HSTR : ∀ W : World, Below (w4.alloc (.cells #[.int .u8 x2, .int .u8 x3, .int .u8 x4, .int .u8 x5, .int .u8 x6, .int .u8 x7, .int .u8 x8] 73)).heap.size (w4.alloc (.cells #[.int .u8 x2, .int .u8 x3, .int .u8 x4, .int .u8 x5, .int .u8 x6, .int .u8 x7, .int .u8 x8] 73)) W → (convert 23 9 (.slice A m q)).run Try.prog W = .ok (.string (strOfNums l)) W := fun W hW =>
          run_str W 23 9 5 Try.underlying23 Try.underlying5 Try.underlying9 _ A q m l HL.out (hr.below ((HB4.out.alloc HB4.out.size _).trans (hW.mono (by have := HB4.out.size; simp; omega))))
        have HSTR' := Lib.hid HSTR
        have Hy := Lib.hid (show U8 x2 ∧ U8 x3 ∧ U8 x4 from ⟨y2, y3, y4⟩)
        clear h4 h5 HE y2 y3 y4 HSTR hr
        go_wp2_with fail
        refine wp_region_run [[], [(0, 99)], [], [(2, 101)], [(1, 100), (3, 102)], [(4, 103)], [(5, 104)], [(5, 104), (6, 105)], [(7, 106)]] (by kernel_rfl) (by kernel_rfl) (by kernel_rfl) (by kernel_rfl) ?_
        repeat (first
          | (apply RunOk.eq
             · intro W hW
               have hc := bcell hW
               have hx := HSTR'.out W hW
               simp only [FillDeps, List.nil_append, List.cons_append, List.getD_cons_zero, List.getD_cons_succ, eqv, forall_eq]
               first
                 | (rintro _ ⟨g, rfl, hn, hg⟩
                    have hs := fun c => str_new (P := Try.prog) (c := c) 23 9 5 Try.underlying23 Try.underlying5 Try.underlying9 _ hg hn rfl)
                 | skip
               try simp only [Act.put, List.setIfInBounds_toArray, List.set_cons_zero, List.set_cons_succ]
               go_wp2_with (first | (go_at_call 31; refine (setting_any _ _ _ _ _ _ _ _ Hy.out.1 Hy.out.2.1 Hy.out.2.2).mono ?_; rw [HE'.out]; rintro e' w' ⟨rfl, hb⟩) | (go_at_call 11; refine (lives_any _).mono ?_; rintro e' w' ⟨rfl, hb⟩))
               refine ⟨rfl, ?_, by first | exact Below.refl _ _ | assumption⟩
               unfold eqv
               conv => lhs; whnf)
          | (apply RunOk.u8
             · intro W hW
               have hc := bcell hW
               have hx := HSTR'.out W hW
               simp only [FillDeps, List.nil_append, List.cons_append, List.getD_cons_zero, List.getD_cons_succ, eqv, forall_eq]
               first
                 | (rintro _ ⟨g, rfl, hn, hg⟩)
                 | skip
               try simp only [Act.put, List.setIfInBounds_toArray, List.set_cons_zero, List.set_cons_succ]
               go_wp2_with (first | (go_at_call 31; refine (setting_any _ _ _ _ _ _ _ _ Hy.out.1 Hy.out.2.1 Hy.out.2.2).mono ?_; rw [HE'.out]; rintro e' w' ⟨rfl, hb⟩) | (go_at_call 11; refine (lives_any _).mono ?_; rintro e' w' ⟨rfl, hb⟩))
               refine ⟨rfl, ?_, by first | exact Below.refl _ _ | exact (Below.refl _ _).alloc (by simp) _ | assumption⟩
               first | exact isU8_1 | exact isU8_2 | exact isU8_3 | exact isU8_4 | exact isU8_5 | exact isU8_7 | exact isU8_16 | assumption | exact ⟨_, rfl, hn, hg⟩))
        intro W hW
        have hc := bcell hW
        simp only [EndOk, List.nil_append, List.cons_append, List.getD_cons_zero, List.getD_cons_succ, eqv, forall_eq]
        repeat (rintro _ ⟨_, rfl, _, _⟩)
        try simp only [Act.put, List.setIfInBounds_toArray, List.set_cons_zero, List.set_cons_succ]
        go_wp2
        go_ret
        exact ⟨rfl, (HB4.out.alloc HB4.out.size _).trans (hW.mono (by have := HB4.out.size; simp; omega))⟩
      · have his := isIf_iff h4
        rw [decide_eq_false h5] at his
        have HIS := Lib.hid his
        have h9 : (m : Nat) = 9 := by rw [← HL.out]; exact h4
        subst h9
        obtain ⟨g, off, rfl, hg, _⟩ := u8_at hr (k := 0) (by omega)
        have hc : ∀ k, k < 9 → (w4.alloc (.cells #[.int .u8 0, .int .u8 0, .int .u8 0, .int .u8 0, .int .u8 0, .int .u8 0, .int .u8 0] 73)).cell? ⟨g, off + k, none⟩ = some (.int .u8 (l.getD k 0)) := fun k hk => by
          obtain ⟨b, o, e', _, h⟩ := u8_at (hr.below (HB4.out.alloc HB4.out.size (.cells #[.int .u8 0, .int .u8 0, .int .u8 0, .int .u8 0, .int .u8 0, .int .u8 0, .int .u8 0] 73))) (k := k) (by omega)
          simp only [Option.some.injEq, Addr.mk.injEq, and_true] at e'
          obtain ⟨rfl, rfl⟩ := e'
          exact h
        have c0 : (w4.alloc (.cells #[.int .u8 0, .int .u8 0, .int .u8 0, .int .u8 0, .int .u8 0, .int .u8 0, .int .u8 0] 73)).cell? ⟨g, off, none⟩ = some (.int .u8 (l.getD 0 0)) := hc 0 (by omega)
        have c1 := hc 1 (by omega)
        have c2 := hc 2 (by omega)
        have c3 := hc 3 (by omega)
        have c4 := hc 4 (by omega)
        obtain ⟨x0, hx0⟩ : ∃ x, x = l.getD 0 0 := ⟨_, rfl⟩
        obtain ⟨x1, hx1⟩ : ∃ x, x = l.getD 1 0 := ⟨_, rfl⟩
        obtain ⟨x2, hx2⟩ : ∃ x, x = l.getD 2 0 := ⟨_, rfl⟩
        obtain ⟨x3, hx3⟩ : ∃ x, x = l.getD 3 0 := ⟨_, rfl⟩
        obtain ⟨x4, hx4⟩ : ∃ x, x = l.getD 4 0 := ⟨_, rfl⟩
        rw [← hx0] at c0
        rw [← hx1] at c1
        rw [← hx2] at c2
        rw [← hx3] at c3
        rw [← hx4] at c4
        have HX := Lib.hid (show isIf l = decide (x0 = 9 ∧ x1 = 4 ∧ x2 < 16 ∧ x3 < 16 ∧ x4 < 31) by rw [hx0, hx1, hx2, hx3, hx4]; simp [isIf, h4])
        clear hx0 hx1 hx2 hx3 hx4 hc h4 h5 his hr
        go_upto_region 11 with fail
        go_cut [11] (fun s11 wx => s11 = .bool false ∧ wx = w4.alloc (.cells #[.int .u8 0, .int .u8 0, .int .u8 0, .int .u8 0, .int .u8 0, .int .u8 0, .int .u8 0] 73))
        case first =>
          go_wp2_with fail
          all_goals
            go_meet
            refine ⟨congrArg Value.bool ?_, rfl⟩
          all_goals
            have hx := HIS.out.symm.trans HX.out
            first
              | rfl
              | (simp at hx; done)
              | (simp at hx ⊢; omega)
              | (simp at hx ⊢; done)
        case rest =>
          obtain ⟨rfl, rfl⟩ := hcut
          go_wp2_with (first
            | (go_at_call 22; refine (refused_any _ _ _ _ (by right; constructor <;> rfl)).mono ?_; rintro e' w' ⟨rfl, rfl⟩)
            | (go_at_call 11; refine (lives_any _).mono ?_; rintro e' w5 ⟨rfl, hb5⟩))
          go_ret
          exact ⟨rfl, (HB4.out.alloc HB4.out.size _).trans (hb5.mono (by have := HB4.out.size; simp; omega))⟩
    · obtain ⟨z1, b10, b11, b12, b13, b14, b15, b16⟩ := box7 HK1.out
      obtain ⟨q1, q2, q3⟩ := back_if hne
      have Hq := Lib.hid (And.intro q1 (And.intro q2 q3))
      have Hne := Lib.hid hne
      have Hg1 := Lib.hid hg
      have hgl : g < w1.heap.size := (Array.getElem?_eq_some_iff.1 hg).1
      clear q1 q2 q3 hne hg
      go_wp2_with fail
      refine (setting_any _ _ _ _ _ _ _ _ HU.out.1 HU.out.2.1 HU.out.2.2.1).mono ?_
      rintro e2 w2 ⟨rfl, hb2⟩
      have HK2 := Lib.hid ((hb2.block _ z1).trans HK1.out)
      have HB2 := Lib.hid (HB1.out.trans (hb2.mono (by omega)))
      have Hg2 := Lib.hid ((hb2.block g hgl).trans Hg1.out)
      have hgl2 : g < w2.heap.size := (Array.getElem?_eq_some_iff.1 Hg2.out).1
      clear b10 b11 b12 b13 b14 b15 b16 z1 hb2
      obtain ⟨z2, b20, b21, b22, b23, b24, b25, b26⟩ := box7 HK2.out
      go_wp2_with fail
      refine (good_yes g _ (ifL n a e c s p t) _ rfl Hne.out Hg2.out (by have := Hq.out.2.2; omega)).mono ?_
      rintro e' w' ⟨rfl, rfl⟩
      go_wp2_with fail
      refine (decodeIf_any (some ⟨g, 0, none⟩) _ _ (ifL n a e c s p t) _ rfl (rd_of_block Hg2.out) HB.out (by have := Hq.out.2.2; omega)).mono ?_
      rintro e3 w3 ⟨hb3, h3⟩
      obtain rfl : e3 = .returned (.tuple #[ifV n a e c s p t, .int .i64 0]) := by
        rcases h3 with ⟨h, _⟩ | ⟨_, _, h⟩ | ⟨_, h, _⟩
        · exact absurd Hq.out.2.2 h
        · rw [h, Hq.out.2.1]
        · exact absurd Hq.out.1 h
      have HK3 := Lib.hid ((hb3.block _ z2).trans HK2.out)
      have HB3 := Lib.hid (HB2.out.trans (hb3.mono HB2.out.size))
      clear b20 b21 b22 b23 b24 b25 b26 z2 hb3 h3
      obtain ⟨z3, b30, b31, b32, b33, b34, b35, b36⟩ := box7 HK3.out
      go_wp2_with fail
      have hA3 : Below w.heap.size w (w3.alloc (.cells #[.int .u8 n, .int .u8 a, .int .u8 e, .int .u8 c, .int .u8 s, .int .u8 p, .int .u8 t] 73)) := HB3.out.alloc HB3.out.size _
      refine (decodeIf_any A m q l _ HL.out ((hr.below hA3).more hA3.size) hB (by omega)).mono ?_
      clear hA3
      rintro e4 w4 ⟨hb4, h4⟩
      have HB4 := Lib.hid ((HB3.out.alloc HB3.out.size _).trans (hb4.mono (by have := HB3.out.size; simp; omega)))
      have hz4 : w.heap.size < w4.heap.size := by have := hb4.size; simp at this; omega
      clear b30 b31 b32 b33 b34 b35 b36 z3 hb4
      rcases h4 with ⟨h4, rfl⟩ | ⟨h4, h5, he4⟩ | ⟨h4, h5, rfl⟩
      · have h9 : ((m : Int) == 9) = false := by rw [HL.out] at h4; simp; omega
        have H9 := Lib.hid h4
        clear h4
        go_wp2_with (first
          | (go_at_call 22; refine (refused_any _ _ _ _ (by have := H9.out; rw [HL.out] at this; left; constructor; omega; rfl)).mono ?_; rintro e' w' ⟨rfl, rfl⟩)
          | (go_at_call 11; refine (lives_any _).mono ?_; rintro e' w5 ⟨rfl, hb5⟩))
        go_ret
        exact ⟨rfl, (HB4.out.alloc HB4.out.size _).trans (hb5.mono (by have := HB4.out.size; simp; omega))⟩
      · obtain ⟨x2, x3, x4, x5, x6, x7, x8, y2, y3, y4, _, _, _, _, HR, HX⟩ := open_if hB
        rw [HR.out] at he4
        subst he4
        have HE : ifL x2 x3 x4 x5 x6 x7 x8 = l := HX.out.symm.trans h5
        have HE' := Lib.hid HE
        have HSTR : ∀ W : World, Below (w4.alloc (.cells #[.int .u8 x2, .int .u8 x3, .int .u8 x4, .int .u8 x5, .int .u8 x6, .int .u8 x7, .int .u8 x8] 73)).heap.size (w4.alloc (.cells #[.int .u8 x2, .int .u8 x3, .int .u8 x4, .int .u8 x5, .int .u8 x6, .int .u8 x7, .int .u8 x8] 73)) W → (convert 23 9 (.slice A m q)).run Try.prog W = .ok (.string (strOfNums l)) W := fun W hW =>
          run_str W 23 9 5 Try.underlying23 Try.underlying5 Try.underlying9 _ A q m l HL.out (hr.below ((HB4.out.alloc HB4.out.size _).trans (hW.mono (by have := HB4.out.size; simp; omega))))
        have HSTR' := Lib.hid HSTR
        have Hy := Lib.hid (show U8 x2 ∧ U8 x3 ∧ U8 x4 from ⟨y2, y3, y4⟩)
        clear h4 h5 HE y2 y3 y4 HSTR hr
        go_wp2_with fail
        refine wp_region_run [[], [(0, 99)], [], [(2, 101)], [(1, 100), (3, 102)], [(4, 103)], [(5, 104)], [(5, 104), (6, 105)], [(7, 106)]] (by kernel_rfl) (by kernel_rfl) (by kernel_rfl) (by kernel_rfl) ?_
        repeat (first
          | (apply RunOk.eq
             · intro W hW
               have hc := bcell hW
               have hx := HSTR'.out W hW
               simp only [FillDeps, List.nil_append, List.cons_append, List.getD_cons_zero, List.getD_cons_succ, eqv, forall_eq]
               first
                 | (rintro _ ⟨g, rfl, hn, hg⟩
                    have hs := fun c => str_new (P := Try.prog) (c := c) 23 9 5 Try.underlying23 Try.underlying5 Try.underlying9 _ hg hn rfl)
                 | skip
               try simp only [Act.put, List.setIfInBounds_toArray, List.set_cons_zero, List.set_cons_succ]
               go_wp2_with (first | (go_at_call 31; refine (setting_any _ _ _ _ _ _ _ _ Hy.out.1 Hy.out.2.1 Hy.out.2.2).mono ?_; rw [HE'.out]; rintro e' w' ⟨rfl, hb⟩) | (go_at_call 11; refine (lives_any _).mono ?_; rintro e' w' ⟨rfl, hb⟩))
               refine ⟨rfl, ?_, by first | exact Below.refl _ _ | assumption⟩
               unfold eqv
               conv => lhs; whnf)
          | (apply RunOk.u8
             · intro W hW
               have hc := bcell hW
               have hx := HSTR'.out W hW
               simp only [FillDeps, List.nil_append, List.cons_append, List.getD_cons_zero, List.getD_cons_succ, eqv, forall_eq]
               first
                 | (rintro _ ⟨g, rfl, hn, hg⟩)
                 | skip
               try simp only [Act.put, List.setIfInBounds_toArray, List.set_cons_zero, List.set_cons_succ]
               go_wp2_with (first | (go_at_call 31; refine (setting_any _ _ _ _ _ _ _ _ Hy.out.1 Hy.out.2.1 Hy.out.2.2).mono ?_; rw [HE'.out]; rintro e' w' ⟨rfl, hb⟩) | (go_at_call 11; refine (lives_any _).mono ?_; rintro e' w' ⟨rfl, hb⟩))
               refine ⟨rfl, ?_, by first | exact Below.refl _ _ | exact (Below.refl _ _).alloc (by simp) _ | assumption⟩
               first | exact isU8_1 | exact isU8_2 | exact isU8_3 | exact isU8_4 | exact isU8_5 | exact isU8_7 | exact isU8_16 | assumption | exact ⟨_, rfl, hn, hg⟩))
        intro W hW
        have hc := bcell hW
        simp only [EndOk, List.nil_append, List.cons_append, List.getD_cons_zero, List.getD_cons_succ, eqv, forall_eq]
        repeat (rintro _ ⟨_, rfl, _, _⟩)
        try simp only [Act.put, List.setIfInBounds_toArray, List.set_cons_zero, List.set_cons_succ]
        go_wp2
        go_ret
        exact ⟨rfl, (HB4.out.alloc HB4.out.size _).trans (hW.mono (by have := HB4.out.size; simp; omega))⟩
      · have his := isIf_iff h4
        rw [decide_eq_false h5] at his
        have HIS := Lib.hid his
        have h9 : (m : Nat) = 9 := by rw [← HL.out]; exact h4
        subst h9
        obtain ⟨g', off, rfl, hg', _⟩ := u8_at hr (k := 0) (by omega)
        have hc : ∀ k, k < 9 → (w4.alloc (.cells #[.int .u8 0, .int .u8 0, .int .u8 0, .int .u8 0, .int .u8 0, .int .u8 0, .int .u8 0] 73)).cell? ⟨g', off + k, none⟩ = some (.int .u8 (l.getD k 0)) := fun k hk => by
          obtain ⟨b, o, e', _, h⟩ := u8_at (hr.below (HB4.out.alloc HB4.out.size (.cells #[.int .u8 0, .int .u8 0, .int .u8 0, .int .u8 0, .int .u8 0, .int .u8 0, .int .u8 0] 73))) (k := k) (by omega)
          simp only [Option.some.injEq, Addr.mk.injEq, and_true] at e'
          obtain ⟨rfl, rfl⟩ := e'
          exact h
        have c0 : (w4.alloc (.cells #[.int .u8 0, .int .u8 0, .int .u8 0, .int .u8 0, .int .u8 0, .int .u8 0, .int .u8 0] 73)).cell? ⟨g', off, none⟩ = some (.int .u8 (l.getD 0 0)) := hc 0 (by omega)
        have c1 := hc 1 (by omega)
        have c2 := hc 2 (by omega)
        have c3 := hc 3 (by omega)
        have c4 := hc 4 (by omega)
        obtain ⟨x0, hx0⟩ : ∃ x, x = l.getD 0 0 := ⟨_, rfl⟩
        obtain ⟨x1, hx1⟩ : ∃ x, x = l.getD 1 0 := ⟨_, rfl⟩
        obtain ⟨x2, hx2⟩ : ∃ x, x = l.getD 2 0 := ⟨_, rfl⟩
        obtain ⟨x3, hx3⟩ : ∃ x, x = l.getD 3 0 := ⟨_, rfl⟩
        obtain ⟨x4, hx4⟩ : ∃ x, x = l.getD 4 0 := ⟨_, rfl⟩
        rw [← hx0] at c0
        rw [← hx1] at c1
        rw [← hx2] at c2
        rw [← hx3] at c3
        rw [← hx4] at c4
        have HX := Lib.hid (show isIf l = decide (x0 = 9 ∧ x1 = 4 ∧ x2 < 16 ∧ x3 < 16 ∧ x4 < 31) by rw [hx0, hx1, hx2, hx3, hx4]; simp [isIf, h4])
        clear hx0 hx1 hx2 hx3 hx4 hc h4 h5 his hr
        go_upto_region 11 with fail
        go_cut [11] (fun s11 wx => s11 = .bool false ∧ wx = w4.alloc (.cells #[.int .u8 0, .int .u8 0, .int .u8 0, .int .u8 0, .int .u8 0, .int .u8 0, .int .u8 0] 73))
        case first =>
          go_wp2_with fail
          all_goals
            go_meet
            refine ⟨congrArg Value.bool ?_, rfl⟩
          all_goals
            have hx := HIS.out.symm.trans HX.out
            first
              | rfl
              | (simp at hx; done)
              | (simp at hx ⊢; omega)
              | (simp at hx ⊢; done)
        case rest =>
          obtain ⟨rfl, rfl⟩ := hcut
          go_wp2_with (first
            | (go_at_call 22; refine (refused_any _ _ _ _ (by right; constructor <;> rfl)).mono ?_; rintro e' w' ⟨rfl, rfl⟩)
            | (go_at_call 11; refine (lives_any _).mono ?_; rintro e' w5 ⟨rfl, hb5⟩))
          go_ret
          exact ⟨rfl, (HB4.out.alloc HB4.out.size _).trans (hb5.mono (by have := HB4.out.size; simp; omega))⟩

end Go.Proofs.Ytojifdijcanbpaa
