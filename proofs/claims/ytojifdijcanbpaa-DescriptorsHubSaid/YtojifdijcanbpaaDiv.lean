/- The walks of the two Clips and of Divide. -/
import Derived.Test.YtojifdijcanbpaaJoin
set_option linter.unusedSimpArgs false
set_option linter.unusedVariables false
namespace Go.Proofs.Ytojifdijcanbpaa
open Go.RowKit

theorem info23 : (Try.prog.info? 23).map (fun i => (i.zero, i.size, i.bytes)) = some (some (.slice none 0 0), 1, 24) := by kernel_rfl

set_option maxHeartbeats 400000 in
theorem clip1_any (A : Option Addr) (n c : Nat) (w : World) (h : n ≤ c) (hc : c ≤ maxLen) :
    Calls Try.prog 36 #[.slice A n c] w fun e w' => e = .returned (.slice A n n) ∧ w = w' := by
  unfold maxLen at hc
  go_enter Try.func36, Try.ntmps36
  go_wp2
  all_goals
    go_ret
    exact ⟨rfl, rfl⟩

set_option maxHeartbeats 400000 in
theorem clip2_any (A : Option Addr) (n c : Nat) (w : World) (h : n ≤ c) (hc : c ≤ maxLen) :
    Calls Try.prog 37 #[.slice A n c] w fun e w' => e = .returned (.slice A n n) ∧ w = w' := by
  unfold maxLen at hc
  go_enter Try.func37, Try.ntmps37
  go_wp2
  all_goals
    go_ret
    exact ⟨rfl, rfl⟩

/-- v is a slice of bytes of a block of its own, without spare room, and reads as p. -/
def isPart (w : World) (p : List Int) (v : Value) : Prop := ∃ g C, v = .slice (some ⟨g, 0, none⟩) p.length p.length ∧ w.heap[g]? = some (.cells C 5 (0, 0)) ∧ C.toList.take p.length = u8s p
def Parts (w : World) (vs : List Value) (ps : List (List Int)) : Prop := vs.length = ps.length ∧ ∀ (i : Nat) v p, vs[i]? = some v → ps[i]? = some p → isPart w p v
theorem isPart.rd {w : World} {p : List Int} {v : Value} (h : isPart w p v) : ∃ A, v = .slice A p.length p.length ∧ Rd w w.heap.size A (u8s p) := by
  obtain ⟨g, C, rfl, hg, hC⟩ := h
  refine ⟨_, rfl, .inr ⟨g, 0, rfl, (Array.getElem?_eq_some_iff.1 hg).1, fun j v hj => ?_⟩⟩
  have hc : w.cell? ⟨g, 0 + j, none⟩ = C[0 + j]? := cell_of_row w g (0 + j) C 5 (0, 0) hg
  rw [hc, Nat.zero_add, ← Array.getElem?_toList]
  rw [← hC, List.getElem?_take] at hj
  split at hj
  · exact hj
  · cases hj
theorem isPart.grown {w w' : World} {p : List Int} {v out : Value} {base n : Nat} {e : TypeId} {xs : List Value} (h : isPart w p v) (hown : w.ownsRow base e 1 out n xs) (he : e ≠ 5) (hg : w.grownBy w' out.ownBlock) : isPart w' p v := by
  obtain ⟨g, C, rfl, hgg, hC⟩ := h
  refine ⟨g, C, rfl, ?_, hC⟩
  rw [hg.block g (Array.getElem?_eq_some_iff.1 hgg).1 (fun hk => ?_)]
  · exact hgg
  rcases hown.2 with ⟨rfl, _⟩ | ⟨g', cap, cur, rfl, _, h', _⟩
  · simp [Value.ownBlock] at hk
  · simp [Value.ownBlock] at hk
    subst hk
    rw [hgg] at h'
    injection h' with h'
    injection h' with _ h'
    exact he h'.symm
theorem isPart.below {w w' : World} {p : List Int} {v : Value} (h : isPart w p v) (hb : Below w.heap.size w w') : isPart w' p v := by
  obtain ⟨g, C, rfl, hgg, hC⟩ := h
  exact ⟨g, C, rfl, by rw [hb.block g (Array.getElem?_eq_some_iff.1 hgg).1]; exact hgg, hC⟩
theorem Parts.map {w w' : World} {vs : List Value} {ps : List (List Int)} (h : Parts w vs ps) (hk : ∀ p v, isPart w p v → isPart w' p v) : Parts w' vs ps := ⟨h.1, fun i v p hv hp => hk p v (h.2 i v p hv hp)⟩
theorem Parts.snoc {w : World} {vs : List Value} {ps : List (List Int)} {v : Value} {p : List Int} (h : Parts w vs ps) (hr : isPart w p v) : Parts w (vs ++ [v]) (ps ++ [p]) :=
  ⟨by simp [h.1], fun i u q hv hq => by
    rcases Nat.lt_or_ge i vs.length with hi | hi
    · rw [List.getElem?_append_left hi] at hv
      rw [List.getElem?_append_left (by rw [← h.1]; exact hi)] at hq
      exact h.2 i u q hv hq
    · rw [List.getElem?_append_right hi] at hv
      rw [List.getElem?_append_right (by rw [← h.1]; exact hi), ← h.1] at hq
      obtain ⟨k, hk⟩ : ∃ k, k = i - vs.length := ⟨_, rfl⟩
      rw [← hk] at hv hq
      match k, hv, hq with
      | 0, hv, hq =>
        simp at hv hq
        subst hv hq
        exact hr
      | k + 1, hv, hq => simp at hv⟩

def okPart (p : List Int) : Prop := 2 ≤ p.length ∧ p.head? = some (p.length : Int)
def DivOk (l : List Int) (ps : List (List Int)) : Prop := (∀ p ∈ ps, okPart p) ∧ ps.flatten = l
def DivBad (l : List Int) : Prop := ∃ (ps : List (List Int)) (r : List Int), (∀ p ∈ ps, okPart p) ∧ ps.flatten ++ r = l ∧ r ≠ [] ∧ (r.headD 0 < 2 ∨ (r.length : Int) < r.headD 0)

def DivPost (l : List Int) (w : World) (e : Ending) (w' : World) : Prop := Below w.heap.size w w' ∧
  ((4096 < l.length ∧ e = .returned (.tuple #[.slice none 0 0, .int .i64 3])) ∨
   (l.length ≤ 4096 ∧ ∃ (ps : List (List Int)) (A : Option Addr) (vs : List Value), DivOk l ps ∧ e = .returned (.tuple #[.slice A ps.length ps.length, .int .i64 0]) ∧ Rd w' w'.heap.size A vs ∧ Parts w' vs ps) ∨
   (l.length ≤ 4096 ∧ DivBad l ∧ e = .returned (.tuple #[.slice none 0 0, .int .i64 4])))

def DivRel (l : List Int) (w : World) (b out : Value) (wr : World) : Prop :=
  Below w.heap.size w wr ∧ ∃ (ps : List (List Int)) (r : List Int) (A : Option Addr) (c : Nat) (vs : List Value), (∀ p ∈ ps, okPart p) ∧ ps.flatten ++ r = l ∧ b = .slice A r.length c ∧ r.length ≤ c ∧ c ≤ maxLen ∧ Rd wr w.heap.size A (u8s r) ∧
    wr.ownsRow w.heap.size 23 1 out ps.length vs ∧ Parts wr vs ps
theorem headD_byt {r : List Int} (h : Byt r) : 0 ≤ r.headD 0 ∧ r.headD 0 ≤ 255 := by
  cases r with
  | nil => simp
  | cons x t => exact h x (by simp)

theorem part_ok {r : List Int} {x : Int} (hx : x = r.headD 0) (h2 : 2 ≤ x) (hl : x ≤ r.length) : okPart (r.take x.toNat) := by
  cases r with
  | nil => simp at hx; omega
  | cons y t =>
    simp at hx
    subst hx
    have e : (List.take x.toNat (x :: t)).length = x.toNat := by rw [List.length_take]; omega
    refine ⟨by omega, ?_⟩
    rw [e]
    obtain ⟨k, hk⟩ : ∃ k, x.toNat = k + 1 := ⟨x.toNat - 1, by omega⟩
    rw [hk]
    simp
    omega

theorem div_step {l : List Int} {w wr w1 w2 : World} {out v2 : Value} {ps : List (List Int)} {r : List Int} {vs : List Value} {A A1 A2 : Option Addr} {x : Int} {c' c1 c2 : Nat} {o : Obj}
    (hb : Below w.heap.size w wr) (hok : ∀ p ∈ ps, okPart p) (hfl : ps.flatten ++ r = l) (hrr : Rd wr w.heap.size A (u8s r)) (hrc : r.length ≤ c') (hc' : c' ≤ maxLen)
    (hown : wr.ownsRow w.heap.size 23 1 out ps.length vs) (hsl : Parts wr vs ps) (hx : x = r.headD 0) (h2 : 2 ≤ x) (hxl : x ≤ r.length)
    (hg1 : wr.grownBy w1 none) (hown1 : w1.ownsRow wr.heap.size 5 1 (.slice A1 x.toNat c1) x.toNat (u8s (r.take x.toNat)))
    (hown2 : w2.ownsRow w.heap.size 23 1 v2 (ps.length + 1) (vs ++ [.slice A1 x.toNat x.toNat])) (hg2 : (w1.alloc o).grownBy w2 out.ownBlock)
    (hA2 : A2 = if c' = x.toNat then A else A.map (·.add x.toNat)) (hc2 : c2 = c' - x.toNat) (n2 : Nat) (hn2 : n2 = r.length - x.toNat) : DivRel l w (.slice A2 n2 c2) v2 w2 := by
  have hb1 : Below w.heap.size w w1 := hb.grown hg1 hb.size (by simp)
  have hb2 : Below w.heap.size w w2 := (hb1.alloc hb1.size o).grown hg2 (by have := hb1.size; simp; omega) (fun k hk => (hown.lt k hk).1)
  have hlen : (r.take x.toNat).length = x.toNat := by rw [List.length_take]; omega
  have hb01 : Below wr.heap.size wr w1 := (Below.refl _ _).grown hg1 (Nat.le_refl _) (by simp)
  have hb1o : Below w1.heap.size w1 (w1.alloc o) := (Below.refl _ _).alloc (Nat.le_refl _) o
  subst hA2 hc2 hn2
  have hrd : Rd w2 w.heap.size A (u8s r) := ((hrr.below (hb01.mono hb.size)).below (hb1o.mono (by have := hb1.size; omega))).grown hg2 (by have := hb1.size; simp; omega) (fun k hk => (hown.lt k hk).1)
  have hown' : (w1.alloc o).ownsRow w.heap.size 23 1 out ps.length vs := (own_keep hown hg1).alloc o
  refine ⟨hb2, ps ++ [r.take x.toNat], r.drop x.toNat, _, _, vs ++ [.slice A1 (r.take x.toNat).length (r.take x.toNat).length], fun p hp => ?_, ?_, by rw [List.length_drop], by rw [List.length_drop]; omega, by omega, ?_, ?_, ?_⟩
  · rcases List.mem_append.1 hp with h | h
    · exact hok p h
    · rw [List.mem_singleton.1 h]; exact part_ok hx h2 hxl
  · rw [List.flatten_append, List.append_assoc]
    simp [hfl]
  · rw [u8s_drop]
    exact hrd.drop (by simpa using hrc)
  · rw [List.length_append, hlen]; exact hown2
  · refine Parts.snoc (hsl.map fun p v h => (h.below (hb01.trans (hb1o.mono hb01.size))).grown hown' (by decide) hg2) ?_
    have : isPart w1 (r.take x.toNat) (.slice A1 (r.take x.toNat).length (r.take x.toNat).length) := by
      rw [← hlen] at hown1
      rcases hown1.2 with ⟨hv, h0⟩ | ⟨g, cap, cur, hv, _, hg, _, _, _, ht⟩
      · omega
      · simp only [Value.slice.injEq] at hv
        obtain ⟨rfl, _, rfl⟩ := hv
        refine ⟨g, cur, rfl, hg, ?_⟩
        rw [Nat.mul_one, hlen] at ht
        rw [hlen]
        exact ht
    exact (this.below hb1o).grown hown' (by decide) hg2
theorem flatten_ge {ps : List (List Int)} (h : ∀ p ∈ ps, okPart p) : ps.length ≤ ps.flatten.length := by
  induction ps with
  | nil => simp
  | cons p ps ih =>
    have h1 := ih fun q hq => h q (List.mem_cons_of_mem _ hq)
    have h2 := (h p (by simp)).1
    simp only [List.length_cons, List.flatten_cons, List.length_append]
    omega

def lenOf : Value → Nat
  | .slice _ n _ => n
  | _ => 0

set_option maxHeartbeats 2000000 in
set_option maxRecDepth 100000 in
theorem divide_any (A : Option Addr) (n c : Nat) (l : List Int) (w : World) (hl : l.length = n) (hnc : n ≤ c) (hc : c ≤ maxLen) (hr : Rd w w.heap.size A (u8s l)) (hB : Byt l) :
    Calls Try.prog 12 #[.slice A n c] w (DivPost l w) := by
  obtain ⟨i5, h5, h5a, h5b, h5c⟩ := info_parts info5
  obtain ⟨i23, h23, h23a, h23b, h23c⟩ := info_parts info23
  have hc' := hc
  unfold maxLen at hc'
  have HL := Lib.hid hl
  clear hl
  by_cases hbig : 4096 < n
  · go_enter Try.func12, Try.ntmps12
    go_wp2_with fail
    go_ret2
    exact ⟨Below.refl _ _, .inl ⟨by rw [HL.out]; exact hbig, rfl⟩⟩
  · have hsmall : n ≤ 4096 := by omega
    clear hbig
    go_enter Try.func12, Try.ntmps12
    go_wp2_with fail
    go_loopw [0, 4] (fun b out wr => DivRel l w b out wr) (fun b _ _ => lenOf b)
    case atStart => exact ⟨Below.refl _ _, [], l, A, c, [], fun _ h => (by cases h), rfl, by rw [HL.out], by rw [HL.out]; exact hnc, hc, hr, World.ownsRow_nil _ _ _ _, rfl, fun i v p h => (by simp at h)⟩
    case round =>
      obtain ⟨hb, ps, r, A', c', vs, hok, hfl, rfl, hrc, hc2, hrr, hown, hsl⟩ := hrel
      have hc2' := hc2
      unfold maxLen at hc2'
      have hpl : ps.length ≤ 4096 := by
        have h1 := flatten_ge hok
        have h2 := congrArg List.length hfl
        rw [List.length_append, HL.out] at h2
        omega
      have hBr : Byt r := fun z hz => hB z (by rw [← hfl]; exact List.mem_append_right _ hz)
      have HF := Lib.hid hfl
      clear hfl
      by_cases h0 : r = []
      · subst h0
        obtain ⟨A1, c1, hv1, hr1, hl1, hc1a, hc1b⟩ := own_form hown
        subst hv1
        go_wp2_with (go_at_call 37; refine (clip2_any _ _ _ _ hc1a hc1b).mono ?_; rintro e w' ⟨rfl, rfl⟩)
        go_ret2
        exact ⟨hb, .inr (.inl ⟨by rw [HL.out]; exact hsmall, ps, A1, vs, ⟨hok, by simpa using HF.out⟩, rfl, hr1, hsl⟩)⟩
      · have hp : 0 < r.length := List.length_pos_iff.2 h0
        obtain ⟨gb, off, rfl, hgb, hcell⟩ := hrr.at_ (k := 0) (by simpa using hp)
        have hc0 : wr.cell? ⟨gb, off, none⟩ = some (.int .u8 (r.headD 0)) := by
          rw [Nat.add_zero] at hcell
          rw [hcell]
          cases r with
          | nil => simp at hp
          | cons x t => simp [u8s]
        have hx := headD_byt hBr
        obtain ⟨x, hxe⟩ : ∃ x, x = r.headD 0 := ⟨_, rfl⟩
        rw [← hxe] at hc0 hx
        have Hx := Lib.hid hxe
        obtain ⟨hx0, hx1⟩ := hx
        have hown0 := Lib.hid hown
        have hrr' := Lib.hid hrr
        have hsl' := Lib.hid hsl
        have Hb := Lib.hid hb
        clear hxe hcell hr hown hrr hsl hb
        by_cases hx2 : 2 ≤ x ∧ x ≤ r.length
        · obtain ⟨hx2, hxl⟩ := hx2
          go_wp2_with (first
            | (at_builtin; (refine wpList_append_rd _ rfl (.const (.slice none 0 0)) (.tmp 27) 23 rfl wr.heap.size 5 i5 (.int .u8 0) 1 Try.underlying23 h5 h5a h5b h5c rfl (.slice none 0 0) 0 [] rfl (World.ownsRow_nil _ _ _ _) w.heap.size _ _ _ (u8s (r.take x.toNat)) rfl (by simp; omega) (by rw [u8s_take]; exact hrr'.out.take _) (u8s_one _) (by simp only [maxLen]; omega) (by omega) (Nat.le_refl _) ?_; intro v1 w1 hown1 hg1 hat1 hn1; rw [Nat.zero_add] at hown1; obtain ⟨A1, c1, hv1, hr1, hl1, hc1a, hc1b⟩ := own_form hown1; rw [hv1]))
            | (go_at_call 36; refine (clip1_any _ _ _ _ hc1a hc1b).mono ?_; rintro e w' ⟨rfl, rfl⟩)
            | (at_builtin; (refine wpList_append_rd _ rfl (.tmp 24) (.tmp 30) 27 rfl w.heap.size 23 i23 (.slice none 0 0) 24 Try.underlying27 h23 h23a h23b h23c rfl _ _ _ rfl ((own_keep hown0.out hg1).alloc _) (w1.heap.size + 1) _ 1 _ [.slice A1 x.toNat x.toNat] rfl rfl Rd.lit (by simp [Value.oneCell']) (by simp only [maxLen]; omega) (by omega) (by have h1 := Hb.out.size; have h2 := hg1.size; simp; omega) ?_; intro v2 w2 hown2 hg2 hat2 hn2)))
          go_roundw
          case rel => exact div_step Hb.out hok HF.out hrr'.out hrc hc2 hown0.out hsl'.out Hx.out hx2 hxl hg1 (hv1 ▸ hown1) hown2 hg2 (by simp [Addr.add_lit]) rfl _ rfl
          case measure => simp only [lenOf]; omega
        · have hbad : DivBad l := ⟨ps, r, hok, HF.out, h0, by rw [← Hx.out]; omega⟩
          have HBad := Lib.hid hbad
          clear hbad
          go_wp2_with fail
          all_goals first
            | (exfalso; omega)
            | (go_ret2; exact ⟨Hb.out, .inr (.inr ⟨by rw [HL.out]; exact hsmall, HBad.out, rfl⟩)⟩)

end Go.Proofs.Ytojifdijcanbpaa
