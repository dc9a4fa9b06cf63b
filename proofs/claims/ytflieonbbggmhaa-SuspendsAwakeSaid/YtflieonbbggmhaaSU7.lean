/- Suspends in plain words: orders, one behind another. Plain theorems, no condition. -/
import Derived.Test.YtflieonbbggmhaaSU5
set_option linter.unusedVariables false
set_option linter.unusedSimpArgs false
namespace Go.Proofs.Ytflieonbbggmhaa
open Go.RowKit

abbrev Ord := Sl Int × Bool
def updF (F : List Int → Bool) (q : List Int) (b : Bool) : List Int → Bool := fun s => if s = q then b else F s
theorem updF_same (F : List Int → Bool) (q : List Int) (b : Bool) : updF F q b q = b := if_pos rfl
theorem updF_other (F : List Int → Bool) {q s : List Int} (b : Bool) (h : s ≠ q) : updF F q b s = F s := if_neg h
/-- Each order meets what she finds, and leaves a tree. -/
def okRun (J : List Nd) : (List Int → Bool) → List Ord → Prop
  | _, [] => True
  | F, (q, w) :: O => (∃ x ∈ J, pa x = q.xs) ∧ F q.xs = w ∧ (∀ c ∈ J, ¬ ((!w) = true ∧ updF F q.xs (!w) (pa c) = false ∧ thr (pa c) q.xs) ∧ ¬ (updF F q.xs (!w) (pa c) = true ∧ (!w) = false ∧ thr q.xs (pa c))) ∧ okRun J (updF F q.xs (!w)) O
def endF : (List Int → Bool) → List Ord → List Int → Bool
  | F, [] => F
  | F, (q, w) :: O => endF (updF F q.xs (!w)) O
def old (l : List Nd) (s : List Int) : Bool := l.any fun x => decide (pa x = s) && asl x
theorem old_of {l : List Nd} (hs : l.Pairwise fun x y => pa x < pa y) {x : Nd} (hx : x ∈ l) : old l (pa x) = asl x := by
  unfold old
  cases e : asl x with
  | true => rw [List.any_eq_true]; exact ⟨x, hx, by rw [decide_eq_true rfl, e]; rfl⟩
  | false =>
    rw [List.any_eq_false]
    intro y hy
    by_cases q : pa y = pa x
    · rw [sorted_uniq hs y hy x hx q, e]; simp
    · rw [decide_eq_false q]; simp
theorem old_true {l : List Nd} {s : List Int} (h : old l s = true) : ∃ x ∈ l, pa x = s ∧ asl x = true := by
  unfold old at h
  obtain ⟨x, hx, e⟩ := List.any_eq_true.1 h
  simp only [Bool.and_eq_true, decide_eq_true_eq] at e
  exact ⟨x, hx, e⟩
theorem old_none {l : List Nd} {s : List Int} (h : ∀ x ∈ l, pa x ≠ s) : old l s = false := by
  cases e : old l s with
  | false => rfl
  | true => obtain ⟨x, hx, e, _⟩ := old_true e; exact absurd e (h x hx)
theorem endF_congr : ∀ (O : List Ord) (F G : List Int → Bool), (∀ s, F s = G s) → ∀ s, endF F O s = endF G O s
  | [], _, _, h, s => h s
  | (q, w) :: O, F, G, h, s => endF_congr O _ _ (fun t => by unfold updF; rw [h]) s
theorem okRun_congr {J : List Nd} : ∀ (O : List Ord) (F G : List Int → Bool), (∀ s, F s = G s) → okRun J F O → okRun J G O
  | [], _, _, _, _ => trivial
  | (q, w) :: O, F, G, h, ⟨h1, h2, h3, h4⟩ => by
    have hu : ∀ s, updF F q.xs (!w) s = updF G q.xs (!w) s := fun t => by unfold updF; rw [h]
    exact ⟨h1, by rw [← h]; exact h2, fun c hc => by rw [← hu]; exact h3 c hc, okRun_congr O _ _ hu h4⟩
theorem thr_lt {p q : List Int} (h : thr p q) : q < p := by
  obtain ⟨h1, h2⟩ := h
  have : p = q ++ p.drop q.length := by
    have e := List.take_append_drop q.length p
    rw [h2] at e; exact e.symm
  have hne : p.drop q.length ≠ [] := by
    intro e
    have := congrArg List.length e
    rw [List.length_drop] at this
    simp at this; omega
  rw [this]
  have key : ∀ (a b : List Int), b ≠ [] → a < a ++ b := by
    intro a
    induction a with
    | nil => intro b hb; cases b with
      | nil => exact absurd rfl hb
      | cons x b => exact List.nil_lt_cons _ _
    | cons x a ih => intro b hb; rw [List.cons_append]; exact List.cons_lt_cons_iff.2 (.inr ⟨rfl, ih b hb⟩)
  exact key q _ hne
theorem thr_tr {a b c : List Int} (h1 : thr a b) (h2 : thr b c) : thr a c := by
  refine ⟨Nat.lt_trans h2.1 h1.1, ?_⟩
  have := h2.2
  rw [← h1.2, List.take_take, Nat.min_eq_left (by have := h2.1; omega)] at this
  exact this
/-! ### Those that are woken -/
def mkW (x : Nd) : Ord := (⟨x.1.xs, some x.1.xs.length⟩, true)
def mkS (x : Nd) : Ord := (⟨x.1.xs, some x.1.xs.length⟩, false)
def hasP (D : List Nd) (s : List Int) : Bool := D.any fun x => decide (pa x = s)
theorem hasP_append (D E : List Nd) (s : List Int) : hasP (D ++ E) s = (hasP D s || hasP E s) := by unfold hasP; rw [List.any_append]
theorem hasP_true {D : List Nd} {s : List Int} : hasP D s = true ↔ ∃ x ∈ D, pa x = s := by
  unfold hasP
  rw [List.any_eq_true]
  constructor
  · rintro ⟨x, hx, e⟩; exact ⟨x, hx, of_decide_eq_true e⟩
  · rintro ⟨x, hx, e⟩; exact ⟨x, hx, decide_eq_true e⟩
theorem wake_run {l J : List Nd} (hV : V l) (hJ : ∀ x ∈ l, ∃ y ∈ J, pa y = pa x) (p : List Int) : ∀ (todo done : List Nd), l.filter (wak p) = done ++ todo →
    okRun J (fun s => old l s && !hasP done s) (todo.map mkW) ∧ ∀ s, endF (fun s => old l s && !hasP done s) (todo.map mkW) s = (old l s && !hasP (l.filter (wak p)) s)
  | [], done, h => ⟨trivial, fun s => by rw [h, List.append_nil]; rfl⟩
  | x :: todo, done, h => by
    have hso : (l.filter (wak p)).Pairwise fun x y => pa x < pa y := hV.sorted.filter _
    rw [h] at hso
    obtain ⟨_, hxt, hdx⟩ := List.pairwise_append.1 hso
    have hxm : x ∈ l.filter (wak p) := by rw [h]; simp
    obtain ⟨hxl, hxw⟩ := List.mem_filter.1 hxm
    have hnd : hasP done (pa x) = false := by
      cases e : hasP done (pa x) with
      | false => rfl
      | true =>
        obtain ⟨z, hz, e⟩ := hasP_true.1 e
        have := hdx z hz x (by simp)
        rw [e] at this
        exact absurd this (List.lt_irrefl _)
    have hu : ∀ s, updF (fun s => old l s && !hasP done s) (pa x) false s = (old l s && !hasP (done ++ [x]) s) := fun s => by
      unfold updF
      rw [hasP_append]
      by_cases q : s = pa x
      · rw [if_pos q, show hasP [x] s = true from hasP_true.2 ⟨x, by simp, q.symm⟩]; simp
      · rw [if_neg q]
        have : hasP [x] s = false := by
          cases e : hasP [x] s with
          | false => rfl
          | true =>
            obtain ⟨z, hz, e⟩ := hasP_true.1 e
            rw [List.mem_singleton.1 hz] at e
            exact absurd e.symm q
        rw [this, Bool.or_false]
    obtain ⟨i1, i2⟩ := wake_run hV hJ p todo (done ++ [x]) (by rw [h]; simp)
    refine ⟨⟨hJ x hxl, ?_, fun c hc => ⟨fun q => absurd q.1 (by decide), fun q => ?_⟩, okRun_congr _ _ _ (fun s => (hu s).symm) i1⟩, fun s => (endF_congr _ _ _ hu s).trans (i2 s)⟩
    · show (old l (pa x) && !hasP done (pa x)) = true
      rw [old_of hV.sorted hxl, wak_asl hxw, hnd]; rfl
    · obtain ⟨q1, _, q3⟩ := q
      have q1 : updF (fun s => old l s && !hasP done s) (pa x) false (pa c) = true := q1
      have q3 : thr (pa x) (pa c) := q3
      rw [hu, hasP_append] at q1
      obtain ⟨o1, o2⟩ := Bool.and_eq_true_iff.1 q1
      obtain ⟨z, hz, hzc, hza⟩ := old_true o1
      have hzw : wak p z = true := by
        unfold wak at hxw ⊢
        rw [hza, Bool.true_and, Bool.or_eq_true, hzc]
        obtain ⟨_, hxw⟩ := Bool.and_eq_true_iff.1 hxw
        right
        rcases Bool.or_eq_true_iff.1 hxw with e | e
        · rw [← of_decide_eq_true e]; exact decide_eq_true q3
        · exact decide_eq_true (thr_tr (of_decide_eq_true e) q3)
      have hzm : z ∈ done ++ x :: todo := by rw [← h]; exact List.mem_filter.2 ⟨hz, hzw⟩
      have hlt : pa z < pa x := by rw [hzc]; exact thr_lt q3
      rcases List.mem_append.1 hzm with e | e
      · rw [show hasP done (pa c) = true from hasP_true.2 ⟨z, e, hzc⟩] at o2; cases o2
      · rcases List.mem_cons.1 e with e | e
        · rw [e] at hlt; exact absurd hlt (List.lt_irrefl _)
        · exact absurd (List.lt_trans hlt ((List.pairwise_cons.1 hxt).1 z e)) (List.lt_irrefl _)
/-! ### Those that fall asleep -/
theorem sleep_run {l : List Nd} (hV : V l) (a : Int) {R : List Nd} (hR : R = l.reverse.filter (falls l a)) : ∀ (todo done : List Nd), R = done ++ todo →
    okRun l (fun s => old l s || hasP done s) (todo.map mkS) ∧ ∀ s, endF (fun s => old l s || hasP done s) (todo.map mkS) s = (old l s || hasP R s)
  | [], done, h => ⟨trivial, fun s => by rw [h, List.append_nil]; rfl⟩
  | x :: todo, done, h => by
    have hso : R.Pairwise fun x y => pa y < pa x := by rw [hR]; exact (List.pairwise_reverse.2 hV.sorted).filter _
    rw [h] at hso
    obtain ⟨_, hxt, hdx⟩ := List.pairwise_append.1 hso
    have hxm : x ∈ l.reverse.filter (falls l a) := by rw [← hR, h]; simp
    obtain ⟨hxl, hxf⟩ := List.mem_filter.1 hxm
    have hxl := List.mem_reverse.1 hxl
    unfold falls at hxf
    obtain ⟨hxf, _⟩ := Bool.and_eq_true_iff.1 hxf
    obtain ⟨hxa, hxn⟩ := Bool.and_eq_true_iff.1 hxf
    have hnd : hasP done (pa x) = false := by
      cases e : hasP done (pa x) with
      | false => rfl
      | true =>
        obtain ⟨z, hz, e⟩ := hasP_true.1 e
        have := hdx z hz x (by simp)
        rw [e] at this
        exact absurd this (List.lt_irrefl _)
    have hu : ∀ s, updF (fun s => old l s || hasP done s) (pa x) true s = (old l s || hasP (done ++ [x]) s) := fun s => by
      unfold updF
      rw [hasP_append]
      by_cases q : s = pa x
      · rw [if_pos q, show hasP [x] s = true from hasP_true.2 ⟨x, by simp, q.symm⟩]; simp
      · rw [if_neg q]
        have : hasP [x] s = false := by
          cases e : hasP [x] s with
          | false => rfl
          | true =>
            obtain ⟨z, hz, e⟩ := hasP_true.1 e
            rw [List.mem_singleton.1 hz] at e
            exact absurd e.symm q
        rw [this, Bool.or_false]
    obtain ⟨i1, i2⟩ := sleep_run hV a hR todo (done ++ [x]) (by rw [h]; simp)
    refine ⟨⟨⟨x, hxl, rfl⟩, ?_, fun c hc => ⟨fun q => ?_, fun q => absurd q.2.1 (by decide)⟩, okRun_congr _ _ _ (fun s => (hu s).symm) i1⟩, fun s => (endF_congr _ _ _ hu s).trans (i2 s)⟩
    · show (old l (pa x) || hasP done (pa x)) = false
      rw [old_of hV.sorted hxl, hnd, show asl x = false from by simpa using hxa]; rfl
    · obtain ⟨_, q2, q3⟩ := q
      have q2 : updF (fun s => old l s || hasP done s) (pa x) true (pa c) = false := q2
      have q3 : thr (pa c) (pa x) := q3
      rw [hu] at q2
      obtain ⟨o1, _⟩ := Bool.or_eq_false_iff.1 q2
      rw [old_of hV.sorted hc] at o1
      have hn : needB l x = true := by
        unfold needB
        rw [Bool.or_eq_true, List.any_eq_true]
        exact .inr ⟨c, hc, by rw [o1, decide_eq_true q3]; rfl⟩
      rw [hn] at hxn
      cases hxn
end Go.Proofs.Ytflieonbbggmhaa
