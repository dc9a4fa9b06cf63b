/- Bytes are divided in one way only: plain lists. -/
import Derived.Test.YtojifdijcanbpaaDiv
namespace Go.Proofs.Ytojifdijcanbpaa

def cut : Nat → List Int → Option (List (List Int))
  | _, [] => some []
  | 0, _ :: _ => none
  | f + 1, x :: t => if 2 ≤ x ∧ x ≤ (t.length : Int) + 1 then (cut f ((x :: t).drop x.toNat)).map ((x :: t).take x.toNat :: ·) else none

theorem cut_parts : ∀ (ps : List (List Int)) (r : List Int) (f : Nat), (∀ p ∈ ps, okPart p) → (ps.flatten ++ r).length ≤ f → ∃ g, r.length ≤ g ∧ cut f (ps.flatten ++ r) = (cut g r).map (ps ++ ·)
  | [], r, f, _, hf => ⟨f, by simpa using hf, by simp⟩
  | p :: ps, r, f, hok, hf => by
    obtain ⟨h2, hh⟩ := hok p (by simp)
    match p, h2, hh with
    | x :: t, h2, hh =>
      simp only [List.head?_cons, Option.some.injEq, List.length_cons] at hh h2
      have hx : x.toNat = t.length + 1 := by omega
      match f, hf with
      | 0, hf => simp at hf
      | f + 1, hf =>
        simp only [List.flatten_cons, List.cons_append, List.append_assoc, List.length_cons, List.length_append] at hf
        obtain ⟨g, hg, e⟩ := cut_parts ps r f (fun q hq => hok q (List.mem_cons_of_mem _ hq)) (by simp only [List.length_append]; omega)
        refine ⟨g, hg, ?_⟩
        simp only [List.flatten_cons, List.cons_append, List.append_assoc, cut]
        rw [if_pos (by simp only [List.length_append]; omega)]
        have e1 : (x :: (t ++ (ps.flatten ++ r))).drop x.toNat = ps.flatten ++ r := by rw [hx]; simp
        have e2 : (x :: (t ++ (ps.flatten ++ r))).take x.toNat = x :: t := by rw [hx]; simp
        rw [e1, e2, e, Option.map_map]
        rfl

theorem cut_ok {l : List Int} {ps : List (List Int)} (h : DivOk l ps) {f : Nat} (hf : l.length ≤ f) : cut f l = some ps := by
  obtain ⟨hok, hl⟩ := h
  obtain ⟨g, _, e⟩ := cut_parts ps [] f hok (by simpa [hl] using hf)
  rw [List.append_nil, hl] at e
  rw [e]
  cases g <;> simp [cut]
theorem cut_bad {l : List Int} (h : DivBad l) {f : Nat} (hf : l.length ≤ f) : cut f l = none := by
  obtain ⟨ps, r, hok, hl, hne, hb⟩ := h
  obtain ⟨g, hg, e⟩ := cut_parts ps r f hok (by rw [hl]; exact hf)
  rw [hl] at e
  rw [e]
  match r, g, hne, hg, hb with
  | x :: t, 0, _, hg, _ => simp at hg
  | x :: t, g + 1, _, _, hb =>
    simp only [List.headD_cons, List.length_cons] at hb
    simp only [cut]
    rw [if_neg (by omega)]
    rfl
end Go.Proofs.Ytojifdijcanbpaa
