/- The rules of the walk over plain data, more: a part of a part that holds a slice of one's own; data whose capacities are not known. Plain theorems, no condition. -/
import Derived.Test.YtlgalcekkffhnaaXE26
set_option linter.unusedVariables false
set_option linter.unusedSimpArgs false
namespace Go.Proofs.Ytlgalcekkffhnaa
open Go.RowKit

/-- A part of a datum that may be replaced by one of another type. -/
def Lx (t s t' s' : GT) (get : PT t → PT s) (set : PT s' → PT t → PT t') : Prop :=
  ∀ w K cs x, RepCs t w K cs x → ∃ c1 c c2, cs = c1 ++ c ++ c2 ∧ RepCs s w K c (get x) ∧ ∀ cn y, cn.length = c.length → RepCs s' w K cn y → RepCs t' w K (c1 ++ cn ++ c2) (set y x)
theorem Lx.here {s s' : GT} : Lx s s s' s' id (fun y _ => y) := fun w K cs x h => ⟨[], cs, [], by simp, h, fun cn y _ hy => by simpa using hy⟩
theorem Lx.st {f s f' s' : GT} {get : PT f → PT s} {set : PT s' → PT f → PT f'} (h : Lx f s f' s' get set) : Lx (.st f) s (.st f') s' get set := h
theorem Lx.left {a b s a' s' : GT} {get : PT a → PT s} {set : PT s' → PT a → PT a'} (h : Lx a s a' s' get set) : Lx (.pair a b) s (.pair a' b) s' (fun x => get x.1) (fun y x => (set y x.1, x.2)) := by
  rintro w K cs x ⟨c1, c2, e, h1, h2⟩
  obtain ⟨d1, d, d2, e', er, es⟩ := h w K c1 x.1 h1
  exact ⟨d1, d, d2 ++ c2, by rw [e, e']; simp, er, fun cn y hl hy => ⟨d1 ++ cn ++ d2, c2, by simp, es cn y hl hy, h2⟩⟩
theorem Lx.right {a b s b' s' : GT} {get : PT b → PT s} {set : PT s' → PT b → PT b'} (h : Lx b s b' s' get set) : Lx (.pair a b) s (.pair a b') s' (fun x => get x.2) (fun y x => (x.1, set y x.2)) := by
  rintro w K cs x ⟨c1, c2, e, h1, h2⟩
  obtain ⟨d1, d, d2, e', er, es⟩ := h w K c2 x.2 h2
  exact ⟨c1 ++ d1, d, d2, by rw [e, e']; simp, er, fun cn y hl hy => ⟨c1, d1 ++ cn ++ d2, by simp, h1, es cn y hl hy⟩⟩
section
variable {w : World} {K : Nat → Prop} {b n : Nat} {t t' e : GT} {T : TypeId} {L : List (Option Nat)}
theorem Lx.toRaw {get : PT t → PT (.sl e)} {set : Value → PT t → PT t'} (ln : Lx t (.sl e) t' .raw get set) {cs : List Value} {x : PT t} (h : RepCs t w K cs x) : ∃ v, RepCs t' w K cs (set v x) := by
  obtain ⟨c1, c, c2, rfl, ⟨A, n, c0, rfl, _⟩, es⟩ := ln w K cs x h
  exact ⟨_, es [.slice A n c0] (.slice A n c0) rfl ⟨rfl, A, n, c0, rfl⟩⟩
theorem Lx.unraw {get : PT t → Value} {set : PT (.sl e) → PT t → PT t'} (ln : Lx t .raw t' (.sl e) get set) {cs : List Value} {x : PT t} {y : Sl (PT e)} (h : RepCs t w K cs x) (hv : RepV (.sl e) w K (get x) y) : RepCs t' w K cs (set y x) := by
  obtain ⟨c1, c, c2, rfl, ⟨rfl, _⟩, es⟩ := ln w K cs x h
  obtain ⟨cs, ⟨A, n, c0, rfl, h3⟩, e1⟩ := hv
  have e1 : get x = .slice A n c0 := e1
  rw [e1]
  exact es [.slice A n c0] y rfl ⟨A, n, c0, rfl, h3⟩
theorem Bx.toRawX {get : PT t → PT (.sl e)} {set : Value → PT t → PT t'} (ln : Lx t (.sl e) t' .raw get set) {x : PT t} (h : Bx t T w K b x) : ∃ v, Bx t' T w K b (set v x) := by
  obtain ⟨cs, h1, h2⟩ := h
  obtain ⟨v, hv⟩ := ln.toRaw h2
  exact ⟨v, cs, h1, hv⟩
theorem Bx.unrawX {get : PT t → Value} {set : PT (.sl e) → PT t → PT t'} (ln : Lx t .raw t' (.sl e) get set) {x : PT t} {y : Sl (PT e)} (h : Bx t T w K b x) (hv : RepV (.sl e) w K (get x) y) : Bx t' T w K b (set y x) := by
  obtain ⟨cs, h1, h2⟩ := h
  exact ⟨cs, h1, ln.unraw h2 hv⟩
theorem RepV.unrawX {get : PT t → Value} {set : PT (.sl e) → PT t → PT t'} (ln : Lx t .raw t' (.sl e) get set) (ha : t.agg = true) (ha' : t'.agg = true) {u : Value} {x : PT t} {y : Sl (PT e)} (h : RepV t w K u x) (hv : RepV (.sl e) w K (get x) y) : RepV t' w K u (set y x) := by
  obtain ⟨cs, h1, h2⟩ := h
  rw [ha, if_pos rfl] at h2
  exact ⟨cs, ln.unraw h1 hv, by rw [ha', if_pos rfl]; exact h2⟩
end

theorem addr_add1 (b m : Nat) : (⟨b, 0, .none⟩ : Addr).add m = ⟨b, m, .none⟩ := by rw [addr_add, Nat.zero_add]
theorem addr_add2 (b m n : Nat) : ((⟨b, 0, .none⟩ : Addr).add m).add n = ⟨b, m + n, .none⟩ := by rw [addr_add1, addr_add]
theorem addr_add3 (b m n k : Nat) : (((⟨b, 0, .none⟩ : Addr).add m).add n).add k = ⟨b, m + (n + k), .none⟩ := by rw [addr_add2, addr_add, Nat.add_assoc]
instance slDec {α : Type} [DecidableEq α] : DecidableEq (Sl α) := fun a b =>
  if h : a.xs = b.xs ∧ a.cap = b.cap then isTrue (by obtain ⟨x, c⟩ := a; obtain ⟨y, d⟩ := b; obtain ⟨h1, h2⟩ := h; simp only at h1 h2; rw [h1, h2]) else isFalse (by rintro rfl; exact h ⟨rfl, rfl⟩)
/-- The datum whose capacities are not known. -/
def fgc : (t : GT) → PT t → PT t
  | .int _, x => x
  | .bool, x => x
  | .str, x => x
  | .sl e, x => ⟨x.xs.map (fgc e), .none⟩
  | .st f, x => fgc f x
  | .pair a b, x => (fgc a x.1, fgc b x.2)
  | .arr _ e, x => x.map (fgc e)
  | .raw, x => x
theorem RepCs.fgc {w : World} {K : Nat → Prop} : ∀ {t : GT} {cs : List Value} {x : PT t}, RepCs t w K cs x → RepCs t w K cs (fgc t x)
  | .int _, _, _, h => h
  | .bool, _, _, h => h
  | .str, _, _, h => h
  | .sl e, _, x, ⟨A, n, c, h0, h1, h2, h3, h4, h5⟩ => by
    refine ⟨A, n, c, h0, by simpa [Proofs.Ytlgalcekkffhnaa.fgc] using h1, h2, h3, (fun k hk => by cases hk), ?_⟩
    rcases h5 with h5 | ⟨b, off, e1, e2, e3, e4⟩
    · exact .inl (by simp [Proofs.Ytlgalcekkffhnaa.fgc, h5])
    · refine .inr ⟨b, off, e1, e2, e3, fun j y hj => ?_⟩
      have hj : (x.xs.map (Proofs.Ytlgalcekkffhnaa.fgc e))[j]? = some y := hj
      rw [List.getElem?_map, Option.map_eq_some_iff] at hj
      obtain ⟨z, hz, rfl⟩ := hj
      obtain ⟨cs, f1, f2, f3⟩ := e4 j z hz
      exact ⟨cs, RepCs.fgc (t := e) f1, f2, f3⟩
  | .st f, _, _, h => RepCs.fgc (t := f) h
  | .pair a b, _, _, ⟨c1, c2, h, h1, h2⟩ => ⟨c1, c2, h, RepCs.fgc (t := a) h1, RepCs.fgc (t := b) h2⟩
  | .arr n e, _, x, ⟨hx, css, h, hl, hr⟩ => ⟨by simpa [Proofs.Ytlgalcekkffhnaa.fgc] using hx, css, h, hl, fun j c y hc hy => by
      have hy : (x.map (Proofs.Ytlgalcekkffhnaa.fgc e))[j]? = some y := hy
      rw [List.getElem?_map, Option.map_eq_some_iff] at hy
      obtain ⟨z, hz, rfl⟩ := hy
      exact RepCs.fgc (t := e) (hr j c z hc hz)⟩
  | .raw, _, _, h => h
section
variable {w : World} {K : Nat → Prop} {b n : Nat} {t e : GT} {T E : TypeId} {L : List (Option Nat)}
theorem RepV.fg {v : Value} {x : PT t} (h : RepV t w K v x) : RepV t w K v (fgc t x) := by
  obtain ⟨cs, h1, h2⟩ := h
  exact ⟨cs, h1.fgc, h2⟩
theorem Ow.fg {v : Value} {xs : List (PT e)} {c : Option Nat} (h : Ow e E w n K v xs c) : Ow e E w n K v (xs.map (fgc e)) c := by
  obtain ⟨cs, h1, h2, h3⟩ := h
  refine ⟨cs, by rw [List.length_map]; exact h1, ?_, h3⟩
  have := RepCs.fgc (t := .arr xs.length e) h2
  rw [List.length_map]
  exact this
end
theorem unkJ {α β γ : Type} {c : Prop} [Decidable c] {b : Option α} {g : α → β → Prop} [∀ a b, Decidable (g a b)] {z : β} {y : γ} {f : β → γ} (h : (if c then b.bind (fun q => if g q z then some (f z) else .none) else some (f z)) = some y) : y = f z := by
  split at h
  · obtain ⟨q, hq, h⟩ := bindS h
    split at h
    · exact (Option.some.inj h).symm
    · cases h
  · exact (Option.some.inj h).symm
end Go.Proofs.Ytlgalcekkffhnaa
