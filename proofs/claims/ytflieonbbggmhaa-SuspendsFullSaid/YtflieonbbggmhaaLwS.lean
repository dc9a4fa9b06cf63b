/- Suspends: the law of the full list, in plain words. Plain theorems, no condition. -/
import Derived.Test.YtflieonbbggmhaaSU5
import Derived.Test.YtflieonbbggmhaaPf1
import Derived.Test.YtflieonbbggmhaaXE16
set_option linter.unusedVariables false
set_option linter.unusedSimpArgs false
namespace Go.Proofs.Ytflieonbbggmhaa
open Go.RowKit

set_option maxRecDepth 1000000 in
theorem lives7 : p8 6000 = some true := by kernel_rfl
/-- The path of a place. -/
def pth (c : Int) : List Int :=
  if c ≥ 56 then [1 + (c - 56) / 49, 1 + (c - 56) / 7 % 7, 1 + (c - 56) % 7] else if c ≥ 7 then [1 + (c - 7) / 7 % 7, 1 + (c - 7) % 7] else [1 + c % 7]
def insP (p : List Int) : List (List Int) → List (List Int)
  | [] => [p]
  | x :: g => if x < p then x :: insP p g else p :: x :: g
def fitB (g : List (List Int)) (p : List Int) : Bool :=
  decide (1 ≤ p.length) && (decide (p.length ≤ 6) && (p.all (fun x => decide (1 ≤ x) && decide (x ≤ 7)) && (g.all (fun q => !decide (q = p)) && (!decide (1 < p.length) || g.any fun q => decide (q = p.dropLast)) && decide (g.length < 127))))
def chk : Nat → Nat → List (List Int) → Option (List (List Int))
  | 0, _, g => some g
  | m + 1, c, g => if fitB g (pth c) then chk m (c + 1) (insP (pth c) g) else none
def keepP (p q : List Int) : Bool := !(decide (q = p) || decide (thr q p))
def finB (g : List (List Int)) : Bool :=
  decide (g.length = 127) && (g.all (fun q => !decide (q = [7, 7, 1])) && (g.any (fun q => decide (q = [7, 7])) && (List.range 6).all fun r => ((g.filter (keepP (g.getD (125 - r) []))).length == 126) && fitB (g.filter (keepP (g.getD (125 - r) []))) [7, 7, 1]))
set_option maxRecDepth 1000000 in
theorem fin_ok : ((chk 127 0 []).map finB) = some true := by kernel_rfl
theorem chk_succ {m c : Nat} {g r : List (List Int)} (h : chk (m + 1) c g = some r) : fitB g (pth c) = true ∧ chk m (c + 1) (insP (pth c) g) = some r := by
  unfold chk at h
  cases e : fitB g (pth c) with
  | true => rw [e, if_pos rfl] at h; exact ⟨rfl, h⟩
  | false => rw [e, if_neg (by decide)] at h; cases h
theorem fits_of {l : List Nd} {p : List Int} (h : fitB (l.map pa) p = true) : Fits l p := by
  unfold fitB at h
  simp only [Bool.and_eq_true, Bool.or_eq_true, Bool.not_eq_true', decide_eq_true_eq, decide_eq_false_iff_not, List.all_eq_true, List.any_eq_true, List.length_map] at h
  obtain ⟨h1, h2, h3, ⟨h4, h5⟩, h6⟩ := h
  refine ⟨⟨⟨h1, h2⟩, h3⟩, fun x hx => h4 _ (List.mem_map_of_mem hx), fun hl => ?_, h6⟩
  rcases h5 with h5 | ⟨q, hq, e⟩
  · exact absurd hl h5
  · obtain ⟨x, hx, rfl⟩ := List.mem_map.1 hq
    exact ⟨x, hx, e⟩
theorem ins_eq (p : List Int) : ∀ l : List Nd, insP p (l.map pa) = (l.map pa).take (bef p l) ++ p :: (l.map pa).drop (bef p l)
  | [] => rfl
  | x :: l => by
    rw [List.map_cons]
    unfold insP bef
    by_cases h : pa x < p
    · rw [if_pos h, if_pos h, ins_eq p l]; rfl
    · rw [if_neg h, if_neg h]; rfl
theorem putL_pa (l : List Nd) (p : List Int) (wk : Bool) : (putL l p wk).map pa = insP p (l.map pa) := by
  unfold putL
  rw [ins_eq, List.map_map, List.map_append, List.map_cons, List.map_take, List.map_drop, List.map_map]
  have e : (pa ∘ ownN) ∘ (fun x => awN p (ownN x)) = pa := by
    funext x
    show pa (awN p (ownN x)) = pa x
    rw [awN_pa]; rfl
  rw [e]; rfl
theorem putL_len (l : List Nd) (p : List Int) (wk : Bool) : (putL l p wk).length = l.length + 1 := by
  have := bef_le p l
  unfold putL
  rw [List.length_map, List.length_append, List.length_cons, List.length_take, List.length_drop, List.length_map]
  omega
def Awake (l : List Nd) : Prop := ∀ x ∈ l, asl x = false
theorem Awake.ords_nil {l : List Nd} (h : Awake l) (p : List Int) : ords p l = [] := by
  unfold ords
  rw [List.filter_eq_nil_iff.2 (fun x hx => by unfold wak; rw [h x hx, Bool.false_and]; decide)]
  rfl
theorem Awake.put {l : List Nd} (h : Awake l) (p : List Int) (wk : Bool) : Awake (putL l p wk) := fun x hx => by
  unfold putL at hx
  obtain ⟨y, hy, rfl⟩ := List.mem_map.1 hx
  show asl y = false
  rcases List.mem_append.1 hy with hy | hy
  · obtain ⟨z, hz, rfl⟩ := List.mem_map.1 (List.mem_of_mem_take hy)
    rw [awN_asl, show asl (ownN z) = asl z from rfl, h z hz, Bool.false_and]
  · rcases List.mem_cons.1 hy with rfl | hy
    · rfl
    · obtain ⟨z, hz, rfl⟩ := List.mem_map.1 (List.mem_of_mem_drop hy)
      rw [awN_asl, show asl (ownN z) = asl z from rfl, h z hz, Bool.false_and]
theorem w8 {z : Int} (h : 0 ≤ z ∧ z ≤ 255) : IntKind.wrap .u8 z = z := by rw [wrap_u8]; omega
theorem pth_eq {α : Type} {c : Nat} (h : c < 127) (f : Sl Int → Option α) : ((remI .i64 (c : Int) 7).bind fun x_18 => (if (decide ((c : Int) ≥ 7)) then ((ckI .i64 ((c : Int) - 7)).bind fun x_26 => (quoI .i64 x_26 7).bind fun x_27 => (remI .i64 x_27 7).bind fun x_28 => (ckI .i64 ((c : Int) - 7)).bind fun x_29 => (remI .i64 x_29 7).bind fun x_30 => some (⟨[IntKind.wrap .u8 (1 + (IntKind.wrap .u8 x_28)), IntKind.wrap .u8 (1 + (IntKind.wrap .u8 x_30))], some 2⟩ : Sl (Int))) else some (⟨[IntKind.wrap .u8 (1 + (IntKind.wrap .u8 x_18))], some 1⟩ : Sl (Int))).bind fun (j_23 : (Sl (Int))) => (if (decide ((c : Int) ≥ 56)) then ((ckI .i64 ((c : Int) - 56)).bind fun x_39 => (quoI .i64 x_39 49).bind fun x_40 => (ckI .i64 ((c : Int) - 56)).bind fun x_41 => (quoI .i64 x_41 7).bind fun x_42 => (remI .i64 x_42 7).bind fun x_43 => (ckI .i64 ((c : Int) - 56)).bind fun x_44 => (remI .i64 x_44 7).bind fun x_45 => some (⟨[IntKind.wrap .u8 (1 + (IntKind.wrap .u8 x_40)), IntKind.wrap .u8 (1 + (IntKind.wrap .u8 x_43)), IntKind.wrap .u8 (1 + (IntKind.wrap .u8 x_45))], some 3⟩ : Sl (Int))) else some j_23).bind f) = f ⟨pth c, some (pth c).length⟩ := by
  rw [remS (by omega) (by decide) (by omega), Option.bind_some]
  unfold pth
  by_cases h56 : (c : Int) ≥ 56
  · rw [if_pos (decide_eq_true (show (c : Int) ≥ 7 by omega)), ckS (by omega) (by omega), Option.bind_some, quoS (by omega) (by decide) (by omega), Option.bind_some, remS (by omega) (by decide) (by omega), Option.bind_some, Option.bind_some, remS (by omega) (by decide) (by omega), Option.bind_some, Option.bind_some]
    rw [if_pos (decide_eq_true h56), ckS (by omega) (by omega), Option.bind_some, quoS (by omega) (by decide) (by omega), Option.bind_some, Option.bind_some, quoS (by omega) (by decide) (by omega), Option.bind_some, remS (by omega) (by decide) (by omega), Option.bind_some, Option.bind_some, remS (by omega) (by decide) (by omega), Option.bind_some, Option.bind_some, if_pos h56]
    rw [w8 (z := ((c : Int) - 56) / 49) (by omega), w8 (z := ((c : Int) - 56) / 7 % 7) (by omega), w8 (z := ((c : Int) - 56) % 7) (by omega), w8 (z := 1 + ((c : Int) - 56) / 49) (by omega), w8 (z := 1 + ((c : Int) - 56) / 7 % 7) (by omega), w8 (z := 1 + ((c : Int) - 56) % 7) (by omega)]
    rfl
  · by_cases h7 : (c : Int) ≥ 7
    · rw [if_pos (decide_eq_true h7), ckS (by omega) (by omega), Option.bind_some, quoS (by omega) (by decide) (by omega), Option.bind_some, remS (by omega) (by decide) (by omega), Option.bind_some, Option.bind_some, remS (by omega) (by decide) (by omega), Option.bind_some, Option.bind_some, if_neg (by rw [decide_eq_true_eq]; exact h56), Option.bind_some, if_neg h56, if_pos h7]
      rw [w8 (z := ((c : Int) - 7) / 7 % 7) (by omega), w8 (z := ((c : Int) - 7) % 7) (by omega), w8 (z := 1 + ((c : Int) - 7) / 7 % 7) (by omega), w8 (z := 1 + ((c : Int) - 7) % 7) (by omega)]
      rfl
    · rw [if_neg (by rw [decide_eq_true_eq]; exact h7), Option.bind_some, if_neg (by rw [decide_eq_true_eq]; exact h56), Option.bind_some, if_neg h56, if_neg h7, w8 (z := (c : Int) % 7) (by omega), w8 (z := 1 + (c : Int) % 7) (by omega)]
      rfl
theorem p7_l1_eq {n : Nat} (hn : 300 ≤ n) {r : List (List Int)} : ∀ (m c : Nat) (k : Nat) (l : List Nd) (cp : Option Nat), c + m = 127 → m < k → V l → Awake l → l.length = c → chk m c (l.map pa) = some r →
    ∃ l' cp', p7_l1 n k c ⟨l, cp⟩ = some (.inl ⟨l', cp'⟩) ∧ V l' ∧ Awake l' ∧ l'.map pa = r
  | _, _, 0, _, _, _, h, _, _, _, _ => absurd h (by omega)
  | 0, c, k + 1, l, cp, hc, hk, hV, hA, hl, h => by
    unfold p7_l1
    rw [if_neg (by rw [decide_eq_true_eq]; omega)]
    exact ⟨l, cp, rfl, hV, hA, Option.some.inj h⟩
  | m + 1, c, k + 1, l, cp, hc, hk, hV, hA, hl, h => by
    obtain ⟨h1, h2⟩ := chk_succ h
    have hf := fits_of h1
    unfold p7_l1
    rw [if_pos (decide_eq_true (show (c : Int) < 127 by omega)), pth_eq (by omega), p15_ok hn hV hf, Option.bind_some, hA.ords_nil]
    dsimp only
    rw [bne_self_eq_false, if_pos (by rfl), ckS (by omega) (by omega), Option.bind_some, lenI_mk, putL_len, hl, castS, bne_self_eq_false, Option.bind_some, if_pos (by rfl), show lenI (⟨[], some ([] : List (Sl Int × Bool)).length⟩ : Sl (Sl Int × Bool)) = 0 from rfl, bne_self_eq_false, Option.bind_some, if_neg (by decide), Option.bind_some]
    exact p7_l1_eq hn m (c + 1) k _ _ (by omega) (by omega) (hV.put hf _) (hA.put _ _) (by rw [putL_len, hl]) (by rw [putL_pa]; exact h2)
theorem keep_pa (p : List Int) (l : List Nd) : (l.filter (keepN p)).map pa = (l.map pa).filter (keepP p) := by
  rw [List.filter_map]; rfl
theorem takeL_pa (p : List Int) (l : List Nd) : (takeL l p).map pa = (l.map pa).filter (keepP p) := by
  rw [← keep_pa]
  unfold takeL
  rw [List.map_map]; rfl
theorem p7_law {q : Int} (G0 : InR .u8 q) : p7 6000 q = some true := by
  have hq := inR_u8.1 G0
  obtain ⟨r, hr, hf⟩ : ∃ r, chk 127 0 [] = some r ∧ finB r = true := by
    have := fin_ok
    cases e : chk 127 0 [] with
    | none => rw [e] at this; cases this
    | some r => rw [e] at this; exact ⟨r, rfl, Option.some.inj this⟩
  obtain ⟨l, cp, h1, hV, hA, hpa⟩ := p7_l1_eq (n := 6000) (by decide) 127 0 6000 [] (some 0) rfl (by decide) V.nil (fun x hx => by cases hx) rfl hr
  unfold finB at hf
  simp only [Bool.and_eq_true, Bool.not_eq_true', decide_eq_true_eq, decide_eq_false_iff_not, List.all_eq_true, List.any_eq_true, beq_iff_eq, List.mem_range] at hf
  obtain ⟨f1, f2, ⟨t, ft, rfl⟩, f4⟩ := hf
  have hlen : l.length = 127 := by rw [← List.length_map (f := pa), hpa]; exact f1
  unfold p7
  rw [show p7_l1 6000 6000 0 (⟨[], some 0⟩ : Sl Nd) = _ from h1, Option.bind_some, lrKl]
  have hok : okP [7, 7, 1] := by decide
  have hnew : ∀ x ∈ l, pa x ≠ [7, 7, 1] := fun x hx => f2 _ (by rw [← hpa]; exact List.mem_map_of_mem hx)
  have hup : ∃ x ∈ l, pa x = [7, 7] := by
    rw [← hpa] at ft
    obtain ⟨x, hx, e⟩ := List.mem_map.1 ft
    exact ⟨x, hx, e⟩
  obtain ⟨e, _, b1, _, b3⟩ := p15_bad (n := 6000) (by decide) (c := cp) hV (p := ⟨[7, 7, 1], some 3⟩) (by decide) (fun f => by have := f.room; omega) false
  have he : e = 9 := b3 hok hnew (fun _ => hup)
  subst he
  rw [b1, Option.bind_some, lenI_mk, hlen, ckS (by decide) (by decide), Option.bind_some, rem8 hq (by decide), Option.bind_some, ckS (by omega) (by omega), Option.bind_some]
  obtain ⟨k, hk, hk6⟩ : ∃ k : Nat, q % 6 = k ∧ k < 6 := ⟨(q % 6).toNat, by omega, by omega⟩
  have hkl : 125 - k < l.length := by omega
  rw [hk, show ((127 : Nat) : Int) - 2 - (k : Int) = ((125 - k : Nat) : Int) by omega, show idx (⟨l, cp⟩ : Sl Nd).xs ((125 - k : Nat) : Int) = some _ from idxE hkl, Option.bind_some]
  obtain ⟨g1, g2⟩ := f4 k hk6
  have hg : r.getD (125 - k) [] = pa l[125 - k] := by
    rw [← hpa, List.getD_eq_getElem?_getD, List.getElem?_map, List.getElem?_eq_getElem hkl]; rfl
  rw [hg, ← hpa, ← takeL_pa] at g1 g2
  rw [List.length_map] at g1
  have hf2 := fits_of g2
  have hV2 := hV.take (pa l[125 - k])
  rcases p16_eq (n := 6000) (by decide) (c := cp) hV (p := l[125 - k].1) (by have := hV.plen _ (List.getElem_mem hkl); show (pa l[125 - k]).length ≤ 200; omega) with ⟨q1, _⟩ | ⟨_, q2⟩
  · exact absurd rfl (q1 _ (List.getElem_mem hkl))
  rw [q2, Option.bind_some]
  dsimp only
  rw [show l[125 - k].1.xs = pa l[125 - k] from rfl, p15_ok (by decide) hV2 (p := ⟨[7, 7, 1], some 3⟩) hf2, Option.bind_some, lenI_mk, g1]
  dsimp only
  rw [lenI_mk, putL_len, g1, lives7]
  rw [p19_ok (by decide) (hV2.put hf2 false)]
  rfl
end Go.Proofs.Ytflieonbbggmhaa
