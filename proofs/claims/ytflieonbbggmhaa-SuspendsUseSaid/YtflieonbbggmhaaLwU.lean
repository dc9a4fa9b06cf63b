/- Suspends: the law of use, in plain words. Plain theorems, no condition. -/
import Derived.Test.YtflieonbbggmhaaSU5
import Derived.Test.YtflieonbbggmhaaPu1
import Derived.Test.YtflieonbbggmhaaXE16
set_option linter.unusedVariables false
set_option linter.unusedSimpArgs false
namespace Go.Proofs.Ytflieonbbggmhaa
open Go.RowKit

set_option maxRecDepth 1000000 in
theorem lives : p8 6000 = some true := by kernel_rfl
theorem p6_l1_eq {n : Nat} (hn : 300 ≤ n) {x : Sl (Int × Int × Bool × Int)} (hx : ∀ a ∈ x.xs, okA a) (hl : x.xs.length ≤ 1000000) : ∀ (m k : Nat) (l : Sl Nd), k ≤ x.xs.length → x.xs.length - k < m → V l.xs → ∃ r : Sl Nd, p6_l1 n x m k l = some r ∧ V r.xs
  | 0, k, l, _, h, _ => absurd h (by omega)
  | m + 1, k, l, hk, hm, hV => by
    unfold p6_l1
    rw [len_def]
    by_cases hlt : k < x.xs.length
    · obtain ⟨r, h1, h2⟩ := p9_ok hn (c := l.cap) hV (hx _ (List.getElem_mem hlt))
      rw [if_pos (decide_eq_true (show (k : Int) < (x.xs.length : Int) by omega)), idxE hlt, Option.bind_some, show p9 n l x.xs[k] = some r from h1, Option.bind_some]
      by_cases he : r.2.2 = 0
      · rw [if_pos (by rw [he]; rfl), Option.bind_some, ckS (by omega) (by omega), Option.bind_some, castS]
        exact p6_l1_eq hn hx hl m (k + 1) _ (by omega) (by omega) (h2 he)
      · rw [if_neg (by simpa using he), Option.bind_some, ckS (by omega) (by omega), Option.bind_some, castS]
        exact p6_l1_eq hn hx hl m (k + 1) _ (by omega) (by omega) hV
    · rw [if_neg (by rw [decide_eq_true_eq]; omega)]
      exact ⟨l, rfl, hV⟩
theorem p21_same {n : Nat} (hn : 300 ≤ n) {o : List (Sl Int × Bool)} (h : o.length ≤ 200) (hp : ∀ x ∈ o, x.1.xs.length ≤ 200) : p21 n ⟨o, some o.length⟩ ⟨o, some o.length⟩ = some true := by
  have key : ∀ (m k : Nat), k ≤ o.length → o.length - k < m → p21_l1 n ⟨o, some o.length⟩ ⟨o, some o.length⟩ m k = some (.inl ()) := by
    intro m
    induction m with
    | zero => intro k _ h; exact absurd h (by omega)
    | succ m ih =>
      intro k hk hm
      unfold p21_l1
      rw [lenI_mk]
      by_cases hlt : k < o.length
      · rw [if_pos (decide_eq_true (show (k : Int) < (o.length : Int) by omega)), show idx (⟨o, some o.length⟩ : Sl (Sl Int × Bool)).xs (k : Int) = some o[k] from idxE hlt, Option.bind_some, Option.bind_some, p22_eq hn _ _ (.inl (hp _ (List.getElem_mem hlt))), Option.bind_some, decide_eq_true rfl, if_pos (by rfl), Option.bind_some, Option.bind_some, beq_self_eq_true, Option.bind_some, if_neg (by decide), ckS (by omega) (by omega), Option.bind_some, castS]
        exact ih (k + 1) (by omega) (by omega)
      · rw [if_neg (by rw [decide_eq_true_eq]; omega)]
  unfold p21
  rw [lenI_mk, bne_self_eq_false, if_pos (by rfl), show capO (⟨o, some o.length⟩ : Sl (Sl Int × Bool)) = some (o.length : Int) from rfl, Option.bind_some, bne_self_eq_false, Option.bind_some, if_neg (by decide)]
  rw [show p21_l1 n (⟨o, some o.length⟩ : Sl (Sl Int × Bool)) ⟨o, some o.length⟩ n 0 = _ from key n 0 (Nat.zero_le _) (by omega)]
  rfl
theorem ords_succ (p : List Int) {l : List Nd} {k : Nat} (h : k < l.length) : (ords p (l.take (k + 1))).length = (ords p (l.take k)).length + if wak p l[k] then 1 else 0 := by
  unfold ords
  rw [List.length_map, List.length_map, List.take_succ_eq_append_getElem h, List.filter_append, List.length_append]
  cases hw : wak p l[k] <;> simp [List.filter_cons, hw]
theorem wak_use {p : List Int} {x : Nd} : wak p (useN true p x) = wak p x := by
  unfold wak
  rw [useN_pa, useN_asl]
theorem p6_l2_eq {n : Nat} (hn : 300 ≤ n) {l : List Nd} {c : Option Nat} (h : V l) {p : Sl Int} {j : Nat} (hj : j < l.length) (hp : pa l[j] = p.xs) {t : Sl Nd × Sl (Sl Int × Bool) × Int} (ht : t.1.xs = l.map fun x => awN p.xs (useN true p.xs x)) : ∀ (m k : Nat), k ≤ l.length → l.length - k < m →
    p6_l2 n ⟨l, c⟩ p j t m k ((ords p.xs (l.take k)).length : Int) = some (.inl ((ords p.xs l).length : Int))
  | 0, k, _, hm => absurd hm (by omega)
  | m + 1, k, hk, hm => by
    have hl := h.len
    unfold p6_l2
    rw [lenI_mk]
    by_cases hlt : k < l.length
    · have hx := h.plen _ (List.getElem_mem hlt)
      have hol : (ords p.xs (l.take k)).length ≤ 200 := by
        unfold ords
        rw [List.length_map]
        have := List.length_filter_le (wak p.xs) (l.take k)
        rw [List.length_take] at this; omega
      have hkm : k < t.1.xs.length := by rw [ht, List.length_map]; exact hlt
      have hget : t.1.xs[k] = awN p.xs (useN true p.xs l[k]) := by
        have : t.1.xs[k]? = (l.map fun x => awN p.xs (useN true p.xs x))[k]? := by rw [ht]
        rw [List.getElem?_eq_getElem hkm, List.getElem?_map, List.getElem?_eq_getElem hlt] at this
        exact Option.some.inj this
      have hasl : asl t.1.xs[k] = (asl l[k] && !wak p.xs l[k]) := by rw [hget, awN_asl, useN_asl, wak_use]
      have hq : (if ((k : Int) == (j : Int)) = false then (idx (⟨l, c⟩ : Sl Nd).xs (k : Int)).bind fun y_103 => (p11 n y_103.1 p).bind fun t_109 => some t_109 else some true) = some (decide (pa l[k] = p.xs) || decide (thr p.xs (pa l[k]))) := by
        rw [show idx (⟨l, c⟩ : Sl Nd).xs (k : Int) = some l[k] from idxE hlt, Option.bind_some, p11_eq hn _ _ (by show (pa l[k]).length ≤ 200; omega), Option.bind_some]
        by_cases e : k = j
        · subst e
          rw [if_neg (by simp), hp, decide_eq_true rfl, Bool.true_or]
        · rw [if_pos (by rw [beq_eq_false_iff_ne]; omega), decide_eq_false (show ¬ pa l[k] = p.xs from fun q => e (sorted_eq h.sorted hlt hj (by rw [q, hp]))), Bool.false_or]; rfl
      have hs := ords_succ p.xs hlt
      rw [if_pos (decide_eq_true (show (k : Int) < (l.length : Int) by omega)), hq, Option.bind_some]
      rw [show idx (⟨l, c⟩ : Sl Nd).xs (k : Int) = some l[k] from idxE hlt, idxE hkm]
      rw [show idx (⟨l, c⟩ : Sl Nd).xs (k : Int) = some l[k] from idxE hlt] at hq
      have ih := p6_l2_eq hn (c := c) h hj hp ht m (k + 1) (by omega) (by omega)
      unfold wak at hs hasl
      cases e : (decide (pa l[k] = p.xs) || decide (thr p.xs (pa l[k]))) with
      | true =>
        rw [e, Bool.and_true] at hs hasl
        rw [if_pos rfl, Option.bind_some, Option.bind_some, show t.1.xs[k].2.2.2.1 = asl t.1.xs[k] from rfl, hasl, show l[k].2.2.2.1 = asl l[k] from rfl]
        cases ha : asl l[k] with
        | true =>
          rw [ha, if_pos rfl] at hs
          rw [if_neg (by decide), if_pos rfl, ckS (by omega) (by omega), Option.bind_some, Option.bind_some, Option.bind_some, lrKl, ckS (by omega) (by omega), Option.bind_some, castS, castS, ← hs]
          exact ih
        | false =>
          rw [ha, if_neg (by decide)] at hs
          rw [if_neg (by decide), if_neg (by decide), Option.bind_some, Option.bind_some, lrKl, ckS (by omega) (by omega), Option.bind_some, castS, ← Nat.add_zero (ords p.xs (l.take k)).length, ← hs]
          exact ih
      | false =>
        rw [e, Bool.and_false] at hs hasl
        rw [if_neg (by decide)] at hs
        rw [if_neg (by decide), Option.bind_some, Option.bind_some, show t.1.xs[k].2.2.2.1 = asl t.1.xs[k] from rfl, hasl, show l[k].2.2.2.1 = asl l[k] from rfl, Bool.not_false, Bool.and_true, beq_self_eq_true, if_neg (by decide), Option.bind_some, lrKl, ckS (by omega) (by omega), Option.bind_some, castS, ← Nat.add_zero (ords p.xs (l.take k)).length, ← hs]
        exact ih
    · obtain rfl : k = l.length := by omega
      rw [if_neg (by rw [decide_eq_true_eq]; omega), List.take_length]
theorem p6_law {x : Sl (Int × Int × Bool × Int)} {q : Int} (F : Fine (.sl (.st (.pair (.int .u8) (.pair (.int .u8) (.pair .bool (.int .u8)))))) x) (G1 : InR .u8 q) : p6 6000 x q = some true := by
  have hx : ∀ a ∈ x.xs, okA a := fun a ha => by
    obtain ⟨h1, h2, _, h4⟩ := F.2.2 a ha
    exact ⟨inR_u8.1 h1, inR_u8.1 h2, inR_u8.1 h4⟩
  unfold p6
  rw [len_def]
  by_cases hg : (x.xs.length : Int) > 40
  · rw [if_pos (decide_eq_true hg), lives]; rfl
  rw [if_neg (by rw [decide_eq_true_eq]; exact hg)]
  obtain ⟨⟨l, c⟩, h1, h⟩ := p6_l1_eq (n := 6000) (by decide) hx (by omega) 6000 0 ⟨[], some 0⟩ (Nat.zero_le _) (by omega) V.nil
  have h : V l := h
  have hl := h.len
  rw [show p6_l1 6000 x 6000 0 ⟨[], some 0⟩ = _ from h1, Option.bind_some]
  obtain ⟨p, hp, hok⟩ := p20_eq (n := 6000) (inR_u8.1 G1)
  have hpl : p.xs.length ≤ 200 := by have := hok.1.2; omega
  rw [hp, Option.bind_some]
  have hz : (ords p.xs l).length ≤ 200 := by
    unfold ords
    rw [List.length_map]
    have := List.length_filter_le (wak p.xs) l
    omega
  rcases p10_eq (n := 6000) (by decide) (c := c) (show l.length ≤ 200 by omega) hpl with ⟨e1, e2⟩ | ⟨j, hj, e1, e2⟩
  · rw [e1, Option.bind_some]
    rcases p17_eq (n := 6000) (by decide) (c := c) h hpl true with ⟨_, e3⟩ | ⟨⟨y, hy, hyp⟩, _⟩
    · rcases p18_eq (n := 6000) (by decide) (c := c) h hpl with ⟨_, e4⟩ | ⟨y, hy, hyp, _⟩
      · rw [e3, Option.bind_some, e4, Option.bind_some, lives]; rfl
      · exact absurd hyp (e2 y hy)
    · exact absurd hyp (e2 y hy)
  · rw [e1, Option.bind_some]
    rcases p17_eq (n := 6000) (by decide) (c := c) h hpl true with ⟨e3, _⟩ | ⟨_, e3⟩
    · exact absurd e2 (e3 _ (List.getElem_mem hj))
    rcases p18_eq (n := 6000) (by decide) (c := c) h hpl with ⟨e4, _⟩ | ⟨y, hy, hyp, e4⟩
    · exact absurd e2 (e4 _ (List.getElem_mem hj))
    obtain rfl : y = l[j] := sorted_uniq h.sorted y hy _ (List.getElem_mem hj) (by rw [hyp, e2])
    rw [if_pos rfl] at e3
    have hl2 := p6_l2_eq (n := 6000) (by decide) (c := c) h hj e2 (t := (⟨l.map fun x => awN p.xs (useN true p.xs x), some l.length⟩, ⟨ords p.xs l, some (ords p.xs l).length⟩, 0)) rfl 6000 0 (Nat.zero_le _) (by omega)
    have hjm : j < (l.map fun x => awN p.xs (useN true p.xs x)).length := by rw [List.length_map]; exact hj
    have hbusy : (awN p.xs (useN true p.xs l[j])).2.1 = true := by
      show busy _ = true
      rw [awN_busy]
      unfold useN
      rw [if_pos e2]; rfl
    rw [e3, Option.bind_some, e4, Option.bind_some, if_neg (by rw [decide_eq_true_eq]; omega)]
    dsimp only
    rw [lenI_mk, lenI_mk, List.length_map, bne_self_eq_false, if_pos (by rfl)]
    have eif : ∀ (b : Bool), (if ((if b = true then ((⟨l.map fun x => awN p.xs (ownN x), some l.length⟩, ⟨ords p.xs l, some (ords p.xs l).length⟩, 0) : Sl Nd × Sl (Sl Int × Bool) × Int) else (⟨[], some 0⟩, ⟨[], some 0⟩, 6)).2.2 == 0) = true then some (lenI (⟨(if b = true then ((⟨l.map fun x => awN p.xs (ownN x), some l.length⟩, ⟨ords p.xs l, some (ords p.xs l).length⟩, 0) : Sl Nd × Sl (Sl Int × Bool) × Int) else (⟨[], some 0⟩, ⟨[], some 0⟩, 6)).1.xs, (if b = true then ((⟨l.map fun x => awN p.xs (ownN x), some l.length⟩, ⟨ords p.xs l, some (ords p.xs l).length⟩, 0) : Sl Nd × Sl (Sl Int × Bool) × Int) else (⟨[], some 0⟩, ⟨[], some 0⟩, 6)).1.cap⟩ : Sl Nd) != (l.length : Int)) else some false) = some false := fun b => by
      cases b with
      | false => rfl
      | true =>
        rw [if_pos rfl]
        dsimp only
        rw [lenI_mk, List.length_map, bne_self_eq_false]; rfl
    rw [eif, Option.bind_some, Option.bind_some, if_neg (by decide)]
    rw [show p6_l2 6000 (⟨l, c⟩ : Sl Nd) p (j : Int) _ 6000 0 0 = _ from hl2, Option.bind_some, lrKl]
    rw [lenI_mk, bne_self_eq_false, bne_self_eq_false, if_pos (by rfl), Option.bind_some, if_pos (by rfl), show idx (l.map fun x => awN p.xs (useN true p.xs x)) (j : Int) = some _ from idxE hjm, Option.bind_some, List.getElem_map, hbusy, Bool.not_true, Option.bind_some, if_pos (by rfl), show idx l (j : Int) = some l[j] from idxE hj, Option.bind_some, Option.bind_some]
    rw [show l[j].2.2.2.1 = asl l[j] from rfl, andS, Option.bind_some]
    cases hc : (asl l[j] && l[j].2.2.1) with
    | false =>
      rw [if_neg (by decide), lives]; rfl
    | true =>
      have hb : busy l[j] = false := by
        have := (h.ok _ (List.getElem_mem hj)).2.2.1
        rw [(Bool.and_eq_true_iff.1 hc).1, Bool.and_true] at this
        exact this
      have hb2 : (awN p.xs (ownN l[j])).2.1 = false := by
        show busy _ = false
        rw [awN_busy]; exact hb
      have hjw : j < (l.map fun x => awN p.xs (ownN x)).length := by rw [List.length_map]; exact hj
      rw [if_pos rfl]
      dsimp only
      rw [p21_same (by decide) hz (fun z hzm => by
        unfold ords at hzm
        obtain ⟨w, hw, rfl⟩ := List.mem_map.1 hzm
        have := h.plen w (List.mem_filter.1 hw).1
        show (pa w).length ≤ 200; omega)]
      rw [show idx (l.map fun x => awN p.xs (ownN x)) (j : Int) = some _ from idxE hjw, List.getElem_map, lives]
      rw [show (!((0 : Int) == 0) == true) = false from rfl]
      rw [Option.bind_some, Option.bind_some, Option.bind_some, if_pos rfl, Option.bind_some, hb2]
      rfl
end Go.Proofs.Ytflieonbbggmhaa
