/- Suspends in plain words: putting in, taking out. Plain theorems, no condition. -/
import Derived.Test.YtflieonbbggmhaaSU3
set_option linter.unusedVariables false
set_option linter.unusedSimpArgs false
namespace Go.Proofs.Ytflieonbbggmhaa
open Go.RowKit

/-- How many of a list stand before a path. -/
def bef (p : List Int) : List Nd → Nat
  | [] => 0
  | x :: l => if pa x < p then bef p l + 1 else 0
theorem bef_le (p : List Int) : ∀ l : List Nd, bef p l ≤ l.length
  | [] => Nat.le_refl _
  | x :: l => by unfold bef; split <;> simp; exact bef_le p l
theorem bef_map (p : List Int) (f : Nd → Nd) (hf : ∀ x, pa (f x) = pa x) : ∀ l : List Nd, bef p (l.map f) = bef p l
  | [] => rfl
  | x :: l => by rw [List.map_cons]; unfold bef; rw [hf, bef_map p f hf l]
theorem bef_take (p : List Int) : ∀ l : List Nd, ∀ x ∈ l.take (bef p l), pa x < p
  | [], x, h => by simp [bef] at h
  | y :: l, x, h => by
    unfold bef at h
    split at h
    · rename_i hy
      rw [List.take_succ_cons] at h
      rcases List.mem_cons.1 h with rfl | h
      · exact hy
      · exact bef_take p l x h
    · simp at h
theorem bef_drop (p : List Int) : ∀ l : List Nd, l.Pairwise (fun x y => pa x < pa y) → (∀ x ∈ l, pa x ≠ p) → ∀ x ∈ l.drop (bef p l), p < pa x
  | [], _, _, x, h => by simp [bef] at h
  | y :: l, hs, hn, x, h => by
    obtain ⟨h1, h2⟩ := List.pairwise_cons.1 hs
    unfold bef at h
    split at h
    · rw [List.drop_succ_cons] at h
      exact bef_drop p l h2 (fun z hz => hn z (by simp [hz])) x h
    · rename_i hy
      rw [List.drop_zero] at h
      have hpy : p < pa y := by
        by_cases e : p < pa y
        · exact e
        · exact absurd (lt_tri hy e) (hn y (by simp))
      rcases List.mem_cons.1 h with rfl | h
      · exact hpy
      · exact List.lt_trans hpy (h1 x h)
theorem bef_step {p : List Int} : ∀ {l : List Nd} {k : Nat} (h : k < l.length), k ≤ bef p l → (pa l[k] < p ↔ k < bef p l)
  | [], k, h, _ => by simp at h
  | x :: l, 0, h, _ => by
    unfold bef
    show pa x < p ↔ _
    split
    · rename_i q; exact ⟨fun _ => by omega, fun _ => q⟩
    · rename_i q; exact ⟨fun e => absurd e q, fun e => by omega⟩
  | x :: l, k + 1, h, hb => by
    have hx : pa x < p := by
      unfold bef at hb
      split at hb
      · assumption
      · omega
    have e : bef p (x :: l) = bef p l + 1 := by conv => lhs; unfold bef; rw [if_pos hx]
    rw [e] at hb ⊢
    have h' : k < l.length := by simpa using h
    show pa l[k] < p ↔ _
    rw [bef_step h' (by omega)]
    omega
theorem p15_l1_eq {n : Nat} (hn : 300 ≤ n) {p : Sl Int} (hp : p.xs.length ≤ 200) {t : Sl Nd} {o : Sl (Sl Int × Bool)} {l : List Nd} (hl : l.length ≤ 200) : ∀ (m k : Nat), k ≤ bef p.xs l → l.length - k < m → p15_l1 n p t (o, l) m k = some (bef p.xs l : Int) := by
  intro m
  induction m with
  | zero => intro k _ h; exact absurd h (by omega)
  | succ m ih =>
    intro k hk hm
    have hb := bef_le p.xs l
    unfold p15_l1
    rw [lenI_mk]
    by_cases hlt : k < l.length
    · rw [if_pos (decide_eq_true (show (k : Int) < (l.length : Int) by omega)), idxE hlt, Option.bind_some, p32_eq hn _ _ (.inr hp), Option.bind_some, Option.bind_some]
      have hs := bef_step (p := p.xs) hlt hk
      unfold cmpL
      by_cases e : pa l[k] < p.xs
      · rw [if_pos (show l[k].1.xs < p.xs from e), if_pos (by decide), ckS (by omega) (by omega), Option.bind_some, castS]
        exact ih (k + 1) (by have := hs.1 e; omega) (by omega)
      · have : k = bef p.xs l := by
          by_cases q : k < bef p.xs l
          · exact absurd (hs.2 q) e
          · omega
        rw [if_neg (show ¬ l[k].1.xs < p.xs from e), if_neg (by split <;> decide), this]
    · rw [if_neg (by rw [decide_eq_true_eq]; show ¬ ((k : Int) < (l.length : Int)); omega), Option.bind_some, if_neg (by decide)]
      have : k = bef p.xs l := by omega
      rw [this]
theorem p33_3 {n : Nat} (hn : 300 ≤ n) {a b c : Sl Nd} {q : Option Nat} (h : a.xs.length + b.xs.length + c.xs.length ≤ 1000000) : p33 n ⟨[a, b, c], q⟩ = some ⟨a.xs ++ b.xs ++ c.xs, .none⟩ := by
  obtain ⟨n, rfl⟩ : ∃ k, n = k + 4 := ⟨n - 4, by omega⟩
  unfold p33
  have e1 : p33_l1 (n + 4) ⟨[a, b, c], q⟩ (n + 4) 0 0 = some ((a.xs.length + b.xs.length + c.xs.length : Nat) : Int) := by
    have st : ∀ (m k : Nat) (acc : Nat) (x : Sl Nd), k < 3 → idx [a, b, c] (k : Int) = some x → acc + x.xs.length ≤ 1000000 → p33_l1 (n + 4) ⟨[a, b, c], q⟩ (m + 1) k (acc : Int) = p33_l1 (n + 4) ⟨[a, b, c], q⟩ m ((k + 1 : Nat) : Int) ((acc + x.xs.length : Nat) : Int) := by
      intro m k acc x hk hx hs
      conv => lhs; unfold p33_l1
      rw [lenI_mk, if_pos (decide_eq_true (show (k : Int) < (([a, b, c].length : Nat) : Int) by simp; omega)), hx, Option.bind_some, len_def, ckS (by omega) (by omega), Option.bind_some, if_neg (by rw [decide_eq_true_eq]; omega), ckS (by omega) (by omega), Option.bind_some, castS]
      congr 1
    have s1 := st (n + 3) 0 0 a (by omega) rfl (by omega)
    have s2 := st (n + 2) 1 (0 + a.xs.length) b (by omega) rfl (by omega)
    have s3 := st (n + 1) 2 (0 + a.xs.length + b.xs.length) c (by omega) rfl (by omega)
    rw [show p33_l1 (n + 4) ⟨[a, b, c], q⟩ (n + 4) 0 0 = _ from s1.trans (s2.trans s3)]
    unfold p33_l1
    rw [lenI_mk, if_neg (by simp), Nat.zero_add]
  rw [e1, Option.bind_some]
  have e2 : p48_nil (n + 4) ((a.xs.length + b.xs.length + c.xs.length : Nat) : Int) = some ⟨[], .none⟩ := by
    unfold p48_nil
    rw [if_neg (by rw [decide_eq_true_eq]; omega), show capO (⟨[], some 0⟩ : Sl Nd) = some 0 from rfl, Option.bind_some, show lenI (⟨[], some 0⟩ : Sl Nd) = 0 from rfl, ckS (by decide) (by decide), Option.bind_some, ckS (by omega) (by omega), Option.bind_some]
    by_cases h0 : a.xs.length + b.xs.length + c.xs.length = 0
    · rw [h0]; rfl
    · rw [if_pos (by rw [decide_eq_true_eq]; omega), Option.bind_some]
      rw [show cutI ([] : List Nd) 0 = some [] from rfl, Option.bind_some]
      unfold appZ
      rw [if_pos (by constructor; omega; simp; omega), Option.bind_some, List.nil_append]
      unfold cutI
      rw [if_pos (by constructor; omega; rw [List.length_replicate]; omega)]
      rfl
  rw [e2, Option.bind_some]
  have e3 : p33_l2 (n + 4) ⟨[a, b, c], q⟩ (n + 4) 0 [] = some (a.xs ++ b.xs ++ c.xs) := by
    have st : ∀ (m k : Nat) (acc : List Nd) (x : Sl Nd), k < 3 → idx [a, b, c] (k : Int) = some x → acc.length + x.xs.length ≤ 1000000 → p33_l2 (n + 4) ⟨[a, b, c], q⟩ (m + 1) k acc = p33_l2 (n + 4) ⟨[a, b, c], q⟩ m ((k + 1 : Nat) : Int) (acc ++ x.xs) := by
      intro m k acc x hk hx hs
      conv => lhs; unfold p33_l2
      rw [lenI_mk, if_pos (decide_eq_true (show (k : Int) < (([a, b, c].length : Nat) : Int) by simp; omega)), hx, Option.bind_some, appI_ok (by omega), Option.bind_some, ckS (by omega) (by omega), Option.bind_some, castS]
    have s1 := st (n + 3) 0 [] a (by omega) rfl (by simp; omega)
    have s2 := st (n + 2) 1 ([] ++ a.xs) b (by omega) rfl (by simp; omega)
    have s3 := st (n + 1) 2 ([] ++ a.xs ++ b.xs) c (by omega) rfl (by simp; omega)
    rw [show p33_l2 (n + 4) ⟨[a, b, c], q⟩ (n + 4) 0 [] = _ from s1.trans (s2.trans s3)]
    unfold p33_l2
    rw [lenI_mk, if_neg (by simp), List.nil_append]
  rw [show p33_l2 (n + 4) ⟨[a, b, c], q⟩ (n + 4) 0 (⟨[], .none⟩ : Sl Nd).xs = _ from e3]
  rfl
/-- The list with a new node. -/
def putL (l : List Nd) (p : List Int) (wk : Bool) : List Nd :=
  ((l.map fun x => awN p (ownN x)).take (bef p l) ++ (⟨p, some p.length⟩, false, wk, false, 0) :: (l.map fun x => awN p (ownN x)).drop (bef p l)).map ownN
structure Fits (l : List Nd) (p : List Int) : Prop where
  ok : okP p
  new : ∀ x ∈ l, pa x ≠ p
  up_ : 1 < p.length → ∃ x ∈ l, pa x = p.dropLast
  room : l.length < 127
theorem V.put {l : List Nd} (h : V l) {p : List Int} (hf : Fits l p) (wk : Bool) : V (putL l p wk) := by
  have hw := h.wake p
  generalize hL : (l.map fun x => awN p (ownN x)) = L at hw
  have hpaL : ∀ y ∈ L, ∃ x ∈ l, pa y = pa x ∧ y = awN p (ownN x) := fun y hy => by
    rw [← hL] at hy
    obtain ⟨x, hx, rfl⟩ := List.mem_map.1 hy
    exact ⟨x, hx, by rw [awN_pa]; rfl, rfl⟩
  have hnewL : ∀ y ∈ L, pa y ≠ p := fun y hy => by
    obtain ⟨x, hx, e, _⟩ := hpaL y hy
    rw [e]; exact hf.new x hx
  have hbef : bef p l = bef p L := by rw [← hL, bef_map p _ (fun x => by rw [awN_pa]; rfl)]
  have hLl : L.length = l.length := by rw [← hL, List.length_map]
  unfold putL
  rw [hL, hbef]
  refine V.own ?_
  have hmem : ∀ z, z ∈ L.take (bef p L) ++ ((⟨p, some p.length⟩, false, wk, false, 0) : Nd) :: L.drop (bef p L) ↔ z ∈ L ∨ z = (⟨p, some p.length⟩, false, wk, false, 0) := fun z => by
    rw [List.mem_append, List.mem_cons]
    constructor
    · rintro (h | h | h)
      · exact .inl (List.mem_of_mem_take h)
      · exact .inr h
      · exact .inl (List.mem_of_mem_drop h)
    · rintro (h | h)
      · rw [← List.take_append_drop (bef p L) L, List.mem_append] at h
        rcases h with h | h
        · exact .inl h
        · exact .inr (.inr h)
      · exact .inr (.inl h)
  refine ⟨?_, fun z hz => ?_, ?_, fun z hz hl => ?_⟩
  · rw [List.length_append, List.length_cons, List.length_take, List.length_drop]
    have := bef_le p L; have := hf.room; omega
  · rcases (hmem z).1 hz with hz | rfl
    · exact hw.ok z hz
    · exact ⟨hf.ok, Int.le_refl _, rfl, fun hh => absurd (show (0 : Int) < 0 from hh) (by decide)⟩
  · refine List.pairwise_append.2 ⟨hw.sorted.sublist (List.take_sublist _ _), List.pairwise_cons.2 ⟨fun y hy => bef_drop p L hw.sorted hnewL y hy, hw.sorted.sublist (List.drop_sublist _ _)⟩, fun x hx y hy => ?_⟩
    have hxp := bef_take p L x hx
    rcases List.mem_cons.1 hy with rfl | hy
    · exact hxp
    · exact List.lt_trans hxp (bef_drop p L hw.sorted hnewL y hy)
  · rcases (hmem z).1 hz with hz | rfl
    · obtain ⟨y, hy, h1, h2⟩ := hw.par z hz hl
      exact ⟨y, (hmem y).2 (.inl hy), h1, h2⟩
    · obtain ⟨x, hx, e⟩ := hf.up_ hl
      refine ⟨awN p (ownN x), (hmem _).2 (.inl (by rw [← hL]; exact List.mem_map.2 ⟨x, hx, rfl⟩)), by rw [awN_pa]; exact e, .inr ?_⟩
      rw [awN_asl]
      cases ha : asl (ownN x)
      · rfl
      · have : wak p (ownN x) = true := by
          unfold wak
          rw [ha, Bool.true_and]
          have hl' : 1 < p.length := hl
          have ht : thr p (pa (ownN x)) := by
            show thr p (pa x)
            rw [e]; exact thr_up (.inl rfl) hl'
          rw [decide_eq_true ht, Bool.or_true]
        rw [this]; rfl
theorem p15_ok {n : Nat} (hn : 300 ≤ n) {l : List Nd} {c : Option Nat} (h : V l) {p : Sl Int} (hf : Fits l p.xs) (wk : Bool) : p15 n ⟨l, c⟩ p wk = some (⟨putL l p.xs wk, some (l.length + 1)⟩, ⟨ords p.xs l, some (ords p.xs l).length⟩, 0) := by
  have hl := h.len
  have hpl := hf.ok.1
  have hroom := hf.room
  unfold p15
  rw [p19_ok hn h, Option.bind_some, if_neg (by decide), len_def, show ((p.xs.length : Int) == 0) = false from beq_eq_false_iff_ne.2 (by omega), if_pos rfl, p13_eq hn, if_pos hf.ok, Option.bind_some, Option.bind_some, if_neg (by decide)]
  obtain ⟨q, hq⟩ := p29_eq n p (by omega) (by omega)
  rw [hq, Option.bind_some]
  rcases p30_eq hn (l := l) (c := c) (p := p) (by omega) (by omega) with ⟨h1, _⟩ | ⟨j, hj, _, h2⟩
  · rw [h1, Option.bind_some, if_neg (by decide)]
    have eup : (if decide ((p.xs.length : Int) > 1) = true then (p30 n ⟨l, c⟩ (⟨p.xs.dropLast, some p.xs.dropLast.length⟩ : Sl Int)).bind fun t_28 => some (decide (t_28 < 0)) else some false) = some false := by
      by_cases h1 : 1 < p.xs.length
      · obtain ⟨x, hx, e⟩ := hf.up_ h1
        rw [if_pos (by rw [decide_eq_true_eq]; omega)]
        rcases p30_eq hn (l := l) (c := c) (p := ⟨p.xs.dropLast, some p.xs.dropLast.length⟩) (by omega) (by show p.xs.dropLast.length ≤ 200; rw [List.length_dropLast]; omega) with ⟨_, h2⟩ | ⟨j, hj, h2, _⟩
        · exact absurd e (h2 x hx)
        · rw [h2, Option.bind_some, decide_eq_false (by omega)]
      · rw [if_neg (by rw [decide_eq_true_eq]; omega)]
    rw [show (⟨p.xs.dropLast, some p.xs.dropLast.length⟩, q).1 = (⟨p.xs.dropLast, some p.xs.dropLast.length⟩ : Sl Int) from rfl, eup, Option.bind_some, if_neg (by decide), lenI_mk, show ((l.length : Int) == 127) = false from beq_eq_false_iff_ne.2 (by omega), if_neg (by decide)]
    rw [p23_eq hn (by omega) (fun x hx => by have := h.plen x hx; omega), Option.bind_some]
    dsimp only
    rw [p31_eq hn (by rw [List.length_map]; omega) (by omega) (own_lens h ownN (fun _ => rfl)), Option.bind_some, List.map_map, ords_map (f := ownN) (fun x => rfl) (fun x => rfl)]
    have hbm : bef p.xs (l.map (awN p.xs ∘ ownN)) = bef p.xs l := bef_map p.xs (awN p.xs ∘ ownN) (fun x => awN_pa p.xs (ownN x)) l
    have hbl := bef_le p.xs l
    have e1 := p15_l1_eq hn (p := p) (by omega) (t := ⟨l.map ownN, some l.length⟩) (o := ⟨ords p.xs l, some (ords p.xs l).length⟩) (l := l.map (awN p.xs ∘ ownN)) (by rw [List.length_map]; omega) n 0 (Nat.zero_le _) (by rw [List.length_map]; omega)
    rw [hbm] at e1
    have hml : (l.map (awN p.xs ∘ ownN)).length = l.length := List.length_map _
    rw [show p15_l1 n p ⟨l.map ownN, some l.length⟩ _ n 0 = _ from e1, Option.bind_some]
    dsimp only
    rw [slI_cut (by omega), Option.bind_some, p26_eq n p (by omega), Option.bind_some, lenI_mk, slI_rest (by omega), Option.bind_some, p33_3 hn (by simp; omega), Option.bind_some]
    dsimp only
    rw [p23_eq hn (by simp; omega) (fun z hz => ?_), Option.bind_some]
    · have e2 : (List.take (bef p.xs l) (l.map (awN p.xs ∘ ownN)) ++ [((⟨p.xs, some p.xs.length⟩, false, wk, false, 0) : Nd)] ++ List.drop (bef p.xs l) (l.map (awN p.xs ∘ ownN))).length = l.length + 1 := by
        simp; omega
      rw [e2]
      unfold putL
      rw [List.append_assoc]
      rfl
    · rw [List.mem_append, List.mem_append] at hz
      rcases hz with (hz | hz) | hz
      · obtain ⟨x, hx, rfl⟩ := List.mem_map.1 (List.mem_of_mem_take hz)
        have := h.plen x hx
        show (pa (awN p.xs (ownN x))).length ≤ _
        rw [awN_pa]; show (pa x).length ≤ _; omega
      · obtain rfl := List.mem_singleton.1 hz; show p.xs.length ≤ _; omega
      · obtain ⟨x, hx, rfl⟩ := List.mem_map.1 (List.mem_of_mem_drop hz)
        have := h.plen x hx
        show (pa (awN p.xs (ownN x))).length ≤ _
        rw [awN_pa]; show (pa x).length ≤ _; omega
  · exact absurd h2 (hf.new _ (List.getElem_mem hj))
/-- If the path does not fit, nothing is put in. -/
theorem p15_bad {n : Nat} (hn : 300 ≤ n) {l : List Nd} {c : Option Nat} (h : V l) {p : Sl Int} (hp : p.xs.length ≤ 200) (hf : ¬ Fits l p.xs) (wk : Bool) : ∃ e, e ≠ 0 ∧ p15 n ⟨l, c⟩ p wk = some (⟨[], some 0⟩, ⟨[], some 0⟩, e) ∧ ((∃ x ∈ l, pa x = p.xs) → okP p.xs → e = 8) ∧ (okP p.xs → (∀ x ∈ l, pa x ≠ p.xs) → (1 < p.xs.length → ∃ x ∈ l, pa x = p.xs.dropLast) → e = 9) := by
  have hl := h.len
  unfold p15
  rw [p19_ok hn h, Option.bind_some, if_neg (by decide), len_def]
  by_cases hok : okP p.xs
  · have hpl := hok.1
    rw [show ((p.xs.length : Int) == 0) = false from beq_eq_false_iff_ne.2 (by omega), if_pos rfl, p13_eq hn, if_pos hok, Option.bind_some, Option.bind_some, if_neg (by decide)]
    obtain ⟨q, hq⟩ := p29_eq n p (by omega) (by omega)
    rw [hq, Option.bind_some]
    rcases p30_eq hn (l := l) (c := c) (p := p) (by omega) hp with ⟨h1, h2⟩ | ⟨j, hj, h1, h2⟩
    · rw [h1, Option.bind_some, if_neg (by decide)]
      have h2' : ¬ ∃ x ∈ l, pa x = p.xs := fun ⟨x, hx, e⟩ => h2 x hx e
      by_cases hu : 1 < p.xs.length → ∃ x ∈ l, pa x = p.xs.dropLast
      · have eup : (if decide ((p.xs.length : Int) > 1) = true then (p30 n ⟨l, c⟩ (⟨p.xs.dropLast, some p.xs.dropLast.length⟩ : Sl Int)).bind fun t_28 => some (decide (t_28 < 0)) else some false) = some false := by
          by_cases h1 : 1 < p.xs.length
          · obtain ⟨x, hx, e⟩ := hu h1
            rw [if_pos (by rw [decide_eq_true_eq]; omega)]
            rcases p30_eq hn (l := l) (c := c) (p := ⟨p.xs.dropLast, some p.xs.dropLast.length⟩) (by omega) (by show p.xs.dropLast.length ≤ 200; rw [List.length_dropLast]; omega) with ⟨_, h2⟩ | ⟨j, hj, h2, _⟩
            · exact absurd e (h2 x hx)
            · rw [h2, Option.bind_some, decide_eq_false (by omega)]
          · rw [if_neg (by rw [decide_eq_true_eq]; omega)]
        rw [show (⟨p.xs.dropLast, some p.xs.dropLast.length⟩, q).1 = (⟨p.xs.dropLast, some p.xs.dropLast.length⟩ : Sl Int) from rfl, eup, Option.bind_some, if_neg (by decide), lenI_mk]
        have : l.length = 127 := by
          by_cases e : l.length < 127
          · exact absurd ⟨hok, h2, hu, e⟩ hf
          · omega
        rw [this, if_pos (by decide)]
        exact ⟨9, by decide, rfl, fun e => absurd e h2', fun _ _ _ => rfl⟩
      · obtain ⟨hu1, hu2⟩ : 1 < p.xs.length ∧ ¬ ∃ x ∈ l, pa x = p.xs.dropLast := by
          by_cases e : 1 < p.xs.length
          · exact ⟨e, fun q => hu fun _ => q⟩
          · exact absurd (fun q => absurd q e) hu
        have eup : (if decide ((p.xs.length : Int) > 1) = true then (p30 n ⟨l, c⟩ (⟨p.xs.dropLast, some p.xs.dropLast.length⟩ : Sl Int)).bind fun t_28 => some (decide (t_28 < 0)) else some false) = some true := by
          rw [if_pos (by rw [decide_eq_true_eq]; omega)]
          rcases p30_eq hn (l := l) (c := c) (p := ⟨p.xs.dropLast, some p.xs.dropLast.length⟩) (by omega) (by show p.xs.dropLast.length ≤ 200; rw [List.length_dropLast]; omega) with ⟨h3, _⟩ | ⟨j, hj, _, h3⟩
          · rw [h3]; rfl
          · exact absurd ⟨_, List.getElem_mem hj, h3⟩ hu2
        rw [show (⟨p.xs.dropLast, some p.xs.dropLast.length⟩, q).1 = (⟨p.xs.dropLast, some p.xs.dropLast.length⟩ : Sl Int) from rfl, eup, Option.bind_some, if_pos rfl]
        exact ⟨7, by decide, rfl, fun e => absurd e h2', fun _ _ e => absurd (e hu1) hu2⟩
    · rw [h1, Option.bind_some, if_pos (by rw [decide_eq_true_eq]; omega)]
      exact ⟨8, by decide, rfl, fun _ _ => rfl, fun _ e => absurd h2 (e _ (List.getElem_mem hj))⟩
  · have eq : (if ((p.xs.length : Int) == 0) = false then (p13 n p).bind fun t_8 => some (t_8 != 0) else some true) = some true := by
      cases ((p.xs.length : Int) == 0)
      · rw [if_pos rfl, p13_eq hn, if_neg hok]; rfl
      · rfl
    rw [eq, Option.bind_some, if_pos rfl]
    exact ⟨1, by decide, rfl, fun _ e => absurd e hok, fun e => absurd e hok⟩
end Go.Proofs.Ytflieonbbggmhaa
