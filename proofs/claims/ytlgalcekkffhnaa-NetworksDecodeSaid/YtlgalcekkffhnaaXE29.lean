/- The rules of the walk over plain data, more: several slices of one's own out of one call; copying. Plain theorems, no condition. -/
import Derived.Test.YtlgalcekkffhnaaXE28
set_option linter.unusedVariables false
set_option linter.unusedSimpArgs false
namespace Go.Proofs.Ytlgalcekkffhnaa
open Go.RowKit
/-- A pointer to a variable. -/
@[reducible] def pB (b : Nat) : Value := .pointer (some (⟨b, 0, .none⟩ : Addr))
section
variable {w0 w w' A : World} {L P LO : List (Option Nat)} {K : Nat → Prop} {n b m : Nat} {t : GT} {u : Value} {p : Addr} {x : PT t} {T : TypeId}
theorem RepV.fr (P LO : List (Option Nat)) (h : RepV t w (Kx K n (P ++ LO)) u x) : RepV t w (Kx K n P) u x := h.less (List.sublist_append_left _ _)
theorem Ow.fr (P LO : List (Option Nat)) {e : GT} {E : TypeId} {v : Value} {xs : List (PT e)} {c : Option Nat} (h : Ow e E w m (Kx K n (P ++ LO)) v xs c) : Ow e E w m (Kx K n P) v xs c := by
  obtain ⟨cs, h1, h2, h3⟩ := h
  exact ⟨cs, h1, h2.keep (Keeps.refl _ _) fun c _ hk => ⟨hk.1, fun hm => hk.2 (List.mem_append.2 (.inl hm))⟩, h3⟩
/-- New places out of a call. -/
theorem Kx.newW {c : Nat} (hN : Wd w w' P) (hc : c < w.heap.size) (hk : Kx K n L c) : Kx K n (P ++ L) c := ⟨hk.1, fun hm => by
  rcases List.mem_append.1 hm with hm | hm
  · have := (hN.own c hm).1; omega
  · exact hk.2 hm⟩
theorem RepV.newW (h : RepV t w (Kx K n L) u x) (hN : Wd w w' P) : RepV t w' (Kx K n (P ++ L)) u x := h.keep (Keeps.below hN.below) fun c hc hk => Kx.newW hN hc hk
theorem Pr.newW (h : Pr t w (Kx K n L) p x) (hN : Wd w w' P) : Pr t w' (Kx K n (P ++ L)) p x := h.keep (Keeps.below hN.below) fun c hc hk => Kx.newW hN hc hk
theorem Bx.newW (h : Bx t T w (Kx K n L) b x) (hN : Wd w w' P) : Bx t T w' (Kx K n (P ++ L)) b x := by
  have hl := h.lt
  obtain ⟨cs, h1, h2⟩ := h
  exact ⟨cs, (hN.below.block b hl).trans h1, h2.keep (Keeps.below hN.below) fun c hc hk => Kx.newW hN hc hk⟩
theorem Ow.newW {e : GT} {E : TypeId} {v : Value} {xs : List (PT e)} {c : Option Nat} (h : Ow e E w m (Kx K n L) v xs c) (hN : Wd w w' P) : Ow e E w' m (Kx K n (P ++ L)) v xs c := by
  obtain ⟨cs, h1, h2, h3⟩ := h
  exact ⟨cs, h1.kept (row := .none) ⟨hN.below.os, hN.below.tape, hN.below.output, hN.below.size, fun k hk _ => hN.below.block k hk⟩ (by cases hv : v.ownBlock <;> simp), h2.keep (Keeps.below hN.below) fun d hc hk => Kx.newW hN hc hk, h3⟩
theorem Ox.newW {q : Obj} (h : Ox q w b) (hN : Wd w w' P) : Ox q w' b := h.step hN.below
theorem Rnd.newW (h : Rnd A LO w L) (hN : Wd w w' P) : Rnd A LO w' (P ++ L) :=
  have h1 := h.step hN.below
  ⟨h1.os, h1.tape, h1.output, h1.size, h1.keep, fun b hl hm => by
    rcases List.mem_append.1 hm with hm | hm
    · have := (hN.own b hm).1; have := h.size; omega
    · exact h.old b hl hm⟩
theorem JI.newW {β : Type} {Inv : β → List (Option Nat) → World → Prop} {Bs : List (Option Nat)} {n0 : Nat} {s : β} (h : JI Inv Bs n0 LO w s) (hN : Wd w w' P) : JI Inv Bs n0 LO w' s := h.step hN.below
theorem Wd.newW (h : Wd w0 w L) (hN : Wd w w' P) : Wd w0 w' (P ++ L) := by
  have hs := hN.below.size
  have hz := h.below.size
  refine ⟨h.below.trans (hN.below.mono hz), fun c hm => ?_, List.pairwise_append.2 ⟨hN.dis, h.dis, fun y hy z hz => ?_⟩⟩
  · rcases List.mem_append.1 hm with hm | hm
    · have := hN.own c hm; omega
    · have := h.own c hm; omega
  · cases y with
    | none => exact .inl rfl
    | some c =>
      refine .inr fun e => ?_
      subst e
      have := (hN.own c hy).1; have := (h.own c hz).2; omega
theorem Kx.backW {c : Nat} (hW : Wd w0 w L) (hk : Kx (Kx K w0.heap.size L) w.heap.size P c) : Kx K w0.heap.size (P ++ L) c := by
  obtain ⟨h1, h2⟩ := hk
  rcases h1 with h1 | h1
  · exact ⟨h1.1, fun hm => by
      rcases List.mem_append.1 hm with hm | hm
      · exact h2 hm
      · exact h1.2 hm⟩
  · refine ⟨.inr (by have := hW.below.size; omega), fun hm => ?_⟩
    rcases List.mem_append.1 hm with hm | hm
    · exact h2 hm
    · have := (hW.own c hm).2; omega
theorem RepV.backW (h : RepV t w' (Kx (Kx K w0.heap.size L) w.heap.size P) u x) (hW : Wd w0 w L) : RepV t w' (Kx K w0.heap.size (P ++ L)) u x := h.keep (Keeps.refl _ _) fun c _ hk => Kx.backW hW hk
theorem Ow.backW {e : GT} {E : TypeId} {v : Value} {xs : List (PT e)} {c : Option Nat} (h : Ow e E w' w.heap.size (Kx (Kx K w0.heap.size L) w.heap.size P) v xs c) (hW : Wd w0 w L) : Ow e E w' w0.heap.size (Kx K w0.heap.size (P ++ L)) v xs c := by
  obtain ⟨cs, h1, h2, h3⟩ := h
  refine ⟨cs, ⟨h1.1, ?_⟩, h2.keep (Keeps.refl _ _) fun c _ hk => Kx.backW hW hk, h3⟩
  rcases h1.2 with h4 | ⟨g, cap, cur, e1, e2, e3⟩
  · exact .inl h4
  · exact .inr ⟨g, cap, cur, e1, by have := hW.below.size; omega, e3⟩
theorem Ow.pubL {e : GT} {E : TypeId} {v : Value} {xs : List (PT e)} {c : Option Nat} (h : Ow e E w n (Kx K n P) v xs c) : RepV (.sl e) w (Kx K n []) v ⟨xs, c⟩ :=
  h.pub (List.nil_sublist _) fun _ _ hm => (List.not_mem_nil hm).elim
end

/-! ### copy -/
def cpyI {α : Type} (xs ys : List α) : List α := ys.take xs.length ++ xs.drop ys.length
theorem run_copy_own {P : Program} (w : World) (T T2 ty E : TypeId) (ie : TypeInfo) (hu : P.underlying T = some (.slice E)) (hi : P.info? E = some ie) (g dLen dCap : Nat) (sA : Option Addr) (sLen sCap : Nat) (cur : Array Value) (t : TypeId) (cs : List Value) (hg : w.heap[g]? = some (.cells cur t (0, 0)))
    (hn : cs.length = Nat.min sLen dLen * ie.size) (hs0 : sA = none → cs = []) (hsrc : ∀ a, sA = some a → ∀ j v, cs[j]? = some v → w.cell? (a.add j) = some v) (hfit : cs.length ≤ cur.size) (h1 : ∀ v ∈ cs, v.oneCell' = true) :
    (Builtin.copy_ #[T, T2] ty #[.slice (some ⟨g, 0, none⟩) dLen dCap, .slice sA sLen sCap]).run P w = .ok (goInt (Nat.min sLen dLen)) (w.setRow g (cs ++ cur.toList.drop cs.length).toArray) := by
  have hst := run_storeCells_at P g 0 t cs 0 cur w hg (by simpa using hfit) h1
  simp only [Nat.zero_add, List.take_zero, List.nil_append] at hst
  cases sA with
  | none =>
    obtain rfl := hs0 rfl
    simp [Builtin.copy_, run_underlying hu, Builtin.lenOf, Builtin.firstCells, sizeOf, typeInfo, hi] at hn hst ⊢
    simp [storeCells] at hst ⊢
    exact hst
  | some a =>
    have hl := run_loadCells_list (P := P) w a cs (hsrc a rfl)
    simp [Builtin.copy_, run_underlying hu, Builtin.lenOf, Builtin.firstCells, sizeOf, typeInfo, hi, ← hn, hl, hst]
theorem flat_take {z : Nat} : ∀ (l : List (List Value)) (m : Nat), (∀ c ∈ l, c.length = z) → l.flatten.take (m * z) = (l.take m).flatten
  | [], m, _ => by simp
  | c :: l, 0, _ => by simp
  | c :: l, m + 1, hc => by
    have h0 := hc c (by simp)
    rw [List.flatten_cons, List.take_succ_cons, List.flatten_cons, List.take_append, h0, ← flat_take l m fun d hd => hc d (by simp [hd])]
    rw [List.take_of_length_le (by rw [h0, Nat.add_mul, Nat.one_mul]; omega), show (m + 1) * z - z = m * z by rw [Nat.add_mul, Nat.one_mul]; omega]
theorem flat_drop {z : Nat} : ∀ (l : List (List Value)) (m : Nat), (∀ c ∈ l, c.length = z) → l.flatten.drop (m * z) = (l.drop m).flatten
  | [], m, _ => by simp
  | c :: l, 0, _ => by simp
  | c :: l, m + 1, hc => by
    have h0 := hc c (by simp)
    rw [List.flatten_cons, List.drop_succ_cons, List.drop_append, h0, ← flat_drop l m fun d hd => hc d (by simp [hd])]
    rw [List.drop_eq_nil_of_le (by rw [h0, Nat.add_mul, Nat.one_mul]; omega), show (m + 1) * z - z = m * z by rw [Nat.add_mul, Nat.one_mul]; omega, List.nil_append]
section
variable {w : World} {K : Nat → Prop} {e : GT}
theorem arr_parts {m : Nat} {cs : List Value} {xs : List (PT e)} (h : RepCs (.arr m e) w K cs xs) : ∃ css : List (List Value), cs = css.flatten ∧ css.length = xs.length ∧ (∀ c ∈ css, c.length = e.sz) ∧ ∀ (j : Nat) c y, css[j]? = some c → xs[j]? = some y → RepCs e w K c y := by
  obtain ⟨hx, css, hcs, hcl, hrr⟩ := h
  refine ⟨css, hcs, by omega, fun c hcm => ?_, hrr⟩
  obtain ⟨j, hj⟩ := List.getElem?_of_mem hcm
  have hjl : j < xs.length := by have := (List.getElem?_eq_some_iff.1 hj).1; omega
  exact (hrr j c _ hj (List.getElem?_eq_getElem hjl)).len
theorem arr_take {m : Nat} {cs : List Value} {xs : List (PT e)} (h : RepCs (.arr m e) w K cs xs) (q : Nat) : RepCs (.arr (xs.take q).length e) w K (cs.take (q * e.sz)) (xs.take q) := by
  obtain ⟨css, rfl, hl, hz, hr⟩ := arr_parts h
  refine ⟨rfl, css.take q, flat_take css q hz, by simp [hl], fun j c y hc hy => ?_⟩
  rw [List.getElem?_take] at hc hy
  split at hc
  · rename_i hj
    rw [if_pos hj] at hy
    exact hr j c y hc hy
  · cases hc
theorem arr_drop {m : Nat} {cs : List Value} {xs : List (PT e)} (h : RepCs (.arr m e) w K cs xs) (q : Nat) : RepCs (.arr (xs.drop q).length e) w K (cs.drop (q * e.sz)) (xs.drop q) := by
  obtain ⟨css, rfl, hl, hz, hr⟩ := arr_parts h
  refine ⟨rfl, css.drop q, flat_drop css q hz, by simp [hl], fun j c y hc hy => ?_⟩
  rw [List.getElem?_drop] at hc hy
  exact hr _ c y hc hy
end
section
variable {ds : List Deferred} {N : Nat} {a : Act} {l : List (Nat × Value)} {w w0 : World} {P : Program} {ops : Array Oper} {Q : Exit → Act → World → Prop} {rest : List Oper} {o : Oper} {Kont : Act → World → Prop} {d : Nat} {K : Nat → Prop} {n : Nat} {L : List (Option Nat)}
theorem op_copy (S : StD ds N a l) {T T2 E : TypeId} {x y : Operand} {e : GT} {v u : Value} {xs : List (PT e)} {c : Option Nat} {ys : Sl (PT e)} (ho : o.op = .call { callee := .builtin .copy, args := #[x, y], argTypes := #[T, T2] }) (ht : tie P (.sl e) false T [] 0 = true) (hE : P.underlying T = some (.slice E)) (hd : o.dst = some d) (hN : Nat.blt d N = true)
    (hx : ev l x = some v) (hy : ev l y = some u) (O : Ow e E w n (Kx K n L) v xs c) (i : Nat) (hi : L[i]? = some v.ownBlock) (R : RepV (.sl e) w (Kx K n L) u ys)
    (k : ∀ a' w', Apd w w' v v → Ow e E w' n (Kx K n L) v (cpyI xs ys.xs) c → InR .i64 ((Nat.min ys.xs.length xs.length : Nat) : Int) → StD ds N a' ((d, .int .i64 ((Nat.min ys.xs.length xs.length : Nat) : Int)) :: l) → Kont a' w') : o.wp P a w Kont Q := by
  obtain ⟨A, m, cu, rfl, hm, hmc, hc63, _, hrow⟩ := R.sl
  obtain ⟨E', hE', htE⟩ := tie_sl ht
  obtain rfl : E = E' := by rw [hE] at hE'; injection hE' with h; injection h
  obtain ⟨ie, hie, hse⟩ := tie_size htE
  obtain ⟨d1, hd1, hA⟩ := hrow.cells
  obtain ⟨cs, h1, h2, h3⟩ := O
  have hr : InR .i64 ((Nat.min ys.xs.length xs.length : Nat) : Int) := by
    have h5 : Nat.min ys.xs.length xs.length ≤ ys.xs.length := Nat.min_le_left ..
    simp only [InR, IntKind.min, IntKind.max, IntKind.signed, IntKind.bits]
    simp
    omega
  have hgo : goInt (Nat.min m xs.length) = .int .i64 ((Nat.min ys.xs.length xs.length : Nat) : Int) := by rw [hm]; rfl
  have hd1l : d1.length = ys.xs.length * e.sz := hd1.len
  have hcsl : cs.length = xs.length * e.sz := h1.1
  rcases h1.2 with ⟨rfl, hx0⟩ | ⟨g, cap, cur, rfl, hb, hg, hnc, hcm, hsz, htake⟩
  · have hxs : xs = [] := List.eq_nil_of_length_eq_zero hx0
    subst hxs
    have hmin : Nat.min m 0 = 0 := Nat.min_zero m
    have hrun : (Builtin.copy_ #[T, T2] o.type #[.slice none 0 0, .slice A m cu]).run P w = .ok (goInt 0) w := by
      have hl0 : ∀ (q : Addr), (loadCells q 0).run P w = .ok #[] w := fun q => by simpa using run_loadCells_list (P := P) w q [] (by simp)
      cases A <;> simp [Builtin.copy_, run_underlying hE, Builtin.lenOf, Builtin.firstCells, sizeOf, typeInfo, hie, hmin, hl0]
    refine op_run S (v := .int .i64 ((Nat.min ys.xs.length ([] : List (PT e)).length : Nat) : Int)) (w' := w) hd hN ?_ fun a' => k a' w ⟨⟨rfl, rfl, rfl, Nat.le_refl _, fun _ _ _ => rfl⟩, .inl rfl, fun q hq => by cases hq⟩ ?_ hr
    · have : goInt 0 = .int .i64 ((Nat.min ys.xs.length ([] : List (PT e)).length : Nat) : Int) := by rw [← hgo]; simp
      simp [execOp, ho, resolve, invoke, builtin, S.eval hx, S.eval hy, hrun, this]
    · have e0 : cpyI ([] : List (PT e)) ys.xs = [] := by simp [cpyI]
      rw [e0]
      exact ⟨cs, h1, h2, h3⟩
  · have hk : (d1.take (Nat.min m xs.length * ie.size)).length = Nat.min m xs.length * ie.size := by
      rw [List.length_take, hd1l, hse, hm]
      exact Nat.min_eq_left (Nat.mul_le_mul_right _ (Nat.min_le_left ..))
    have hcurl : cur.toList.length = cap * e.sz := by simpa using hsz
    have hle : Nat.min m xs.length * e.sz ≤ xs.length * e.sz := Nat.mul_le_mul_right _ (Nat.min_le_right ..)
    have hle2 : xs.length * e.sz ≤ cap * e.sz := Nat.mul_le_mul_right _ hnc
    have hone := hd1.one
    have hrun := run_copy_own (P := P) w T T2 o.type E ie hE hie g xs.length cap A m cu cur E (d1.take (Nat.min m xs.length * ie.size)) hg hk (fun hAn => by
        rcases hA with h0 | ⟨b, off, e1, _⟩
        · have : d1 = [] := List.eq_nil_of_length_eq_zero (by rw [hd1l, h0]; simp)
          rw [this]; simp
        · rw [hAn] at e1; cases e1) (fun q hq j u hj => by
        rcases hA with h0 | ⟨b, off, e1, _, _, hcell⟩
        · have : d1 = [] := List.eq_nil_of_length_eq_zero (by rw [hd1l, h0]; simp)
          rw [this] at hj; simp at hj
        · rw [e1] at hq
          obtain rfl := Option.some.inj hq
          rw [List.getElem?_take] at hj
          split at hj
          · rw [Addr.add_lit]; exact hcell j u hj
          · cases hj) (by rw [hk, hse]; simp at hcurl ⊢; omega) (fun u hu => hone u (List.mem_of_mem_take hu))
    have hgL : some g ∈ L := List.mem_of_getElem? (i := i) hi
    refine op_run S (v := .int .i64 ((Nat.min ys.xs.length xs.length : Nat) : Int)) (w' := w.setRow g (d1.take (Nat.min m xs.length * ie.size) ++ cur.toList.drop (d1.take (Nat.min m xs.length * ie.size)).length).toArray) hd hN ?_ fun a' => ?_
    · simp [execOp, ho, resolve, invoke, builtin, S.eval hx, S.eval hy, hrun, hgo]
    · have hw := wrote_setRow w g (d1.take (Nat.min m xs.length * ie.size) ++ cur.toList.drop (d1.take (Nat.min m xs.length * ie.size)).length).toArray
      refine k a' _ ⟨⟨hw.os, hw.tape, hw.output, Nat.le_of_eq hw.size.symm, fun q hq hne => hw.block q fun e_ => hne (by rw [e_]; rfl)⟩, .inl rfl, fun q hq => ?_⟩ ?_ hr
      · obtain rfl : g = q := by simpa [Value.ownBlock] using hq
        rw [hw.size]; exact (Array.getElem?_eq_some_iff.1 hg).1
      · have htk : RepCs (.arr (ys.xs.take xs.length).length e) w (Kx K n L) (d1.take (xs.length * e.sz)) (ys.xs.take xs.length) := arr_take hd1 _
        have hdr : RepCs (.arr (xs.drop ys.xs.length).length e) w (Kx K n L) (cs.drop (ys.xs.length * e.sz)) (xs.drop ys.xs.length) := arr_drop h2 _
        have happ := arr_append htk hdr
        have e1 : d1.take (Nat.min m xs.length * ie.size) = d1.take (xs.length * e.sz) := by
          rw [hse]
          rcases Nat.le_total m xs.length with h | h
          · rw [show Nat.min m xs.length = m from Nat.min_eq_left h, List.take_of_length_le (by rw [hd1l, hm]; exact Nat.le_refl _), List.take_of_length_le (by rw [hd1l, hm]; exact Nat.mul_le_mul_right _ h)]
          · rw [show Nat.min m xs.length = xs.length from Nat.min_eq_right h]
        have hnl : (cpyI xs ys.xs).length = xs.length := by simp [cpyI]; omega
        have hcl : (d1.take (xs.length * e.sz) ++ cs.drop (ys.xs.length * e.sz)).length = xs.length * e.sz := by
          have := happ.len
          rw [this]
          show (ys.xs.take xs.length ++ xs.drop ys.xs.length).length * e.sz = _
          rw [show (ys.xs.take xs.length ++ xs.drop ys.xs.length).length = xs.length from hnl]
        refine ⟨d1.take (xs.length * e.sz) ++ cs.drop (ys.xs.length * e.sz), ⟨by rw [hcl, hnl], .inr ⟨g, cap, _, by rw [hnl], hb, setRow_heap w g cur _ E _ hg, by rw [hnl]; exact hnc, hcm, ?_, ?_⟩⟩, ?_, h3⟩
        · have := hk
          rw [hse] at this
          simp only [List.size_toArray, List.length_append, List.length_drop, hk, hse, hcurl]
          omega
        · rw [hnl]
          have e2 : (d1.take (Nat.min m xs.length * ie.size)).length = Nat.min m xs.length * e.sz := by rw [hk, hse]
          rw [e2, e1]
          have e3 : (d1.take (xs.length * e.sz)).length = Nat.min m xs.length * e.sz := by rw [← e1, e2]
          show (d1.take (xs.length * e.sz) ++ cur.toList.drop (Nat.min m xs.length * e.sz)).take (xs.length * e.sz) = _
          rw [List.take_append, e3, List.take_of_length_le (by rw [e3]; exact hle), ← htake, List.drop_take]
          rcases Nat.le_total m xs.length with h | h
          · rw [show Nat.min m xs.length = m from Nat.min_eq_left h, hm]
          · rw [show Nat.min m xs.length = xs.length from Nat.min_eq_right h, Nat.sub_self, List.take_zero, hm, show xs.length * e.sz - m * e.sz = 0 from Nat.sub_eq_zero_of_le (Nat.mul_le_mul_right _ h), List.take_zero]
        · have hR : RepCs (.arr (cpyI xs ys.xs).length e) w (Kx K n L) (d1.take (xs.length * e.sz) ++ cs.drop (ys.xs.length * e.sz)) (cpyI xs ys.xs) := happ
          exact hR.keep (Keeps.wrote hw hgL) fun _ _ h => h
end

/-! ### A run of pure operations, of which only some slots are looked at behind it -/
theorem lk_filter {ks : List Nat} : ∀ (l : List (Nat × Value)) {i : Nat} {u : Value}, lk (l.filter fun p => ks.contains p.1) i = some u → lk l i = some u
  | [], _, _, h => h
  | (k, v) :: l, i, u, h => by
    by_cases hk : ks.contains k = true
    · rw [List.filter_cons_of_pos (by simpa using hk)] at h
      unfold lk at h ⊢
      cases hb : Nat.beq k i with
      | true => rw [hb] at h; exact h
      | false => rw [hb] at h; exact lk_filter l h
    · rw [List.filter_cons_of_neg (by simpa using hk)] at h
      have h1 := lk_filter l h
      unfold lk
      cases hb : Nat.beq k i with
      | false => exact h1
      | true =>
        exfalso
        obtain rfl := Nat.eq_of_beq_eq_true hb
        have : ∀ (l : List (Nat × Value)), lk (l.filter fun p => ks.contains p.1) k = none := by
          intro l
          induction l with
          | nil => rfl
          | cons p l ih =>
            obtain ⟨q, v'⟩ := p
            by_cases hq : ks.contains q = true
            · rw [List.filter_cons_of_pos (by simpa using hq)]
              unfold lk
              cases hb2 : Nat.beq q k with
              | true => obtain rfl := Nat.eq_of_beq_eq_true hb2; exact absurd hq hk
              | false => exact ih
            · rw [List.filter_cons_of_neg (by simpa using hq)]; exact ih
        rw [this l] at h
        cases h
section
variable {ds : List Deferred} {N : Nat} {a : Act} {l : List (Nat × Value)} {w : World} {P : Program} {ops : Array Oper} {Q : Exit → Act → World → Prop}
theorem StD.keep (S : StD ds N a l) (ks : List Nat) : StD ds N a (l.filter fun p => ks.contains p.1) := ⟨S.size, S.defers, fun i u hi => S.at_ i u (lk_filter l hi)⟩
theorem wl_pureK (S : StD ds N a l) (tys : List (TypeId × GT)) (ht : tysOk P tys = true) (m : Nat) (ks : List Nat) {l0 : List Oper} {l' : List (Nat × Value)} (h : (runPure tys ops N (l0.take m) l).map (fun q => q.filter fun p => ks.contains p.1) = some l')
    (k : ∀ a', StD ds N a' l' → wpList P ops Q (l0.drop m) a' w) : wpList P ops Q l0 a w := by
  rw [Option.map_eq_some_iff] at h
  obtain ⟨q, h1, rfl⟩ := h
  exact wl_pure S tys ht m h1 fun a' S' => k a' (S'.keep ks)
theorem R.wl_pureK {r : Option Nat} (S : StD ds N a l) (tys : List (TypeId × GT)) (ht : tysOk P tys = true) (m : Nat) (ks : List Nat) {l0 : List Oper} {l' : List (Nat × Value)} (h : (runPure tys ops N (l0.take m) l).map (fun q => q.filter fun p => ks.contains p.1) = some l')
    (k : ∀ a', StD ds N a' l' → LI r P ops Q (l0.drop m) a' w) : LI r P ops Q l0 a w := by
  rw [Option.map_eq_some_iff] at h
  obtain ⟨q, h1, rfl⟩ := h
  exact R.wl_pure S tys ht m h1 fun a' S' => k a' (S'.keep ks)
end
end Go.Proofs.Ytlgalcekkffhnaa
