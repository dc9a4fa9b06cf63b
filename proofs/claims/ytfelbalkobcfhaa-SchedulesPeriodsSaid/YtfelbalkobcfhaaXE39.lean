/- The rules of the walk over plain data, more: structs within structs held against each other, a number in a struct that lies in no variable, pointers that are never nil. Plain theorems, no condition. -/
import Derived.Test.YtfelbalkobcfhaaXE38
set_option linter.unusedVariables false
set_option linter.unusedSimpArgs false
namespace Go.Proofs.Ytfelbalkobcfhaa
open Go.RowKit Go.ChangeShapes
section
variable {P:Program}
end
section
variable {ds:List Deferred} {N:Nat} {a:Act} {l:List (Nat × Value)} {w w0:World} {P:Program} {ops:Array Oper} {Q:Exit → Act → World → Prop} {rest:List Oper} {o:Oper} {Kont:Act → World → Prop} {d:Nat} {K:Nat → Prop} {L:List (Option Nat)}
end
def Sp (t:GT) (T:TypeId) (w:World) (K:Nat → Prop) (v:Value) (x:PT t):Prop:=∃ b,v = pB b ∧ Bx t T w K b x
section
variable {w0 w w':World} {L P:List (Option Nat)} {K:Nat → Prop} {n b:Nat} {t:GT} {v:Value} {T:TypeId} {x:PT t}
theorem Sp.backW (h:Sp t T w' (Kx (Kx K w0.heap.size L) w.heap.size P) v x) (hW:Wd w0 w L):Sp t T w' (Kx K w0.heap.size (P ++ L)) v x:=by
  obtain ⟨b,rfl,h⟩:=h
  exact ⟨b,rfl,h.backW hW⟩
theorem Sp.bx (h:Bx t T w K b x):Sp t T w K (pB b) x:=⟨b,rfl,h⟩
theorem Sp.fr (P LO:List (Option Nat)) (h:Sp t T w (Kx K n (P ++ LO)) v x):Sp t T w (Kx K n P) v x:=by
  obtain ⟨b,rfl,h⟩:=h
  rcases Opt1.fr P LO (Opt1.bx h) with ⟨h,_⟩ | ⟨b',y,h1,h2,h3⟩
  · cases h
  · obtain rfl:=Option.some.inj h2
    exact ⟨b',h1,h3⟩
theorem Pr.again {p:Addr} (h:Pr t w0 K p x) (W:Wd w0 w L):Pr t w (Kx K w0.heap.size L) p x:=⟨Br.now h.br' W,h.lt' W,h.kk W⟩
end
def b_n (i:Nat) (o:Oper):Oper:={ o with after:=o.after.push ⟨i,.data⟩ }
def d_M:Op → Bool
  | .extract _ _=>true
  | .move _=>true
  | .assign _=>true
  | _=>false
def depL (l:List Oper) (i:Nat):Array Bool:=((List.range l.length).map fun k=>match l[i]? with
  | some o=>o.after.any fun e=>Region.binds .any e && Nat.beq e.on k
  | none=>false).toArray
def edgeB (l:List Oper) (i j:Nat):Bool :=
  Nat.blt i l.length && Nat.blt j l.length && (!Nat.beq i j) && Region.free .any l.toArray (depL l i) i && Region.noSelect l.toArray &&
  match l[i]?,l[j]? with
  | some oi,some oj=>d_M oi.op && oi.after.all fun e=>!Region.binds .any e || oj.after.any fun e'=>Region.binds .any e' && Nat.beq e'.on e.on
  | _,_=>false
section
variable {P:Program} {Q:Exit → Act → World → Prop} {l:List Oper} {i j k:Nat} {a:Act} {w:World} {K:Act → World → Prop} {listed:Array Bool}
theorem c_9:(l.modify j (b_n i)).toArray[k]? = (l.toArray[k]?).map fun o=>if j = k then b_n i o else o:=by
  simp only [List.getElem?_toArray,List.getElem?_modify]
  by_cases h:j = k <;> simp [h]
theorem d_N (tmps:Array Value):yielded (l.modify j (b_n i)).toArray tmps = yielded l.toArray tmps:=by
  funext k
  unfold yielded
  rw [c_9]
  cases l.toArray[k]? with
  | none=>rfl
  | some o=>by_cases h:j = k <;> simp [h,b_n]
theorem c_s:wpOp P (l.modify j (b_n i)).toArray Q k K a w = wpOp P l.toArray Q k K a w:=by
  unfold wpOp
  rw [c_9,d_N]
  cases l.toArray[k]? with
  | none=>rfl
  | some o=>by_cases h:j = k <;> simp only [h,if_true,if_false,Option.map_some] <;> rfl
theorem ready_addOn:k ∈ Region.ready .any (l.modify j (b_n i)).toArray listed ↔ k ∈ Region.ready .any l.toArray listed ∧ (k = j → listed.getD i false = true):=by
  rw [mem_ready,mem_ready,c_9]
  constructor
  · rintro ⟨h1,o,ho,h2⟩
    obtain ⟨o',ho',rfl⟩:=Option.map_eq_some_iff.1 ho
    by_cases h:j = k
    · rw [if_pos h] at h2
      refine ⟨⟨h1,o',ho',fun e he hb=>h2 e (by simp [b_n,he]) hb⟩,fun _=>h2 ⟨i,.data⟩ (by simp [b_n]) rfl⟩
    · rw [if_neg h] at h2
      exact ⟨⟨h1,o',ho',h2⟩,fun e=>absurd e.symm h⟩
  · rintro ⟨⟨h1,o,ho,h2⟩,h3⟩
    refine ⟨h1,if j = k then b_n i o else o,by rw [ho];rfl,fun e he hb=>?_⟩
    by_cases h:j = k
    · rw [if_pos h] at he
      simp only [b_n,Array.mem_push] at he
      rcases he with he | rfl
      · exact h2 e he hb
      · exact h3 h.symm
    · rw [if_neg h] at he
      exact h2 e he hb
theorem getD_keep (h:listed.getD i false = true) (k:Nat):(listed.setIfInBounds k true).getD i false = true:=by
  simp only [Array.getD_eq_getD_getElem?,Array.getElem?_setIfInBounds] at h ⊢
  by_cases hk:k = i
  · subst hk
    rcases Nat.lt_or_ge k listed.size with h' | h'
    · simp [h']
    · rw [Array.getElem?_eq_none h'] at h;cases h
  · rw [if_neg hk];exact h
theorem c_t:∀ (fuel:Nat) (listed:Array Bool) (a:Act) (w:World),listed.getD i false = true → wpAny P .any (l.modify j (b_n i)).toArray Q fuel listed a w → wpAny P .any l.toArray Q fuel listed a w
  | 0,listed,a,w,hi,h=>by
    refine ⟨?_,h.2⟩
    cases hr:Region.ready .any l.toArray listed with
    | nil=>rfl
    | cons k ks =>
      have:k ∈ Region.ready .any (l.modify j (b_n i)).toArray listed:=ready_addOn.2 ⟨by rw [hr];simp,fun _=>hi⟩
      rw [h.1] at this;cases this
  | fuel + 1,listed,a,w,hi,h=>by
    refine ⟨fun hr=>h.1 ?_,fun k hk=>?_⟩
    · cases hr':Region.ready .any (l.modify j (b_n i)).toArray listed with
      | nil=>rfl
      | cons k ks =>
        have:=(ready_addOn.1 (show k ∈ Region.ready .any (l.modify j (b_n i)).toArray listed by rw [hr'];simp)).1
        rw [hr] at this;cases this
    · have:=h.2 k (ready_addOn.2 ⟨hk,fun _=>hi⟩)
      rw [c_s] at this
      exact wpOp_mono (fun a' w' h'=>c_t fuel _ a' w' (getD_keep hi k) h') this
theorem c_h {e:Event} (h:e ∈ (#[]:Array Event)):False:=by simp at h
theorem quiet_run {o:Oper} {ops:Array Oper} (hq:d_M o.op = true) (hi:ops[i]? = some o) (h:wpOp P ops Q i K a w):∃ v,Yields P ops o v a ∧ K (a.put o.dst v) w:=by
  unfold wpOp at h
  rw [hi] at h
  simp only at h
  by_cases hw:Region.wanted o (yielded ops a.tmps) = true
  · rw [if_pos hw] at h
    have key:(∃ v,∀ w,(execOp a.eval o).run P w = .ok (.value v) w) ∨ ((∀ next,¬ o.upon P a next Q ((execOp a.eval o).run P w))):=by
      cases ho:o.op <;> rw [ho] at hq <;> try (simp [d_M] at hq)
      · exact .inl ⟨_,fun w=>by simp [execOp,ho];rfl⟩
      · exact .inl ⟨_,fun w=>by simp [execOp,ho];rfl⟩
      · rename_i x n
        cases hx:a.eval x with
        | tuple vs =>
          cases hv:vs[n]? with
          | some v=>exact .inl ⟨v,fun w=>by simp [execOp,ho,hx,Instr.extract,hv]⟩
          | none=>exact .inr fun next=>by simp [execOp,ho,hx,Instr.extract,hv,stuck,Oper.upon]
        | _=>exact .inr fun next=>by simp [execOp,ho,hx,Instr.extract,stuck,Oper.upon]
    have hasks:¬ o.asks P a w:=by
      intro ⟨h1,_⟩
      cases ho:o.op <;> rw [ho] at hq <;> try (simp [d_M] at hq)
      · simp [execOp,ho] at h1
        exact c_h h1
      · simp [execOp,ho] at h1
        exact c_h h1
      · rename_i x n
        cases hx:a.eval x with
        | tuple vs =>
          cases hv:vs[n]? with
          | some v=>simp [execOp,ho,hx,Instr.extract,hv] at h1;exact c_h h1
          | none=>simp [execOp,ho,hx,Instr.extract,hv,stuck] at h1;exact c_h h1
        | _=>simp [execOp,ho,hx,Instr.extract,stuck] at h1;exact c_h h1
    rcases h with h | ⟨h,_⟩
    · rcases key with ⟨v,hv⟩ | hn
      · refine ⟨v,.inl ⟨hw,hv⟩,?_⟩
        unfold Oper.wp at h
        rw [hv] at h
        exact h
      · exact absurd h (hn _)
    · exact absurd h hasks
  · rw [if_neg hw] at h
    exact ⟨undef,.inr ⟨by simpa using hw,rfl⟩,h⟩
theorem any_addOn (hc:edgeB l i j = true) (hQ:∀ c d v a w,Q (.panic c) (a.put d v) w → Q (.panic c) a w):∀ (fuel:Nat) (listed:Array Bool) (a:Act) (w:World),listed.size = l.length → wpAny P .any (l.modify j (b_n i)).toArray Q fuel listed a w → wpAny P .any l.toArray Q fuel listed a w:=by
  unfold edgeB at hc
  simp only [Bool.and_eq_true,Bool.not_eq_true',Nat.blt_eq] at hc
  obtain ⟨⟨⟨⟨⟨hi,hj⟩,hij⟩,hfr⟩,hsel⟩,hc⟩:=hc
  have hne:i ≠ j:=fun e=>by rw [e,Nat.beq_refl] at hij;cases hij
  have hoi:l.toArray[i]? = some l[i]:=by simp [hi]
  have hoj:l.toArray[j]? = some l[j]:=by simp [hj]
  rw [List.getElem?_eq_getElem hi,List.getElem?_eq_getElem hj] at hc
  simp only [Bool.and_eq_true] at hc
  obtain ⟨hq,hdep⟩:=hc
  have hsub:∀ {listed:Array Bool},listed.getD i true = false → j ∈ Region.ready .any l.toArray listed → i ∈ Region.ready .any (l.modify j (b_n i)).toArray listed:=by
    intro listed hiu hjr
    refine ready_addOn.2 ⟨mem_ready.2 ⟨hiu,_,hoi,fun e he hb=>?_⟩,fun e=>absurd e hne⟩
    obtain ⟨_,oj,hoj',h2⟩:=mem_ready.1 hjr
    rw [hoj] at hoj'
    obtain rfl:=Option.some.inj hoj'
    have:=Array.all_eq_true'.1 hdep e he
    rw [hb] at this
    simp only [Bool.not_true,Bool.false_or] at this
    obtain ⟨e',he',h3⟩:=Array.any_eq_true'.1 this
    simp only [Bool.and_eq_true,Nat.beq_eq] at h3
    have:=h2 e' he' h3.1
    rw [h3.2] at this
    exact this
  intro fuel
  induction fuel with
  | zero =>
    intro listed a w hs h
    refine ⟨?_,h.2⟩
    cases hr:Region.ready .any l.toArray listed with
    | nil=>rfl
    | cons k ks =>
      have hk:k ∈ Region.ready .any l.toArray listed:=by rw [hr];simp
      by_cases hin:listed.getD i false = true
      · have:k ∈ Region.ready .any (l.modify j (b_n i)).toArray listed:=ready_addOn.2 ⟨hk,fun _=>hin⟩
        rw [h.1] at this;cases this
      · by_cases hkj:k = j
        · subst hkj
          have:i ∈ Region.ready .any (l.modify k (b_n i)).toArray listed:=hsub (by
            rw [Array.getD_eq_getD_getElem?] at hin ⊢
            rw [Array.getElem?_eq_getElem (by omega)] at hin ⊢
            simpa using hin) hk
          rw [h.1] at this;cases this
        · have:k ∈ Region.ready .any (l.modify j (b_n i)).toArray listed:=ready_addOn.2 ⟨hk,fun e=>absurd e hkj⟩
          rw [h.1] at this;cases this
  | succ fuel ih =>
    intro listed a w hs h
    by_cases hin:listed.getD i false = true
    · exact c_t _ _ _ _ hin h
    · have hiu:listed.getD i true = false:=by
        rw [Array.getD_eq_getD_getElem?] at hin ⊢
        rw [Array.getElem?_eq_getElem (by omega)] at hin ⊢
        simpa using hin
      by_cases hjr:j ∈ Region.ready .any l.toArray listed
      · have hir:=hsub hiu hjr
        have h1:=h.2 i hir
        rw [c_s] at h1
        obtain ⟨v,hy,h2⟩:=quiet_run hq hoi h1
        refine wpAny_first hoi (Region.noSelect_spec hsel) (fun c a w=>hQ c _ v a w) fuel listed a w (fun k ok hk hki hun hno=>?_) (ready_addOn.1 hir).1 hy (c_t _ _ _ _ ?_ h2)
        · refine Region.free_spec hoi hfr k ok hk hki ?_ hno
          have hkl:k < l.length:=by
            rcases Nat.lt_or_ge k l.length with h | h
            · exact h
            · rw [Array.getElem?_eq_none (by simpa using h)] at hk;cases hk
          have hd:(depL l i)[k]? = some false:=by
            unfold depL
            rw [List.getElem?_eq_getElem hi]
            simp only [List.getElem?_toArray,List.getElem?_map,List.getElem?_range hkl,Option.map_some,Option.some.injEq]
            cases hany:l[i].after.any (fun e=>Region.binds .any e && Nat.beq e.on k) with
            | false=>rfl
            | true =>
              obtain ⟨e,he,hb⟩:=Array.any_eq_true'.1 hany
              simp only [Bool.and_eq_true,Nat.beq_eq] at hb
              obtain ⟨_,o',ho',h3⟩:=mem_ready.1 (ready_addOn.1 hir).1
              rw [hoi] at ho'
              obtain rfl:=Option.some.inj ho'
              have h4:=h3 e he hb.1
              rw [hb.2] at h4
              rw [Array.getD_eq_getD_getElem?] at h4 hun
              rw [Array.getElem?_eq_getElem (by omega)] at h4 hun
              rw [Option.getD_some] at h4 hun
              rw [h4] at hun;cases hun
          rw [Array.getD_eq_getD_getElem?,hd];rfl
        · simp [Array.getD_eq_getD_getElem?,hs,hi]
      · refine ⟨fun hr=>h.1 ?_,fun k hk=>?_⟩
        · cases hr':Region.ready .any (l.modify j (b_n i)).toArray listed with
          | nil=>rfl
          | cons k ks =>
            have:=(ready_addOn.1 (show k ∈ Region.ready .any (l.modify j (b_n i)).toArray listed by rw [hr'];simp)).1
            rw [hr] at this;cases this
        · have hkj:k ≠ j:=fun e=>hjr (e ▸ hk)
          have:=h.2 k (ready_addOn.2 ⟨hk,fun e=>absurd e hkj⟩)
          rw [c_s] at this
          exact wpOp_mono (fun a' w' h'=>ih _ a' w' (by simp [hs]) h') this
theorem d_7 (i j:Nat) (hc:edgeB l i j = true) (hQ:PanicOk Q) (h:e_O P (l.modify j (b_n i)) Q a w):e_O P l Q a w:=by
  unfold e_O at h ⊢
  have:=any_addOn hc (fun c d v a w h=>hQ.put c d v a w h) _ _ _ _ (by simp) h
  simpa using this
end
end Go.Proofs.Ytfelbalkobcfhaa
