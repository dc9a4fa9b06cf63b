/- The rules of the walk over plain data. Plain theorems, no condition. -/
import Derived.Test.YtmcpcdmonglkjaaLB2
import Derived.OrdersHeld
import Derived.LoopN
set_option linter.unusedVariables false
set_option linter.unusedSimpArgs false
namespace Go.Proofs.Ytmcpcdmonglkjaa
open Go.RowKit Go.ChangeShapes
section
variable {P:Program}
end
section
variable {ds:List Deferred} {N:Nat} {a:Act} {l:List (Nat × Value)} {w w0:World} {P:Program} {ops:Array Oper} {Q:Exit → Act → World → Prop} {rest:List Oper} {o:Oper} {Kont:Act → World → Prop} {d:Nat} {K:Nat → Prop} {L:List (Option Nat)}
end
def Sp (t:GT) (T:TypeId) (w:World) (K:Nat → Prop) (v:Value) (x:PT t):Prop:=∃ b,v = pB b ∧ Bx t T w K b x
section
variable {w0 w w':World} {L P:List (Option Nat)} {K:Nat → Prop} {n b:Nat} {t:GT} {v:Value} {T:TypeId} {x:PT t}
theorem Sp.bx (h:Bx t T w K b x):Sp t T w K (pB b) x:=⟨b,rfl,h⟩
theorem Sp.fr (P LO:List (Option Nat)) (h:Sp t T w (Kx K n (P ++ LO)) v x):Sp t T w (Kx K n P) v x:=by
  obtain ⟨b,rfl,h⟩:=h
  rcases Opt1.fr P LO (Opt1.bx h) with ⟨h,_⟩ | ⟨b',y,h1,h2,h3⟩
  · cases h
  · obtain rfl:=Option.some.inj h2
    exact ⟨b',h1,h3⟩
theorem Pr.again {p:Addr} (h:Pr t w0 K p x) (W:Wd w0 w L):Pr t w (Kx K w0.heap.size L) p x:=⟨Br.now h.br' W,h.lt' W,h.kk W⟩
end
def b_z (i:Nat) (o:Oper):Oper:={ o with after:=o.after.push ⟨i,.data⟩ }
def d_l:Op → Bool
  | .extract _ _=>true
  | .move _=>true
  | .assign _=>true
  | _=>false
def depL (l:List Oper) (i:Nat):Array Bool:=((List.range l.length).map fun k=>match l[i]? with
  | some o=>o.after.any fun e=>Region.binds .any e && Nat.beq e.on k
  | none=>false).toArray
def edgeB (l:List Oper) (i j:Nat):Bool :=
  Nat.blt i l.length && Nat.blt j l.length && (!Nat.beq i j) && Region.free .any l.toArray (depL l i) i && Region.noSelect l.toArray &&
  match l[i]?,l[j]? with
  | some oi,some oj=>d_l oi.op && oi.after.all fun e=>!Region.binds .any e || oj.after.any fun e'=>Region.binds .any e' && Nat.beq e'.on e.on
  | _,_=>false
section
variable {P:Program} {Q:Exit → Act → World → Prop} {l:List Oper} {i j k:Nat} {a:Act} {w:World} {K:Act → World → Prop} {listed:Array Bool}
theorem c_S:(l.modify j (b_z i)).toArray[k]? = (l.toArray[k]?).map fun o=>if j = k then b_z i o else o:=by
  simp only [List.getElem?_toArray,List.getElem?_modify]
  by_cases h:j = k <;> simp [h]
theorem d_m (tmps:Array Value):yielded (l.modify j (b_z i)).toArray tmps = yielded l.toArray tmps:=by
  funext k
  unfold yielded
  rw [c_S]
  cases l.toArray[k]? with
  | none=>rfl
  | some o=>by_cases h:j = k <;> simp [h,b_z]
theorem c_n:wpOp P (l.modify j (b_z i)).toArray Q k K a w = wpOp P l.toArray Q k K a w:=by
  unfold wpOp
  rw [c_S,d_m]
  cases l.toArray[k]? with
  | none=>rfl
  | some o=>by_cases h:j = k <;> simp only [h,if_true,if_false,Option.map_some] <;> rfl
theorem ready_addOn:k ∈ Region.ready .any (l.modify j (b_z i)).toArray listed ↔ k ∈ Region.ready .any l.toArray listed ∧ (k = j → listed.getD i false = true):=by
  rw [mem_ready,mem_ready,c_S]
  constructor
  · rintro ⟨h1,o,ho,h2⟩
    obtain ⟨o',ho',rfl⟩:=Option.map_eq_some_iff.1 ho
    by_cases h:j = k
    · rw [if_pos h] at h2
      refine ⟨⟨h1,o',ho',fun e he hb=>h2 e (by simp [b_z,he]) hb⟩,fun _=>h2 ⟨i,.data⟩ (by simp [b_z]) rfl⟩
    · rw [if_neg h] at h2
      exact ⟨⟨h1,o',ho',h2⟩,fun e=>absurd e.symm h⟩
  · rintro ⟨⟨h1,o,ho,h2⟩,h3⟩
    refine ⟨h1,if j = k then b_z i o else o,by rw [ho];rfl,fun e he hb=>?_⟩
    by_cases h:j = k
    · rw [if_pos h] at he
      simp only [b_z,Array.mem_push] at he
      rcases he with he | rfl
      · exact h2 e he hb
      · exact h3 h.symm
    · rw [if_neg h] at he
      exact h2 e he hb
theorem getD_keep (h:listed.getD i false = true) (k:Nat):(listed.setIfInBounds k true).getD i false = true:=by
  simp only [Array.getD_eq_getD_getElem?,Array.getElem?_setIfInBounds] at h ⊢
  by_cases hk:k = i
  · subst hk
    rcases Nat.lt_or_ge k listed.size with h' | h'
    · simp [h']
    · rw [Array.getElem?_eq_none h'] at h;cases h
  · rw [if_neg hk];exact h
theorem c_o:∀ (fuel:Nat) (listed:Array Bool) (a:Act) (w:World),listed.getD i false = true → wpAny P .any (l.modify j (b_z i)).toArray Q fuel listed a w → wpAny P .any l.toArray Q fuel listed a w
  | 0,listed,a,w,hi,h=>by
    refine ⟨?_,h.2⟩
    cases hr:Region.ready .any l.toArray listed with
    | nil=>rfl
    | cons k ks =>
      have:k ∈ Region.ready .any (l.modify j (b_z i)).toArray listed:=ready_addOn.2 ⟨by rw [hr];simp,fun _=>hi⟩
      rw [h.1] at this;cases this
  | fuel + 1,listed,a,w,hi,h=>by
    refine ⟨fun hr=>h.1 ?_,fun k hk=>?_⟩
    · cases hr':Region.ready .any (l.modify j (b_z i)).toArray listed with
      | nil=>rfl
      | cons k ks =>
        have:=(ready_addOn.1 (show k ∈ Region.ready .any (l.modify j (b_z i)).toArray listed by rw [hr'];simp)).1
        rw [hr] at this;cases this
    · have:=h.2 k (ready_addOn.2 ⟨hk,fun _=>hi⟩)
      rw [c_n] at this
      exact wpOp_mono (fun a' w' h'=>c_o fuel _ a' w' (getD_keep hi k) h') this
theorem c_f {e:Event} (h:e ∈ (#[]:Array Event)):False:=by simp at h
theorem quiet_run {o:Oper} {ops:Array Oper} (hq:d_l o.op = true) (hi:ops[i]? = some o) (h:wpOp P ops Q i K a w):∃ v,Yields P ops o v a ∧ K (a.put o.dst v) w:=by
  unfold wpOp at h
  rw [hi] at h
  simp only at h
  by_cases hw:Region.wanted o (yielded ops a.tmps) = true
  · rw [if_pos hw] at h
    have key:(∃ v,∀ w,(execOp a.eval o).run P w = .ok (.value v) w) ∨ ((∀ next,¬ o.upon P a next Q ((execOp a.eval o).run P w))):=by
      cases ho:o.op <;> rw [ho] at hq <;> try (simp [d_l] at hq)
      · exact .inl ⟨_,fun w=>by simp [execOp,ho];rfl⟩
      · exact .inl ⟨_,fun w=>by simp [execOp,ho];rfl⟩
      · rename_i x n
        cases hx:a.eval x with
        | tuple vs =>
          cases hv:vs[n]? with
          | some v=>exact .inl ⟨v,fun w=>by simp [execOp,ho,hx,Instr.extract,hv]⟩
          | none=>exact .inr fun next=>by simp [execOp,ho,hx,Instr.extract,hv,stuck,Oper.upon]
        | _=>exact .inr fun next=>by simp [execOp,ho,hx,Instr.extract,stuck,Oper.upon]
    have hasks:¬ o.asks P a w:=by
      intro ⟨h1,_⟩
      cases ho:o.op <;> rw [ho] at hq <;> try (simp [d_l] at hq)
      · simp [execOp,ho] at h1
        exact c_f h1
      · simp [execOp,ho] at h1
        exact c_f h1
      · rename_i x n
        cases hx:a.eval x with
        | tuple vs =>
          cases hv:vs[n]? with
          | some v=>simp [execOp,ho,hx,Instr.extract,hv] at h1;exact c_f h1
          | none=>simp [execOp,ho,hx,Instr.extract,hv,stuck] at h1;exact c_f h1
        | _=>simp [execOp,ho,hx,Instr.extract,stuck] at h1;exact c_f h1
    rcases h with h | ⟨h,_⟩
    · rcases key with ⟨v,hv⟩ | hn
      · refine ⟨v,.inl ⟨hw,hv⟩,?_⟩
        unfold Oper.wp at h
        rw [hv] at h
        exact h
      · exact absurd h (hn _)
    · exact absurd h hasks
  · rw [if_neg hw] at h
    exact ⟨undef,.inr ⟨by simpa using hw,rfl⟩,h⟩
theorem any_addOn (hc:edgeB l i j = true) (hQ:∀ c d v a w,Q (.panic c) (a.put d v) w → Q (.panic c) a w):∀ (fuel:Nat) (listed:Array Bool) (a:Act) (w:World),listed.size = l.length → wpAny P .any (l.modify j (b_z i)).toArray Q fuel listed a w → wpAny P .any l.toArray Q fuel listed a w:=by
  unfold edgeB at hc
  simp only [Bool.and_eq_true,Bool.not_eq_true',Nat.blt_eq] at hc
  obtain ⟨⟨⟨⟨⟨hi,hj⟩,hij⟩,hfr⟩,hsel⟩,hc⟩:=hc
  have hne:i ≠ j:=fun e=>by rw [e,Nat.beq_refl] at hij;cases hij
  have hoi:l.toArray[i]? = some l[i]:=by simp [hi]
  have hoj:l.toArray[j]? = some l[j]:=by simp [hj]
  rw [List.getElem?_eq_getElem hi,List.getElem?_eq_getElem hj] at hc
  simp only [Bool.and_eq_true] at hc
  obtain ⟨hq,hdep⟩:=hc
  have hsub:∀ {listed:Array Bool},listed.getD i true = false → j ∈ Region.ready .any l.toArray listed → i ∈ Region.ready .any (l.modify j (b_z i)).toArray listed:=by
    intro listed hiu hjr
    refine ready_addOn.2 ⟨mem_ready.2 ⟨hiu,_,hoi,fun e he hb=>?_⟩,fun e=>absurd e hne⟩
    obtain ⟨_,oj,hoj',h2⟩:=mem_ready.1 hjr
    rw [hoj] at hoj'
    obtain rfl:=Option.some.inj hoj'
    have:=Array.all_eq_true'.1 hdep e he
    rw [hb] at this
    simp only [Bool.not_true,Bool.false_or] at this
    obtain ⟨e',he',h3⟩:=Array.any_eq_true'.1 this
    simp only [Bool.and_eq_true,Nat.beq_eq] at h3
    have:=h2 e' he' h3.1
    rw [h3.2] at this
    exact this
  intro fuel
  induction fuel with
  | zero =>
    intro listed a w hs h
    refine ⟨?_,h.2⟩
    cases hr:Region.ready .any l.toArray listed with
    | nil=>rfl
    | cons k ks =>
      have hk:k ∈ Region.ready .any l.toArray listed:=by rw [hr];simp
      by_cases hin:listed.getD i false = true
      · have:k ∈ Region.ready .any (l.modify j (b_z i)).toArray listed:=ready_addOn.2 ⟨hk,fun _=>hin⟩
        rw [h.1] at this;cases this
      · by_cases hkj:k = j
        · subst hkj
          have:i ∈ Region.ready .any (l.modify k (b_z i)).toArray listed:=hsub (by
            rw [Array.getD_eq_getD_getElem?] at hin ⊢
            rw [Array.getElem?_eq_getElem (by omega)] at hin ⊢
            simpa using hin) hk
          rw [h.1] at this;cases this
        · have:k ∈ Region.ready .any (l.modify j (b_z i)).toArray listed:=ready_addOn.2 ⟨hk,fun e=>absurd e hkj⟩
          rw [h.1] at this;cases this
  | succ fuel ih =>
    intro listed a w hs h
    by_cases hin:listed.getD i false = true
    · exact c_o _ _ _ _ hin h
    · have hiu:listed.getD i true = false:=by
        rw [Array.getD_eq_getD_getElem?] at hin ⊢
        rw [Array.getElem?_eq_getElem (by omega)] at hin ⊢
        simpa using hin
      by_cases hjr:j ∈ Region.ready .any l.toArray listed
      · have hir:=hsub hiu hjr
        have h1:=h.2 i hir
        rw [c_n] at h1
        obtain ⟨v,hy,h2⟩:=quiet_run hq hoi h1
        refine wpAny_first hoi (Region.noSelect_spec hsel) (fun c a w=>hQ c _ v a w) fuel listed a w (fun k ok hk hki hun hno=>?_) (ready_addOn.1 hir).1 hy (c_o _ _ _ _ ?_ h2)
        · refine Region.free_spec hoi hfr k ok hk hki ?_ hno
          have hkl:k < l.length:=by
            rcases Nat.lt_or_ge k l.length with h | h
            · exact h
            · rw [Array.getElem?_eq_none (by simpa using h)] at hk;cases hk
          have hd:(depL l i)[k]? = some false:=by
            unfold depL
            rw [List.getElem?_eq_getElem hi]
            simp only [List.getElem?_toArray,List.getElem?_map,List.getElem?_range hkl,Option.map_some,Option.some.injEq]
            cases hany:l[i].after.any (fun e=>Region.binds .any e && Nat.beq e.on k) with
            | false=>rfl
            | true =>
              obtain ⟨e,he,hb⟩:=Array.any_eq_true'.1 hany
              simp only [Bool.and_eq_true,Nat.beq_eq] at hb
              obtain ⟨_,o',ho',h3⟩:=mem_ready.1 (ready_addOn.1 hir).1
              rw [hoi] at ho'
              obtain rfl:=Option.some.inj ho'
              have h4:=h3 e he hb.1
              rw [hb.2] at h4
              rw [Array.getD_eq_getD_getElem?] at h4 hun
              rw [Array.getElem?_eq_getElem (by omega)] at h4 hun
              rw [Option.getD_some] at h4 hun
              rw [h4] at hun;cases hun
          rw [Array.getD_eq_getD_getElem?,hd];rfl
        · simp [Array.getD_eq_getD_getElem?,hs,hi]
      · refine ⟨fun hr=>h.1 ?_,fun k hk=>?_⟩
        · cases hr':Region.ready .any (l.modify j (b_z i)).toArray listed with
          | nil=>rfl
          | cons k ks =>
            have:=(ready_addOn.1 (show k ∈ Region.ready .any (l.modify j (b_z i)).toArray listed by rw [hr'];simp)).1
            rw [hr] at this;cases this
        · have hkj:k ≠ j:=fun e=>hjr (e ▸ hk)
          have:=h.2 k (ready_addOn.2 ⟨hk,fun e=>absurd e hkj⟩)
          rw [c_n] at this
          exact wpOp_mono (fun a' w' h'=>ih _ a' w' (by simp [hs]) h') this
theorem d_E (i j:Nat) (hc:edgeB l i j = true) (hQ:PanicOk Q) (h:e_d P (l.modify j (b_z i)) Q a w):e_d P l Q a w:=by
  unfold e_d at h ⊢
  have:=any_addOn hc (fun c d v a w h=>hQ.put c d v a w h) _ _ _ _ (by simp) h
  simpa using this
end
end Go.Proofs.Ytmcpcdmonglkjaa
namespace Go.Proofs.Ytmcpcdmonglkjaa
open Go.RowKit
@[reducible] def Sb (w0:World):World → Prop:=fun w=>Below w0.heap.size w0 w
theorem Sb.step {w0 w w':World} (h:Sb w0 w) (hb:Below w.heap.size w w'):Sb w0 w':=Below.trans h (hb.mono h.size)
theorem Sb.apd {w0 w w':World} {v v':Value} (h:Sb w0 w) (A:Apd w w' v v') (hg:∀ c,v.ownBlock = some c → w0.heap.size ≤ c):Sb w0 w' :=
  Below.trans h ⟨A.grown.os,A.grown.tape,A.grown.output,A.grown.size,fun k hk=>A.grown.block k (Nat.lt_of_lt_of_le hk h.size) fun e=>by have:=hg k e.symm;omega⟩
theorem Sb.wrote {w0 w w':World} {b:Nat} (h:Sb w0 w) (hw:Wrote b w w') (hg:w0.heap.size ≤ b):Sb w0 w' :=
  Below.trans h ⟨hw.os,hw.tape,hw.output,Nat.le_of_eq hw.size.symm,fun k hk=>hw.block k fun e=>by omega⟩
theorem Apd.ge {n:Nat} {w w':World} {v v':Value} (A:Apd w w' v v') (hg:∀ c,v.ownBlock = some c → n ≤ c) (hn:n ≤ w.heap.size):∀ c,v'.ownBlock = some c → n ≤ c:=fun c hc=>by
  rcases A.at_ with e | e
  · exact hg c (e ▸ hc)
  · rw [e] at hc;obtain rfl:=Option.some.inj hc;exact hn
def AnH (P:Program) (l:List Oper) (Q:Exit → Act → World → Prop) (m:Nat) (S0:World → Prop) (k:Nat) (D:List Nat) (a:Act) (w:World):Prop:=wpAnyH P .any l.toArray Q S0 k (a_v m D) a w
def d_n (P:Program) (l:List Oper) (Q:Exit → Act → World → Prop) (m:Nat) (S0:World → Prop) (k:Nat) (D:List Nat) (a:Act) (w:World) (i:Nat):Prop:=wpOp P l.toArray Q i (fun a' w'=>S0 w' ∧ AnH P l Q m S0 k (i :: D) a' w') a w
def AnForksH (P:Program) (l:List Oper) (Q:Exit → Act → World → Prop) (m:Nat) (S0:World → Prop) (k:Nat) (D:List Nat) (a:Act) (w:World):List Nat → Prop
  | []=>True
  | i :: is=>d_n P l Q m S0 k D a w i ∧ AnForksH P l Q m S0 k D a w is
theorem AnForksH.get {P:Program} {l:List Oper} {Q:Exit → Act → World → Prop} {m k:Nat} {S0:World → Prop} {D:List Nat} {a:Act} {w:World}:∀ {is:List Nat},AnForksH P l Q m S0 k D a w is → ∀ i ∈ is,d_n P l Q m S0 k D a w i
  | j :: is,h,i,hi=>by
    rcases List.mem_cons.1 hi with rfl | hi
    · exact h.1
    · exact AnForksH.get h.2 i hi
section
variable {P:Program} {w W:World} {K:Nat → Prop}
theorem b_I {T:TypeId} {t:GT} {p:Addr} {x:PT t} {cs:List Value} (ht:tie P t false T [] 0 = true) (hs:p.spot = none) (h1:RepCs t W K cs x) (h2:∀ (i:Nat) (v:Value),cs[i]? = some v → w.cell? ⟨p.block,p.off + i,none⟩ = some v) :
    (loadVar T p).run P w = .ok (if t.agg then .agg cs.toArray else cs.headD undef) w:=by
  obtain ⟨b,off,spot⟩:=p
  obtain rfl:spot = .none:=hs
  obtain ⟨i,hi,hsz⟩:=a_J ht
  have hl:=h1.len
  have hload:(loadCells ⟨b,off,.none⟩ i.size).run P w = .ok cs.toArray w:=by
    rw [hsz,← hl]
    exact run_loadCells_list (P:=P) w ⟨b,off,.none⟩ cs (fun j v hv=>by rw [Addr.add_lit];exact h2 j v hv)
  have one:t.agg = false → (∀ d,P.underlying T = some d → (match d with | .struct _ | .array _ _=>true | _=>false) = false) → P.underlying T ≠ .none → t.sz = 1 → (loadVar T ⟨b,off,.none⟩).run P w = .ok (if t.agg then .agg cs.toArray else cs.headD undef) w:=by
    intro hagg hd hne h1z
    rw [h1z] at hl
    match cs,hl with
    | [c],_ =>
      have hc:=h2 0 c rfl
      cases hu:P.underlying T with
      | none=>exact absurd hu hne
      | some d =>
        have:=hd d hu
        rw [if_neg (by simp [hagg])]
        have hc':w.cell? ⟨b,off,.none⟩ = some c:=hc
        cases d <;> simp at this <;> simp [loadVar,isAgg,run_underlying hu,hc']
  cases t with
  | int k=>exact one rfl (fun d hd=>by rw [b_v ht] at hd;cases hd;rfl) (by rw [b_v ht];simp) rfl
  | bool=>exact one rfl (fun d hd=>by rw [b_M ht] at hd;cases hd;rfl) (by rw [b_M ht];simp) rfl
  | str=>exact one rfl (fun d hd=>by rw [c_j ht] at hd;cases hd;rfl) (by rw [c_j ht];simp) rfl
  | sl e=>obtain ⟨E,hE,_⟩:=b_c ht;exact one rfl (fun d hd=>by rw [hE] at hd;cases hd;rfl) (by rw [hE];simp) rfl
  | raw=>obtain ⟨d0,hE,hd0⟩:=tie_raw ht;exact one rfl (fun d hd=>by rw [hE] at hd;cases hd;exact hd0) (by rw [hE];simp) rfl
  | pair a b=>simp [tie] at ht
  | st f =>
    obtain ⟨fs,hfs,_⟩:=c_Y ht
    rw [if_pos rfl]
    simp [loadVar,isAgg,run_underlying hfs,sizeOf,typeInfo,hi,hload]
  | arr m e =>
    obtain ⟨E,hE,_⟩:=c_6 ht
    rw [if_pos rfl]
    simp [loadVar,isAgg,run_underlying hE,sizeOf,typeInfo,hi,hload]
end
section
variable {ds:List Deferred} {N:Nat} {a:Act} {l0 l1:List (Nat × Value)} {w:World} {S0:World → Prop} {P:Program} {l:List Oper} {Q:Exit → Act → World → Prop} {o:Oper} {m k i:Nat} {D:List Nat}
namespace R
end R
theorem b_V (hr:Region.ready .any l.toArray (a_v m D) = []) (h:Q .normal a w):AnH P l Q m S0 k D a w:=wpAnyH_done hr h k
theorem c_g {is:List Nat} (hr:Region.ready .any l.toArray (a_v m D) = is) (hne:is.isEmpty = false) (h:AnForksH P l Q m S0 k D a w is):AnH P l Q m S0 (k + 1) D a w:=by
  unfold AnH
  refine ⟨fun he=>?_,fun i hi=>?_⟩
  · rw [hr] at he;subst he;cases hne
  · rw [hr] at hi
    exact h.get i hi
theorem b_u (ho:l[i]? = some o) (S:StD ds N a l0) (hg:gOk l.toArray l0 o = some true) (h:o.wp P a w (fun a' w'=>S0 w' ∧ AnH P l Q m S0 k (i :: D) a' w') Q):d_n P l Q m S0 k D a w i:=by
  unfold d_n wpOp
  have ho':l.toArray[i]? = some o:=by simpa using ho
  simp only [ho']
  rw [if_pos (gOk.wanted S hg)]
  exact .inl h
theorem a_W (hr:Region.ready .any l.toArray (a_v m D) = [i]) (ho:l[i]? = some o) (S:StD ds N a l0) (hg:gOk l.toArray l0 o = some true) (h:o.wp P a w (fun a' w'=>S0 w' ∧ AnH P l Q m S0 k (i :: D) a' w') Q):AnH P l Q m S0 (k + 1) D a w :=
  c_g hr rfl ⟨b_u ho S hg h,trivial⟩
theorem a_D (tys:List (TypeId × GT)) (ht:tysOk P tys = true) (hs:Region.noSelect l.toArray = true) (hQ:PanicOk Q) (hS:S0 w):∀ (is:List Nat) {D:List Nat} {a:Act} {l0:List (Nat × Value)},StD ds N a l0 → a_4 l m D is = true → a_r tys l.toArray N (is.filterMap (l[·]?)) l0 = some l1 → (∀ a',StD ds N a' l1 → AnH P l Q m S0 k (is.reverse ++ D) a' w) → AnH P l Q m S0 (k + is.length) D a w
  | [],D,a,l0,S,_,hp,h=>by
    simp only [List.filterMap_nil,a_r,Option.some.injEq] at hp
    subst hp
    exact h a S
  | i :: is,D,a,l0,S,hc,hp,h=>by
    simp only [a_4,Bool.and_eq_true] at hc
    obtain ⟨⟨hf,hr⟩,hc⟩:=hc
    have hi:i ∈ Region.ready .any l.toArray (a_v m D):=by simpa using hr
    obtain ⟨_,o,ho,_⟩:=mem_ready.1 hi
    have ho':l[i]? = some o:=by simpa using ho
    rw [List.filterMap_cons_some ho'] at hp
    have h':∀ a',StD ds N a' l1 → AnH P l Q m S0 k (is.reverse ++ (i :: D)) a' w:=fun a' S'=>by
      have:=h a' S'
      simpa using this
    have fin:∀ (v:Value) (l2:List (Nat × Value)),Yields P l.toArray o v a → StD ds N (a.put o.dst v) l2 → a_r tys l.toArray N (is.filterMap (l[·]?)) l2 = some l1 → AnH P l Q m S0 (k + (is.length + 1)) D a w:=fun v l2 hy S2 hp2 =>
      wpAnyH_first ho (Region.noSelect_spec hs) (fun c a w=>hQ.put c o.dst v a w) (k + is.length) (a_v m D) a w (Region.free_spec ho hf) hi hy.yieldsIf hS (a_D tys ht hs hQ hS is S2 hc hp2 h')
    unfold a_r at hp
    split at hp
    · rename_i d hg hd
      split at hp
      · rename_i v hv
        split at hp
        · rename_i hN
          exact fin v _ (.inl ⟨gOk.wanted S hg,fun w=>c_G S o tys ht hv⟩) (by rw [hd];exact S.put (by simpa [Nat.blt_eq] using hN) v) hp
        · cases hp
      · cases hp
    · rename_i d hg hd
      split at hp
      · rename_i hN
        exact fin undef _ (.inr ⟨gOk.wanted S hg,rfl⟩) (by rw [hd];exact S.put (by simpa [Nat.blt_eq] using hN) undef) hp
      · cases hp
    · rename_i hg hd
      exact fin undef _ (.inr ⟨gOk.wanted S hg,rfl⟩) (by rw [hd];exact S) hp
    · cases hp
theorem c_h (hs:Region.noSelect l.toArray = true) (hQ:PanicOk Q) (hS:S0 w) (hc:a_4 l m D [i] = true) (ho:l[i]? = some o) (hwl:wlB o.op = true) (S:StD ds N a l0) (hg:gOk l.toArray l0 o = some true)
    (h:o.wp P a w (fun a' w'=>w' = w → AnH P l Q m S0 k (i :: D) a' w') (fun _ _ _=>False)):AnH P l Q m S0 (k + 1) D a w:=by
  simp only [a_4,Bool.and_eq_true] at hc
  obtain ⟨⟨hf,hr⟩,_⟩:=hc
  have hi:i ∈ Region.ready .any l.toArray (a_v m D):=by simpa using hr
  have ho':l.toArray[i]? = some o:=by simpa using ho
  unfold Oper.wp at h
  cases hrun:(execOp a.eval o).run P w with
  | halt x w' =>
    rw [hrun] at h
    cases x <;> simp only [Oper.upon] at h
  | ok n w' =>
    obtain ⟨rfl,⟨v,rfl⟩,hall⟩:=wl_run hwl hrun
    rw [hrun] at h
    simp only [Oper.upon] at h
    exact wpAnyH_first ho' (Region.noSelect_spec hs) (fun c a w=>hQ.put c o.dst v a w) k (a_v m D) a w' (Region.free_spec ho' hf) hi (.inl ⟨gOk.wanted S hg,fun w _=>hall w⟩) hS (h trivial)
end
end Go.Proofs.Ytmcpcdmonglkjaa
namespace Go.Proofs.Ytmcpcdmonglkjaa
open Go.RowKit Go.ChangeShapes
section
variable {ds:List Deferred} {N:Nat} {a:Act} {l:List (Nat × Value)} {w w0:World} {P:Program} {ops:Array Oper} {Q:Exit → Act → World → Prop} {rest:List Oper} {o:Oper} {Kont:Act → World → Prop} {d:Nat} {K:Nat → Prop} {L:List (Option Nat)}
end
end Go.Proofs.Ytmcpcdmonglkjaa
namespace Go.Proofs.Ytmcpcdmonglkjaa
open Go.RowKit Go.ChangeShapes
section
variable {ds:List Deferred} {N:Nat} {a:Act} {l:List (Nat × Value)} {w w0:World} {P:Program} {ops:Array Oper} {Q:Exit → Act → World → Prop} {rest:List Oper} {o:Oper} {Kont:Act → World → Prop} {d:Nat} {K:Nat → Prop} {n:Nat} {L:List (Option Nat)}
end
end Go.Proofs.Ytmcpcdmonglkjaa
namespace Go.Proofs.Ytmcpcdmonglkjaa
open Go.RowKit Go.ChangeShapes
namespace Ro
def valB:Op → Bool
  | .move _ | .assign _ | .pick _ _ _ | .load _ _ | .binOp _ _ _ _ _ | .unOp _ _ _ | .convert _ _ _ | .slice _ _ _ _ _ | .fieldAddr _ _ _ | .field _ _ _ | .indexAddr _ _ _ | .index _ _ _ | .extract _ _=>true
  | .call c=>match c.callee with
    | .builtin .len | .builtin .cap | .builtin .min | .builtin .max=>true
    | _=>false
  | _=>false
theorem vrun {P:Program} {m:Sem Value} {w w1:World} {n:Next} (hr:(m >>= fun v=>(Pure.pure (Next.value v):Sem Next)).run P w = .ok n w1):∃ v,n = .value v:=by
  rw [Sem.run_bind] at hr
  cases hq:m.run P w with
  | ok v w2 =>
    rw [hq] at hr
    exact ⟨v,by
      have:(Result.ok (Next.value v) w2:Result Next) = .ok n w1:=hr
      injection this with h1 _;exact h1.symm⟩
  | halt x w2=>rw [hq] at hr;cases hr
theorem val_run {P:Program} {o:Oper} {ρ:Operand → Value} (h:valB o.op = true) {w w1:World} {n:Next} (hr:(execOp ρ o).run P w = .ok n w1):∃ v,n = .value v:=by
  unfold execOp at hr
  cases hop:o.op <;> rw [hop] at h <;> first | (exfalso;simp [valB] at h;done) | skip
  case call c =>
    rw [hop] at hr
    simp only [valB] at h
    cases hc:c.callee <;> rw [hc] at h <;> first | (exfalso;simp at h;done) | skip
    rename_i b
    cases b <;> first | (exfalso;simp at h;done) | skip
    all_goals
      simp only [resolve,hc,pure_bind,invoke,builtin] at hr
      exact vrun hr
  case pick c x y =>
    rw [hop] at hr
    simp only at hr
    rw [Sem.run_bind] at hr
    cases hq:(asBool (ρ c)).run P w with
    | ok v w2 =>
      rw [hq] at hr
      have:(Result.ok (Next.value (if v then ρ x else ρ y)) w2:Result Next) = .ok n w1:=hr
      injection this with h1 _
      exact ⟨_,h1.symm⟩
    | halt x w2=>rw [hq] at hr;cases hr
  case move x =>
    rw [hop] at hr
    have:(Result.ok (Next.value (ρ x)) w:Result Next) = .ok n w1:=hr
    injection this with h1 _
    exact ⟨_,h1.symm⟩
  case assign x =>
    rw [hop] at hr
    have:(Result.ok (Next.value (ρ x)) w:Result Next) = .ok n w1:=hr
    injection this with h1 _
    exact ⟨_,h1.symm⟩
  all_goals
    rw [hop] at hr
    exact vrun hr
def RL (P:Program) (ops:Array Oper):List Oper → (Act → World → Prop) → World → Act → World → Prop
  | [],K,w0,a,w=>w = w0 ∧ K a w
  | o :: rest,K,w0,a,w=>w = w0 ∧ ((Region.wanted o (yielded ops a.tmps) = true ∧ o.wp P a w (RL P ops rest K w0) (fun _ _ _=>False)) ∨ (Region.wanted o (yielded ops a.tmps) = false ∧ RL P ops rest K w0 (a.put o.dst undef) w))
section
variable {ds:List Deferred} {N:Nat} {a:Act} {l0 l1:List (Nat × Value)} {w w0:World} {P:Program} {ops:Array Oper} {l:List Oper} {Q:Exit → Act → World → Prop} {o:Oper} {m k i:Nat} {D:List Nat} {K:Act → World → Prop} {rest:List Oper}
theorem RL.wld:∀ {l:List Oper},RL P ops l K w0 a w → w = w0
  | [],h=>h.1
  | _ :: _,h=>h.1
theorem wpList_nil (h:K a w):RL P ops [] K w a w:=⟨rfl,h⟩
theorem w_go (S:StD ds N a l0) (hg:gOk ops l0 o = some true) (h:o.wp P a w (RL P ops rest K w) (fun _ _ _=>False)):RL P ops (o :: rest) K w a w:=⟨rfl,.inl ⟨gOk.wanted S hg,h⟩⟩
theorem c_q (S:StD ds N a l0) (hg:gOk ops l0 o = some false) (h:RL P ops rest K w (a.put o.dst undef) w):RL P ops (o :: rest) K w a w:=⟨rfl,.inr ⟨gOk.wanted S hg,h⟩⟩
theorem a_V (tys:List (TypeId × GT)) (ht:tysOk P tys = true):∀ (l1:List Oper) {l2:List Oper} {a:Act} {l l':List (Nat × Value)},StD ds N a l → a_r tys ops N l1 l = some l' → (∀ a',StD ds N a' l' → RL P ops l2 K w a' w) → RL P ops (l1 ++ l2) K w a w
  | [],l2,a,l,l',S,h,k=>by
    simp only [a_r,Option.some.injEq] at h
    subst h
    exact k a S
  | o :: l1,l2,a,l,l',S,h,k=>by
    unfold a_r at h
    split at h
    · rename_i d hg hd
      split at h
      · rename_i v hv
        split at h
        · rename_i hN
          exact w_go S hg (a_B S hd hN (c_G S o tys ht hv) fun a' S'=>a_V tys ht l1 S' h k)
        · cases h
      · cases h
    · rename_i d hg hd
      split at h
      · rename_i hN
        refine c_q S hg ?_
        rw [hd]
        exact a_V tys ht l1 (S.put (by simpa [Nat.blt_eq] using hN) undef) h k
      · cases h
    · rename_i hg hd
      refine c_q S hg ?_
      rw [hd]
      exact a_V tys ht l1 S h k
    · cases h
theorem a_G (S:StD ds N a l1) (tys:List (TypeId × GT)) (ht:tysOk P tys = true) (m:Nat) {l0:List Oper} {l':List (Nat × Value)} (h:a_r tys ops N (l0.take m) l1 = some l')
    (k:∀ a',StD ds N a' l' → RL P ops (l0.drop m) K w a' w):RL P ops l0 K w a w:=by
  rw [← List.take_append_drop m l0]
  exact a_V tys ht _ S h k
theorem app:∀ (l1:List Oper) {l2:List Oper} {M:Act → World → Prop} {a:Act} {w:World},RL P ops l1 M w0 a w → (∀ a' w',M a' w' → w' = w0 → RL P ops l2 K w0 a' w') → RL P ops (l1 ++ l2) K w0 a w
  | [],l2,M,a,w,h,k=>k a w h.2 h.1
  | o :: l1,l2,M,a,w,h,k=>by
    obtain ⟨e,h⟩:=h
    refine ⟨e,h.imp (fun q=>⟨q.1,Oper.wp_mono (fun a' w' h'=>app l1 h' k) q.2⟩) (fun q=>⟨q.1,app l1 q.2 k⟩)⟩
theorem seg (m:Nat) (M:Act → World → Prop) {l0:List Oper} (h1:RL P ops (l0.take m) M w a w) (h2:∀ a' w',M a' w' → RL P ops (l0.drop m) K w a' w):RL P ops l0 K w a w:=by
  rw [← List.take_append_drop m l0]
  exact app _ h1 fun a' w' h e=>by subst e;exact h2 a' w' h
theorem fm_range {α:Type}:∀ l:List α,(List.range l.length).filterMap (fun i=>l[i]?) = l
  | []=>rfl
  | x :: l=>by
    rw [List.length_cons,List.range_succ_eq_map,List.filterMap_cons_some (show (x :: l)[0]? = some x from rfl),List.filterMap_map]
    exact congrArg (x :: ·) (fm_range l)
theorem any_ (hs:Region.noSelect l.toArray = true) (hv:l.all (fun o=>valB o.op) = true) (hQ:PanicOk Q):∀ (is:List Nat) {D:List Nat} {a:Act},a_4 l m D is = true → Region.ready .any l.toArray (a_v m (is.reverse ++ D)) = [] →
    RL P l.toArray (is.filterMap (l[·]?)) (fun a w=>Q .normal a w) w0 a w0 → wpAnyH P .any l.toArray Q (· = w0) is.length (a_v m D) a w0
  | [],D,a,_,he,h=>⟨he,h.2⟩
  | i :: is,D,a,hc,he,h=>by
    simp only [a_4,Bool.and_eq_true] at hc
    obtain ⟨⟨hf,hr⟩,hc⟩:=hc
    have hi:i ∈ Region.ready .any l.toArray (a_v m D):=by simpa using hr
    obtain ⟨_,o,ho,_⟩:=mem_ready.1 hi
    have ho':l[i]? = some o:=by simpa using ho
    rw [List.filterMap_cons_some ho'] at h
    have he':Region.ready .any l.toArray (a_v m (is.reverse ++ (i :: D))) = []:=by simpa using he
    have fin:∀ v,YieldsIf P l.toArray (· = w0) o v a → RL P l.toArray (is.filterMap (l[·]?)) (fun a w=>Q .normal a w) w0 (a.put o.dst v) w0 → wpAnyH P .any l.toArray Q (· = w0) (is.length + 1) (a_v m D) a w0:=fun v hy h' =>
      wpAnyH_first ho (Region.noSelect_spec hs) (fun c a w=>hQ.put c o.dst v a w) is.length (a_v m D) a w0 (Region.free_spec ho hf) hi hy rfl (any_ hs hv hQ is hc he' h')
    rcases h.2 with ⟨hw,h1⟩ | ⟨hw,h1⟩
    · unfold Oper.wp at h1
      cases hrun:(execOp a.eval o).run P w0 with
      | halt x w' =>
        rw [hrun] at h1
        cases x <;> simp only [Oper.upon] at h1
      | ok n w' =>
        obtain ⟨v,rfl⟩:=val_run (List.all_eq_true.1 hv o (List.mem_of_getElem? ho')) hrun
        rw [hrun] at h1
        simp only [Oper.upon] at h1
        have e:=h1.wld
        subst e
        exact fin v (.inl ⟨hw,fun w hw'=>by rw [hw'];exact hrun⟩) h1
    · exact fin undef (.inr ⟨hw,rfl⟩) h1
def roB (l:List Oper) (m:Nat):Bool:=Region.noSelect l.toArray && l.all (fun o=>valB o.op) && a_4 l m [] (List.range m) && (Region.ready .any l.toArray (a_v m ((List.range m).reverse ++ []))).isEmpty && Nat.beq l.length m
theorem any (hc:roB l m = true) (hQ:PanicOk Q) (h:RL P l.toArray l (fun a w=>Q .normal a w) w a w):wpAny P .any l.toArray Q m (a_v m []) a w:=by
  simp only [roB,Bool.and_eq_true] at hc
  obtain ⟨⟨⟨⟨h1,h2⟩,h3⟩,h4⟩,h5⟩:=hc
  have hl:l.length = m:=Nat.eq_of_beq_eq_true h5
  have e:(List.range m).filterMap (l[·]?) = l:=by rw [← hl];exact fm_range l
  have:=any_ (P:=P) (w0:=w) (a:=a) h1 h2 hQ (List.range m) h3 (List.isEmpty_iff.1 h4) (by rw [e];exact h)
  rw [List.length_range] at this
  exact wpAny_of_held _ _ _ _ this
end
end Ro
section
variable {a:Act} {w:World} {P:Program} {l:List Oper} {Q:Exit → Act → World → Prop}
theorem b_m {id:Nat} (m:Nat) (hm:P.follows .mixedOrders = true) (hc:Ro.roB l m = true) (hQ:PanicOk Q) (h:∀ w',Below w.heap.size w w' → Ro.RL P l.toArray l (fun a w=>Q .normal a w) w' a w'):(Code.region id l.toArray true).wp P Q a w:=by
  have hl:l.length = m:=by simp only [Ro.roB,Bool.and_eq_true] at hc;exact Nat.eq_of_beq_eq_true hc.2
  exact a_S m hm hl hQ fun w' hb hq=>Ro.any hc hq (h w' hb)
end
end Go.Proofs.Ytmcpcdmonglkjaa
namespace Go.Proofs.Ytmcpcdmonglkjaa
open Go.RowKit
theorem RepV.rawV {w:World} {K:Nat → Prop} {v:Value} (h:v.oneCell' = true):RepV .raw w K v v:=⟨[v],⟨rfl,h⟩,rfl⟩
theorem b_7 {P:Program} {c:Code} {Q:Exit → Act → World → Prop} {n:Nat} {a:Act} {w:World} (h:c.wp P (Exit.then (Code.rounds P c Q n) Q) a w):Code.rounds P c Q (n + 1) a w:=h
section
variable {ds:List Deferred} {N:Nat} {a:Act} {l:List (Nat × Value)} {w w0:World} {P:Program} {ops:Array Oper} {Q:Exit → Act → World → Prop} {rest:List Oper} {o:Oper} {Kont:Act → World → Prop} {d:Nat} {K:Nat → Prop} {n:Nat} {L:List (Option Nat)}
end
end Go.Proofs.Ytmcpcdmonglkjaa
namespace Go.Proofs.Ytmcpcdmonglkjaa
open Go.RowKit
structure SbX (w0:World) (X:List (Option Nat)) (w:World):Prop where
  size:w0.heap.size ≤ w.heap.size
  block:∀ k,k < w0.heap.size → some k ∉ X → w.heap[k]? = w0.heap[k]?
theorem SbX.refl (w:World) (X:List (Option Nat)):SbX w X w:=⟨Nat.le_refl _,fun _ _ _=>rfl⟩
theorem SbX.step {w0 w w':World} {X:List (Option Nat)} (h:SbX w0 X w) (hb:Below w.heap.size w w'):SbX w0 X w' :=
  ⟨Nat.le_trans h.size hb.size,fun k hk hx=>(hb.block k (Nat.lt_of_lt_of_le hk h.size)).trans (h.block k hk hx)⟩
theorem SbX.apd {w0 w w':World} {X:List (Option Nat)} {v v':Value} (h:SbX w0 X w) (A:Apd w w' v v') (hg:∀ c,v.ownBlock = some c → w0.heap.size ≤ c ∨ some c ∈ X):SbX w0 X w' :=
  ⟨Nat.le_trans h.size A.grown.size,fun k hk hx=>(A.grown.block k (Nat.lt_of_lt_of_le hk h.size) fun e=>by
    rcases hg k e.symm with q | q
    · omega
    · exact hx q).trans (h.block k hk hx)⟩
theorem SbX.wrote {w0 w w':World} {X:List (Option Nat)} {b:Nat} (h:SbX w0 X w) (hw:Wrote b w w') (hg:w0.heap.size ≤ b ∨ some b ∈ X):SbX w0 X w' :=
  ⟨Nat.le_trans h.size (Nat.le_of_eq hw.size.symm),fun k hk hx=>(hw.block k fun e=>by
    rcases hg with q | q
    · omega
    · exact hx (e ▸ q)).trans (h.block k hk hx)⟩
theorem Apd.geX {n:Nat} {w w':World} {X:List (Option Nat)} {v v':Value} (A:Apd w w' v v') (hg:∀ c,v.ownBlock = some c → n ≤ c ∨ some c ∈ X) (hn:n ≤ w.heap.size):∀ c,v'.ownBlock = some c → n ≤ c ∨ some c ∈ X:=fun c hc=>by
  rcases A.at_ with e | e
  · exact hg c (e ▸ hc)
  · rw [e] at hc;obtain rfl:=Option.some.inj hc;exact .inl hn
theorem notX {x y:Option Nat} {X:List (Option Nat)} (h:x ≠ y) (t:x ∉ X):x ∉ y :: X:=fun hm=>by
  rcases List.mem_cons.1 hm with e | e
  · exact h e
  · exact t e
theorem SbX.cell {w w':World} {X:List (Option Nat)} (h:SbX w X w') {p:Addr} (hp:p.block < w.heap.size) (hx:some p.block ∉ X):w'.cell? p = w.cell? p :=
  World.cell?_of_block (h.block p.block hp hx)
section
variable {ds:List Deferred} {N:Nat} {a:Act} {l0 l1:List (Nat × Value)} {w:World} {S0:World → Prop} {P:Program} {l:List Oper} {Q:Exit → Act → World → Prop} {o:Oper} {m k i:Nat} {D:List Nat}
theorem b_3 {id:Nat} (m:Nat) (X:List (Option Nat)) (hm:P.follows .mixedOrders = true) (hl:l.length = m) (hQ:PanicOk Q) (h:∀ w',Below w.heap.size w w' → PanicOk Q → AnH P l Q m (SbX w' X) m [] a w'):(Code.region id l.toArray true).wp P Q a w:=by
  subst hl
  refine wp_region_any hm (wpAny_of_held (S:=SbX { w with drawn:=w.drawn + 1 } X) _ _ _ _ ?_)
  have:=h { w with drawn:=w.drawn + 1 } ⟨rfl,rfl,rfl,Nat.le_refl _,fun _ _=>rfl⟩ hQ
  simpa [AnH,a_v] using this
namespace R
end R
theorem c_z {X:List (Option Nat)} {t:GT} {T:TypeId} {ad:Operand} {d:Nat} {p:Addr} {x:PT t} {K:Nat → Prop} (hs:Region.noSelect l.toArray = true) (hQ:PanicOk Q) (hc:a_4 l m D [i] = true) (ho:l[i]? = some o) (S:StD ds N a l0) (hg:gOk l.toArray l0 o = some true)
    (hop:o.op = .load T ad) (ht:tie P t false T [] 0 = true) (hd:o.dst = some d) (hN:Nat.blt d N = true) (ha:ev l0 ad = some (.pointer (some p))) (hA:RepAt t w K p x) (hb:p.block < w.heap.size) (hx:some p.block ∉ X)
    (kk:∀ a' v,RepV t w K v x → StD ds N a' ((d,v) :: l0) → AnH P l Q m (SbX w X) k (i :: D) a' w):AnH P l Q m (SbX w X) (k + 1) D a w:=by
  simp only [a_4,Bool.and_eq_true] at hc
  obtain ⟨⟨hf,hr⟩,_⟩:=hc
  have hi:i ∈ Region.ready .any l.toArray (a_v m D):=by simpa using hr
  have ho':l.toArray[i]? = some o:=by simpa using ho
  obtain ⟨h0,cs,hR,hcell⟩:=hA
  have hv:∀ w',SbX w X w' → (execOp a.eval o).run P w' = .ok (.value (if t.agg then .agg cs.toArray else cs.headD undef)) w':=fun w' hw'=>by
    have:=b_I (P:=P) (w:=w') ht h0 hR fun j u hj=>by
      rw [← hcell j u hj]
      exact hw'.cell (show (⟨p.block,p.off + j,.none⟩:Addr).block < w.heap.size from hb) hx
    simp [execOp,hop,S.eval ha,Instr.loadAt,Instr.sureAddr,this]
  have:=kk (a.put o.dst (if t.agg then .agg cs.toArray else cs.headD undef)) _ ⟨cs,hR,rfl⟩ (by rw [hd];exact S.put (by simpa [Nat.blt_eq] using hN) _)
  exact wpAnyH_first ho' (Region.noSelect_spec hs) (fun c a w=>hQ.put c o.dst _ a w) k (a_v m D) a w (Region.free_spec ho' hf) hi (.inl ⟨gOk.wanted S hg,hv⟩) (SbX.refl w X) this
end
@[reducible] def tupG (e:GT):Nat → GT
  | 0=>e
  | n + 1=>.pair e (tupG e n)
@[reducible] def tupL {e:GT}:(n:Nat) → PT (tupG e n) → List (PT e)
  | 0,x=>[x]
  | n + 1,x=>x.1 :: tupL n x.2
theorem d_W {e:GT} {w:World} {K:Nat → Prop} {n:Nat} {cs:List Value} {x:PT e} {xs:List (PT e)}:RepCs (.arr (n + 1) e) w K cs (x :: xs) ↔ ∃ c1 c2,cs = c1 ++ c2 ∧ RepCs e w K c1 x ∧ RepCs (.arr n e) w K c2 xs:=by
  constructor
  · rintro ⟨hx,css,rfl,hl,hr⟩
    match css,hl with
    | c :: css,hl =>
      refine ⟨c,css.flatten,by simp,hr 0 c x rfl rfl,by simpa using hx,css,rfl,by simpa using hl,fun j c' y hc hy=>hr (j + 1) c' y (by simpa using hc) (by simpa using hy)⟩
  · rintro ⟨c1,c2,rfl,h1,hx,css,rfl,hl,hr⟩
    refine ⟨by rw [List.length_cons,hx],c1 :: css,by simp,by rw [List.length_cons,hl],fun j c' y hc hy=>?_⟩
    cases j with
    | zero=>simp at hc hy;subst hc;subst hy;exact h1
    | succ j=>exact hr j c' y (by simpa using hc) (by simpa using hy)
theorem arr_nil {e:GT} {w:World} {K:Nat → Prop} {cs:List Value}:RepCs (.arr 0 e) w K cs ([]:List (PT e)) ↔ cs = []:=by
  constructor
  · rintro ⟨_,css,rfl,hl,_⟩
    rw [List.eq_nil_of_length_eq_zero hl];rfl
  · rintro rfl
    exact ⟨rfl,[],rfl,rfl,fun j c y hc=>by simp at hc⟩
theorem tup_arr {e:GT} {w:World} {K:Nat → Prop}:∀ {n:Nat} {cs:List Value} {x:PT (tupG e n)},RepCs (tupG e n) w K cs x ↔ RepCs (.arr (n + 1) e) w K cs (tupL n x)
  | 0,cs,x=>by
    show RepCs e w K cs x ↔ RepCs (.arr 1 e) w K cs [x]
    rw [d_W]
    constructor
    · exact fun h=>⟨cs,[],by simp,h,arr_nil.2 rfl⟩
    · rintro ⟨c1,c2,rfl,h1,h2⟩
      rw [arr_nil.1 h2,List.append_nil];exact h1
  | n + 1,cs,x=>by
    show RepCs (.pair e (tupG e n)) w K cs x ↔ RepCs (.arr (n + 1 + 1) e) w K cs (x.1 :: tupL n x.2)
    rw [d_W]
    constructor
    · rintro ⟨c1,c2,rfl,h1,h2⟩
      exact ⟨c1,c2,rfl,h1,tup_arr.1 h2⟩
    · rintro ⟨c1,c2,rfl,h1,h2⟩
      exact ⟨c1,c2,rfl,h1,tup_arr.2 h2⟩
theorem d_X {e:GT}:∀ (n:Nat) (x:PT (tupG e n)),(tupL n x).length = n + 1
  | 0,x=>rfl
  | n + 1,x=>by show (tupL n x.2).length + 1 = _;rw [d_X n x.2]
section
variable {w0 w:World} {K:Nat → Prop} {n b:Nat} {L:List (Option Nat)} {e:GT} {E:TypeId}
theorem Ow.toLit {xs:List (PT e)} (q:Nat) (x:PT (tupG e q)) (hx:xs = tupL q x) (h:Ow e E w n K (.slice (some ⟨b,0,.none⟩) (q + 1) (q + 1)) xs (some (q + 1))):Bx (.st (tupG e q)) E w K b x:=by
  obtain ⟨cs,h1,h2,h3⟩:=h
  subst hx
  rcases h1.2 with ⟨e1,_⟩ | ⟨g,cap,cur,e1,hb,hg,hnc,hcm,hsz,htake⟩
  · cases e1
  · injection e1 with e1 e2 e3
    have e4:b = g:=by injection e1 with e1;injection e1
    subst e4
    have hl:=d_X q x
    have hcs:=h2.len
    rw [hl] at hcs
    have hcs:cs.length = (q + 1) * e.sz:=hcs
    have hcur:cur.toList = cs:=by
      rw [← htake]
      refine (List.take_of_length_le ?_).symm
      rw [Array.length_toList,hsz,← e3,hl]
      exact Nat.le_refl _
    refine ⟨cs,?_,tup_arr.2 ?_⟩
    · rw [hg,← hcur]
    · have:=h2
      rw [hl] at this
      exact this
end
section
variable {ds:List Deferred} {N:Nat} {a:Act} {l:List (Nat × Value)} {w w0:World} {P:Program} {ops:Array Oper} {Q:Exit → Act → World → Prop} {rest:List Oper} {o:Oper} {Kont:Act → World → Prop} {d:Nat} {K:Nat → Prop} {n:Nat} {L:List (Option Nat)}
theorem a_E (S:StD ds N a l) {T:TypeId} {x i:Operand} {e:GT} {b m:Nat} {k0:IntKind} {j:Int} (off:Nat) (ho:o.op = .indexAddr T x i) (ht:tie P (.sl e) false T [] 0 = true) (hd:o.dst = some d) (hN:Nat.blt d N = true) (hx:ev l x = some (.slice (some ⟨b,0,.none⟩) m m))
    (hi:ev l i = some (.int k0 j)) (hj:(decide (0 ≤ j) && decide (j < (m:Int))) = true) (hoff:off = j.toNat * e.sz) (k:∀ a',StD ds N a' ((d,.pointer (some ((⟨b,0,.none⟩:Addr).add off))) :: l) → Kont a' w):o.wp P a w Kont Q:=by
  obtain ⟨E,hE,hte⟩:=b_c ht
  obtain ⟨ie,hie,hse⟩:=a_J hte
  rw [Bool.and_eq_true,decide_eq_true_eq,decide_eq_true_eq] at hj
  refine a_B S hd hN ?_ k
  subst hoff
  simp [execOp,ho,S.eval hx,S.eval hi,Instr.indexAt,asIntOf,run_underlying hE,hj,sizeOf,typeInfo,hie,hse]
end
end Go.Proofs.Ytmcpcdmonglkjaa
namespace Go.Proofs.Ytmcpcdmonglkjaa
open Go.RowKit
section
variable {ds:List Deferred} {N:Nat} {a:Act} {l0:List (Nat × Value)} {w:World} {P:Program} {l:List Oper} {Q:Exit → Act → World → Prop} {o:Oper} {m k i:Nat} {D:List Nat} {S0:World → Prop}
end
end Go.Proofs.Ytmcpcdmonglkjaa
namespace Go.Proofs.Ytmcpcdmonglkjaa
open Go.RowKit
class TyOk (P:Program) (tys:outParam (List (TypeId × GT))):Prop where
  ok:tysOk P tys = true
section
variable {r:Option Nat} {ds:List Deferred} {N:Nat} {a:Act} {l:List (Nat × Value)} {w:World} {P:Program} {ops:Array Oper} {Q:Exit → Act → World → Prop} {K:Act → World → Prop} {tys:List (TypeId × GT)} {l0:List Oper}
theorem dl1 [T:TyOk P tys] (S:StD ds N a l) (m:Nat) (p1:Nat × Value) (k:∀ a',StD ds N a' (p1 :: l) → wpList P ops Q (l0.drop m) a' w) (h:a_r tys ops N (l0.take m) l = some (p1 :: l):=by kernel_rfl):wpList P ops Q l0 a w:=a_G S tys T.ok m h k
theorem dl2 [T:TyOk P tys] (S:StD ds N a l) (m:Nat) (p1 p2:Nat × Value) (k:∀ a',StD ds N a' (p1 :: p2 :: l) → wpList P ops Q (l0.drop m) a' w) (h:a_r tys ops N (l0.take m) l = some (p1 :: p2 :: l):=by kernel_rfl):wpList P ops Q l0 a w:=a_G S tys T.ok m h k
theorem dl3 [T:TyOk P tys] (S:StD ds N a l) (m:Nat) (p1 p2 p3:Nat × Value) (k:∀ a',StD ds N a' (p1 :: p2 :: p3 :: l) → wpList P ops Q (l0.drop m) a' w) (h:a_r tys ops N (l0.take m) l = some (p1 :: p2 :: p3 :: l):=by kernel_rfl):wpList P ops Q l0 a w:=a_G S tys T.ok m h k
theorem dl4 [T:TyOk P tys] (S:StD ds N a l) (m:Nat) (p1 p2 p3 p4:Nat × Value) (k:∀ a',StD ds N a' (p1 :: p2 :: p3 :: p4 :: l) → wpList P ops Q (l0.drop m) a' w) (h:a_r tys ops N (l0.take m) l = some (p1 :: p2 :: p3 :: p4 :: l):=by kernel_rfl):wpList P ops Q l0 a w:=a_G S tys T.ok m h k
theorem dl5 [T:TyOk P tys] (S:StD ds N a l) (m:Nat) (p1 p2 p3 p4 p5:Nat × Value) (k:∀ a',StD ds N a' (p1 :: p2 :: p3 :: p4 :: p5 :: l) → wpList P ops Q (l0.drop m) a' w) (h:a_r tys ops N (l0.take m) l = some (p1 :: p2 :: p3 :: p4 :: p5 :: l):=by kernel_rfl):wpList P ops Q l0 a w:=a_G S tys T.ok m h k
theorem dl7 [T:TyOk P tys] (S:StD ds N a l) (m:Nat) (p1 p2 p3 p4 p5 p6 p7:Nat × Value) (k:∀ a',StD ds N a' (p1 :: p2 :: p3 :: p4 :: p5 :: p6 :: p7 :: l) → wpList P ops Q (l0.drop m) a' w) (h:a_r tys ops N (l0.take m) l = some (p1 :: p2 :: p3 :: p4 :: p5 :: p6 :: p7 :: l):=by kernel_rfl):wpList P ops Q l0 a w:=a_G S tys T.ok m h k
theorem dl8 [T:TyOk P tys] (S:StD ds N a l) (m:Nat) (p1 p2 p3 p4 p5 p6 p7 p8:Nat × Value) (k:∀ a',StD ds N a' (p1 :: p2 :: p3 :: p4 :: p5 :: p6 :: p7 :: p8 :: l) → wpList P ops Q (l0.drop m) a' w) (h:a_r tys ops N (l0.take m) l = some (p1 :: p2 :: p3 :: p4 :: p5 :: p6 :: p7 :: p8 :: l):=by kernel_rfl):wpList P ops Q l0 a w:=a_G S tys T.ok m h k
theorem R.dl1 [T:TyOk P tys] (S:StD ds N a l) (m:Nat) (p1:Nat × Value) (k:∀ a',StD ds N a' (p1 :: l) → LI r P ops Q (l0.drop m) a' w) (h:a_r tys ops N (l0.take m) l = some (p1 :: l):=by kernel_rfl):LI r P ops Q l0 a w:=R.a_G S tys T.ok m h k
theorem R.dl2 [T:TyOk P tys] (S:StD ds N a l) (m:Nat) (p1 p2:Nat × Value) (k:∀ a',StD ds N a' (p1 :: p2 :: l) → LI r P ops Q (l0.drop m) a' w) (h:a_r tys ops N (l0.take m) l = some (p1 :: p2 :: l):=by kernel_rfl):LI r P ops Q l0 a w:=R.a_G S tys T.ok m h k
theorem R.dl3 [T:TyOk P tys] (S:StD ds N a l) (m:Nat) (p1 p2 p3:Nat × Value) (k:∀ a',StD ds N a' (p1 :: p2 :: p3 :: l) → LI r P ops Q (l0.drop m) a' w) (h:a_r tys ops N (l0.take m) l = some (p1 :: p2 :: p3 :: l):=by kernel_rfl):LI r P ops Q l0 a w:=R.a_G S tys T.ok m h k
theorem R.dl4 [T:TyOk P tys] (S:StD ds N a l) (m:Nat) (p1 p2 p3 p4:Nat × Value) (k:∀ a',StD ds N a' (p1 :: p2 :: p3 :: p4 :: l) → LI r P ops Q (l0.drop m) a' w) (h:a_r tys ops N (l0.take m) l = some (p1 :: p2 :: p3 :: p4 :: l):=by kernel_rfl):LI r P ops Q l0 a w:=R.a_G S tys T.ok m h k
theorem R.dl5 [T:TyOk P tys] (S:StD ds N a l) (m:Nat) (p1 p2 p3 p4 p5:Nat × Value) (k:∀ a',StD ds N a' (p1 :: p2 :: p3 :: p4 :: p5 :: l) → LI r P ops Q (l0.drop m) a' w) (h:a_r tys ops N (l0.take m) l = some (p1 :: p2 :: p3 :: p4 :: p5 :: l):=by kernel_rfl):LI r P ops Q l0 a w:=R.a_G S tys T.ok m h k
theorem R.dl7 [T:TyOk P tys] (S:StD ds N a l) (m:Nat) (p1 p2 p3 p4 p5 p6 p7:Nat × Value) (k:∀ a',StD ds N a' (p1 :: p2 :: p3 :: p4 :: p5 :: p6 :: p7 :: l) → LI r P ops Q (l0.drop m) a' w) (h:a_r tys ops N (l0.take m) l = some (p1 :: p2 :: p3 :: p4 :: p5 :: p6 :: p7 :: l):=by kernel_rfl):LI r P ops Q l0 a w:=R.a_G S tys T.ok m h k
theorem R.dl8 [T:TyOk P tys] (S:StD ds N a l) (m:Nat) (p1 p2 p3 p4 p5 p6 p7 p8:Nat × Value) (k:∀ a',StD ds N a' (p1 :: p2 :: p3 :: p4 :: p5 :: p6 :: p7 :: p8 :: l) → LI r P ops Q (l0.drop m) a' w) (h:a_r tys ops N (l0.take m) l = some (p1 :: p2 :: p3 :: p4 :: p5 :: p6 :: p7 :: p8 :: l):=by kernel_rfl):LI r P ops Q l0 a w:=R.a_G S tys T.ok m h k
theorem Ro.dl1 [T:TyOk P tys] (S:StD ds N a l) (m:Nat) (p1:Nat × Value) (k:∀ a',StD ds N a' (p1 :: l) → Ro.RL P ops (l0.drop m) K w a' w) (h:a_r tys ops N (l0.take m) l = some (p1 :: l):=by kernel_rfl):Ro.RL P ops l0 K w a w:=Ro.a_G S tys T.ok m h k
theorem Ro.dl2 [T:TyOk P tys] (S:StD ds N a l) (m:Nat) (p1 p2:Nat × Value) (k:∀ a',StD ds N a' (p1 :: p2 :: l) → Ro.RL P ops (l0.drop m) K w a' w) (h:a_r tys ops N (l0.take m) l = some (p1 :: p2 :: l):=by kernel_rfl):Ro.RL P ops l0 K w a w:=Ro.a_G S tys T.ok m h k
theorem Ro.dl3 [T:TyOk P tys] (S:StD ds N a l) (m:Nat) (p1 p2 p3:Nat × Value) (k:∀ a',StD ds N a' (p1 :: p2 :: p3 :: l) → Ro.RL P ops (l0.drop m) K w a' w) (h:a_r tys ops N (l0.take m) l = some (p1 :: p2 :: p3 :: l):=by kernel_rfl):Ro.RL P ops l0 K w a w:=Ro.a_G S tys T.ok m h k
theorem Ro.dl4 [T:TyOk P tys] (S:StD ds N a l) (m:Nat) (p1 p2 p3 p4:Nat × Value) (k:∀ a',StD ds N a' (p1 :: p2 :: p3 :: p4 :: l) → Ro.RL P ops (l0.drop m) K w a' w) (h:a_r tys ops N (l0.take m) l = some (p1 :: p2 :: p3 :: p4 :: l):=by kernel_rfl):Ro.RL P ops l0 K w a w:=Ro.a_G S tys T.ok m h k
theorem Ro.dl5 [T:TyOk P tys] (S:StD ds N a l) (m:Nat) (p1 p2 p3 p4 p5:Nat × Value) (k:∀ a',StD ds N a' (p1 :: p2 :: p3 :: p4 :: p5 :: l) → Ro.RL P ops (l0.drop m) K w a' w) (h:a_r tys ops N (l0.take m) l = some (p1 :: p2 :: p3 :: p4 :: p5 :: l):=by kernel_rfl):Ro.RL P ops l0 K w a w:=Ro.a_G S tys T.ok m h k
theorem Ro.dl7 [T:TyOk P tys] (S:StD ds N a l) (m:Nat) (p1 p2 p3 p4 p5 p6 p7:Nat × Value) (k:∀ a',StD ds N a' (p1 :: p2 :: p3 :: p4 :: p5 :: p6 :: p7 :: l) → Ro.RL P ops (l0.drop m) K w a' w) (h:a_r tys ops N (l0.take m) l = some (p1 :: p2 :: p3 :: p4 :: p5 :: p6 :: p7 :: l):=by kernel_rfl):Ro.RL P ops l0 K w a w:=Ro.a_G S tys T.ok m h k
theorem Ro.dl8 [T:TyOk P tys] (S:StD ds N a l) (m:Nat) (p1 p2 p3 p4 p5 p6 p7 p8:Nat × Value) (k:∀ a',StD ds N a' (p1 :: p2 :: p3 :: p4 :: p5 :: p6 :: p7 :: p8 :: l) → Ro.RL P ops (l0.drop m) K w a' w) (h:a_r tys ops N (l0.take m) l = some (p1 :: p2 :: p3 :: p4 :: p5 :: p6 :: p7 :: p8 :: l):=by kernel_rfl):Ro.RL P ops l0 K w a w:=Ro.a_G S tys T.ok m h k
theorem wcs {c:Operand} {x y:Code} (t:Bool) (S:StD ds N a l) (he:ev l c = some (.bool t)) (h1:t = true → Code.wp P x Q a w) (h2:t = false → Code.wp P y Q a w):Code.wp P (Code.cond c x y) Q a w:=wp_cond_split (S.eval he) h1 h2
theorem wgo {o:Oper} {rest:List Oper} (S:StD ds N a l) (h:o.wp P a w (wpList P ops Q rest) Q) (hg:gOk ops l o = some true:=by rfl):wpList P ops Q (o :: rest) a w:=w_go S hg h
theorem R.wgo {o:Oper} {rest:List Oper} (S:StD ds N a l) (h:o.wp P a w (LI r P ops Q rest) Q) (hg:gOk ops l o = some true:=by rfl) (hd:b_D o = true:=by rfl):LI r P ops Q (o :: rest) a w:=R.w_go S hg h hd
theorem Ro.wgo {o:Oper} {rest:List Oper} (S:StD ds N a l) (h:o.wp P a w (Ro.RL P ops rest K w) (fun _ _ _=>False)) (hg:gOk ops l o = some true:=by rfl):Ro.RL P ops (o :: rest) K w a w:=Ro.w_go S hg h
theorem dzn {α:Type} {b:Bool} {x:Option α} {q:α} {G:Prop} (h:(if b then x else none) = some q) (hc:b = false):G:=by rw [hc] at h;cases h
end
end Go.Proofs.Ytmcpcdmonglkjaa
namespace Go.Proofs.Ytmcpcdmonglkjaa
open Go.RowKit
section
variable {ds:List Deferred} {N:Nat} {a:Act} {l:List (Nat × Value)} {w w0:World} {P:Program} {ops:Array Oper} {Q:Exit → Act → World → Prop} {rest:List Oper} {o:Oper} {Kont:Act → World → Prop} {d:Nat}
end
end Go.Proofs.Ytmcpcdmonglkjaa
namespace Go.Proofs.Ytmcpcdmonglkjaa
open Go.RowKit
section
variable {ds:List Deferred} {N:Nat} {a:Act} {l:List (Nat × Value)} {w w0:World} {P:Program} {ops:Array Oper} {Q:Exit → Act → World → Prop} {rest:List Oper} {o:Oper} {Kont:Act → World → Prop} {d:Nat} {K:Nat → Prop} {n:Nat} {L:List (Option Nat)}
end
theorem SbX.yst {w0 w w':World} {X P Q:List (Option Nat)} {n:Nat} (h:SbX w0 X w) (hy:Yst n w P w' Q) (hg:∀ c,some c ∈ P → w0.heap.size ≤ c ∨ some c ∈ X):SbX w0 X w' :=
  ⟨Nat.le_trans h.size hy.size,fun k hk hx=>(hy.keep k (Nat.lt_of_lt_of_le hk h.size) fun e=>by
    rcases hg k e with q | q
    · omega
    · exact hx q).trans (h.block k hk hx)⟩
end Go.Proofs.Ytmcpcdmonglkjaa
namespace Go.Proofs.Ytmcpcdmonglkjaa
open Go.RowKit
def Oby (e:GT) (E:TypeId) (w:World) (n:Nat) (K:Nat → Prop) (v:Value) (xs:List (PT e)) (c:Option Nat):Prop :=
  ∃ g cap cur fz,v = .slice (some ⟨g,0,.none⟩) xs.length cap ∧ n ≤ g ∧ w.heap[g]? = some (.cells cur E fz) ∧ cap ≤ fz.1 ∧ xs.length ≤ cap ∧ cap ≤ maxLen ∧ cur.size = cap ∧ e = .int .u8 ∧ RepCs (.arr xs.length e) w K (cur.toList.take xs.length) xs ∧ c = none
section
variable {w0 w w':World} {L:List (Option Nat)} {K:Nat → Prop} {n b i:Nat} {v:Value} {e:GT} {E:TypeId} {xs:List (PT e)} {c:Option Nat}
theorem Oby.step (h:Oby e E w n K v xs c) (hb:Below w.heap.size w w'):Oby e E w' n K v xs c:=by
  obtain ⟨g,cap,cur,fz,h1,h2,h3,h4,h5,h6,h7,h8,h9,h10⟩:=h
  exact ⟨g,cap,cur,fz,h1,h2,(hb.block g (Array.getElem?_eq_some_iff.1 h3).1).trans h3,h4,h5,h6,h7,h8,h9.keep (Keeps.below hb) fun _ _ h=>h,h10⟩
theorem Oby.forget (h:Oby e E w n K v xs c):Oby e E w n K v xs .none:=by
  obtain ⟨g,cap,cur,fz,h1,h2,h3,h4,h5,h6,h7,h8,h9,h10⟩:=h
  exact ⟨g,cap,cur,fz,h1,h2,h3,h4,h5,h6,h7,h8,h9,rfl⟩
theorem Oby.pub {L':List (Option Nat)} (h:Oby e E w n (Kx K n L) v xs c) (hs:L'.Sublist L) (hno:∀ k,v.ownBlock = some k → some k ∉ L'):RepV (.sl e) w (Kx K n L') v ⟨xs,c⟩:=by
  obtain ⟨g,cap,cur,fz,rfl,h2,h3,h4,h5,h6,h7,rfl,h9,rfl⟩:=h
  refine ⟨[_],⟨_,xs.length,cap,rfl,rfl,h5,by simpa [maxLen] using h6,fun q hq=>(by cases hq),?_⟩,rfl⟩
  refine RowsOf.of_cells (cs:=cur.toList.take xs.length) (h9.keep (Keeps.refl _ _) fun c _ hk=>⟨hk.1,fun hm=>hk.2 (hs.subset hm)⟩) (Array.getElem?_eq_some_iff.1 h3).1 ⟨.inr h2,hno g rfl⟩ fun i u hu=>?_
  rw [Nat.zero_add,cell_of_row w g i cur E fz h3]
  rw [List.getElem?_take] at hu
  split at hu
  · simpa using hu
  · cases hu
theorem Oby.read (h:Oby e E w n (Kx K n L) v xs c):RepV (.sl e) w (Kx K n []) v ⟨xs,c⟩:=h.pub (List.nil_sublist _) fun _ _ h=>(List.not_mem_nil h).elim
theorem Oby.pubAt (h:Oby e E w n (Kx K n L) v xs c) (W:Wd w0 w L) (i:Nat) (hi:L[i]? = some v.ownBlock):RepV (.sl e) w (Kx K n (L.eraseIdx i)) v ⟨xs,c⟩:=by
  refine h.pub (List.eraseIdx_sublist _ _) fun k hk hm=>?_
  obtain ⟨j,hj⟩:=List.getElem?_of_mem hm
  rw [List.getElem?_eraseIdx] at hj
  rw [hk] at hi
  split at hj
  · rename_i hlt
    exact absurd rfl (W.bne (p:=j) (q:=i) (by omega) hj hi)
  · rename_i hlt
    exact absurd rfl (W.bne (p:=j + 1) (q:=i) (by omega) hj hi)
end
section
variable {ds:List Deferred} {N:Nat} {a:Act} {l:List (Nat × Value)} {w w0:World} {P:Program} {ops:Array Oper} {Q:Exit → Act → World → Prop} {rest:List Oper} {o:Oper} {Kont:Act → World → Prop} {d:Nat} {K:Nat → Prop} {n:Nat} {L:List (Option Nat)}
end
end Go.Proofs.Ytmcpcdmonglkjaa
namespace Go.Proofs.Ytmcpcdmonglkjaa
open Go.RowKit
structure ApO (w w':World) (o o':Option Nat):Prop where
  grown:w.grownBy w' o
  at_:∀ k,o' = some k → o = some k ∨ w.heap.size ≤ k
  lt:∀ k,o' = some k → k < w'.heap.size
section
variable {w0 w w' A:World} {L LO P Q:List (Option Nat)} {K:Nat → Prop} {n b i m:Nat} {t:GT} {v v':Value} {o o':Option Nat}
theorem Apd.apo (h:Apd w w' v v'):ApO w w' v.ownBlock v'.ownBlock :=
  ⟨h.grown,fun k hk=>by
    rcases h.at_ with e | e
    · exact .inl (e ▸ hk)
    · rw [e] at hk;obtain rfl:=Option.some.inj hk;exact .inr (Nat.le_refl _),h.lt⟩
theorem NewO.apo (h:NewO w w' o):ApO w w' .none o :=
  ⟨⟨h.below.os,h.below.tape,h.below.output,h.below.size,fun k hk _=>h.below.block k hk⟩,fun k hk=>.inr (h.ge k hk),h.lt⟩
theorem ApO.keeps (h:ApO w w' o o') (hi:L[i]? = some o):Keeps (Kx K n L) w w' :=
  ⟨h.grown.size,fun p hp hk=>World.cell?_of_block (h.grown.block p.block hp fun e=>hk.2 (by rw [e];exact List.mem_of_getElem? hi))⟩
theorem ApO.kk (h:ApO w w' o o') (hi:L[i]? = some o):∀ c,c < w.heap.size → Kx K n L c → Kx K n (L.set i o') c:=by
  intro c hc hk
  refine ⟨hk.1,fun hm=>?_⟩
  rcases List.mem_or_eq_of_mem_set hm with hm | e
  · exact hk.2 hm
  · rcases h.at_ c e.symm with e2 | e2
    · exact hk.2 (by rw [← e2];exact List.mem_of_getElem? hi)
    · omega
theorem RepV.apo {u:Value} {x:PT t} (h:RepV t w (Kx K n L) u x) (ha:ApO w w' o o') (hi:L[i]? = some o):RepV t w' (Kx K n (L.set i o')) u x:=h.keep (ha.keeps hi) (ha.kk hi)
theorem Pr.apo {p:Addr} {x:PT t} (h:Pr t w (Kx K n L) p x) (ha:ApO w w' o o') (hi:L[i]? = some o):Pr t w' (Kx K n (L.set i o')) p x:=h.keep (ha.keeps hi) (ha.kk hi)
theorem Wd.apo (h:Wd w0 w L) (ha:ApO w w' o o') (hi:L[i]? = some o):Wd w0 w' (L.set i o'):=by
  have hsz:=h.below.size
  refine ⟨h.below.trans ⟨ha.grown.os,ha.grown.tape,ha.grown.output,ha.grown.size,fun k hk=>ha.grown.block k (by omega) fun e=>?_⟩,fun c hm=>?_,?_⟩
  · have:=h.own k (by rw [e];exact List.mem_of_getElem? hi)
    omega
  · have hs:=ha.grown.size
    rcases List.mem_or_eq_of_mem_set hm with hm | e
    · have:=h.own c hm;omega
    · have h2:=ha.lt c e.symm
      rcases ha.at_ c e.symm with e2 | e2
      · have:=h.own c (by rw [← e2];exact List.mem_of_getElem? hi);omega
      · omega
  · have hd:=List.pairwise_iff_getElem.1 h.dis
    refine List.pairwise_iff_getElem.2 fun p q hp hq hpq=>?_
    simp only [List.length_set] at hp hq
    rw [List.getElem_set,List.getElem_set]
    have hil:i < L.length:=(List.getElem?_eq_some_iff.1 hi).1
    have hiv:L[i] = o:=(List.getElem?_eq_some_iff.1 hi).2
    have key:∀ (r:Nat) (hr:r < L.length),r ≠ i → ∀ c,L[r] = some c → o' ≠ some c:=by
      intro r hr hri c hc e
      rcases ha.at_ c e with e2 | e2
      · rcases h.neq (p:=r) (q:=i) hri (List.getElem?_eq_getElem hr) hi with e3 | e3
        · rw [hc] at e3;cases e3
        · exact e3 (by rw [hc,e2])
      · have:=(h.own c (by rw [← hc];exact List.getElem_mem hr)).2
        omega
    split
    · rename_i hip
      subst hip
      rw [if_neg (by omega)]
      rcases Option.eq_none_or_eq_some o' with ho | ⟨c,ho⟩
      · exact .inl ho
      · exact .inr fun e=>key q hq (by omega) c (e.symm.trans ho) ho
    · split
      · rename_i hiq
        subst hiq
        cases hp2:L[p] with
        | none=>exact .inl rfl
        | some c=>exact .inr fun e=>key p hp (by omega) c hp2 e.symm
      · exact hd p q hp hq hpq
theorem ApO.away (W:Wd w0 w L) (hi:L[i]? = some o) {j:Nat} (hj:L[j]? = some (some b)) (hji:j ≠ i):some b ≠ o:=fun e=>by
  rcases W.neq hji hj hi with e2 | e2
  · cases e2
  · exact e2 e
theorem Bx.apo {T:TypeId} {x:PT t} (h:Bx t T w (Kx K n L) b x) (W:Wd w0 w L) (ha:ApO w w' o o') (hi:L[i]? = some o) {j:Nat} (hj:L[j]? = some (some b)) (hji:j ≠ i):Bx t T w' (Kx K n (L.set i o')) b x:=by
  have hl:=h.lt
  obtain ⟨cs,h1,h2⟩:=h
  exact ⟨cs,(ha.grown.block b hl (ApO.away W hi hj hji)).trans h1,h2.keep (ha.keeps hi) (ha.kk hi)⟩
theorem Ow.apo {e:GT} {E:TypeId} {u:Value} {xs:List (PT e)} {c:Option Nat} (h:Ow e E w n (Kx K n L) u xs c) (W:Wd w0 w L) (ha:ApO w w' o o') (hi:L[i]? = some o) {j:Nat} (hj:L[j]? = some u.ownBlock) (hji:j ≠ i):Ow e E w' n (Kx K n (L.set i o')) u xs c:=by
  obtain ⟨cs,h1,h2,h3⟩:=h
  refine ⟨cs,h1.kept ha.grown ?_,h2.keep (ha.keeps hi) (ha.kk hi),h3⟩
  exact W.neq hji hj hi
theorem Ox.apo {q:Obj} (h:Ox q w b) (W:Wd w0 w L) (ha:ApO w w' o o') (hi:L[i]? = some o) {j:Nat} (hj:L[j]? = some (some b)) (hji:j ≠ i):Ox q w' b :=
  ⟨(ha.grown.block b h.lt (ApO.away W hi hj hji)).trans h.1,h.2⟩
theorem Rnd.apo (h:Rnd A LO w L) (ha:ApO w w' o o') (hi:L[i]? = some o):Rnd A LO w' (L.set i o') :=
  have hm:=List.mem_of_getElem? hi
  ⟨ha.grown.os.trans h.os,ha.grown.tape.trans h.tape,ha.grown.output.trans h.output,Nat.le_trans h.size ha.grown.size,fun b hl hb=>(ha.grown.block b (Nat.lt_of_lt_of_le hl h.size) fun e=>hb (h.old b hl (by rw [e];exact hm))).trans (h.keep b hl hb),
   fun b hl hb=>by
    rcases List.mem_or_eq_of_mem_set hb with hb | e
    · exact h.old b hl hb
    · rcases ha.at_ b e.symm with e2 | e2
      · exact h.old b hl (by rw [← e2];exact hm)
      · have:=h.size;omega⟩
theorem SbX.apo {X:List (Option Nat)} (h:SbX w0 X w) (a:ApO w w' o o') (hg:∀ c,o = some c → w0.heap.size ≤ c ∨ some c ∈ X):SbX w0 X w' :=
  ⟨Nat.le_trans h.size a.grown.size,fun k hk hx=>(a.grown.block k (Nat.lt_of_lt_of_le hk h.size) fun e=>by
    rcases hg k e.symm with q | q
    · omega
    · exact hx q).trans (h.block k hk hx)⟩
theorem ApO.geX {X:List (Option Nat)} (a:ApO w w' o o') (hg:∀ c,o = some c → n ≤ c ∨ some c ∈ X) (hn:n ≤ w.heap.size):∀ c,o' = some c → n ≤ c ∨ some c ∈ X:=fun c hc=>by
  rcases a.at_ c hc with e | e
  · exact hg c e
  · exact .inl (Nat.le_trans hn e)
def Oa (e:GT) (E:TypeId) (w:World) (n:Nat) (K:Nat → Prop) (o:Option Nat) (v:Value) (xs:List (PT e)):Prop :=
  (o = v.ownBlock ∧ Ow e E w n K v xs .none) ∨ (o = .none ∧ RepV (.sl e) w K v ⟨xs,some xs.length⟩)
variable {e:GT} {E:TypeId} {xs:List (PT e)}
theorem Oa.full {x:Sl (PT e)} (h:RepV (.sl e) w K v x) (hc:x.cap = some x.xs.length):Oa e E w m K .none v x.xs:=.inr ⟨rfl,by cases x;simp only at hc;rw [hc] at h;exact h⟩
theorem Oa.step (h:Oa e E w m K o v xs) (hb:Below w.heap.size w w'):Oa e E w' m K o v xs:=h.imp (fun h=>⟨h.1,h.2.step hb⟩) fun h=>⟨h.1,h.2.step hb⟩
theorem Oa.box (h:Oa e E w n (Kx K n L) o v xs) (hb:NewB w w' b):Oa e E w' n (Kx K n (some b :: L)) o v xs:=h.imp (fun h=>⟨h.1,h.2.box hb⟩) fun h=>⟨h.1,h.2.box hb⟩
theorem Oa.newO {o2:Option Nat} (h:Oa e E w n (Kx K n L) o v xs) (hb:NewO w w' o2):Oa e E w' n (Kx K n (o2 :: L)) o v xs:=h.imp (fun h=>⟨h.1,h.2.newO hb⟩) fun h=>⟨h.1,h.2.newO hb⟩
theorem Oa.newW (h:Oa e E w n (Kx K n L) o v xs) (hb:Wd w w' P):Oa e E w' n (Kx K n (P ++ L)) o v xs:=h.imp (fun h=>⟨h.1,h.2.newW hb⟩) fun h=>⟨h.1,h.2.newW hb⟩
theorem Oa.wrote (h:Oa e E w n (Kx K n L) o v xs) (hw:Wrote b w w') (hb:some b ∈ L) (hne:o ≠ some b):Oa e E w' n (Kx K n L) o v xs:=h.imp (fun h=>⟨h.1,h.2.wrote hw hb (h.1 ▸ hne)⟩) fun h=>⟨h.1,h.2.wrote hw hb⟩
theorem Oa.apd {u u':Value} (h:Oa e E w n (Kx K n L) o v xs) (W:Wd w0 w L) (ha:Apd w w' u u') (hi:L[i]? = some u.ownBlock) {j:Nat} (hj:L[j]? = some o) (hji:j ≠ i):Oa e E w' n (Kx K n (L.set i u'.ownBlock)) o v xs :=
  h.imp (fun h=>⟨h.1,h.2.apd W ha hi (h.1 ▸ hj) hji⟩) fun h=>⟨h.1,h.2.apd ha hi⟩
theorem Oa.apo {o1 o2:Option Nat} (h:Oa e E w n (Kx K n L) o v xs) (W:Wd w0 w L) (ha:ApO w w' o1 o2) (hi:L[i]? = some o1) {j:Nat} (hj:L[j]? = some o) (hji:j ≠ i):Oa e E w' n (Kx K n (L.set i o2)) o v xs :=
  h.imp (fun h=>⟨h.1,h.2.apo W ha hi (h.1 ▸ hj) hji⟩) fun h=>⟨h.1,h.2.apo ha hi⟩
theorem Oa.more (h:Oa e E w n (Kx K n L) o v xs):Oa e E w n (Kx K n (.none :: L)) o v xs:=h.imp (fun h=>⟨h.1,h.2.more⟩) fun h=>⟨h.1,h.2.more⟩
theorem Oa.lessAt (h:Oa e E w n (Kx K n L) o v xs) (i:Nat):Oa e E w n (Kx K n (L.eraseIdx i)) o v xs:=h.imp (fun h=>⟨h.1,h.2.lessAt i⟩) fun h=>⟨h.1,h.2.lessAt i⟩
theorem Oa.drop (h:Oa e E w n (Kx K n L) o v xs) (i:Nat):Oa e E w n (Kx K n (L.drop i)) o v xs:=h.imp (fun h=>⟨h.1,h.2.drop i⟩) fun h=>⟨h.1,h.2.drop i⟩
theorem Oa.mv {o2:Option Nat} (h:Oa e E w n (Kx K n L) o v xs) (i:Nat) (hi:L[i]? = some o2):Oa e E w n (Kx K n (o2 :: L.eraseIdx i)) o v xs:=h.imp (fun h=>⟨h.1,h.2.mv i hi⟩) fun h=>⟨h.1,h.2.mv i hi⟩
theorem Oa.fr (P LO:List (Option Nat)) (h:Oa e E w m (Kx K n (P ++ LO)) o v xs):Oa e E w m (Kx K n P) o v xs:=h.imp (fun h=>⟨h.1,h.2.fr P LO⟩) fun h=>⟨h.1,h.2.fr P LO⟩
theorem Oa.yfr (LO:List (Option Nat)) {n0:Nat} {B:World} (h:Oa e E A m (Kx K n0 (P ++ LO)) o v xs) (hy:Yst n A P B Q) (W:Wd w0 A (P ++ LO)) (hb:o ∈ LO):Oa e E B m (Kx K n0 (Q ++ LO)) o v xs :=
  h.imp (fun h=>⟨h.1,h.2.yfr LO hy W (h.1 ▸ hb)⟩) fun h=>⟨h.1,h.2.yfr LO hy⟩
theorem RepV.capNone {c:Option Nat} (h:RepV (.sl e) w K v ⟨xs,c⟩):RepV (.sl e) w K v ⟨xs,.none⟩:=by
  obtain ⟨cs,⟨A,n,c',h1,h2,h3,h4,h5,h6⟩,hv⟩:=h
  exact ⟨cs,⟨A,n,c',h1,h2,h3,h4,(fun k h=>by cases h),h6⟩,hv⟩
theorem Oa.read (h:Oa e E w n (Kx K n L) o v xs):RepV (.sl e) w (Kx K n []) v ⟨xs,.none⟩:=by
  rcases h with h | h
  · exact h.2.read
  · exact h.2.out.capNone
theorem Oa.raw (h:Oa e E w m K o v xs):∀ {K':Nat → Prop},RepV .raw w K' v v:=by
  intro K'
  rcases h with h | h
  · exact h.2.raw
  · obtain ⟨A,m0,c0,rfl,_⟩:=h.2.sl
    exact ⟨_,⟨rfl,rfl⟩,rfl⟩
theorem Oa.pubAt (h:Oa e E w n (Kx K n L) o v xs) (W:Wd w0 w L) (i:Nat) (hi:L[i]? = some o):RepV (.sl e) w (Kx K n (L.eraseIdx i)) v ⟨xs,.none⟩:=by
  rcases h with h | h
  · exact h.2.pubAt W i (h.1 ▸ hi)
  · exact (h.2.lessAt i).capNone
end
section
variable {ds:List Deferred} {N:Nat} {a:Act} {l:List (Nat × Value)} {w w0:World} {P:Program} {ops:Array Oper} {Q:Exit → Act → World → Prop} {rest:List Oper} {o:Oper} {Kont:Act → World → Prop} {d:Nat} {K:Nat → Prop} {n:Nat} {L:List (Option Nat)}
end
end Go.Proofs.Ytmcpcdmonglkjaa
namespace Go.Proofs.Ytmcpcdmonglkjaa
open Go.RowKit
def Osl (e:GT) (E:TypeId) (w:World) (n:Nat) (K:Nat → Prop) (v:Value) (xs:List (PT e)):Prop :=
  (v = .slice .none 0 0 ∧ xs = []) ∨ ∃ g off cap cur cs,v = .slice (some ⟨g,off,.none⟩) xs.length cap ∧ n ≤ g ∧ w.heap[g]? = some (.cells cur E (0,0)) ∧ xs.length ≤ cap ∧ cap ≤ maxLen ∧ off + cap * e.sz ≤ cur.size ∧ RepCs (.arr xs.length e) w K cs xs ∧ (cur.toList.drop off).take (xs.length * e.sz) = cs
section
variable {w0 w w' A:World} {L LO P Q:List (Option Nat)} {K K':Nat → Prop} {n b i m:Nat} {v v':Value} {o o':Option Nat} {e:GT} {E:TypeId} {xs:List (PT e)}
theorem Osl.frame (h:Osl e E w m K v xs) (hs:∀ g,v.ownBlock = some g → g < w.heap.size → w'.heap[g]? = w.heap[g]?) (hk:Keeps K w w') (hK:∀ c,c < w.heap.size → K c → K' c):Osl e E w' m K' v xs:=by
  rcases h with h | ⟨g,off,cap,cur,cs,rfl,h1,h2,h3,h4,h5,h6,h7⟩
  · exact .inl h
  · exact .inr ⟨g,off,cap,cur,cs,rfl,h1,(hs g rfl (Array.getElem?_eq_some_iff.1 h2).1).trans h2,h3,h4,h5,h6.keep hk hK,h7⟩
theorem Osl.step (h:Osl e E w m K v xs) (hb:Below w.heap.size w w'):Osl e E w' m K v xs:=h.frame (fun g _ hl=>hb.block g hl) (Keeps.below hb) fun _ _ h=>h
theorem Osl.newO (h:Osl e E w n (Kx K n L) v xs) (hN:NewO w w' o):Osl e E w' n (Kx K n (o :: L)) v xs:=h.frame (fun g _ hl=>hN.below.block g hl) (Keeps.below hN.below) fun c hc hk=>Kx.newO hN hc hk
theorem Osl.box (h:Osl e E w n (Kx K n L) v xs) (hb:NewB w w' b):Osl e E w' n (Kx K n (some b :: L)) v xs:=h.newO (NewB.newO hb)
theorem Osl.newW (h:Osl e E w n (Kx K n L) v xs) (hN:Wd w w' P):Osl e E w' n (Kx K n (P ++ L)) v xs:=h.frame (fun g _ hl=>hN.below.block g hl) (Keeps.below hN.below) fun c hc hk=>Kx.newW hN hc hk
theorem Osl.wrote (h:Osl e E w n (Kx K n L) v xs) (hw:Wrote b w w') (hb:some b ∈ L) (hne:v.ownBlock ≠ some b):Osl e E w' n (Kx K n L) v xs:=h.frame (fun g hg _=>hw.block g fun e=>hne (by rw [hg,e])) (Keeps.wrote hw hb) fun _ _ h=>h
theorem Osl.apo (h:Osl e E w n (Kx K n L) v xs) (W:Wd w0 w L) (ha:ApO w w' o o') (hi:L[i]? = some o) {j:Nat} (hj:L[j]? = some v.ownBlock) (hji:j ≠ i):Osl e E w' n (Kx K n (L.set i o')) v xs :=
  h.frame (fun g hg hl=>ha.grown.block g hl (ApO.away W hi (hg ▸ hj) hji)) (ha.keeps hi) (ha.kk hi)
theorem Osl.apd {u u':Value} (h:Osl e E w n (Kx K n L) v xs) (W:Wd w0 w L) (ha:Apd w w' u u') (hi:L[i]? = some u.ownBlock) {j:Nat} (hj:L[j]? = some v.ownBlock) (hji:j ≠ i):Osl e E w' n (Kx K n (L.set i u'.ownBlock)) v xs:=h.apo W ha.apo hi hj hji
theorem Osl.more (h:Osl e E w n (Kx K n L) v xs):Osl e E w n (Kx K n (.none :: L)) v xs:=h.frame (fun _ _ _=>rfl) (Keeps.refl _ _) fun _ _ hk=>hk.more
theorem Osl.less {L':List (Option Nat)} (h:Osl e E w n (Kx K n L) v xs) (hs:L'.Sublist L):Osl e E w n (Kx K n L') v xs:=h.frame (fun _ _ _=>rfl) (Keeps.refl _ _) fun c _ hk=>⟨hk.1,fun hm=>hk.2 (hs.subset hm)⟩
theorem Osl.lessAt (h:Osl e E w n (Kx K n L) v xs) (i:Nat):Osl e E w n (Kx K n (L.eraseIdx i)) v xs:=h.less (List.eraseIdx_sublist _ _)
theorem Osl.drop (h:Osl e E w n (Kx K n L) v xs) (i:Nat):Osl e E w n (Kx K n (L.drop i)) v xs:=h.less (List.drop_sublist _ _)
theorem Osl.mv (h:Osl e E w m (Kx K n L) v xs) (i:Nat) (hi:L[i]? = some o):Osl e E w m (Kx K n (o :: L.eraseIdx i)) v xs:=h.frame (fun _ _ _=>rfl) (Keeps.refl _ _) fun c _ hk=>⟨hk.1,fun hm=>hk.2 (c_Q hi hm)⟩
theorem Osl.fr (P LO:List (Option Nat)) (h:Osl e E w m (Kx K n (P ++ LO)) v xs):Osl e E w m (Kx K n P) v xs:=h.frame (fun _ _ _=>rfl) (Keeps.refl _ _) fun c _ hk=>⟨hk.1,fun hm=>hk.2 (List.mem_append.2 (.inl hm))⟩
theorem Osl.yfr (LO:List (Option Nat)) {n0:Nat} {B:World} (h:Osl e E A m (Kx K n0 (P ++ LO)) v xs) (hy:Yst n A P B Q) (W:Wd w0 A (P ++ LO)) (hb:v.ownBlock ∈ LO):Osl e E B m (Kx K n0 (Q ++ LO)) v xs :=
  h.frame (fun g hg hl=>hy.keep g hl (hy.apart W (hg ▸ hb))) hy.keepsf fun c hc hk=>hy.kkf hc hk
theorem Osl.lt (h:Osl e E w m K v xs):∀ g,v.ownBlock = some g → m ≤ g ∧ g < w.heap.size:=by
  intro g0 hg0
  rcases h with ⟨rfl,_⟩ | ⟨g,off,cap,cur,cs,rfl,h1,h2,_⟩
  · cases hg0
  · obtain rfl:g = g0:=by simpa [Value.ownBlock] using hg0
    exact ⟨h1,(Array.getElem?_eq_some_iff.1 h2).1⟩
theorem Osl.pub {L':List (Option Nat)} (h:Osl e E w n (Kx K n L) v xs) (hs:L'.Sublist L) (hno:∀ k,v.ownBlock = some k → some k ∉ L'):RepV (.sl e) w (Kx K n L') v ⟨xs,.none⟩:=by
  have hk:∀ c,Kx K n L c → Kx K n L' c:=fun c hk=>⟨hk.1,fun hm=>hk.2 (hs.subset hm)⟩
  rcases h with ⟨rfl,rfl⟩ | ⟨g,off,cap,cur,cs,rfl,hb,hg,hnc,hcm,hsz,h2,htake⟩
  · exact ⟨[_],⟨.none,0,0,rfl,rfl,Nat.le_refl _,by omega,(fun q hq=>by cases hq),.inl rfl⟩,rfl⟩
  · refine ⟨[_],⟨_,xs.length,cap,rfl,rfl,hnc,by simpa [maxLen] using hcm,fun q hq=>(by cases hq),?_⟩,rfl⟩
    refine RowsOf.of_cells (cs:=cs) (h2.keep (Keeps.refl _ _) fun c _ h=>hk c h) (Array.getElem?_eq_some_iff.1 hg).1 ⟨.inr hb,hno g rfl⟩ fun i u hu=>?_
    rw [cell_of_row w g (off + i) cur E (0,0) hg]
    rw [← htake,List.getElem?_take] at hu
    split at hu
    · rw [List.getElem?_drop] at hu;simpa using hu
    · cases hu
theorem Osl.read (h:Osl e E w n (Kx K n L) v xs):RepV (.sl e) w (Kx K n []) v ⟨xs,.none⟩:=h.pub (List.nil_sublist _) fun _ _ h=>(List.not_mem_nil h).elim
theorem Osl.pubAt (h:Osl e E w n (Kx K n L) v xs) (W:Wd w0 w L) (i:Nat) (hi:L[i]? = some v.ownBlock):RepV (.sl e) w (Kx K n (L.eraseIdx i)) v ⟨xs,.none⟩:=by
  refine h.pub (List.eraseIdx_sublist _ _) fun k hk hm=>?_
  obtain ⟨j,hji,hj⟩:=b_w hm
  rcases W.neq hji hj hi with e | e
  · cases e
  · exact e hk.symm
theorem Osl.raw (h:Osl e E w m K v xs):∀ {K':Nat → Prop},RepV .raw w K' v v:=by
  intro K'
  rcases h with ⟨rfl,_⟩ | ⟨g,off,cap,cur,cs,rfl,_⟩
  · exact ⟨_,⟨rfl,rfl⟩,rfl⟩
  · exact ⟨_,⟨rfl,rfl⟩,rfl⟩
end
section
variable {ds:List Deferred} {N:Nat} {a:Act} {l:List (Nat × Value)} {w w0:World} {P:Program} {ops:Array Oper} {Q:Exit → Act → World → Prop} {rest:List Oper} {o:Oper} {Kont:Act → World → Prop} {d:Nat} {K:Nat → Prop} {n:Nat} {L:List (Option Nat)}
end
end Go.Proofs.Ytmcpcdmonglkjaa
namespace Go.Proofs.Ytmcpcdmonglkjaa
open Go.RowKit
section
variable {ds:List Deferred} {N:Nat} {a:Act} {l0 l1:List (Nat × Value)} {w w0 w1:World} {P:Program} {Q:Exit → Act → World → Prop} {l:List Oper} {o:Oper} {m i k:Nat} {D:List Nat}
theorem b_n {X:List (Option Nat)} {t:GT} {T:TypeId} {ad:Operand} {d:Nat} {p:Addr} {x:PT t} {K:Nat → Prop} (hs:Region.noSelect l.toArray = true) (hQ:PanicOk Q) (hS:SbX w0 X w) (hc:a_4 l m D [i] = true) (ho:l[i]? = some o) (S:StD ds N a l0) (hg:gOk l.toArray l0 o = some true)
    (hop:o.op = .load T ad) (ht:tie P t false T [] 0 = true) (hd:o.dst = some d) (hN:Nat.blt d N = true) (ha:ev l0 ad = some (.pointer (some p))) (hA:RepAt t w K p x) (hb:p.block < w0.heap.size) (hx:some p.block ∉ X)
    (kk:∀ a' v,RepV t w K v x → StD ds N a' ((d,v) :: l0) → AnH P l Q m (SbX w0 X) k (i :: D) a' w):AnH P l Q m (SbX w0 X) (k + 1) D a w:=by
  simp only [a_4,Bool.and_eq_true] at hc
  obtain ⟨⟨hf,hr⟩,_⟩:=hc
  have hi:i ∈ Region.ready .any l.toArray (a_v m D):=by simpa using hr
  have ho':l.toArray[i]? = some o:=by simpa using ho
  obtain ⟨h0,cs,hR,hcell⟩:=hA
  have hv:∀ w',SbX w0 X w' → (execOp a.eval o).run P w' = .ok (.value (if t.agg then .agg cs.toArray else cs.headD undef)) w':=fun w' hw'=>by
    have:=b_I (P:=P) (w:=w') ht h0 hR fun j u hj=>by
      rw [← hcell j u hj]
      exact (hw'.cell (show (⟨p.block,p.off + j,.none⟩:Addr).block < w0.heap.size from hb) hx).trans (hS.cell (show (⟨p.block,p.off + j,.none⟩:Addr).block < w0.heap.size from hb) hx).symm
    simp [execOp,hop,S.eval ha,Instr.loadAt,Instr.sureAddr,this]
  have:=kk (a.put o.dst (if t.agg then .agg cs.toArray else cs.headD undef)) _ ⟨cs,hR,rfl⟩ (by rw [hd];exact S.put (by simpa [Nat.blt_eq] using hN) _)
  exact wpAnyH_first ho' (Region.noSelect_spec hs) (fun c a w=>hQ.put c o.dst _ a w) k (a_v m D) a w (Region.free_spec ho' hf) hi (.inl ⟨gOk.wanted S hg,hv⟩) hS this
theorem Yst.geX {n:Nat} {A B:World} {P Q X:List (Option Nat)} (hy:Yst n A P B Q) (hP:∀ c,some c ∈ P → w0.heap.size ≤ c ∨ some c ∈ X) (hs:w0.heap.size ≤ A.heap.size):∀ c,some c ∈ Q → w0.heap.size ≤ c ∨ some c ∈ X:=fun c hc=>by
  by_cases h:c < A.heap.size
  · exact hP c (hy.old c h hc)
  · exact .inl (by omega)
end
end Go.Proofs.Ytmcpcdmonglkjaa
