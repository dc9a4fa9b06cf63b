/- The rules of the walk over plain data, more: a region that draws its order, in which what is loaded from old blocks comes first. Plain theorems, no condition. -/
import Derived.Test.YtaekmgpcdgmlgaaXE39
import Derived.OrdersHeld
set_option linter.unusedVariables false
set_option linter.unusedSimpArgs false
namespace Go.Proofs.Ytaekmgpcdgmlgaa
open Go.RowKit

/-- The blocks of the world w0 are as they were. -/
@[reducible] def Sb (w0:World):World → Prop:=fun w=>Below w0.heap.size w0 w
theorem Sb.step {w0 w w':World} (h:Sb w0 w) (hb:Below w.heap.size w w'):Sb w0 w':=Below.trans h (hb.mono h.size)
theorem Sb.apd {w0 w w':World} {v v':Value} (h:Sb w0 w) (A:Apd w w' v v') (hg:∀ c,v.ownBlock = some c → w0.heap.size ≤ c):Sb w0 w' :=
  Below.trans h ⟨A.grown.os,A.grown.tape,A.grown.output,A.grown.size,fun k hk=>A.grown.block k (Nat.lt_of_lt_of_le hk h.size) fun e=>by have:=hg k e.symm;omega⟩
theorem Sb.wrote {w0 w w':World} {b:Nat} (h:Sb w0 w) (hw:Wrote b w w') (hg:w0.heap.size ≤ b):Sb w0 w' :=
  Below.trans h ⟨hw.os,hw.tape,hw.output,Nat.le_of_eq hw.size.symm,fun k hk=>hw.block k fun e=>by omega⟩
theorem Apd.ge {n:Nat} {w w':World} {v v':Value} (A:Apd w w' v v') (hg:∀ c,v.ownBlock = some c → n ≤ c) (hn:n ≤ w.heap.size):∀ c,v'.ownBlock = some c → n ≤ c:=fun c hc=>by
  rcases A.at_ with e | e
  · exact hg c (e ▸ hc)
  · rw [e] at hc;obtain rfl:=Option.some.inj hc;exact hn
/-- What is left of a region of which the operations D have come up, where the old blocks stay. -/
def AnH (P:Program) (l:List Oper) (Q:Exit → Act → World → Prop) (m:Nat) (w0:World) (k:Nat) (D:List Nat) (a:Act) (w:World):Prop:=wpAnyH P .any l.toArray Q (Sb w0) k (listedOf m D) a w
def AnStepH (P:Program) (l:List Oper) (Q:Exit → Act → World → Prop) (m:Nat) (w0:World) (k:Nat) (D:List Nat) (a:Act) (w:World) (i:Nat):Prop:=wpOp P l.toArray Q i (fun a' w'=>Sb w0 w' ∧ AnH P l Q m w0 k (i :: D) a' w') a w
def AnForksH (P:Program) (l:List Oper) (Q:Exit → Act → World → Prop) (m:Nat) (w0:World) (k:Nat) (D:List Nat) (a:Act) (w:World):List Nat → Prop
  | []=>True
  | i :: is=>AnStepH P l Q m w0 k D a w i ∧ AnForksH P l Q m w0 k D a w is
theorem AnForksH.get {P:Program} {l:List Oper} {Q:Exit → Act → World → Prop} {m k:Nat} {w0:World} {D:List Nat} {a:Act} {w:World}:∀ {is:List Nat},AnForksH P l Q m w0 k D a w is → ∀ i ∈ is,AnStepH P l Q m w0 k D a w i
  | j :: is,h,i,hi=>by
    rcases List.mem_cons.1 hi with rfl | hi
    · exact h.1
    · exact AnForksH.get h.2 i hi
section
variable {P:Program} {w W:World} {K:Nat → Prop}
theorem run_loadVar_cells {T:TypeId} {t:GT} {p:Addr} {x:PT t} {cs:List Value} (ht:tie P t false T [] 0 = true) (hs:p.spot = none) (h1:RepCs t W K cs x) (h2:∀ (i:Nat) (v:Value),cs[i]? = some v → w.cell? ⟨p.block,p.off + i,none⟩ = some v) :
    (loadVar T p).run P w = .ok (if t.agg then .agg cs.toArray else cs.headD undef) w:=by
  obtain ⟨b,off,spot⟩:=p
  obtain rfl:spot = .none:=hs
  obtain ⟨i,hi,hsz⟩:=tie_size ht
  have hl:=h1.len
  have hload:(loadCells ⟨b,off,.none⟩ i.size).run P w = .ok cs.toArray w:=by
    rw [hsz,← hl]
    exact run_loadCells_list (P:=P) w ⟨b,off,.none⟩ cs (fun j v hv=>by rw [Addr.add_lit];exact h2 j v hv)
  have one:t.agg = false → (∀ d,P.underlying T = some d → (match d with | .struct _ | .array _ _=>true | _=>false) = false) → P.underlying T ≠ .none → t.sz = 1 → (loadVar T ⟨b,off,.none⟩).run P w = .ok (if t.agg then .agg cs.toArray else cs.headD undef) w:=by
    intro hagg hd hne h1z
    rw [h1z] at hl
    match cs,hl with
    | [c],_ =>
      have hc:=h2 0 c rfl
      cases hu:P.underlying T with
      | none=>exact absurd hu hne
      | some d =>
        have:=hd d hu
        rw [if_neg (by simp [hagg])]
        have hc':w.cell? ⟨b,off,.none⟩ = some c:=hc
        cases d <;> simp at this <;> simp [loadVar,isAgg,run_underlying hu,hc']
  cases t with
  | int k=>exact one rfl (fun d hd=>by rw [tie_int ht] at hd;cases hd;rfl) (by rw [tie_int ht];simp) rfl
  | bool=>exact one rfl (fun d hd=>by rw [tie_bool ht] at hd;cases hd;rfl) (by rw [tie_bool ht];simp) rfl
  | str=>exact one rfl (fun d hd=>by rw [tie_str ht] at hd;cases hd;rfl) (by rw [tie_str ht];simp) rfl
  | sl e=>obtain ⟨E,hE,_⟩:=tie_sl ht;exact one rfl (fun d hd=>by rw [hE] at hd;cases hd;rfl) (by rw [hE];simp) rfl
  | raw=>obtain ⟨E,hE⟩:=tie_raw ht;exact one rfl (fun d hd=>by rw [hE] at hd;cases hd;rfl) (by rw [hE];simp) rfl
  | pair a b=>simp [tie] at ht
  | st f =>
    obtain ⟨fs,hfs,_⟩:=tie_st ht
    rw [if_pos rfl]
    simp [loadVar,isAgg,run_underlying hfs,sizeOf,typeInfo,hi,hload]
  | arr m e =>
    obtain ⟨E,hE,_⟩:=tie_arr ht
    rw [if_pos rfl]
    simp [loadVar,isAgg,run_underlying hE,sizeOf,typeInfo,hi,hload]
end
section
variable {ds:List Deferred} {N:Nat} {a:Act} {l0 l1:List (Nat × Value)} {w w0:World} {P:Program} {l:List Oper} {Q:Exit → Act → World → Prop} {o:Oper} {m k i:Nat} {D:List Nat}
theorem wp_region_ordH {id:Nat} (m:Nat) (hm:P.follows .mixedOrders = true) (hl:l.length = m) (hQ:PanicOk Q) (h:∀ w',Below w.heap.size w w' → PanicOk Q → AnH P l Q m w' m [] a w'):(Code.region id l.toArray true).wp P Q a w:=by
  subst hl
  refine wp_region_any hm (wpAny_of_held (S:=Sb { w with drawn:=w.drawn + 1 }) _ _ _ _ ?_)
  have:=h { w with drawn:=w.drawn + 1 } ⟨rfl,rfl,rfl,Nat.le_refl _,fun _ _=>rfl⟩ hQ
  simpa [AnH,listedOf] using this
namespace R
end R
theorem anh_end (hr:Region.ready .any l.toArray (listedOf m D) = []) (h:Q .normal a w):AnH P l Q m w0 k D a w:=wpAnyH_done hr h k
theorem anh_fork {is:List Nat} (hr:Region.ready .any l.toArray (listedOf m D) = is) (hne:is.isEmpty = false) (h:AnForksH P l Q m w0 k D a w is):AnH P l Q m w0 (k + 1) D a w:=by
  unfold AnH
  refine ⟨fun he=>?_,fun i hi=>?_⟩
  · rw [hr] at he;subst he;cases hne
  · rw [hr] at hi
    exact h.get i hi
theorem anh_step (ho:l[i]? = some o) (S:StD ds N a l0) (hg:gOk l.toArray l0 o = some true) (h:o.wp P a w (fun a' w'=>Sb w0 w' ∧ AnH P l Q m w0 k (i :: D) a' w') Q):AnStepH P l Q m w0 k D a w i:=by
  unfold AnStepH wpOp
  have ho':l.toArray[i]? = some o:=by simpa using ho
  simp only [ho']
  rw [if_pos (gOk.wanted S hg)]
  exact .inl h
theorem anh_go (hr:Region.ready .any l.toArray (listedOf m D) = [i]) (ho:l[i]? = some o) (S:StD ds N a l0) (hg:gOk l.toArray l0 o = some true) (h:o.wp P a w (fun a' w'=>Sb w0 w' ∧ AnH P l Q m w0 k (i :: D) a' w') Q):AnH P l Q m w0 (k + 1) D a w :=
  anh_fork hr rfl ⟨anh_step ho S hg h,trivial⟩
theorem anh_pures (tys:List (TypeId × GT)) (ht:tysOk P tys = true) (hs:Region.noSelect l.toArray = true) (hQ:PanicOk Q) (hS:Sb w0 w):∀ (is:List Nat) {D:List Nat} {a:Act} {l0:List (Nat × Value)},StD ds N a l0 → anPureB l m D is = true → runPure tys l.toArray N (is.filterMap (l[·]?)) l0 = some l1 → (∀ a',StD ds N a' l1 → AnH P l Q m w0 k (is.reverse ++ D) a' w) → AnH P l Q m w0 (k + is.length) D a w
  | [],D,a,l0,S,_,hp,h=>by
    simp only [List.filterMap_nil,runPure,Option.some.injEq] at hp
    subst hp
    exact h a S
  | i :: is,D,a,l0,S,hc,hp,h=>by
    simp only [anPureB,Bool.and_eq_true] at hc
    obtain ⟨⟨hf,hr⟩,hc⟩:=hc
    have hi:i ∈ Region.ready .any l.toArray (listedOf m D):=by simpa using hr
    obtain ⟨_,o,ho,_⟩:=mem_ready.1 hi
    have ho':l[i]? = some o:=by simpa using ho
    rw [List.filterMap_cons_some ho'] at hp
    have h':∀ a',StD ds N a' l1 → AnH P l Q m w0 k (is.reverse ++ (i :: D)) a' w:=fun a' S'=>by
      have:=h a' S'
      simpa using this
    have fin:∀ (v:Value) (l2:List (Nat × Value)),Yields P l.toArray o v a → StD ds N (a.put o.dst v) l2 → runPure tys l.toArray N (is.filterMap (l[·]?)) l2 = some l1 → AnH P l Q m w0 (k + (is.length + 1)) D a w:=fun v l2 hy S2 hp2 =>
      wpAnyH_first ho (Region.noSelect_spec hs) (fun c a w=>hQ.put c o.dst v a w) (k + is.length) (listedOf m D) a w (Region.free_spec ho hf) hi hy.yieldsIf hS (anh_pures tys ht hs hQ hS is S2 hc hp2 h')
    unfold runPure at hp
    split at hp
    · rename_i d hg hd
      split at hp
      · rename_i v hv
        split at hp
        · rename_i hN
          exact fin v _ (.inl ⟨gOk.wanted S hg,fun w=>pure_ok S o tys ht hv⟩) (by rw [hd];exact S.put (by simpa [Nat.blt_eq] using hN) v) hp
        · cases hp
      · cases hp
    · rename_i d hg hd
      split at hp
      · rename_i hN
        exact fin undef _ (.inr ⟨gOk.wanted S hg,rfl⟩) (by rw [hd];exact S.put (by simpa [Nat.blt_eq] using hN) undef) hp
      · cases hp
    · rename_i hg hd
      exact fin undef _ (.inr ⟨gOk.wanted S hg,rfl⟩) (by rw [hd];exact S) hp
    · cases hp
theorem build_yields {K:Nat → Prop} (S:StD ds N a l0) {T:TypeId} {parts:Array (Nat × Operand)} {f:GT} {z0 x:PT f} {vs:List Value} (z:Value) (ho:o.op = .build T parts) (ht:tie P (.st f) false T [] 0 = true) (hz:(P.info? T).bind (·.zero) = some z) (R:∀ w K,RepCs f w K z.cells.toList z0) 
    (hv:evs l0 (parts.toList.map (·.2)) = some vs) (ps:List (Nat × Value)) (hps:ps = (parts.toList.map (·.1)).zip vs) (F:FillsTo f w K ps z0 x):∃ v,RepV (.st f) w K v x ∧ ∀ w',(execOp a.eval o).run P w' = .ok (.value v) w':=by
  obtain ⟨fs,hfs,htf⟩:=tie_st ht
  obtain ⟨i,hi,hsz⟩:=tie_size ht
  have hz0:i.zero = some z:=by rw [hi] at hz;exact hz
  have hmap:∀ w:World,(fs.mapM fun (g:Field)=>(do pure (g.offset,← sizeOf g.type):Sem _)).run P w = .ok (fs.toList.map fun g=>(g.offset,P.cellsOf g.type)).toArray w:=by
    intro w
    rw [Array.mapM_eq_foldlM]
    have:=mapM_places (P:=P) (w:=w) fs fs.toList #[] (tie_infos htf)
    rw [← Array.foldlM_toList]
    simpa using this
  have hpl:∀ k,pureOp.fieldB f k = true → (fs.toList.map fun g=>(g.offset,P.cellsOf g.type)).toArray[k]? = some (coff f k,(comp f k).sz):=by
    intro k hk
    obtain ⟨fld,h1,h2,j,hj,hjs⟩:=tie_field htf hk
    simp only [List.getElem?_toArray,List.getElem?_map,h1,Option.map_some,h2,Program.cellsOf,hj,hjs,Nat.zero_add,Option.getD_some]
  obtain ⟨cs',hfill,hrep⟩:=fills_ok (T:=T) htf (fun k=>(fs.toList.map fun g=>(g.offset,P.cellsOf g.type)).toArray[k]?) hpl ps z.cells.toList z0 x (R w K) F
  have hparts:(parts.map fun (p:Nat × Operand)=>(p.1,a.eval p.2)).toList = ps:=by
    rw [hps,← S.evs hv,Array.toList_map]
    induction parts.toList with
    | nil=>rfl
    | cons p r ih=>simp [ih]
  refine ⟨.agg cs'.toArray,⟨cs',hrep,rfl⟩,fun w'=>?_⟩
  have hpm:parts.map (fun (x:Nat × Operand)=>match x with | (i,x)=>(i,a.eval x)) = parts.map fun (p:Nat × Operand)=>(p.1,a.eval p.2):=rfl
  have hfill':Instr.fill (fun k=>(fs.toList.map fun g=>(g.offset,P.cellsOf g.type)).toArray[k]?) z.cells ps = some cs'.toArray:=by simpa using hfill
  simp only [execOp,ho,hpm,Instr.build,zeroValue,typeInfo,Sem.run_bind,run_program,hi,Result.andThen_ok,Sem.run_pure,hz0,run_underlying hfs,hmap,hparts,hfill']
/-- A struct that is built comes first. -/
theorem anh_build {T:TypeId} {parts:Array (Nat × Operand)} {f:GT} {z0 x:PT f} {vs:List Value} {d:Nat} {K:Nat → Prop} (hs:Region.noSelect l.toArray = true) (hQ:PanicOk Q) (hS:Sb w0 w) (hc:anPureB l m D [i] = true) (ho:l[i]? = some o) (S:StD ds N a l0) (hg:gOk l.toArray l0 o = some true)
    (z:Value) (hop:o.op = .build T parts) (ht:tie P (.st f) false T [] 0 = true) (hz:(P.info? T).bind (·.zero) = some z) (R:∀ w K,RepCs f w K z.cells.toList z0) (hd:o.dst = some d) (hN:Nat.blt d N = true)
    (hv:evs l0 (parts.toList.map (·.2)) = some vs) (ps:List (Nat × Value)) (hps:ps = (parts.toList.map (·.1)).zip vs) (F:FillsTo f w K ps z0 x) (kk:∀ a' v,RepV (.st f) w K v x → StD ds N a' ((d,v) :: l0) → AnH P l Q m w0 k (i :: D) a' w):AnH P l Q m w0 (k + 1) D a w:=by
  simp only [anPureB,Bool.and_eq_true] at hc
  obtain ⟨⟨hf,hr⟩,_⟩:=hc
  have hi:i ∈ Region.ready .any l.toArray (listedOf m D):=by simpa using hr
  have ho':l.toArray[i]? = some o:=by simpa using ho
  obtain ⟨v,hrep,hall⟩:=build_yields S z hop ht hz R hv ps hps F
  have:=kk (a.put o.dst v) v hrep (by rw [hd];exact S.put (by simpa [Nat.blt_eq] using hN) _)
  exact wpAnyH_first ho' (Region.noSelect_spec hs) (fun c a w=>hQ.put c o.dst _ a w) k (listedOf m D) a w (Region.free_spec ho' hf) hi (.inl ⟨gOk.wanted S hg,fun w _=>hall w⟩) hS this
/-- A load out of an old block comes first. -/
theorem anh_load {t:GT} {T:TypeId} {ad:Operand} {d:Nat} {p:Addr} {x:PT t} {K:Nat → Prop} (hs:Region.noSelect l.toArray = true) (hQ:PanicOk Q) (hc:anPureB l m D [i] = true) (ho:l[i]? = some o) (S:StD ds N a l0) (hg:gOk l.toArray l0 o = some true)
    (hop:o.op = .load T ad) (ht:tie P t false T [] 0 = true) (hd:o.dst = some d) (hN:Nat.blt d N = true) (ha:ev l0 ad = some (.pointer (some p))) (hA:RepAt t w K p x) (hb:p.block < w.heap.size)
    (kk:∀ a' v,RepV t w K v x → StD ds N a' ((d,v) :: l0) → AnH P l Q m w k (i :: D) a' w):AnH P l Q m w (k + 1) D a w:=by
  simp only [anPureB,Bool.and_eq_true] at hc
  obtain ⟨⟨hf,hr⟩,_⟩:=hc
  have hi:i ∈ Region.ready .any l.toArray (listedOf m D):=by simpa using hr
  have ho':l.toArray[i]? = some o:=by simpa using ho
  obtain ⟨h0,cs,hR,hcell⟩:=hA
  have hv:∀ w',Sb w w' → (execOp a.eval o).run P w' = .ok (.value (if t.agg then .agg cs.toArray else cs.headD undef)) w':=fun w' hw'=>by
    have:=run_loadVar_cells (P:=P) (w:=w') ht h0 hR fun j u hj=>by
      rw [← hcell j u hj]
      exact hw'.cell (show (⟨p.block,p.off + j,.none⟩:Addr).block < w.heap.size from hb)
    simp [execOp,hop,S.eval ha,Instr.loadAt,Instr.sureAddr,this]
  have hS:Sb w w:=Below.refl _ _
  have:=kk (a.put o.dst (if t.agg then .agg cs.toArray else cs.headD undef)) _ ⟨cs,hR,rfl⟩ (by rw [hd];exact S.put (by simpa [Nat.blt_eq] using hN) _)
  exact wpAnyH_first ho' (Region.noSelect_spec hs) (fun c a w=>hQ.put c o.dst _ a w) k (listedOf m D) a w (Region.free_spec ho' hf) hi (.inl ⟨gOk.wanted S hg,hv⟩) hS this
end
end Go.Proofs.Ytaekmgpcdgmlgaa
