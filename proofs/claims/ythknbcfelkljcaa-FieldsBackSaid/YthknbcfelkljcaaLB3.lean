/- The rules of the walk over plain data. Plain theorems, no condition. -/
import Derived.Test.YthknbcfelkljcaaLB2
import Derived.LoopN
set_option linter.unusedVariables false
set_option linter.unusedSimpArgs false
namespace Go.Proofs.Ythknbcfelkljcaa
open Go.RowKit
theorem RepV.rawV {w:World} {K:Nat → Prop} {v:Value} (h:v.oneCell' = true):RepV .raw w K v v:=⟨[v],⟨rfl,h⟩,rfl⟩
theorem b_b {P:Program} {c:Code} {Q:Exit → Act → World → Prop} {n:Nat} {a:Act} {w:World} (h:c.wp P (Exit.then (Code.rounds P c Q n) Q) a w):Code.rounds P c Q (n + 1) a w:=h
theorem run_part {P:Program} {w W:World} {K:Nat → Prop} {T:TypeId} {t:GT} {x:PT t} {c c1 c2:List Value} (ht:tie P t false T [] 0 = true) (h1:RepCs t W K c x) :
    (part T (c1 ++ (c ++ c2)).toArray c1.length).run P w = .ok (if t.agg then .agg c.toArray else c.headD undef) w:=by
  obtain ⟨i,hi,hsz⟩:=a_E ht
  have hl:=h1.len
  have one:t.agg = false → (∀ d,P.underlying T = some d → (match d with | .struct _ | .array _ _=>true | _=>false) = false) → P.underlying T ≠ .none → t.sz = 1 → (part T (c1 ++ (c ++ c2)).toArray c1.length).run P w = .ok (if t.agg then .agg c.toArray else c.headD undef) w:=by
    intro hagg hd hne h1z
    rw [h1z] at hl
    match c,hl with
    | [u],_ =>
      cases hu:P.underlying T with
      | none=>exact absurd hu hne
      | some d =>
        have:=hd d hu
        rw [if_neg (by simp [hagg])]
        cases d <;> simp at this <;> simp [part,isAgg,run_underlying hu]
  have ext:((c1 ++ (c ++ c2)).toArray.extract c1.length (c1.length + t.sz)) = c.toArray:=by
    rw [← hl]
    simp
  cases t with
  | int k=>exact one rfl (fun d hd=>by rw [a_6 ht] at hd;cases hd;rfl) (by rw [a_6 ht];simp) rfl
  | bool=>exact one rfl (fun d hd=>by rw [a_7 ht] at hd;cases hd;rfl) (by rw [a_7 ht];simp) rfl
  | str=>exact one rfl (fun d hd=>by rw [b_B ht] at hd;cases hd;rfl) (by rw [b_B ht];simp) rfl
  | sl e=>obtain ⟨E,hE,_⟩:=b_n ht;exact one rfl (fun d hd=>by rw [hE] at hd;cases hd;rfl) (by rw [hE];simp) rfl
  | raw=>obtain ⟨d0,hE,hd0⟩:=d_P ht;exact one rfl (fun d hd=>by rw [hE] at hd;cases hd;exact hd0) (by rw [hE];simp) rfl
  | pair a b=>simp [tie] at ht
  | st f =>
    obtain ⟨fs,hfs,_⟩:=c_h ht
    rw [if_pos rfl]
    have ext':((c1 ++ (c ++ c2)).toArray.extract c1.length (c1.length + i.size)) = c.toArray:=by rw [hsz];exact ext
    simp only [part,isAgg,Sem.run_bind,run_underlying hfs,Result.andThen_ok,Sem.run_pure,if_pos,sizeOf,typeInfo,run_program,hi,ext']
  | arr m e =>
    obtain ⟨E,hE,_⟩:=b_W ht
    rw [if_pos rfl]
    have ext':((c1 ++ (c ++ c2)).toArray.extract c1.length (c1.length + i.size)) = c.toArray:=by rw [hsz];exact ext
    simp only [part,isAgg,Sem.run_bind,run_underlying hE,Result.andThen_ok,Sem.run_pure,if_pos,sizeOf,typeInfo,run_program,hi,ext']
section
variable {ds:List Deferred} {N:Nat} {a:Act} {l:List (Nat × Value)} {w w0:World} {P:Program} {ops:Array Oper} {Q:Exit → Act → World → Prop} {rest:List Oper} {o:Oper} {Kont:Act → World → Prop} {d:Nat} {K:Nat → Prop} {n:Nat} {L:List (Option Nat)}
theorem c_z (S:StD ds N a l) {T:TypeId} {x i:Operand} {m:Nat} {e:GT} {v:Value} {xs:List (PT e)} {k0:IntKind} {j:Int} {y:PT e} (ho:o.op = .index T x i) (ht:tie P (.arr m e) false T [] 0 = true) (hd:o.dst = some d) (hN:Nat.blt d N = true) (hx:ev l x = some v) (R:RepV (.arr m e) w K v xs)
    (hi:ev l i = some (.int k0 j)) (hj:idx xs j = some y) (k:∀ a' u,RepV e w K u y → StD ds N a' ((d,u) :: l) → Kont a' w):o.wp P a w Kont Q:=by
  obtain ⟨E,hE,hte⟩:=b_W ht
  obtain ⟨ie,hie,hse⟩:=a_E hte
  obtain ⟨cs,hr,rfl⟩:=R
  obtain ⟨h0,hg,hlt⟩:=b_y hj
  have hjl:j.toNat < xs.length:=by omega
  have hm:j.toNat < m:=by have:=hr.1;omega
  obtain ⟨c1,c,c2,rfl,hl1,hrep,_⟩:=Ln.arr (n:=m) hm y w K cs xs hr
  have hy:RepCs e w K c y:=by
    have hrep':RepCs e w K c (xs.getD j.toNat y):=hrep
    have e0:xs.getD j.toNat y = y:=by simp [List.getD,hg]
    rwa [e0] at hrep'
  have hp:=run_part (P:=P) (w:=w) (c1:=c1) (c2:=c2) hte hy
  refine a_G S (v:=if e.agg then .agg c.toArray else c.headD undef) hd hN ?_ fun a'=>k a' _ ⟨c,hy,rfl⟩
  rw [if_pos (show (GT.arr m e).agg = true from rfl)] at hx
  have hlen:(0 ≤ j ∧ j < (m:Int)):=by omega
  rw [hl1,← List.append_assoc] at hp
  simp only [execOp,ho,S.eval hx,S.eval hi,Instr.index,asIntOf,Sem.run_bind,Sem.run_pure,Result.andThen_ok,run_underlying hE,if_pos hlen,sizeOf,typeInfo,run_program,hie,hse,hp]
end
end Go.Proofs.Ythknbcfelkljcaa
namespace Go.Proofs.Ythknbcfelkljcaa
open Go.RowKit
structure SbX (w0:World) (X:List (Option Nat)) (w:World):Prop where
  size:w0.heap.size ≤ w.heap.size
  block:∀ k,k < w0.heap.size → some k ∉ X → w.heap[k]? = w0.heap[k]?
theorem SbX.refl (w:World) (X:List (Option Nat)):SbX w X w:=⟨Nat.le_refl _,fun _ _ _=>rfl⟩
theorem SbX.step {w0 w w':World} {X:List (Option Nat)} (h:SbX w0 X w) (hb:Below w.heap.size w w'):SbX w0 X w' :=
  ⟨Nat.le_trans h.size hb.size,fun k hk hx=>(hb.block k (Nat.lt_of_lt_of_le hk h.size)).trans (h.block k hk hx)⟩
theorem SbX.apd {w0 w w':World} {X:List (Option Nat)} {v v':Value} (h:SbX w0 X w) (A:Apd w w' v v') (hg:∀ c,v.ownBlock = some c → w0.heap.size ≤ c ∨ some c ∈ X):SbX w0 X w' :=
  ⟨Nat.le_trans h.size A.grown.size,fun k hk hx=>(A.grown.block k (Nat.lt_of_lt_of_le hk h.size) fun e=>by
    rcases hg k e.symm with q | q
    · omega
    · exact hx q).trans (h.block k hk hx)⟩
theorem SbX.wrote {w0 w w':World} {X:List (Option Nat)} {b:Nat} (h:SbX w0 X w) (hw:Wrote b w w') (hg:w0.heap.size ≤ b ∨ some b ∈ X):SbX w0 X w' :=
  ⟨Nat.le_trans h.size (Nat.le_of_eq hw.size.symm),fun k hk hx=>(hw.block k fun e=>by
    rcases hg with q | q
    · omega
    · exact hx (e ▸ q)).trans (h.block k hk hx)⟩
theorem Apd.geX {n:Nat} {w w':World} {X:List (Option Nat)} {v v':Value} (A:Apd w w' v v') (hg:∀ c,v.ownBlock = some c → n ≤ c ∨ some c ∈ X) (hn:n ≤ w.heap.size):∀ c,v'.ownBlock = some c → n ≤ c ∨ some c ∈ X:=fun c hc=>by
  rcases A.at_ with e | e
  · exact hg c (e ▸ hc)
  · rw [e] at hc;obtain rfl:=Option.some.inj hc;exact .inl hn
theorem notX {x y:Option Nat} {X:List (Option Nat)} (h:x ≠ y) (t:x ∉ X):x ∉ y :: X:=fun hm=>by
  rcases List.mem_cons.1 hm with e | e
  · exact h e
  · exact t e
theorem SbX.cell {w w':World} {X:List (Option Nat)} (h:SbX w X w') {p:Addr} (hp:p.block < w.heap.size) (hx:some p.block ∉ X):w'.cell? p = w.cell? p :=
  World.cell?_of_block (h.block p.block hp hx)
section
variable {ds:List Deferred} {N:Nat} {a:Act} {l0 l1:List (Nat × Value)} {w:World} {S0:World → Prop} {P:Program} {l:List Oper} {Q:Exit → Act → World → Prop} {o:Oper} {m k i:Nat} {D:List Nat}
theorem c_c {id:Nat} (m:Nat) (X:List (Option Nat)) (hm:P.follows .mixedOrders = true) (hl:l.length = m) (hQ:PanicOk Q) (h:∀ w',Below w.heap.size w w' → PanicOk Q → AnH P l Q m (SbX w' X) m [] a w'):(Code.region id l.toArray true).wp P Q a w:=by
  subst hl
  refine wp_region_any hm (wpAny_of_held (S:=SbX { w with drawn:=w.drawn + 1 } X) _ _ _ _ ?_)
  have:=h { w with drawn:=w.drawn + 1 } ⟨rfl,rfl,rfl,Nat.le_refl _,fun _ _=>rfl⟩ hQ
  simpa [AnH,a_u] using this
namespace R
end R
theorem c_M {X:List (Option Nat)} {t:GT} {T:TypeId} {ad:Operand} {d:Nat} {p:Addr} {x:PT t} {K:Nat → Prop} (hs:Region.noSelect l.toArray = true) (hQ:PanicOk Q) (hc:a_P l m D [i] = true) (ho:l[i]? = some o) (S:StD ds N a l0) (hg:gOk l.toArray l0 o = some true)
    (hop:o.op = .load T ad) (ht:tie P t false T [] 0 = true) (hd:o.dst = some d) (hN:Nat.blt d N = true) (ha:ev l0 ad = some (.pointer (some p))) (hA:RepAt t w K p x) (hb:p.block < w.heap.size) (hx:some p.block ∉ X)
    (kk:∀ a' v,RepV t w K v x → StD ds N a' ((d,v) :: l0) → AnH P l Q m (SbX w X) k (i :: D) a' w):AnH P l Q m (SbX w X) (k + 1) D a w:=by
  simp only [a_P,Bool.and_eq_true] at hc
  obtain ⟨⟨hf,hr⟩,_⟩:=hc
  have hi:i ∈ Region.ready .any l.toArray (a_u m D):=by simpa using hr
  have ho':l.toArray[i]? = some o:=by simpa using ho
  obtain ⟨h0,cs,hR,hcell⟩:=hA
  have hv:∀ w',SbX w X w' → (execOp a.eval o).run P w' = .ok (.value (if t.agg then .agg cs.toArray else cs.headD undef)) w':=fun w' hw'=>by
    have:=b_I (P:=P) (w:=w') ht h0 hR fun j u hj=>by
      rw [← hcell j u hj]
      exact hw'.cell (show (⟨p.block,p.off + j,.none⟩:Addr).block < w.heap.size from hb) hx
    simp [execOp,hop,S.eval ha,Instr.loadAt,Instr.sureAddr,this]
  have:=kk (a.put o.dst (if t.agg then .agg cs.toArray else cs.headD undef)) _ ⟨cs,hR,rfl⟩ (by rw [hd];exact S.put (by simpa [Nat.blt_eq] using hN) _)
  exact wpAnyH_first ho' (Region.noSelect_spec hs) (fun c a w=>hQ.put c o.dst _ a w) k (a_u m D) a w (Region.free_spec ho' hf) hi (.inl ⟨gOk.wanted S hg,hv⟩) (SbX.refl w X) this
end
@[reducible] def tupG (e:GT):Nat → GT
  | 0=>e
  | n + 1=>.pair e (tupG e n)
@[reducible] def tupL {e:GT}:(n:Nat) → PT (tupG e n) → List (PT e)
  | 0,x=>[x]
  | n + 1,x=>x.1 :: tupL n x.2
theorem e_k {e:GT} {w:World} {K:Nat → Prop} {n:Nat} {cs:List Value} {x:PT e} {xs:List (PT e)}:RepCs (.arr (n + 1) e) w K cs (x :: xs) ↔ ∃ c1 c2,cs = c1 ++ c2 ∧ RepCs e w K c1 x ∧ RepCs (.arr n e) w K c2 xs:=by
  constructor
  · rintro ⟨hx,css,rfl,hl,hr⟩
    match css,hl with
    | c :: css,hl =>
      refine ⟨c,css.flatten,by simp,hr 0 c x rfl rfl,by simpa using hx,css,rfl,by simpa using hl,fun j c' y hc hy=>hr (j + 1) c' y (by simpa using hc) (by simpa using hy)⟩
  · rintro ⟨c1,c2,rfl,h1,hx,css,rfl,hl,hr⟩
    refine ⟨by rw [List.length_cons,hx],c1 :: css,by simp,by rw [List.length_cons,hl],fun j c' y hc hy=>?_⟩
    cases j with
    | zero=>simp at hc hy;subst hc;subst hy;exact h1
    | succ j=>exact hr j c' y (by simpa using hc) (by simpa using hy)
theorem arr_nil {e:GT} {w:World} {K:Nat → Prop} {cs:List Value}:RepCs (.arr 0 e) w K cs ([]:List (PT e)) ↔ cs = []:=by
  constructor
  · rintro ⟨_,css,rfl,hl,_⟩
    rw [List.eq_nil_of_length_eq_zero hl];rfl
  · rintro rfl
    exact ⟨rfl,[],rfl,rfl,fun j c y hc=>by simp at hc⟩
theorem tup_arr {e:GT} {w:World} {K:Nat → Prop}:∀ {n:Nat} {cs:List Value} {x:PT (tupG e n)},RepCs (tupG e n) w K cs x ↔ RepCs (.arr (n + 1) e) w K cs (tupL n x)
  | 0,cs,x=>by
    show RepCs e w K cs x ↔ RepCs (.arr 1 e) w K cs [x]
    rw [e_k]
    constructor
    · exact fun h=>⟨cs,[],by simp,h,arr_nil.2 rfl⟩
    · rintro ⟨c1,c2,rfl,h1,h2⟩
      rw [arr_nil.1 h2,List.append_nil];exact h1
  | n + 1,cs,x=>by
    show RepCs (.pair e (tupG e n)) w K cs x ↔ RepCs (.arr (n + 1 + 1) e) w K cs (x.1 :: tupL n x.2)
    rw [e_k]
    constructor
    · rintro ⟨c1,c2,rfl,h1,h2⟩
      exact ⟨c1,c2,rfl,h1,tup_arr.1 h2⟩
    · rintro ⟨c1,c2,rfl,h1,h2⟩
      exact ⟨c1,c2,rfl,h1,tup_arr.2 h2⟩
theorem d_u {e:GT}:∀ (n:Nat) (x:PT (tupG e n)),(tupL n x).length = n + 1
  | 0,x=>rfl
  | n + 1,x=>by show (tupL n x.2).length + 1 = _;rw [d_u n x.2]
section
variable {w0 w:World} {K:Nat → Prop} {n b:Nat} {L:List (Option Nat)} {e:GT} {E:TypeId}
theorem Ow.toLit {xs:List (PT e)} (q:Nat) (x:PT (tupG e q)) (hx:xs = tupL q x) (h:Ow e E w n K (.slice (some ⟨b,0,.none⟩) (q + 1) (q + 1)) xs (some (q + 1))):Bx (.st (tupG e q)) E w K b x:=by
  obtain ⟨cs,h1,h2,h3⟩:=h
  subst hx
  rcases h1.2 with ⟨e1,_⟩ | ⟨g,cap,cur,e1,hb,hg,hnc,hcm,hsz,htake⟩
  · cases e1
  · injection e1 with e1 e2 e3
    have e4:b = g:=by injection e1 with e1;injection e1
    subst e4
    have hl:=d_u q x
    have hcs:=h2.len
    rw [hl] at hcs
    have hcs:cs.length = (q + 1) * e.sz:=hcs
    have hcur:cur.toList = cs:=by
      rw [← htake]
      refine (List.take_of_length_le ?_).symm
      rw [Array.length_toList,hsz,← e3,hl]
      exact Nat.le_refl _
    refine ⟨cs,?_,tup_arr.2 ?_⟩
    · rw [hg,← hcur]
    · have:=h2
      rw [hl] at this
      exact this
theorem Bx.litPub (q:Nat) {x:PT (tupG e q)} (h:Bx (.st (tupG e q)) E w (Kx K n L) b x) (W:Wd w0 w L) (hn:w0.heap.size = n) (i:Nat) (hi:L[i]? = some (some b)) (hq:(q + 1) ≤ 1048576):RepV (.sl e) w (Kx K n (L.eraseIdx i)) (.slice (some ⟨b,0,.none⟩) (q + 1) (q + 1)) ⟨tupL q x,some (q + 1)⟩:=by
  have hlt:=h.lt
  obtain ⟨cs,h1,h2⟩:=h
  have h2:RepCs (tupG e q) w (Kx K n L) cs x:=h2
  have h3:=(tup_arr.1 h2)
  have hk:∀ c,Kx K n L c → Kx K n (L.eraseIdx i) c:=fun c hk=>⟨hk.1,fun hm=>hk.2 ((List.eraseIdx_sublist _ _).subset hm)⟩
  have hl:=d_u q x
  refine ⟨[_],⟨_,q + 1,q + 1,rfl,hl,Nat.le_refl _,by omega,fun k hk=>Option.some.inj hk,?_⟩,rfl⟩
  have hb:some b ∉ L.eraseIdx i:=fun hm=>by
    obtain ⟨j,hji,hj⟩:=b_p hm
    rcases W.neq hji hj hi with e | e
    · cases e
    · exact e rfl
  have hown:=(W.own b (List.mem_of_getElem? hi)).1
  have h4:RepCs (.arr (tupL q x).length e) w (Kx K n (L.eraseIdx i)) cs (tupL q x):=by
    rw [hl];exact h3.keep (Keeps.refl _ _) fun c _ h=>hk c h
  refine RowsOf.of_cells (cs:=cs) h4 hlt ⟨.inr (by omega),hb⟩ fun j u hu=>?_
  rw [Nat.zero_add,cell_of_row w b j _ E (0,0) h1]
  simpa using hu
end
section
variable {ds:List Deferred} {N:Nat} {a:Act} {l:List (Nat × Value)} {w w0:World} {P:Program} {ops:Array Oper} {Q:Exit → Act → World → Prop} {rest:List Oper} {o:Oper} {Kont:Act → World → Prop} {d:Nat} {K:Nat → Prop} {n:Nat} {L:List (Option Nat)}
theorem a_K (S:StD ds N a l) {T:TypeId} {x i:Operand} {e:GT} {b m:Nat} {k0:IntKind} {j:Int} (off:Nat) (ho:o.op = .indexAddr T x i) (ht:tie P (.sl e) false T [] 0 = true) (hd:o.dst = some d) (hN:Nat.blt d N = true) (hx:ev l x = some (.slice (some ⟨b,0,.none⟩) m m))
    (hi:ev l i = some (.int k0 j)) (hj:(decide (0 ≤ j) && decide (j < (m:Int))) = true) (hoff:off = j.toNat * e.sz) (k:∀ a',StD ds N a' ((d,.pointer (some ((⟨b,0,.none⟩:Addr).add off))) :: l) → Kont a' w):o.wp P a w Kont Q:=by
  obtain ⟨E,hE,hte⟩:=b_n ht
  obtain ⟨ie,hie,hse⟩:=a_E hte
  rw [Bool.and_eq_true,decide_eq_true_eq,decide_eq_true_eq] at hj
  refine a_G S hd hN ?_ k
  subst hoff
  simp [execOp,ho,S.eval hx,S.eval hi,Instr.indexAt,asIntOf,run_underlying hE,hj,sizeOf,typeInfo,hie,hse]
end
end Go.Proofs.Ythknbcfelkljcaa
namespace Go.Proofs.Ythknbcfelkljcaa
open Go.RowKit
section
variable {ds:List Deferred} {N:Nat} {a:Act} {l0:List (Nat × Value)} {w:World} {P:Program} {l:List Oper} {Q:Exit → Act → World → Prop} {o:Oper} {m k i:Nat} {D:List Nat} {S0:World → Prop}
theorem anh_val {d:Nat} {v:Value} (hs:Region.noSelect l.toArray = true) (hQ:PanicOk Q) (hS:S0 w) (hc:a_P l m D [i] = true) (ho:l[i]? = some o) (S:StD ds N a l0) (hg:gOk l.toArray l0 o = some true)
    (hd:o.dst = some d) (hN:Nat.blt d N = true) (hall:∀ w',(execOp a.eval o).run P w' = .ok (.value v) w') (kk:∀ a',StD ds N a' ((d,v) :: l0) → AnH P l Q m S0 k (i :: D) a' w):AnH P l Q m S0 (k + 1) D a w:=by
  simp only [a_P,Bool.and_eq_true] at hc
  obtain ⟨⟨hf,hr⟩,_⟩:=hc
  have hi:i ∈ Region.ready .any l.toArray (a_u m D):=by simpa using hr
  have ho':l.toArray[i]? = some o:=by simpa using ho
  have:=kk (a.put o.dst v) (by rw [hd];exact S.put (by simpa [Nat.blt_eq] using hN) _)
  exact wpAnyH_first ho' (Region.noSelect_spec hs) (fun c a w=>hQ.put c o.dst _ a w) k (a_u m D) a w (Region.free_spec ho' hf) hi (.inl ⟨gOk.wanted S hg,fun w _=>hall w⟩) hS this
theorem b_2 {d:Nat} (hs:Region.noSelect l.toArray = true) (hQ:PanicOk Q) (hS:S0 w) (hc:a_P l m D [i] = true) (ho:l[i]? = some o) (S:StD ds N a l0) (hg:gOk l.toArray l0 o = some true)
    {op:BinOp} {T T':TypeId} {x y:Operand} (k0:IntKind) (z:Int) {p n r:Int} (hop:o.op = .binOp op T x y T') (hz0:(op,z) = (.add,p + n) ∨ (op,z) = (.sub,p - n) ∨ (op,z) = (.mul,p * n))
    (hd:o.dst = some d) (hN:Nat.blt d N = true) (hx:ev l0 x = some (.int k0 p)) (hy:ev l0 y = some (.int k0 n)) (hz:ckI k0 z = some r) (kk:∀ a',StD ds N a' ((d,.int k0 r) :: l0) → AnH P l Q m S0 k (i :: D) a' w):AnH P l Q m S0 (k + 1) D a w:=by
  refine anh_val hs hQ hS hc ho S hg hd hN (fun w'=>?_) kk
  obtain ⟨h1,_,h2⟩:=a_j hz
  subst h1
  rcases hz0 with h | h | h <;> (obtain ⟨rfl,rfl⟩:=Prod.mk.inj h;simp [execOp,hop,S.eval hx,S.eval hy,a_F,binOp,Op.intArith,h2])
theorem anh_rem {d:Nat} (hs:Region.noSelect l.toArray = true) (hQ:PanicOk Q) (hS:S0 w) (hc:a_P l m D [i] = true) (ho:l[i]? = some o) (S:StD ds N a l0) (hg:gOk l.toArray l0 o = some true)
    {T T':TypeId} {x y:Operand} (k0:IntKind) {p n r:Int} (hop:o.op = .binOp .rem T x y T')
    (hd:o.dst = some d) (hN:Nat.blt d N = true) (hx:ev l0 x = some (.int k0 p)) (hy:ev l0 y = some (.int k0 n)) (hz:b_J k0 p n = some r) (kk:∀ a',StD ds N a' ((d,.int k0 r) :: l0) → AnH P l Q m S0 k (i :: D) a' w):AnH P l Q m S0 (k + 1) D a w:=by
  refine anh_val hs hQ hS hc ho S hg hd hN (fun w'=>?_) kk
  unfold b_J at hz
  split at hz
  · cases hz
  · rename_i hn
    obtain ⟨h1,_,h2⟩:=a_j hz
    subst h1
    simp [execOp,hop,S.eval hx,S.eval hy,a_F,binOp,Op.intDiv,hn]
end
end Go.Proofs.Ythknbcfelkljcaa
