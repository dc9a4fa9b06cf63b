/- The rules of the walk over plain data, more: slices made, cut, appended to; texts and bytes. Plain theorems, no condition. -/
import Derived.Test.YtfelbalkobcfhaaXE5
import Derived.Lib.ConvBytes
set_option linter.unusedVariables false
set_option linter.unusedSimpArgs false
namespace Go.Proofs.Ytfelbalkobcfhaa
open Go.RowKit
theorem c_O {α:Type}:∀ (css:List (List α)) (s j i:Nat),(∀ c ∈ css,c.length = s) → i < s → css.flatten[j * s + i]? = (css[j]?).bind (·[i]?)
  | [],s,j,i,_,_=>by simp
  | c :: css,s,0,i,h,hi=>by
    have hc:=h c (by simp)
    simp only [List.flatten_cons,Nat.zero_mul,Nat.zero_add]
    rw [List.getElem?_append_left (by omega)]
    simp
  | c :: css,s,j + 1,i,h,hi=>by
    have hc:=h c (by simp)
    have ih:=c_O css s j i (fun d hd=>h d (List.mem_cons_of_mem _ hd)) hi
    simp only [List.flatten_cons]
    rw [List.getElem?_append_right (by rw [hc,Nat.add_mul];omega),hc,show (j + 1) * s + i - s = j * s + i from by rw [Nat.add_mul];omega,ih]
    simp
section
variable {e:GT} {w:World} {K:Nat → Prop}
theorem RepCs.arrOf {css:List (List Value)} {xs:List (PT e)} (hl:css.length = xs.length) (h:∀ (j:Nat) c y,css[j]? = some c → xs[j]? = some y → RepCs e w K c y):RepCs (.arr xs.length e) w K css.flatten xs :=
  ⟨rfl,css,rfl,hl,h⟩
theorem RowsOf.of_cells {b off:Nat} {cs:List Value} {xs:List (PT e)} (h:RepCs (.arr xs.length e) w K cs xs) (hb:b < w.heap.size) (hK:K b) (hc:∀ i v,cs[i]? = some v → w.cell? ⟨b,off + i,.none⟩ = some v) :
    RowsOf (RepCs e w K) e.sz w K (some ⟨b,off,.none⟩) xs:=by
  obtain ⟨_,css,rfl,hl,hr⟩:=h
  refine .inr ⟨b,off,rfl,hb,hK,fun j x hj=>?_⟩
  have hjl:j < css.length:=by rw [hl];exact (List.getElem?_eq_some_iff.1 hj).1
  have hjc:css[j]? = some css[j]:=List.getElem?_eq_getElem hjl
  have hx:=hr j _ x hjc hj
  refine ⟨css[j],hx,hx.len,fun i v hv=>?_⟩
  have hi:i < e.sz:=by rw [← hx.len];exact (List.getElem?_eq_some_iff.1 hv).1
  rw [Nat.add_assoc]
  refine hc _ _ ?_
  rw [c_O css e.sz j i (fun c hc=>?_) hi,hjc]
  · exact hv
  · obtain ⟨k,hk⟩:=List.getElem?_of_mem hc
    have hkl:k < xs.length:=by rw [← hl];exact (List.getElem?_eq_some_iff.1 hk).1
    exact (hr k c _ hk (List.getElem?_eq_getElem hkl)).len
theorem RowsOf.cells {A:Option Addr} {xs:List (PT e)} (h:RowsOf (RepCs e w K) e.sz w K A xs):∃ cs,RepCs (.arr xs.length e) w K cs xs ∧ (xs = [] ∨ ∃ b off,A = some ⟨b,off,.none⟩ ∧ b < w.heap.size ∧ K b ∧ ∀ i v,cs[i]? = some v → w.cell? ⟨b,off + i,.none⟩ = some v):=by
  rcases h with rfl | ⟨b,off,rfl,hb,hK,hc⟩
  · exact ⟨[],⟨rfl,[],rfl,rfl,fun j c y h=>by simp at h⟩,.inl rfl⟩
  · have key:∀ m,m ≤ xs.length → ∃ css:List (List Value),css.length = m ∧ ∀ (j:Nat) c,css[j]? = some c → ∃ x,xs[j]? = some x ∧ RepCs e w K c x ∧ c.length = e.sz ∧ ∀ (i:Nat) v,c[i]? = some v → w.cell? ⟨b,off + j * e.sz + i,.none⟩ = some v:=by
      intro m
      induction m with
      | zero=>intro _;exact ⟨[],rfl,fun j c h=>by simp at h⟩
      | succ m ih =>
        intro hm
        obtain ⟨css,h1,h2⟩:=ih (by omega)
        obtain ⟨c,hc1,hc2,hc3⟩:=hc m xs[m] (List.getElem?_eq_getElem (by omega))
        refine ⟨css ++ [c],by simp [h1],fun j d hd=>?_⟩
        by_cases hj:j < m
        · rw [List.getElem?_append_left (by omega)] at hd
          exact h2 j d hd
        · rw [List.getElem?_append_right (by omega)] at hd
          have:j - css.length = 0:=by
            have:=(List.getElem?_eq_some_iff.1 hd).1
            simp at this
            omega
          obtain rfl:j = m:=by omega
          rw [this] at hd
          obtain rfl:c = d:=by simpa using hd
          exact ⟨_,List.getElem?_eq_getElem (by omega),hc1,hc2,hc3⟩
    obtain ⟨css,h1,h2⟩:=key xs.length (Nat.le_refl _)
    refine ⟨css.flatten,⟨rfl,css,rfl,h1,fun j c y hcj hy=>?_⟩,.inr ⟨b,off,rfl,hb,hK,fun i v hv=>?_⟩⟩
    · obtain ⟨x,hx,hr,_⟩:=h2 j c hcj
      rw [hy] at hx
      obtain rfl:=Option.some.inj hx
      exact hr
    · have hlen:∀ c ∈ css,c.length = e.sz:=fun c hcm=>by
        obtain ⟨k,hk⟩:=List.getElem?_of_mem hcm
        obtain ⟨_,_,_,hs,_⟩:=h2 k c hk
        exact hs
      rcases Nat.eq_zero_or_pos e.sz with hz | hz
      · have:css.flatten.length = 0:=by
          rw [List.length_flatten]
          have:∀ l:List (List Value),(∀ c ∈ l,c.length = e.sz) → (l.map List.length).sum = 0:=by
            intro l
            induction l with
            | nil=>intro _;rfl
            | cons c l ih=>intro h;rw [List.map_cons,List.sum_cons,h c (by simp),hz,ih (fun d hd=>h d (List.mem_cons_of_mem _ hd))]
          exact this css hlen
        have:=(List.getElem?_eq_some_iff.1 hv).1
        omega
      · have hi:i = i / e.sz * e.sz + i % e.sz:=by rw [Nat.mul_comm];exact (Nat.div_add_mod i e.sz).symm
        rw [hi,c_O css e.sz _ _ hlen (Nat.mod_lt _ hz)] at hv
        cases hcj:css[i / e.sz]? with
        | none=>rw [hcj] at hv;cases hv
        | some c =>
          rw [hcj] at hv
          obtain ⟨_,_,_,_,h4⟩:=h2 _ c hcj
          have:=h4 _ v hv
          rw [hi,← Nat.add_assoc]
          exact this
theorem rep_bytes {cs:List Value} {xs:List Int} (h:RepCs (.arr xs.length (.int .u8)) w K cs xs):cs = u8s xs ∧ Byt xs:=by
  obtain ⟨_,css,rfl,hl,hr⟩:=h
  have key:∀ (css:List (List Value)) (xs:List Int),css.length = xs.length → (∀ (j:Nat) c y,css[j]? = some c → xs[j]? = some y → RepCs (.int .u8) w K c y) → css.flatten = u8s xs ∧ Byt xs:=by
    intro css
    induction css with
    | nil =>
      intro xs hl _
      have:xs = []:=List.eq_nil_of_length_eq_zero (by simpa using hl.symm)
      subst this
      exact ⟨rfl,Byt.nil⟩
    | cons c css ih =>
      intro xs hl hr
      match xs,hl with
      | x :: xs,hl =>
        obtain ⟨h1,h2⟩:=ih xs (by simpa using hl) (fun j c y hc hy=>hr (j + 1) c y (by simpa using hc) (by simpa using hy))
        obtain ⟨hc,hin⟩:=hr 0 c x rfl rfl
        refine ⟨by rw [List.flatten_cons,h1,hc];rfl,Byt.cons ?_ h2⟩
        simpa [InR,IntKind.min,IntKind.max,IntKind.signed,IntKind.bits] using hin
  exact key css xs hl hr
theorem RepV.bytes {v:Value} {x:Sl Int} (h:RepV (.sl (.int .u8)) w K v x):∃ A n c,v = .slice A n c ∧ x.xs.length = n ∧ Rd w w.heap.size A (u8s x.xs) ∧ Byt x.xs:=by
  obtain ⟨A,n,c,rfl,h1,_,_,_,h5⟩:=h.sl
  obtain ⟨cs,hcs,hA⟩:=h5.cells
  obtain ⟨rfl,hB⟩:=rep_bytes hcs
  refine ⟨A,n,c,rfl,h1,?_,hB⟩
  rcases hA with hx | ⟨b,off,rfl,hb,_,hc⟩
  · rw [hx];exact .inl rfl
  · exact .inr ⟨b,off,rfl,hb,fun j v hv=>hc j v hv⟩
end
theorem d_c (s:Nat):∀ (vs:List Value) (k:Nat) (pre:List Value) (z:List Value),(∀ v ∈ vs,v.cells.size = s) → pre.length = k * s → z.length = vs.length * s →
    Instr.fill (fun i=>some (i * s,s)) (pre ++ z).toArray (b_2 k vs) = some (pre ++ (vs.map fun v=>v.cells.toList).flatten).toArray
  | [],k,pre,z,_,_,hz=>by
    have:z = []:=List.eq_nil_of_length_eq_zero (by simpa using hz)
    simp [b_2,Instr.fill,this]
  | v :: vs,k,pre,z,h,hp,hz=>by
    have hv:=h v (by simp)
    have hzl:z.length = s + vs.length * s:=by rw [hz,List.length_cons,Nat.add_mul];omega
    unfold b_2 Instr.fill
    have hno:¬ (v.cells.size ≠ s ∨ (k * s + v.cells.size > (pre ++ z).toArray.size)):=by
      simp [hv,hp,hzl]
    simp only [Bool.or_eq_true,decide_eq_true_eq,hno,if_false]
    have hfold:∀ (cs:List Value) (j:Nat) (a b:List Value),cs.length ≤ b.length → a.length = k * s + j → ((cs.zipIdx j).foldl (fun (acc:Array Value) (p:Value × Nat)=>acc.setIfInBounds (k * s + p.2) p.1) (a ++ b).toArray) = (a ++ cs ++ b.drop cs.length).toArray:=by
      intro cs
      induction cs with
      | nil=>intro j a b _ _;simp
      | cons c cs ih =>
        intro j a b hb ha
        match b,hb with
        | x :: b,hb =>
          rw [List.zipIdx_cons,List.foldl_cons]
          have:((a ++ x :: b).toArray.setIfInBounds (k * s + j) c) = ((a ++ [c]) ++ b).toArray:=by
            rw [← ha]
            simp [List.setIfInBounds_toArray,List.set_append_right]
          rw [this,ih (j + 1) (a ++ [c]) b (by simpa using hb) (by simp [ha];omega)]
          simp
    have h1:(v.cells.zipIdx.foldl (fun cs (x:Value × Nat)=>cs.setIfInBounds (k * s + x.2) x.1) (pre ++ z).toArray) = (pre ++ v.cells.toList ++ z.drop s).toArray:=by
      have:=hfold v.cells.toList 0 pre z (by simp [hv];omega) (by omega)
      rw [show v.cells.toList.length = s from by simpa using hv] at this
      rw [← this,← Array.foldl_toList,Array.toList_zipIdx]
    have h2:=d_c s vs (k + 1) (pre ++ v.cells.toList) (z.drop s) (fun u hu=>h u (List.mem_cons_of_mem _ hu)) (by simp [hp,hv,Nat.add_mul]) (by simp [hzl])
    rw [h1,h2]
    simp
def RepVs (e:GT) (w:World) (K:Nat → Prop):List Value → List (PT e) → Prop
  | [],[]=>True
  | v :: vs,x :: xs=>RepV e w K v x ∧ RepVs e w K vs xs
  | _,_=>False
theorem RepVs.css {e:GT} {w:World} {K:Nat → Prop} (hp:e.isPair = false):∀ {vs:List Value} {xs:List (PT e)},RepVs e w K vs xs → vs.length = xs.length ∧ (∀ v ∈ vs,v.cells.size = e.sz) ∧ ∀ (j:Nat) c y,(vs.map fun v=>v.cells.toList)[j]? = some c → xs[j]? = some y → RepCs e w K c y
  | [],[],_=>⟨rfl,fun v h=>(List.not_mem_nil h).elim,fun j c y h=>by simp at h⟩
  | v :: vs,x :: xs,⟨h,hs⟩=>by
    obtain ⟨h1,h2,h3⟩:=RepVs.css hp hs
    have hc:=h.cells hp
    refine ⟨by simp [h1],fun u hu=>?_,fun j c y hj hy=>?_⟩
    · rcases List.mem_cons.1 hu with rfl | hu
      · rw [← hc.len];simp
      · exact h2 u hu
    · cases j with
      | zero=>simp at hj hy;subst hj;subst hy;exact hc
      | succ j=>exact h3 j c y (by simpa using hj) (by simpa using hy)
section
variable {ds:List Deferred} {N:Nat} {a:Act} {l:List (Nat × Value)} {w w0:World} {P:Program} {ops:Array Oper} {Q:Exit → Act → World → Prop} {rest:List Oper} {o:Oper} {Kont:Act → World → Prop} {d:Nat} {K:Nat → Prop} {n:Nat} {L:List (Option Nat)}
theorem e_U {w':World} {b:Nat} {e:GT} {E:TypeId} {cs:List Value} {xs:List (PT e)} {more:List Value} {fr:Nat × Nat} (W:Wd w0 w L) (hb:NewB w w' b) (hg:w'.heap[b]? = some (.cells (cs ++ more).toArray E fr)) (h:RepCs (.arr xs.length e) w (Kx K w0.heap.size L) cs xs) (c:Nat) (hc:xs.length ≤ c) (hc':c ≤ 9223372036854775807) (capo:Option Nat) (hcap:∀ k,capo = some k → c = k) :
    RepV (.sl e) w' (Kx K w0.heap.size L) (.slice (some ⟨b,0,.none⟩) xs.length c) ⟨xs,capo⟩:=by
  refine ⟨[_],⟨_,_,_,rfl,rfl,hc,hc',hcap,?_⟩,rfl⟩
  have h1:=hb.ge
  have h2:=W.below.size
  refine RowsOf.of_cells (cs:=cs) (h.keep (Keeps.below hb.below) fun _ _ h=>h) hb.lt ⟨.inr (by omega),fun hm=>by have:=(W.own _ hm).2;omega⟩ fun i v hv=>?_
  rw [Nat.zero_add,cell_of_row _ _ i _ E fr hg]
  have hi:=(List.getElem?_eq_some_iff.1 hv).1
  simp [List.getElem?_append_left hi,hv]
theorem run_bsl (T E:TypeId) (len:Nat) (parts:Array (Nat × Value)) (cells:Array Value) (ie:TypeInfo) (z:Value) (hu:P.underlying T = some (.slice E)) (hie:P.info? E = some ie) (hz:ie.zero = some z) (hsmall:¬ len * ie.size > 2 ^ 24) (hpos:¬ len * ie.size = 0)
    (h:Instr.fill (fun i=>some (i * ie.size,ie.size)) ((Array.range (len * ie.size)).map (z.cells[· % z.cells.size]!)) parts.toList = some cells) :
    (Instr.buildSlice T len parts).run P w = .ok (.slice (some ⟨w.heap.size,0,.none⟩) len len) (w.alloc (.cells cells E)):=by
  simp [Instr.buildSlice,run_underlying hu,sizeOf,typeInfo,zeroValue,hie,hz,hsmall,hpos,h,newRow]
def zeroB (P:Program) (T:TypeId):Bool:=match P.underlying T with | some (.slice E)=>(P.info? E).any fun i=>i.zero.isSome | _=>false
theorem a_l (S:StD ds N a l) (W:Wd w0 w L) {T:TypeId} {len:Nat} {parts:Array (Nat × Operand)} {e:GT} {vs:List Value} {xs:List (PT e)} (ho:o.op = .buildSlice T len parts) (ht:tie P (.sl e) false T [] 0 = true) (hp:e.isPair = false) (hsz:Nat.blt 0 (len * e.sz) = true) (hzero:zeroB P T = true) (hd:o.dst = some d) (hN:Nat.blt d N = true)
    (hv:evs l (parts.toList.map (·.2)) = some vs) (hparts:parts.toList.map (·.1) = List.range len) (hsmall:Nat.ble (len * e.sz) 16777216 = true) (R:RepVs e w (Kx K w0.heap.size L) vs xs)
    (k:∀ a' w' v,Below w.heap.size w w' → RepV (.sl e) w' (Kx K w0.heap.size L) v ⟨xs,some len⟩ → StD ds N a' ((d,v) :: l) → Kont a' w'):o.wp P a w Kont Q:=by
  obtain ⟨h1,h2,h3⟩:=R.css hp
  obtain ⟨E,hE,htE⟩:=b_b ht
  obtain ⟨ie,hie,hse⟩:=a_E htE
  have hvl:vs.length = len:=by
    have hm:=S.evs hv
    have:=congrArg List.length hparts
    rw [← hm]
    simpa using this
  obtain ⟨z,hz⟩:∃ z,ie.zero = some z:=by
    unfold zeroB at hzero
    rw [hE] at hzero
    simp only [hie,Option.any_some] at hzero
    exact Option.isSome_iff_exists.1 hzero
  have hpl:(parts.map fun (p:Nat × Operand)=>(p.1,a.eval p.2)).toList = b_2 0 vs:=by
    have hm:=S.evs hv
    have key:∀ (ps:List (Nat × Operand)) (us:List Value) (i:Nat),ps.map (·.1) = List.range' i ps.length → (ps.map (·.2)).map a.eval = us → ps.map (fun p=>(p.1,a.eval p.2)) = b_2 i us:=by
      intro ps
      induction ps with
      | nil=>intro us i _ h;simp at h;subst h;rfl
      | cons p ps ih =>
        intro us i h1 h2
        rw [List.map_cons,List.length_cons,List.range'_succ] at h1
        injection h1 with h1a h1b
        rw [List.map_cons,List.map_cons] at h2
        subst h2
        rw [List.map_cons,h1a]
        unfold b_2
        rw [ih _ (i + 1) h1b rfl]
    rw [Array.toList_map]
    refine key parts.toList vs 0 ?_ hm
    rw [hparts,List.range_eq_range']
    have:=congrArg List.length hparts
    simp at this
    simp [this]
  have hfill:Instr.fill (fun i=>some (i * ie.size,ie.size)) ((Array.range (len * ie.size)).map (z.cells[· % z.cells.size]!)) (parts.map fun (p:Nat × Operand)=>(p.1,a.eval p.2)).toList = some (vs.map fun v=>v.cells.toList).flatten.toArray:=by
    rw [hpl]
    have:=d_c ie.size vs 0 [] ((Array.range (len * ie.size)).map (z.cells[· % z.cells.size]!)).toList (fun v hv=>by rw [hse];exact h2 v hv) (by simp) (by simp [hvl])
    simpa only [List.nil_append,Array.toArray_toList] using this
  have hrun:=run_bsl (P:=P) (w:=w) T E len (parts.map fun (p:Nat × Operand)=>(p.1,a.eval p.2)) _ ie z hE hie hz (by rw [hse];simpa [Nat.ble_eq,Nat.not_lt] using hsmall) (by rw [hse];simp [Nat.blt_eq] at hsz;omega) hfill
  have hle:len ≤ 16777216:=by
    simp only [Nat.ble_eq,Nat.blt_eq] at hsmall hsz
    have hz:0 < e.sz:=Nat.pos_of_ne_zero fun h=>by rw [h] at hsz;simp at hsz
    have:=Nat.le_mul_of_pos_right len hz
    omega
  have hrep:=e_U (E:=E) (more:=[]) (fr:=(0,0)) (K:=K) W (a_M w (.cells (vs.map fun v=>v.cells.toList).flatten.toArray E)) (by rw [List.append_nil];exact heap_alloc_new w _) (RepCs.arrOf (css:=vs.map fun v=>v.cells.toList) (by simp [h1]) h3) len (by omega) (by omega) (some len) (fun k hk=>Option.some.inj hk)
  refine a_D S (v:=.slice (some ⟨w.heap.size,0,.none⟩) len len) (w':=w.alloc (.cells (vs.map fun v=>v.cells.toList).flatten.toArray E)) hd hN ?_ fun a'=>k a' _ _ (a_M w _).below ?_
  · have hpm:parts.map (fun (x:Nat × Operand)=>match x with | (i,x)=>(i,a.eval x)) = parts.map fun (p:Nat × Operand)=>(p.1,a.eval p.2):=rfl
    simp only [execOp,ho]
    simp [hrun,hpm]
  · rw [show xs.length = len from by omega] at hrep
    exact hrep
end
end Go.Proofs.Ytfelbalkobcfhaa
