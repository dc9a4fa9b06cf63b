/- The rules of the walk over plain data, more: literals, results in variables, elements of own slices, function values. Plain theorems, no condition. -/
import Derived.Test.YtfelbalkobcfhaaXE9
set_option linter.unusedVariables false
set_option linter.unusedSimpArgs false
namespace Go.Proofs.Ytfelbalkobcfhaa
open Go.RowKit
def e_k (f:GT) (w:World) (K:Nat → Prop):List (Nat × Value) → PT f → PT f → Prop
  | [],x,x'=>x = x'
  | (k,v) :: ps,x,x'=>∃ y,RepV (comp f k) w K v y ∧ (comp f k).isPair = false ∧ pureOp.fieldB f k = true ∧ e_k f w K ps (upd f k y x) x'
def FillsA (n:Nat) (e:GT) (w:World) (K:Nat → Prop):List (Nat × Value) → List (PT e) → List (PT e) → Prop
  | [],x,x'=>x = x'
  | (k,v) :: ps,x,x'=>∃ y,RepV e w K v y ∧ k < n ∧ FillsA n e w K ps (x.set k y) x'
section
variable {ds:List Deferred} {N:Nat} {a:Act} {l:List (Nat × Value)} {w w0:World} {P:Program} {ops:Array Oper} {Q:Exit → Act → World → Prop} {rest:List Oper} {o:Oper} {Kont:Act → World → Prop} {d:Nat} {K:Nat → Prop} {n:Nat} {L:List (Option Nat)}
theorem Ln.arr {n:Nat} {e:GT} {j:Nat} (hj:j < n) (z:PT e):Ln (.arr n e) e (j * e.sz) (fun x=>x.getD j z) (fun y x=>x.set j y):=by
  rintro w K cs x ⟨hx,css,rfl,hl,hr⟩
  have hjc:j < css.length:=by omega
  have hjx:j < x.length:=by omega
  have hlen:∀ c ∈ css,c.length = e.sz:=fun c hc=>by
    obtain ⟨k,hk⟩:=List.getElem?_of_mem hc
    have hkx:k < x.length:=by have:=(List.getElem?_eq_some_iff.1 hk).1;omega
    exact (hr k c _ hk (List.getElem?_eq_getElem hkx)).len
  have hsplit:css = css.take j ++ css[j] :: css.drop (j + 1):=by rw [List.getElem_cons_drop,List.take_append_drop]
  have hsum:∀ l:List (List Value),(∀ c ∈ l,c.length = e.sz) → l.flatten.length = l.length * e.sz:=by
    intro l
    induction l with
    | nil=>intro _;simp
    | cons c l ih=>intro h;rw [List.flatten_cons,List.length_append,h c (by simp),ih fun d hd=>h d (List.mem_cons_of_mem _ hd),List.length_cons,Nat.add_mul];omega
  refine ⟨(css.take j).flatten,css[j],(css.drop (j + 1)).flatten,?_,?_,?_,fun cn y hy=>⟨by simpa using hx,css.set j cn,?_,by simpa using hl,fun k c q hc hq=>?_⟩⟩
  · have h2:(css.take j ++ css[j] :: css.drop (j + 1)).flatten = (css.take j).flatten ++ css[j] ++ (css.drop (j + 1)).flatten:=by rw [List.flatten_append,List.flatten_cons,List.append_assoc]
    rw [← h2,← hsplit]
  · rw [hsum _ fun c hc=>hlen c (List.mem_of_mem_take hc),List.length_take]
    congr 1
    omega
  · have:=hr j _ x[j] (List.getElem?_eq_getElem hjc) (List.getElem?_eq_getElem hjx)
    show RepCs e w K css[j] (x.getD j z)
    rw [List.getD_eq_getElem?_getD,List.getElem?_eq_getElem hjx]
    exact this
  · rw [List.set_eq_take_append_cons_drop,if_pos hjc]
    simp
  · by_cases hjk:j = k
    · subst hjk
      rw [List.getElem?_set_self hjc] at hc
      rw [List.getElem?_set_self hjx] at hq
      obtain rfl:=Option.some.inj hc
      obtain rfl:=Option.some.inj hq
      exact hy
    · rw [List.getElem?_set_ne hjk] at hc hq
      exact hr k c q hc hq
theorem e_z {cs c1 c c2:List Value} {v:Value} {off s:Nat} (h:cs = c1 ++ c ++ c2) (h1:c1.length = off) (hc:c.length = s) (hv:v.cells.size = s) :
    (v.cells.zipIdx.foldl (fun acc (x:Value × Nat)=>acc.setIfInBounds (off + x.2) x.1) cs.toArray) = (c1 ++ v.cells.toList ++ c2).toArray:=by
  subst h
  have key:∀ (us:List Value) (j:Nat) (p q:List Value),us.length ≤ q.length → p.length = off + j → ((us.zipIdx j).foldl (fun (acc:Array Value) (x:Value × Nat)=>acc.setIfInBounds (off + x.2) x.1) (p ++ q).toArray) = (p ++ us ++ q.drop us.length).toArray:=by
    intro us
    induction us with
    | nil=>intro j p q _ _;simp
    | cons u us ih =>
      intro j p q hq hp
      match q,hq with
      | y :: q,hq =>
        rw [List.zipIdx_cons,List.foldl_cons]
        have:((p ++ y :: q).toArray.setIfInBounds (off + j) u) = ((p ++ [u]) ++ q).toArray:=by
          rw [← hp]
          simp [List.setIfInBounds_toArray,List.set_append_right]
        rw [this,ih (j + 1) (p ++ [u]) q (by simpa using hq) (by simp [hp];omega)]
        simp
  have:=key v.cells.toList 0 c1 (c ++ c2) (by simp [hv,hc]) (by omega)
  rw [← Array.foldl_toList,Array.toList_zipIdx,List.append_assoc]
  rw [this]
  simp [hv,← hc]
theorem e_A {f:GT} {T:TypeId} {fs:Array Field} (htf:tie P f true 0 fs.toList 0 = true) (places:Nat → Option (Nat × Nat)) (hpl:∀ k,pureOp.fieldB f k = true → places k = some (a_3 f k,(comp f k).sz)) :
    ∀ (ps:List (Nat × Value)) (cs:List Value) (x x':PT f),RepCs f w K cs x → e_k f w K ps x x' → ∃ cs',Instr.fill places cs.toArray ps = some cs'.toArray ∧ RepCs f w K cs' x'
  | [],cs,x,x',h,hf=>⟨cs,rfl,by have:x = x':=hf;rw [← this];exact h⟩
  | (k,v) :: ps,cs,x,x',h,⟨y,hv,hp,hk,hrest⟩=>by
    obtain ⟨c1,c,c2,e,h1,hc,hset⟩:=Ln.comp (t:=f) k w K cs x h
    have hvc:=hv.cells hp
    have hvl:=hvc.len
    have hcl:=hc.len
    have hvs:v.cells.size = (comp f k).sz:=by simpa using hvl
    obtain ⟨cs',hf',hr'⟩:=e_A (T:=T) htf places hpl ps (c1 ++ v.cells.toList ++ c2) _ x' (hset _ y hvc) hrest
    refine ⟨cs',?_,hr'⟩
    unfold Instr.fill
    rw [hpl k hk]
    have hno:¬ (v.cells.size ≠ (comp f k).sz ∨ a_3 f k + v.cells.size > cs.toArray.size):=by
      rw [e]
      simp [hvs,← h1,hcl]
    simp only [Bool.or_eq_true,decide_eq_true_eq,hno,if_false]
    rw [e_z e h1 hcl hvs]
    exact hf'
theorem d_X {m:Nat} {e:GT} (z:PT e) :
    ∀ (ps:List (Nat × Value)) (cs:List Value) (x x':List (PT e)),e.isPair = false → RepCs (.arr m e) w K cs x → FillsA m e w K ps x x' → ∃ cs',Instr.fill (fun i=>some (i * e.sz,e.sz)) cs.toArray ps = some cs'.toArray ∧ RepCs (.arr m e) w K cs' x'
  | [],cs,x,x',_,h,hf=>⟨cs,rfl,by have:x = x':=hf;rw [← this];exact h⟩
  | (k,v) :: ps,cs,x,x',hp,h,⟨y,hv,hk,hrest⟩=>by
    obtain ⟨c1,c,c2,e',h1,hc,hset⟩:=Ln.arr hk z w K cs x h
    have hvc:=hv.cells hp
    have hvl:=hvc.len
    have hcl:=hc.len
    have hvs:v.cells.size = e.sz:=by simpa using hvl
    obtain ⟨cs',hf',hr'⟩:=d_X z ps (c1 ++ v.cells.toList ++ c2) _ x' hp (hset _ y hvc) hrest
    refine ⟨cs',?_,hr'⟩
    unfold Instr.fill
    have hno:¬ (v.cells.size ≠ e.sz ∨ k * e.sz + v.cells.size > cs.toArray.size):=by
      rw [e']
      simp [hvs,← h1,hcl]
    simp only [Bool.or_eq_true,decide_eq_true_eq,hno,if_false]
    rw [e_z e' h1 hcl hvs]
    exact hf'
theorem c_W (fs:Array Field):∀ (l:List Field) (acc:Array (Nat × Nat)),(∀ f ∈ l,∃ i,P.info? f.type = some i) →
    (l.foldlM (fun (acc:Array (Nat × Nat)) (f:Field)=>(do pure (acc.push (f.offset,← sizeOf f.type)):Sem _)) acc).run P w = .ok (acc ++ (l.map fun f=>(f.offset,P.cellsOf f.type)).toArray) w
  | [],acc,_=>by simp
  | f :: l,acc,h=>by
    obtain ⟨i,hi⟩:=h f (by simp)
    simp only [List.foldlM_cons,Sem.run_bind,sizeOf,typeInfo,run_program,hi,Result.andThen_ok,Sem.run_pure]
    have:=c_W fs l (acc.push (f.offset,i.size)) fun g hg=>h g (List.mem_cons_of_mem _ hg)
    simp only [sizeOf,typeInfo] at this
    rw [this]
    simp [Program.cellsOf,hi]
theorem d_Y:∀ {f:GT} {T:TypeId} {fs:List Field} {off:Nat},tie P f true T fs off = true → ∀ g ∈ fs,∃ i,P.info? g.type = some i
  | .pair a b,T,fs,off,h=>by
    cases fs with
    | nil=>simp [tie] at h
    | cons f fs =>
      simp only [tie,Bool.and_eq_true,beq_iff_eq] at h
      intro g hg
      rcases List.mem_cons.1 hg with rfl | hg
      · obtain ⟨i,hi,_⟩:=a_E h.1.1;exact ⟨i,hi⟩
      · exact d_Y h.2 g hg
  | .int _,T,fs,off,h=>by
    intro g hg
    obtain ⟨k,hk⟩:=List.getElem?_of_mem hg
    match fs,h with
    | [f],h=>obtain ⟨fld,h1,_,i,hi,_⟩:=a_2 (k:=0) h rfl;simp at h1 hg;subst h1;subst hg;exact ⟨i,hi⟩
    | f :: f2 :: r,h=>simp [tie] at h
  | .bool,T,fs,off,h=>by
    intro g hg
    match fs,h with
    | [f],h=>obtain ⟨fld,h1,_,i,hi,_⟩:=a_2 (k:=0) h rfl;simp at h1 hg;subst h1;subst hg;exact ⟨i,hi⟩
    | f :: f2 :: r,h=>simp [tie] at h
  | .str,T,fs,off,h=>by
    intro g hg
    match fs,h with
    | [f],h=>obtain ⟨fld,h1,_,i,hi,_⟩:=a_2 (k:=0) h rfl;simp at h1 hg;subst h1;subst hg;exact ⟨i,hi⟩
    | f :: f2 :: r,h=>simp [tie] at h
  | .sl _,T,fs,off,h=>by
    intro g hg
    match fs,h with
    | [f],h=>obtain ⟨fld,h1,_,i,hi,_⟩:=a_2 (k:=0) h rfl;simp at h1 hg;subst h1;subst hg;exact ⟨i,hi⟩
    | f :: f2 :: r,h=>simp [tie] at h
  | .st _,T,fs,off,h=>by
    intro g hg
    match fs,h with
    | [f],h=>obtain ⟨fld,h1,_,i,hi,_⟩:=a_2 (k:=0) h rfl;simp at h1 hg;subst h1;subst hg;exact ⟨i,hi⟩
    | f :: f2 :: r,h=>simp [tie] at h
  | .arr _ _,T,fs,off,h=>by
    intro g hg
    match fs,h with
    | [f],h=>obtain ⟨fld,h1,_,i,hi,_⟩:=a_2 (k:=0) h rfl;simp at h1 hg;subst h1;subst hg;exact ⟨i,hi⟩
    | f :: f2 :: r,h=>simp [tie] at h
  | .raw,T,fs,off,h=>by
    intro g hg
    match fs,h with
    | [f],h=>obtain ⟨fld,h1,_,i,hi,_⟩:=a_2 (k:=0) h rfl;simp at h1 hg;subst h1;subst hg;exact ⟨i,hi⟩
    | f :: f2 :: r,h=>simp [tie] at h
theorem a_t (S:StD ds N a l) {T:TypeId} {parts:Array (Nat × Operand)} {f:GT} {z0 x:PT f} {vs:List Value} (z:Value) (ho:o.op = .build T parts) (ht:tie P (.st f) false T [] 0 = true) (hz:(P.info? T).bind (·.zero) = some z) (R:∀ w K,RepCs f w K z.cells.toList z0) (hd:o.dst = some d) (hN:Nat.blt d N = true)
    (hv:evs l (parts.toList.map (·.2)) = some vs) (ps:List (Nat × Value)) (hps:ps = (parts.toList.map (·.1)).zip vs) (F:e_k f w K ps z0 x) (k:∀ a' v,RepV (.st f) w K v x → StD ds N a' ((d,v) :: l) → Kont a' w):o.wp P a w Kont Q:=by
  obtain ⟨fs,hfs,htf⟩:=d_r ht
  obtain ⟨i,hi,hsz⟩:=a_E ht
  have hz0:i.zero = some z:=by rw [hi] at hz;exact hz
  have hmap:(fs.mapM fun (g:Field)=>(do pure (g.offset,← sizeOf g.type):Sem _)).run P w = .ok (fs.toList.map fun g=>(g.offset,P.cellsOf g.type)).toArray w:=by
    rw [Array.mapM_eq_foldlM]
    have:=c_W (P:=P) (w:=w) fs fs.toList #[] (d_Y htf)
    rw [← Array.foldlM_toList]
    simpa using this
  have hpl:∀ k,pureOp.fieldB f k = true → (fs.toList.map fun g=>(g.offset,P.cellsOf g.type)).toArray[k]? = some (a_3 f k,(comp f k).sz):=by
    intro k hk
    obtain ⟨fld,h1,h2,j,hj,hjs⟩:=a_2 htf hk
    simp only [List.getElem?_toArray,List.getElem?_map,h1,Option.map_some,h2,Program.cellsOf,hj,hjs,Nat.zero_add,Option.getD_some]
  obtain ⟨cs',hfill,hrep⟩:=e_A (T:=T) htf (fun k=>(fs.toList.map fun g=>(g.offset,P.cellsOf g.type)).toArray[k]?) hpl ps z.cells.toList z0 x (R w K) F
  have hparts:(parts.map fun (p:Nat × Operand)=>(p.1,a.eval p.2)).toList = ps:=by
    rw [hps,← S.evs hv,Array.toList_map]
    induction parts.toList with
    | nil=>rfl
    | cons p r ih=>simp [ih]
  refine a_D S (v:=.agg cs'.toArray) hd hN ?_ fun a'=>k a' _ ⟨cs',hrep,rfl⟩
  have hpm:parts.map (fun (x:Nat × Operand)=>match x with | (i,x)=>(i,a.eval x)) = parts.map fun (p:Nat × Operand)=>(p.1,a.eval p.2):=rfl
  have hfill':Instr.fill (fun k=>(fs.toList.map fun g=>(g.offset,P.cellsOf g.type)).toArray[k]?) z.cells ps = some cs'.toArray:=by simpa using hfill
  simp only [execOp,ho,hpm,Instr.build,zeroValue,typeInfo,Sem.run_bind,run_program,hi,Result.andThen_ok,Sem.run_pure,hz0,run_underlying hfs,hmap,hparts,hfill']
def e_l (P:Program) (a:Act) (w:World) (r:ResultVar) (v:Value):Prop:=match r with
  | .tmp t=>a.tmps.getD t undef = v
  | .cell p T=>∃ ad,a.tmps.getD p undef = .pointer (some ad) ∧ (loadVar T ad).run P w = .ok v w
theorem b_p (S:StD ds N a l) {s:Nat} {v:Value} (h:lk l s = some v):e_l P a w (.tmp s) v:=by simp [e_l,S.at_ s v h]
theorem a_x (S:StD ds N a l) {s:Nat} {p:Addr} {T:TypeId} {t:GT} {x:PT t} (h:lk l s = some (.pointer (some p))) (ht:tie P t false T [] 0 = true) (R:RepAt t w K p x):∃ v,e_l P a w (.cell s T) v ∧ RepV t w K v x:=by
  obtain ⟨v,hr,hv⟩:=b_R (P:=P) ht R
  exact ⟨v,⟨p,by simp [S.at_ s _ h],hr⟩,hv⟩
theorem e_m {r:ResultVar} {v:Value} (h:e_l P a w r v):(∃ t,r = .tmp t ∧ a.tmps.getD t undef = v) ∨ ∃ p T ad,r = .cell p T ∧ a.tmps.getD p undef = .pointer (some ad) ∧ (loadVar T ad).run P w = .ok v w:=by
  cases r with
  | tmp t=>exact .inl ⟨t,rfl,h⟩
  | cell p T=>obtain ⟨ad,h1,h2⟩:=h;exact .inr ⟨p,T,ad,rfl,h1,h2⟩
theorem c_a (S:St N a l) {fn:Func} {R:Ending → World → Prop} {r:ResultVar} {v:Value} (hr:fn.results = #[r]) (h1:e_l P a w r v) (hR:R (.returned v) w):bodyPost P fn R .ret a w:=by
  refine ⟨S.defers,v,?_,hR⟩
  rcases e_m h1 with ⟨t,rfl,h⟩ | ⟨p,T,ad,rfl,h,h'⟩
  · simp only [Array.getD_eq_getD_getElem?] at h;simp [results,hr,h]
  · simp only [Array.getD_eq_getD_getElem?] at h;simp [results,hr,h,asAddr,h']
theorem b_i (S:St N a l) {fn:Func} {R:Ending → World → Prop} {r r':ResultVar} {v v':Value} (hr:fn.results = #[r,r']) (h1:e_l P a w r v) (h2:e_l P a w r' v') (hR:R (.returned (.tuple #[v,v'])) w):bodyPost P fn R .ret a w:=by
  refine ⟨S.defers,_,?_,hR⟩
  rcases e_m h1 with ⟨t,rfl,h⟩ | ⟨p,T,ad,rfl,h,h'⟩ <;> rcases e_m h2 with ⟨t2,rfl,g⟩ | ⟨p2,T2,ad2,rfl,g,g'⟩
  · simp only [Array.getD_eq_getD_getElem?] at h g;simp [results,hr,h,g]
  · simp only [Array.getD_eq_getD_getElem?] at h g;simp [results,hr,h,g,asAddr,g']
  · simp only [Array.getD_eq_getD_getElem?] at h g;simp [results,hr,h,g,asAddr,h']
  · simp only [Array.getD_eq_getD_getElem?] at h g;simp [results,hr,h,g,asAddr,h',g']
theorem b_L (S:StD ds N a l) {fn:Fn} {fi cp:Array Operand} {vs us:List Value} (ho:o.op = .makeFunc fn fi cp) (hd:o.dst = some d) (hN:Nat.blt d N = true) (hv:evs l fi.toList = some vs) (hu:evs l cp.toList = some us) (k:∀ a',StD ds N a' ((d,.func fn vs.toArray us.toArray) :: l) → Kont a' w):o.wp P a w Kont Q:=by
  refine a_D S hd hN ?_ k
  have h1:fi.map a.eval = vs.toArray:=by rw [← S.evs hv,← Array.toList_map,Array.toArray_toList]
  have h2:cp.map a.eval = us.toArray:=by rw [← S.evs hu,← Array.toList_map,Array.toArray_toList]
  simp [execOp,ho,Instr.makeFunc,h1,h2]
end
end Go.Proofs.Ytfelbalkobcfhaa
