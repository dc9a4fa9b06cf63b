/- The rules of the walk over plain data, more: structs within structs held against each other, a number in a struct that lies in no variable, pointers that are never nil. Plain theorems, no condition. -/
import Derived.Test.YtaekmgpcdgmlgaaXE38
set_option linter.unusedVariables false
set_option linter.unusedSimpArgs false
namespace Go.Proofs.Ytaekmgpcdgmlgaa
open Go.RowKit Go.ChangeShapes

/-! ### Structs within structs -/
def eqN:(t:GT) → PT t → PT t → Bool
  | .int _,x,y=>decide ((x:Int) = y)
  | .bool,x,y=>decide ((x:Bool) = y)
  | .str,x,y=>decide ((x:List Int) = y)
  | .pair a b,x,y=>eqN a x.1 y.1 && eqN b x.2 y.2
  | .st t,x,y=>eqN t x y
  | _,_,_=>false
def eqNB (P:Program):GT → Bool → TypeId → List Field → Bool
  | .pair a b, true, T, f :: fs => (f.name != "_") && eqNB P a false f.type [] && eqNB P b true T fs
  | .st g,false,T,_=>!P.stoodInHeld T && eqNB P g true T (P.fieldsOf T).toList
  | .st g, true, _, [f] => (f.name != "_") && (!P.stoodInHeld f.type && eqNB P g true f.type (P.fieldsOf f.type).toList)
  | .int _, true, _, [f] => f.name != "_"
  | .bool, true, _, [f] => f.name != "_"
  | .str, true, _, [f] => f.name != "_"
  | .int _,false,_,_=>true
  | .bool,false,_,_=>true
  | .str,false,_,_=>true
  | _,_,_,_=>false
def depG:GT → Nat
  | .st g=>depG g + 1
  | .pair a b=>max (depG a) (depG b)
  | _=>0
def eqM (P:Program) (t:GT) (T:TypeId):Bool:=eqNB P (.st t) false T [] && !P.eqGuardType P.depth T && Nat.blt (depG t) 9000
section
variable {P:Program}
theorem run_part_agg {g:GT} {T:TypeId} (ht:tie P (.st g) false T [] 0 = true) {xs:Array Value} {o:Nat} {c:List Value} (hc:c.length = g.sz) (h:∀ i v,c[i]? = some v → xs[o + i]? = some v) (w:World) :
    (part T xs o).run P w = .ok (.agg c.toArray) w:=by
  obtain ⟨i,hi,hs⟩:=tie_size ht
  rw [tie] at ht
  simp only [Bool.and_eq_true] at ht
  cases hu:P.underlying T with
  | none=>simp [hu] at ht
  | some ds=>cases ds with
    | struct fs =>
      have he:xs.extract o (o + g.sz) = c.toArray:=by
        apply Array.ext_getElem?
        intro k
        rw [Array.getElem?_extract]
        by_cases hk:k < g.sz
        · have hkc:k < c.length:=by omega
          have h1:=h k c[k] (List.getElem?_eq_getElem hkc)
          have h2:o + k < xs.size:=by
            rcases Nat.lt_or_ge (o + k) xs.size with h | h
            · exact h
            · rw [Array.getElem?_eq_none h] at h1;cases h1
          rw [if_pos (by omega),h1]
          simp [hkc]
        · rw [if_neg (by omega)]
          simp
          omega
      have hs':i.size = g.sz:=hs
      simp [part,isAgg,run_underlying hu,sizeOf,typeInfo,hi,hs',he]
    | _=>simp [hu] at ht
theorem get_left {α:Type} {a b:List α} {i:Nat} {v:α} (hv:a[i]? = some v):(a ++ b)[i]? = some v:=by
  rcases Nat.lt_or_ge i a.length with h | h
  · rw [List.getElem?_append_left h,hv]
  · rw [List.getElem?_eq_none h] at hv;cases hv
theorem nb_scal:∀ {a:GT} {T:TypeId},eqNB P a false T [] = true → a.agg = false → scal a = true
  | .int _,_,_,_=>rfl
  | .bool,_,_,_=>rfl
  | .str,_,_,_=>rfl
  | .pair _ _,_,h,_=>by simp [eqNB] at h
  | .st _,_,_,h=>by cases h
  | .arr _ _,_,_,h=>by cases h
  | .sl _,_,h,_=>by simp [eqNB] at h
  | .raw,_,h,_=>by simp [eqNB] at h
theorem nb_agg:∀ {a:GT} {T:TypeId},eqNB P a false T [] = true → a.agg = true → ∃ g,a = .st g
  | .st g,_,_,_=>⟨g,rfl⟩
  | .int _,_,_,h=>by cases h
  | .bool,_,_,h=>by cases h
  | .str,_,_,h=>by cases h
  | .pair _ _,_,h,_=>by simp [eqNB] at h
  | .arr _ _,_,h,_=>by simp [eqNB] at h
  | .sl _,_,h,_=>by simp [eqNB] at h
  | .raw,_,h,_=>by simp [eqNB] at h
theorem scal_sz:∀ {a:GT},scal a = true → a.sz = 1
  | .int _,_=>rfl
  | .bool,_=>rfl
  | .str,_=>rfl
theorem part_of {a:GT} {T:TypeId} (hba:eqNB P a false T [] = true) (ht:tie P a false T [] 0 = true) {xs:Array Value} {o:Nat} {c:List Value} (hc:c.length = a.sz) (h:∀ i v,c[i]? = some v → xs[o + i]? = some v) (w:World) :
    (part T xs o).run P w = .ok (if a.agg then .agg c.toArray else c.headD undef) w:=by
  cases hag:a.agg with
  | true =>
    obtain ⟨g,rfl⟩:=nb_agg hba hag
    rw [if_pos rfl]
    exact run_part_agg ht hc h w
  | false =>
    have hs:=nb_scal hba hag
    rw [scal_sz hs] at hc
    match c,hc with
    | [u],_=>exact run_part_plain (w:=w) (scal_plain hs ht) (h 0 u rfl)
theorem eqN_all {w W:World} {K:Nat → Prop}:∀ (t:GT),
    (∀ {T:TypeId} {d:Nat} {c1 c2:List Value} {x y:PT t},eqNB P t false T [] = true → tie P t false T [] 0 = true → depG t ≤ d → RepCs t W K c1 x → RepCs t W K c2 y →
      ∃ v1 v2,(v1 = if t.agg then .agg c1.toArray else c1.headD undef) ∧ (v2 = if t.agg then .agg c2.toArray else c2.headD undef) ∧ (Op.equalIn (d + 1) T v1 v2).run P w = .ok (eqN t x y) w) ∧
    (∀ {T:TypeId} {fs:List Field} {o d:Nat} {xs ys:Array Value} {c1 c2:List Value} {x y:PT t},eqNB P t true T fs = true → tie P t true 0 fs o = true → depG t ≤ d → RepCs t W K c1 x → RepCs t W K c2 y →
      (∀ i v,c1[i]? = some v → xs[o + i]? = some v) → (∀ i v,c2[i]? = some v → ys[o + i]? = some v) → (Op.eqFields (d + 1) xs ys fs).run P w = .ok (eqN t x y) w):=by
  intro t
  have scalV:∀ {t:GT},scal t = true → (∀ x y:PT t,eqP t x y = eqN t x y) → ∀ {T:TypeId} {d:Nat} {c1 c2:List Value} {x y:PT t},tie P t false T [] 0 = true → RepCs t W K c1 x → RepCs t W K c2 y →
      ∃ v1 v2,(v1 = if t.agg then .agg c1.toArray else c1.headD undef) ∧ (v2 = if t.agg then .agg c2.toArray else c2.headD undef) ∧ (Op.equalIn (d + 1) T v1 v2).run P w = .ok (eqN t x y) w:=by
    intro t hs he T d c1 c2 x y ht h1 h2
    obtain ⟨v1,v2,rfl,rfl,h⟩:=scal_eq (w:=w) hs ht h1 h2 d
    rw [he] at h
    cases t <;> simp [scal] at hs <;> exact ⟨v1,v2,rfl,rfl,h⟩
  have scalF : ∀ {t : GT}, scal t = true → (∀ x y : PT t, eqP t x y = eqN t x y) → (∀ (T : TypeId) (fs : List Field), eqNB P t true T fs = true → fs.all (fun f => f.name != "_") = true) → ∀ {T : TypeId} {fs : List Field} {o d : Nat} {xs ys : Array Value} {c1 c2 : List Value} {x y : PT t}, eqNB P t true T fs = true → tie P t true 0 fs o = true → RepCs t W K c1 x → RepCs t W K c2 y →
      (∀ i v,c1[i]? = some v → xs[o + i]? = some v) → (∀ i v,c2[i]? = some v → ys[o + i]? = some v) → (Op.eqFields (d + 1) xs ys fs).run P w = .ok (eqN t x y) w:=by
    intro t hs he hn T fs o d xs ys c1 c2 x y hb ht h1 h2 e1 e2
    have:=run_eqFields (P:=P) (d:=d) (w:=w) (by cases t <;> simp [scal] at hs <;> rfl) ht (hn _ _ hb) h1 h2 e1 e2
    rw [this,he]
  induction t with
  | int k=>exact ⟨fun _ ht _ h1 h2=>scalV rfl (fun _ _=>rfl) ht h1 h2,fun hb ht _ h1 h2 e1 e2=>scalF rfl (fun _ _=>rfl) (fun T fs hb=>by
      match fs,hb with
      | [f],hb=>simpa [eqNB] using hb) hb ht h1 h2 e1 e2⟩
  | bool=>exact ⟨fun _ ht _ h1 h2=>scalV rfl (fun _ _=>rfl) ht h1 h2,fun hb ht _ h1 h2 e1 e2=>scalF rfl (fun _ _=>rfl) (fun T fs hb=>by
      match fs,hb with
      | [f],hb=>simpa [eqNB] using hb) hb ht h1 h2 e1 e2⟩
  | str=>exact ⟨fun _ ht _ h1 h2=>scalV rfl (fun _ _=>rfl) ht h1 h2,fun hb ht _ h1 h2 e1 e2=>scalF rfl (fun _ _=>rfl) (fun T fs hb=>by
      match fs,hb with
      | [f],hb=>simpa [eqNB] using hb) hb ht h1 h2 e1 e2⟩
  | sl e _=>exact ⟨fun hb=>by simp [eqNB] at hb,fun hb=>by simp [eqNB] at hb⟩
  | arr n e _=>exact ⟨fun hb=>by simp [eqNB] at hb,fun hb=>by simp [eqNB] at hb⟩
  | raw=>exact ⟨fun hb=>by simp [eqNB] at hb,fun hb=>by simp [eqNB] at hb⟩
  | pair a b iha ihb =>
    refine ⟨fun hb=>by simp [eqNB] at hb,fun {T fs o d xs ys c1 c2 x y} hb ht hd h1 h2 e1 e2=>?_⟩
    match fs,hb,ht with
    | f :: fs,hb,ht =>
      rw [eqNB] at hb
      simp only [Bool.and_eq_true] at hb
      obtain ⟨⟨hn,hba⟩,hbb⟩:=hb
      simp only [tie,Bool.and_eq_true,beq_iff_eq] at ht
      obtain ⟨⟨ht1,ho⟩,ht2⟩:=ht
      obtain ⟨a1,b1,rfl,ha1,hb1⟩:=h1
      obtain ⟨a2,b2,rfl,ha2,hb2⟩:=h2
      have l1:=ha1.len
      have l2:=ha2.len
      have hda:depG a ≤ d:=Nat.le_trans (Nat.le_max_left _ _) hd
      have hdb:depG b ≤ d:=Nat.le_trans (Nat.le_max_right _ _) hd
      obtain ⟨v1,v2,q1,q2,he⟩:=iha.1 (d:=d) hba ht1 hda ha1 ha2
      have p1:(part f.type xs f.offset).run P w = .ok v1 w:=by
        rw [q1,ho]
        exact part_of hba ht1 l1 (fun i v hv=>e1 i v (get_left hv)) w
      have p2:(part f.type ys f.offset).run P w = .ok v2 w:=by
        rw [q2,ho]
        exact part_of hba ht1 l2 (fun i v hv=>e2 i v (get_left hv)) w
      have:=ihb.2 (d:=d) hbb ht2 hdb hb1 hb2 (fun i v hv=>by
        have:=e1 (a1.length + i) v (by rw [List.getElem?_append_right (by omega)];rw [show a1.length + i - a1.length = i by omega];exact hv)
        rw [← this,l1,Nat.add_assoc]) (fun i v hv=>by
        have:=e2 (a2.length + i) v (by rw [List.getElem?_append_right (by omega)];rw [show a2.length + i - a2.length = i by omega];exact hv)
        rw [← this,l2,Nat.add_assoc])
      have hn' : f.name ≠ "_" := by simpa using hn
      simp only [Op.eqFields,if_pos hn',Sem.run_bind,p1,p2,he,Result.andThen_ok]
      show _ = Result.ok (eqN a x.1 y.1 && eqN b x.2 y.2) w
      cases eqN a x.1 y.1 <;> simp [this]
    | [],hb,_=>simp [eqNB] at hb
  | st g ih =>
    have val:∀ {T:TypeId} {d:Nat} {c1 c2:List Value} {x y:PT (.st g)},(!P.stoodInHeld T && eqNB P g true T (P.fieldsOf T).toList) = true → tie P (.st g) false T [] 0 = true → depG (.st g) ≤ d → RepCs (.st g) W K c1 x → RepCs (.st g) W K c2 y →
        (Op.equalIn (d + 1) T (.agg c1.toArray) (.agg c2.toArray)).run P w = .ok (eqN (.st g) x y) w:=by
      intro T d c1 c2 x y hb ht hd h1 h2
      simp only [Bool.and_eq_true,Bool.not_eq_true'] at hb
      obtain ⟨fs,hfs,htf⟩:=tie_st ht
      have hfo:P.fieldsOf T = fs:=by simp [Program.fieldsOf,hfs]
      have hd':depG g + 1 ≤ d:=hd
      obtain ⟨d',rfl⟩:∃ d',d = d' + 1:=⟨d - 1,by omega⟩
      rw [run_equalIn_struct w (d' + 1) T _ _ (by rw [hfo];exact hfs) hb.1]
      rw [hfo] at hb ⊢
      exact ih.2 hb.2 htf (by omega) h1 h2 (fun i v hv=>by simpa using hv) (fun i v hv=>by simpa using hv)
    refine ⟨fun {T d c1 c2 x y} hb ht hd h1 h2=>⟨_,_,rfl,rfl,val (by rw [eqNB] at hb;exact hb) ht hd h1 h2⟩,fun {T fs o d xs ys c1 c2 x y} hb ht hd h1 h2 e1 e2=>?_⟩
    match fs,hb,ht with
    | [f],hb,ht =>
      rw [eqNB,Bool.and_eq_true] at hb
      have ht1:tie P (.st g) false f.type [] 0 = true:=by
        simp only [tie,Bool.and_eq_true,beq_iff_eq] at ht ⊢
        exact ⟨ht.1.2,ht.2⟩
      have ho:f.offset = o:=by simp only [tie,Bool.and_eq_true,beq_iff_eq] at ht;exact ht.1.1
      have he:=val (d:=d) hb.2 ht1 hd h1 h2
      have p1:=run_part_agg ht1 (RepCs.len (t:=.st g) h1) e1 w
      have p2:=run_part_agg ht1 (RepCs.len (t:=.st g) h2) e2 w
      rw [← ho] at p1 p2
      have hn' : f.name ≠ "_" := by simpa using hb.1
      simp only [Op.eqFields,if_pos hn',Sem.run_bind,p1,p2,he,Result.andThen_ok]
      cases eqN (.st g) x y <;> simp [Op.eqFields]
    | [],hb,_=>simp [eqNB] at hb
    | _ :: _ :: _,hb,_=>simp [eqNB] at hb
theorem eqN_iff:∀ {t:GT} {b:Bool} {T:TypeId} {fs:List Field} (_:eqNB P t b T fs = true) (x y:PT t),eqN t x y = true ↔ x = y
  | .int _,_,_,_,_,x,y=>by simp [eqN]
  | .bool,_,_,_,_,x,y=>by simp [eqN]
  | .str,_,_,_,_,x,y=>by simp [eqN]
  | .pair a b,true,T,f :: fs,h,x,y=>by
    rw [eqNB] at h
    simp only [Bool.and_eq_true] at h
    obtain ⟨x1,x2⟩:=x
    obtain ⟨y1,y2⟩:=y
    simp [eqN,eqN_iff h.1.2 x1 y1,eqN_iff h.2 x2 y2]
  | .pair a b,false,T,_,h,x,y=>by simp [eqNB] at h
  | .pair a b,true,T,[],h,x,y=>by simp [eqNB] at h
  | .st g,false,T,_,h,x,y=>by
    rw [eqNB,Bool.and_eq_true] at h
    exact eqN_iff (t:=g) h.2 x y
  | .st g,true,T,[f],h,x,y=>by
    rw [eqNB,Bool.and_eq_true,Bool.and_eq_true] at h
    exact eqN_iff (t:=g) h.2.2 x y
  | .st g,true,T,[],h,x,y=>by simp [eqNB] at h
  | .st g,true,T,_ :: _ :: _,h,x,y=>by simp [eqNB] at h
  | .sl _,_,_,_,h,_,_=>by simp [eqNB] at h
  | .arr _ _,_,_,_,h,_,_=>by simp [eqNB] at h
  | .raw,_,_,_,h,_,_=>by simp [eqNB] at h
end
section
variable {ds:List Deferred} {N:Nat} {a:Act} {l:List (Nat × Value)} {w w0:World} {P:Program} {ops:Array Oper} {Q:Exit → Act → World → Prop} {rest:List Oper} {o:Oper} {Kont:Act → World → Prop} {d:Nat} {K:Nat → Prop} {L:List (Option Nat)}
theorem stN_run {T:TypeId} {t:GT} {v1 v2:Value} {x y:PT t} {W:World} {K1 K2:Nat → Prop} (hb:eqM P t T = true) (ht:tie P (.st t) false T [] 0 = true) (h1:RepV (.st t) W K1 v1 x) (h2:RepV (.st t) W K2 v2 y) :
    ∃ a b,v1 = .agg a ∧ v2 = .agg b ∧ P.eqGuardType P.depth T = false ∧ (Op.equalIn 10000 T (.agg a) (.agg b)).run P w = .ok (eqN t x y) w:=by
  obtain ⟨c1,h1,rfl⟩:=h1
  obtain ⟨c2,h2,rfl⟩:=h2
  simp only [eqM,Bool.and_eq_true,Bool.not_eq_true'] at hb
  have h1':RepCs t W (fun _=>True) c1 x:=RepCs.keep (K:=K1) ⟨Nat.le_refl _,fun _ _ _=>rfl⟩ (fun _ _ _=>trivial) (t:=t) h1
  have h2':RepCs t W (fun _=>True) c2 y:=RepCs.keep (K:=K2) ⟨Nat.le_refl _,fun _ _ _=>rfl⟩ (fun _ _ _=>trivial) (t:=t) h2
  have hd:depG (.st t) ≤ 9999:=by
    have:=hb.2
    rw [Nat.blt_eq] at this
    show depG t + 1 ≤ 9999
    omega
  obtain ⟨v1,v2,q1,q2,he⟩:=(eqN_all (P:=P) (w:=w) (W:=W) (K:=fun _=>True) (.st t)).1 (d:=9999) hb.1.1 ht hd h1' h2'
  have q1:v1 = .agg c1.toArray:=q1
  have q2:v2 = .agg c2.toArray:=q2
  subst q1;subst q2
  exact ⟨_,_,rfl,rfl,hb.1.2,he⟩
theorem op_stNneq (S:StD ds N a l) {T T':TypeId} {x y:Operand} {t:GT} {K1 K2:Nat → Prop} {v1 v2:Value} {m n:PT t} (ho:o.op = .binOp .neq T x y T') (hd:o.dst = some d) (hN:Nat.blt d N = true)
    (hx:ev l x = some v1) (hy:ev l y = some v2) (ht:tie P (.st t) false T [] 0 = true) (hb:eqM P t T = true) (h1:RepV (.st t) w K1 v1 m) (h2:RepV (.st t) w K2 v2 n)
    (k:∀ a',StD ds N a' ((d,.bool (!eqN t m n)) :: l) → Kont a' w):o.wp P a w Kont Q:=by
  obtain ⟨a1,a2,rfl,rfl,hg,he⟩:=stN_run (w:=w) hb ht h1 h2
  refine op_run S hd hN ?_ k
  simp [execOp,ho,S.eval hx,S.eval hy,run_eqGuard_agg w _ T _ _ _ _ hg,run_neq_struct,he]
end

/-! ### A pointer to a variable of one's own -/
def Sp (t:GT) (T:TypeId) (w:World) (K:Nat → Prop) (v:Value) (x:PT t):Prop:=∃ b,v = pB b ∧ Bx t T w K b x
section
variable {w0 w w':World} {L P:List (Option Nat)} {K:Nat → Prop} {n b:Nat} {t:GT} {v:Value} {T:TypeId} {x:PT t}
theorem Sp.backW (h:Sp t T w' (Kx (Kx K w0.heap.size L) w.heap.size P) v x) (hW:Wd w0 w L):Sp t T w' (Kx K w0.heap.size (P ++ L)) v x:=by
  obtain ⟨b,rfl,h⟩:=h
  exact ⟨b,rfl,h.backW hW⟩
theorem Sp.bx (h:Bx t T w K b x):Sp t T w K (pB b) x:=⟨b,rfl,h⟩
theorem Sp.fr (P LO:List (Option Nat)) (h:Sp t T w (Kx K n (P ++ LO)) v x):Sp t T w (Kx K n P) v x:=by
  obtain ⟨b,rfl,h⟩:=h
  rcases Opt1.fr P LO (Opt1.bx h) with ⟨h,_⟩ | ⟨b',y,h1,h2,h3⟩
  · cases h
  · obtain rfl:=Option.some.inj h2
    exact ⟨b',h1,h3⟩
theorem Pr.again {p:Addr} (h:Pr t w0 K p x) (W:Wd w0 w L):Pr t w (Kx K w0.heap.size L) p x:=⟨Br.now h.br' W,h.lt' W,h.kk W⟩
end
/-! ### An operation that only copies may be taken to come ahead of another -/
def addOn (i:Nat) (o:Oper):Oper:={ o with after:=o.after.push ⟨i,.data⟩ }
def quietOp:Op → Bool
  | .extract _ _=>true
  | .move _=>true
  | .assign _=>true
  | _=>false
def depL (l:List Oper) (i:Nat):Array Bool:=((List.range l.length).map fun k=>match l[i]? with
  | some o=>o.after.any fun e=>Region.binds .any e && Nat.beq e.on k
  | none=>false).toArray
def edgeB (l:List Oper) (i j:Nat):Bool :=
  Nat.blt i l.length && Nat.blt j l.length && (!Nat.beq i j) && Region.free .any l.toArray (depL l i) i && Region.noSelect l.toArray &&
  match l[i]?,l[j]? with
  | some oi,some oj=>quietOp oi.op && oi.after.all fun e=>!Region.binds .any e || oj.after.any fun e'=>Region.binds .any e' && Nat.beq e'.on e.on
  | _,_=>false
section
variable {P:Program} {Q:Exit → Act → World → Prop} {l:List Oper} {i j k:Nat} {a:Act} {w:World} {K:Act → World → Prop} {listed:Array Bool}
theorem get_addOn:(l.modify j (addOn i)).toArray[k]? = (l.toArray[k]?).map fun o=>if j = k then addOn i o else o:=by
  simp only [List.getElem?_toArray,List.getElem?_modify]
  by_cases h:j = k <;> simp [h]
theorem yielded_addOn (tmps:Array Value):yielded (l.modify j (addOn i)).toArray tmps = yielded l.toArray tmps:=by
  funext k
  unfold yielded
  rw [get_addOn]
  cases l.toArray[k]? with
  | none=>rfl
  | some o=>by_cases h:j = k <;> simp [h,addOn]
theorem wpOp_addOn:wpOp P (l.modify j (addOn i)).toArray Q k K a w = wpOp P l.toArray Q k K a w:=by
  unfold wpOp
  rw [get_addOn,yielded_addOn]
  cases l.toArray[k]? with
  | none=>rfl
  | some o=>by_cases h:j = k <;> simp only [h,if_true,if_false,Option.map_some] <;> rfl
theorem ready_addOn:k ∈ Region.ready .any (l.modify j (addOn i)).toArray listed ↔ k ∈ Region.ready .any l.toArray listed ∧ (k = j → listed.getD i false = true):=by
  rw [mem_ready,mem_ready,get_addOn]
  constructor
  · rintro ⟨h1,o,ho,h2⟩
    obtain ⟨o',ho',rfl⟩:=Option.map_eq_some_iff.1 ho
    by_cases h:j = k
    · rw [if_pos h] at h2
      refine ⟨⟨h1,o',ho',fun e he hb=>h2 e (by simp [addOn,he]) hb⟩,fun _=>h2 ⟨i,.data⟩ (by simp [addOn]) rfl⟩
    · rw [if_neg h] at h2
      exact ⟨⟨h1,o',ho',h2⟩,fun e=>absurd e.symm h⟩
  · rintro ⟨⟨h1,o,ho,h2⟩,h3⟩
    refine ⟨h1,if j = k then addOn i o else o,by rw [ho];rfl,fun e he hb=>?_⟩
    by_cases h:j = k
    · rw [if_pos h] at he
      simp only [addOn,Array.mem_push] at he
      rcases he with he | rfl
      · exact h2 e he hb
      · exact h3 h.symm
    · rw [if_neg h] at he
      exact h2 e he hb
theorem getD_keep (h:listed.getD i false = true) (k:Nat):(listed.setIfInBounds k true).getD i false = true:=by
  simp only [Array.getD_eq_getD_getElem?,Array.getElem?_setIfInBounds] at h ⊢
  by_cases hk:k = i
  · subst hk
    rcases Nat.lt_or_ge k listed.size with h' | h'
    · simp [h']
    · rw [Array.getElem?_eq_none h'] at h;cases h
  · rw [if_neg hk];exact h
theorem any_addOn1:∀ (fuel:Nat) (listed:Array Bool) (a:Act) (w:World),listed.getD i false = true → wpAny P .any (l.modify j (addOn i)).toArray Q fuel listed a w → wpAny P .any l.toArray Q fuel listed a w
  | 0,listed,a,w,hi,h=>by
    refine ⟨?_,h.2⟩
    cases hr:Region.ready .any l.toArray listed with
    | nil=>rfl
    | cons k ks =>
      have:k ∈ Region.ready .any (l.modify j (addOn i)).toArray listed:=ready_addOn.2 ⟨by rw [hr];simp,fun _=>hi⟩
      rw [h.1] at this;cases this
  | fuel + 1,listed,a,w,hi,h=>by
    refine ⟨fun hr=>h.1 ?_,fun k hk=>?_⟩
    · cases hr':Region.ready .any (l.modify j (addOn i)).toArray listed with
      | nil=>rfl
      | cons k ks =>
        have:=(ready_addOn.1 (show k ∈ Region.ready .any (l.modify j (addOn i)).toArray listed by rw [hr'];simp)).1
        rw [hr] at this;cases this
    · have:=h.2 k (ready_addOn.2 ⟨hk,fun _=>hi⟩)
      rw [wpOp_addOn] at this
      exact wpOp_mono (fun a' w' h'=>any_addOn1 fuel _ a' w' (getD_keep hi k) h') this
theorem nomem_ev {e:Event} (h:e ∈ (#[]:Array Event)):False:=by simp at h
theorem quiet_run {o:Oper} {ops:Array Oper} (hq:quietOp o.op = true) (hi:ops[i]? = some o) (h:wpOp P ops Q i K a w):∃ v,Yields P ops o v a ∧ K (a.put o.dst v) w:=by
  unfold wpOp at h
  rw [hi] at h
  simp only at h
  by_cases hw:Region.wanted o (yielded ops a.tmps) = true
  · rw [if_pos hw] at h
    have key:(∃ v,∀ w,(execOp a.eval o).run P w = .ok (.value v) w) ∨ ((∀ next,¬ o.upon P a next Q ((execOp a.eval o).run P w))):=by
      cases ho:o.op <;> rw [ho] at hq <;> try (simp [quietOp] at hq)
      · exact .inl ⟨_,fun w=>by simp [execOp,ho];rfl⟩
      · exact .inl ⟨_,fun w=>by simp [execOp,ho];rfl⟩
      · rename_i x n
        cases hx:a.eval x with
        | tuple vs =>
          cases hv:vs[n]? with
          | some v=>exact .inl ⟨v,fun w=>by simp [execOp,ho,hx,Instr.extract,hv]⟩
          | none=>exact .inr fun next=>by simp [execOp,ho,hx,Instr.extract,hv,stuck,Oper.upon]
        | _=>exact .inr fun next=>by simp [execOp,ho,hx,Instr.extract,stuck,Oper.upon]
    have hasks:¬ o.asks P a w:=by
      intro ⟨h1,_⟩
      cases ho:o.op <;> rw [ho] at hq <;> try (simp [quietOp] at hq)
      · simp [execOp,ho] at h1
        exact nomem_ev h1
      · simp [execOp,ho] at h1
        exact nomem_ev h1
      · rename_i x n
        cases hx:a.eval x with
        | tuple vs =>
          cases hv:vs[n]? with
          | some v=>simp [execOp,ho,hx,Instr.extract,hv] at h1;exact nomem_ev h1
          | none=>simp [execOp,ho,hx,Instr.extract,hv,stuck] at h1;exact nomem_ev h1
        | _=>simp [execOp,ho,hx,Instr.extract,stuck] at h1;exact nomem_ev h1
    rcases h with h | ⟨h,_⟩
    · rcases key with ⟨v,hv⟩ | hn
      · refine ⟨v,.inl ⟨hw,hv⟩,?_⟩
        unfold Oper.wp at h
        rw [hv] at h
        exact h
      · exact absurd h (hn _)
    · exact absurd h hasks
  · rw [if_neg hw] at h
    exact ⟨undef,.inr ⟨by simpa using hw,rfl⟩,h⟩
theorem any_addOn (hc:edgeB l i j = true) (hQ:∀ c d v a w,Q (.panic c) (a.put d v) w → Q (.panic c) a w):∀ (fuel:Nat) (listed:Array Bool) (a:Act) (w:World),listed.size = l.length → wpAny P .any (l.modify j (addOn i)).toArray Q fuel listed a w → wpAny P .any l.toArray Q fuel listed a w:=by
  unfold edgeB at hc
  simp only [Bool.and_eq_true,Bool.not_eq_true',Nat.blt_eq] at hc
  obtain ⟨⟨⟨⟨⟨hi,hj⟩,hij⟩,hfr⟩,hsel⟩,hc⟩:=hc
  have hne:i ≠ j:=fun e=>by rw [e,Nat.beq_refl] at hij;cases hij
  have hoi:l.toArray[i]? = some l[i]:=by simp [hi]
  have hoj:l.toArray[j]? = some l[j]:=by simp [hj]
  rw [List.getElem?_eq_getElem hi,List.getElem?_eq_getElem hj] at hc
  simp only [Bool.and_eq_true] at hc
  obtain ⟨hq,hdep⟩:=hc
  have hsub:∀ {listed:Array Bool},listed.getD i true = false → j ∈ Region.ready .any l.toArray listed → i ∈ Region.ready .any (l.modify j (addOn i)).toArray listed:=by
    intro listed hiu hjr
    refine ready_addOn.2 ⟨mem_ready.2 ⟨hiu,_,hoi,fun e he hb=>?_⟩,fun e=>absurd e hne⟩
    obtain ⟨_,oj,hoj',h2⟩:=mem_ready.1 hjr
    rw [hoj] at hoj'
    obtain rfl:=Option.some.inj hoj'
    have:=Array.all_eq_true'.1 hdep e he
    rw [hb] at this
    simp only [Bool.not_true,Bool.false_or] at this
    obtain ⟨e',he',h3⟩:=Array.any_eq_true'.1 this
    simp only [Bool.and_eq_true,Nat.beq_eq] at h3
    have:=h2 e' he' h3.1
    rw [h3.2] at this
    exact this
  intro fuel
  induction fuel with
  | zero =>
    intro listed a w hs h
    refine ⟨?_,h.2⟩
    cases hr:Region.ready .any l.toArray listed with
    | nil=>rfl
    | cons k ks =>
      have hk:k ∈ Region.ready .any l.toArray listed:=by rw [hr];simp
      by_cases hin:listed.getD i false = true
      · have:k ∈ Region.ready .any (l.modify j (addOn i)).toArray listed:=ready_addOn.2 ⟨hk,fun _=>hin⟩
        rw [h.1] at this;cases this
      · by_cases hkj:k = j
        · subst hkj
          have:i ∈ Region.ready .any (l.modify k (addOn i)).toArray listed:=hsub (by
            rw [Array.getD_eq_getD_getElem?] at hin ⊢
            rw [Array.getElem?_eq_getElem (by omega)] at hin ⊢
            simpa using hin) hk
          rw [h.1] at this;cases this
        · have:k ∈ Region.ready .any (l.modify j (addOn i)).toArray listed:=ready_addOn.2 ⟨hk,fun e=>absurd e hkj⟩
          rw [h.1] at this;cases this
  | succ fuel ih =>
    intro listed a w hs h
    by_cases hin:listed.getD i false = true
    · exact any_addOn1 _ _ _ _ hin h
    · have hiu:listed.getD i true = false:=by
        rw [Array.getD_eq_getD_getElem?] at hin ⊢
        rw [Array.getElem?_eq_getElem (by omega)] at hin ⊢
        simpa using hin
      by_cases hjr:j ∈ Region.ready .any l.toArray listed
      · have hir:=hsub hiu hjr
        have h1:=h.2 i hir
        rw [wpOp_addOn] at h1
        obtain ⟨v,hy,h2⟩:=quiet_run hq hoi h1
        refine wpAny_first hoi (Region.noSelect_spec hsel) (fun c a w=>hQ c _ v a w) fuel listed a w (fun k ok hk hki hun hno=>?_) (ready_addOn.1 hir).1 hy (any_addOn1 _ _ _ _ ?_ h2)
        · refine Region.free_spec hoi hfr k ok hk hki ?_ hno
          have hkl:k < l.length:=by
            rcases Nat.lt_or_ge k l.length with h | h
            · exact h
            · rw [Array.getElem?_eq_none (by simpa using h)] at hk;cases hk
          have hd:(depL l i)[k]? = some false:=by
            unfold depL
            rw [List.getElem?_eq_getElem hi]
            simp only [List.getElem?_toArray,List.getElem?_map,List.getElem?_range hkl,Option.map_some,Option.some.injEq]
            cases hany:l[i].after.any (fun e=>Region.binds .any e && Nat.beq e.on k) with
            | false=>rfl
            | true =>
              obtain ⟨e,he,hb⟩:=Array.any_eq_true'.1 hany
              simp only [Bool.and_eq_true,Nat.beq_eq] at hb
              obtain ⟨_,o',ho',h3⟩:=mem_ready.1 (ready_addOn.1 hir).1
              rw [hoi] at ho'
              obtain rfl:=Option.some.inj ho'
              have h4:=h3 e he hb.1
              rw [hb.2] at h4
              rw [Array.getD_eq_getD_getElem?] at h4 hun
              rw [Array.getElem?_eq_getElem (by omega)] at h4 hun
              rw [Option.getD_some] at h4 hun
              rw [h4] at hun;cases hun
          rw [Array.getD_eq_getD_getElem?,hd];rfl
        · simp [Array.getD_eq_getD_getElem?,hs,hi]
      · refine ⟨fun hr=>h.1 ?_,fun k hk=>?_⟩
        · cases hr':Region.ready .any (l.modify j (addOn i)).toArray listed with
          | nil=>rfl
          | cons k ks =>
            have:=(ready_addOn.1 (show k ∈ Region.ready .any (l.modify j (addOn i)).toArray listed by rw [hr'];simp)).1
            rw [hr] at this;cases this
        · have hkj:k ≠ j:=fun e=>hjr (e ▸ hk)
          have:=h.2 k (ready_addOn.2 ⟨hk,fun e=>absurd e hkj⟩)
          rw [wpOp_addOn] at this
          exact wpOp_mono (fun a' w' h'=>ih _ a' w' (by simp [hs]) h') this
/-- A region in which operation j waits for operation i besides. -/
theorem wany_edge (i j:Nat) (hc:edgeB l i j = true) (hQ:PanicOk Q) (h:WAny P (l.modify j (addOn i)) Q a w):WAny P l Q a w:=by
  unfold WAny at h ⊢
  have:=any_addOn hc (fun c d v a w h=>hQ.put c d v a w h) _ _ _ _ (by simp) h
  simpa using this
end
end Go.Proofs.Ytaekmgpcdgmlgaa
