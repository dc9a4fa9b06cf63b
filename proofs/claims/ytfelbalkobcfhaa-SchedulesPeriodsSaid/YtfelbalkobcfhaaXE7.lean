/- The rules of the walk over plain data, more: regions that draw their order. Plain theorems, no condition. -/
import Derived.Test.YtfelbalkobcfhaaXE6
import Derived.Test.YtfelbalkobcfhaaRegionR
set_option linter.unusedVariables false
set_option linter.unusedSimpArgs false
namespace Go.Proofs.Ytfelbalkobcfhaa
open Go.RowKit
def a_y (g:GT) (K:Nat → Prop) (x:PT g):Value → World → Prop:=fun v w=>RepV g w K v x
def isI (k:IntKind) (x:Int):Value → World → Prop:=fun v _=>v = .int k x ∧ InR k x
def d_O (g:GT) (K:Nat → Prop) (x:PT g):Value → World → Prop:=fun v w=>∃ p:Addr,v = .pointer (some p) ∧ RepAt g w K p x ∧ p.block < w.heap.size ∧ K p.block
structure Lv (K:Nat → Prop) (w w':World):Prop where
  os:w'.os = w.os
  tape:w'.tape = w.tape
  output:w'.output = w.output
  size:w.heap.size ≤ w'.heap.size
  keep:Keeps K w w'
structure Rel (K:Nat → Prop) (R:World → World → Prop):Prop where
  refl:∀ w,R w w
  trans:∀ a b c,R a b → R b c → R a c
  drawn:∀ w,R w { w with drawn:=w.drawn + 1 }
  lv:∀ a b,R a b → Lv K a b
  below:∀ a b,Below a.heap.size a b → R a b
def Bl (w w':World):Prop:=Below w.heap.size w w'
theorem Bl.rel (K:Nat → Prop):Rel K Bl:=⟨fun w=>Below.refl _ _,fun a b c h k=>c_p h k,fun w=>⟨rfl,rfl,rfl,Nat.le_refl _,fun _ _=>rfl⟩,fun a b h=>⟨h.os,h.tape,h.output,h.size,Keeps.below h⟩,fun a b h=>h⟩
structure Sto (t:GT) (T:TypeId) (K:Nat → Prop) (g:Nat) (xn:PT t) (w w':World):Prop where
  os:w'.os = w.os
  tape:w'.tape = w.tape
  output:w'.output = w.output
  size:w.heap.size ≤ w'.heap.size
  block:∀ k,k < w.heap.size → k ≠ g → w'.heap[k]? = w.heap[k]?
  some_:(∃ x,Bx t T w K g x) → ∃ x,Bx t T w' K g x
  new:Bx t T w K g xn → Bx t T w' K g xn
theorem Sto.rel {t:GT} {T:TypeId} {K:Nat → Prop} {g:Nat} {xn:PT t} (hg:¬ K g):Rel K (Sto t T K g xn) :=
  ⟨fun w=>⟨rfl,rfl,rfl,Nat.le_refl _,fun _ _ _=>rfl,id,id⟩,
   fun a b c h k=>⟨k.os.trans h.os,k.tape.trans h.tape,k.output.trans h.output,Nat.le_trans h.size k.size,fun i hi hne=>(k.block i (Nat.lt_of_lt_of_le hi h.size) hne).trans (h.block i hi hne),fun e=>k.some_ (h.some_ e),fun e=>k.new (h.new e)⟩,
   fun w=>⟨rfl,rfl,rfl,Nat.le_refl _,fun _ _ _=>rfl,fun ⟨x,h⟩=>⟨x,h.step ⟨rfl,rfl,rfl,Nat.le_refl _,fun _ _=>rfl⟩⟩,fun h=>h.step ⟨rfl,rfl,rfl,Nat.le_refl _,fun _ _=>rfl⟩⟩,
   fun a b h=>⟨h.os,h.tape,h.output,h.size,h.size,fun p hp hk=>World.cell?_of_block (h.block p.block hp fun e=>hg (e ▸ hk))⟩,
   fun a b h=>⟨h.os,h.tape,h.output,h.size,fun k hk _=>h.block k hk,fun ⟨x,e⟩=>⟨x,e.step h⟩,fun e=>e.step h⟩⟩
def d_P (R:World → World → Prop) (f:Value → World → Prop):Prop:=∀ v w w',R w w' → f v w → f v w'
section
variable {R:World → World → Prop} {K:Nat → Prop}
theorem a_i (x:Value):d_P R (eqv x):=fun _ _ _ _ h=>h
theorem a_m {k:IntKind} {x:Int}:d_P R (isI k x):=fun _ _ _ _ h=>h
theorem a_C {g:GT} {x:PT g} (hR:Rel K R):d_P R (a_y g K x):=fun _ _ _ hb h=>RepV.keep h (hR.lv _ _ hb).keep fun _ _ h=>h
theorem c_u {g:GT} {x:PT g} (hR:Rel K R):d_P R (d_O g K x):=fun _ _ _ hb ⟨p,e,h,hp,hk⟩ =>
  ⟨p,e,h.keep (hR.lv _ _ hb).keep (fun _ _ h=>h) (fun i _=>(hR.lv _ _ hb).keep.2 ⟨p.block,p.off + i,.none⟩ hp hk),by have:=(hR.lv _ _ hb).size;omega,hk⟩
end
def nthF:List (Value → World → Prop) → Nat → Value → World → Prop
  | [],_=>fun _ _=>True
  | f :: _,0=>f
  | _ :: fs,i + 1=>nthF fs i
theorem b_x:∀ (Fs:List (Value → World → Prop)) (i:Nat),Fs.getD i (fun _ _=>True) = nthF Fs i
  | [],_=>rfl
  | f :: _,0=>rfl
  | _ :: fs,i + 1=>by rw [List.getD_cons_succ];exact b_x fs i
def StabL (R:World → World → Prop):List (Value → World → Prop) → Prop
  | []=>True
  | f :: fs=>d_P R f ∧ StabL R fs
theorem StabL.all {R:World → World → Prop}:∀ {Fs:List (Value → World → Prop)},StabL R Fs → ∀ f ∈ Fs,d_P R f
  | f :: fs,h,g,hg=>by
    rcases List.mem_cons.1 hg with rfl | hg
    · exact h.1
    · exact StabL.all h.2 g hg
def FillE (W:World):List ((Value → World → Prop) × Nat) → Act → (Act → Prop) → Prop
  | [],A,R=>R A
  | (f,d) :: ds,A,R=>∀ v,f v W → FillE W ds (A.put (some d) v) R
theorem FillE.deps {Fs:List (Value → World → Prop)} {W:World} {R:Act → Prop}:∀ (ds:List (Nat × Nat)) (A:Act),FillE W (ds.map fun p=>(nthF Fs p.1,p.2)) A R → FillDeps Fs W ds A R
  | [],_,h=>h
  | (i,d) :: ds,A,h=>fun v hv=>FillE.deps ds _ (h v (by rw [← b_x];exact hv))
section
variable {R:World → World → Prop}
def RunAll (R:World → World → Prop) (P:Program) (ops:Array Oper) (a0:Act) (w0:World) (Q:Exit → Act → World → Prop) (Fs:List (Value → World → Prop)):Nat → List Oper → List (List (Nat × Nat)) → Prop
  | _,[],_=>True
  | i,o :: os,ds :: D=>(∀ W,R w0 W → FillE W (ds.map fun p=>(nthF Fs p.1,p.2)) a0 fun A=>wpList P ops (b_K R o.dst (nthF Fs i) a0.defers W Q) [o] A W) ∧ RunAll R P ops a0 w0 Q Fs (i + 1) os D
  | _,_ :: _,[]=>False
theorem RunAll.cons {P:Program} {ops:Array Oper} {a0:Act} {w0:World} {Q:Exit → Act → World → Prop} {Fs:List (Value → World → Prop)} {i:Nat} {o:Oper} {os:List Oper} {ds:List (Nat × Nat)} {D:List (List (Nat × Nat))} (f:Value → World → Prop) (es:List ((Value → World → Prop) × Nat))
    (hf:nthF Fs i = f) (he:(ds.map fun p=>(nthF Fs p.1,p.2)) = es) (h:∀ W,R w0 W → FillE W es a0 fun A=>wpList P ops (b_K R o.dst f a0.defers W Q) [o] A W) (r:RunAll R P ops a0 w0 Q Fs (i + 1) os D):RunAll R P ops a0 w0 Q Fs i (o :: os) (ds :: D):=by
  subst hf
  subst he
  exact ⟨h,r⟩
def EndE (W:World) (Q:Act → Prop):List (Value → World → Prop) → List Oper → Act → Prop
  | f :: fs,o :: os,a=>match o.dst with
    | some d=>∀ v,f v W → EndE W Q fs os (a.put (some d) v)
    | .none=>f undef W → EndE W Q fs os a
  | _,_,a=>Q a
theorem EndE.some_ {W:World} {Q:Act → Prop} {f:Value → World → Prop} {fs:List (Value → World → Prop)} {o:Oper} {os:List Oper} {a:Act} {d:Nat} (hd:o.dst = some d) (h:∀ v,f v W → EndE W Q fs os (a.put (some d) v)):EndE W Q (f :: fs) (o :: os) a:=by
  unfold EndE
  rw [hd]
  exact h
theorem EndE.none_ {W:World} {Q:Act → Prop} {f:Value → World → Prop} {fs:List (Value → World → Prop)} {o:Oper} {os:List Oper} {a:Act} (hd:o.dst = .none) (h:f undef W → EndE W Q fs os a):EndE W Q (f :: fs) (o :: os) a:=by
  unfold EndE
  rw [hd]
  exact h
theorem EndE.ok {W:World} {Q:Act → Prop} (fs:List (Value → World → Prop)):∀ (F:Nat → Value → World → Prop) (k:Nat) (os:List Oper) (a:Act),fs.length = os.length → (∀ j,F (k + j) = nthF fs j) → EndE W Q fs os a → b_u F W Q k os a:=by
  induction fs with
  | nil =>
    intro F k os a hl _ h
    obtain rfl:os = []:=List.eq_nil_of_length_eq_zero (by simpa using hl.symm)
    exact h
  | cons f fs ih =>
    intro F k os a hl hF h
    cases os with
    | nil=>simp at hl
    | cons o os =>
      have hl':fs.length = os.length:=by simpa using hl
      have hF':∀ j,F (k + 1 + j) = nthF fs j:=fun j=>by have:=hF (j + 1);rw [← Nat.add_assoc,Nat.add_right_comm] at this;exact this
      have h0:F k = f:=hF 0
      unfold b_u
      unfold EndE at h
      cases hd:o.dst with
      | none=>rw [hd] at h;intro hf;rw [h0] at hf;exact ih F (k + 1) os a hl' hF' (h hf)
      | some d =>
        rw [hd] at h
        intro v hv
        rw [h0] at hv
        exact ih F (k + 1) os _ hl' hF' (h v hv)
theorem RunAll.steps {P:Program} {ops:Array Oper} {a0:Act} {w0:World} {Q:Exit → Act → World → Prop} {Fs:List (Value → World → Prop)} (hB:a_v ops a0.tmps.size = true) (hsel:Region.noSelect ops = true):∀ (l:List Oper) (k:Nat) (D:List (List (Nat × Nat))),
    (∀ j,l[j]? = ops[k + j]?) → b_f ops l D = true → RunAll R P ops a0 w0 Q Fs k l D → StepsOkR R P ops (fun i=>Fs.getD i (fun _ _=>True)) a0 w0 Q k l
  | [],_,_,_,_,_=>trivial
  | o :: l,k,[],_,_,h=>h.elim
  | o :: l,k,ds :: D,hl,hD,h=>by
    have h0:ops[k]? = some o:=by simpa using (hl 0).symm
    simp only [b_f,Bool.and_eq_true] at hD
    refine ⟨d_n (F:=Fs) (f:=nthF Fs k) hB hsel h0 hD.1 (fun p _=>rfl) (b_x Fs k) fun W hW=>FillE.deps ds a0 (h.1 W hW),?_⟩
    exact RunAll.steps hB hsel l (k + 1) D (fun j=>by have:=hl (j + 1);simpa [Nat.add_assoc,Nat.add_comm 1 j] using this) hD.2 h.2
theorem d_Q {K:Nat → Prop} {P:Program} {l:List Oper} {a0:Act} {w0:World} {Q:Exit → Act → World → Prop} (hR:Rel K R) (Fs:List (Value → World → Prop)) (D:List (List (Nat × Nat))) (hm:P.follows .mixedOrders = true) (hB:a_v l.toArray a0.tmps.size = true) (hsel:Region.noSelect l.toArray = true)
    (hD:b_f l.toArray l D = true) (hlen:Fs.length = l.length) (hst:StabL R Fs) (h:RunAll R P l.toArray a0 w0 Q Fs 0 l D) (hend:∀ W,R w0 W → EndE W (fun a=>Q .normal a W) Fs l a0):e_O P l Q a0 w0 :=
  c_V Fs hR.refl hR.trans hR.drawn hm hB (fun f hf=>hst.all f hf) (RunAll.steps hB hsel l 0 D (fun j=>by simp) hD h) fun W hW=>EndE.ok Fs _ 0 l a0 hlen (fun j=>by rw [Nat.zero_add];exact b_x Fs j) (hend W hW)
theorem a_K {K:Nat → Prop} {P:Program} {id:Nat} {l:List Oper} {a0:Act} {w0:World} {Q:Exit → Act → World → Prop} (hR:Rel K R) (Fs:List (Value → World → Prop)) (D:List (List (Nat × Nat))) (hm:P.follows .mixedOrders = true) (hB:a_v l.toArray a0.tmps.size = true) (hsel:Region.noSelect l.toArray = true)
    (hD:b_f l.toArray l D = true) (hlen:Fs.length = l.length) (hst:StabL R Fs) (h:RunAll R P l.toArray a0 w0 Q Fs 0 l D) (hend:∀ W,R w0 W → EndE W (fun a=>Q .normal a W) Fs l a0):(Code.region id l.toArray true).wp P Q a0 w0:=wp_region_any hm (d_Q hR Fs D hm hB hsel hD hlen hst h hend)
theorem a_V {ds:List Deferred} {N:Nat} {l:List (Nat × Value)} {W:World} {Q:Act → Prop} {a:Act} (S:StD ds N a l) (h:∀ a',StD ds N a' l → Q a'):EndE W Q [] [] a:=h a S
theorem RPost.mk_ {ds:List Deferred} {N d:Nat} {A a0:Act} {l:List (Nat × Value)} {v:Value} {f:Value → World → Prop} {w w':World} {Q:Exit → Act → World → Prop} (S:StD ds N A l) (hd:lk l d = some v) (h0:a0.defers = ds) (hf:f v w') (hb:R w w') :
    b_K R (some d) f a0.defers w Q .normal A w':=by
  refine ⟨S.defers.trans h0.symm,?_,hb⟩
  have:a_8 (some d) A = v:=by simp [a_8,S.at_ d v hd]
  rw [this]
  exact hf
end
section
variable {w0 w w':World} {L:List (Option Nat)} {K:Nat → Prop} {n b:Nat} {t:GT}
theorem RepV.lv {v:Value} {x:PT t} (h:RepV t w K v x) (hb:Lv K w w'):RepV t w' K v x:=h.keep hb.keep fun _ _ h=>h
theorem Sto.wd {T:TypeId} {g:Nat} {xn:PT t} {K':Nat → Prop} (h:Wd w0 w L) (hs:Sto t T K' g xn w w') (hg:some g ∈ L):Wd w0 w' L :=
  ⟨h.below.trans ⟨hs.os,hs.tape,hs.output,hs.size,fun k hk=>hs.block k (by have:=h.below.size;omega) (by have:=(h.own g hg).1;omega)⟩,fun c hm=>⟨(h.own c hm).1,by have:=(h.own c hm).2;have:=hs.size;omega⟩,h.dis⟩
theorem Sto.bx {T T2:TypeId} {g:Nat} {xn:PT t} {t2:GT} {x:PT t2} (h:Bx t2 T2 w K b x) (hs:Sto t T K g xn w w') (hK:¬ K g) (hne:b ≠ g):Bx t2 T2 w' K b x:=by
  have hl:=h.lt
  obtain ⟨cs,h1,h2⟩:=h
  exact ⟨cs,(hs.block b hl hne).trans h1,h2.keep ((Sto.rel (t:=t) (T:=T) (xn:=xn) hK).lv _ _ hs).keep fun _ _ h=>h⟩
theorem Kx.not {g:Nat} (hg:some g ∈ L):¬ Kx K n L g:=fun h=>h.2 hg
end
end Go.Proofs.Ytfelbalkobcfhaa
