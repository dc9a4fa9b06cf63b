/- The rules of the walk over plain data. Plain theorems, no condition. -/
import Derived.Test.YtlbaijkolglheaaLB2
import Derived.Maps.RangeRun
import Derived.OrdersHeld
import Derived.LoopN
set_option linter.unusedVariables false
set_option linter.unusedSimpArgs false
namespace Go.Proofs.Ytlbaijkolglheaa
open Go.RowKit Go.ChangeShapes
section
variable {dd:List Deferred} {N:Nat} {a:Act} {l:List (Nat × Value)} {w w0:World} {P:Program} {ops:Array Oper} {Q:Exit → Act → World → Prop} {rest:List Oper} {o:Oper} {Kont:Act → World → Prop} {d:Nat} {K:Nat → Prop}
theorem d_m (S:St N a l) {fn:Func} {R:Ending → World → Prop} (hr:fn.results = #[]) (hR:∀ v,R (.returned v) w):bodyPost P fn R .normal a w:=c_4 (P:=P) S hr hR
end
end Go.Proofs.Ytlbaijkolglheaa
namespace Go.Proofs.Ytlbaijkolglheaa
open Go.RowKit
def Oq (φ:Obj → Prop) (w:World) (b:Nat):Prop:=∃ o,φ o ∧ Ox o w b
section
variable {w0 w w' A B:World} {L L' LO P Q:List (Option Nat)} {K:Nat → Prop} {n b d i:Nat} {φ:Obj → Prop} {v v':Value} {o:Option Nat}
theorem Oq.lt (h:Oq φ w b):b < w.heap.size:=by obtain ⟨o,_,h⟩:=h;exact h.lt
theorem Oq.step (h:Oq φ w b) (hb:Below w.heap.size w w'):Oq φ w' b:=by obtain ⟨o,hs,h⟩:=h;exact ⟨o,hs,h.step hb⟩
theorem Oq.box (h:Oq φ w b) (hb:NewB w w' i):Oq φ w' b:=h.step hb.below
theorem Oq.newO (h:Oq φ w b) (hN:NewO w w' o):Oq φ w' b:=h.step hN.below
theorem Oq.newW (h:Oq φ w b) (hN:Wd w w' P):Oq φ w' b:=h.step hN.below
theorem Oq.wrote (h:Oq φ w b) (hw:Wrote i w w') (hm:True) (hne:b ≠ i):Oq φ w' b:=by obtain ⟨o,hs,h⟩:=h;exact ⟨o,hs,h.wrote hw hm hne⟩
theorem Oq.apd (h:Oq φ w b) (W:Wd w0 w L) (ha:Apd w w' v v') (hi:L[i]? = some v.ownBlock) {j:Nat} (hj:L[j]? = some (some b)) (hji:j ≠ i):Oq φ w' b:=by obtain ⟨o,hs,h⟩:=h;exact ⟨o,hs,h.apd W ha hi hj hji⟩
theorem Oq.more (h:Oq φ w b):Oq φ w b:=h
theorem Oq.lessAt (h:Oq φ w b) (i:Nat):Oq φ w b:=h
theorem Oq.drop (h:Oq φ w b) (i:Nat):Oq φ w b:=h
theorem Oq.nc (h:Oq φ A b) (hn:Nc d A B) (hb:b ≠ d):Oq φ B b:=by obtain ⟨o,hs,h⟩:=h;exact ⟨o,hs,h.nc hn hb⟩
theorem Oq.mk_ {m:Nat} (h:Oq φ w b) (hm:Mk m L w w') (hb:some b ∈ L):Oq φ w' b:=by obtain ⟨o,hs,h⟩:=h;exact ⟨o,hs,h.mk_ hm hb⟩
theorem Oq.gr {I:List Nat} {g g':GW} (h:Oq φ g.2 b) (hg:Gr w0 I L g g'):Oq φ g'.2 b:=by obtain ⟨o,hs,h⟩:=h;exact ⟨o,hs,h.gr hg⟩
theorem Oq.gs {I:List Nat} {s c:Nat} {F:GW → Prop} {g g':GW} (h:Oq φ g.2 c) (hg:Gs w0 I L s b F g g') (hne:c ≠ b):Oq φ g'.2 c:=by obtain ⟨o,hs,h⟩:=h;exact ⟨o,hs,h.gs hg hne⟩
theorem Oq.sto {t:GT} {T:TypeId} {g:Nat} {xn:PT t} {K':Nat → Prop} (h:Oq φ w b) (hs:Sto t T K' g xn w w') (hne:b ≠ g):Oq φ w' b:=by obtain ⟨o,hq,h⟩:=h;exact ⟨o,hq,h.sto hs hne⟩
theorem Oq.yst (Bs:List (Option Nat)) (h:Oq φ A b) (hy:Yst n A LO B L') (W:Wd w0 A (Bs ++ LO)) (hb:some b ∈ Bs):Oq φ B b:=by obtain ⟨o,hs,h⟩:=h;exact ⟨o,hs,h.yst Bs hy W hb⟩
theorem Oq.yfr (LO:List (Option Nat)) (h:Oq φ A b) (hy:Yst n A P B Q) (W:Wd w0 A (P ++ LO)) (hb:some b ∈ LO):Oq φ B b:=by obtain ⟨o,hs,h⟩:=h;exact ⟨o,hs,h.yfr LO hy W hb⟩
end
def MapObj (kd:IntKind) (xs:List Int) (o:Obj):Prop:=∃ es:Array MapEntry,o = .map es xs.length ∧ es.toList.map (fun e=>(e.key,e.val)) = xs.map (fun x=>(Value.int kd x,Value.bool true)) ∧ es.toList.map (·.born) = List.range xs.length ∧ ∀ x ∈ xs,InR kd x
structure MapTy (P:Program) (Tm Tk Tv:TypeId) (kd:IntKind):Prop where
  mp:P.underlying Tm = some (.map Tk Tv)
  key:P.underlying Tk = some (.int kd)
def mapTyB (P:Program) (Tm Tk Tv:TypeId) (kd:IntKind):Bool:=isMp (P.underlying Tm) Tk Tv && isIn (P.underlying Tk) kd
theorem MapTy.of {P:Program} {Tm Tk Tv:TypeId} {kd:IntKind} (h:mapTyB P Tm Tk Tv kd = true):MapTy P Tm Tk Tv kd:=by
  simp only [mapTyB,Bool.and_eq_true] at h
  obtain ⟨h4,h5⟩:=h
  refine ⟨?_,?_⟩
  · unfold isMp at h4
    split at h4
    · rename_i k v hu
      simp only [Bool.and_eq_true,Nat.beq_eq] at h4
      rw [hu,h4.1,h4.2]
    · cases h4
  · unfold isIn at h5
    split at h5
    · rename_i k hu
      rw [hu,of_decide_eq_true h5]
    · cases h5
theorem MapObj.at {kd:IntKind} {xs:List Int} {es:Array MapEntry} (h1:es.toList.map (fun e=>(e.key,e.val)) = xs.map (fun x=>(Value.int kd x,Value.bool true))) (h2:es.toList.map (·.born) = List.range xs.length)
    {e:MapEntry} (he:e ∈ es.toList):∃ x,xs[e.born]? = some x ∧ e.key = .int kd x ∧ e.val = .bool true ∧ e.born < xs.length:=by
  obtain ⟨j,hj,hje⟩:=List.mem_iff_getElem.1 he
  have hl:es.toList.length = xs.length:=by have:=congrArg List.length h1;simpa using this
  have hb:e.born = j:=by
    have:=congrArg (fun l=>l[j]?) h2
    simp only [List.getElem?_map,List.getElem?_eq_getElem hj,Option.map_some,hje] at this
    rw [List.getElem?_range (by omega)] at this
    exact Option.some.inj this
  have hx:j < xs.length:=by omega
  have:=congrArg (fun l=>l[j]?) h1
  simp only [List.getElem?_map,List.getElem?_eq_getElem hj,Option.map_some,hje,List.getElem?_eq_getElem hx] at this
  have q:=Option.some.inj this
  refine ⟨xs[j],by rw [hb,List.getElem?_eq_getElem hx],?_,?_,by omega⟩
  · exact (Prod.mk.inj q).1
  · exact (Prod.mk.inj q).2
section
variable {ds:List Deferred} {N:Nat} {a:Act} {l:List (Nat × Value)} {w w0:World} {P:Program} {ops:Array Oper} {Q:Exit → Act → World → Prop} {rest:List Oper} {o:Oper} {Kont:Act → World → Prop} {d:Nat} {Tm Tk Tv:TypeId} {kd:IntKind}
end
section
variable {ds:List Deferred} {N:Nat} {a:Act} {l:List (Nat × Value)} {w w0:World} {P:Program} {ops:Array Oper} {Q:Exit → Act → World → Prop} {rest:List Oper} {o:Oper} {Kont:Act → World → Prop} {d:Nat} {K:Nat → Prop} {L:List (Option Nat)}
theorem RepAt.sl {m:Nat} {e:GT} {p:Addr} {xs:List (PT e)} (R:RepAt (.arr m e) w K p xs) (hb:p.block < w.heap.size) (hK:K p.block) (hm:m ≤ 9223372036854775807):RepV (.sl e) w K (.slice (some p) m m) (⟨xs,some m⟩:Sl (PT e)):=by
  obtain ⟨h0,cs,⟨hx,css,rfl,hl,hr⟩,hc⟩:=R
  obtain ⟨b,off,sp⟩:=p
  have h0:sp = .none:=h0
  subst h0
  have key:∀ (css:List (List Value)) (ys:List (PT e)),css.length = ys.length → (∀ (j:Nat) c y,css[j]? = some c → ys[j]? = some y → RepCs e w K c y) → ∀ (j:Nat) (c:List Value),css[j]? = some c → ∀ (i:Nat) (v:Value),c[i]? = some v → css.flatten[j * e.sz + i]? = some v:=by
    intro css
    induction css with
    | nil=>intro ys _ _ j c hj;simp at hj
    | cons c0 css ih =>
      intro ys hly hh j c hj i v hi
      match ys,hly with
      | y0 :: ys,hly =>
        have hlen:c0.length = e.sz:=RepCs.len (hh 0 c0 y0 rfl rfl)
        have hi':i < c.length:=by rcases Nat.lt_or_ge i c.length with h | h;exact h;rw [List.getElem?_eq_none h] at hi;cases hi
        cases j with
        | zero =>
          obtain rfl:c0 = c:=by simpa using hj
          rw [List.flatten_cons,Nat.zero_mul,Nat.zero_add,List.getElem?_append_left hi',hi]
        | succ j =>
          have hj':css[j]? = some c:=by simpa using hj
          have:=ih ys (by simpa using hly) (fun j c y h1 h2=>hh (j + 1) c y (by simpa using h1) (by simpa using h2)) j c hj' i v hi
          rw [List.flatten_cons,List.getElem?_append_right (by rw [hlen,Nat.add_mul];omega),hlen,← this]
          congr 1
          rw [Nat.add_mul];omega
  refine ⟨[_],⟨_,_,_,rfl,hx,Nat.le_refl _,hm,fun k hk=>by simpa using hk,?_⟩,rfl⟩
  refine .inr ⟨b,off,rfl,hb,hK,fun j x hj=>?_⟩
  have hjl:j < css.length:=by
    rcases Nat.lt_or_ge j xs.length with h | h
    · omega
    · rw [List.getElem?_eq_none h] at hj;cases hj
  have hcj:=List.getElem?_eq_getElem hjl
  have hR:=hr j _ x hcj hj
  refine ⟨css[j],hR,hR.len,fun i v hv=>?_⟩
  have:=hc (j * e.sz + i) v (key css xs (by omega) hr j _ hcj i v hv)
  rw [← this]
  congr 1
  show (⟨b,off + j * e.sz + i,.none⟩:Addr) = ⟨b,off + (j * e.sz + i),.none⟩
  rw [Nat.add_assoc]
theorem Pr.kk {t:GT} {p:Addr} {x:PT t} (h:Pr t w0 K p x) (W:Wd w0 w L):Kx K w0.heap.size L p.block:=⟨.inl h.2.2,fun hm=>by have:=(W.own _ hm).1;have:=h.2.1;omega⟩
theorem Pr.lt' {t:GT} {p:Addr} {x:PT t} (h:Pr t w0 K p x) (W:Wd w0 w L):p.block < w.heap.size:=by have:=W.below.size;have:=h.2.1;omega
theorem Pr.br' {t:GT} {p:Addr} {x:PT t} (h:Pr t w K p x):Br t w K p x:=⟨h.1,h.2.1⟩
end
namespace R
section
variable {r:Option Nat} {P:Program} {Q:Exit → Act → World → Prop} {a:Act} {w:World}
end
end R
end Go.Proofs.Ytlbaijkolglheaa
namespace Go.Proofs.Ytlbaijkolglheaa
open Go.RowKit Go.ChangeShapes
section
variable {P:Program}
end
section
variable {ds:List Deferred} {N:Nat} {a:Act} {l:List (Nat × Value)} {w w0:World} {P:Program} {ops:Array Oper} {Q:Exit → Act → World → Prop} {rest:List Oper} {o:Oper} {Kont:Act → World → Prop} {d:Nat} {K:Nat → Prop} {L:List (Option Nat)}
end
def Sp (t:GT) (T:TypeId) (w:World) (K:Nat → Prop) (v:Value) (x:PT t):Prop:=∃ b,v = pB b ∧ Bx t T w K b x
section
variable {w0 w w':World} {L P:List (Option Nat)} {K:Nat → Prop} {n b:Nat} {t:GT} {v:Value} {T:TypeId} {x:PT t}
theorem Sp.backW (h:Sp t T w' (Kx (Kx K w0.heap.size L) w.heap.size P) v x) (hW:Wd w0 w L):Sp t T w' (Kx K w0.heap.size (P ++ L)) v x:=by
  obtain ⟨b,rfl,h⟩:=h
  exact ⟨b,rfl,h.backW hW⟩
theorem Sp.bx (h:Bx t T w K b x):Sp t T w K (pB b) x:=⟨b,rfl,h⟩
theorem Sp.fr (P LO:List (Option Nat)) (h:Sp t T w (Kx K n (P ++ LO)) v x):Sp t T w (Kx K n P) v x:=by
  obtain ⟨b,rfl,h⟩:=h
  rcases Opt1.fr P LO (Opt1.bx h) with ⟨h,_⟩ | ⟨b',y,h1,h2,h3⟩
  · cases h
  · obtain rfl:=Option.some.inj h2
    exact ⟨b',h1,h3⟩
theorem Pr.again {p:Addr} (h:Pr t w0 K p x) (W:Wd w0 w L):Pr t w (Kx K w0.heap.size L) p x:=⟨Br.now h.br' W,h.lt' W,h.kk W⟩
end
def b_P (i:Nat) (o:Oper):Oper:={ o with after:=o.after.push ⟨i,.data⟩ }
def d_D:Op → Bool
  | .extract _ _=>true
  | .move _=>true
  | .assign _=>true
  | _=>false
def depL (l:List Oper) (i:Nat):Array Bool:=((List.range l.length).map fun k=>match l[i]? with
  | some o=>o.after.any fun e=>Region.binds .any e && Nat.beq e.on k
  | none=>false).toArray
def edgeB (l:List Oper) (i j:Nat):Bool :=
  Nat.blt i l.length && Nat.blt j l.length && (!Nat.beq i j) && Region.free .any l.toArray (depL l i) i && Region.noSelect l.toArray &&
  match l[i]?,l[j]? with
  | some oi,some oj=>d_D oi.op && oi.after.all fun e=>!Region.binds .any e || oj.after.any fun e'=>Region.binds .any e' && Nat.beq e'.on e.on
  | _,_=>false
section
variable {P:Program} {Q:Exit → Act → World → Prop} {l:List Oper} {i j k:Nat} {a:Act} {w:World} {K:Act → World → Prop} {listed:Array Bool}
theorem c_7:(l.modify j (b_P i)).toArray[k]? = (l.toArray[k]?).map fun o=>if j = k then b_P i o else o:=by
  simp only [List.getElem?_toArray,List.getElem?_modify]
  by_cases h:j = k <;> simp [h]
theorem d_E (tmps:Array Value):yielded (l.modify j (b_P i)).toArray tmps = yielded l.toArray tmps:=by
  funext k
  unfold yielded
  rw [c_7]
  cases l.toArray[k]? with
  | none=>rfl
  | some o=>by_cases h:j = k <;> simp [h,b_P]
theorem c_D:wpOp P (l.modify j (b_P i)).toArray Q k K a w = wpOp P l.toArray Q k K a w:=by
  unfold wpOp
  rw [c_7,d_E]
  cases l.toArray[k]? with
  | none=>rfl
  | some o=>by_cases h:j = k <;> simp only [h,if_true,if_false,Option.map_some] <;> rfl
theorem ready_addOn:k ∈ Region.ready .any (l.modify j (b_P i)).toArray listed ↔ k ∈ Region.ready .any l.toArray listed ∧ (k = j → listed.getD i false = true):=by
  rw [mem_ready,mem_ready,c_7]
  constructor
  · rintro ⟨h1,o,ho,h2⟩
    obtain ⟨o',ho',rfl⟩:=Option.map_eq_some_iff.1 ho
    by_cases h:j = k
    · rw [if_pos h] at h2
      refine ⟨⟨h1,o',ho',fun e he hb=>h2 e (by simp [b_P,he]) hb⟩,fun _=>h2 ⟨i,.data⟩ (by simp [b_P]) rfl⟩
    · rw [if_neg h] at h2
      exact ⟨⟨h1,o',ho',h2⟩,fun e=>absurd e.symm h⟩
  · rintro ⟨⟨h1,o,ho,h2⟩,h3⟩
    refine ⟨h1,if j = k then b_P i o else o,by rw [ho];rfl,fun e he hb=>?_⟩
    by_cases h:j = k
    · rw [if_pos h] at he
      simp only [b_P,Array.mem_push] at he
      rcases he with he | rfl
      · exact h2 e he hb
      · exact h3 h.symm
    · rw [if_neg h] at he
      exact h2 e he hb
theorem getD_keep (h:listed.getD i false = true) (k:Nat):(listed.setIfInBounds k true).getD i false = true:=by
  simp only [Array.getD_eq_getD_getElem?,Array.getElem?_setIfInBounds] at h ⊢
  by_cases hk:k = i
  · subst hk
    rcases Nat.lt_or_ge k listed.size with h' | h'
    · simp [h']
    · rw [Array.getElem?_eq_none h'] at h;cases h
  · rw [if_neg hk];exact h
theorem c_E:∀ (fuel:Nat) (listed:Array Bool) (a:Act) (w:World),listed.getD i false = true → wpAny P .any (l.modify j (b_P i)).toArray Q fuel listed a w → wpAny P .any l.toArray Q fuel listed a w
  | 0,listed,a,w,hi,h=>by
    refine ⟨?_,h.2⟩
    cases hr:Region.ready .any l.toArray listed with
    | nil=>rfl
    | cons k ks =>
      have:k ∈ Region.ready .any (l.modify j (b_P i)).toArray listed:=ready_addOn.2 ⟨by rw [hr];simp,fun _=>hi⟩
      rw [h.1] at this;cases this
  | fuel + 1,listed,a,w,hi,h=>by
    refine ⟨fun hr=>h.1 ?_,fun k hk=>?_⟩
    · cases hr':Region.ready .any (l.modify j (b_P i)).toArray listed with
      | nil=>rfl
      | cons k ks =>
        have:=(ready_addOn.1 (show k ∈ Region.ready .any (l.modify j (b_P i)).toArray listed by rw [hr'];simp)).1
        rw [hr] at this;cases this
    · have:=h.2 k (ready_addOn.2 ⟨hk,fun _=>hi⟩)
      rw [c_D] at this
      exact wpOp_mono (fun a' w' h'=>c_E fuel _ a' w' (getD_keep hi k) h') this
theorem c_t {e:Event} (h:e ∈ (#[]:Array Event)):False:=by simp at h
theorem quiet_run {o:Oper} {ops:Array Oper} (hq:d_D o.op = true) (hi:ops[i]? = some o) (h:wpOp P ops Q i K a w):∃ v,Yields P ops o v a ∧ K (a.put o.dst v) w:=by
  unfold wpOp at h
  rw [hi] at h
  simp only at h
  by_cases hw:Region.wanted o (yielded ops a.tmps) = true
  · rw [if_pos hw] at h
    have key:(∃ v,∀ w,(execOp a.eval o).run P w = .ok (.value v) w) ∨ ((∀ next,¬ o.upon P a next Q ((execOp a.eval o).run P w))):=by
      cases ho:o.op <;> rw [ho] at hq <;> try (simp [d_D] at hq)
      · exact .inl ⟨_,fun w=>by simp [execOp,ho];rfl⟩
      · exact .inl ⟨_,fun w=>by simp [execOp,ho];rfl⟩
      · rename_i x n
        cases hx:a.eval x with
        | tuple vs =>
          cases hv:vs[n]? with
          | some v=>exact .inl ⟨v,fun w=>by simp [execOp,ho,hx,Instr.extract,hv]⟩
          | none=>exact .inr fun next=>by simp [execOp,ho,hx,Instr.extract,hv,stuck,Oper.upon]
        | _=>exact .inr fun next=>by simp [execOp,ho,hx,Instr.extract,stuck,Oper.upon]
    have hasks:¬ o.asks P a w:=by
      intro ⟨h1,_⟩
      cases ho:o.op <;> rw [ho] at hq <;> try (simp [d_D] at hq)
      · simp [execOp,ho] at h1
        exact c_t h1
      · simp [execOp,ho] at h1
        exact c_t h1
      · rename_i x n
        cases hx:a.eval x with
        | tuple vs =>
          cases hv:vs[n]? with
          | some v=>simp [execOp,ho,hx,Instr.extract,hv] at h1;exact c_t h1
          | none=>simp [execOp,ho,hx,Instr.extract,hv,stuck] at h1;exact c_t h1
        | _=>simp [execOp,ho,hx,Instr.extract,stuck] at h1;exact c_t h1
    rcases h with h | ⟨h,_⟩
    · rcases key with ⟨v,hv⟩ | hn
      · refine ⟨v,.inl ⟨hw,hv⟩,?_⟩
        unfold Oper.wp at h
        rw [hv] at h
        exact h
      · exact absurd h (hn _)
    · exact absurd h hasks
  · rw [if_neg hw] at h
    exact ⟨undef,.inr ⟨by simpa using hw,rfl⟩,h⟩
theorem any_addOn (hc:edgeB l i j = true) (hQ:∀ c d v a w,Q (.panic c) (a.put d v) w → Q (.panic c) a w):∀ (fuel:Nat) (listed:Array Bool) (a:Act) (w:World),listed.size = l.length → wpAny P .any (l.modify j (b_P i)).toArray Q fuel listed a w → wpAny P .any l.toArray Q fuel listed a w:=by
  unfold edgeB at hc
  simp only [Bool.and_eq_true,Bool.not_eq_true',Nat.blt_eq] at hc
  obtain ⟨⟨⟨⟨⟨hi,hj⟩,hij⟩,hfr⟩,hsel⟩,hc⟩:=hc
  have hne:i ≠ j:=fun e=>by rw [e,Nat.beq_refl] at hij;cases hij
  have hoi:l.toArray[i]? = some l[i]:=by simp [hi]
  have hoj:l.toArray[j]? = some l[j]:=by simp [hj]
  rw [List.getElem?_eq_getElem hi,List.getElem?_eq_getElem hj] at hc
  simp only [Bool.and_eq_true] at hc
  obtain ⟨hq,hdep⟩:=hc
  have hsub:∀ {listed:Array Bool},listed.getD i true = false → j ∈ Region.ready .any l.toArray listed → i ∈ Region.ready .any (l.modify j (b_P i)).toArray listed:=by
    intro listed hiu hjr
    refine ready_addOn.2 ⟨mem_ready.2 ⟨hiu,_,hoi,fun e he hb=>?_⟩,fun e=>absurd e hne⟩
    obtain ⟨_,oj,hoj',h2⟩:=mem_ready.1 hjr
    rw [hoj] at hoj'
    obtain rfl:=Option.some.inj hoj'
    have:=Array.all_eq_true'.1 hdep e he
    rw [hb] at this
    simp only [Bool.not_true,Bool.false_or] at this
    obtain ⟨e',he',h3⟩:=Array.any_eq_true'.1 this
    simp only [Bool.and_eq_true,Nat.beq_eq] at h3
    have:=h2 e' he' h3.1
    rw [h3.2] at this
    exact this
  intro fuel
  induction fuel with
  | zero =>
    intro listed a w hs h
    refine ⟨?_,h.2⟩
    cases hr:Region.ready .any l.toArray listed with
    | nil=>rfl
    | cons k ks =>
      have hk:k ∈ Region.ready .any l.toArray listed:=by rw [hr];simp
      by_cases hin:listed.getD i false = true
      · have:k ∈ Region.ready .any (l.modify j (b_P i)).toArray listed:=ready_addOn.2 ⟨hk,fun _=>hin⟩
        rw [h.1] at this;cases this
      · by_cases hkj:k = j
        · subst hkj
          have:i ∈ Region.ready .any (l.modify k (b_P i)).toArray listed:=hsub (by
            rw [Array.getD_eq_getD_getElem?] at hin ⊢
            rw [Array.getElem?_eq_getElem (by omega)] at hin ⊢
            simpa using hin) hk
          rw [h.1] at this;cases this
        · have:k ∈ Region.ready .any (l.modify j (b_P i)).toArray listed:=ready_addOn.2 ⟨hk,fun e=>absurd e hkj⟩
          rw [h.1] at this;cases this
  | succ fuel ih =>
    intro listed a w hs h
    by_cases hin:listed.getD i false = true
    · exact c_E _ _ _ _ hin h
    · have hiu:listed.getD i true = false:=by
        rw [Array.getD_eq_getD_getElem?] at hin ⊢
        rw [Array.getElem?_eq_getElem (by omega)] at hin ⊢
        simpa using hin
      by_cases hjr:j ∈ Region.ready .any l.toArray listed
      · have hir:=hsub hiu hjr
        have h1:=h.2 i hir
        rw [c_D] at h1
        obtain ⟨v,hy,h2⟩:=quiet_run hq hoi h1
        refine wpAny_first hoi (Region.noSelect_spec hsel) (fun c a w=>hQ c _ v a w) fuel listed a w (fun k ok hk hki hun hno=>?_) (ready_addOn.1 hir).1 hy (c_E _ _ _ _ ?_ h2)
        · refine Region.free_spec hoi hfr k ok hk hki ?_ hno
          have hkl:k < l.length:=by
            rcases Nat.lt_or_ge k l.length with h | h
            · exact h
            · rw [Array.getElem?_eq_none (by simpa using h)] at hk;cases hk
          have hd:(depL l i)[k]? = some false:=by
            unfold depL
            rw [List.getElem?_eq_getElem hi]
            simp only [List.getElem?_toArray,List.getElem?_map,List.getElem?_range hkl,Option.map_some,Option.some.injEq]
            cases hany:l[i].after.any (fun e=>Region.binds .any e && Nat.beq e.on k) with
            | false=>rfl
            | true =>
              obtain ⟨e,he,hb⟩:=Array.any_eq_true'.1 hany
              simp only [Bool.and_eq_true,Nat.beq_eq] at hb
              obtain ⟨_,o',ho',h3⟩:=mem_ready.1 (ready_addOn.1 hir).1
              rw [hoi] at ho'
              obtain rfl:=Option.some.inj ho'
              have h4:=h3 e he hb.1
              rw [hb.2] at h4
              rw [Array.getD_eq_getD_getElem?] at h4 hun
              rw [Array.getElem?_eq_getElem (by omega)] at h4 hun
              rw [Option.getD_some] at h4 hun
              rw [h4] at hun;cases hun
          rw [Array.getD_eq_getD_getElem?,hd];rfl
        · simp [Array.getD_eq_getD_getElem?,hs,hi]
      · refine ⟨fun hr=>h.1 ?_,fun k hk=>?_⟩
        · cases hr':Region.ready .any (l.modify j (b_P i)).toArray listed with
          | nil=>rfl
          | cons k ks =>
            have:=(ready_addOn.1 (show k ∈ Region.ready .any (l.modify j (b_P i)).toArray listed by rw [hr'];simp)).1
            rw [hr] at this;cases this
        · have hkj:k ≠ j:=fun e=>hjr (e ▸ hk)
          have:=h.2 k (ready_addOn.2 ⟨hk,fun e=>absurd e hkj⟩)
          rw [c_D] at this
          exact wpOp_mono (fun a' w' h'=>ih _ a' w' (by simp [hs]) h') this
theorem c_u (i j:Nat) (hc:edgeB l i j = true) (hQ:PanicOk Q) (h:e_q P (l.modify j (b_P i)) Q a w):e_q P l Q a w:=by
  unfold e_q at h ⊢
  have:=any_addOn hc (fun c d v a w h=>hQ.put c d v a w h) _ _ _ _ (by simp) h
  simpa using this
end
end Go.Proofs.Ytlbaijkolglheaa
namespace Go.Proofs.Ytlbaijkolglheaa
open Go.RowKit
@[reducible] def Sb (w0:World):World → Prop:=fun w=>Below w0.heap.size w0 w
theorem Sb.step {w0 w w':World} (h:Sb w0 w) (hb:Below w.heap.size w w'):Sb w0 w':=Below.trans h (hb.mono h.size)
theorem Sb.apd {w0 w w':World} {v v':Value} (h:Sb w0 w) (A:Apd w w' v v') (hg:∀ c,v.ownBlock = some c → w0.heap.size ≤ c):Sb w0 w' :=
  Below.trans h ⟨A.grown.os,A.grown.tape,A.grown.output,A.grown.size,fun k hk=>A.grown.block k (Nat.lt_of_lt_of_le hk h.size) fun e=>by have:=hg k e.symm;omega⟩
theorem Sb.wrote {w0 w w':World} {b:Nat} (h:Sb w0 w) (hw:Wrote b w w') (hg:w0.heap.size ≤ b):Sb w0 w' :=
  Below.trans h ⟨hw.os,hw.tape,hw.output,Nat.le_of_eq hw.size.symm,fun k hk=>hw.block k fun e=>by omega⟩
theorem Apd.ge {n:Nat} {w w':World} {v v':Value} (A:Apd w w' v v') (hg:∀ c,v.ownBlock = some c → n ≤ c) (hn:n ≤ w.heap.size):∀ c,v'.ownBlock = some c → n ≤ c:=fun c hc=>by
  rcases A.at_ with e | e
  · exact hg c (e ▸ hc)
  · rw [e] at hc;obtain rfl:=Option.some.inj hc;exact hn
def AnH (P:Program) (l:List Oper) (Q:Exit → Act → World → Prop) (m:Nat) (S0:World → Prop) (k:Nat) (D:List Nat) (a:Act) (w:World):Prop:=wpAnyH P .any l.toArray Q S0 k (a_t m D) a w
def d_F (P:Program) (l:List Oper) (Q:Exit → Act → World → Prop) (m:Nat) (S0:World → Prop) (k:Nat) (D:List Nat) (a:Act) (w:World) (i:Nat):Prop:=wpOp P l.toArray Q i (fun a' w'=>S0 w' ∧ AnH P l Q m S0 k (i :: D) a' w') a w
def AnForksH (P:Program) (l:List Oper) (Q:Exit → Act → World → Prop) (m:Nat) (S0:World → Prop) (k:Nat) (D:List Nat) (a:Act) (w:World):List Nat → Prop
  | []=>True
  | i :: is=>d_F P l Q m S0 k D a w i ∧ AnForksH P l Q m S0 k D a w is
theorem AnForksH.get {P:Program} {l:List Oper} {Q:Exit → Act → World → Prop} {m k:Nat} {S0:World → Prop} {D:List Nat} {a:Act} {w:World}:∀ {is:List Nat},AnForksH P l Q m S0 k D a w is → ∀ i ∈ is,d_F P l Q m S0 k D a w i
  | j :: is,h,i,hi=>by
    rcases List.mem_cons.1 hi with rfl | hi
    · exact h.1
    · exact AnForksH.get h.2 i hi
section
variable {P:Program} {w W:World} {K:Nat → Prop}
theorem c_F {T:TypeId} {t:GT} {p:Addr} {x:PT t} {cs:List Value} (ht:tie P t false T [] 0 = true) (hs:p.spot = none) (h1:RepCs t W K cs x) (h2:∀ (i:Nat) (v:Value),cs[i]? = some v → w.cell? ⟨p.block,p.off + i,none⟩ = some v) :
    (loadVar T p).run P w = .ok (if t.agg then .agg cs.toArray else cs.headD undef) w:=by
  obtain ⟨b,off,spot⟩:=p
  obtain rfl:spot = .none:=hs
  obtain ⟨i,hi,hsz⟩:=a_z ht
  have hl:=h1.len
  have hload:(loadCells ⟨b,off,.none⟩ i.size).run P w = .ok cs.toArray w:=by
    rw [hsz,← hl]
    exact run_loadCells_list (P:=P) w ⟨b,off,.none⟩ cs (fun j v hv=>by rw [Addr.add_lit];exact h2 j v hv)
  have one:t.agg = false → (∀ d,P.underlying T = some d → (match d with | .struct _ | .array _ _=>true | _=>false) = false) → P.underlying T ≠ .none → t.sz = 1 → (loadVar T ⟨b,off,.none⟩).run P w = .ok (if t.agg then .agg cs.toArray else cs.headD undef) w:=by
    intro hagg hd hne h1z
    rw [h1z] at hl
    match cs,hl with
    | [c],_ =>
      have hc:=h2 0 c rfl
      cases hu:P.underlying T with
      | none=>exact absurd hu hne
      | some d =>
        have:=hd d hu
        rw [if_neg (by simp [hagg])]
        have hc':w.cell? ⟨b,off,.none⟩ = some c:=hc
        cases d <;> simp at this <;> simp [loadVar,isAgg,run_underlying hu,hc']
  cases t with
  | int k=>exact one rfl (fun d hd=>by rw [a_6 ht] at hd;cases hd;rfl) (by rw [a_6 ht];simp) rfl
  | bool=>exact one rfl (fun d hd=>by rw [b_F ht] at hd;cases hd;rfl) (by rw [b_F ht];simp) rfl
  | str=>exact one rfl (fun d hd=>by rw [b_y ht] at hd;cases hd;rfl) (by rw [b_y ht];simp) rfl
  | sl e=>obtain ⟨E,hE,_⟩:=a_T ht;exact one rfl (fun d hd=>by rw [hE] at hd;cases hd;rfl) (by rw [hE];simp) rfl
  | raw=>obtain ⟨d0,hE,hd0⟩:=tie_raw ht;exact one rfl (fun d hd=>by rw [hE] at hd;cases hd;exact hd0) (by rw [hE];simp) rfl
  | pair a b=>simp [tie] at ht
  | st f =>
    obtain ⟨fs,hfs,_⟩:=c_U ht
    rw [if_pos rfl]
    simp [loadVar,isAgg,run_underlying hfs,sizeOf,typeInfo,hi,hload]
  | arr m e =>
    obtain ⟨E,hE,_⟩:=c_T ht
    rw [if_pos rfl]
    simp [loadVar,isAgg,run_underlying hE,sizeOf,typeInfo,hi,hload]
end
section
variable {ds:List Deferred} {N:Nat} {a:Act} {l0 l1:List (Nat × Value)} {w:World} {S0:World → Prop} {P:Program} {l:List Oper} {Q:Exit → Act → World → Prop} {o:Oper} {m k i:Nat} {D:List Nat}
namespace R
end R
theorem a_N (hr:Region.ready .any l.toArray (a_t m D) = []) (h:Q .normal a w):AnH P l Q m S0 k D a w:=wpAnyH_done hr h k
theorem a_Q {is:List Nat} (hr:Region.ready .any l.toArray (a_t m D) = is) (hne:is.isEmpty = false) (h:AnForksH P l Q m S0 k D a w is):AnH P l Q m S0 (k + 1) D a w:=by
  unfold AnH
  refine ⟨fun he=>?_,fun i hi=>?_⟩
  · rw [hr] at he;subst he;cases hne
  · rw [hr] at hi
    exact h.get i hi
theorem a_m (ho:l[i]? = some o) (S:StD ds N a l0) (hg:gOk l.toArray l0 o = some true) (h:o.wp P a w (fun a' w'=>S0 w' ∧ AnH P l Q m S0 k (i :: D) a' w') Q):d_F P l Q m S0 k D a w i:=by
  unfold d_F wpOp
  have ho':l.toArray[i]? = some o:=by simpa using ho
  simp only [ho']
  rw [if_pos (gOk.wanted S hg)]
  exact .inl h
theorem a_j (hr:Region.ready .any l.toArray (a_t m D) = [i]) (ho:l[i]? = some o) (S:StD ds N a l0) (hg:gOk l.toArray l0 o = some true) (h:o.wp P a w (fun a' w'=>S0 w' ∧ AnH P l Q m S0 k (i :: D) a' w') Q):AnH P l Q m S0 (k + 1) D a w :=
  a_Q hr rfl ⟨a_m ho S hg h,trivial⟩
theorem a_p (tys:List (TypeId × GT)) (ht:tysOk P tys = true) (hs:Region.noSelect l.toArray = true) (hQ:PanicOk Q) (hS:S0 w):∀ (is:List Nat) {D:List Nat} {a:Act} {l0:List (Nat × Value)},StD ds N a l0 → b_s l m D is = true → a_l tys l.toArray N (is.filterMap (l[·]?)) l0 = some l1 → (∀ a',StD ds N a' l1 → AnH P l Q m S0 k (is.reverse ++ D) a' w) → AnH P l Q m S0 (k + is.length) D a w
  | [],D,a,l0,S,_,hp,h=>by
    simp only [List.filterMap_nil,a_l,Option.some.injEq] at hp
    subst hp
    exact h a S
  | i :: is,D,a,l0,S,hc,hp,h=>by
    simp only [b_s,Bool.and_eq_true] at hc
    obtain ⟨⟨hf,hr⟩,hc⟩:=hc
    have hi:i ∈ Region.ready .any l.toArray (a_t m D):=by simpa using hr
    obtain ⟨_,o,ho,_⟩:=mem_ready.1 hi
    have ho':l[i]? = some o:=by simpa using ho
    rw [List.filterMap_cons_some ho'] at hp
    have h':∀ a',StD ds N a' l1 → AnH P l Q m S0 k (is.reverse ++ (i :: D)) a' w:=fun a' S'=>by
      have:=h a' S'
      simpa using this
    have fin:∀ (v:Value) (l2:List (Nat × Value)),Yields P l.toArray o v a → StD ds N (a.put o.dst v) l2 → a_l tys l.toArray N (is.filterMap (l[·]?)) l2 = some l1 → AnH P l Q m S0 (k + (is.length + 1)) D a w:=fun v l2 hy S2 hp2 =>
      wpAnyH_first ho (Region.noSelect_spec hs) (fun c a w=>hQ.put c o.dst v a w) (k + is.length) (a_t m D) a w (Region.free_spec ho hf) hi hy.yieldsIf hS (a_p tys ht hs hQ hS is S2 hc hp2 h')
    unfold a_l at hp
    split at hp
    · rename_i d hg hd
      split at hp
      · rename_i v hv
        split at hp
        · rename_i hN
          exact fin v _ (.inl ⟨gOk.wanted S hg,fun w=>c_V S o tys ht hv⟩) (by rw [hd];exact S.put (by simpa [Nat.blt_eq] using hN) v) hp
        · cases hp
      · cases hp
    · rename_i d hg hd
      split at hp
      · rename_i hN
        exact fin undef _ (.inr ⟨gOk.wanted S hg,rfl⟩) (by rw [hd];exact S.put (by simpa [Nat.blt_eq] using hN) undef) hp
      · cases hp
    · rename_i hg hd
      exact fin undef _ (.inr ⟨gOk.wanted S hg,rfl⟩) (by rw [hd];exact S) hp
    · cases hp
theorem a_1 (hs:Region.noSelect l.toArray = true) (hQ:PanicOk Q) (hS:S0 w) (hc:b_s l m D [i] = true) (ho:l[i]? = some o) (hwl:wlB o.op = true) (S:StD ds N a l0) (hg:gOk l.toArray l0 o = some true)
    (h:o.wp P a w (fun a' w'=>w' = w → AnH P l Q m S0 k (i :: D) a' w') (fun _ _ _=>False)):AnH P l Q m S0 (k + 1) D a w:=by
  simp only [b_s,Bool.and_eq_true] at hc
  obtain ⟨⟨hf,hr⟩,_⟩:=hc
  have hi:i ∈ Region.ready .any l.toArray (a_t m D):=by simpa using hr
  have ho':l.toArray[i]? = some o:=by simpa using ho
  unfold Oper.wp at h
  cases hrun:(execOp a.eval o).run P w with
  | halt x w' =>
    rw [hrun] at h
    cases x <;> simp only [Oper.upon] at h
  | ok n w' =>
    obtain ⟨rfl,⟨v,rfl⟩,hall⟩:=wl_run hwl hrun
    rw [hrun] at h
    simp only [Oper.upon] at h
    exact wpAnyH_first ho' (Region.noSelect_spec hs) (fun c a w=>hQ.put c o.dst v a w) k (a_t m D) a w' (Region.free_spec ho' hf) hi (.inl ⟨gOk.wanted S hg,fun w _=>hall w⟩) hS (h trivial)
end
end Go.Proofs.Ytlbaijkolglheaa
namespace Go.Proofs.Ytlbaijkolglheaa
open Go.RowKit Go.ChangeShapes
section
variable {ds:List Deferred} {N:Nat} {a:Act} {l:List (Nat × Value)} {w w0:World} {P:Program} {ops:Array Oper} {Q:Exit → Act → World → Prop} {rest:List Oper} {o:Oper} {Kont:Act → World → Prop} {d:Nat} {K:Nat → Prop} {L:List (Option Nat)}
end
end Go.Proofs.Ytlbaijkolglheaa
namespace Go.Proofs.Ytlbaijkolglheaa
open Go.RowKit Go.ChangeShapes
section
variable {ds:List Deferred} {N:Nat} {a:Act} {l:List (Nat × Value)} {w w0:World} {P:Program} {ops:Array Oper} {Q:Exit → Act → World → Prop} {rest:List Oper} {o:Oper} {Kont:Act → World → Prop} {d:Nat} {K:Nat → Prop} {n:Nat} {L:List (Option Nat)}
end
end Go.Proofs.Ytlbaijkolglheaa
namespace Go.Proofs.Ytlbaijkolglheaa
open Go.RowKit Go.ChangeShapes
namespace Ro
def valB:Op → Bool
  | .move _ | .assign _ | .pick _ _ _ | .load _ _ | .binOp _ _ _ _ _ | .unOp _ _ _ | .convert _ _ _ | .slice _ _ _ _ _ | .fieldAddr _ _ _ | .field _ _ _ | .indexAddr _ _ _ | .index _ _ _ | .extract _ _=>true
  | .call c=>match c.callee with
    | .builtin .len | .builtin .cap | .builtin .min | .builtin .max=>true
    | _=>false
  | _=>false
theorem vrun {P:Program} {m:Sem Value} {w w1:World} {n:Next} (hr:(m >>= fun v=>(Pure.pure (Next.value v):Sem Next)).run P w = .ok n w1):∃ v,n = .value v:=by
  rw [Sem.run_bind] at hr
  cases hq:m.run P w with
  | ok v w2 =>
    rw [hq] at hr
    exact ⟨v,by
      have:(Result.ok (Next.value v) w2:Result Next) = .ok n w1:=hr
      injection this with h1 _;exact h1.symm⟩
  | halt x w2=>rw [hq] at hr;cases hr
theorem val_run {P:Program} {o:Oper} {ρ:Operand → Value} (h:valB o.op = true) {w w1:World} {n:Next} (hr:(execOp ρ o).run P w = .ok n w1):∃ v,n = .value v:=by
  unfold execOp at hr
  cases hop:o.op <;> rw [hop] at h <;> first | (exfalso;simp [valB] at h;done) | skip
  case call c =>
    rw [hop] at hr
    simp only [valB] at h
    cases hc:c.callee <;> rw [hc] at h <;> first | (exfalso;simp at h;done) | skip
    rename_i b
    cases b <;> first | (exfalso;simp at h;done) | skip
    all_goals
      simp only [resolve,hc,pure_bind,invoke,builtin] at hr
      exact vrun hr
  case pick c x y =>
    rw [hop] at hr
    simp only at hr
    rw [Sem.run_bind] at hr
    cases hq:(asBool (ρ c)).run P w with
    | ok v w2 =>
      rw [hq] at hr
      have:(Result.ok (Next.value (if v then ρ x else ρ y)) w2:Result Next) = .ok n w1:=hr
      injection this with h1 _
      exact ⟨_,h1.symm⟩
    | halt x w2=>rw [hq] at hr;cases hr
  case move x =>
    rw [hop] at hr
    have:(Result.ok (Next.value (ρ x)) w:Result Next) = .ok n w1:=hr
    injection this with h1 _
    exact ⟨_,h1.symm⟩
  case assign x =>
    rw [hop] at hr
    have:(Result.ok (Next.value (ρ x)) w:Result Next) = .ok n w1:=hr
    injection this with h1 _
    exact ⟨_,h1.symm⟩
  all_goals
    rw [hop] at hr
    exact vrun hr
def RL (P:Program) (ops:Array Oper):List Oper → (Act → World → Prop) → World → Act → World → Prop
  | [],K,w0,a,w=>w = w0 ∧ K a w
  | o :: rest,K,w0,a,w=>w = w0 ∧ ((Region.wanted o (yielded ops a.tmps) = true ∧ o.wp P a w (RL P ops rest K w0) (fun _ _ _=>False)) ∨ (Region.wanted o (yielded ops a.tmps) = false ∧ RL P ops rest K w0 (a.put o.dst undef) w))
section
variable {ds:List Deferred} {N:Nat} {a:Act} {l0 l1:List (Nat × Value)} {w w0:World} {P:Program} {ops:Array Oper} {l:List Oper} {Q:Exit → Act → World → Prop} {o:Oper} {m k i:Nat} {D:List Nat} {K:Act → World → Prop} {rest:List Oper}
theorem RL.wld:∀ {l:List Oper},RL P ops l K w0 a w → w = w0
  | [],h=>h.1
  | _ :: _,h=>h.1
theorem wpList_nil (h:K a w):RL P ops [] K w a w:=⟨rfl,h⟩
theorem w_go (S:StD ds N a l0) (hg:gOk ops l0 o = some true) (h:o.wp P a w (RL P ops rest K w) (fun _ _ _=>False)):RL P ops (o :: rest) K w a w:=⟨rfl,.inl ⟨gOk.wanted S hg,h⟩⟩
theorem c_H (S:StD ds N a l0) (hg:gOk ops l0 o = some false) (h:RL P ops rest K w (a.put o.dst undef) w):RL P ops (o :: rest) K w a w:=⟨rfl,.inr ⟨gOk.wanted S hg,h⟩⟩
theorem a_5 (tys:List (TypeId × GT)) (ht:tysOk P tys = true):∀ (l1:List Oper) {l2:List Oper} {a:Act} {l l':List (Nat × Value)},StD ds N a l → a_l tys ops N l1 l = some l' → (∀ a',StD ds N a' l' → RL P ops l2 K w a' w) → RL P ops (l1 ++ l2) K w a w
  | [],l2,a,l,l',S,h,k=>by
    simp only [a_l,Option.some.injEq] at h
    subst h
    exact k a S
  | o :: l1,l2,a,l,l',S,h,k=>by
    unfold a_l at h
    split at h
    · rename_i d hg hd
      split at h
      · rename_i v hv
        split at h
        · rename_i hN
          exact w_go S hg (a_u S hd hN (c_V S o tys ht hv) fun a' S'=>a_5 tys ht l1 S' h k)
        · cases h
      · cases h
    · rename_i d hg hd
      split at h
      · rename_i hN
        refine c_H S hg ?_
        rw [hd]
        exact a_5 tys ht l1 (S.put (by simpa [Nat.blt_eq] using hN) undef) h k
      · cases h
    · rename_i hg hd
      refine c_H S hg ?_
      rw [hd]
      exact a_5 tys ht l1 S h k
    · cases h
theorem a_G (S:StD ds N a l1) (tys:List (TypeId × GT)) (ht:tysOk P tys = true) (m:Nat) {l0:List Oper} {l':List (Nat × Value)} (h:a_l tys ops N (l0.take m) l1 = some l')
    (k:∀ a',StD ds N a' l' → RL P ops (l0.drop m) K w a' w):RL P ops l0 K w a w:=by
  rw [← List.take_append_drop m l0]
  exact a_5 tys ht _ S h k
theorem app:∀ (l1:List Oper) {l2:List Oper} {M:Act → World → Prop} {a:Act} {w:World},RL P ops l1 M w0 a w → (∀ a' w',M a' w' → w' = w0 → RL P ops l2 K w0 a' w') → RL P ops (l1 ++ l2) K w0 a w
  | [],l2,M,a,w,h,k=>k a w h.2 h.1
  | o :: l1,l2,M,a,w,h,k=>by
    obtain ⟨e,h⟩:=h
    refine ⟨e,h.imp (fun q=>⟨q.1,Oper.wp_mono (fun a' w' h'=>app l1 h' k) q.2⟩) (fun q=>⟨q.1,app l1 q.2 k⟩)⟩
theorem seg (m:Nat) (M:Act → World → Prop) {l0:List Oper} (h1:RL P ops (l0.take m) M w a w) (h2:∀ a' w',M a' w' → RL P ops (l0.drop m) K w a' w):RL P ops l0 K w a w:=by
  rw [← List.take_append_drop m l0]
  exact app _ h1 fun a' w' h e=>by subst e;exact h2 a' w' h
theorem fm_range {α:Type}:∀ l:List α,(List.range l.length).filterMap (fun i=>l[i]?) = l
  | []=>rfl
  | x :: l=>by
    rw [List.length_cons,List.range_succ_eq_map,List.filterMap_cons_some (show (x :: l)[0]? = some x from rfl),List.filterMap_map]
    exact congrArg (x :: ·) (fm_range l)
theorem any_ (hs:Region.noSelect l.toArray = true) (hv:l.all (fun o=>valB o.op) = true) (hQ:PanicOk Q):∀ (is:List Nat) {D:List Nat} {a:Act},b_s l m D is = true → Region.ready .any l.toArray (a_t m (is.reverse ++ D)) = [] →
    RL P l.toArray (is.filterMap (l[·]?)) (fun a w=>Q .normal a w) w0 a w0 → wpAnyH P .any l.toArray Q (· = w0) is.length (a_t m D) a w0
  | [],D,a,_,he,h=>⟨he,h.2⟩
  | i :: is,D,a,hc,he,h=>by
    simp only [b_s,Bool.and_eq_true] at hc
    obtain ⟨⟨hf,hr⟩,hc⟩:=hc
    have hi:i ∈ Region.ready .any l.toArray (a_t m D):=by simpa using hr
    obtain ⟨_,o,ho,_⟩:=mem_ready.1 hi
    have ho':l[i]? = some o:=by simpa using ho
    rw [List.filterMap_cons_some ho'] at h
    have he':Region.ready .any l.toArray (a_t m (is.reverse ++ (i :: D))) = []:=by simpa using he
    have fin:∀ v,YieldsIf P l.toArray (· = w0) o v a → RL P l.toArray (is.filterMap (l[·]?)) (fun a w=>Q .normal a w) w0 (a.put o.dst v) w0 → wpAnyH P .any l.toArray Q (· = w0) (is.length + 1) (a_t m D) a w0:=fun v hy h' =>
      wpAnyH_first ho (Region.noSelect_spec hs) (fun c a w=>hQ.put c o.dst v a w) is.length (a_t m D) a w0 (Region.free_spec ho hf) hi hy rfl (any_ hs hv hQ is hc he' h')
    rcases h.2 with ⟨hw,h1⟩ | ⟨hw,h1⟩
    · unfold Oper.wp at h1
      cases hrun:(execOp a.eval o).run P w0 with
      | halt x w' =>
        rw [hrun] at h1
        cases x <;> simp only [Oper.upon] at h1
      | ok n w' =>
        obtain ⟨v,rfl⟩:=val_run (List.all_eq_true.1 hv o (List.mem_of_getElem? ho')) hrun
        rw [hrun] at h1
        simp only [Oper.upon] at h1
        have e:=h1.wld
        subst e
        exact fin v (.inl ⟨hw,fun w hw'=>by rw [hw'];exact hrun⟩) h1
    · exact fin undef (.inr ⟨hw,rfl⟩) h1
def roB (l:List Oper) (m:Nat):Bool:=Region.noSelect l.toArray && l.all (fun o=>valB o.op) && b_s l m [] (List.range m) && (Region.ready .any l.toArray (a_t m ((List.range m).reverse ++ []))).isEmpty && Nat.beq l.length m
theorem any (hc:roB l m = true) (hQ:PanicOk Q) (h:RL P l.toArray l (fun a w=>Q .normal a w) w a w):wpAny P .any l.toArray Q m (a_t m []) a w:=by
  simp only [roB,Bool.and_eq_true] at hc
  obtain ⟨⟨⟨⟨h1,h2⟩,h3⟩,h4⟩,h5⟩:=hc
  have hl:l.length = m:=Nat.eq_of_beq_eq_true h5
  have e:(List.range m).filterMap (l[·]?) = l:=by rw [← hl];exact fm_range l
  have:=any_ (P:=P) (w0:=w) (a:=a) h1 h2 hQ (List.range m) h3 (List.isEmpty_iff.1 h4) (by rw [e];exact h)
  rw [List.length_range] at this
  exact wpAny_of_held _ _ _ _ this
end
end Ro
section
variable {a:Act} {w:World} {P:Program} {l:List Oper} {Q:Exit → Act → World → Prop}
theorem c_J {id:Nat} (m:Nat) (hm:P.follows .mixedOrders = true) (hc:Ro.roB l m = true) (hQ:PanicOk Q) (h:∀ w',Below w.heap.size w w' → Ro.RL P l.toArray l (fun a w=>Q .normal a w) w' a w'):(Code.region id l.toArray true).wp P Q a w:=by
  have hl:l.length = m:=by simp only [Ro.roB,Bool.and_eq_true] at hc;exact Nat.eq_of_beq_eq_true hc.2
  exact b_b m hm hl hQ fun w' hb hq=>Ro.any hc hq (h w' hb)
end
end Go.Proofs.Ytlbaijkolglheaa
namespace Go.Proofs.Ytlbaijkolglheaa
open Go.RowKit
theorem RepV.rawV {w:World} {K:Nat → Prop} {v:Value} (h:v.oneCell' = true):RepV .raw w K v v:=⟨[v],⟨rfl,h⟩,rfl⟩
section
variable {ds:List Deferred} {N:Nat} {a:Act} {l:List (Nat × Value)} {w w0:World} {P:Program} {ops:Array Oper} {Q:Exit → Act → World → Prop} {rest:List Oper} {o:Oper} {Kont:Act → World → Prop} {d:Nat} {K:Nat → Prop} {n:Nat} {L:List (Option Nat)}
end
end Go.Proofs.Ytlbaijkolglheaa
namespace Go.Proofs.Ytlbaijkolglheaa
open Go.RowKit
structure SbX (w0:World) (X:List (Option Nat)) (w:World):Prop where
  size:w0.heap.size ≤ w.heap.size
  block:∀ k,k < w0.heap.size → some k ∉ X → w.heap[k]? = w0.heap[k]?
theorem SbX.refl (w:World) (X:List (Option Nat)):SbX w X w:=⟨Nat.le_refl _,fun _ _ _=>rfl⟩
theorem SbX.step {w0 w w':World} {X:List (Option Nat)} (h:SbX w0 X w) (hb:Below w.heap.size w w'):SbX w0 X w' :=
  ⟨Nat.le_trans h.size hb.size,fun k hk hx=>(hb.block k (Nat.lt_of_lt_of_le hk h.size)).trans (h.block k hk hx)⟩
theorem SbX.apd {w0 w w':World} {X:List (Option Nat)} {v v':Value} (h:SbX w0 X w) (A:Apd w w' v v') (hg:∀ c,v.ownBlock = some c → w0.heap.size ≤ c ∨ some c ∈ X):SbX w0 X w' :=
  ⟨Nat.le_trans h.size A.grown.size,fun k hk hx=>(A.grown.block k (Nat.lt_of_lt_of_le hk h.size) fun e=>by
    rcases hg k e.symm with q | q
    · omega
    · exact hx q).trans (h.block k hk hx)⟩
theorem SbX.wrote {w0 w w':World} {X:List (Option Nat)} {b:Nat} (h:SbX w0 X w) (hw:Wrote b w w') (hg:w0.heap.size ≤ b ∨ some b ∈ X):SbX w0 X w' :=
  ⟨Nat.le_trans h.size (Nat.le_of_eq hw.size.symm),fun k hk hx=>(hw.block k fun e=>by
    rcases hg with q | q
    · omega
    · exact hx (e ▸ q)).trans (h.block k hk hx)⟩
theorem e_x {x y:Option Nat} {X:List (Option Nat)} (h:x ≠ y) (t:x ∉ X):x ∉ y :: X:=fun hm=>by
  rcases List.mem_cons.1 hm with e | e
  · exact h e
  · exact t e
theorem SbX.cell {w w':World} {X:List (Option Nat)} (h:SbX w X w') {p:Addr} (hp:p.block < w.heap.size) (hx:some p.block ∉ X):w'.cell? p = w.cell? p :=
  World.cell?_of_block (h.block p.block hp hx)
section
variable {ds:List Deferred} {N:Nat} {a:Act} {l0 l1:List (Nat × Value)} {w:World} {S0:World → Prop} {P:Program} {l:List Oper} {Q:Exit → Act → World → Prop} {o:Oper} {m k i:Nat} {D:List Nat}
theorem b_h {id:Nat} (m:Nat) (X:List (Option Nat)) (hm:P.follows .mixedOrders = true) (hl:l.length = m) (hQ:PanicOk Q) (h:∀ w',Below w.heap.size w w' → PanicOk Q → AnH P l Q m (SbX w' X) m [] a w'):(Code.region id l.toArray true).wp P Q a w:=by
  subst hl
  refine wp_region_any hm (wpAny_of_held (S:=SbX { w with drawn:=w.drawn + 1 } X) _ _ _ _ ?_)
  have:=h { w with drawn:=w.drawn + 1 } ⟨rfl,rfl,rfl,Nat.le_refl _,fun _ _=>rfl⟩ hQ
  simpa [AnH,a_t] using this
namespace R
end R
theorem b_l {X:List (Option Nat)} {t:GT} {T:TypeId} {ad:Operand} {d:Nat} {p:Addr} {x:PT t} {K:Nat → Prop} (hs:Region.noSelect l.toArray = true) (hQ:PanicOk Q) (hc:b_s l m D [i] = true) (ho:l[i]? = some o) (S:StD ds N a l0) (hg:gOk l.toArray l0 o = some true)
    (hop:o.op = .load T ad) (ht:tie P t false T [] 0 = true) (hd:o.dst = some d) (hN:Nat.blt d N = true) (ha:ev l0 ad = some (.pointer (some p))) (hA:RepAt t w K p x) (hb:p.block < w.heap.size) (hx:some p.block ∉ X)
    (kk:∀ a' v,RepV t w K v x → StD ds N a' ((d,v) :: l0) → AnH P l Q m (SbX w X) k (i :: D) a' w):AnH P l Q m (SbX w X) (k + 1) D a w:=by
  simp only [b_s,Bool.and_eq_true] at hc
  obtain ⟨⟨hf,hr⟩,_⟩:=hc
  have hi:i ∈ Region.ready .any l.toArray (a_t m D):=by simpa using hr
  have ho':l.toArray[i]? = some o:=by simpa using ho
  obtain ⟨h0,cs,hR,hcell⟩:=hA
  have hv:∀ w',SbX w X w' → (execOp a.eval o).run P w' = .ok (.value (if t.agg then .agg cs.toArray else cs.headD undef)) w':=fun w' hw'=>by
    have:=c_F (P:=P) (w:=w') ht h0 hR fun j u hj=>by
      rw [← hcell j u hj]
      exact hw'.cell (show (⟨p.block,p.off + j,.none⟩:Addr).block < w.heap.size from hb) hx
    simp [execOp,hop,S.eval ha,Instr.loadAt,Instr.sureAddr,this]
  have:=kk (a.put o.dst (if t.agg then .agg cs.toArray else cs.headD undef)) _ ⟨cs,hR,rfl⟩ (by rw [hd];exact S.put (by simpa [Nat.blt_eq] using hN) _)
  exact wpAnyH_first ho' (Region.noSelect_spec hs) (fun c a w=>hQ.put c o.dst _ a w) k (a_t m D) a w (Region.free_spec ho' hf) hi (.inl ⟨gOk.wanted S hg,hv⟩) (SbX.refl w X) this
end
section
variable {w0 w:World} {K:Nat → Prop} {n b:Nat} {L:List (Option Nat)} {e:GT} {E:TypeId}
end
section
variable {ds:List Deferred} {N:Nat} {a:Act} {l:List (Nat × Value)} {w w0:World} {P:Program} {ops:Array Oper} {Q:Exit → Act → World → Prop} {rest:List Oper} {o:Oper} {Kont:Act → World → Prop} {d:Nat} {K:Nat → Prop} {n:Nat} {L:List (Option Nat)}
end
end Go.Proofs.Ytlbaijkolglheaa
namespace Go.Proofs.Ytlbaijkolglheaa
open Go.RowKit
section
variable {ds:List Deferred} {N:Nat} {a:Act} {l0:List (Nat × Value)} {w:World} {P:Program} {l:List Oper} {Q:Exit → Act → World → Prop} {o:Oper} {m k i:Nat} {D:List Nat} {S0:World → Prop}
end
end Go.Proofs.Ytlbaijkolglheaa
namespace Go.Proofs.Ytlbaijkolglheaa
open Go.RowKit
class TyOk (P:Program) (tys:outParam (List (TypeId × GT))):Prop where
  ok:tysOk P tys = true
section
variable {r:Option Nat} {ds:List Deferred} {N:Nat} {a:Act} {l:List (Nat × Value)} {w:World} {P:Program} {ops:Array Oper} {Q:Exit → Act → World → Prop} {K:Act → World → Prop} {tys:List (TypeId × GT)} {l0:List Oper}
theorem dl1 [T:TyOk P tys] (S:StD ds N a l) (m:Nat) (p1:Nat × Value) (k:∀ a',StD ds N a' (p1 :: l) → wpList P ops Q (l0.drop m) a' w) (h:a_l tys ops N (l0.take m) l = some (p1 :: l):=by kernel_rfl):wpList P ops Q l0 a w:=a_G S tys T.ok m h k
theorem dl2 [T:TyOk P tys] (S:StD ds N a l) (m:Nat) (p1 p2:Nat × Value) (k:∀ a',StD ds N a' (p1 :: p2 :: l) → wpList P ops Q (l0.drop m) a' w) (h:a_l tys ops N (l0.take m) l = some (p1 :: p2 :: l):=by kernel_rfl):wpList P ops Q l0 a w:=a_G S tys T.ok m h k
theorem dl3 [T:TyOk P tys] (S:StD ds N a l) (m:Nat) (p1 p2 p3:Nat × Value) (k:∀ a',StD ds N a' (p1 :: p2 :: p3 :: l) → wpList P ops Q (l0.drop m) a' w) (h:a_l tys ops N (l0.take m) l = some (p1 :: p2 :: p3 :: l):=by kernel_rfl):wpList P ops Q l0 a w:=a_G S tys T.ok m h k
theorem dl4 [T:TyOk P tys] (S:StD ds N a l) (m:Nat) (p1 p2 p3 p4:Nat × Value) (k:∀ a',StD ds N a' (p1 :: p2 :: p3 :: p4 :: l) → wpList P ops Q (l0.drop m) a' w) (h:a_l tys ops N (l0.take m) l = some (p1 :: p2 :: p3 :: p4 :: l):=by kernel_rfl):wpList P ops Q l0 a w:=a_G S tys T.ok m h k
theorem dl5 [T:TyOk P tys] (S:StD ds N a l) (m:Nat) (p1 p2 p3 p4 p5:Nat × Value) (k:∀ a',StD ds N a' (p1 :: p2 :: p3 :: p4 :: p5 :: l) → wpList P ops Q (l0.drop m) a' w) (h:a_l tys ops N (l0.take m) l = some (p1 :: p2 :: p3 :: p4 :: p5 :: l):=by kernel_rfl):wpList P ops Q l0 a w:=a_G S tys T.ok m h k
theorem dl6 [T:TyOk P tys] (S:StD ds N a l) (m:Nat) (p1 p2 p3 p4 p5 p6:Nat × Value) (k:∀ a',StD ds N a' (p1 :: p2 :: p3 :: p4 :: p5 :: p6 :: l) → wpList P ops Q (l0.drop m) a' w) (h:a_l tys ops N (l0.take m) l = some (p1 :: p2 :: p3 :: p4 :: p5 :: p6 :: l):=by kernel_rfl):wpList P ops Q l0 a w:=a_G S tys T.ok m h k
theorem dl7 [T:TyOk P tys] (S:StD ds N a l) (m:Nat) (p1 p2 p3 p4 p5 p6 p7:Nat × Value) (k:∀ a',StD ds N a' (p1 :: p2 :: p3 :: p4 :: p5 :: p6 :: p7 :: l) → wpList P ops Q (l0.drop m) a' w) (h:a_l tys ops N (l0.take m) l = some (p1 :: p2 :: p3 :: p4 :: p5 :: p6 :: p7 :: l):=by kernel_rfl):wpList P ops Q l0 a w:=a_G S tys T.ok m h k
theorem dl8 [T:TyOk P tys] (S:StD ds N a l) (m:Nat) (p1 p2 p3 p4 p5 p6 p7 p8:Nat × Value) (k:∀ a',StD ds N a' (p1 :: p2 :: p3 :: p4 :: p5 :: p6 :: p7 :: p8 :: l) → wpList P ops Q (l0.drop m) a' w) (h:a_l tys ops N (l0.take m) l = some (p1 :: p2 :: p3 :: p4 :: p5 :: p6 :: p7 :: p8 :: l):=by kernel_rfl):wpList P ops Q l0 a w:=a_G S tys T.ok m h k
theorem R.dl1 [T:TyOk P tys] (S:StD ds N a l) (m:Nat) (p1:Nat × Value) (k:∀ a',StD ds N a' (p1 :: l) → LI r P ops Q (l0.drop m) a' w) (h:a_l tys ops N (l0.take m) l = some (p1 :: l):=by kernel_rfl):LI r P ops Q l0 a w:=R.a_G S tys T.ok m h k
theorem R.dl2 [T:TyOk P tys] (S:StD ds N a l) (m:Nat) (p1 p2:Nat × Value) (k:∀ a',StD ds N a' (p1 :: p2 :: l) → LI r P ops Q (l0.drop m) a' w) (h:a_l tys ops N (l0.take m) l = some (p1 :: p2 :: l):=by kernel_rfl):LI r P ops Q l0 a w:=R.a_G S tys T.ok m h k
theorem R.dl3 [T:TyOk P tys] (S:StD ds N a l) (m:Nat) (p1 p2 p3:Nat × Value) (k:∀ a',StD ds N a' (p1 :: p2 :: p3 :: l) → LI r P ops Q (l0.drop m) a' w) (h:a_l tys ops N (l0.take m) l = some (p1 :: p2 :: p3 :: l):=by kernel_rfl):LI r P ops Q l0 a w:=R.a_G S tys T.ok m h k
theorem R.dl4 [T:TyOk P tys] (S:StD ds N a l) (m:Nat) (p1 p2 p3 p4:Nat × Value) (k:∀ a',StD ds N a' (p1 :: p2 :: p3 :: p4 :: l) → LI r P ops Q (l0.drop m) a' w) (h:a_l tys ops N (l0.take m) l = some (p1 :: p2 :: p3 :: p4 :: l):=by kernel_rfl):LI r P ops Q l0 a w:=R.a_G S tys T.ok m h k
theorem R.dl5 [T:TyOk P tys] (S:StD ds N a l) (m:Nat) (p1 p2 p3 p4 p5:Nat × Value) (k:∀ a',StD ds N a' (p1 :: p2 :: p3 :: p4 :: p5 :: l) → LI r P ops Q (l0.drop m) a' w) (h:a_l tys ops N (l0.take m) l = some (p1 :: p2 :: p3 :: p4 :: p5 :: l):=by kernel_rfl):LI r P ops Q l0 a w:=R.a_G S tys T.ok m h k
theorem R.dl6 [T:TyOk P tys] (S:StD ds N a l) (m:Nat) (p1 p2 p3 p4 p5 p6:Nat × Value) (k:∀ a',StD ds N a' (p1 :: p2 :: p3 :: p4 :: p5 :: p6 :: l) → LI r P ops Q (l0.drop m) a' w) (h:a_l tys ops N (l0.take m) l = some (p1 :: p2 :: p3 :: p4 :: p5 :: p6 :: l):=by kernel_rfl):LI r P ops Q l0 a w:=R.a_G S tys T.ok m h k
theorem R.dl7 [T:TyOk P tys] (S:StD ds N a l) (m:Nat) (p1 p2 p3 p4 p5 p6 p7:Nat × Value) (k:∀ a',StD ds N a' (p1 :: p2 :: p3 :: p4 :: p5 :: p6 :: p7 :: l) → LI r P ops Q (l0.drop m) a' w) (h:a_l tys ops N (l0.take m) l = some (p1 :: p2 :: p3 :: p4 :: p5 :: p6 :: p7 :: l):=by kernel_rfl):LI r P ops Q l0 a w:=R.a_G S tys T.ok m h k
theorem R.dl8 [T:TyOk P tys] (S:StD ds N a l) (m:Nat) (p1 p2 p3 p4 p5 p6 p7 p8:Nat × Value) (k:∀ a',StD ds N a' (p1 :: p2 :: p3 :: p4 :: p5 :: p6 :: p7 :: p8 :: l) → LI r P ops Q (l0.drop m) a' w) (h:a_l tys ops N (l0.take m) l = some (p1 :: p2 :: p3 :: p4 :: p5 :: p6 :: p7 :: p8 :: l):=by kernel_rfl):LI r P ops Q l0 a w:=R.a_G S tys T.ok m h k
theorem Ro.dl1 [T:TyOk P tys] (S:StD ds N a l) (m:Nat) (p1:Nat × Value) (k:∀ a',StD ds N a' (p1 :: l) → Ro.RL P ops (l0.drop m) K w a' w) (h:a_l tys ops N (l0.take m) l = some (p1 :: l):=by kernel_rfl):Ro.RL P ops l0 K w a w:=Ro.a_G S tys T.ok m h k
theorem Ro.dl2 [T:TyOk P tys] (S:StD ds N a l) (m:Nat) (p1 p2:Nat × Value) (k:∀ a',StD ds N a' (p1 :: p2 :: l) → Ro.RL P ops (l0.drop m) K w a' w) (h:a_l tys ops N (l0.take m) l = some (p1 :: p2 :: l):=by kernel_rfl):Ro.RL P ops l0 K w a w:=Ro.a_G S tys T.ok m h k
theorem Ro.dl3 [T:TyOk P tys] (S:StD ds N a l) (m:Nat) (p1 p2 p3:Nat × Value) (k:∀ a',StD ds N a' (p1 :: p2 :: p3 :: l) → Ro.RL P ops (l0.drop m) K w a' w) (h:a_l tys ops N (l0.take m) l = some (p1 :: p2 :: p3 :: l):=by kernel_rfl):Ro.RL P ops l0 K w a w:=Ro.a_G S tys T.ok m h k
theorem Ro.dl4 [T:TyOk P tys] (S:StD ds N a l) (m:Nat) (p1 p2 p3 p4:Nat × Value) (k:∀ a',StD ds N a' (p1 :: p2 :: p3 :: p4 :: l) → Ro.RL P ops (l0.drop m) K w a' w) (h:a_l tys ops N (l0.take m) l = some (p1 :: p2 :: p3 :: p4 :: l):=by kernel_rfl):Ro.RL P ops l0 K w a w:=Ro.a_G S tys T.ok m h k
theorem Ro.dl5 [T:TyOk P tys] (S:StD ds N a l) (m:Nat) (p1 p2 p3 p4 p5:Nat × Value) (k:∀ a',StD ds N a' (p1 :: p2 :: p3 :: p4 :: p5 :: l) → Ro.RL P ops (l0.drop m) K w a' w) (h:a_l tys ops N (l0.take m) l = some (p1 :: p2 :: p3 :: p4 :: p5 :: l):=by kernel_rfl):Ro.RL P ops l0 K w a w:=Ro.a_G S tys T.ok m h k
theorem Ro.dl6 [T:TyOk P tys] (S:StD ds N a l) (m:Nat) (p1 p2 p3 p4 p5 p6:Nat × Value) (k:∀ a',StD ds N a' (p1 :: p2 :: p3 :: p4 :: p5 :: p6 :: l) → Ro.RL P ops (l0.drop m) K w a' w) (h:a_l tys ops N (l0.take m) l = some (p1 :: p2 :: p3 :: p4 :: p5 :: p6 :: l):=by kernel_rfl):Ro.RL P ops l0 K w a w:=Ro.a_G S tys T.ok m h k
theorem Ro.dl7 [T:TyOk P tys] (S:StD ds N a l) (m:Nat) (p1 p2 p3 p4 p5 p6 p7:Nat × Value) (k:∀ a',StD ds N a' (p1 :: p2 :: p3 :: p4 :: p5 :: p6 :: p7 :: l) → Ro.RL P ops (l0.drop m) K w a' w) (h:a_l tys ops N (l0.take m) l = some (p1 :: p2 :: p3 :: p4 :: p5 :: p6 :: p7 :: l):=by kernel_rfl):Ro.RL P ops l0 K w a w:=Ro.a_G S tys T.ok m h k
theorem Ro.dl8 [T:TyOk P tys] (S:StD ds N a l) (m:Nat) (p1 p2 p3 p4 p5 p6 p7 p8:Nat × Value) (k:∀ a',StD ds N a' (p1 :: p2 :: p3 :: p4 :: p5 :: p6 :: p7 :: p8 :: l) → Ro.RL P ops (l0.drop m) K w a' w) (h:a_l tys ops N (l0.take m) l = some (p1 :: p2 :: p3 :: p4 :: p5 :: p6 :: p7 :: p8 :: l):=by kernel_rfl):Ro.RL P ops l0 K w a w:=Ro.a_G S tys T.ok m h k
theorem wcs {c:Operand} {x y:Code} (t:Bool) (S:StD ds N a l) (he:ev l c = some (.bool t)) (h1:t = true → Code.wp P x Q a w) (h2:t = false → Code.wp P y Q a w):Code.wp P (Code.cond c x y) Q a w:=wp_cond_split (S.eval he) h1 h2
theorem wgo {o:Oper} {rest:List Oper} (S:StD ds N a l) (h:o.wp P a w (wpList P ops Q rest) Q) (hg:gOk ops l o = some true:=by rfl):wpList P ops Q (o :: rest) a w:=w_go S hg h
theorem R.wgo {o:Oper} {rest:List Oper} (S:StD ds N a l) (h:o.wp P a w (LI r P ops Q rest) Q) (hg:gOk ops l o = some true:=by rfl) (hd:c_b o = true:=by rfl):LI r P ops Q (o :: rest) a w:=R.w_go S hg h hd
theorem Ro.wgo {o:Oper} {rest:List Oper} (S:StD ds N a l) (h:o.wp P a w (Ro.RL P ops rest K w) (fun _ _ _=>False)) (hg:gOk ops l o = some true:=by rfl):Ro.RL P ops (o :: rest) K w a w:=Ro.w_go S hg h
theorem dzp {α:Type} {c:Prop} [Decidable c] {x:Option α} {q:α} {G:Prop} (h:(if c then none else x) = some q) (hc:c):G:=by rw [if_pos hc] at h;cases h
theorem dzn {α:Type} {b:Bool} {x:Option α} {q:α} {G:Prop} (h:(if b then x else none) = some q) (hc:b = false):G:=by rw [hc] at h;cases h
end
end Go.Proofs.Ytlbaijkolglheaa
namespace Go.Proofs.Ytlbaijkolglheaa
open Go.RowKit
section
variable {ds:List Deferred} {N:Nat} {a:Act} {l:List (Nat × Value)} {w w0:World} {P:Program} {ops:Array Oper} {Q:Exit → Act → World → Prop} {rest:List Oper} {o:Oper} {Kont:Act → World → Prop} {d:Nat}
def ifcB (P:Program) (T:TypeId):Bool:=match P.underlying T with | some (.interface _)=>true | _=>false
theorem run_ifeq {T:TypeId} (ht:ifcB P T = true) (u:TypeId) (v:Value):(Op.equal T (.iface u v) .nilIface).run P w = .ok false w:=by
  unfold ifcB at ht
  split at ht
  · rename_i hu
    show (Op.equalIn (9999 + 1) T (.iface u v) .nilIface).run P w = _
    rw [Op.equalIn]
    simp only [Sem.run_bind,run_underlying hu,Result.andThen_ok]
    rfl
  · cases ht
theorem c_e (S:StD ds N a l) {T T' u:TypeId} {x:Operand} {v:Value} (ho:o.op = .binOp .eql T x (.const .nilIface) T') (ht:ifcB P T = true) (hd:o.dst = some d) (hN:Nat.blt d N = true)
    (hx:ev l x = some (.iface u v)) (k:∀ a',StD ds N a' ((d,.bool false) :: l) → Kont a' w):o.wp P a w Kont Q:=by
  refine a_u S hd hN ?_ k
  have hc:a.eval (.const .nilIface) = .nilIface:=rfl
  simp [execOp,ho,S.eval hx,hc,eqGuard,binOp,run_ifeq ht]
theorem op_mkif (S:StD ds N a l) {T:TypeId} {x:Operand} {v:Value} (ho:o.op = .makeInterface T x) (ht:ptrB P T = true) (hd:o.dst = some d) (hN:Nat.blt d N = true)
    (hx:ev l x = some v) (k:∀ a',StD ds N a' ((d,.iface T v) :: l) → Kont a' w):o.wp P a w Kont Q:=by
  refine a_u S hd hN ?_ k
  unfold ptrB at ht
  split at ht
  · rename_i hu
    simp [execOp,ho,S.eval hx,Instr.makeInterface,run_underlying hu]
  · cases ht
theorem b_6 (S:StD ds N a l) {u:TypeId} {x:Operand} {v:Value} (ho:o.op = .nilCheck x) (hd:o.dst = some d) (hN:Nat.blt d N = true)
    (hx:ev l x = some (.iface u v)) (k:∀ a',StD ds N a' ((d,.iface u v) :: l) → Kont a' w):o.wp P a w Kont Q:=by
  refine a_u S hd hN ?_ k
  simp [execOp,ho,S.eval hx]
def methB (P:Program) (T:TypeId) (name:String) (f:FuncId):Bool:=ptrB P T && match P.info? T with
  | some info=>match info.methods.find? (·.name == name) with
    | some m=>m.path.isEmpty && (match m.func with | some (g,true)=>g == f | _=>false)
    | none=>false
  | none=>false
theorem e_v {T:TypeId} {name:String} {f:FuncId} (h:methB P T name f = true) (n:Nat) (v:Value):(method (n + 1) T v name).run P w = .ok (f,v) w:=by
  unfold methB at h
  rw [Bool.and_eq_true] at h
  obtain ⟨hp,h⟩:=h
  split at h
  · rename_i info hi
    split at h
    · rename_i m hm
      rw [Bool.and_eq_true] at h
      obtain ⟨h1,h2⟩:=h
      split at h2
      · rename_i g hg
        obtain rfl:g = f:=by simpa using h2
        have hpath:m.path = #[]:=by simpa using h1
        unfold ptrB at hp
        split at hp
        · rename_i e hu
          unfold method
          simp [typeInfo,hi,hm,hg,hpath,follow,receiverAt,run_underlying hu,Place.get]
        · cases hp
      · cases h2
    · cases h
  · cases h
theorem c_v (S:StD ds N a l) {f:FuncId} {T:TypeId} {x:Operand} {name:String} {u:Value} {xs:Array Operand} {ts:Array TypeId} (ho:o.op = .call { callee:=.invoke x name,args:=xs,argTypes:=ts }) (hm:methB P T name f = true) (hx:ev l x = some (.iface T u)) (hf:a_O P f = true) (hd:o.dst = some d) (hN:Nat.blt d N = true)
    {vs:List Value} (hv:evs l xs.toList = some vs) {R:Ending → World → Prop} (h:Calls P f (u :: vs).toArray w R) (k:∀ e w',R e w' → ∃ v,e = .returned v ∧ ∀ a',StD ds N a' ((d,v) :: l) → Kont a' w'):o.wp P a w Kont Q:=by
  have hvs:xs.map a.eval = vs.toArray:=by
    rw [← S.evs hv,← Array.toList_map,Array.toArray_toList]
  have hmeth:(method (P.types.size + Made.depth) T u name).run P w = .ok (f,u) w:=by
    have h0:0 < Made.depth:=by decide
    obtain ⟨n,hn⟩:∃ n,P.types.size + Made.depth = n + 1:=⟨P.types.size + Made.depth - 1,by omega⟩
    rw [hn];exact e_v hm n u
  have hr:(execOp a.eval o).run P w = .ok (.enter f (u :: vs).toArray) w:=by
    have e1:(#[Value.iface T u] ++ vs.toArray).extract 1 (vs.length + 1) = vs.toArray:=by simp
    have hp:(Sem.run P (Sem.program Sem.pure) w) = .ok P w:=rfl
    simp [execOp,ho,resolve,S.eval hx,invoke,hvs,callMethod,program,hp,hmeth,b_Q hf]
  unfold Oper.wp
  rw [hr]
  simp only [Oper.upon]
  refine h.mono fun e w' he=>?_
  obtain ⟨v,rfl,hk⟩:=k e w' he
  simp only [hd]
  exact hk _ (S.put (by simpa [Nat.blt_eq] using hN) v)
end
end Go.Proofs.Ytlbaijkolglheaa
namespace Go.Proofs.Ytlbaijkolglheaa
open Go.RowKit
section
variable {ds:List Deferred} {N:Nat} {a:Act} {l:List (Nat × Value)} {w w0:World} {P:Program} {ops:Array Oper} {Q:Exit → Act → World → Prop} {rest:List Oper} {o:Oper} {Kont:Act → World → Prop} {d:Nat} {K:Nat → Prop} {n:Nat} {L:List (Option Nat)}
theorem Ow.put_at {E:TypeId} {e:GT} {xs ys:List (PT e)} {c:Option Nat} {g cap:Nat} {cur:Array Value} {dc:List Value} {lo i:Nat} (O:Ow e E w n (Kx K n L) (.slice (some ⟨g,0,.none⟩) xs.length cap) xs c) (hi:L[i]? = some (some g))
    (hg:w.heap[g]? = some (.cells cur E (0,0))) (hd:RepCs (.arr ys.length e) w (Kx K n L) dc ys) (hfit:lo + ys.length ≤ xs.length) :
    Apd w (w.setRow g (cur.toList.take (lo * e.sz) ++ dc ++ cur.toList.drop (lo * e.sz + dc.length)).toArray) (.slice (some ⟨g,0,.none⟩) xs.length cap) (.slice (some ⟨g,0,.none⟩) xs.length cap) ∧
    Ow e E (w.setRow g (cur.toList.take (lo * e.sz) ++ dc ++ cur.toList.drop (lo * e.sz + dc.length)).toArray) n (Kx K n L) (.slice (some ⟨g,0,.none⟩) xs.length cap) (xs.take lo ++ (ys ++ xs.drop (lo + ys.length))) c:=by
  obtain ⟨cs,h1,h2,h3⟩:=O
  have hcsl:cs.length = xs.length * e.sz:=h1.1
  have hdl:dc.length = ys.length * e.sz:=hd.len
  have hw:=b_w w g (cur.toList.take (lo * e.sz) ++ dc ++ cur.toList.drop (lo * e.sz + dc.length)).toArray
  have hgL:some g ∈ L:=List.mem_of_getElem? hi
  rcases h1.2 with ⟨e1,_⟩ | ⟨g',cap',cur',e1,hb,hg',hnc,hcm,hsz,htake⟩
  · cases e1
  · injection e1 with f1 f2 f3
    injection f1 with f1
    injection f1 with f1 _ _
    subst f1 f3
    rw [hg] at hg'
    injection hg' with hg'
    injection hg' with hg' _ _
    subst hg'
    refine ⟨⟨⟨hw.os,hw.tape,hw.output,Nat.le_of_eq hw.size.symm,fun q hq hne=>hw.block q fun e_=>hne (by rw [e_];rfl)⟩,.inl rfl,fun q hq=>?_⟩,?_⟩
    · obtain rfl:g = q:=by simpa [Value.ownBlock] using hq
      rw [hw.size];exact (Array.getElem?_eq_some_iff.1 hg).1
    · have htk:=e_k h2 lo
      have hdr:=arr_drop h2 (lo + ys.length)
      have happ:=b_Z htk (b_Z hd hdr)
      have hnl:(xs.take lo ++ (ys ++ xs.drop (lo + ys.length))).length = xs.length:=by simp;omega
      have hcl:(cs.take (lo * e.sz) ++ (dc ++ cs.drop ((lo + ys.length) * e.sz))).length = xs.length * e.sz:=by
        have:=happ.len
        rw [this]
        show (xs.take lo ++ (ys ++ xs.drop (lo + ys.length))).length * e.sz = _
        rw [hnl]
      have hle:(lo + ys.length) * e.sz ≤ xs.length * e.sz:=Nat.mul_le_mul_right _ hfit
      have hle2:xs.length * e.sz ≤ cap * e.sz:=Nat.mul_le_mul_right _ hnc
      rw [Nat.add_mul] at hle
      have hcurl:cur.toList.length = cap * e.sz:=by simpa using hsz
      refine ⟨cs.take (lo * e.sz) ++ (dc ++ cs.drop ((lo + ys.length) * e.sz)),⟨by rw [hcl,hnl],.inr ⟨g,cap,_,by rw [hnl],hb,setRow_heap w g cur _ E _ hg,by rw [hnl];exact hnc,hcm,?_,?_⟩⟩,?_,h3⟩
      · simp only [List.size_toArray,List.length_append,List.length_drop,List.length_take,hcurl,hdl]
        omega
      · rw [hnl]
        show (cur.toList.take (lo * e.sz) ++ dc ++ cur.toList.drop (lo * e.sz + dc.length)).take (xs.length * e.sz) = _
        have ht:cs.take (lo * e.sz) = cur.toList.take (lo * e.sz):=by rw [← htake,List.take_take,Nat.min_eq_left (by omega)]
        have hA:(cur.toList.take (lo * e.sz)).length = lo * e.sz:=by rw [List.length_take,hcurl];omega
        have hk:(lo + ys.length) * e.sz = lo * e.sz + dc.length:=by rw [Nat.add_mul,hdl]
        rw [List.append_assoc,List.take_append,hA,List.take_of_length_le (l:=cur.toList.take (lo * e.sz)) (by rw [hA];omega),List.take_append (l₁:=dc),List.take_of_length_le (l:=dc) (by rw [hdl];omega),ht,hk]
        conv=>rhs;rw [← htake,List.drop_take]
        rw [Nat.sub_add_eq]
      · have hR:RepCs (.arr (xs.take lo ++ (ys ++ xs.drop (lo + ys.length))).length e) w (Kx K n L) (cs.take (lo * e.sz) ++ (dc ++ cs.drop ((lo + ys.length) * e.sz))) (xs.take lo ++ (ys ++ xs.drop (lo + ys.length))):=happ
        exact hR.keep (Keeps.wrote hw hgL) fun _ _ h=>h
theorem e_a {P:Program} (w:World) (T T2 ty E:TypeId) (ie:TypeInfo) (hu:P.underlying T = some (.slice E)) (hi:P.info? E = some ie) (g off dLen dCap:Nat) (sA:Option Addr) (sLen sCap:Nat) (cur:Array Value) (t:TypeId) (cs:List Value) (hg:w.heap[g]? = some (.cells cur t (0,0)))
    (hn:cs.length = Nat.min sLen dLen * ie.size) (hs0:sA = none → cs = []) (hsrc:∀ a,sA = some a → ∀ j v,cs[j]? = some v → w.cell? (a.add j) = some v) (hfit:off + cs.length ≤ cur.size) (h1:∀ v ∈ cs,v.oneCell' = true) :
    (Builtin.copy_ #[T,T2] ty #[.slice (some ⟨g,off,none⟩) dLen dCap,.slice sA sLen sCap]).run P w = .ok (goInt (Nat.min sLen dLen)) (w.setRow g (cur.toList.take off ++ cs ++ cur.toList.drop (off + cs.length)).toArray):=by
  have hst:=run_storeCells_at P g off t cs 0 cur w hg (by simpa using hfit) h1
  simp only [Nat.add_zero] at hst
  cases sA with
  | none =>
    obtain rfl:=hs0 rfl
    simp [Builtin.copy_,run_underlying hu,Builtin.lenOf,Builtin.firstCells,sizeOf,typeInfo,hi] at hn hst ⊢
    simp [storeCells] at hst ⊢
    exact hst
  | some a =>
    have hl:=run_loadCells_list (P:=P) w a cs (hsrc a rfl)
    simp [Builtin.copy_,run_underlying hu,Builtin.lenOf,Builtin.firstCells,sizeOf,typeInfo,hi,← hn,hl,hst]
theorem u8s_rep {w:World} {K:Nat → Prop} {m:List Int} (hB:Byt m):RepCs (.arr m.length (.int .u8)) w K (u8s m) m:=by
  have hfl:∀ q:List Int,u8s q = (q.map fun x=>[Value.int .u8 x]).flatten:=by
    intro q
    induction q with
    | nil=>rfl
    | cons y q ih=>simp only [List.map_cons,List.flatten_cons,← ih];rfl
  refine ⟨rfl,m.map fun x=>[.int .u8 x],hfl m,by simp,fun j c y hc hy=>?_⟩
  simp only [List.getElem?_map,hy,Option.map_some,Option.some.injEq] at hc
  have:=hB y (List.mem_of_getElem? hy)
  exact ⟨hc.symm,by simpa [InR,IntKind.min,IntKind.max,IntKind.signed,IntKind.bits] using this⟩
theorem e_m {m:List Int} (hB:Byt m):((strOfNums m).data.map fun b=>Value.int .u8 b.toNat) = (u8s m).toArray:=by
  simp only [strOfNums,List.map_toArray,u8s,List.map_map]
  congr 1
  refine List.map_congr_left fun x hx=>?_
  have:=hB x hx
  simp
  omega
theorem a_9 (S:StD ds N a l) {T T2 E:TypeId} {x y:Operand} {e:GT} {v v' u:Value} {xs:List (PT e)} {c:Option Nat} {m:Nat} {ys:Sl (PT e)} (ho:o.op = .call { callee:=.builtin .copy,args:=#[x,y],argTypes:=#[T,T2] }) (ht:tie P (.sl e) false T [] 0 = true) (hE:P.underlying T = some (.slice E)) (hd:o.dst = some d) (hN:Nat.blt d N = true)
    (hx:ev l x = some v') (hs:SubV e.sz v m v') (hy:ev l y = some u) (O:Ow e E w n (Kx K n L) v xs c) (i:Nat) (hi:L[i]? = some v.ownBlock) (R:RepV (.sl e) w (Kx K n L) u ys)
    (k:∀ a' w',Apd w w' v v → Ow e E w' n (Kx K n L) v (xs.take m ++ c_c (xs.drop m) ys.xs) c → InR .i64 ((Nat.min ys.xs.length (xs.length - m):Nat):Int) → StD ds N a' ((d,.int .i64 ((Nat.min ys.xs.length (xs.length - m):Nat):Int)) :: l) → Kont a' w'):o.wp P a w Kont Q:=by
  obtain ⟨A,q,cu,rfl,hm,hmc,hc63,_,hrow⟩:=R.sl
  obtain ⟨E',hE',htE⟩:=a_T ht
  obtain rfl:E = E':=by rw [hE] at hE';injection hE' with h;injection h
  obtain ⟨ie,hie,hse⟩:=a_z htE
  obtain ⟨d1,hd1,hA⟩:=hrow.cells
  have O':=O
  obtain ⟨cs,h1,h2,h3⟩:=O'
  have hr:InR .i64 ((Nat.min ys.xs.length (xs.length - m):Nat):Int):=by
    have h5:Nat.min ys.xs.length (xs.length - m) ≤ ys.xs.length:=Nat.min_le_left ..
    simp only [InR,IntKind.min,IntKind.max,IntKind.signed,IntKind.bits]
    simp
    omega
  have hgo:goInt (Nat.min q (xs.length - m)) = .int .i64 ((Nat.min ys.xs.length (xs.length - m):Nat):Int):=by rw [hm];rfl
  have hd1l:d1.length = ys.xs.length * e.sz:=hd1.len
  obtain ⟨B,nn,cap,rfl,hmn,hnc,rfl⟩:=hs
  rcases h1.2 with ⟨e1,e2⟩ | ⟨g,cap',cur,e1,hb,hg,hnc',hcm,hcs,htake⟩
  · injection e1 with f1 f2 f3
    subst f1 f2 f3
    have hxs:xs = []:=List.eq_nil_of_length_eq_zero e2
    subst hxs
    have hm0:m = 0:=by omega
    subst hm0
    have hmin:Nat.min q 0 = 0:=Nat.min_zero q
    have hrun:(Builtin.copy_ #[T,T2] o.type #[.slice none 0 0,.slice A q cu]).run P w = .ok (goInt 0) w:=by
      have hl0:∀ (q:Addr),(loadCells q 0).run P w = .ok #[] w:=fun q=>by simpa using run_loadCells_list (P:=P) w q [] (by simp)
      cases A <;> simp [Builtin.copy_,run_underlying hE,Builtin.lenOf,Builtin.firstCells,sizeOf,typeInfo,hie,hmin,hl0]
    refine a_u S (v:=.int .i64 ((Nat.min ys.xs.length (([]:List (PT e)).length - 0):Nat):Int)) (w':=w) hd hN ?_ fun a'=>k a' w ⟨⟨rfl,rfl,rfl,Nat.le_refl _,fun _ _ _=>rfl⟩,.inl rfl,fun q hq=>by cases hq⟩ ?_ hr
    · have:goInt 0 = .int .i64 ((Nat.min ys.xs.length (([]:List (PT e)).length - 0):Nat):Int):=by rw [← hgo];simp
      have hx':=S.eval hx
      simp only [if_true] at hx'
      simp [execOp,ho,resolve,invoke,builtin,hx',S.eval hy,hrun,this]
    · have e0:([]:List (PT e)).take 0 ++ c_c (([]:List (PT e)).drop 0) ys.xs = []:=by simp [c_c]
      rw [e0]
      exact ⟨cs,h1,h2,h3⟩
  · injection e1 with f1 f2 f3
    subst f1 f2 f3
    have hml:m ≤ xs.length:=hmn
    have hsub:∃ off,(if cap = m then (some ⟨g,0,none⟩:Option Addr) else Option.map (·.add (m * e.sz)) (some (⟨g,0,none⟩:Addr))) = some ⟨g,off,none⟩ ∧ (xs.length - m = 0 ∨ off = m * e.sz) ∧ off ≤ m * e.sz:=by
      by_cases hcq:cap = m
      · exact ⟨0,by rw [if_pos hcq],.inl (by omega),Nat.zero_le _⟩
      · refine ⟨m * e.sz,?_,.inr rfl,Nat.le_refl _⟩
        rw [if_neg hcq]
        show some ((⟨g,0,none⟩:Addr).add (m * e.sz)) = _
        rw [Addr.add_lit];simp
    obtain ⟨off,hoff,hom,hol⟩:=hsub
    rw [hoff] at hx
    have hk:(d1.take (Nat.min q (xs.length - m) * ie.size)).length = Nat.min q (xs.length - m) * ie.size:=by
      rw [List.length_take,hd1l,hse,hm]
      exact Nat.min_eq_left (Nat.mul_le_mul_right _ (Nat.min_le_left ..))
    have hcurl:cur.toList.length = cap * e.sz:=by simpa using hcs
    have hle:Nat.min q (xs.length - m) * e.sz ≤ (xs.length - m) * e.sz:=Nat.mul_le_mul_right _ (Nat.min_le_right ..)
    have hle2:(m + (xs.length - m)) * e.sz ≤ cap * e.sz:=Nat.mul_le_mul_right _ (by omega)
    rw [Nat.add_mul] at hle2
    have hone:=hd1.one
    have hrun:=e_a (P:=P) w T T2 o.type E ie hE hie g off (xs.length - m) (cap - m) A q cu cur E (d1.take (Nat.min q (xs.length - m) * ie.size)) hg hk (fun hAn=>by
        rcases hA with h0 | ⟨b,off,e1,_⟩
        · have:d1 = []:=List.eq_nil_of_length_eq_zero (by rw [hd1l,h0];simp)
          rw [this];simp
        · rw [hAn] at e1;cases e1) (fun r hq j u hj=>by
        rcases hA with h0 | ⟨b,off,e1,_,_,hcell⟩
        · have:d1 = []:=List.eq_nil_of_length_eq_zero (by rw [hd1l,h0];simp)
          rw [this] at hj;simp at hj
        · rw [e1] at hq
          obtain rfl:=Option.some.inj hq
          rw [List.getElem?_take] at hj
          split at hj
          · rw [Addr.add_lit];exact hcell j u hj
          · cases hj) (by rw [hk,hse];simp at hcurl ⊢;omega) (fun u hu=>hone u (List.mem_of_mem_take hu))
    have htk:RepCs (.arr (ys.xs.take (xs.length - m)).length e) w (Kx K n L) (d1.take ((xs.length - m) * e.sz)) (ys.xs.take (xs.length - m)):=e_k hd1 _
    have e1:d1.take (Nat.min q (xs.length - m) * ie.size) = d1.take ((xs.length - m) * e.sz):=by
      rw [hse]
      rcases Nat.le_total q (xs.length - m) with h | h
      · rw [show Nat.min q (xs.length - m) = q from Nat.min_eq_left h,List.take_of_length_le (by rw [hd1l,hm];exact Nat.le_refl _),List.take_of_length_le (by rw [hd1l,hm];exact Nat.mul_le_mul_right _ h)]
      · rw [show Nat.min q (xs.length - m) = xs.length - m from Nat.min_eq_right h]
    rw [e1] at hrun
    have hyl:(ys.xs.take (xs.length - m)).length ≤ xs.length - m:=by rw [List.length_take];exact Nat.min_le_left _ _
    obtain ⟨lo,hlo,hlf,hlx⟩:∃ lo,off = lo * e.sz ∧ lo + (ys.xs.take (xs.length - m)).length ≤ xs.length ∧ xs.take lo ++ (ys.xs.take (xs.length - m) ++ xs.drop (lo + (ys.xs.take (xs.length - m)).length)) = xs.take m ++ c_c (xs.drop m) ys.xs:=by
      by_cases hz:off = m * e.sz
      · refine ⟨m,hz,by omega,?_⟩
        unfold c_c
        rw [List.length_drop,List.drop_drop]
        congr 2
        rw [List.length_take]
        rcases Nat.le_total ys.xs.length (xs.length - m) with h | h
        · rw [Nat.min_eq_right h]
        · rw [Nat.min_eq_left h,List.drop_eq_nil_of_le (by omega),List.drop_eq_nil_of_le (by omega)]
      · have h0:xs.length - m = 0:=hom.resolve_right hz
        have hmx:m = xs.length:=by omega
        have ho0:off = 0:=by
          by_cases hcq:cap = m
          · rw [if_pos hcq] at hoff
            injection hoff with hoff
            injection hoff with _ h _
            exact h.symm
          · rw [if_neg hcq] at hoff
            exfalso;apply hz
            have:(⟨g,0,none⟩:Addr).add (m * e.sz) = ⟨g,off,none⟩:=Option.some.inj hoff
            rw [Addr.add_lit] at this
            injection this with _ h _
            omega
        refine ⟨0,by rw [ho0];simp,by omega,?_⟩
        rw [h0,hmx]
        simp [c_c]
    obtain ⟨pa,po⟩:=O.put_at (dc:=d1.take ((xs.length - m) * e.sz)) (lo:=lo) hi hg htk hlf
    rw [hlx,← hlo] at po
    rw [← hlo] at pa
    refine a_u S (v:=.int .i64 ((Nat.min ys.xs.length (xs.length - m):Nat):Int)) hd hN ?_ fun a'=>k a' _ pa po hr
    simp [execOp,ho,resolve,invoke,builtin,S.eval hx,S.eval hy,hrun,hgo]
def fitI {α β:Type} (ys:List α) (xs:List β):Option Unit:=if ys.length ≤ xs.length then some () else none
theorem fitI_le {α β:Type} {ys:List α} {xs:List β} {u:Unit} (h:fitI ys xs = some u):ys.length ≤ xs.length:=by
  unfold fitI at h
  split at h
  · assumption
  · cases h
theorem op_copyS (S:StD ds N a l) {T T2 E:TypeId} {x y:Operand} {v:Value} {xs ys:List Int} {c:Option Nat} (ho:o.op = .call { callee:=.builtin .copy,args:=#[x,y],argTypes:=#[T,T2] }) (ht:tie P (.sl (.int .u8)) false T [] 0 = true) (hE:P.underlying T = some (.slice E)) (hd:o.dst = some d) (hN:Nat.blt d N = true)
    (hx:ev l x = some v) (hy:ev l y = some (.string (strOfNums ys))) (hB:Byt ys) (hfit:ys.length ≤ xs.length) (O:Ow (.int .u8) E w n (Kx K n L) v xs c) (i:Nat) (hi:L[i]? = some v.ownBlock)
    (k:∀ a' w',Apd w w' v v → Ow (.int .u8) E w' n (Kx K n L) v (c_c xs ys) c → StD ds N a' ((d,.int .i64 (ys.length:Int)) :: l) → Kont a' w'):o.wp P a w Kont Q:=by
  obtain ⟨E',hE',htE⟩:=a_T ht
  obtain rfl:E = E':=by rw [hE] at hE';injection hE' with h;injection h
  obtain ⟨ie,hie,hse⟩:=a_z htE
  have hcs:RepCs (.arr ys.length (.int .u8)) w (Kx K n L) (u8s ys) ys:=u8s_rep hB
  have hul:(u8s ys).length = ys.length:=by simp [u8s]
  have hdata:((strOfNums ys).data.map fun b=>Value.int .u8 b.toNat) = (u8s ys).toArray:=e_m hB
  have O':=O
  obtain ⟨cs,h1,h2,h3⟩:=O'
  rcases h1.2 with ⟨rfl,hx0⟩ | ⟨g,cap,cur,rfl,hb,hg,hnc,hcm,hsz,htake⟩
  · have hys:ys = []:=List.eq_nil_of_length_eq_zero (by omega)
    subst hys
    have hxs:xs = []:=List.eq_nil_of_length_eq_zero hx0
    subst hxs
    have hrun:(Builtin.copy_ #[T,T2] o.type #[.slice none 0 0,.string (strOfNums [])]).run P w = .ok (goInt 0) w:=by
      simp [Builtin.copy_,run_underlying hE,Builtin.lenOf,Builtin.firstCells,sizeOf,typeInfo,hie,b_i]
    refine a_u S (v:=.int .i64 (([]:List Int).length:Int)) (w':=w) hd hN ?_ fun a'=>k a' w ⟨⟨rfl,rfl,rfl,Nat.le_refl _,fun _ _ _=>rfl⟩,.inl rfl,fun q hq=>by cases hq⟩ ?_
    · simp [execOp,ho,resolve,invoke,builtin,S.eval hx,S.eval hy,hrun,goInt]
    · have e0:c_c ([]:List Int) [] = []:=by simp [c_c]
      rw [e0]
      exact ⟨cs,h1,h2,h3⟩
  · have hcurl:cur.toList.length = cap:=by simpa [GT.sz] using hsz
    have hmin:Nat.min ys.length xs.length = ys.length:=Nat.min_eq_left hfit
    have hst:=run_storeCells_at P g 0 E (u8s ys) 0 cur w hg (by rw [hul];simp at hcurl ⊢;omega) (fun u hu=>by obtain ⟨x,_,rfl⟩:=List.mem_map.1 hu;rfl)
    simp only [Nat.add_zero] at hst
    have hext:((strOfNums ys).extract 0 ys.length) = strOfNums ys:=by
      unfold strOfNums
      have h:=ByteArray.extract_mk (ys.map fun n=>UInt8.ofNat n.toNat) 0 ys.length
      rw [List.drop_zero,Nat.sub_zero,List.take_of_length_le (by simp)] at h
      simpa using h
    have hrun:(Builtin.copy_ #[T,T2] o.type #[.slice (some ⟨g,0,none⟩) xs.length cap,.string (strOfNums ys)]).run P w = .ok (goInt ys.length) (w.setRow g (cur.toList.take (0 * (GT.int .u8).sz) ++ u8s ys ++ cur.toList.drop (0 * (GT.int .u8).sz + (u8s ys).length)).toArray):=by
      have hmin':min ys.length xs.length = ys.length:=Nat.min_eq_left hfit
      rw [Nat.zero_mul]
      rw [Nat.zero_add]
      simp [Builtin.copy_,run_underlying hE,Builtin.lenOf,Builtin.firstCells,sizeOf,typeInfo,hie,b_i,hmin',hext,hdata]
      rw [List.take_of_length_le (by rw [hul];exact Nat.le_refl _),hst]
      simp [hul]
    obtain ⟨pa,po⟩:=Ow.put_at (e:=.int .u8) (ys:=ys) (dc:=u8s ys) (lo:=0) O hi hg hcs (by omega)
    have hl:xs.take 0 ++ (ys ++ xs.drop (0 + ys.length)) = c_c xs ys:=by simp [c_c,List.take_of_length_le hfit]
    rw [hl] at po
    refine a_u S (v:=.int .i64 (ys.length:Int)) hd hN ?_ fun a'=>k a' _ pa po
    simp [execOp,ho,resolve,invoke,builtin,S.eval hx,S.eval hy,hrun,goInt]
end
theorem SbX.yst {w0 w w':World} {X P Q:List (Option Nat)} {n:Nat} (h:SbX w0 X w) (hy:Yst n w P w' Q) (hg:∀ c,some c ∈ P → w0.heap.size ≤ c ∨ some c ∈ X):SbX w0 X w' :=
  ⟨Nat.le_trans h.size hy.size,fun k hk hx=>(hy.keep k (Nat.lt_of_lt_of_le hk h.size) fun e=>by
    rcases hg k e with q | q
    · omega
    · exact hx q).trans (h.block k hk hx)⟩
end Go.Proofs.Ytlbaijkolglheaa
namespace Go.Proofs.Ytlbaijkolglheaa
open Go.RowKit
def Oby (e:GT) (E:TypeId) (w:World) (n:Nat) (K:Nat → Prop) (v:Value) (xs:List (PT e)) (c:Option Nat):Prop :=
  ∃ g cap cur fz,v = .slice (some ⟨g,0,.none⟩) xs.length cap ∧ n ≤ g ∧ w.heap[g]? = some (.cells cur E fz) ∧ cap ≤ fz.1 ∧ xs.length ≤ cap ∧ cap ≤ maxLen ∧ cur.size = cap ∧ e = .int .u8 ∧ RepCs (.arr xs.length e) w K (cur.toList.take xs.length) xs ∧ c = none
section
variable {w0 w w':World} {L:List (Option Nat)} {K:Nat → Prop} {n b i:Nat} {v:Value} {e:GT} {E:TypeId} {xs:List (PT e)} {c:Option Nat}
theorem Oby.step (h:Oby e E w n K v xs c) (hb:Below w.heap.size w w'):Oby e E w' n K v xs c:=by
  obtain ⟨g,cap,cur,fz,h1,h2,h3,h4,h5,h6,h7,h8,h9,h10⟩:=h
  exact ⟨g,cap,cur,fz,h1,h2,(hb.block g (Array.getElem?_eq_some_iff.1 h3).1).trans h3,h4,h5,h6,h7,h8,h9.keep (Keeps.below hb) fun _ _ h=>h,h10⟩
theorem Oby.forget (h:Oby e E w n K v xs c):Oby e E w n K v xs .none:=by
  obtain ⟨g,cap,cur,fz,h1,h2,h3,h4,h5,h6,h7,h8,h9,h10⟩:=h
  exact ⟨g,cap,cur,fz,h1,h2,h3,h4,h5,h6,h7,h8,h9,rfl⟩
theorem Oby.pub {L':List (Option Nat)} (h:Oby e E w n (Kx K n L) v xs c) (hs:L'.Sublist L) (hno:∀ k,v.ownBlock = some k → some k ∉ L'):RepV (.sl e) w (Kx K n L') v ⟨xs,c⟩:=by
  obtain ⟨g,cap,cur,fz,rfl,h2,h3,h4,h5,h6,h7,rfl,h9,rfl⟩:=h
  refine ⟨[_],⟨_,xs.length,cap,rfl,rfl,h5,by simpa [maxLen] using h6,fun q hq=>(by cases hq),?_⟩,rfl⟩
  refine RowsOf.of_cells (cs:=cur.toList.take xs.length) (h9.keep (Keeps.refl _ _) fun c _ hk=>⟨hk.1,fun hm=>hk.2 (hs.subset hm)⟩) (Array.getElem?_eq_some_iff.1 h3).1 ⟨.inr h2,hno g rfl⟩ fun i u hu=>?_
  rw [Nat.zero_add,cell_of_row w g i cur E fz h3]
  rw [List.getElem?_take] at hu
  split at hu
  · simpa using hu
  · cases hu
theorem Oby.read (h:Oby e E w n (Kx K n L) v xs c):RepV (.sl e) w (Kx K n []) v ⟨xs,c⟩:=h.pub (List.nil_sublist _) fun _ _ h=>(List.not_mem_nil h).elim
theorem Oby.pubAt (h:Oby e E w n (Kx K n L) v xs c) (W:Wd w0 w L) (i:Nat) (hi:L[i]? = some v.ownBlock):RepV (.sl e) w (Kx K n (L.eraseIdx i)) v ⟨xs,c⟩:=by
  refine h.pub (List.eraseIdx_sublist _ _) fun k hk hm=>?_
  obtain ⟨j,hj⟩:=List.getElem?_of_mem hm
  rw [List.getElem?_eraseIdx] at hj
  rw [hk] at hi
  split at hj
  · rename_i hlt
    exact absurd rfl (W.bne (p:=j) (q:=i) (by omega) hj hi)
  · rename_i hlt
    exact absurd rfl (W.bne (p:=j + 1) (q:=i) (by omega) hj hi)
end
section
variable {ds:List Deferred} {N:Nat} {a:Act} {l:List (Nat × Value)} {w w0:World} {P:Program} {ops:Array Oper} {Q:Exit → Act → World → Prop} {rest:List Oper} {o:Oper} {Kont:Act → World → Prop} {d:Nat} {K:Nat → Prop} {n:Nat} {L:List (Option Nat)}
theorem e_b (S:StD ds N a l) (W:Wd w0 w L) {src dst E:TypeId} {x:Operand} {m:List Int} (ho:o.op = .convert src dst x) (ht:tie P .str false src [] 0 = true) (ht':tie P (.sl (.int .u8)) false dst [] 0 = true) (hE:P.underlying dst = some (.slice E)) (hd:o.dst = some d) (hN:Nat.blt d N = true)
    (hx:ev l x = some (.string (strOfNums m))) (hB:Byt m) (hm:m.length ≤ 9223372036854775807) (k:∀ a' w' b q,NewB w w' b → Oby (.int .u8) E w' w0.heap.size (Kx K w0.heap.size (some b :: L)) (.slice (some ⟨b,0,.none⟩) m.length q) m none → StD ds N a' ((d,.slice (some ⟨b,0,.none⟩) m.length q) :: l) → Kont a' w'):o.wp P a w Kont Q:=by
  obtain ⟨E',hE',htE⟩:=a_T ht'
  obtain rfl:E = E':=by rw [hE] at hE';injection hE' with h;injection h
  have hrun:=Lib.run_convert_string_bytes (P:=P) w src dst E (strOfNums m) (b_y ht) hE (a_6 htE)
  have hge:=grownCap_ge w (strOfNums m).size 0 E
  have hle:=grownCap_le_maxLen w (strOfNums m).size 0 E (by rw [b_i];simpa [maxLen] using hm)
  have hsz:=b_i m
  rw [hsz] at hge hle
  have hnew:NewB w (Lib.bytesWorld w E (strOfNums m)) w.heap.size:=⟨⟨rfl,rfl,rfl,by rw [Lib.bytesWorld_size];omega,fun k hk=>Lib.bytesWorld_at_old w E _ k hk⟩,Nat.le_refl _,by rw [Lib.bytesWorld_size];omega⟩
  have hcells:Lib.bytesCells w E (strOfNums m) = (u8s m ++ List.replicate (grownCap w (strOfNums m).size 0 E - (strOfNums m).size) (Value.int .u8 0)).toArray:=by
    unfold Lib.bytesCells
    rw [e_m hB]
    simp
  have hul:(u8s m).length = m.length:=by simp [u8s]
  have hcs:(Lib.bytesCells w E (strOfNums m)).size = grownCap w m.length 0 E:=by rw [hcells,hsz];simp [hul];omega
  refine a_u S (v:=.slice (some ⟨w.heap.size,0,.none⟩) m.length (grownCap w (strOfNums m).size 0 E)) (w':=Lib.bytesWorld w E (strOfNums m)) hd hN ?_ fun a'=>k a' _ _ _ hnew ⟨w.heap.size,_,_,_,rfl,W.below.size,Lib.bytesWorld_at_new ..,?_,?_,?_,?_,rfl,?_,rfl⟩
  · simp only [execOp,ho,S.eval hx]
    simp [hrun,b_i]
  · rw [hcs,hsz];exact Nat.le_refl _
  · rw [hsz];exact hge
  · rw [hsz];exact hle
  · rw [hcs,hsz]
  · rw [hcells,← hul]
    simp only [List.take_left]
    rw [hul]
    exact u8s_rep hB
theorem a_k (S:StD ds N a l) {T E:TypeId} {x i:Operand} {v:Value} {xs:List Int} {c:Option Nat} {k0:IntKind} {j:Int} {y:Int} (ho:o.op = .indexAddr T x i) (ht:tie P (.sl (.int .u8)) false T [] 0 = true) (hd:o.dst = some d) (hN:Nat.blt d N = true)
    (hx:ev l x = some v) (O:Oby (.int .u8) E w n K v xs c) (hi:ev l i = some (.int k0 j)) (hj:idx xs j = some y)
    (k:∀ a' g,v.ownBlock = some g → RepAt (.int .u8) w K ⟨g,j.toNat * (GT.int .u8).sz,.none⟩ y → StD ds N a' ((d,.pointer (some ⟨g,j.toNat * (GT.int .u8).sz,.none⟩)) :: l) → Kont a' w):o.wp P a w Kont Q:=by
  obtain ⟨E',hE,htE⟩:=a_T ht
  obtain ⟨ie,hie,hse⟩:=a_z htE
  obtain ⟨h0,hg,hlt⟩:=a_H hj
  obtain ⟨g,cap,cur,fz,rfl,h2,h3,h4,h5,h6,h7,h8,h9,h10⟩:=O
  have hlt':0 ≤ j ∧ j < (xs.length:Int):=⟨h0,hlt⟩
  refine a_u S (v:=.pointer (some ⟨g,j.toNat * (GT.int .u8).sz,.none⟩)) hd hN ?_ fun a'=>k a' g rfl ⟨rfl,?_⟩
  · simp [execOp,ho,S.eval hx,S.eval hi,Instr.indexAt,asIntOf,run_underlying hE,hlt',sizeOf,typeInfo,hie,hse,Addr.add_lit]
  · have hjl:=(List.getElem?_eq_some_iff.1 hg).1
    obtain ⟨c1,cc,c2,e1,e2,e3,_⟩:=Ln.arr (e:=.int .u8) hjl y w K _ xs h9
    have hgd:xs.getD j.toNat y = y:=by rw [List.getD_eq_getElem?_getD,hg];rfl
    have e3':RepCs (.int .u8) w K cc (xs.getD j.toNat y):=e3
    rw [hgd] at e3'
    refine ⟨cc,e3',fun i u hu=>?_⟩
    have hil:=(List.getElem?_eq_some_iff.1 hu).1
    have hq:(cur.toList.take xs.length)[j.toNat * (GT.int .u8).sz + i]? = some u:=by
      rw [e1,List.append_assoc,List.getElem?_append_right (by omega),e2,Nat.add_sub_cancel_left,List.getElem?_append_left hil]
      exact hu
    show w.cell? ⟨g,j.toNat * (GT.int .u8).sz + i,none⟩ = some u
    rw [cell_of_row w g _ cur E fz h3]
    rw [List.getElem?_take] at hq
    split at hq
    · simpa using hq
    · cases hq
theorem a_K (S:StD ds N a l) {T E:TypeId} {ad xo:Operand} {g:Nat} {xs:List Int} {c:Option Nat} {v:Value} {y z:Int} {j:Nat} (ho:o.op = .store T ad xo) (hd:o.dst = .none) (ht:tie P (.int .u8) false T [] 0 = true)
    (ha:ev l ad = some (.pointer (some ⟨g,j * (GT.int .u8).sz,.none⟩))) (hx:ev l xo = some (.int .u8 y)) (hy:InR .u8 y) (O:Oby (.int .u8) E w n (Kx K n L) v xs c) (hv:v.ownBlock = some g) (i:Nat) (hi:L[i]? = some v.ownBlock) (hj:xs[j]? = some z)
    (k:∀ w',Wrote g w w' → some g ∈ L → Oby (.int .u8) E w' n (Kx K n L) v (xs.set j y) c → Kont a w'):o.wp P a w Kont Q:=by
  have hgL:some g ∈ L:=by rw [← hv];exact List.mem_of_getElem? hi
  obtain ⟨g',cap,cur,fz,rfl,h2,h3,h4,h5,h6,h7,h8,h9,h10⟩:=O
  obtain rfl:g' = g:=by simpa [Value.ownBlock] using hv
  obtain ⟨it,hit,hsz⟩:=a_z ht
  have hjl:=(List.getElem?_eq_some_iff.1 hj).1
  have hj1:j * (GT.int .u8).sz = j:=by simp [GT.sz]
  rw [hj1] at ha
  have hjc:j < cur.size:=by omega
  have hcell:w.cell? ⟨g',j,none⟩ = some cur[j]:=by rw [cell_of_row w g' j cur E fz h3];simp [hjc]
  have hfro:w.frozen? ⟨g',j,none⟩ = false:=by
    obtain ⟨lo,hi'⟩:=fz
    simp only [World.frozen?,h3,Bool.and_eq_false_iff,decide_eq_false_iff_not]
    left
    simp only at h4
    omega
  have hst:(store ((⟨g',j,none⟩:Addr).add 0) (.int .u8 y)).run P w = .ok () (w.setRow g' (cur.setIfInBounds j (.int .u8 y))):=by
    rw [Addr.add_lit,Nat.add_zero,run_store P w _ (.int .u8 y) _ rfl,hcell]
    simp [hfro,setCell_eq_setRow w g' j cur E fz _ h3]
  have hrun:(execOp a.eval o).run P w = .ok .skip (w.setRow g' (cur.setIfInBounds j (.int .u8 y))):=by
    have hss:(Value.int .u8 y).cells.size = it.size:=by rw [hsz];rfl
    have hsv:(storeVar T ⟨g',j,.none⟩ (.int .u8 y)).run P w = .ok () (w.setRow g' (cur.setIfInBounds j (.int .u8 y))):=by
      simp only [storeVar,sizeOf,typeInfo,Sem.run_bind,Sem.run_pure,Result.andThen_ok,run_program,hit,hss,ne_eq,not_true_eq_false,if_false]
      show (storeCells ⟨g',j,none⟩ [.int .u8 y] 0).run P w = _
      simp only [storeCells,Sem.run_bind,hst,Result.andThen_ok]
      rfl
    simp [execOp,ho,S.eval ha,S.eval hx,Instr.storeAt,Instr.sureAddr,hsv]
  have hw:=b_w w g' (cur.setIfInBounds j (.int .u8 y))
  unfold Oper.wp
  rw [hrun]
  simp only [Oper.upon,hd]
  refine k _ hw hgL ⟨g',cap,_,fz,by simp,h2,setRow_heap w g' cur _ E fz h3,h4,by simpa using h5,h6,by simpa using h7,rfl,?_,h10⟩
  obtain ⟨c1,cc,c2,e1,e2,e3,eset⟩:=Ln.arr (e:=.int .u8) hjl z w _ _ xs h9
  have hnew:=eset [.int .u8 y] y ⟨rfl,hy⟩
  have hccl:cc.length = 1:=e3.len
  have e2':c1.length = j:=by rw [e2];exact hj1
  have htk:(cur.setIfInBounds j (.int .u8 y)).toList.take (xs.set j y).length = c1 ++ [.int .u8 y] ++ c2:=by
    obtain ⟨u,rfl⟩:∃ u,cc = [u]:=List.length_eq_one_iff.1 hccl
    rw [List.length_set,Array.toList_setIfInBounds,List.take_set,e1,← e2']
    simp [List.set_append]
  rw [htk,List.length_set]
  have hk:=hnew.keep (Keeps.wrote hw hgL) fun _ _ h=>h
  exact hk
end
theorem b_res3 {N:Nat} {a:Act} {l:List (Nat × Value)} {w:World} {P:Program} (S:St N a l) {fn:Func} {R:Ending → World → Prop} {r r' r'':ResultVar} {v v' v'':Value} (hr:fn.results = #[r,r',r'']) (h1:c_q P a w r v) (h2:c_q P a w r' v') (h3:c_q P a w r'' v'') (hR:R (.returned (.tuple #[v,v',v''])) w):bodyPost P fn R .ret a w:=by
  refine ⟨S.defers,_,?_,hR⟩
  rcases b_V h1 with ⟨t,rfl,h⟩ | ⟨p,T,ad,rfl,h,h'⟩ <;> rcases b_V h2 with ⟨t2,rfl,g⟩ | ⟨p2,T2,ad2,rfl,g,g'⟩ <;> rcases b_V h3 with ⟨t3,rfl,f⟩ | ⟨p3,T3,ad3,rfl,f,f'⟩ <;> simp only [Array.getD_eq_getD_getElem?] at h g f
  · simp [results,hr,h,g,f]
  · simp [results,hr,h,g,f,asAddr,f']
  · simp [results,hr,h,g,f,asAddr,g']
  · simp [results,hr,h,g,f,asAddr,g',f']
  · simp [results,hr,h,g,f,asAddr,h']
  · simp [results,hr,h,g,f,asAddr,h',f']
  · simp [results,hr,h,g,f,asAddr,h',g']
  · simp [results,hr,h,g,f,asAddr,h',g',f']
theorem b_res4 {N:Nat} {a:Act} {l:List (Nat × Value)} {w:World} {P:Program} (S:St N a l) {fn:Func} {R:Ending → World → Prop} {r r' r'' r3:ResultVar} {v v' v'' v3:Value} (hr:fn.results = #[r,r',r'',r3]) (h1:c_q P a w r v) (h2:c_q P a w r' v') (h3:c_q P a w r'' v'') (h4:c_q P a w r3 v3) (hR:R (.returned (.tuple #[v,v',v'',v3])) w):bodyPost P fn R .ret a w:=by
  refine ⟨S.defers,_,?_,hR⟩
  rcases b_V h1 with ⟨t,rfl,h⟩ | ⟨p,T,ad,rfl,h,h'⟩ <;> rcases b_V h2 with ⟨t2,rfl,g⟩ | ⟨p2,T2,ad2,rfl,g,g'⟩ <;> rcases b_V h3 with ⟨t3,rfl,f⟩ | ⟨p3,T3,ad3,rfl,f,f'⟩ <;> rcases b_V h4 with ⟨t4,rfl,k⟩ | ⟨p4,T4,ad4,rfl,k,k'⟩ <;> simp only [Array.getD_eq_getD_getElem?] at h g f k <;> clear h1 h2 h3 h4 hR S <;> simp [*,results,asAddr]
end Go.Proofs.Ytlbaijkolglheaa
