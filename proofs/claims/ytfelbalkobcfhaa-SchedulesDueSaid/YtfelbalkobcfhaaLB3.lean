/- The rules of the walk over plain data. Plain theorems, no condition. -/
import Derived.Test.YtfelbalkobcfhaaLB2
import Derived.Maps.RangeRun
import Derived.OrdersHeld
set_option linter.unusedVariables false
set_option linter.unusedSimpArgs false
namespace Go.Proofs.Ytfelbalkobcfhaa
open Go.RowKit
def Oq (φ:Obj → Prop) (w:World) (b:Nat):Prop:=∃ o,φ o ∧ Ox o w b
section
variable {w0 w w' A B:World} {L L' LO P Q:List (Option Nat)} {K:Nat → Prop} {n b d i:Nat} {φ:Obj → Prop} {v v':Value} {o:Option Nat}
theorem Oq.lt (h:Oq φ w b):b < w.heap.size:=by obtain ⟨o,_,h⟩:=h;exact h.lt
theorem Oq.step (h:Oq φ w b) (hb:Below w.heap.size w w'):Oq φ w' b:=by obtain ⟨o,hs,h⟩:=h;exact ⟨o,hs,h.step hb⟩
theorem Oq.box (h:Oq φ w b) (hb:NewB w w' i):Oq φ w' b:=h.step hb.below
theorem Oq.newO (h:Oq φ w b) (hN:NewO w w' o):Oq φ w' b:=h.step hN.below
theorem Oq.newW (h:Oq φ w b) (hN:Wd w w' P):Oq φ w' b:=h.step hN.below
theorem Oq.wrote (h:Oq φ w b) (hw:Wrote i w w') (hm:True) (hne:b ≠ i):Oq φ w' b:=by obtain ⟨o,hs,h⟩:=h;exact ⟨o,hs,h.wrote hw hm hne⟩
theorem Oq.apd (h:Oq φ w b) (W:Wd w0 w L) (ha:Apd w w' v v') (hi:L[i]? = some v.ownBlock) {j:Nat} (hj:L[j]? = some (some b)) (hji:j ≠ i):Oq φ w' b:=by obtain ⟨o,hs,h⟩:=h;exact ⟨o,hs,h.apd W ha hi hj hji⟩
theorem Oq.more (h:Oq φ w b):Oq φ w b:=h
theorem Oq.lessAt (h:Oq φ w b) (i:Nat):Oq φ w b:=h
theorem Oq.drop (h:Oq φ w b) (i:Nat):Oq φ w b:=h
theorem Oq.nc (h:Oq φ A b) (hn:Nc d A B) (hb:b ≠ d):Oq φ B b:=by obtain ⟨o,hs,h⟩:=h;exact ⟨o,hs,h.nc hn hb⟩
theorem Oq.mk_ {m:Nat} (h:Oq φ w b) (hm:Mk m L w w') (hb:some b ∈ L):Oq φ w' b:=by obtain ⟨o,hs,h⟩:=h;exact ⟨o,hs,h.mk_ hm hb⟩
theorem Oq.gr {I:List Nat} {g g':GW} (h:Oq φ g.2 b) (hg:Gr w0 I L g g'):Oq φ g'.2 b:=by obtain ⟨o,hs,h⟩:=h;exact ⟨o,hs,h.gr hg⟩
theorem Oq.gs {I:List Nat} {s c:Nat} {F:GW → Prop} {g g':GW} (h:Oq φ g.2 c) (hg:Gs w0 I L s b F g g') (hne:c ≠ b):Oq φ g'.2 c:=by obtain ⟨o,hs,h⟩:=h;exact ⟨o,hs,h.gs hg hne⟩
theorem Oq.sto {t:GT} {T:TypeId} {g:Nat} {xn:PT t} {K':Nat → Prop} (h:Oq φ w b) (hs:Sto t T K' g xn w w') (hne:b ≠ g):Oq φ w' b:=by obtain ⟨o,hq,h⟩:=h;exact ⟨o,hq,h.sto hs hne⟩
theorem Oq.yst (Bs:List (Option Nat)) (h:Oq φ A b) (hy:Yst n A LO B L') (W:Wd w0 A (Bs ++ LO)) (hb:some b ∈ Bs):Oq φ B b:=by obtain ⟨o,hs,h⟩:=h;exact ⟨o,hs,h.yst Bs hy W hb⟩
theorem Oq.yfr (LO:List (Option Nat)) (h:Oq φ A b) (hy:Yst n A P B Q) (W:Wd w0 A (P ++ LO)) (hb:some b ∈ LO):Oq φ B b:=by obtain ⟨o,hs,h⟩:=h;exact ⟨o,hs,h.yfr LO hy W hb⟩
end
def MapObj (kd:IntKind) (xs:List Int) (o:Obj):Prop:=∃ es:Array MapEntry,o = .map es xs.length ∧ es.toList.map (fun e=>(e.key,e.val)) = xs.map (fun x=>(Value.int kd x,Value.bool true)) ∧ es.toList.map (·.born) = List.range xs.length ∧ ∀ x ∈ xs,InR kd x
def ItO (b n:Nat) (S:List Nat):Obj:=.mapIter (some b) n S.toArray n
structure MapTy (P:Program) (Tm Tk Tv:TypeId) (kd:IntKind):Prop where
  mp:P.underlying Tm = some (.map Tk Tv)
  key:P.underlying Tk = some (.int kd)
def mapTyB (P:Program) (Tm Tk Tv:TypeId) (kd:IntKind):Bool:=isMp (P.underlying Tm) Tk Tv && isIn (P.underlying Tk) kd
theorem MapTy.of {P:Program} {Tm Tk Tv:TypeId} {kd:IntKind} (h:mapTyB P Tm Tk Tv kd = true):MapTy P Tm Tk Tv kd:=by
  simp only [mapTyB,Bool.and_eq_true] at h
  obtain ⟨h4,h5⟩:=h
  refine ⟨?_,?_⟩
  · unfold isMp at h4
    split at h4
    · rename_i k v hu
      simp only [Bool.and_eq_true,Nat.beq_eq] at h4
      rw [hu,h4.1,h4.2]
    · cases h4
  · unfold isIn at h5
    split at h5
    · rename_i k hu
      rw [hu,of_decide_eq_true h5]
    · cases h5
theorem MapObj.at {kd:IntKind} {xs:List Int} {es:Array MapEntry} (h1:es.toList.map (fun e=>(e.key,e.val)) = xs.map (fun x=>(Value.int kd x,Value.bool true))) (h2:es.toList.map (·.born) = List.range xs.length)
    {e:MapEntry} (he:e ∈ es.toList):∃ x,xs[e.born]? = some x ∧ e.key = .int kd x ∧ e.val = .bool true ∧ e.born < xs.length:=by
  obtain ⟨j,hj,hje⟩:=List.mem_iff_getElem.1 he
  have hl:es.toList.length = xs.length:=by have:=congrArg List.length h1;simpa using this
  have hb:e.born = j:=by
    have:=congrArg (fun l=>l[j]?) h2
    simp only [List.getElem?_map,List.getElem?_eq_getElem hj,Option.map_some,hje] at this
    rw [List.getElem?_range (by omega)] at this
    exact Option.some.inj this
  have hx:j < xs.length:=by omega
  have:=congrArg (fun l=>l[j]?) h1
  simp only [List.getElem?_map,List.getElem?_eq_getElem hj,Option.map_some,hje,List.getElem?_eq_getElem hx] at this
  have q:=Option.some.inj this
  refine ⟨xs[j],by rw [hb,List.getElem?_eq_getElem hx],?_,?_,by omega⟩
  · exact (Prod.mk.inj q).1
  · exact (Prod.mk.inj q).2
section
variable {ds:List Deferred} {N:Nat} {a:Act} {l:List (Nat × Value)} {w w0:World} {P:Program} {ops:Array Oper} {Q:Exit → Act → World → Prop} {rest:List Oper} {o:Oper} {Kont:Act → World → Prop} {d:Nat} {Tm Tk Tv:TypeId} {kd:IntKind}
theorem c_2 (S:StD ds N a l) (ho:o.op = .makeMap Tm .none) (hd:o.dst = some d) (hN:Nat.blt d N = true)
    (k:∀ a' w' b,NewB w w' b → Oq (MapObj kd []) w' b → StD ds N a' ((d,.map (some b)) :: l) → Kont a' w'):o.wp P a w Kont Q:=by
  refine a_K S (v:=.map (some w.heap.size)) (w':=w.alloc (.map #[] 0)) hd hN ?_ fun a'=>k a' _ w.heap.size (a_S w _) ⟨_,⟨#[],rfl,rfl,rfl,fun _ h=>(List.not_mem_nil h).elim⟩,heap_alloc_new w _,trivial⟩
  simp [execOp,ho,Instr.makeMap,newObj]
  rfl
theorem a_0 (S:StD ds N a l) (h:MapTy P Tm Tk Tv kd) {x ix y:Operand} {b:Nat} {z:Int} {xs:List Int} (ho:o.op = .mapUpdate Tm x ix y) (hd:o.dst = .none) (hx:ev l x = some (.map (some b))) (hi:ev l ix = some (.int kd z)) (hy:ev l y = some (.bool true)) (Gz:InR kd z)
    (M:Oq (MapObj kd xs) w b) (k:∀ w',Wrote b w w' → Oq (MapObj kd (d_c z xs)) w' b → Kont a w'):o.wp P a w Kont Q:=by
  obtain ⟨ob,⟨es,rfl,hes,hbo,hin⟩,hO⟩:=M
  have hb:=hO.lt
  have hg:(getObj b).run P w = .ok (.map es xs.length) w:=by show Sem.run P (.getObj b .pure) w = _;simp [Sem.run,hO.1]
  have hset:∀ ob:Obj,(setObj b ob).run P w = .ok () { w with heap:=w.heap.setIfInBounds b ob }:=fun ob=>by show Sem.run P (.setObj b ob (.pure ())) w = _;simp [Sem.run,hO.1]
  have fin:∀ ob:Obj,MapObj kd (d_c z xs) ob → (execOp a.eval o).run P w = .ok .skip { w with heap:=w.heap.setIfInBounds b ob } → o.wp P a w Kont Q:=fun ob hs hr=>by
    unfold Oper.wp
    rw [hr]
    simp only [Oper.upon,hd]
    refine k _ ⟨rfl,rfl,rfl,by simp,fun q hq=>by simp [Array.getElem?_setIfInBounds_ne (Ne.symm hq)]⟩ ⟨ob,hs,?_,trivial⟩
    simp [hb]
  have hin':∀ x ∈ d_c z xs,InR kd x:=fun x hx=>by
    unfold d_c at hx
    by_cases hm:z ∈ xs
    · rw [if_pos hm] at hx;exact hin x hx
    · rw [if_neg hm] at hx
      rcases List.mem_append.1 hx with hx | hx
      · exact hin x hx
      · rw [List.mem_singleton.1 hx];exact Gz
  rcases d_u kd z es.toList xs 0 hes with ⟨h1,j,_,h2,e,h3,h4,h5⟩ | ⟨h1,h2⟩
  · have h3':es[j]? = some e:=by simpa using h3
    refine fin (.map (es.modify j fun e=>{ e with key:=.int kd z,val:=.bool true }) xs.length) ⟨_,by rw [d_c,if_pos h1],?_,?_,hin'⟩ ?_
    · rw [d_c,if_pos h1,← hes]
      refine List.ext_getElem? fun q=>?_
      simp only [List.getElem?_map,Array.getElem?_toList,Array.getElem?_modify]
      by_cases hq:j = q
      · subst hq
        simp [h3',h4,h5]
      · simp [hq]
    · rw [d_c,if_pos h1,← hbo]
      refine List.ext_getElem? fun q=>?_
      simp only [List.getElem?_map,Array.getElem?_toList,Array.getElem?_modify]
      by_cases hq:j = q
      · subst hq
        simp [h3']
      · simp [hq]
    · simp [execOp,ho,S.eval hx,S.eval hi,S.eval hy,Instr.mapUpdate,run_underlying h.mp,hg,b_Z _ h.key,Instr.findKey,run_underlying h.key,h2,h3',h4,Instr.keyThatStays,Instr.sameBits,hset]
  · refine fin (.map (es.push { key:=.int kd z,val:=.bool true,born:=xs.length }) (xs.length + 1)) ⟨_,by rw [d_c,if_neg h1,List.length_append];rfl,?_,?_,hin'⟩ ?_
    · rw [d_c,if_neg h1]
      simp [hes]
    · rw [d_c,if_neg h1]
      simp [hbo,List.range_succ]
    · simp [execOp,ho,S.eval hx,S.eval hi,S.eval hy,Instr.mapUpdate,run_underlying h.mp,hg,b_Z _ h.key,Instr.findKey,run_underlying h.key,h2,hset]
theorem op_lenMap (S:StD ds N a l) (h:MapTy P Tm Tk Tv kd) {x:Operand} {b:Nat} {xs:List Int} {y:Int} (ho:o.op = .call { callee:=.builtin .len,args:=#[x],argTypes:=#[Tm] }) (hd:o.dst = some d) (hN:Nat.blt d N = true)
    (hx:ev l x = some (.map (some b))) (M:Oq (MapObj kd xs) w b) (hy:ckI .i64 (xs.length:Int) = some y) (k:∀ a',StD ds N a' ((d,.int .i64 y) :: l) → Kont a' w):o.wp P a w Kont Q:=by
  obtain ⟨ob,⟨es,rfl,hes,hbo,hin⟩,hO⟩:=M
  have hg:(getObj b).run P w = .ok (.map es xs.length) w:=by show Sem.run P (.getObj b .pure) w = _;simp [Sem.run,hO.1]
  have hl:es.size = xs.length:=by have:=congrArg List.length hes;simpa using this
  have hyy:=(a_j hy).1
  subst hyy
  refine a_K S hd hN ?_ k
  simp [execOp,ho,resolve,invoke,builtin,S.eval hx,Builtin.len_,run_underlying h.mp,goInt,hg,hl]
theorem e_O (S:StD ds N a l) (h:MapTy P Tm Tk Tv kd) {x:Operand} {b:Nat} {xs:List Int} (ho:o.op = .range Tm x) (hd:o.dst = some d) (hN:Nat.blt d N = true) (hx:ev l x = some (.map (some b))) (M:Oq (MapObj kd xs) w b)
    (k:∀ a' w' i,NewB w w' i → Ox (ItO b xs.length []) w' i → StD ds N a' ((d,.pointer (some ⟨i,0,.none⟩)) :: l) → Kont a' w'):o.wp P a w Kont Q:=by
  obtain ⟨ob,⟨es,rfl,hes,hbo,hin⟩,hO⟩:=M
  refine a_K S (v:=.pointer (some ⟨w.heap.size,0,.none⟩)) (w':=w.alloc (ItO b xs.length [])) hd hN ?_ fun a'=>k a' _ w.heap.size (a_S w _) ⟨heap_alloc_new w _,trivial⟩
  have:=run_range_map w Tm Tk Tv b es xs.length h.mp hO.1
  simp [execOp,ho,S.eval hx,this]
  rfl
theorem f_l (S:StD ds N a l) {it:Operand} {b i:Nat} {xs:List Int} {Se:List Nat} (ho:o.op = .next it false) (hd:o.dst = some d) (hN:Nat.blt d N = true) (hx:ev l it = some (.pointer (some ⟨i,0,.none⟩))) (M:Oq (MapObj kd xs) w b) (I:Ox (ItO b xs.length Se) w i)
    (k1:∀ a',(∀ k,k < xs.length → k ∈ Se) → StD ds N a' ((d,.tuple #[.bool false]) :: l) → Kont a' w)
    (k2:∀ a' w' k x,k ∉ Se → xs[k]? = some x → InR kd x → Wrote i w w' → Ox (ItO b xs.length (Se ++ [k])) w' i → StD ds N a' ((d,.tuple #[.bool true,.int kd x,.bool true]) :: l) → Kont a' w'):o.wp P a w Kont Q:=by
  obtain ⟨ob,⟨es,rfl,hes,hbo,hin⟩,hO⟩:=M
  have hold:∀ x ∈ es.toList,x.born < xs.length:=fun x hx=>by obtain ⟨_,_,_,_,h⟩:=MapObj.at hes hbo hx;exact h
  have hil:=I.lt
  rcases run_next_at (P:=P) w o.type i b xs.length xs.length Se.toArray es xs.length I.1 hO.1 hold (Nat.le_refl _) with ⟨h0,hr⟩ | ⟨e,he,w1,hw1,hr⟩
  · refine a_K S hd hN (by simp [execOp,ho,S.eval hx,hr]) fun a'=>k1 a' fun k hk=>?_
    have hmem:k ∈ es.toList.map (·.born):=by rw [hbo];exact List.mem_range.2 hk
    obtain ⟨e,he,rfl⟩:=List.mem_map.1 hmem
    have hz:leftOf es Se.toArray = #[]:=Array.eq_empty_of_size_eq_zero h0
    unfold leftOf at hz
    rw [Array.filter_eq_empty_iff] at hz
    have:=hz e (by simpa using he)
    simpa using this
  · have hem:e ∈ es.toList:=by unfold leftOf at he;simp at he ⊢;exact he.1
    have hns:e.born ∉ Se:=by unfold leftOf at he;simp at he;exact he.2
    obtain ⟨x,hxx,hk,hv,hlt⟩:=MapObj.at hes hbo hem
    refine a_K S hd hN (by simp [execOp,ho,S.eval hx,hr];exact ⟨rfl,rfl⟩) fun a'=>?_
    rw [hk,hv]
    refine k2 a' _ e.born x hns hxx (hin x (List.mem_of_getElem? hxx)) ?_ ⟨?_,trivial⟩
    · rcases hw1 with rfl | rfl
      · exact ⟨rfl,rfl,rfl,by simp [ChangeMaps.setBlock],fun q hq=>by simp [ChangeMaps.setBlock,Array.getElem?_setIfInBounds_ne (Ne.symm hq)]⟩
      · exact ⟨rfl,rfl,rfl,by show (w.heap.setIfInBounds i _).size = _;simp,fun q hq=>by show (w.heap.setIfInBounds i _)[q]? = _;simp [Array.getElem?_setIfInBounds_ne (Ne.symm hq)]⟩
    · rcases hw1 with rfl | rfl
      · show (w1.heap.setIfInBounds i _)[i]? = _;simp [hil,ItO]
      · show (w.heap.setIfInBounds i _)[i]? = _;simp [hil,ItO]
theorem e_P (S:StD ds N a l) {it:Operand} {b i k0:Nat} {xs:List Int} {x:Int} {Se:List Nat} (ho:o.op = .entry it) (hd:o.dst = some d) (hN:Nat.blt d N = true) (hx:ev l it = some (.pointer (some ⟨i,0,.none⟩))) (M:Oq (MapObj kd xs) w b) (I:Ox (ItO b xs.length (Se ++ [k0])) w i) (hk:xs[k0]? = some x)
    (k:∀ a',StD ds N a' ((d,.tuple #[.int kd x,.bool true]) :: l) → Kont a' w):o.wp P a w Kont Q:=by
  obtain ⟨ob,⟨es,rfl,hes,hbo,hin⟩,hO⟩:=M
  have hl:es.toList.length = xs.length:=by have:=congrArg List.length hes;simpa using this
  have hk0:k0 < xs.length:=by rcases Nat.lt_or_ge k0 xs.length with h | h;exact h;rw [List.getElem?_eq_none h] at hk;cases hk
  have hj:k0 < es.toList.length:=by omega
  have hb:(es.toList[k0]).born = k0:=by
    have:=congrArg (fun l=>l[k0]?) hbo
    simp only [List.getElem?_map,List.getElem?_eq_getElem hj,Option.map_some] at this
    rw [List.getElem?_range hk0] at this
    exact Option.some.inj this
  obtain ⟨x',hx',hkk,hv,_⟩:=MapObj.at hes hbo (e:=es.toList[k0]) (List.getElem_mem hj)
  rw [hb,hk] at hx'
  obtain rfl:=Option.some.inj hx'
  have hI:w.heap[i]? = some (.mapIter (some b) xs.length (Se.toArray.push (es.toList[k0]).born) xs.length):=by rw [I.1,ItO,hb];simp
  have hr:=run_entry_at (P:=P) w i b xs.length Se.toArray es xs.length es.toList[k0] hI hO.1 (List.getElem_mem hj) (by rw [hbo];exact List.nodup_range)
  rw [hkk,hv] at hr
  exact a_K S hd hN (by simp [execOp,ho,S.eval hx,hr]) k
end
theorem d_w:∀ (n:Nat) {l:List Nat},l.Nodup → (∀ k ∈ l,k < n) → l.length ≤ n
  | 0,l,_,h=>by
    cases l with
    | nil=>simp
    | cons x xs=>exact absurd (h x (by simp)) (by omega)
  | n + 1,l,hn,h=>by
    have h1:=d_w n (l:=l.filter (· ≠ n)) (hn.sublist List.filter_sublist) fun k hk=>by
      have:=h k (List.mem_filter.1 hk).1
      have h2:=(List.mem_filter.1 hk).2
      simp at h2
      omega
    have h2:l.length ≤ (l.filter (· ≠ n)).length + 1:=by
      by_cases hm:n ∈ l
      · obtain ⟨p,q,rfl⟩:=List.append_of_mem hm
        have hp:n ∉ p ∧ n ∉ q:=by
          rw [List.nodup_append] at hn
          refine ⟨fun hp=>hn.2.2 n hp n (by simp) rfl,?_⟩
          have:=hn.2.1
          rw [List.nodup_cons] at this
          exact this.1
        have e1:p.filter (· ≠ n) = p:=List.filter_eq_self.2 fun x hx=>by simp;exact fun h=>hp.1 (h ▸ hx)
        have e2:q.filter (· ≠ n) = q:=List.filter_eq_self.2 fun x hx=>by simp;exact fun h=>hp.2 (h ▸ hx)
        rw [List.filter_append,List.filter_cons,e1,e2]
        simp
        omega
      · have e1:l.filter (· ≠ n) = l:=List.filter_eq_self.2 fun x hx=>by simp;exact fun h=>hm (h ▸ hx)
        rw [e1];omega
    omega
def c_A {β:Type} [DecidableEq β] (f:Int → Option (Unit ⊕ β)):List Int → Option (Unit ⊕ β)
  | []=>some (.inl ())
  | x :: xs=>(f x).bind fun z=>(c_A f xs).bind fun y=>match z,y with
    | .inl _,y=>some y
    | .inr r,.inl _=>some (.inr r)
    | .inr r,.inr q=>if r = q then some (.inr r) else .none
theorem d_x {β:Type} [DecidableEq β] {f:Int → Option (Unit ⊕ β)}:∀ {xs:List Int} {y:Unit ⊕ β},c_A f xs = some y → ∀ x ∈ xs,∃ z,f x = some z ∧ (z = .inl () ∨ z = y)
  | [],y,h,x,hx=>(List.not_mem_nil hx).elim
  | u :: us,y,h,x,hx=>by
    unfold c_A at h
    obtain ⟨z,hz,h⟩:=a_c h
    obtain ⟨q,hq,h⟩:=a_c h
    have ih:=d_x hq
    rcases z with ⟨⟩ | r
    · obtain rfl:=Option.some.inj h
      rcases List.mem_cons.1 hx with rfl | hx
      · exact ⟨_,hz,.inl rfl⟩
      · exact ih x hx
    · rcases q with ⟨⟩ | q
      · obtain rfl:=Option.some.inj h
        rcases List.mem_cons.1 hx with rfl | hx
        · exact ⟨_,hz,.inr rfl⟩
        · obtain ⟨z,h1,h2⟩:=ih x hx
          exact ⟨z,h1,.inl (by rcases h2 with h2 | h2 <;> exact h2)⟩
      · simp only at h
        by_cases he:r = q
        · rw [if_pos he] at h
          obtain rfl:=Option.some.inj h
          subst he
          rcases List.mem_cons.1 hx with rfl | hx
          · exact ⟨_,hz,.inr rfl⟩
          · exact ih x hx
        · rw [if_neg he] at h
          cases h
theorem d_Q {β:Type} [DecidableEq β] {f:Int → Option (Unit ⊕ β)}:∀ {xs:List Int} {y:Unit ⊕ β},c_A f xs = some y → (∀ k,k < xs.length → ∀ x,xs[k]? = some x → f x = some (.inl ())) → y = .inl ()
  | [],y,h,_=>(Option.some.inj h).symm
  | u :: us,y,h,ha=>by
    unfold c_A at h
    obtain ⟨z,hz,h⟩:=a_c h
    obtain ⟨q,hq,h⟩:=a_c h
    have h0:=ha 0 (by simp) u rfl
    rw [hz] at h0
    obtain rfl:=Option.some.inj h0
    have:=d_Q hq fun k hk x hx=>ha (k + 1) (by simp;omega) x (by simpa using hx)
    subst this
    exact (Option.some.inj h).symm
section
variable {ds:List Deferred} {N:Nat} {a:Act} {l:List (Nat × Value)} {w w0:World} {P:Program} {ops:Array Oper} {Q:Exit → Act → World → Prop} {rest:List Oper} {o:Oper} {Kont:Act → World → Prop} {d:Nat} {K:Nat → Prop} {L:List (Option Nat)}
theorem op_allocp (S:StD ds N a l) {T:TypeId} (ho:o.op = .alloc T) (hz:(P.info? T).bind (·.zero) = some (.pointer .none)) (hd:o.dst = some d) (hN:Nat.blt d N = true)
    (k:∀ a' w' b,NewB w w' b → Ox (.cells #[.pointer .none] T (0,0)) w' b → StD ds N a' ((d,.pointer (some ⟨b,0,.none⟩)) :: l) → Kont a' w'):o.wp P a w Kont Q:=by
  obtain ⟨i,hi,hz⟩:=Option.bind_eq_some_iff.1 hz
  refine a_K S (v:=.pointer (some ⟨w.heap.size,0,.none⟩)) (w':=w.alloc (.cells #[.pointer .none] T)) hd hN ?_ fun a'=>k a' _ w.heap.size (a_S w _) ⟨heap_alloc_new w _,trivial⟩
  simp [execOp,ho,Instr.alloc,zeroValue,typeInfo,hi,hz,newVar,newRow,Value.cells]
theorem op_loadp (S:StD ds N a l) {T T':TypeId} {ad:Operand} {v:Value} {b:Nat} (ho:o.op = .load T ad) (ht:ptrB P T = true) (hd:o.dst = some d) (hN:Nat.blt d N = true) (ha:ev l ad = some (.pointer (some ⟨b,0,.none⟩)))
    (hO:Ox (.cells #[v] T' (0,0)) w b) (k:∀ a',StD ds N a' ((d,v) :: l) → Kont a' w):o.wp P a w Kont Q:=by
  refine a_K S (v:=v) hd hN ?_ k
  have hc:w.cell? ⟨b,0,.none⟩ = some v:=by unfold World.cell?;rw [hO.1];rfl
  unfold ptrB at ht
  split at ht
  · rename_i hu
    simp [execOp,ho,S.eval ha,Instr.loadAt,Instr.sureAddr,loadVar,isAgg,run_underlying hu,hc]
  · cases ht
theorem op_storep (S:StD ds N a l) {T:TypeId} (hs:((P.info? T).any fun i=>i.size == 1) = true) {ad x:Operand} {r:Option Addr} {v0:Value} {b:Nat} (ho:o.op = .store T ad x) (hd:o.dst = .none) (ha:ev l ad = some (.pointer (some ⟨b,0,.none⟩))) (hx:ev l x = some (.pointer r))
    (hO:Ox (.cells #[v0] T (0,0)) w b) (k:∀ w',Wrote b w w' → Ox (.cells #[.pointer r] T (0,0)) w' b → Kont a w'):o.wp P a w Kont Q:=by
  obtain ⟨i,hi,hs⟩:∃ i,P.info? T = some i ∧ i.size = 1:=by
    cases hi:P.info? T with
    | none=>rw [hi] at hs;cases hs
    | some i=>rw [hi] at hs;exact ⟨i,rfl,by simpa using hs⟩
  have hc:w.cell? ⟨b,0,.none⟩ = some v0:=by unfold World.cell?;rw [hO.1];rfl
  have hfz:w.frozen? ⟨b,0,.none⟩ = false:=by unfold World.frozen?;rw [hO.1];rfl
  have hst:(store ⟨b,0,.none⟩ (.pointer r)).run P w = .ok () (w.setCell ⟨b,0,.none⟩ (.pointer r)):=by
    show Sem.run P (.store .plain _ (.pointer r) (.pure ())) w = _
    simp [Sem.run,hc,hfz]
  have hrun:(execOp a.eval o).run P w = .ok .skip (w.setCell ⟨b,0,.none⟩ (.pointer r)):=by
    simp [execOp,ho,S.eval ha,S.eval hx,Instr.storeAt,Instr.sureAddr,storeVar,sizeOf,typeInfo,hi,hs,Value.cells,storeCells,Addr.add,hst]
  have hb:=hO.lt
  unfold Oper.wp
  rw [hrun]
  simp only [Oper.upon,hd]
  have hg:w.heap[b] = .cells #[v0] T (0,0):=by
    have:=hO.1
    rw [Array.getElem?_eq_getElem hb] at this
    exact Option.some.inj this
  refine k _ ⟨rfl,rfl,rfl,by simp [World.setCell],fun q hq=>?_⟩ ⟨?_,trivial⟩
  · simp [World.setCell,Array.getElem?_modify,Ne.symm hq]
  · simp [World.setCell,Array.getElem?_modify,hb,hg,Array.getElem_modify]
theorem RepAt.sl {m:Nat} {e:GT} {p:Addr} {xs:List (PT e)} (R:RepAt (.arr m e) w K p xs) (hb:p.block < w.heap.size) (hK:K p.block) (hm:m ≤ 9223372036854775807):RepV (.sl e) w K (.slice (some p) m m) (⟨xs,some m⟩:Sl (PT e)):=by
  obtain ⟨h0,cs,⟨hx,css,rfl,hl,hr⟩,hc⟩:=R
  obtain ⟨b,off,sp⟩:=p
  have h0:sp = .none:=h0
  subst h0
  have key:∀ (css:List (List Value)) (ys:List (PT e)),css.length = ys.length → (∀ (j:Nat) c y,css[j]? = some c → ys[j]? = some y → RepCs e w K c y) → ∀ (j:Nat) (c:List Value),css[j]? = some c → ∀ (i:Nat) (v:Value),c[i]? = some v → css.flatten[j * e.sz + i]? = some v:=by
    intro css
    induction css with
    | nil=>intro ys _ _ j c hj;simp at hj
    | cons c0 css ih =>
      intro ys hly hh j c hj i v hi
      match ys,hly with
      | y0 :: ys,hly =>
        have hlen:c0.length = e.sz:=RepCs.len (hh 0 c0 y0 rfl rfl)
        have hi':i < c.length:=by rcases Nat.lt_or_ge i c.length with h | h;exact h;rw [List.getElem?_eq_none h] at hi;cases hi
        cases j with
        | zero =>
          obtain rfl:c0 = c:=by simpa using hj
          rw [List.flatten_cons,Nat.zero_mul,Nat.zero_add,List.getElem?_append_left hi',hi]
        | succ j =>
          have hj':css[j]? = some c:=by simpa using hj
          have:=ih ys (by simpa using hly) (fun j c y h1 h2=>hh (j + 1) c y (by simpa using h1) (by simpa using h2)) j c hj' i v hi
          rw [List.flatten_cons,List.getElem?_append_right (by rw [hlen,Nat.add_mul];omega),hlen,← this]
          congr 1
          rw [Nat.add_mul];omega
  refine ⟨[_],⟨_,_,_,rfl,hx,Nat.le_refl _,hm,fun k hk=>by simpa using hk,?_⟩,rfl⟩
  refine .inr ⟨b,off,rfl,hb,hK,fun j x hj=>?_⟩
  have hjl:j < css.length:=by
    rcases Nat.lt_or_ge j xs.length with h | h
    · omega
    · rw [List.getElem?_eq_none h] at hj;cases hj
  have hcj:=List.getElem?_eq_getElem hjl
  have hR:=hr j _ x hcj hj
  refine ⟨css[j],hR,hR.len,fun i v hv=>?_⟩
  have:=hc (j * e.sz + i) v (key css xs (by omega) hr j _ hcj i v hv)
  rw [← this]
  congr 1
  show (⟨b,off + j * e.sz + i,.none⟩:Addr) = ⟨b,off + (j * e.sz + i),.none⟩
  rw [Nat.add_assoc]
theorem c_3 (S:StD ds N a l) {T:TypeId} {x:Operand} {m:Nat} {e:GT} {p:Addr} {xs:List (PT e)} (ho:o.op = .slice T x .none .none .none) (ht:tie P (.arr m e) false T [] 0 = true) (hd:o.dst = some d) (hN:Nat.blt d N = true)
    (hx:ev l x = some (.pointer (some p))) (R:RepAt (.arr m e) w K p xs) (hb:p.block < w.heap.size) (hK:K p.block) (hm:m ≤ 9223372036854775807)
    (k:∀ a' v,RepV (.sl e) w K v (⟨xs,some m⟩:Sl (PT e)) → StD ds N a' ((d,v) :: l) → Kont a' w):o.wp P a w Kont Q:=by
  obtain ⟨E,hE,htE⟩:=c_N ht
  obtain ⟨ie,hie,hse⟩:=a_M htE
  refine a_K S (v:=.slice (some p) m m) hd hN ?_ fun a'=>k a' _ (R.sl hb hK hm)
  have hp:p.add 0 = p:=by cases p;rfl
  by_cases h0:m = 0
  · subst h0;simp [execOp,ho,S.eval hx,Instr.sliceAt,Instr.sliceBounds,run_underlying hE,sizeOf,typeInfo,hie,hse,Instr.sureAddr]
  · simp [execOp,ho,S.eval hx,Instr.sliceAt,Instr.sliceBounds,run_underlying hE,sizeOf,typeInfo,hie,hse,Instr.sureAddr]
    exact fun _=>hp
theorem Pr.kk {t:GT} {p:Addr} {x:PT t} (h:Pr t w0 K p x) (W:Wd w0 w L):Kx K w0.heap.size L p.block:=⟨.inl h.2.2,fun hm=>by have:=(W.own _ hm).1;have:=h.2.1;omega⟩
theorem Pr.lt' {t:GT} {p:Addr} {x:PT t} (h:Pr t w0 K p x) (W:Wd w0 w L):p.block < w.heap.size:=by have:=W.below.size;have:=h.2.1;omega
theorem Pr.br' {t:GT} {p:Addr} {x:PT t} (h:Pr t w K p x):Br t w K p x:=⟨h.1,h.2.1⟩
theorem Bx.prF {t:GT} {T:TypeId} {b i:Nat} {x:PT t} (h:Bx t T w (Kx K w0.heap.size L) b x) (W:Wd w0 w L) (hi:L[i]? = some (some b)):Pr t w (Kx K w0.heap.size []) ⟨b,0,.none⟩ x :=
  ⟨(Br.free (Bx.br h)).1,h.lt,.inr (W.own b (List.mem_of_getElem? hi)).1,fun h=>(List.not_mem_nil h).elim⟩
end
namespace R
section
variable {r:Option Nat} {P:Program} {Q:Exit → Act → World → Prop} {a:Act} {w:World}
@[reducible] def noPanic (Q:Exit → Act → World → Prop):Exit → Act → World → Prop:=fun e a w=>match e with | .panic _=>False | e=>Q e a w
theorem drawn_ord {id:Nat} {l:List Oper} (m:Nat) (hm:P.follows .mixedOrders = true) (hd:l.all b_H = true) (hl:l.length = m)
    (h:∀ w',Below w.heap.size w w' → PanicOk (noPanic Q) → An P l (noPanic Q) m m [] a w'):CI r P (.region id l.toArray true) Q a w:=by
  intro hQ
  subst hl
  have hQ':¬ LetsOut (noPanic Q):=fun ⟨a,w,h⟩=>hQ ⟨a,w,h⟩
  have hq:=h { w with drawn:=w.drawn + 1 } ⟨rfl,rfl,rfl,Nat.le_refl _,fun _ _=>rfl⟩ fun _ _ _ _ _ h=>h.elim
  refine wpIn_mono (wpIn_region_any hm (wpAny_in hQ' (fun i o ho=>List.all_eq_true.1 hd o (List.mem_of_getElem? (i:=i) (by simpa using ho))) _ _ _ _ (by simpa [An,a_D] using hq))) fun e a' w' he=>?_
  cases e with
  | panic _=>exact he.elim
  | _=>exact he
end
end R
end Go.Proofs.Ytfelbalkobcfhaa
namespace Go.Proofs.Ytfelbalkobcfhaa
open Go.RowKit Go.ChangeShapes
section
variable {P:Program}
end
section
variable {ds:List Deferred} {N:Nat} {a:Act} {l:List (Nat × Value)} {w w0:World} {P:Program} {ops:Array Oper} {Q:Exit → Act → World → Prop} {rest:List Oper} {o:Oper} {Kont:Act → World → Prop} {d:Nat} {K:Nat → Prop} {L:List (Option Nat)}
end
def Sp (t:GT) (T:TypeId) (w:World) (K:Nat → Prop) (v:Value) (x:PT t):Prop:=∃ b,v = pB b ∧ Bx t T w K b x
section
variable {w0 w w':World} {L P:List (Option Nat)} {K:Nat → Prop} {n b:Nat} {t:GT} {v:Value} {T:TypeId} {x:PT t}
theorem Sp.backW (h:Sp t T w' (Kx (Kx K w0.heap.size L) w.heap.size P) v x) (hW:Wd w0 w L):Sp t T w' (Kx K w0.heap.size (P ++ L)) v x:=by
  obtain ⟨b,rfl,h⟩:=h
  exact ⟨b,rfl,h.backW hW⟩
theorem Sp.bx (h:Bx t T w K b x):Sp t T w K (pB b) x:=⟨b,rfl,h⟩
theorem Sp.fr (P LO:List (Option Nat)) (h:Sp t T w (Kx K n (P ++ LO)) v x):Sp t T w (Kx K n P) v x:=by
  obtain ⟨b,rfl,h⟩:=h
  rcases Opt1.fr P LO (Opt1.bx h) with ⟨h,_⟩ | ⟨b',y,h1,h2,h3⟩
  · cases h
  · obtain rfl:=Option.some.inj h2
    exact ⟨b',h1,h3⟩
theorem Pr.again {p:Addr} (h:Pr t w0 K p x) (W:Wd w0 w L):Pr t w (Kx K w0.heap.size L) p x:=⟨Br.now h.br' W,h.lt' W,h.kk W⟩
end
def b_C (i:Nat) (o:Oper):Oper:={ o with after:=o.after.push ⟨i,.data⟩ }
def e_c:Op → Bool
  | .extract _ _=>true
  | .move _=>true
  | .assign _=>true
  | _=>false
def depL (l:List Oper) (i:Nat):Array Bool:=((List.range l.length).map fun k=>match l[i]? with
  | some o=>o.after.any fun e=>Region.binds .any e && Nat.beq e.on k
  | none=>false).toArray
def edgeB (l:List Oper) (i j:Nat):Bool :=
  Nat.blt i l.length && Nat.blt j l.length && (!Nat.beq i j) && Region.free .any l.toArray (depL l i) i && Region.noSelect l.toArray &&
  match l[i]?,l[j]? with
  | some oi,some oj=>e_c oi.op && oi.after.all fun e=>!Region.binds .any e || oj.after.any fun e'=>Region.binds .any e' && Nat.beq e'.on e.on
  | _,_=>false
section
variable {P:Program} {Q:Exit → Act → World → Prop} {l:List Oper} {i j k:Nat} {a:Act} {w:World} {K:Act → World → Prop} {listed:Array Bool}
theorem d_y:(l.modify j (b_C i)).toArray[k]? = (l.toArray[k]?).map fun o=>if j = k then b_C i o else o:=by
  simp only [List.getElem?_toArray,List.getElem?_modify]
  by_cases h:j = k <;> simp [h]
theorem e_d (tmps:Array Value):yielded (l.modify j (b_C i)).toArray tmps = yielded l.toArray tmps:=by
  funext k
  unfold yielded
  rw [d_y]
  cases l.toArray[k]? with
  | none=>rfl
  | some o=>by_cases h:j = k <;> simp [h,b_C]
theorem c_S:wpOp P (l.modify j (b_C i)).toArray Q k K a w = wpOp P l.toArray Q k K a w:=by
  unfold wpOp
  rw [d_y,e_d]
  cases l.toArray[k]? with
  | none=>rfl
  | some o=>by_cases h:j = k <;> simp only [h,if_true,if_false,Option.map_some] <;> rfl
theorem ready_addOn:k ∈ Region.ready .any (l.modify j (b_C i)).toArray listed ↔ k ∈ Region.ready .any l.toArray listed ∧ (k = j → listed.getD i false = true):=by
  rw [mem_ready,mem_ready,d_y]
  constructor
  · rintro ⟨h1,o,ho,h2⟩
    obtain ⟨o',ho',rfl⟩:=Option.map_eq_some_iff.1 ho
    by_cases h:j = k
    · rw [if_pos h] at h2
      refine ⟨⟨h1,o',ho',fun e he hb=>h2 e (by simp [b_C,he]) hb⟩,fun _=>h2 ⟨i,.data⟩ (by simp [b_C]) rfl⟩
    · rw [if_neg h] at h2
      exact ⟨⟨h1,o',ho',h2⟩,fun e=>absurd e.symm h⟩
  · rintro ⟨⟨h1,o,ho,h2⟩,h3⟩
    refine ⟨h1,if j = k then b_C i o else o,by rw [ho];rfl,fun e he hb=>?_⟩
    by_cases h:j = k
    · rw [if_pos h] at he
      simp only [b_C,Array.mem_push] at he
      rcases he with he | rfl
      · exact h2 e he hb
      · exact h3 h.symm
    · rw [if_neg h] at he
      exact h2 e he hb
theorem getD_keep (h:listed.getD i false = true) (k:Nat):(listed.setIfInBounds k true).getD i false = true:=by
  simp only [Array.getD_eq_getD_getElem?,Array.getElem?_setIfInBounds] at h ⊢
  by_cases hk:k = i
  · subst hk
    rcases Nat.lt_or_ge k listed.size with h' | h'
    · simp [h']
    · rw [Array.getElem?_eq_none h'] at h;cases h
  · rw [if_neg hk];exact h
theorem c_T:∀ (fuel:Nat) (listed:Array Bool) (a:Act) (w:World),listed.getD i false = true → wpAny P .any (l.modify j (b_C i)).toArray Q fuel listed a w → wpAny P .any l.toArray Q fuel listed a w
  | 0,listed,a,w,hi,h=>by
    refine ⟨?_,h.2⟩
    cases hr:Region.ready .any l.toArray listed with
    | nil=>rfl
    | cons k ks =>
      have:k ∈ Region.ready .any (l.modify j (b_C i)).toArray listed:=ready_addOn.2 ⟨by rw [hr];simp,fun _=>hi⟩
      rw [h.1] at this;cases this
  | fuel + 1,listed,a,w,hi,h=>by
    refine ⟨fun hr=>h.1 ?_,fun k hk=>?_⟩
    · cases hr':Region.ready .any (l.modify j (b_C i)).toArray listed with
      | nil=>rfl
      | cons k ks =>
        have:=(ready_addOn.1 (show k ∈ Region.ready .any (l.modify j (b_C i)).toArray listed by rw [hr'];simp)).1
        rw [hr] at this;cases this
    · have:=h.2 k (ready_addOn.2 ⟨hk,fun _=>hi⟩)
      rw [c_S] at this
      exact wpOp_mono (fun a' w' h'=>c_T fuel _ a' w' (getD_keep hi k) h') this
theorem c_B {e:Event} (h:e ∈ (#[]:Array Event)):False:=by simp at h
theorem quiet_run {o:Oper} {ops:Array Oper} (hq:e_c o.op = true) (hi:ops[i]? = some o) (h:wpOp P ops Q i K a w):∃ v,Yields P ops o v a ∧ K (a.put o.dst v) w:=by
  unfold wpOp at h
  rw [hi] at h
  simp only at h
  by_cases hw:Region.wanted o (yielded ops a.tmps) = true
  · rw [if_pos hw] at h
    have key:(∃ v,∀ w,(execOp a.eval o).run P w = .ok (.value v) w) ∨ ((∀ next,¬ o.upon P a next Q ((execOp a.eval o).run P w))):=by
      cases ho:o.op <;> rw [ho] at hq <;> try (simp [e_c] at hq)
      · exact .inl ⟨_,fun w=>by simp [execOp,ho];rfl⟩
      · exact .inl ⟨_,fun w=>by simp [execOp,ho];rfl⟩
      · rename_i x n
        cases hx:a.eval x with
        | tuple vs =>
          cases hv:vs[n]? with
          | some v=>exact .inl ⟨v,fun w=>by simp [execOp,ho,hx,Instr.extract,hv]⟩
          | none=>exact .inr fun next=>by simp [execOp,ho,hx,Instr.extract,hv,stuck,Oper.upon]
        | _=>exact .inr fun next=>by simp [execOp,ho,hx,Instr.extract,stuck,Oper.upon]
    have hasks:¬ o.asks P a w:=by
      intro ⟨h1,_⟩
      cases ho:o.op <;> rw [ho] at hq <;> try (simp [e_c] at hq)
      · simp [execOp,ho] at h1
        exact c_B h1
      · simp [execOp,ho] at h1
        exact c_B h1
      · rename_i x n
        cases hx:a.eval x with
        | tuple vs =>
          cases hv:vs[n]? with
          | some v=>simp [execOp,ho,hx,Instr.extract,hv] at h1;exact c_B h1
          | none=>simp [execOp,ho,hx,Instr.extract,hv,stuck] at h1;exact c_B h1
        | _=>simp [execOp,ho,hx,Instr.extract,stuck] at h1;exact c_B h1
    rcases h with h | ⟨h,_⟩
    · rcases key with ⟨v,hv⟩ | hn
      · refine ⟨v,.inl ⟨hw,hv⟩,?_⟩
        unfold Oper.wp at h
        rw [hv] at h
        exact h
      · exact absurd h (hn _)
    · exact absurd h hasks
  · rw [if_neg hw] at h
    exact ⟨undef,.inr ⟨by simpa using hw,rfl⟩,h⟩
theorem any_addOn (hc:edgeB l i j = true) (hQ:∀ c d v a w,Q (.panic c) (a.put d v) w → Q (.panic c) a w):∀ (fuel:Nat) (listed:Array Bool) (a:Act) (w:World),listed.size = l.length → wpAny P .any (l.modify j (b_C i)).toArray Q fuel listed a w → wpAny P .any l.toArray Q fuel listed a w:=by
  unfold edgeB at hc
  simp only [Bool.and_eq_true,Bool.not_eq_true',Nat.blt_eq] at hc
  obtain ⟨⟨⟨⟨⟨hi,hj⟩,hij⟩,hfr⟩,hsel⟩,hc⟩:=hc
  have hne:i ≠ j:=fun e=>by rw [e,Nat.beq_refl] at hij;cases hij
  have hoi:l.toArray[i]? = some l[i]:=by simp [hi]
  have hoj:l.toArray[j]? = some l[j]:=by simp [hj]
  rw [List.getElem?_eq_getElem hi,List.getElem?_eq_getElem hj] at hc
  simp only [Bool.and_eq_true] at hc
  obtain ⟨hq,hdep⟩:=hc
  have hsub:∀ {listed:Array Bool},listed.getD i true = false → j ∈ Region.ready .any l.toArray listed → i ∈ Region.ready .any (l.modify j (b_C i)).toArray listed:=by
    intro listed hiu hjr
    refine ready_addOn.2 ⟨mem_ready.2 ⟨hiu,_,hoi,fun e he hb=>?_⟩,fun e=>absurd e hne⟩
    obtain ⟨_,oj,hoj',h2⟩:=mem_ready.1 hjr
    rw [hoj] at hoj'
    obtain rfl:=Option.some.inj hoj'
    have:=Array.all_eq_true'.1 hdep e he
    rw [hb] at this
    simp only [Bool.not_true,Bool.false_or] at this
    obtain ⟨e',he',h3⟩:=Array.any_eq_true'.1 this
    simp only [Bool.and_eq_true,Nat.beq_eq] at h3
    have:=h2 e' he' h3.1
    rw [h3.2] at this
    exact this
  intro fuel
  induction fuel with
  | zero =>
    intro listed a w hs h
    refine ⟨?_,h.2⟩
    cases hr:Region.ready .any l.toArray listed with
    | nil=>rfl
    | cons k ks =>
      have hk:k ∈ Region.ready .any l.toArray listed:=by rw [hr];simp
      by_cases hin:listed.getD i false = true
      · have:k ∈ Region.ready .any (l.modify j (b_C i)).toArray listed:=ready_addOn.2 ⟨hk,fun _=>hin⟩
        rw [h.1] at this;cases this
      · by_cases hkj:k = j
        · subst hkj
          have:i ∈ Region.ready .any (l.modify k (b_C i)).toArray listed:=hsub (by
            rw [Array.getD_eq_getD_getElem?] at hin ⊢
            rw [Array.getElem?_eq_getElem (by omega)] at hin ⊢
            simpa using hin) hk
          rw [h.1] at this;cases this
        · have:k ∈ Region.ready .any (l.modify j (b_C i)).toArray listed:=ready_addOn.2 ⟨hk,fun e=>absurd e hkj⟩
          rw [h.1] at this;cases this
  | succ fuel ih =>
    intro listed a w hs h
    by_cases hin:listed.getD i false = true
    · exact c_T _ _ _ _ hin h
    · have hiu:listed.getD i true = false:=by
        rw [Array.getD_eq_getD_getElem?] at hin ⊢
        rw [Array.getElem?_eq_getElem (by omega)] at hin ⊢
        simpa using hin
      by_cases hjr:j ∈ Region.ready .any l.toArray listed
      · have hir:=hsub hiu hjr
        have h1:=h.2 i hir
        rw [c_S] at h1
        obtain ⟨v,hy,h2⟩:=quiet_run hq hoi h1
        refine wpAny_first hoi (Region.noSelect_spec hsel) (fun c a w=>hQ c _ v a w) fuel listed a w (fun k ok hk hki hun hno=>?_) (ready_addOn.1 hir).1 hy (c_T _ _ _ _ ?_ h2)
        · refine Region.free_spec hoi hfr k ok hk hki ?_ hno
          have hkl:k < l.length:=by
            rcases Nat.lt_or_ge k l.length with h | h
            · exact h
            · rw [Array.getElem?_eq_none (by simpa using h)] at hk;cases hk
          have hd:(depL l i)[k]? = some false:=by
            unfold depL
            rw [List.getElem?_eq_getElem hi]
            simp only [List.getElem?_toArray,List.getElem?_map,List.getElem?_range hkl,Option.map_some,Option.some.injEq]
            cases hany:l[i].after.any (fun e=>Region.binds .any e && Nat.beq e.on k) with
            | false=>rfl
            | true =>
              obtain ⟨e,he,hb⟩:=Array.any_eq_true'.1 hany
              simp only [Bool.and_eq_true,Nat.beq_eq] at hb
              obtain ⟨_,o',ho',h3⟩:=mem_ready.1 (ready_addOn.1 hir).1
              rw [hoi] at ho'
              obtain rfl:=Option.some.inj ho'
              have h4:=h3 e he hb.1
              rw [hb.2] at h4
              rw [Array.getD_eq_getD_getElem?] at h4 hun
              rw [Array.getElem?_eq_getElem (by omega)] at h4 hun
              rw [Option.getD_some] at h4 hun
              rw [h4] at hun;cases hun
          rw [Array.getD_eq_getD_getElem?,hd];rfl
        · simp [Array.getD_eq_getD_getElem?,hs,hi]
      · refine ⟨fun hr=>h.1 ?_,fun k hk=>?_⟩
        · cases hr':Region.ready .any (l.modify j (b_C i)).toArray listed with
          | nil=>rfl
          | cons k ks =>
            have:=(ready_addOn.1 (show k ∈ Region.ready .any (l.modify j (b_C i)).toArray listed by rw [hr'];simp)).1
            rw [hr] at this;cases this
        · have hkj:k ≠ j:=fun e=>hjr (e ▸ hk)
          have:=h.2 k (ready_addOn.2 ⟨hk,fun e=>absurd e hkj⟩)
          rw [c_S] at this
          exact wpOp_mono (fun a' w' h'=>ih _ a' w' (by simp [hs]) h') this
theorem e_t (i j:Nat) (hc:edgeB l i j = true) (hQ:PanicOk Q) (h:f_f P (l.modify j (b_C i)) Q a w):f_f P l Q a w:=by
  unfold f_f at h ⊢
  have:=any_addOn hc (fun c d v a w h=>hQ.put c d v a w h) _ _ _ _ (by simp) h
  simpa using this
end
end Go.Proofs.Ytfelbalkobcfhaa
namespace Go.Proofs.Ytfelbalkobcfhaa
open Go.RowKit
@[reducible] def Sb (w0:World):World → Prop:=fun w=>Below w0.heap.size w0 w
theorem Sb.step {w0 w w':World} (h:Sb w0 w) (hb:Below w.heap.size w w'):Sb w0 w':=Below.trans h (hb.mono h.size)
theorem Sb.apd {w0 w w':World} {v v':Value} (h:Sb w0 w) (A:Apd w w' v v') (hg:∀ c,v.ownBlock = some c → w0.heap.size ≤ c):Sb w0 w' :=
  Below.trans h ⟨A.grown.os,A.grown.tape,A.grown.output,A.grown.size,fun k hk=>A.grown.block k (Nat.lt_of_lt_of_le hk h.size) fun e=>by have:=hg k e.symm;omega⟩
theorem Sb.wrote {w0 w w':World} {b:Nat} (h:Sb w0 w) (hw:Wrote b w w') (hg:w0.heap.size ≤ b):Sb w0 w' :=
  Below.trans h ⟨hw.os,hw.tape,hw.output,Nat.le_of_eq hw.size.symm,fun k hk=>hw.block k fun e=>by omega⟩
theorem Apd.ge {n:Nat} {w w':World} {v v':Value} (A:Apd w w' v v') (hg:∀ c,v.ownBlock = some c → n ≤ c) (hn:n ≤ w.heap.size):∀ c,v'.ownBlock = some c → n ≤ c:=fun c hc=>by
  rcases A.at_ with e | e
  · exact hg c (e ▸ hc)
  · rw [e] at hc;obtain rfl:=Option.some.inj hc;exact hn
def AnH (P:Program) (l:List Oper) (Q:Exit → Act → World → Prop) (m:Nat) (w0:World) (k:Nat) (D:List Nat) (a:Act) (w:World):Prop:=wpAnyH P .any l.toArray Q (Sb w0) k (a_D m D) a w
def e_e (P:Program) (l:List Oper) (Q:Exit → Act → World → Prop) (m:Nat) (w0:World) (k:Nat) (D:List Nat) (a:Act) (w:World) (i:Nat):Prop:=wpOp P l.toArray Q i (fun a' w'=>Sb w0 w' ∧ AnH P l Q m w0 k (i :: D) a' w') a w
def AnForksH (P:Program) (l:List Oper) (Q:Exit → Act → World → Prop) (m:Nat) (w0:World) (k:Nat) (D:List Nat) (a:Act) (w:World):List Nat → Prop
  | []=>True
  | i :: is=>e_e P l Q m w0 k D a w i ∧ AnForksH P l Q m w0 k D a w is
theorem AnForksH.get {P:Program} {l:List Oper} {Q:Exit → Act → World → Prop} {m k:Nat} {w0:World} {D:List Nat} {a:Act} {w:World}:∀ {is:List Nat},AnForksH P l Q m w0 k D a w is → ∀ i ∈ is,e_e P l Q m w0 k D a w i
  | j :: is,h,i,hi=>by
    rcases List.mem_cons.1 hi with rfl | hi
    · exact h.1
    · exact AnForksH.get h.2 i hi
section
variable {P:Program} {w W:World} {K:Nat → Prop}
theorem c_U {T:TypeId} {t:GT} {p:Addr} {x:PT t} {cs:List Value} (ht:tie P t false T [] 0 = true) (hs:p.spot = none) (h1:RepCs t W K cs x) (h2:∀ (i:Nat) (v:Value),cs[i]? = some v → w.cell? ⟨p.block,p.off + i,none⟩ = some v) :
    (loadVar T p).run P w = .ok (if t.agg then .agg cs.toArray else cs.headD undef) w:=by
  obtain ⟨b,off,spot⟩:=p
  obtain rfl:spot = .none:=hs
  obtain ⟨i,hi,hsz⟩:=a_M ht
  have hl:=h1.len
  have hload:(loadCells ⟨b,off,.none⟩ i.size).run P w = .ok cs.toArray w:=by
    rw [hsz,← hl]
    exact run_loadCells_list (P:=P) w ⟨b,off,.none⟩ cs (fun j v hv=>by rw [Addr.add_lit];exact h2 j v hv)
  have one:t.agg = false → (∀ d,P.underlying T = some d → (match d with | .struct _ | .array _ _=>true | _=>false) = false) → P.underlying T ≠ .none → t.sz = 1 → (loadVar T ⟨b,off,.none⟩).run P w = .ok (if t.agg then .agg cs.toArray else cs.headD undef) w:=by
    intro hagg hd hne h1z
    rw [h1z] at hl
    match cs,hl with
    | [c],_ =>
      have hc:=h2 0 c rfl
      cases hu:P.underlying T with
      | none=>exact absurd hu hne
      | some d =>
        have:=hd d hu
        rw [if_neg (by simp [hagg])]
        have hc':w.cell? ⟨b,off,.none⟩ = some c:=hc
        cases d <;> simp at this <;> simp [loadVar,isAgg,run_underlying hu,hc']
  cases t with
  | int k=>exact one rfl (fun d hd=>by rw [b_n ht] at hd;cases hd;rfl) (by rw [b_n ht];simp) rfl
  | bool=>exact one rfl (fun d hd=>by rw [b_u ht] at hd;cases hd;rfl) (by rw [b_u ht];simp) rfl
  | str=>exact one rfl (fun d hd=>by rw [b_2 ht] at hd;cases hd;rfl) (by rw [b_2 ht];simp) rfl
  | sl e=>obtain ⟨E,hE,_⟩:=b_h ht;exact one rfl (fun d hd=>by rw [hE] at hd;cases hd;rfl) (by rw [hE];simp) rfl
  | raw=>obtain ⟨E,hE⟩:=tie_raw ht;exact one rfl (fun d hd=>by rw [hE] at hd;cases hd;rfl) (by rw [hE];simp) rfl
  | pair a b=>simp [tie] at ht
  | st f =>
    obtain ⟨fs,hfs,_⟩:=d_j ht
    rw [if_pos rfl]
    simp [loadVar,isAgg,run_underlying hfs,sizeOf,typeInfo,hi,hload]
  | arr m e =>
    obtain ⟨E,hE,_⟩:=c_N ht
    rw [if_pos rfl]
    simp [loadVar,isAgg,run_underlying hE,sizeOf,typeInfo,hi,hload]
end
section
variable {ds:List Deferred} {N:Nat} {a:Act} {l0 l1:List (Nat × Value)} {w w0:World} {P:Program} {l:List Oper} {Q:Exit → Act → World → Prop} {o:Oper} {m k i:Nat} {D:List Nat}
theorem c_m {id:Nat} (m:Nat) (hm:P.follows .mixedOrders = true) (hl:l.length = m) (hQ:PanicOk Q) (h:∀ w',Below w.heap.size w w' → PanicOk Q → AnH P l Q m w' m [] a w'):(Code.region id l.toArray true).wp P Q a w:=by
  subst hl
  refine wp_region_any hm (wpAny_of_held (S:=Sb { w with drawn:=w.drawn + 1 }) _ _ _ _ ?_)
  have:=h { w with drawn:=w.drawn + 1 } ⟨rfl,rfl,rfl,Nat.le_refl _,fun _ _=>rfl⟩ hQ
  simpa [AnH,a_D] using this
namespace R
end R
theorem c_V (hr:Region.ready .any l.toArray (a_D m D) = []) (h:Q .normal a w):AnH P l Q m w0 k D a w:=wpAnyH_done hr h k
theorem c_C {is:List Nat} (hr:Region.ready .any l.toArray (a_D m D) = is) (hne:is.isEmpty = false) (h:AnForksH P l Q m w0 k D a w is):AnH P l Q m w0 (k + 1) D a w:=by
  unfold AnH
  refine ⟨fun he=>?_,fun i hi=>?_⟩
  · rw [hr] at he;subst he;cases hne
  · rw [hr] at hi
    exact h.get i hi
theorem b_w (ho:l[i]? = some o) (S:StD ds N a l0) (hg:gOk l.toArray l0 o = some true) (h:o.wp P a w (fun a' w'=>Sb w0 w' ∧ AnH P l Q m w0 k (i :: D) a' w') Q):e_e P l Q m w0 k D a w i:=by
  unfold e_e wpOp
  have ho':l.toArray[i]? = some o:=by simpa using ho
  simp only [ho']
  rw [if_pos (gOk.wanted S hg)]
  exact .inl h
theorem b_e (hr:Region.ready .any l.toArray (a_D m D) = [i]) (ho:l[i]? = some o) (S:StD ds N a l0) (hg:gOk l.toArray l0 o = some true) (h:o.wp P a w (fun a' w'=>Sb w0 w' ∧ AnH P l Q m w0 k (i :: D) a' w') Q):AnH P l Q m w0 (k + 1) D a w :=
  c_C hr rfl ⟨b_w ho S hg h,trivial⟩
theorem b_l (tys:List (TypeId × GT)) (ht:tysOk P tys = true) (hs:Region.noSelect l.toArray = true) (hQ:PanicOk Q) (hS:Sb w0 w):∀ (is:List Nat) {D:List Nat} {a:Act} {l0:List (Nat × Value)},StD ds N a l0 → b_r l m D is = true → a_H tys l.toArray N (is.filterMap (l[·]?)) l0 = some l1 → (∀ a',StD ds N a' l1 → AnH P l Q m w0 k (is.reverse ++ D) a' w) → AnH P l Q m w0 (k + is.length) D a w
  | [],D,a,l0,S,_,hp,h=>by
    simp only [List.filterMap_nil,a_H,Option.some.injEq] at hp
    subst hp
    exact h a S
  | i :: is,D,a,l0,S,hc,hp,h=>by
    simp only [b_r,Bool.and_eq_true] at hc
    obtain ⟨⟨hf,hr⟩,hc⟩:=hc
    have hi:i ∈ Region.ready .any l.toArray (a_D m D):=by simpa using hr
    obtain ⟨_,o,ho,_⟩:=mem_ready.1 hi
    have ho':l[i]? = some o:=by simpa using ho
    rw [List.filterMap_cons_some ho'] at hp
    have h':∀ a',StD ds N a' l1 → AnH P l Q m w0 k (is.reverse ++ (i :: D)) a' w:=fun a' S'=>by
      have:=h a' S'
      simpa using this
    have fin:∀ (v:Value) (l2:List (Nat × Value)),Yields P l.toArray o v a → StD ds N (a.put o.dst v) l2 → a_H tys l.toArray N (is.filterMap (l[·]?)) l2 = some l1 → AnH P l Q m w0 (k + (is.length + 1)) D a w:=fun v l2 hy S2 hp2 =>
      wpAnyH_first ho (Region.noSelect_spec hs) (fun c a w=>hQ.put c o.dst v a w) (k + is.length) (a_D m D) a w (Region.free_spec ho hf) hi hy.yieldsIf hS (b_l tys ht hs hQ hS is S2 hc hp2 h')
    unfold a_H at hp
    split at hp
    · rename_i d hg hd
      split at hp
      · rename_i v hv
        split at hp
        · rename_i hN
          exact fin v _ (.inl ⟨gOk.wanted S hg,fun w=>d_k S o tys ht hv⟩) (by rw [hd];exact S.put (by simpa [Nat.blt_eq] using hN) v) hp
        · cases hp
      · cases hp
    · rename_i d hg hd
      split at hp
      · rename_i hN
        exact fin undef _ (.inr ⟨gOk.wanted S hg,rfl⟩) (by rw [hd];exact S.put (by simpa [Nat.blt_eq] using hN) undef) hp
      · cases hp
    · rename_i hg hd
      exact fin undef _ (.inr ⟨gOk.wanted S hg,rfl⟩) (by rw [hd];exact S) hp
    · cases hp
theorem c_D (hs:Region.noSelect l.toArray = true) (hQ:PanicOk Q) (hS:Sb w0 w) (hc:b_r l m D [i] = true) (ho:l[i]? = some o) (hwl:wlB o.op = true) (S:StD ds N a l0) (hg:gOk l.toArray l0 o = some true)
    (h:o.wp P a w (fun a' w'=>w' = w → AnH P l Q m w0 k (i :: D) a' w') (fun _ _ _=>False)):AnH P l Q m w0 (k + 1) D a w:=by
  simp only [b_r,Bool.and_eq_true] at hc
  obtain ⟨⟨hf,hr⟩,_⟩:=hc
  have hi:i ∈ Region.ready .any l.toArray (a_D m D):=by simpa using hr
  have ho':l.toArray[i]? = some o:=by simpa using ho
  unfold Oper.wp at h
  cases hrun:(execOp a.eval o).run P w with
  | halt x w' =>
    rw [hrun] at h
    cases x <;> simp only [Oper.upon] at h
  | ok n w' =>
    obtain ⟨rfl,⟨v,rfl⟩,hall⟩:=wl_run hwl hrun
    rw [hrun] at h
    simp only [Oper.upon] at h
    exact wpAnyH_first ho' (Region.noSelect_spec hs) (fun c a w=>hQ.put c o.dst v a w) k (a_D m D) a w' (Region.free_spec ho' hf) hi (.inl ⟨gOk.wanted S hg,fun w _=>hall w⟩) hS (h trivial)
theorem e_3 {t:GT} {T:TypeId} {ad:Operand} {d:Nat} {p:Addr} {x:PT t} {K:Nat → Prop} (hs:Region.noSelect l.toArray = true) (hQ:PanicOk Q) (hc:b_r l m D [i] = true) (ho:l[i]? = some o) (S:StD ds N a l0) (hg:gOk l.toArray l0 o = some true)
    (hop:o.op = .load T ad) (ht:tie P t false T [] 0 = true) (hd:o.dst = some d) (hN:Nat.blt d N = true) (ha:ev l0 ad = some (.pointer (some p))) (hA:RepAt t w K p x) (hb:p.block < w.heap.size)
    (kk:∀ a' v,RepV t w K v x → StD ds N a' ((d,v) :: l0) → AnH P l Q m w k (i :: D) a' w):AnH P l Q m w (k + 1) D a w:=by
  simp only [b_r,Bool.and_eq_true] at hc
  obtain ⟨⟨hf,hr⟩,_⟩:=hc
  have hi:i ∈ Region.ready .any l.toArray (a_D m D):=by simpa using hr
  have ho':l.toArray[i]? = some o:=by simpa using ho
  obtain ⟨h0,cs,hR,hcell⟩:=hA
  have hv:∀ w',Sb w w' → (execOp a.eval o).run P w' = .ok (.value (if t.agg then .agg cs.toArray else cs.headD undef)) w':=fun w' hw'=>by
    have:=c_U (P:=P) (w:=w') ht h0 hR fun j u hj=>by
      rw [← hcell j u hj]
      exact hw'.cell (show (⟨p.block,p.off + j,.none⟩:Addr).block < w.heap.size from hb)
    simp [execOp,hop,S.eval ha,Instr.loadAt,Instr.sureAddr,this]
  have hS:Sb w w:=Below.refl _ _
  have:=kk (a.put o.dst (if t.agg then .agg cs.toArray else cs.headD undef)) _ ⟨cs,hR,rfl⟩ (by rw [hd];exact S.put (by simpa [Nat.blt_eq] using hN) _)
  exact wpAnyH_first ho' (Region.noSelect_spec hs) (fun c a w=>hQ.put c o.dst _ a w) k (a_D m D) a w (Region.free_spec ho' hf) hi (.inl ⟨gOk.wanted S hg,hv⟩) hS this
end
end Go.Proofs.Ytfelbalkobcfhaa
namespace Go.Proofs.Ytfelbalkobcfhaa
open Go.RowKit Go.ChangeShapes
section
variable {ds:List Deferred} {N:Nat} {a:Act} {l:List (Nat × Value)} {w w0:World} {P:Program} {ops:Array Oper} {Q:Exit → Act → World → Prop} {rest:List Oper} {o:Oper} {Kont:Act → World → Prop} {d:Nat} {K:Nat → Prop} {L:List (Option Nat)}
end
end Go.Proofs.Ytfelbalkobcfhaa
namespace Go.Proofs.Ytfelbalkobcfhaa
open Go.RowKit Go.ChangeShapes
section
variable {ds:List Deferred} {N:Nat} {a:Act} {l:List (Nat × Value)} {w w0:World} {P:Program} {ops:Array Oper} {Q:Exit → Act → World → Prop} {rest:List Oper} {o:Oper} {Kont:Act → World → Prop} {d:Nat} {K:Nat → Prop} {n:Nat} {L:List (Option Nat)}
def xt (id:Nat) (X:Act → World → Prop) (Q:Exit → Act → World → Prop):Exit → Act → World → Prop:=fun e a w=>match e with
  | .exit i=>if i = id then X a w else Q (.exit i) a w
  | e=>Q e a w
theorem xt_hit {id:Nat} {X:Act → World → Prop} (h:X a w):xt id X Q (.exit id) a w:=by simp only [xt,if_true];exact h
theorem wp_cutx {x:Code} (id:Nat) (M X:Act → World → Prop) (h1:x.wp P (Exit.then M (xt id X Q)) a w) (h3:∀ a' w',X a' w' → Q (.exit id) a' w') (h2:∀ a' w',M a' w' → Q .normal a' w'):x.wp P Q a w :=
  wp_mono h1 fun e a' w' h=>by
    cases e with
    | normal=>exact h2 a' w' h
    | exit i =>
      simp only [Exit.then,xt] at h
      split at h
      · rename_i e_;subst e_;exact h3 a' w' h
      · exact h
    | _=>exact h
theorem lr_inrK {α β γ:Type} {e:β} {g:β → Option γ} {f:α → Option γ} {r:γ} (h:lrK (.inr e) g f = some r):g e = some r:=h
end
end Go.Proofs.Ytfelbalkobcfhaa
namespace Go.Proofs.Ytfelbalkobcfhaa
open Go.RowKit Go.ChangeShapes
namespace Ro
def valB:Op → Bool
  | .move _ | .assign _ | .pick _ _ _ | .load _ _ | .binOp _ _ _ _ _ | .unOp _ _ _ | .convert _ _ _ | .slice _ _ _ _ _ | .fieldAddr _ _ _ | .field _ _ _ | .indexAddr _ _ _ | .index _ _ _ | .extract _ _=>true
  | .call c=>match c.callee with
    | .builtin .len | .builtin .cap | .builtin .min | .builtin .max=>true
    | _=>false
  | _=>false
theorem vrun {P:Program} {m:Sem Value} {w w1:World} {n:Next} (hr:(m >>= fun v=>(Pure.pure (Next.value v):Sem Next)).run P w = .ok n w1):∃ v,n = .value v:=by
  rw [Sem.run_bind] at hr
  cases hq:m.run P w with
  | ok v w2 =>
    rw [hq] at hr
    exact ⟨v,by
      have:(Result.ok (Next.value v) w2:Result Next) = .ok n w1:=hr
      injection this with h1 _;exact h1.symm⟩
  | halt x w2=>rw [hq] at hr;cases hr
theorem val_run {P:Program} {o:Oper} {ρ:Operand → Value} (h:valB o.op = true) {w w1:World} {n:Next} (hr:(execOp ρ o).run P w = .ok n w1):∃ v,n = .value v:=by
  unfold execOp at hr
  cases hop:o.op <;> rw [hop] at h <;> first | (exfalso;simp [valB] at h;done) | skip
  case call c =>
    rw [hop] at hr
    simp only [valB] at h
    cases hc:c.callee <;> rw [hc] at h <;> first | (exfalso;simp at h;done) | skip
    rename_i b
    cases b <;> first | (exfalso;simp at h;done) | skip
    all_goals
      simp only [resolve,hc,pure_bind,invoke,builtin] at hr
      exact vrun hr
  case pick c x y =>
    rw [hop] at hr
    simp only at hr
    rw [Sem.run_bind] at hr
    cases hq:(asBool (ρ c)).run P w with
    | ok v w2 =>
      rw [hq] at hr
      have:(Result.ok (Next.value (if v then ρ x else ρ y)) w2:Result Next) = .ok n w1:=hr
      injection this with h1 _
      exact ⟨_,h1.symm⟩
    | halt x w2=>rw [hq] at hr;cases hr
  case move x =>
    rw [hop] at hr
    have:(Result.ok (Next.value (ρ x)) w:Result Next) = .ok n w1:=hr
    injection this with h1 _
    exact ⟨_,h1.symm⟩
  case assign x =>
    rw [hop] at hr
    have:(Result.ok (Next.value (ρ x)) w:Result Next) = .ok n w1:=hr
    injection this with h1 _
    exact ⟨_,h1.symm⟩
  all_goals
    rw [hop] at hr
    exact vrun hr
def RL (P:Program) (ops:Array Oper):List Oper → (Act → World → Prop) → World → Act → World → Prop
  | [],K,w0,a,w=>w = w0 ∧ K a w
  | o :: rest,K,w0,a,w=>w = w0 ∧ ((Region.wanted o (yielded ops a.tmps) = true ∧ o.wp P a w (RL P ops rest K w0) (fun _ _ _=>False)) ∨ (Region.wanted o (yielded ops a.tmps) = false ∧ RL P ops rest K w0 (a.put o.dst undef) w))
section
variable {ds:List Deferred} {N:Nat} {a:Act} {l0 l1:List (Nat × Value)} {w w0:World} {P:Program} {ops:Array Oper} {l:List Oper} {Q:Exit → Act → World → Prop} {o:Oper} {m k i:Nat} {D:List Nat} {K:Act → World → Prop} {rest:List Oper}
theorem RL.wld:∀ {l:List Oper},RL P ops l K w0 a w → w = w0
  | [],h=>h.1
  | _ :: _,h=>h.1
theorem wpList_nil (h:K a w):RL P ops [] K w a w:=⟨rfl,h⟩
theorem a_d (S:StD ds N a l0) (hg:gOk ops l0 o = some true) (h:o.wp P a w (RL P ops rest K w) (fun _ _ _=>False)):RL P ops (o :: rest) K w a w:=⟨rfl,.inl ⟨gOk.wanted S hg,h⟩⟩
theorem c_Z (S:StD ds N a l0) (hg:gOk ops l0 o = some false) (h:RL P ops rest K w (a.put o.dst undef) w):RL P ops (o :: rest) K w a w:=⟨rfl,.inr ⟨gOk.wanted S hg,h⟩⟩
theorem a_3 (tys:List (TypeId × GT)) (ht:tysOk P tys = true):∀ (l1:List Oper) {l2:List Oper} {a:Act} {l l':List (Nat × Value)},StD ds N a l → a_H tys ops N l1 l = some l' → (∀ a',StD ds N a' l' → RL P ops l2 K w a' w) → RL P ops (l1 ++ l2) K w a w
  | [],l2,a,l,l',S,h,k=>by
    simp only [a_H,Option.some.injEq] at h
    subst h
    exact k a S
  | o :: l1,l2,a,l,l',S,h,k=>by
    unfold a_H at h
    split at h
    · rename_i d hg hd
      split at h
      · rename_i v hv
        split at h
        · rename_i hN
          exact a_d S hg (a_K S hd hN (d_k S o tys ht hv) fun a' S'=>a_3 tys ht l1 S' h k)
        · cases h
      · cases h
    · rename_i d hg hd
      split at h
      · rename_i hN
        refine c_Z S hg ?_
        rw [hd]
        exact a_3 tys ht l1 (S.put (by simpa [Nat.blt_eq] using hN) undef) h k
      · cases h
    · rename_i hg hd
      refine c_Z S hg ?_
      rw [hd]
      exact a_3 tys ht l1 S h k
    · cases h
theorem b_y (S:StD ds N a l1) (tys:List (TypeId × GT)) (ht:tysOk P tys = true) (m:Nat) {l0:List Oper} {l':List (Nat × Value)} (h:a_H tys ops N (l0.take m) l1 = some l')
    (k:∀ a',StD ds N a' l' → RL P ops (l0.drop m) K w a' w):RL P ops l0 K w a w:=by
  rw [← List.take_append_drop m l0]
  exact a_3 tys ht _ S h k
theorem c_w (S:StD ds N a l1) (tys:List (TypeId × GT)) (ht:tysOk P tys = true) (m:Nat) (ks:List Nat) {l0:List Oper} {l':List (Nat × Value)} (h:(a_H tys ops N (l0.take m) l1).map (fun q=>q.filter fun p=>ks.contains p.1) = some l')
    (k:∀ a',StD ds N a' l' → RL P ops (l0.drop m) K w a' w):RL P ops l0 K w a w:=by
  rw [Option.map_eq_some_iff] at h
  obtain ⟨q,h1,rfl⟩:=h
  exact b_y S tys ht m h1 fun a' S'=>k a' (S'.keep ks)
theorem app:∀ (l1:List Oper) {l2:List Oper} {M:Act → World → Prop} {a:Act} {w:World},RL P ops l1 M w0 a w → (∀ a' w',M a' w' → w' = w0 → RL P ops l2 K w0 a' w') → RL P ops (l1 ++ l2) K w0 a w
  | [],l2,M,a,w,h,k=>k a w h.2 h.1
  | o :: l1,l2,M,a,w,h,k=>by
    obtain ⟨e,h⟩:=h
    refine ⟨e,h.imp (fun q=>⟨q.1,Oper.wp_mono (fun a' w' h'=>app l1 h' k) q.2⟩) (fun q=>⟨q.1,app l1 q.2 k⟩)⟩
theorem seg (m:Nat) (M:Act → World → Prop) {l0:List Oper} (h1:RL P ops (l0.take m) M w a w) (h2:∀ a' w',M a' w' → RL P ops (l0.drop m) K w a' w):RL P ops l0 K w a w:=by
  rw [← List.take_append_drop m l0]
  exact app _ h1 fun a' w' h e=>by subst e;exact h2 a' w' h
theorem fm_range {α:Type}:∀ l:List α,(List.range l.length).filterMap (fun i=>l[i]?) = l
  | []=>rfl
  | x :: l=>by
    rw [List.length_cons,List.range_succ_eq_map,List.filterMap_cons_some (show (x :: l)[0]? = some x from rfl),List.filterMap_map]
    exact congrArg (x :: ·) (fm_range l)
theorem any_ (hs:Region.noSelect l.toArray = true) (hv:l.all (fun o=>valB o.op) = true) (hQ:PanicOk Q):∀ (is:List Nat) {D:List Nat} {a:Act},b_r l m D is = true → Region.ready .any l.toArray (a_D m (is.reverse ++ D)) = [] →
    RL P l.toArray (is.filterMap (l[·]?)) (fun a w=>Q .normal a w) w0 a w0 → wpAnyH P .any l.toArray Q (· = w0) is.length (a_D m D) a w0
  | [],D,a,_,he,h=>⟨he,h.2⟩
  | i :: is,D,a,hc,he,h=>by
    simp only [b_r,Bool.and_eq_true] at hc
    obtain ⟨⟨hf,hr⟩,hc⟩:=hc
    have hi:i ∈ Region.ready .any l.toArray (a_D m D):=by simpa using hr
    obtain ⟨_,o,ho,_⟩:=mem_ready.1 hi
    have ho':l[i]? = some o:=by simpa using ho
    rw [List.filterMap_cons_some ho'] at h
    have he':Region.ready .any l.toArray (a_D m (is.reverse ++ (i :: D))) = []:=by simpa using he
    have fin:∀ v,YieldsIf P l.toArray (· = w0) o v a → RL P l.toArray (is.filterMap (l[·]?)) (fun a w=>Q .normal a w) w0 (a.put o.dst v) w0 → wpAnyH P .any l.toArray Q (· = w0) (is.length + 1) (a_D m D) a w0:=fun v hy h' =>
      wpAnyH_first ho (Region.noSelect_spec hs) (fun c a w=>hQ.put c o.dst v a w) is.length (a_D m D) a w0 (Region.free_spec ho hf) hi hy rfl (any_ hs hv hQ is hc he' h')
    rcases h.2 with ⟨hw,h1⟩ | ⟨hw,h1⟩
    · unfold Oper.wp at h1
      cases hrun:(execOp a.eval o).run P w0 with
      | halt x w' =>
        rw [hrun] at h1
        cases x <;> simp only [Oper.upon] at h1
      | ok n w' =>
        obtain ⟨v,rfl⟩:=val_run (List.all_eq_true.1 hv o (List.mem_of_getElem? ho')) hrun
        rw [hrun] at h1
        simp only [Oper.upon] at h1
        have e:=h1.wld
        subst e
        exact fin v (.inl ⟨hw,fun w hw'=>by rw [hw'];exact hrun⟩) h1
    · exact fin undef (.inr ⟨hw,rfl⟩) h1
def roB (l:List Oper) (m:Nat):Bool:=Region.noSelect l.toArray && l.all (fun o=>valB o.op) && b_r l m [] (List.range m) && (Region.ready .any l.toArray (a_D m ((List.range m).reverse ++ []))).isEmpty && Nat.beq l.length m
theorem any (hc:roB l m = true) (hQ:PanicOk Q) (h:RL P l.toArray l (fun a w=>Q .normal a w) w a w):wpAny P .any l.toArray Q m (a_D m []) a w:=by
  simp only [roB,Bool.and_eq_true] at hc
  obtain ⟨⟨⟨⟨h1,h2⟩,h3⟩,h4⟩,h5⟩:=hc
  have hl:l.length = m:=Nat.eq_of_beq_eq_true h5
  have e:(List.range m).filterMap (l[·]?) = l:=by rw [← hl];exact fm_range l
  have:=any_ (P:=P) (w0:=w) (a:=a) h1 h2 hQ (List.range m) h3 (List.isEmpty_iff.1 h4) (by rw [e];exact h)
  rw [List.length_range] at this
  exact wpAny_of_held _ _ _ _ this
end
end Ro
section
variable {a:Act} {w:World} {P:Program} {l:List Oper} {Q:Exit → Act → World → Prop}
theorem b_F {id:Nat} (m:Nat) (hm:P.follows .mixedOrders = true) (hc:Ro.roB l m = true) (hQ:PanicOk Q) (h:∀ w',Below w.heap.size w w' → Ro.RL P l.toArray l (fun a w=>Q .normal a w) w' a w'):(Code.region id l.toArray true).wp P Q a w:=by
  have hl:l.length = m:=by simp only [Ro.roB,Bool.and_eq_true] at hc;exact Nat.eq_of_beq_eq_true hc.2
  exact c_y m hm hl hQ fun w' hb hq=>Ro.any hc hq (h w' hb)
end
end Go.Proofs.Ytfelbalkobcfhaa
