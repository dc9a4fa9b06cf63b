/- The rules of the walk over plain data, more: maps of numbers to true in variables, and ranges over them. Plain theorems, no condition. -/
import Derived.Test.YtfelbalkobcfhaaXE37
import Derived.Maps.RangeRun
set_option linter.unusedVariables false
set_option linter.unusedSimpArgs false
namespace Go.Proofs.Ytfelbalkobcfhaa
open Go.RowKit
def Oq (φ:Obj → Prop) (w:World) (b:Nat):Prop:=∃ o,φ o ∧ Ox o w b
section
variable {w0 w w' A B:World} {L L' LO P Q:List (Option Nat)} {K:Nat → Prop} {n b d i:Nat} {φ:Obj → Prop} {v v':Value} {o:Option Nat}
theorem Oq.lt (h:Oq φ w b):b < w.heap.size:=by obtain ⟨o,_,h⟩:=h;exact h.lt
theorem Oq.step (h:Oq φ w b) (hb:Below w.heap.size w w'):Oq φ w' b:=by obtain ⟨o,hs,h⟩:=h;exact ⟨o,hs,h.step hb⟩
theorem Oq.box (h:Oq φ w b) (hb:NewB w w' i):Oq φ w' b:=h.step hb.below
theorem Oq.newO (h:Oq φ w b) (hN:NewO w w' o):Oq φ w' b:=h.step hN.below
theorem Oq.newW (h:Oq φ w b) (hN:Wd w w' P):Oq φ w' b:=h.step hN.below
theorem Oq.wrote (h:Oq φ w b) (hw:Wrote i w w') (hm:True) (hne:b ≠ i):Oq φ w' b:=by obtain ⟨o,hs,h⟩:=h;exact ⟨o,hs,h.wrote hw hm hne⟩
theorem Oq.apd (h:Oq φ w b) (W:Wd w0 w L) (ha:Apd w w' v v') (hi:L[i]? = some v.ownBlock) {j:Nat} (hj:L[j]? = some (some b)) (hji:j ≠ i):Oq φ w' b:=by obtain ⟨o,hs,h⟩:=h;exact ⟨o,hs,h.apd W ha hi hj hji⟩
theorem Oq.more (h:Oq φ w b):Oq φ w b:=h
theorem Oq.lessAt (h:Oq φ w b) (i:Nat):Oq φ w b:=h
theorem Oq.drop (h:Oq φ w b) (i:Nat):Oq φ w b:=h
theorem Oq.nc (h:Oq φ A b) (hn:Nc d A B) (hb:b ≠ d):Oq φ B b:=by obtain ⟨o,hs,h⟩:=h;exact ⟨o,hs,h.nc hn hb⟩
theorem Oq.mk_ {m:Nat} (h:Oq φ w b) (hm:Mk m L w w') (hb:some b ∈ L):Oq φ w' b:=by obtain ⟨o,hs,h⟩:=h;exact ⟨o,hs,h.mk_ hm hb⟩
theorem Oq.gr {I:List Nat} {g g':GW} (h:Oq φ g.2 b) (hg:Gr w0 I L g g'):Oq φ g'.2 b:=by obtain ⟨o,hs,h⟩:=h;exact ⟨o,hs,h.gr hg⟩
theorem Oq.gs {I:List Nat} {s c:Nat} {F:GW → Prop} {g g':GW} (h:Oq φ g.2 c) (hg:Gs w0 I L s b F g g') (hne:c ≠ b):Oq φ g'.2 c:=by obtain ⟨o,hs,h⟩:=h;exact ⟨o,hs,h.gs hg hne⟩
theorem Oq.sto {t:GT} {T:TypeId} {g:Nat} {xn:PT t} {K':Nat → Prop} (h:Oq φ w b) (hs:Sto t T K' g xn w w') (hne:b ≠ g):Oq φ w' b:=by obtain ⟨o,hq,h⟩:=h;exact ⟨o,hq,h.sto hs hne⟩
theorem Oq.yst (Bs:List (Option Nat)) (h:Oq φ A b) (hy:Yst n A LO B L') (W:Wd w0 A (Bs ++ LO)) (hb:some b ∈ Bs):Oq φ B b:=by obtain ⟨o,hs,h⟩:=h;exact ⟨o,hs,h.yst Bs hy W hb⟩
theorem Oq.yfr (LO:List (Option Nat)) (h:Oq φ A b) (hy:Yst n A P B Q) (W:Wd w0 A (P ++ LO)) (hb:some b ∈ LO):Oq φ B b:=by obtain ⟨o,hs,h⟩:=h;exact ⟨o,hs,h.yfr LO hy W hb⟩
end
def MapObj (kd:IntKind) (xs:List Int) (o:Obj):Prop:=∃ es:Array MapEntry,o = .map es xs.length ∧ es.toList.map (fun e=>(e.key,e.val)) = xs.map (fun x=>(Value.int kd x,Value.bool true)) ∧ es.toList.map (·.born) = List.range xs.length ∧ ∀ x ∈ xs,InR kd x
def ItO (b n:Nat) (S:List Nat):Obj:=.mapIter (some b) n S.toArray n
structure MapTy (P:Program) (Tm Tk Tv:TypeId) (kd:IntKind):Prop where
  mp:P.underlying Tm = some (.map Tk Tv)
  key:P.underlying Tk = some (.int kd)
def mapTyB (P:Program) (Tm Tk Tv:TypeId) (kd:IntKind):Bool:=isMp (P.underlying Tm) Tk Tv && isIn (P.underlying Tk) kd
theorem MapTy.of {P:Program} {Tm Tk Tv:TypeId} {kd:IntKind} (h:mapTyB P Tm Tk Tv kd = true):MapTy P Tm Tk Tv kd:=by
  simp only [mapTyB,Bool.and_eq_true] at h
  obtain ⟨h4,h5⟩:=h
  refine ⟨?_,?_⟩
  · unfold isMp at h4
    split at h4
    · rename_i k v hu
      simp only [Bool.and_eq_true,Nat.beq_eq] at h4
      rw [hu,h4.1,h4.2]
    · cases h4
  · unfold isIn at h5
    split at h5
    · rename_i k hu
      rw [hu,of_decide_eq_true h5]
    · cases h5
theorem MapObj.at {kd:IntKind} {xs:List Int} {es:Array MapEntry} (h1:es.toList.map (fun e=>(e.key,e.val)) = xs.map (fun x=>(Value.int kd x,Value.bool true))) (h2:es.toList.map (·.born) = List.range xs.length)
    {e:MapEntry} (he:e ∈ es.toList):∃ x,xs[e.born]? = some x ∧ e.key = .int kd x ∧ e.val = .bool true ∧ e.born < xs.length:=by
  obtain ⟨j,hj,hje⟩:=List.mem_iff_getElem.1 he
  have hl:es.toList.length = xs.length:=by have:=congrArg List.length h1;simpa using this
  have hb:e.born = j:=by
    have:=congrArg (fun l=>l[j]?) h2
    simp only [List.getElem?_map,List.getElem?_eq_getElem hj,Option.map_some,hje] at this
    rw [List.getElem?_range (by omega)] at this
    exact Option.some.inj this
  have hx:j < xs.length:=by omega
  have:=congrArg (fun l=>l[j]?) h1
  simp only [List.getElem?_map,List.getElem?_eq_getElem hj,Option.map_some,hje,List.getElem?_eq_getElem hx] at this
  have q:=Option.some.inj this
  refine ⟨xs[j],by rw [hb,List.getElem?_eq_getElem hx],?_,?_,by omega⟩
  · exact (Prod.mk.inj q).1
  · exact (Prod.mk.inj q).2
section
variable {ds:List Deferred} {N:Nat} {a:Act} {l:List (Nat × Value)} {w w0:World} {P:Program} {ops:Array Oper} {Q:Exit → Act → World → Prop} {rest:List Oper} {o:Oper} {Kont:Act → World → Prop} {d:Nat} {Tm Tk Tv:TypeId} {kd:IntKind}
theorem c_z (S:StD ds N a l) (ho:o.op = .makeMap Tm .none) (hd:o.dst = some d) (hN:Nat.blt d N = true)
    (k:∀ a' w' b,NewB w w' b → Oq (MapObj kd []) w' b → StD ds N a' ((d,.map (some b)) :: l) → Kont a' w'):o.wp P a w Kont Q:=by
  refine a_D S (v:=.map (some w.heap.size)) (w':=w.alloc (.map #[] 0)) hd hN ?_ fun a'=>k a' _ w.heap.size (a_M w _) ⟨_,⟨#[],rfl,rfl,rfl,fun _ h=>(List.not_mem_nil h).elim⟩,heap_alloc_new w _,trivial⟩
  simp [execOp,ho,Instr.makeMap,newObj]
  rfl
theorem a_S (S:StD ds N a l) (h:MapTy P Tm Tk Tv kd) {x ix y:Operand} {b:Nat} {z:Int} {xs:List Int} (ho:o.op = .mapUpdate Tm x ix y) (hd:o.dst = .none) (hx:ev l x = some (.map (some b))) (hi:ev l ix = some (.int kd z)) (hy:ev l y = some (.bool true)) (Gz:InR kd z)
    (M:Oq (MapObj kd xs) w b) (k:∀ w',Wrote b w w' → Oq (MapObj kd (c_N z xs)) w' b → Kont a w'):o.wp P a w Kont Q:=by
  obtain ⟨ob,⟨es,rfl,hes,hbo,hin⟩,hO⟩:=M
  have hb:=hO.lt
  have hg:(getObj b).run P w = .ok (.map es xs.length) w:=by show Sem.run P (.getObj b .pure) w = _;simp [Sem.run,hO.1]
  have hset:∀ ob:Obj,(setObj b ob).run P w = .ok () { w with heap:=w.heap.setIfInBounds b ob }:=fun ob=>by show Sem.run P (.setObj b ob (.pure ())) w = _;simp [Sem.run,hO.1]
  have fin:∀ ob:Obj,MapObj kd (c_N z xs) ob → (execOp a.eval o).run P w = .ok .skip { w with heap:=w.heap.setIfInBounds b ob } → o.wp P a w Kont Q:=fun ob hs hr=>by
    unfold Oper.wp
    rw [hr]
    simp only [Oper.upon,hd]
    refine k _ ⟨rfl,rfl,rfl,by simp,fun q hq=>by simp [Array.getElem?_setIfInBounds_ne (Ne.symm hq)]⟩ ⟨ob,hs,?_,trivial⟩
    simp [hb]
  have hin':∀ x ∈ c_N z xs,InR kd x:=fun x hx=>by
    unfold c_N at hx
    by_cases hm:z ∈ xs
    · rw [if_pos hm] at hx;exact hin x hx
    · rw [if_neg hm] at hx
      rcases List.mem_append.1 hx with hx | hx
      · exact hin x hx
      · rw [List.mem_singleton.1 hx];exact Gz
  rcases c_5 kd z es.toList xs 0 hes with ⟨h1,j,_,h2,e,h3,h4,h5⟩ | ⟨h1,h2⟩
  · have h3':es[j]? = some e:=by simpa using h3
    refine fin (.map (es.modify j fun e=>{ e with key:=.int kd z,val:=.bool true }) xs.length) ⟨_,by rw [c_N,if_pos h1],?_,?_,hin'⟩ ?_
    · rw [c_N,if_pos h1,← hes]
      refine List.ext_getElem? fun q=>?_
      simp only [List.getElem?_map,Array.getElem?_toList,Array.getElem?_modify]
      by_cases hq:j = q
      · subst hq
        simp [h3',h4,h5]
      · simp [hq]
    · rw [c_N,if_pos h1,← hbo]
      refine List.ext_getElem? fun q=>?_
      simp only [List.getElem?_map,Array.getElem?_toList,Array.getElem?_modify]
      by_cases hq:j = q
      · subst hq
        simp [h3']
      · simp [hq]
    · simp [execOp,ho,S.eval hx,S.eval hi,S.eval hy,Instr.mapUpdate,run_underlying h.mp,hg,b_G _ h.key,Instr.findKey,run_underlying h.key,h2,h3',h4,Instr.keyThatStays,Instr.sameBits,hset]
  · refine fin (.map (es.push { key:=.int kd z,val:=.bool true,born:=xs.length }) (xs.length + 1)) ⟨_,by rw [c_N,if_neg h1,List.length_append];rfl,?_,?_,hin'⟩ ?_
    · rw [c_N,if_neg h1]
      simp [hes]
    · rw [c_N,if_neg h1]
      simp [hbo,List.range_succ]
    · simp [execOp,ho,S.eval hx,S.eval hi,S.eval hy,Instr.mapUpdate,run_underlying h.mp,hg,b_G _ h.key,Instr.findKey,run_underlying h.key,h2,hset]
theorem op_lenMap (S:StD ds N a l) (h:MapTy P Tm Tk Tv kd) {x:Operand} {b:Nat} {xs:List Int} {y:Int} (ho:o.op = .call { callee:=.builtin .len,args:=#[x],argTypes:=#[Tm] }) (hd:o.dst = some d) (hN:Nat.blt d N = true)
    (hx:ev l x = some (.map (some b))) (M:Oq (MapObj kd xs) w b) (hy:ckI .i64 (xs.length:Int) = some y) (k:∀ a',StD ds N a' ((d,.int .i64 y) :: l) → Kont a' w):o.wp P a w Kont Q:=by
  obtain ⟨ob,⟨es,rfl,hes,hbo,hin⟩,hO⟩:=M
  have hg:(getObj b).run P w = .ok (.map es xs.length) w:=by show Sem.run P (.getObj b .pure) w = _;simp [Sem.run,hO.1]
  have hl:es.size = xs.length:=by have:=congrArg List.length hes;simpa using this
  have hyy:=(a_h hy).1
  subst hyy
  refine a_D S hd hN ?_ k
  simp [execOp,ho,resolve,invoke,builtin,S.eval hx,Builtin.len_,run_underlying h.mp,goInt,hg,hl]
theorem e_u (S:StD ds N a l) (h:MapTy P Tm Tk Tv kd) {x:Operand} {b:Nat} {xs:List Int} (ho:o.op = .range Tm x) (hd:o.dst = some d) (hN:Nat.blt d N = true) (hx:ev l x = some (.map (some b))) (M:Oq (MapObj kd xs) w b)
    (k:∀ a' w' i,NewB w w' i → Ox (ItO b xs.length []) w' i → StD ds N a' ((d,.pointer (some ⟨i,0,.none⟩)) :: l) → Kont a' w'):o.wp P a w Kont Q:=by
  obtain ⟨ob,⟨es,rfl,hes,hbo,hin⟩,hO⟩:=M
  refine a_D S (v:=.pointer (some ⟨w.heap.size,0,.none⟩)) (w':=w.alloc (ItO b xs.length [])) hd hN ?_ fun a'=>k a' _ w.heap.size (a_M w _) ⟨heap_alloc_new w _,trivial⟩
  have:=run_range_map w Tm Tk Tv b es xs.length h.mp hO.1
  simp [execOp,ho,S.eval hx,this]
  rfl
theorem e_T (S:StD ds N a l) {it:Operand} {b i:Nat} {xs:List Int} {Se:List Nat} (ho:o.op = .next it false) (hd:o.dst = some d) (hN:Nat.blt d N = true) (hx:ev l it = some (.pointer (some ⟨i,0,.none⟩))) (M:Oq (MapObj kd xs) w b) (I:Ox (ItO b xs.length Se) w i)
    (k1:∀ a',(∀ k,k < xs.length → k ∈ Se) → StD ds N a' ((d,.tuple #[.bool false]) :: l) → Kont a' w)
    (k2:∀ a' w' k x,k ∉ Se → xs[k]? = some x → InR kd x → Wrote i w w' → Ox (ItO b xs.length (Se ++ [k])) w' i → StD ds N a' ((d,.tuple #[.bool true,.int kd x,.bool true]) :: l) → Kont a' w'):o.wp P a w Kont Q:=by
  obtain ⟨ob,⟨es,rfl,hes,hbo,hin⟩,hO⟩:=M
  have hold:∀ x ∈ es.toList,x.born < xs.length:=fun x hx=>by obtain ⟨_,_,_,_,h⟩:=MapObj.at hes hbo hx;exact h
  have hil:=I.lt
  rcases run_next_at (P:=P) w o.type i b xs.length xs.length Se.toArray es xs.length I.1 hO.1 hold (Nat.le_refl _) with ⟨h0,hr⟩ | ⟨e,he,w1,hw1,hr⟩
  · refine a_D S hd hN (by simp [execOp,ho,S.eval hx,hr]) fun a'=>k1 a' fun k hk=>?_
    have hmem:k ∈ es.toList.map (·.born):=by rw [hbo];exact List.mem_range.2 hk
    obtain ⟨e,he,rfl⟩:=List.mem_map.1 hmem
    have hz:leftOf es Se.toArray = #[]:=Array.eq_empty_of_size_eq_zero h0
    unfold leftOf at hz
    rw [Array.filter_eq_empty_iff] at hz
    have:=hz e (by simpa using he)
    simpa using this
  · have hem:e ∈ es.toList:=by unfold leftOf at he;simp at he ⊢;exact he.1
    have hns:e.born ∉ Se:=by unfold leftOf at he;simp at he;exact he.2
    obtain ⟨x,hxx,hk,hv,hlt⟩:=MapObj.at hes hbo hem
    refine a_D S hd hN (by simp [execOp,ho,S.eval hx,hr];exact ⟨rfl,rfl⟩) fun a'=>?_
    rw [hk,hv]
    refine k2 a' _ e.born x hns hxx (hin x (List.mem_of_getElem? hxx)) ?_ ⟨?_,trivial⟩
    · rcases hw1 with rfl | rfl
      · exact ⟨rfl,rfl,rfl,by simp [ChangeMaps.setBlock],fun q hq=>by simp [ChangeMaps.setBlock,Array.getElem?_setIfInBounds_ne (Ne.symm hq)]⟩
      · exact ⟨rfl,rfl,rfl,by show (w.heap.setIfInBounds i _).size = _;simp,fun q hq=>by show (w.heap.setIfInBounds i _)[q]? = _;simp [Array.getElem?_setIfInBounds_ne (Ne.symm hq)]⟩
    · rcases hw1 with rfl | rfl
      · show (w1.heap.setIfInBounds i _)[i]? = _;simp [hil,ItO]
      · show (w.heap.setIfInBounds i _)[i]? = _;simp [hil,ItO]
theorem e_v (S:StD ds N a l) {it:Operand} {b i k0:Nat} {xs:List Int} {x:Int} {Se:List Nat} (ho:o.op = .entry it) (hd:o.dst = some d) (hN:Nat.blt d N = true) (hx:ev l it = some (.pointer (some ⟨i,0,.none⟩))) (M:Oq (MapObj kd xs) w b) (I:Ox (ItO b xs.length (Se ++ [k0])) w i) (hk:xs[k0]? = some x)
    (k:∀ a',StD ds N a' ((d,.tuple #[.int kd x,.bool true]) :: l) → Kont a' w):o.wp P a w Kont Q:=by
  obtain ⟨ob,⟨es,rfl,hes,hbo,hin⟩,hO⟩:=M
  have hl:es.toList.length = xs.length:=by have:=congrArg List.length hes;simpa using this
  have hk0:k0 < xs.length:=by rcases Nat.lt_or_ge k0 xs.length with h | h;exact h;rw [List.getElem?_eq_none h] at hk;cases hk
  have hj:k0 < es.toList.length:=by omega
  have hb:(es.toList[k0]).born = k0:=by
    have:=congrArg (fun l=>l[k0]?) hbo
    simp only [List.getElem?_map,List.getElem?_eq_getElem hj,Option.map_some] at this
    rw [List.getElem?_range hk0] at this
    exact Option.some.inj this
  obtain ⟨x',hx',hkk,hv,_⟩:=MapObj.at hes hbo (e:=es.toList[k0]) (List.getElem_mem hj)
  rw [hb,hk] at hx'
  obtain rfl:=Option.some.inj hx'
  have hI:w.heap[i]? = some (.mapIter (some b) xs.length (Se.toArray.push (es.toList[k0]).born) xs.length):=by rw [I.1,ItO,hb];simp
  have hr:=run_entry_at (P:=P) w i b xs.length Se.toArray es xs.length es.toList[k0] hI hO.1 (List.getElem_mem hj) (by rw [hbo];exact List.nodup_range)
  rw [hkk,hv] at hr
  exact a_D S hd hN (by simp [execOp,ho,S.eval hx,hr]) k
end
theorem c_7:∀ (n:Nat) {l:List Nat},l.Nodup → (∀ k ∈ l,k < n) → l.length ≤ n
  | 0,l,_,h=>by
    cases l with
    | nil=>simp
    | cons x xs=>exact absurd (h x (by simp)) (by omega)
  | n + 1,l,hn,h=>by
    have h1:=c_7 n (l:=l.filter (· ≠ n)) (hn.sublist List.filter_sublist) fun k hk=>by
      have:=h k (List.mem_filter.1 hk).1
      have h2:=(List.mem_filter.1 hk).2
      simp at h2
      omega
    have h2:l.length ≤ (l.filter (· ≠ n)).length + 1:=by
      by_cases hm:n ∈ l
      · obtain ⟨p,q,rfl⟩:=List.append_of_mem hm
        have hp:n ∉ p ∧ n ∉ q:=by
          rw [List.nodup_append] at hn
          refine ⟨fun hp=>hn.2.2 n hp n (by simp) rfl,?_⟩
          have:=hn.2.1
          rw [List.nodup_cons] at this
          exact this.1
        have e1:p.filter (· ≠ n) = p:=List.filter_eq_self.2 fun x hx=>by simp;exact fun h=>hp.1 (h ▸ hx)
        have e2:q.filter (· ≠ n) = q:=List.filter_eq_self.2 fun x hx=>by simp;exact fun h=>hp.2 (h ▸ hx)
        rw [List.filter_append,List.filter_cons,e1,e2]
        simp
        omega
      · have e1:l.filter (· ≠ n) = l:=List.filter_eq_self.2 fun x hx=>by simp;exact fun h=>hm (h ▸ hx)
        rw [e1];omega
    omega
def c_g {β:Type} [DecidableEq β] (f:Int → Option (Unit ⊕ β)):List Int → Option (Unit ⊕ β)
  | []=>some (.inl ())
  | x :: xs=>(f x).bind fun z=>(c_g f xs).bind fun y=>match z,y with
    | .inl _,y=>some y
    | .inr r,.inl _=>some (.inr r)
    | .inr r,.inr q=>if r = q then some (.inr r) else .none
theorem c_8 {β:Type} [DecidableEq β] {f:Int → Option (Unit ⊕ β)}:∀ {xs:List Int} {y:Unit ⊕ β},c_g f xs = some y → ∀ x ∈ xs,∃ z,f x = some z ∧ (z = .inl () ∨ z = y)
  | [],y,h,x,hx=>(List.not_mem_nil hx).elim
  | u :: us,y,h,x,hx=>by
    unfold c_g at h
    obtain ⟨z,hz,h⟩:=a_c h
    obtain ⟨q,hq,h⟩:=a_c h
    have ih:=c_8 hq
    rcases z with ⟨⟩ | r
    · obtain rfl:=Option.some.inj h
      rcases List.mem_cons.1 hx with rfl | hx
      · exact ⟨_,hz,.inl rfl⟩
      · exact ih x hx
    · rcases q with ⟨⟩ | q
      · obtain rfl:=Option.some.inj h
        rcases List.mem_cons.1 hx with rfl | hx
        · exact ⟨_,hz,.inr rfl⟩
        · obtain ⟨z,h1,h2⟩:=ih x hx
          exact ⟨z,h1,.inl (by rcases h2 with h2 | h2 <;> exact h2)⟩
      · simp only at h
        by_cases he:r = q
        · rw [if_pos he] at h
          obtain rfl:=Option.some.inj h
          subst he
          rcases List.mem_cons.1 hx with rfl | hx
          · exact ⟨_,hz,.inr rfl⟩
          · exact ih x hx
        · rw [if_neg he] at h
          cases h
theorem d_w {β:Type} [DecidableEq β] {f:Int → Option (Unit ⊕ β)}:∀ {xs:List Int} {y:Unit ⊕ β},c_g f xs = some y → (∀ k,k < xs.length → ∀ x,xs[k]? = some x → f x = some (.inl ())) → y = .inl ()
  | [],y,h,_=>(Option.some.inj h).symm
  | u :: us,y,h,ha=>by
    unfold c_g at h
    obtain ⟨z,hz,h⟩:=a_c h
    obtain ⟨q,hq,h⟩:=a_c h
    have h0:=ha 0 (by simp) u rfl
    rw [hz] at h0
    obtain rfl:=Option.some.inj h0
    have:=d_w hq fun k hk x hx=>ha (k + 1) (by simp;omega) x (by simpa using hx)
    subst this
    exact (Option.some.inj h).symm
section
variable {ds:List Deferred} {N:Nat} {a:Act} {l:List (Nat × Value)} {w w0:World} {P:Program} {ops:Array Oper} {Q:Exit → Act → World → Prop} {rest:List Oper} {o:Oper} {Kont:Act → World → Prop} {d:Nat} {K:Nat → Prop} {L:List (Option Nat)}
theorem op_allocp (S:StD ds N a l) {T:TypeId} (ho:o.op = .alloc T) (hz:(P.info? T).bind (·.zero) = some (.pointer .none)) (hd:o.dst = some d) (hN:Nat.blt d N = true)
    (k:∀ a' w' b,NewB w w' b → Ox (.cells #[.pointer .none] T (0,0)) w' b → StD ds N a' ((d,.pointer (some ⟨b,0,.none⟩)) :: l) → Kont a' w'):o.wp P a w Kont Q:=by
  obtain ⟨i,hi,hz⟩:=Option.bind_eq_some_iff.1 hz
  refine a_D S (v:=.pointer (some ⟨w.heap.size,0,.none⟩)) (w':=w.alloc (.cells #[.pointer .none] T)) hd hN ?_ fun a'=>k a' _ w.heap.size (a_M w _) ⟨heap_alloc_new w _,trivial⟩
  simp [execOp,ho,Instr.alloc,zeroValue,typeInfo,hi,hz,newVar,newRow,Value.cells]
theorem op_loadp (S:StD ds N a l) {T T':TypeId} {ad:Operand} {v:Value} {b:Nat} (ho:o.op = .load T ad) (ht:ptrB P T = true) (hd:o.dst = some d) (hN:Nat.blt d N = true) (ha:ev l ad = some (.pointer (some ⟨b,0,.none⟩)))
    (hO:Ox (.cells #[v] T' (0,0)) w b) (k:∀ a',StD ds N a' ((d,v) :: l) → Kont a' w):o.wp P a w Kont Q:=by
  refine a_D S (v:=v) hd hN ?_ k
  have hc:w.cell? ⟨b,0,.none⟩ = some v:=by unfold World.cell?;rw [hO.1];rfl
  unfold ptrB at ht
  split at ht
  · rename_i hu
    simp [execOp,ho,S.eval ha,Instr.loadAt,Instr.sureAddr,loadVar,isAgg,run_underlying hu,hc]
  · cases ht
theorem op_storep (S:StD ds N a l) {T:TypeId} (hs:((P.info? T).any fun i=>i.size == 1) = true) {ad x:Operand} {r:Option Addr} {v0:Value} {b:Nat} (ho:o.op = .store T ad x) (hd:o.dst = .none) (ha:ev l ad = some (.pointer (some ⟨b,0,.none⟩))) (hx:ev l x = some (.pointer r))
    (hO:Ox (.cells #[v0] T (0,0)) w b) (k:∀ w',Wrote b w w' → Ox (.cells #[.pointer r] T (0,0)) w' b → Kont a w'):o.wp P a w Kont Q:=by
  obtain ⟨i,hi,hs⟩:∃ i,P.info? T = some i ∧ i.size = 1:=by
    cases hi:P.info? T with
    | none=>rw [hi] at hs;cases hs
    | some i=>rw [hi] at hs;exact ⟨i,rfl,by simpa using hs⟩
  have hc:w.cell? ⟨b,0,.none⟩ = some v0:=by unfold World.cell?;rw [hO.1];rfl
  have hfz:w.frozen? ⟨b,0,.none⟩ = false:=by unfold World.frozen?;rw [hO.1];rfl
  have hst:(store ⟨b,0,.none⟩ (.pointer r)).run P w = .ok () (w.setCell ⟨b,0,.none⟩ (.pointer r)):=by
    show Sem.run P (.store .plain _ (.pointer r) (.pure ())) w = _
    simp [Sem.run,hc,hfz]
  have hrun:(execOp a.eval o).run P w = .ok .skip (w.setCell ⟨b,0,.none⟩ (.pointer r)):=by
    simp [execOp,ho,S.eval ha,S.eval hx,Instr.storeAt,Instr.sureAddr,storeVar,sizeOf,typeInfo,hi,hs,Value.cells,storeCells,Addr.add,hst]
  have hb:=hO.lt
  unfold Oper.wp
  rw [hrun]
  simp only [Oper.upon,hd]
  have hg:w.heap[b] = .cells #[v0] T (0,0):=by
    have:=hO.1
    rw [Array.getElem?_eq_getElem hb] at this
    exact Option.some.inj this
  refine k _ ⟨rfl,rfl,rfl,by simp [World.setCell],fun q hq=>?_⟩ ⟨?_,trivial⟩
  · simp [World.setCell,Array.getElem?_modify,Ne.symm hq]
  · simp [World.setCell,Array.getElem?_modify,hb,hg,Array.getElem_modify]
theorem RepAt.sl {m:Nat} {e:GT} {p:Addr} {xs:List (PT e)} (R:RepAt (.arr m e) w K p xs) (hb:p.block < w.heap.size) (hK:K p.block) (hm:m ≤ 9223372036854775807):RepV (.sl e) w K (.slice (some p) m m) (⟨xs,some m⟩:Sl (PT e)):=by
  obtain ⟨h0,cs,⟨hx,css,rfl,hl,hr⟩,hc⟩:=R
  obtain ⟨b,off,sp⟩:=p
  have h0:sp = .none:=h0
  subst h0
  have key:∀ (css:List (List Value)) (ys:List (PT e)),css.length = ys.length → (∀ (j:Nat) c y,css[j]? = some c → ys[j]? = some y → RepCs e w K c y) → ∀ (j:Nat) (c:List Value),css[j]? = some c → ∀ (i:Nat) (v:Value),c[i]? = some v → css.flatten[j * e.sz + i]? = some v:=by
    intro css
    induction css with
    | nil=>intro ys _ _ j c hj;simp at hj
    | cons c0 css ih =>
      intro ys hly hh j c hj i v hi
      match ys,hly with
      | y0 :: ys,hly =>
        have hlen:c0.length = e.sz:=RepCs.len (hh 0 c0 y0 rfl rfl)
        have hi':i < c.length:=by rcases Nat.lt_or_ge i c.length with h | h;exact h;rw [List.getElem?_eq_none h] at hi;cases hi
        cases j with
        | zero =>
          obtain rfl:c0 = c:=by simpa using hj
          rw [List.flatten_cons,Nat.zero_mul,Nat.zero_add,List.getElem?_append_left hi',hi]
        | succ j =>
          have hj':css[j]? = some c:=by simpa using hj
          have:=ih ys (by simpa using hly) (fun j c y h1 h2=>hh (j + 1) c y (by simpa using h1) (by simpa using h2)) j c hj' i v hi
          rw [List.flatten_cons,List.getElem?_append_right (by rw [hlen,Nat.add_mul];omega),hlen,← this]
          congr 1
          rw [Nat.add_mul];omega
  refine ⟨[_],⟨_,_,_,rfl,hx,Nat.le_refl _,hm,fun k hk=>by simpa using hk,?_⟩,rfl⟩
  refine .inr ⟨b,off,rfl,hb,hK,fun j x hj=>?_⟩
  have hjl:j < css.length:=by
    rcases Nat.lt_or_ge j xs.length with h | h
    · omega
    · rw [List.getElem?_eq_none h] at hj;cases hj
  have hcj:=List.getElem?_eq_getElem hjl
  have hR:=hr j _ x hcj hj
  refine ⟨css[j],hR,hR.len,fun i v hv=>?_⟩
  have:=hc (j * e.sz + i) v (key css xs (by omega) hr j _ hcj i v hv)
  rw [← this]
  congr 1
  show (⟨b,off + j * e.sz + i,.none⟩:Addr) = ⟨b,off + (j * e.sz + i),.none⟩
  rw [Nat.add_assoc]
theorem c_A (S:StD ds N a l) {T:TypeId} {x:Operand} {m:Nat} {e:GT} {p:Addr} {xs:List (PT e)} (ho:o.op = .slice T x .none .none .none) (ht:tie P (.arr m e) false T [] 0 = true) (hd:o.dst = some d) (hN:Nat.blt d N = true)
    (hx:ev l x = some (.pointer (some p))) (R:RepAt (.arr m e) w K p xs) (hb:p.block < w.heap.size) (hK:K p.block) (hm:m ≤ 9223372036854775807)
    (k:∀ a' v,RepV (.sl e) w K v (⟨xs,some m⟩:Sl (PT e)) → StD ds N a' ((d,v) :: l) → Kont a' w):o.wp P a w Kont Q:=by
  obtain ⟨E,hE,htE⟩:=b_8 ht
  obtain ⟨ie,hie,hse⟩:=a_E htE
  refine a_D S (v:=.slice (some p) m m) hd hN ?_ fun a'=>k a' _ (R.sl hb hK hm)
  have hp:p.add 0 = p:=by cases p;rfl
  by_cases h0:m = 0
  · subst h0;simp [execOp,ho,S.eval hx,Instr.sliceAt,Instr.sliceBounds,run_underlying hE,sizeOf,typeInfo,hie,hse,Instr.sureAddr]
  · simp [execOp,ho,S.eval hx,Instr.sliceAt,Instr.sliceBounds,run_underlying hE,sizeOf,typeInfo,hie,hse,Instr.sureAddr]
    exact fun _=>hp
theorem Pr.kk {t:GT} {p:Addr} {x:PT t} (h:Pr t w0 K p x) (W:Wd w0 w L):Kx K w0.heap.size L p.block:=⟨.inl h.2.2,fun hm=>by have:=(W.own _ hm).1;have:=h.2.1;omega⟩
theorem Pr.lt' {t:GT} {p:Addr} {x:PT t} (h:Pr t w0 K p x) (W:Wd w0 w L):p.block < w.heap.size:=by have:=W.below.size;have:=h.2.1;omega
theorem Pr.br' {t:GT} {p:Addr} {x:PT t} (h:Pr t w K p x):Br t w K p x:=⟨h.1,h.2.1⟩
theorem Bx.prF {t:GT} {T:TypeId} {b i:Nat} {x:PT t} (h:Bx t T w (Kx K w0.heap.size L) b x) (W:Wd w0 w L) (hi:L[i]? = some (some b)):Pr t w (Kx K w0.heap.size []) ⟨b,0,.none⟩ x :=
  ⟨(Br.free (Bx.br h)).1,h.lt,.inr (W.own b (List.mem_of_getElem? hi)).1,fun h=>(List.not_mem_nil h).elim⟩
end
namespace R
section
variable {r:Option Nat} {P:Program} {Q:Exit → Act → World → Prop} {a:Act} {w:World}
@[reducible] def e_w (Q:Exit → Act → World → Prop):Exit → Act → World → Prop:=fun e a w=>match e with | .panic _=>False | e=>Q e a w
theorem drawn_ord {id:Nat} {l:List Oper} (m:Nat) (hm:P.follows .mixedOrders = true) (hd:l.all b_q = true) (hl:l.length = m)
    (h:∀ w',Below w.heap.size w w' → PanicOk (e_w Q) → An P l (e_w Q) m m [] a w'):CI r P (.region id l.toArray true) Q a w:=by
  intro hQ
  subst hl
  have hQ':¬ LetsOut (e_w Q):=fun ⟨a,w,h⟩=>hQ ⟨a,w,h⟩
  have hq:=h { w with drawn:=w.drawn + 1 } ⟨rfl,rfl,rfl,Nat.le_refl _,fun _ _=>rfl⟩ fun _ _ _ _ _ h=>h.elim
  refine wpIn_mono (wpIn_region_any hm (c_e hQ' (fun i o ho=>List.all_eq_true.1 hd o (List.mem_of_getElem? (i:=i) (by simpa using ho))) _ _ _ _ (by simpa [An,a_U] using hq))) fun e a' w' he=>?_
  cases e with
  | panic _=>exact he.elim
  | _=>exact he
end
end R
end Go.Proofs.Ytfelbalkobcfhaa
