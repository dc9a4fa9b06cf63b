/- The rules of the walk over plain data, more: own slices, element by element; places given up. Plain theorems, no condition. -/
import Derived.Test.YtfelbalkobcfhaaXE10
set_option linter.unusedVariables false
set_option linter.unusedSimpArgs false
namespace Go.Proofs.Ytfelbalkobcfhaa
open Go.RowKit
section
variable {w0 w w':World} {L:List (Option Nat)} {K:Nat → Prop} {n b:Nat} {t:GT} {v v':Value}
theorem Wd.lessAt (h:Wd w0 w L) (i:Nat):Wd w0 w (L.eraseIdx i):=h.less (List.eraseIdx_sublist _ _)
theorem RepV.lessAt {u:Value} {x:PT t} (h:RepV t w (Kx K n L) u x) (i:Nat):RepV t w (Kx K n (L.eraseIdx i)) u x:=h.less (List.eraseIdx_sublist _ _)
theorem Bx.lessAt {T:TypeId} {x:PT t} (h:Bx t T w (Kx K n L) b x) (i:Nat):Bx t T w (Kx K n (L.eraseIdx i)) b x:=h.less (List.eraseIdx_sublist _ _)
theorem Ow.lessAt {e:GT} {E:TypeId} {xs:List (PT e)} {c:Option Nat} (h:Ow e E w n (Kx K n L) v xs c) (i:Nat):Ow e E w n (Kx K n (L.eraseIdx i)) v xs c:=h.less (List.eraseIdx_sublist _ _)
theorem Wd.drop (h:Wd w0 w L) (i:Nat):Wd w0 w (L.drop i):=h.less (List.drop_sublist _ _)
theorem RepV.drop {u:Value} {x:PT t} (h:RepV t w (Kx K n L) u x) (i:Nat):RepV t w (Kx K n (L.drop i)) u x:=h.less (List.drop_sublist _ _)
theorem Bx.drop {T:TypeId} {x:PT t} (h:Bx t T w (Kx K n L) b x) (i:Nat):Bx t T w (Kx K n (L.drop i)) b x:=h.less (List.drop_sublist _ _)
theorem Ow.drop {e:GT} {E:TypeId} {xs:List (PT e)} {c:Option Nat} (h:Ow e E w n (Kx K n L) v xs c) (i:Nat):Ow e E w n (Kx K n (L.drop i)) v xs c:=h.less (List.drop_sublist _ _)
theorem b_M {α:Type} {l:List α} {i:Nat} {x:α} (h:x ∈ l.eraseIdx i):∃ j,j ≠ i ∧ l[j]? = some x:=by
  obtain ⟨j,hj⟩:=List.getElem?_of_mem h
  rw [List.getElem?_eraseIdx] at hj
  split at hj
  · exact ⟨j,by omega,hj⟩
  · exact ⟨j + 1,by omega,hj⟩
theorem Ow.pubAt {e:GT} {E:TypeId} {xs:List (PT e)} {c:Option Nat} (h:Ow e E w n (Kx K n L) v xs c) (W:Wd w0 w L) (i:Nat) (hi:L[i]? = some v.ownBlock):RepV (.sl e) w (Kx K n (L.eraseIdx i)) v ⟨xs,c⟩:=by
  refine h.pub (List.eraseIdx_sublist _ _) fun k hk hm=>?_
  obtain ⟨j,hji,hj⟩:=b_M hm
  rcases W.neq hji hj hi with e | e
  · cases e
  · exact e hk.symm
theorem Wd.one (W:Wd w0 w L) {p q:Nat} (hpq:p ≠ q) {x:Option Nat} (hp:L[p]? = some x) (hq:L[q]? = some (some b)):x ≠ some b:=by
  rcases W.neq hpq.symm hq hp with e | e
  · cases e
  · exact fun h=>e h.symm
theorem e_B (b off m:Nat):(⟨b,off,.none⟩:Addr).add m = ⟨b,off + m,.none⟩:=Addr.add_lit b off m
theorem Ow.el {e:GT} {E:TypeId} {xs:List (PT e)} {c:Option Nat} (h:Ow e E w n K v xs c) {j:Nat} {y:PT e} (hj:xs[j]? = some y) :
    ∃ g cap,v = .slice (some ⟨g,0,.none⟩) xs.length cap ∧ RepAt e w K ⟨g,j * e.sz,.none⟩ y:=by
  obtain ⟨cs,h1,h2,h3⟩:=h
  rcases h1.2 with ⟨rfl,hcs⟩ | ⟨g,cap,cur,rfl,hb,hg,hnc,hcm,hsz,htake⟩
  · have:xs = []:=List.eq_nil_of_length_eq_zero hcs
    subst this
    simp at hj
  · refine ⟨g,cap,rfl,rfl,?_⟩
    have hjl:=(List.getElem?_eq_some_iff.1 hj).1
    obtain ⟨c1,cc,c2,e1,e2,e3,_⟩:=Ln.arr hjl y w K cs xs h2
    refine ⟨cc,?_,fun i u hu=>?_⟩
    · have:xs.getD j y = y:=by rw [List.getD_eq_getElem?_getD,hj];rfl
      have e3':RepCs e w K cc (xs.getD j y):=e3
      rw [this] at e3'
      exact e3'
    · have hil:=(List.getElem?_eq_some_iff.1 hu).1
      have:=h1.cells (g:=g) rfl (j * e.sz + i) u (by
        rw [e1,List.append_assoc,List.getElem?_append_right (by omega),e2,Nat.add_sub_cancel_left,List.getElem?_append_left hil]
        exact hu)
      rw [Addr.add_lit] at this
      simpa using this
end
def lrK {α β γ:Type} (y:α ⊕ β) (g:β → Option γ) (f:α → Option γ):Option γ:=match y with | .inl s=>f s | .inr r=>g r
theorem b_N {α β γ:Type} {e:α} {g:β → Option γ} {f:α → Option γ} {r:γ} (h:lrK (.inl e) g f = some r):f e = some r:=h
theorem b_E {α β:Type} {e r:β} {f:α → Option β} (h:lrK (.inr e) some f = some r):e = r:=Option.some.inj h
theorem Ow.forget {e:GT} {E:TypeId} {w:World} {n:Nat} {K:Nat → Prop} {v:Value} {xs:List (PT e)} {c:Option Nat} (h:Ow e E w n K v xs c):Ow e E w n K v xs .none:=by
  obtain ⟨cs,h1,h2,h3⟩:=h
  exact ⟨cs,h1,h2,fun q hq=>by cases hq⟩
section
variable {ds:List Deferred} {N:Nat} {a:Act} {l:List (Nat × Value)} {w w0:World} {P:Program} {ops:Array Oper} {Q:Exit → Act → World → Prop} {rest:List Oper} {o:Oper} {Kont:Act → World → Prop} {d:Nat} {K:Nat → Prop} {n:Nat} {L:List (Option Nat)}
theorem a_w (S:StD ds N a l) {T E:TypeId} {x i:Operand} {e:GT} {v:Value} {xs:List (PT e)} {c:Option Nat} {k0:IntKind} {j:Int} {y:PT e} (ho:o.op = .indexAddr T x i) (ht:tie P (.sl e) false T [] 0 = true) (hd:o.dst = some d) (hN:Nat.blt d N = true)
    (hx:ev l x = some v) (O:Ow e E w n K v xs c) (hi:ev l i = some (.int k0 j)) (hj:idx xs j = some y)
    (k:∀ a' g,v.ownBlock = some g → RepAt e w K ⟨g,j.toNat * e.sz,.none⟩ y → StD ds N a' ((d,.pointer (some ⟨g,j.toNat * e.sz,.none⟩)) :: l) → Kont a' w):o.wp P a w Kont Q:=by
  obtain ⟨E',hE,htE⟩:=b_b ht
  obtain ⟨ie,hie,hse⟩:=a_E htE
  obtain ⟨h0,hg,hlt⟩:=a_1 hj
  obtain ⟨g,cap,rfl,hR⟩:=O.el hg
  have hlt':0 ≤ j ∧ j < (xs.length:Int):=⟨h0,hlt⟩
  refine a_D S (v:=.pointer (some ⟨g,j.toNat * e.sz,.none⟩)) hd hN ?_ fun a'=>k a' g rfl hR
  simp [execOp,ho,S.eval hx,S.eval hi,Instr.indexAt,asIntOf,run_underlying hE,hlt',sizeOf,typeInfo,hie,hse,Addr.add_lit]
theorem b_O (S:StD ds N a l) {T E:TypeId} {ad xo:Operand} {e t':GT} {g off:Nat} {get:PT e → PT t'} {set:PT t' → PT e → PT e} {xs:List (PT e)} {c:Option Nat} {v u:Value} {z:PT e} {y:PT t'} {p:Addr} {j:Nat} (ho:o.op = .store T ad xo) (hd:o.dst = .none) (ht:tie P t' false T [] 0 = true)
    (ha:ev l ad = some (.pointer (some p))) (hp:p = ⟨g,j * e.sz + off,.none⟩) (hx:ev l xo = some u) (O:Ow e E w n (Kx K n L) v xs c) (hv:v.ownBlock = some g) (i:Nat) (hi:L[i]? = some v.ownBlock) (hj:xs[j]? = some z) (hln:Ln e t' off get set) (R:RepV t' w (Kx K n L) u y)
    (k:∀ w',Wrote g w w' → some g ∈ L → Ow e E w' n (Kx K n L) v (xs.set j (set y z)) c → Kont a w'):o.wp P a w Kont Q:=by
  have hgL:some g ∈ L:=by rw [← hv];exact List.mem_of_getElem? hi
  obtain ⟨cs,h1,h2,h3⟩:=O
  obtain ⟨it,hit,hsz⟩:=a_E ht
  have hpq:t'.isPair = false:=by cases t' <;> first | rfl | simp [tie] at ht
  have hvc:=R.cells hpq
  have hjl:=(List.getElem?_eq_some_iff.1 hj).1
  have hln2:=Ln.trans (Ln.arr hjl z) hln
  obtain ⟨c1,cc,c2,e1,e2,e3,eset⟩:=hln2 w _ cs xs h2
  have hgd:xs.getD j z = z:=by rw [List.getD_eq_getElem?_getD,hj];rfl
  rcases h1.2 with ⟨rfl,hcs⟩ | ⟨g',cap,cur,rfl,hb,hg,hnc,hcm,hcsz,htake⟩
  · simp [Value.ownBlock] at hv
  · have hgg:g' = g:=by simpa [Value.ownBlock] using hv
    subst hgg
    have hlen:u.cells.toList.length = cc.length:=by rw [hvc.len,e3.len]
    have hcl:cs.length = xs.length * e.sz:=h1.1
    have hcur:cur.toList = c1 ++ cc ++ (c2 ++ cur.toList.drop (xs.length * e.sz)):=by
      conv=>lhs;rw [← List.take_append_drop (xs.length * e.sz) cur.toList,htake,e1]
      simp
    have hst:=run_storeCells_at (P:=P) g' (j * e.sz + off) E u.cells.toList 0 cur w hg (by
      have:=congrArg List.length hcur
      simp only [List.length_append,Array.length_toList] at this
      omega) hvc.one
    have htk:(cur.toList.take (j * e.sz + off + 0)) = c1:=by
      rw [hcur,Nat.add_zero,← e2,List.append_assoc]
      exact List.take_left
    have hdp:(cur.toList.drop (j * e.sz + off + 0 + u.cells.toList.length)) = c2 ++ cur.toList.drop (xs.length * e.sz):=by
      conv=>lhs;rw [hcur]
      rw [hlen,Nat.add_zero,← e2,← List.length_append]
      exact List.drop_left
    rw [htk,hdp] at hst
    have hw:=b_T w g' (c1 ++ u.cells.toList ++ (c2 ++ cur.toList.drop (xs.length * e.sz))).toArray
    have hrun:(execOp a.eval o).run P w = .ok .skip (w.setRow g' (c1 ++ u.cells.toList ++ (c2 ++ cur.toList.drop (xs.length * e.sz))).toArray):=by
      have hss:u.cells.size = it.size:=by rw [hsz,← hvc.len];simp
      subst hp
      have hsv:(storeVar T ⟨g',j * e.sz + off,.none⟩ u).run P w = .ok () (w.setRow g' (c1 ++ u.cells.toList ++ (c2 ++ cur.toList.drop (xs.length * e.sz))).toArray):=by
        simp only [storeVar,sizeOf,typeInfo,Sem.run_bind,Sem.run_pure,Result.andThen_ok,run_program,hit,hss,ne_eq,not_true_eq_false,if_false]
        exact hst
      simp [execOp,ho,S.eval ha,S.eval hx,Instr.storeAt,Instr.sureAddr,hsv]
    unfold Oper.wp
    rw [hrun]
    simp only [Oper.upon,hd]
    have hnew:=eset u.cells.toList y hvc
    have hnewlen:(c1 ++ u.cells.toList ++ c2).length = xs.length * e.sz:=by
      rw [← hcl,e1]
      simp only [List.length_append,hlen]
    refine k _ hw hgL ⟨c1 ++ u.cells.toList ++ c2,⟨by rw [hnewlen];simp,.inr ⟨g',cap,_,by simp,hb,setRow_heap w g' cur _ E _ hg,by simpa using hnc,hcm,?_,?_⟩⟩,?_,?_⟩
    · have:=congrArg List.length hcur
      simp only [List.length_append,Array.length_toList] at this
      simp only [List.size_toArray,List.length_append,hlen]
      omega
    · simp only [List.length_set]
      rw [← hnewlen,← List.append_assoc]
      exact List.take_left
    · have:(fun (x:List (PT e))=>x.set j (set y (x.getD j z))) xs = xs.set j (set y z):=by simp only [hgd]
      have hnew':RepCs (.arr xs.length e) w (Kx K n L) (c1 ++ u.cells.toList ++ c2) (xs.set j (set y (xs.getD j z))):=hnew
      rw [hgd] at hnew'
      have hnl:(xs.set j (set y z)).length = xs.length:=by simp
      rw [hnl]
      exact hnew'.keep (Keeps.wrote hw hgL) fun _ _ h=>h
    · intro q hq
      obtain ⟨A,m,hA⟩:=h3 q hq
      exact ⟨A,m,hA⟩
end
end Go.Proofs.Ytfelbalkobcfhaa
