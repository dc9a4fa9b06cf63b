/- The rules of the walk over plain data, more: make, cuts, literals, results in variables, own elements. Plain theorems, no condition. -/
import Derived.Test.YtfelbalkobcfhaaXE8
set_option linter.unusedVariables false
set_option linter.unusedSimpArgs false
namespace Go.Proofs.Ytfelbalkobcfhaa
open Go.RowKit
def mkI (m c:Int):Option (Nat × Nat):=if 0 ≤ m ∧ m ≤ c ∧ c ≤ 1099511627776 then some (m.toNat,c.toNat) else .none
def slI {α:Type} (s:Sl α) (lo hi:Int):Option (Sl α):=if 0 ≤ lo ∧ lo ≤ hi ∧ hi ≤ s.xs.length then some ⟨(s.xs.take hi.toNat).drop lo.toNat,s.cap.map (· - lo.toNat)⟩ else .none
def sl3I {α:Type} (s:Sl α) (lo hi mx:Int):Option (Sl α):=if 0 ≤ lo ∧ lo ≤ hi ∧ hi ≤ mx ∧ mx ≤ s.xs.length then some ⟨(s.xs.take hi.toNat).drop lo.toNat,some (mx.toNat - lo.toNat)⟩ else .none
section
variable {ds:List Deferred} {N:Nat} {a:Act} {l:List (Nat × Value)} {w w0:World} {P:Program} {ops:Array Oper} {Q:Exit → Act → World → Prop} {rest:List Oper} {o:Oper} {Kont:Act → World → Prop} {d:Nat} {K:Nat → Prop} {n:Nat} {L:List (Option Nat)}
theorem RowsOf.cut {e:GT} {A:Option Addr} {xs:List (PT e)} (h:RowsOf (RepCs e w K) e.sz w K A xs) (lo hi:Nat) (hhi:hi ≤ xs.length) (B:Option Addr) (hB:lo < hi → B = A.map (·.add (lo * e.sz))):RowsOf (RepCs e w K) e.sz w K B ((xs.take hi).drop lo):=by
  by_cases hlt:lo < hi
  · rw [hB hlt]
    rcases h with rfl | ⟨b,off,rfl,hb,hK,hc⟩
    · exact .inl (by simp)
    · refine .inr ⟨b,off + lo * e.sz,by simp [Addr.add_lit],hb,hK,fun j x hj=>?_⟩
      rw [List.getElem?_drop,List.getElem?_take] at hj
      split at hj
      · obtain ⟨cs,h1,h2,h3⟩:=hc (lo + j) x hj
        refine ⟨cs,h1,h2,fun i v hv=>?_⟩
        have:=h3 i v hv
        rw [Nat.add_mul,← Nat.add_assoc] at this
        exact this
      · cases hj
  · exact .inl (List.drop_eq_nil_of_le (by rw [List.length_take];omega))
theorem c_P (S:StD ds N a l) {T:TypeId} {x:Operand} {lo hi:Option Operand} {e:GT} {v:Value} {xs r:Sl (PT e)} {m q:Int} (ho:o.op = .slice T x lo hi .none) (ht:tie P (.sl e) false T [] 0 = true) (hd:o.dst = some d) (hN:Nat.blt d N = true)
    (hx:ev l x = some v) (R:RepV (.sl e) w K v xs) (hlo:(lo = .none ∧ m = 0) ∨ ∃ x k,lo = some x ∧ ev l x = some (.int k m)) (hhi:(hi = .none ∧ q = a_4 xs) ∨ ∃ x k,hi = some x ∧ ev l x = some (.int k q)) (hr:slI xs m q = some r)
    (k:∀ a' v',RepV (.sl e) w K v' r → StD ds N a' ((d,v') :: l) → Kont a' w):o.wp P a w Kont Q:=by
  obtain ⟨A,n0,c,rfl,h1,h2,h3,h4,h5⟩:=R.sl
  obtain ⟨E,hE,htE⟩:=b_b ht
  obtain ⟨ie,hie,hse⟩:=a_E htE
  unfold slI at hr
  split at hr
  · rename_i hc
    obtain ⟨c0,c1,c2⟩:=hc
    obtain rfl:=Option.some.inj hr
    have hrun:(Instr.sliceAt T (.slice A n0 c) (lo.map a.eval) (hi.map a.eval) .none).run P w = .ok (.slice (if c = m.toNat then A else A.map (·.add (m.toNat * e.sz))) (q.toNat - m.toNat) (c - m.toNat)) w:=by
      have q1:0 ≤ q:=by omega
      have q2:q ≤ (c:Int):=by omega
      have q3:(m ≤ max q 0):=by omega
      rcases hlo with ⟨rfl,rfl⟩ | ⟨y,k,rfl,hy⟩ <;> rcases hhi with ⟨rfl,rfl⟩ | ⟨y',k',rfl,hy'⟩
      · simp [Instr.sliceAt,Instr.slice,Instr.sliceBounds,run_underlying hE,sizeOf,typeInfo,hie,hse,a_4,h1]
      · simp [Instr.sliceAt,Instr.slice,Instr.sliceBounds,Instr.sliceBound,asIntOf,run_underlying hE,sizeOf,typeInfo,hie,hse,S.eval hy',q1,q2]
      · have c1':m ≤ (n0:Int):=by rw [← h1];exact c1
        simp [Instr.sliceAt,Instr.slice,Instr.sliceBounds,Instr.sliceBound,asIntOf,run_underlying hE,sizeOf,typeInfo,hie,hse,a_4,h1,S.eval hy,c0,c1']
      · simp [Instr.sliceAt,Instr.slice,Instr.sliceBounds,Instr.sliceBound,asIntOf,run_underlying hE,sizeOf,typeInfo,hie,hse,S.eval hy,S.eval hy',q1,q2,c0,q3]
    refine a_D S (v:=.slice (if c = m.toNat then A else A.map (·.add (m.toNat * e.sz))) (q.toNat - m.toNat) (c - m.toNat)) hd hN ?_ fun a'=>k a' _ ⟨[_],⟨_,_,_,rfl,?_,by omega,by omega,?_,?_⟩,rfl⟩
    · simp [execOp,ho,S.eval hx,hrun]
    · simp [List.length_drop,List.length_take];omega
    · intro k hk
      cases hcap:xs.cap with
      | none=>rw [hcap] at hk;cases hk
      | some p =>
        rw [hcap] at hk
        have:=h4 p hcap
        simp at hk
        omega
    · refine h5.cut _ _ (by omega) _ fun hlt=>?_
      rw [if_neg (by omega)]
  · cases hr
theorem e_a (S:StD ds N a l) {T:TypeId} {x hi mx:Operand} {lo:Option Operand} {e:GT} {v:Value} {xs r:Sl (PT e)} {m q p:Int} {k2 k3:IntKind} (ho:o.op = .slice T x lo (some hi) (some mx)) (ht:tie P (.sl e) false T [] 0 = true) (hd:o.dst = some d) (hN:Nat.blt d N = true)
    (hx:ev l x = some v) (R:RepV (.sl e) w K v xs) (hlo:(lo = .none ∧ m = 0) ∨ ∃ x k,lo = some x ∧ ev l x = some (.int k m)) (hhi:ev l hi = some (.int k2 q)) (hmx:ev l mx = some (.int k3 p)) (hr:sl3I xs m q p = some r)
    (k:∀ a' v',RepV (.sl e) w K v' r → StD ds N a' ((d,v') :: l) → Kont a' w):o.wp P a w Kont Q:=by
  obtain ⟨A,n0,c,rfl,h1,h2,h3,h4,h5⟩:=R.sl
  obtain ⟨E,hE,htE⟩:=b_b ht
  obtain ⟨ie,hie,hse⟩:=a_E htE
  unfold sl3I at hr
  split at hr
  · rename_i hc
    obtain ⟨c0,c1,c2,c3⟩:=hc
    obtain rfl:=Option.some.inj hr
    have hrun:(Instr.sliceAt T (.slice A n0 c) (lo.map a.eval) (some (a.eval hi)) (some (a.eval mx))).run P w = .ok (.slice (if p.toNat = m.toNat then A else A.map (·.add (m.toNat * e.sz))) (q.toNat - m.toNat) (p.toNat - m.toNat)) w:=by
      have q1:0 ≤ q:=by omega
      have q2:q ≤ max p 0:=by omega
      have q3:(m ≤ max q 0):=by omega
      have q4:0 ≤ p:=by omega
      have q5:p ≤ (c:Int):=by omega
      rcases hlo with ⟨rfl,rfl⟩ | ⟨y,k,rfl,hy⟩
      · simp [Instr.sliceAt,Instr.slice,Instr.sliceBounds,Instr.sliceBound,asIntOf,run_underlying hE,sizeOf,typeInfo,hie,hse,S.eval hhi,S.eval hmx,q1,q2,q4,q5]
      · simp [Instr.sliceAt,Instr.slice,Instr.sliceBounds,Instr.sliceBound,asIntOf,run_underlying hE,sizeOf,typeInfo,hie,hse,S.eval hy,S.eval hhi,S.eval hmx,q1,q2,q4,q5,c0,q3]
    refine a_D S (v:=.slice (if p.toNat = m.toNat then A else A.map (·.add (m.toNat * e.sz))) (q.toNat - m.toNat) (p.toNat - m.toNat)) hd hN ?_ fun a'=>k a' _ ⟨[_],⟨_,_,_,rfl,?_,by omega,by omega,?_,?_⟩,rfl⟩
    · simp [execOp,ho,S.eval hx,hrun]
    · simp [List.length_drop,List.length_take];omega
    · intro k hk
      exact Option.some.inj hk
    · refine h5.cut _ _ (by omega) _ fun hlt=>?_
      rw [if_neg (by omega)]
  · cases hr
theorem a_A {e:GT} {cs:List Value} {z:PT e} (h:RepCs e w K cs z) (m:Nat):RepCs (.arr (List.replicate m z).length e) w K (List.replicate m cs).flatten (List.replicate m z):=by
  refine ⟨rfl,List.replicate m cs,rfl,by simp,fun j c y hc hy=>?_⟩
  simp only [List.getElem?_replicate] at hc hy
  split at hc
  · rename_i hj
    rw [if_pos hj] at hy
    obtain rfl:=Option.some.inj hc
    obtain rfl:=Option.some.inj hy
    exact h
  · cases hc
theorem d_x (z:List Value) (hz:0 < z.length) (m:Nat):((Array.range (m * z.length)).map (z.toArray[· % z.toArray.size]!)) = (List.replicate m z).flatten.toArray:=by
  apply Array.ext'
  apply List.ext_getElem?
  intro i
  simp only [Array.toList_map,Array.toList_range,List.getElem?_map,List.size_toArray]
  by_cases hi:i < m * z.length
  · have hdiv:i = i / z.length * z.length + i % z.length:=by rw [Nat.mul_comm];exact (Nat.div_add_mod i z.length).symm
    have hmod:=Nat.mod_lt i hz
    have hq:i / z.length < m:=(Nat.div_lt_iff_lt_mul hz).2 hi
    have:=c_O (List.replicate m z) z.length (i / z.length) (i % z.length) (fun c hc=>by rw [(List.mem_replicate.1 hc).2]) hmod
    rw [← hdiv] at this
    rw [this]
    simp [hi,hq,List.getElem?_replicate,List.getElem?_eq_getElem hmod]
  · rw [List.getElem?_eq_none (by simp;omega),List.getElem?_eq_none (by simp;omega)]
    rfl
theorem op_make (S:StD ds N a l) (W:Wd w0 w L) {T E:TypeId} {x y:Operand} {e:GT} {z0:PT e} {m c:Int} {kx ky:IntKind} {r:Nat × Nat} (z:Value) (ho:o.op = .makeSlice T x y) (ht:tie P (.sl e) false T [] 0 = true) (hE:P.underlying T = some (.slice E)) (hby:bytesB P T e = true) (hz:(P.info? E).bind (·.zero) = some z) (R:∀ w K,RepCs e w K z.cells.toList z0) (hd:o.dst = some d) (hN:Nat.blt d N = true)
    (hx:ev l x = some (.int kx m)) (hy:ev l y = some (.int ky c)) (hr:mkI m c = some r)
    (k:∀ a' w' b,NewB w w' b → Ow e E w' w0.heap.size (Kx K w0.heap.size (some b :: L)) (.slice (some ⟨b,0,.none⟩) r.1 r.2) (List.replicate r.1 z0) (some r.2) → StD ds N a' ((d,.slice (some ⟨b,0,.none⟩) r.1 r.2) :: l) → Kont a' w'):o.wp P a w Kont Q:=by
  obtain ⟨E',hE',htE⟩:=b_b ht
  obtain rfl:E = E':=by rw [hE] at hE';injection hE' with h;injection h
  obtain ⟨ie,hie,hse⟩:=a_E htE
  unfold bytesB at hby
  rw [hE] at hby
  simp only [hie,Option.any_some,Bool.and_eq_true,Nat.blt_eq,Nat.ble_eq] at hby
  obtain ⟨hsz,hbytes,_⟩:=hby
  have hz0:ie.zero = some z:=by rw [hie] at hz;exact hz
  have hzl:z.cells.size = e.sz:=by have:=(R w K).len;simpa using this
  unfold mkI at hr
  split at hr
  · rename_i hc
    obtain ⟨c0,c1,c2⟩:=hc
    obtain rfl:=Option.some.inj hr
    have hwm:IntKind.i64.wrap m = m:=b_C .i64 (by simp [IntKind.min,IntKind.signed,IntKind.bits];omega) (by simp [IntKind.max,IntKind.signed,IntKind.bits];omega)
    have hwc:IntKind.i64.wrap c = c:=b_C .i64 (by simp [IntKind.min,IntKind.signed,IntKind.bits];omega) (by simp [IntKind.max,IntKind.signed,IntKind.bits];omega)
    have hcells:((Array.range (c.toNat * e.sz)).map (z.cells[· % z.cells.size]!)) = (List.replicate c.toNat z.cells.toList).flatten.toArray:=by
      have:=d_x z.cells.toList (by simp [hzl];omega) c.toNat
      simpa [hzl] using this
    have hlarge:¬ ((ie.bytes:Int) * c > 2 ^ 48):=by
      have h1:(ie.bytes:Int) ≤ 128:=by omega
      have h2:(ie.bytes:Int) * c ≤ 128 * 1099511627776:=Int.mul_le_mul h1 c2 (by omega) (by omega)
      omega
    have hb:=a_M w (.cells (List.replicate c.toNat z.cells.toList).flatten.toArray E)
    have hroom:∀ b w1,(askRoom b).run P w1 = .ok () w1:=by
      intro b w1
      unfold askRoom
      split
      · rfl
      · rfl
    have hrun:(Instr.makeSlice T (.int kx m) (.int ky c)).run P w = .ok (.slice (some ⟨w.heap.size,0,.none⟩) m.toNat c.toNat) (w.alloc (.cells (List.replicate c.toNat z.cells.toList).flatten.toArray E)):=by
      have e1:(c < 0) = False:=eq_false (by omega)
      have e2:(m < 0) = False:=eq_false (by omega)
      have e3:(c < m) = False:=eq_false (by omega)
      have hlarge:(281474976710656 < (ie.bytes:Int) * c) = False:=eq_false (by simpa using hlarge)
      by_cases hn0:c.toNat * e.sz = 0
      · have hc0:c.toNat = 0:=by rcases Nat.mul_eq_zero.1 hn0 with h | h <;> omega
        have hm0:m.toNat = 0:=by omega
        simp [Instr.makeSlice,run_underlying hE,asInt,asIntOf,typeInfo,hie,hwm,hwc,e1,e2,e3,hlarge,hroom,sizeOf,hse,hn0,newRow,hc0,hm0]
        rw [show Array.range 0 = #[] from rfl,Array.map_empty]
      · simp [Instr.makeSlice,run_underlying hE,asInt,asIntOf,typeInfo,hie,hwm,hwc,e1,e2,e3,hlarge,hroom,sizeOf,hse,hn0,newRow,zeroValue,hz0,hcells]
    refine a_D S (v:=.slice (some ⟨w.heap.size,0,.none⟩) m.toNat c.toNat) (w':=w.alloc (.cells (List.replicate c.toNat z.cells.toList).flatten.toArray E)) hd hN (by simp [execOp,ho,S.eval hx,S.eval hy,hrun]) fun a'=>k a' _ w.heap.size hb ⟨(List.replicate m.toNat z.cells.toList).flatten,⟨?_,.inr ⟨w.heap.size,c.toNat,_,?_,W.below.size,heap_alloc_new w _,?_,?_,?_,?_⟩⟩,a_A (R _ _) _,fun q hq=>?_⟩
    · have:=(a_A (R w K) m.toNat).len
      simpa [GT.sz] using this
    · simp
    · simp;omega
    · simp only [maxLen];omega
    · have:=(a_A (R w K) c.toNat).len
      simpa [GT.sz] using this
    · have hlen:=(a_A (R w K) m.toNat).len
      simp only [GT.sz,List.length_replicate] at hlen
      have hsplit:(List.replicate c.toNat z.cells.toList).flatten = (List.replicate m.toNat z.cells.toList).flatten ++ (List.replicate (c.toNat - m.toNat) z.cells.toList).flatten:=by
        rw [← List.flatten_append,List.replicate_append_replicate]
        congr 2
        omega
      rw [List.toList_toArray,hsplit]
      simp only [List.length_replicate]
      rw [← hlen]
      exact List.take_left
    · exact ⟨_,_,by rw [Option.some.inj hq]⟩
  · cases hr
end
end Go.Proofs.Ytfelbalkobcfhaa
