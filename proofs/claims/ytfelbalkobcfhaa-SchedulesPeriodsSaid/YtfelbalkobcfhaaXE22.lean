/- The rules of the walk over plain data, more: rows of one's own, negation, fields of values. Plain theorems, no condition. -/
import Derived.Test.YtfelbalkobcfhaaXE21
set_option linter.unusedVariables false
set_option linter.unusedSimpArgs false
namespace Go.Proofs.Ytfelbalkobcfhaa
open Go.RowKit
section
variable {ds:List Deferred} {N:Nat} {a:Act} {l:List (Nat × Value)} {w w0:World} {P:Program} {ops:Array Oper} {Q:Exit → Act → World → Prop} {rest:List Oper} {o:Oper} {Kont:Act → World → Prop} {d:Nat} {K:Nat → Prop} {n:Nat} {L:List (Option Nat)}
theorem op_rowN (S:StD ds N a l) (W:Wd w0 w L) {T E0:TypeId} {len:Nat} {parts:Array (Nat × Operand)} {e:GT} {vs:List Value} {xs:List (PT e)} (ho:o.op = .buildSlice T len parts) (ht:tie P (.sl e) false T [] 0 = true) (hE0:P.underlying T = some (.slice E0)) (hp:e.isPair = false) (hsz:Nat.blt 0 (len * e.sz) = true) (hzero:zeroB P T = true) (hd:o.dst = some d) (hN:Nat.blt d N = true)
    (hv:evs l (parts.toList.map (·.2)) = some vs) (hparts:parts.toList.map (·.1) = List.range len) (hsmall:Nat.ble (len * e.sz) 16777216 = true) (R:RepVs e w (Kx K w0.heap.size L) vs xs)
    (k:∀ a' w' b,NewB w w' b → Ow e E0 w' w0.heap.size (Kx K w0.heap.size (some b :: L)) (.slice (some ⟨b,0,.none⟩) len len) xs (some len) → StD ds N a' ((d,.slice (some ⟨b,0,.none⟩) len len) :: l) → Kont a' w'):o.wp P a w Kont Q:=by
  obtain ⟨h1,h2,h3⟩:=R.css hp
  obtain ⟨E,hE,htE⟩:=b_b ht
  obtain rfl:E0 = E:=by rw [hE0] at hE;injection hE with h;injection h
  obtain ⟨ie,hie,hse⟩:=a_E htE
  have hvl:vs.length = len:=by
    have hm:=S.evs hv
    have:=congrArg List.length hparts
    rw [← hm]
    simpa using this
  obtain ⟨z,hz⟩:∃ z,ie.zero = some z:=by
    unfold zeroB at hzero
    rw [hE] at hzero
    simp only [hie,Option.any_some] at hzero
    exact Option.isSome_iff_exists.1 hzero
  have hpl:(parts.map fun (p:Nat × Operand)=>(p.1,a.eval p.2)).toList = b_2 0 vs:=by
    have hm:=S.evs hv
    have key:∀ (ps:List (Nat × Operand)) (us:List Value) (i:Nat),ps.map (·.1) = List.range' i ps.length → (ps.map (·.2)).map a.eval = us → ps.map (fun p=>(p.1,a.eval p.2)) = b_2 i us:=by
      intro ps
      induction ps with
      | nil=>intro us i _ h;simp at h;subst h;rfl
      | cons p ps ih =>
        intro us i h1 h2
        rw [List.map_cons,List.length_cons,List.range'_succ] at h1
        injection h1 with h1a h1b
        rw [List.map_cons,List.map_cons] at h2
        subst h2
        rw [List.map_cons,h1a]
        unfold b_2
        rw [ih _ (i + 1) h1b rfl]
    rw [Array.toList_map]
    refine key parts.toList vs 0 ?_ hm
    rw [hparts,List.range_eq_range']
    have:=congrArg List.length hparts
    simp at this
    simp [this]
  have hfill:Instr.fill (fun i=>some (i * ie.size,ie.size)) ((Array.range (len * ie.size)).map (z.cells[· % z.cells.size]!)) (parts.map fun (p:Nat × Operand)=>(p.1,a.eval p.2)).toList = some (vs.map fun v=>v.cells.toList).flatten.toArray:=by
    rw [hpl]
    have:=d_c ie.size vs 0 [] ((Array.range (len * ie.size)).map (z.cells[· % z.cells.size]!)).toList (fun v hv=>by rw [hse];exact h2 v hv) (by simp) (by simp [hvl])
    simpa only [List.nil_append,Array.toArray_toList] using this
  have hrun:=run_bsl (P:=P) (w:=w) T E0 len (parts.map fun (p:Nat × Operand)=>(p.1,a.eval p.2)) _ ie z hE hie hz (by rw [hse];simpa [Nat.ble_eq,Nat.not_lt] using hsmall) (by rw [hse];simp [Nat.blt_eq] at hsz;omega) hfill
  have hle:len ≤ 16777216:=by
    simp only [Nat.ble_eq,Nat.blt_eq] at hsmall hsz
    have hz:0 < e.sz:=Nat.pos_of_ne_zero fun h=>by rw [h] at hsz;simp at hsz
    have:=Nat.le_mul_of_pos_right len hz
    omega
  have hnew:=a_M w (.cells (vs.map fun v=>v.cells.toList).flatten.toArray E0)
  have harr:=RepCs.arrOf (e:=e) (w:=w) (K:=Kx K w0.heap.size L) (css:=vs.map fun v=>v.cells.toList) (by simp [h1]) h3
  have hxl:xs.length = len:=by omega
  have hfl:(vs.map fun v=>v.cells.toList).flatten.length = len * e.sz:=by
    have:=harr.len
    rw [GT.sz,hxl] at this
    exact this
  refine a_D S (v:=.slice (some ⟨w.heap.size,0,.none⟩) len len) (w':=w.alloc (.cells (vs.map fun v=>v.cells.toList).flatten.toArray E0)) hd hN ?_ fun a'=>k a' _ w.heap.size hnew ⟨(vs.map fun v=>v.cells.toList).flatten,⟨by rw [hxl];exact hfl,.inr ⟨w.heap.size,len,_,by rw [hxl],W.below.size,heap_alloc_new w _,by omega,by simp only [maxLen];omega,by simpa using hfl,?_⟩⟩,?_,fun q hq=>by obtain rfl:=Option.some.inj hq;exact ⟨_,_,rfl⟩⟩
  · have hpm:parts.map (fun (x:Nat × Operand)=>match x with | (i,x)=>(i,a.eval x)) = parts.map fun (p:Nat × Operand)=>(p.1,a.eval p.2):=rfl
    simp only [execOp,ho]
    simp [hrun,hpm]
  · rw [List.toList_toArray,hxl,← hfl,List.take_length]
  · exact harr.keep (Keeps.below hnew.below) fun c hc hk=>Kx.newO hnew.newO hc hk
end
theorem Bx.arr_len {w:World} {K:Nat → Prop} {b n:Nat} {T:TypeId} {e:GT} {x:List (PT e)} (h:Bx (.arr n e) T w K b x):x.length = n:=by
  obtain ⟨cs,_,h2⟩:=h
  exact h2.1
end Go.Proofs.Ytfelbalkobcfhaa
