/- The rules of the walk over plain data, more: make, cuts, literals, results in variables, own elements. Plain theorems, no condition. -/
import Derived.Test.YtaekmgpcdgmlgaaXE8
set_option linter.unusedVariables false
set_option linter.unusedSimpArgs false
namespace Go.Proofs.Ytaekmgpcdgmlgaa
open Go.RowKit

def sl3I {α:Type} (s:Sl α) (lo hi mx:Int):Option (Sl α):=if 0 ≤ lo ∧ lo ≤ hi ∧ hi ≤ mx ∧ mx ≤ s.xs.length then some ⟨(s.xs.take hi.toNat).drop lo.toNat,some (mx.toNat - lo.toNat)⟩ else .none
section
variable {ds:List Deferred} {N:Nat} {a:Act} {l:List (Nat × Value)} {w w0:World} {P:Program} {ops:Array Oper} {Q:Exit → Act → World → Prop} {rest:List Oper} {o:Oper} {Kont:Act → World → Prop} {d:Nat} {K:Nat → Prop} {n:Nat} {L:List (Option Nat)}

theorem RowsOf.cut {e:GT} {A:Option Addr} {xs:List (PT e)} (h:RowsOf (RepCs e w K) e.sz w K A xs) (lo hi:Nat) (hhi:hi ≤ xs.length) (B:Option Addr) (hB:lo < hi → B = A.map (·.add (lo * e.sz))):RowsOf (RepCs e w K) e.sz w K B ((xs.take hi).drop lo):=by
  by_cases hlt:lo < hi
  · rw [hB hlt]
    rcases h with rfl | ⟨b,off,rfl,hb,hK,hc⟩
    · exact .inl (by simp)
    · refine .inr ⟨b,off + lo * e.sz,by simp [Addr.add_lit],hb,hK,fun j x hj=>?_⟩
      rw [List.getElem?_drop,List.getElem?_take] at hj
      split at hj
      · obtain ⟨cs,h1,h2,h3⟩:=hc (lo + j) x hj
        refine ⟨cs,h1,h2,fun i v hv=>?_⟩
        have:=h3 i v hv
        rw [Nat.add_mul,← Nat.add_assoc] at this
        exact this
      · cases hj
  · exact .inl (List.drop_eq_nil_of_le (by rw [List.length_take];omega))

theorem op_slice3 (S:StD ds N a l) {T:TypeId} {x hi mx:Operand} {lo:Option Operand} {e:GT} {v:Value} {xs r:Sl (PT e)} {m q p:Int} {k2 k3:IntKind} (ho:o.op = .slice T x lo (some hi) (some mx)) (ht:tie P (.sl e) false T [] 0 = true) (hd:o.dst = some d) (hN:Nat.blt d N = true)
    (hx:ev l x = some v) (R:RepV (.sl e) w K v xs) (hlo:(lo = .none ∧ m = 0) ∨ ∃ x k,lo = some x ∧ ev l x = some (.int k m)) (hhi:ev l hi = some (.int k2 q)) (hmx:ev l mx = some (.int k3 p)) (hr:sl3I xs m q p = some r)
    (k:∀ a' v',RepV (.sl e) w K v' r → StD ds N a' ((d,v') :: l) → Kont a' w):o.wp P a w Kont Q:=by
  obtain ⟨A,n0,c,rfl,h1,h2,h3,h4,h5⟩:=R.sl
  obtain ⟨E,hE,htE⟩:=tie_sl ht
  obtain ⟨ie,hie,hse⟩:=tie_size htE
  unfold sl3I at hr
  split at hr
  · rename_i hc
    obtain ⟨c0,c1,c2,c3⟩:=hc
    obtain rfl:=Option.some.inj hr
    have hrun:(Instr.sliceAt T (.slice A n0 c) (lo.map a.eval) (some (a.eval hi)) (some (a.eval mx))).run P w = .ok (.slice (if p.toNat = m.toNat then A else A.map (·.add (m.toNat * e.sz))) (q.toNat - m.toNat) (p.toNat - m.toNat)) w:=by
      have q1:0 ≤ q:=by omega
      have q2:q ≤ max p 0:=by omega
      have q3:(m ≤ max q 0):=by omega
      have q4:0 ≤ p:=by omega
      have q5:p ≤ (c:Int):=by omega
      rcases hlo with ⟨rfl,rfl⟩ | ⟨y,k,rfl,hy⟩
      · simp [Instr.sliceAt,Instr.slice,Instr.sliceBounds,Instr.sliceBound,asIntOf,run_underlying hE,sizeOf,typeInfo,hie,hse,S.eval hhi,S.eval hmx,q1,q2,q4,q5]
      · simp [Instr.sliceAt,Instr.slice,Instr.sliceBounds,Instr.sliceBound,asIntOf,run_underlying hE,sizeOf,typeInfo,hie,hse,S.eval hy,S.eval hhi,S.eval hmx,q1,q2,q4,q5,c0,q3]
    refine op_run S (v:=.slice (if p.toNat = m.toNat then A else A.map (·.add (m.toNat * e.sz))) (q.toNat - m.toNat) (p.toNat - m.toNat)) hd hN ?_ fun a'=>k a' _ ⟨[_],⟨_,_,_,rfl,?_,by omega,by omega,?_,?_⟩,rfl⟩
    · simp [execOp,ho,S.eval hx,hrun]
    · simp [List.length_drop,List.length_take];omega
    · intro k hk
      exact Option.some.inj hk
    · refine h5.cut _ _ (by omega) _ fun hlt=>?_
      rw [if_neg (by omega)]
  · cases hr
/-! ### make -/
theorem rep_replicate {e:GT} {cs:List Value} {z:PT e} (h:RepCs e w K cs z) (m:Nat):RepCs (.arr (List.replicate m z).length e) w K (List.replicate m cs).flatten (List.replicate m z):=by
  refine ⟨rfl,List.replicate m cs,rfl,by simp,fun j c y hc hy=>?_⟩
  simp only [List.getElem?_replicate] at hc hy
  split at hc
  · rename_i hj
    rw [if_pos hj] at hy
    obtain rfl:=Option.some.inj hc
    obtain rfl:=Option.some.inj hy
    exact h
  · cases hc
end
end Go.Proofs.Ytaekmgpcdgmlgaa
