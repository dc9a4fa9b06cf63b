/- The rules of the walk over plain data, more: functions that write to what they are handed. Plain theorems, no condition. -/
import Derived.Test.YtmcpcdmonglkjaaXE29
set_option linter.unusedVariables false
set_option linter.unusedSimpArgs false
namespace Go.Proofs.Ytmcpcdmonglkjaa
open Go.RowKit

section
variable {w0 w A:World} {I:List Nat} {L L2 LO:List (Option Nat)} {s b:Nat} {F:GW → Prop} {g g':GW}
end

theorem Br.free {t:GT} {w:World} {K:Nat → Prop} {n:Nat} {L:List (Option Nat)} {p:Addr} {x:PT t} (h:Br t w (Kx K n L) p x):Br t w (Kx K n []) p x :=
  ⟨h.1.keep (Keeps.refl _ _) (fun c _ hk=>⟨hk.1,fun h=>(List.not_mem_nil h).elim⟩) (fun i _=>rfl),h.2⟩

/-! ### The end of one's own slice is cleared -/
def SubV (sz:Nat) (v:Value) (lo:Nat) (v':Value):Prop:=∃ A n cap,v = .slice A n cap ∧ lo ≤ n ∧ n ≤ cap ∧ v' = .slice (if cap = lo then A else A.map (·.add (lo * sz))) (n - lo) (cap - lo)
section
variable {ds:List Deferred} {N:Nat} {a:Act} {l:List (Nat × Value)} {w w0:World} {P:Program} {ops:Array Oper} {Q:Exit → Act → World → Prop} {rest:List Oper} {o:Oper} {Kont:Act → World → Prop} {d:Nat} {K:Nat → Prop} {n:Nat} {L:List (Option Nat)}
theorem op_runN (S:StD ds N a l) {v:Value} {w':World} (hd:o.dst = none) (hr:(execOp a.eval o).run P w = .ok (.value v) w') (k:∀ a',StD ds N a' l → Kont a' w'):o.wp P a w Kont Q:=by
  unfold Oper.wp
  rw [hr]
  simp only [Oper.upon,hd]
  exact k _ S
theorem run_clear_own {P:Program} (w:World) (T ty E:TypeId) (ie:TypeInfo) (z:Value) (hu:P.underlying T = some (.slice E)) (hi:P.info? E = some ie) (hz:ie.zero = some z) (g off len cap:Nat) (hl:0 < len) (cur:Array Value) (t:TypeId) (hg:w.heap[g]? = some (.cells cur t (0,0)))
    (hpos:0 < z.cells.size) (hfit:off + len * z.cells.size ≤ cur.size) (h1:∀ v ∈ z.cells.toList,v.oneCell' = true) :
    (Builtin.clear_ #[T] ty #[.slice (some ⟨g,off,none⟩) len cap]).run P w = .ok (.tuple #[]) (w.setRow g (cur.toList.take off ++ (List.replicate len z.cells.toList).flatten ++ cur.toList.drop (off + len * z.cells.size)).toArray):=by
  have hnews:(Builtin.zeroCells z.cells len).toList = (List.replicate len z.cells.toList).flatten:=by
    have h0:Builtin.zeroCells z.cells len = (List.replicate len z.cells.toList).flatten.toArray:=by
      have:=zeros_flat z.cells.toList (by simpa using hpos) len
      simpa [Builtin.zeroCells] using this
    rw [h0]
  have hlen:(List.replicate len z.cells.toList).flatten.length = len * z.cells.size:=by simp
  have hst:=run_storeCells_at P g off t (List.replicate len z.cells.toList).flatten 0 cur w hg (by rw [hlen];simpa using hfit) (fun u hu=>by
    obtain ⟨c,hc,hu⟩:=List.mem_flatten.1 hu
    rw [(List.mem_replicate.1 hc).2] at hu
    exact h1 u hu)
  simp only [Nat.add_zero,hlen] at hst
  obtain ⟨m,rfl⟩:∃ m,len = m + 1:=⟨len - 1,by omega⟩
  simp [Builtin.clear_,run_underlying hu,zeroValue,typeInfo,hi,hz,hnews,hst]
theorem op_clear_sub (S:StD ds N a l) {T E:TypeId} {x:Operand} {e:GT} {v v':Value} {xs:List (PT e)} {c:Option Nat} {m:Nat} {z0:PT e} (z:Value) (ho:o.op = .call { callee:=.builtin .clear,args:=#[x],argTypes:=#[T] }) (ht:tie P (.sl e) false T [] 0 = true) (hE:P.underlying T = some (.slice E)) (hby:bytesB P T e = true) (hz:(P.info? E).bind (·.zero) = some z) (Rz:∀ w K,RepCs e w K z.cells.toList z0) (hd:o.dst = none)
    (hx:ev l x = some v') (hs:SubV e.sz v m v') (O:Ow e E w n (Kx K n L) v xs c) (i:Nat) (hi:L[i]? = some v.ownBlock)
    (k:∀ a' w',Apd w w' v v → Ow e E w' n (Kx K n L) v (xs.take m ++ List.replicate (xs.length - m) z0) c → StD ds N a' l → Kont a' w'):o.wp P a w Kont Q:=by
  obtain ⟨cs,h1,h2,h3⟩:=O
  obtain ⟨E',hE',htE⟩:=tie_sl ht
  obtain rfl:E = E':=by rw [hE] at hE';injection hE' with h;injection h
  obtain ⟨ie,hie,hse⟩:=tie_size htE
  unfold bytesB at hby
  rw [hE] at hby
  simp only [hie,Option.any_some,Bool.and_eq_true,Nat.blt_eq,Nat.ble_eq] at hby
  obtain ⟨hsz,hbytes,_⟩:=hby
  have hz0:ie.zero = some z:=by rw [hie] at hz;exact hz
  have hzl:z.cells.size = e.sz:=by have:=(Rz w K).len;simpa using this
  have hcsl:cs.length = xs.length * e.sz:=h1.1
  obtain ⟨A,nn,cap,rfl,hmn,hnc,rfl⟩:=hs
  rcases h1.2 with ⟨e1,e2⟩ | ⟨g,cap',cur,e1,hb,hg,hnc',hcm,hcs,htake⟩
  · injection e1 with f1 f2 f3
    subst f1 f2 f3
    have hxs:xs = []:=List.eq_nil_of_length_eq_zero e2
    subst hxs
    have hm0:m = 0:=by omega
    subst hm0
    have hrun:(Builtin.clear_ #[T] o.type #[.slice (if 0 = 0 then none else Option.map (·.add (0 * e.sz)) (none:Option Addr)) (0 - 0) (0 - 0)]).run P w = .ok (.tuple #[]) w:=by
      simp [Builtin.clear_,run_underlying hE]
    refine op_runN S (v:=.tuple #[]) (w':=w) hd (by simp only [execOp,ho,resolve,invoke,builtin];simp [S.eval hx,Builtin.clear_,run_underlying hE]) fun a'=>k a' w ⟨⟨rfl,rfl,rfl,Nat.le_refl _,fun _ _ _=>rfl⟩,.inl rfl,fun q hq=>by cases hq⟩ ⟨cs,h1,h2,h3⟩
  · injection e1 with f1 f2 f3
    subst f1 f2 f3
    by_cases hme:m = xs.length
    · have hrun:(Builtin.clear_ #[T] o.type #[.slice (if cap = m then some ⟨g,0,none⟩ else Option.map (·.add (m * e.sz)) (some (⟨g,0,none⟩:Addr))) (xs.length - m) (cap - m)]).run P w = .ok (.tuple #[]) w:=by
        rw [hme,Nat.sub_self]
        by_cases hcq:cap = xs.length <;> simp [Builtin.clear_,run_underlying hE,hcq]
      generalize Value.slice (if cap = m then some ⟨g,0,none⟩ else Option.map (·.add (m * e.sz)) (some (⟨g,0,none⟩:Addr))) (xs.length - m) (cap - m) = u at hx hrun
      refine op_runN S (v:=.tuple #[]) (w':=w) hd (by simp [execOp,ho,resolve,invoke,builtin,S.eval hx,hrun]) fun a'=>k a' w ⟨⟨rfl,rfl,rfl,Nat.le_refl _,fun _ _ _=>rfl⟩,.inl rfl,fun q hq=>?_⟩ ?_
      · obtain rfl:g = q:=by simpa [Value.ownBlock] using hq
        exact (Array.getElem?_eq_some_iff.1 hg).1
      · rw [hme,List.take_length,Nat.sub_self,List.replicate_zero,List.append_nil]
        exact ⟨cs,h1,h2,h3⟩
    · have hlt:m < xs.length:=by omega
      have hcap:¬ cap = m:=by omega
      have hle:(m + (xs.length - m)) * e.sz ≤ cap * e.sz:=Nat.mul_le_mul_right _ (by omega)
      rw [Nat.add_mul] at hle
      have hrun:=run_clear_own (P:=P) w T o.type E ie z hE hie hz0 g (m * e.sz) (xs.length - m) (cap - m) (by omega) cur E hg (by rw [hzl];exact hsz) (by rw [hzl,hcs];exact hle) (fun u hu=>(Rz w K).one u hu)
      have hadd:(⟨g,0,none⟩:Addr).add (m * e.sz) = ⟨g,m * e.sz,none⟩:=by rw [Addr.add_lit];simp
      have hgL:some g ∈ L:=List.mem_of_getElem? (i:=i) hi
      refine op_runN S (v:=.tuple #[]) (w':=w.setRow g (cur.toList.take (m * e.sz) ++ (List.replicate (xs.length - m) z.cells.toList).flatten ++ cur.toList.drop (m * e.sz + (xs.length - m) * z.cells.size)).toArray) hd (by simp [execOp,ho,resolve,invoke,builtin,S.eval hx,hcap,hadd,hrun]) fun a'=>?_
      have hw:=wrote_setRow w g (cur.toList.take (m * e.sz) ++ (List.replicate (xs.length - m) z.cells.toList).flatten ++ cur.toList.drop (m * e.sz + (xs.length - m) * z.cells.size)).toArray
      refine k a' _ ⟨⟨hw.os,hw.tape,hw.output,Nat.le_of_eq hw.size.symm,fun q hq hne=>hw.block q fun e_=>hne (by rw [e_];rfl)⟩,.inl rfl,fun q hq=>?_⟩ ?_
      · obtain rfl:g = q:=by simpa [Value.ownBlock] using hq
        rw [hw.size];exact (Array.getElem?_eq_some_iff.1 hg).1
      · have htk:RepCs (.arr (xs.take m).length e) w (Kx K n L) (cs.take (m * e.sz)) (xs.take m):=arr_take h2 _
        have hrep:=rep_replicate (Rz w (Kx K n L)) (xs.length - m)
        have hrep':RepCs (.arr (List.replicate (xs.length - m) z0).length e) w (Kx K n L) (List.replicate (xs.length - m) z.cells.toList).flatten (List.replicate (xs.length - m) z0):=by
          rw [List.length_replicate];rw [List.length_replicate] at hrep;exact hrep
        have happ:=arr_append htk hrep'
        have hnl:(xs.take m ++ List.replicate (xs.length - m) z0).length = xs.length:=by simp;omega
        have hfl:(List.replicate (xs.length - m) z.cells.toList).flatten.length = (xs.length - m) * e.sz:=by simp [hzl]
        have hmsz:m * e.sz ≤ xs.length * e.sz:=Nat.mul_le_mul_right _ (by omega)
        have htkl:(cs.take (m * e.sz)).length = m * e.sz:=by rw [List.length_take,hcsl,Nat.min_eq_left hmsz]
        have hsum:m * e.sz + (xs.length - m) * e.sz = xs.length * e.sz:=by rw [← Nat.add_mul];congr 1;omega
        have hcsz:xs.length * e.sz ≤ cap * e.sz:=Nat.mul_le_mul_right _ (by omega)
        refine ⟨cs.take (m * e.sz) ++ (List.replicate (xs.length - m) z.cells.toList).flatten,⟨by rw [List.length_append,htkl,hfl,hnl,hsum],.inr ⟨g,cap,_,by rw [hnl],hb,setRow_heap w g cur _ E _ hg,by rw [hnl];exact hnc',hcm,?_,?_⟩⟩,?_,h3⟩
        · simp only [List.size_toArray,List.length_append,List.length_take,List.length_drop,Array.length_toList,hfl,hcs,hzl]
          omega
        · rw [hnl]
          show (cur.toList.take (m * e.sz) ++ (List.replicate (xs.length - m) z.cells.toList).flatten ++ cur.toList.drop (m * e.sz + (xs.length - m) * z.cells.size)).take (xs.length * e.sz) = _
          have e5:cur.toList.take (m * e.sz) = cs.take (m * e.sz):=by
            rw [← htake,List.take_take,Nat.min_eq_left hmsz]
          rw [e5,List.take_append_of_le_length (by rw [List.length_append,htkl,hfl,hsum];exact Nat.le_refl _),List.take_of_length_le (by rw [List.length_append,htkl,hfl,hsum];exact Nat.le_refl _)]
        · exact happ.keep (Keeps.wrote hw hgL) fun _ _ h=>h
end
end Go.Proofs.Ytmcpcdmonglkjaa
