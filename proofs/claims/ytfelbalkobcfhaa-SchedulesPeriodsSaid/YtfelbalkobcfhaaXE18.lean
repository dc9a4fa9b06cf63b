/- The rules of the walk over plain data, more: results of one's own, append of so many zeros, cuts of one's own slice. Plain theorems, no condition. -/
import Derived.Test.YtfelbalkobcfhaaXE17
import Derived.Lib.AppendZerosOnto
set_option linter.unusedVariables false
set_option linter.unusedSimpArgs false
namespace Go.Proofs.Ytfelbalkobcfhaa
open Go.RowKit
structure NewO (w w':World) (o:Option Nat):Prop where
  below:Below w.heap.size w w'
  ge:∀ b,o = some b → w.heap.size ≤ b
  lt:∀ b,o = some b → b < w'.heap.size
section
variable {w0 w w':World} {L:List (Option Nat)} {K:Nat → Prop} {n b:Nat} {t:GT} {o:Option Nat}
theorem Kx.newO {c:Nat} (hN:NewO w w' o) (hc:c < w.heap.size) (hk:Kx K n L c):Kx K n (o :: L) c:=⟨hk.1,fun hm=>by
  rcases List.mem_cons.1 hm with e | hm
  · have:=hN.ge c e.symm;omega
  · exact hk.2 hm⟩
theorem RepV.newO {u:Value} {x:PT t} (h:RepV t w (Kx K n L) u x) (hN:NewO w w' o):RepV t w' (Kx K n (o :: L)) u x:=h.keep (Keeps.below hN.below) fun c hc hk=>Kx.newO hN hc hk
theorem Bx.newO {T:TypeId} {x:PT t} (h:Bx t T w (Kx K n L) b x) (hN:NewO w w' o):Bx t T w' (Kx K n (o :: L)) b x:=by
  have hl:=h.lt
  obtain ⟨cs,h1,h2⟩:=h
  exact ⟨cs,(hN.below.block b hl).trans h1,h2.keep (Keeps.below hN.below) fun d hc hk=>Kx.newO hN hc hk⟩
theorem Ow.newO {e:GT} {E:TypeId} {v:Value} {xs:List (PT e)} {c:Option Nat} (h:Ow e E w n (Kx K n L) v xs c) (hN:NewO w w' o):Ow e E w' n (Kx K n (o :: L)) v xs c:=by
  obtain ⟨cs,h1,h2,h3⟩:=h
  exact ⟨cs,h1.kept (row:=.none) ⟨hN.below.os,hN.below.tape,hN.below.output,hN.below.size,fun k hk _=>hN.below.block k hk⟩ (by cases hv:v.ownBlock <;> simp),h2.keep (Keeps.below hN.below) fun d hc hk=>Kx.newO hN hc hk,h3⟩
theorem Wd.newO (h:Wd w0 w L) (hN:NewO w w' o):Wd w0 w' (o :: L):=by
  have hs:=hN.below.size
  refine ⟨h.below.trans (hN.below.mono h.below.size),fun c hm=>?_,List.pairwise_cons.2 ⟨fun x hx=>?_,h.dis⟩⟩
  · rcases List.mem_cons.1 hm with e | hm
    · have:=hN.ge c e.symm;have:=hN.lt c e.symm;have:=h.below.size;exact ⟨by omega,by omega⟩
    · have:=h.own c hm;exact ⟨this.1,by omega⟩
  · cases ho:o with
    | none=>exact .inl rfl
    | some b =>
      refine .inr fun e=>?_
      have:=(h.own b (e ▸ hx)).2
      have:=hN.ge b ho
      omega
theorem a_9 {e:GT} {E:TypeId} {v:Value} {xs:List (PT e)} {c:Option Nat} {m:Nat} {K':Nat → Prop} (h:Ow e E w' m K' v xs c) (hm:w.heap.size ≤ m) (hb:Below w.heap.size w w'):NewO w w' v.ownBlock:=by
  obtain ⟨cs,h1,_⟩:=h
  exact ⟨hb,fun b hv=>Nat.le_trans hm (h1.lt b hv).1,fun b hv=>(h1.lt b hv).2⟩
theorem Kx.backO {c:Nat} (hW:Wd w0 w L) (hk:Kx (Kx K w0.heap.size L) w.heap.size [o] c):Kx K w0.heap.size (o :: L) c:=by
  obtain ⟨h1,h2⟩:=hk
  have h2':some c ≠ o:=fun e=>h2 (by rw [e];exact List.mem_cons_self ..)
  rcases h1 with h1 | h1
  · exact ⟨h1.1,fun hm=>by
      rcases List.mem_cons.1 hm with e | hm
      · exact h2' e
      · exact h1.2 hm⟩
  · refine ⟨.inr (by have:=hW.below.size;omega),fun hm=>?_⟩
    rcases List.mem_cons.1 hm with e | hm
    · exact h2' e
    · have:=(hW.own c hm).2;omega
theorem RepV.backO {u:Value} {x:PT t} (h:RepV t w' (Kx (Kx K w0.heap.size L) w.heap.size [o]) u x) (hW:Wd w0 w L):RepV t w' (Kx K w0.heap.size (o :: L)) u x:=h.keep (Keeps.refl _ _) fun c _ hk=>Kx.backO hW hk
theorem Ow.backO {e:GT} {E:TypeId} {v:Value} {xs:List (PT e)} {c:Option Nat} (h:Ow e E w' w.heap.size (Kx (Kx K w0.heap.size L) w.heap.size [o]) v xs c) (hW:Wd w0 w L):Ow e E w' w0.heap.size (Kx K w0.heap.size (o :: L)) v xs c:=by
  obtain ⟨cs,h1,h2,h3⟩:=h
  refine ⟨cs,⟨h1.1,?_⟩,h2.keep (Keeps.refl _ _) fun c _ hk=>Kx.backO hW hk,h3⟩
  rcases h1.2 with h4 | ⟨g,cap,cur,e1,e2,e3⟩
  · exact .inl h4
  · exact .inr ⟨g,cap,cur,e1,by have:=hW.below.size;omega,e3⟩
theorem Ow.pub0 {e:GT} {E:TypeId} {v:Value} {xs:List (PT e)} {c:Option Nat} (h:Ow e E w n (Kx K n [v.ownBlock]) v xs c):RepV (.sl e) w (Kx K n []) v ⟨xs,c⟩:=h.pub (List.nil_sublist _) fun _ _ hm=>(List.not_mem_nil hm).elim
theorem RepV.lessO {u:Value} {x:PT t} (h:RepV t w (Kx K n L) u x) (i:Nat) (hi:L[i]? = some o):RepV t w (Kx K n [o]) u x:=h.less (List.singleton_sublist.2 (List.mem_of_getElem? hi))
theorem Ow.lessO {e:GT} {E:TypeId} {v:Value} {xs:List (PT e)} {c:Option Nat} (h:Ow e E w n (Kx K n L) v xs c) (i:Nat) (hi:L[i]? = some o):Ow e E w n (Kx K n [o]) v xs c:=h.less (List.singleton_sublist.2 (List.mem_of_getElem? hi))
end
theorem c_b {P:Program} (w:World) (base:Nat) (t tn ty e:TypeId) (i:TypeInfo) (z:Value) (kn kq:IntKind) (ht:P.underlying t = some (.slice e)) (htn:P.underlying tn = some (.int kn)) (hi:P.info? e = some i) (hz:i.zero = some z)
    (hzs:z.cells.size = i.size) (hsz:0 < i.size) (hone:∀ u ∈ z.cells.toList,u.oneCell' = true)
    (v:Value) (n:Nat) (xs:List Value) (hown:w.ownsRow base e i.size v n xs)
    (m:Nat) (h63:n + m ≤ maxLen) (hbytes:(n + m) * i.bytes ≤ 140737488355328) (hbase:base ≤ w.heap.size) :
    ∃ v' w',(Builtin.append_ #[t,tn] ty #[v,.int kq m]).run P w = .ok v' w' ∧ w'.ownsRow base e i.size v' (n + m) (xs ++ (List.replicate m z.cells.toList).flatten) ∧ w.grownBy w' v.ownBlock ∧
      (v'.ownBlock = v.ownBlock ∨ v'.ownBlock = some w.heap.size) ∧ (∀ q A' k',v = .slice A' k' q → n + m ≤ q → ∃ B k'',v' = .slice B k'' q):=by
  have hsmall:n + m ≤ 9223372036854775807:=by simp only [maxLen] at h63;omega
  have hnews:(Builtin.zeroCells z.cells m).toList = (List.replicate m z.cells.toList).flatten:=by
    have h0:Builtin.zeroCells z.cells m = (List.replicate m z.cells.toList).flatten.toArray:=by
      have:=d_x z.cells.toList (by simp [hzs];omega) m
      simpa [Builtin.zeroCells] using this
    rw [h0]
  have hl:(List.replicate m z.cells.toList).flatten.length = m * i.size:=by simp [hzs]
  have hlen:(xs ++ (List.replicate m z.cells.toList).flatten).length = (n + m) * i.size:=by rw [List.length_append,hown.1,hl,Nat.add_mul]
  have hone':∀ u ∈ (List.replicate m z.cells.toList).flatten,u.oneCell' = true:=by
    intro u hu
    obtain ⟨c,hc,hu⟩:=List.mem_flatten.1 hu
    rw [(List.mem_replicate.1 hc).2] at hu
    exact hone u hu
  have grown:∀ (old:Nat),old < n + m → ∀ (row:Option Nat),
      (w.drew.alloc (.cells (xs.toArray ++ Builtin.zeroCells z.cells m ++ Builtin.zeroCells z.cells (grownCap w (n + m) old e - (n + m))) e)).ownsRow base e i.size
        (.slice (some ⟨w.heap.size,0,none⟩) (n + m) (grownCap w (n + m) old e)) (n + m) (xs ++ (List.replicate m z.cells.toList).flatten) ∧
      w.grownBy (w.drew.alloc (.cells (xs.toArray ++ Builtin.zeroCells z.cells m ++ Builtin.zeroCells z.cells (grownCap w (n + m) old e - (n + m))) e)) row:=by
    intro old ho row
    have hge:=grownCap_ge w (n + m) old e
    have hcm:grownCap w (n + m) old e ≤ maxLen:=grownCap_le_maxLen w (n + m) old e h63
    refine ⟨⟨hlen,.inr ⟨w.heap.size,_,_,rfl,hbase,heap_alloc_new w.drew _,hge,hcm,?_,?_⟩⟩,⟨rfl,rfl,rfl,by simp,fun k hk _=>by first | exact heap_alloc_old w.drew _ hk | exact heap_alloc_old w.drew _ k hk⟩⟩
    · simp only [Array.size_append,List.size_toArray,size_zeroCells,hzs,hown.1,← Nat.add_mul]
      congr 1
      omega
    · simp only [Array.toList_append,List.append_assoc,hnews]
      rw [← List.append_assoc,← hlen]
      exact List.take_left
  have hw:IntKind.i64.wrap (m:Int) = m:=by rw [IntKind.wrap_i64];omega
  have hneg:¬ ((m:Int) < 0):=by omega
  have h48:m * i.bytes ≤ 281474976710656:=by
    have:m * i.bytes ≤ (n + m) * i.bytes:=Nat.mul_le_mul_right _ (by omega)
    omega
  have h48i:¬ (281474976710656 < (m:Int) * (i.bytes:Int)):=by
    rw [← Int.natCast_mul]
    omega
  rcases hown.2 with ⟨rfl,rfl⟩ | ⟨g,cap,cur,rfl,hbg,hg,hnc,hcm,hcs,htake⟩
  · have hx:xs = []:=List.eq_nil_of_length_eq_zero (by simpa using hown.1)
    subst hx
    by_cases hm:m = 0
    · subst hm
      refine ⟨.slice none 0 0,w,?_,by simpa using World.ownsRow_nil w base e i.size,⟨rfl,rfl,rfl,Nat.le_refl _,fun _ _ _=>rfl⟩,.inl rfl,fun q A' k' hv _=>⟨A',k',hv⟩⟩
      have hw0:IntKind.i64.wrap 0 = 0:=rfl
      simp [Builtin.append_,run_underlying ht,run_underlying htn,sizeOf,typeInfo,hi,asInt,asIntOf,hw0]
    · have hr:=Lib.run_append_nil_zeros (P:=P) w t tn ty e i z kq kn ht htn hi hz m (by omega) hsz (by omega) h48
      have hgr:=grown 0 (by omega) (Value.ownBlock (.slice none 0 0))
      simp only [Nat.zero_add,List.nil_append] at hgr ⊢
      refine ⟨_,_,hr,by simpa using hgr.1,by simpa using hgr.2,.inr rfl,fun q A' k' hv hq=>?_⟩
      injection hv with e1 e2 e3
      omega
  · by_cases hroom:n + m ≤ cap
    · have hfit:n * i.size + m * i.size ≤ cur.size:=by rw [hcs,← Nat.add_mul];exact Nat.mul_le_mul_right _ hroom
      have hst:=run_storeCells_at P g (n * i.size) e (List.replicate m z.cells.toList).flatten 0 cur w hg (by rw [hl];simpa using hfit) hone'
      simp only [Nat.add_zero] at hst
      have hr:(Builtin.append_ #[t,tn] ty #[.slice (some ⟨g,0,none⟩) n cap,.int kq m]).run P w =
          .ok (.slice (some ⟨g,0,none⟩) (n + m) cap) (w.setRow g (cur.toList.take (n * i.size) ++ (List.replicate m z.cells.toList).flatten ++ cur.toList.drop (n * i.size + (List.replicate m z.cells.toList).flatten.length)).toArray):=by
        by_cases hm0:m = 0
        · subst hm0
          simp only [List.replicate_zero,List.flatten_nil] at hst
          have hw0:IntKind.i64.wrap 0 = 0:=rfl
          simp [Builtin.append_,run_underlying ht,run_underlying htn,sizeOf,typeInfo,hi,asInt,asIntOf,hw0,hnc,Addr.add_lit,hst]
        · have hns:¬ (m * i.size = 0):=Nat.mul_ne_zero hm0 (by omega)
          simp only [← hnews] at hst ⊢
          simp [Builtin.append_,run_underlying ht,run_underlying htn,sizeOf,typeInfo,zeroValue,hi,hz,asInt,asIntOf,hw,hneg,hns,h48i,hroom,Addr.add_lit,hst]
      refine ⟨_,_,hr,⟨hlen,.inr ⟨g,cap,_,rfl,hbg,setRow_heap w g cur _ e _ hg,hroom,hcm,?_,?_⟩⟩,⟨rfl,rfl,rfl,by simp,fun k _ hk=>setRow_other w g k _ (fun e=>hk (by simp [Value.ownBlock,e]))⟩,.inl rfl,fun q A' k' hv _=>?_⟩
      · simp only [List.size_toArray,List.length_append,List.length_take,List.length_drop,Array.length_toList]
        omega
      · rw [htake,← hlen]
        exact List.take_left
      · injection hv with e1 e2 e3
        exact ⟨_,_,by rw [e3]⟩
    · have holds:∀ j u,xs[j]? = some u → w.cell? ((⟨g,0,none⟩:Addr).add j) = some u:=hown.cells (g:=g) rfl
      have hm0:0 < m:=by omega
      have hold:(Builtin.firstCells i.size n (.slice (some ⟨g,0,none⟩) n cap)).run P w.drew = .ok xs.toArray w.drew:=run_firstCells_some (P:=P) w.drew i.size n ⟨g,0,none⟩ n cap xs hown.1 holds
      have hr:=Lib.run_append_grow_zeros (P:=P) w t tn ty e i z kq kn ht htn hi hz (some ⟨g,0,none⟩) n cap xs hold m hm0 hsz (by omega) (by omega) h48 (growslice_fits (by omega) hbytes)
      have hgr:=grown cap (by omega) (Value.ownBlock (.slice (some ⟨g,0,none⟩) n cap))
      refine ⟨_,_,hr,hgr.1,hgr.2,.inr rfl,fun q A' k' hv hq=>?_⟩
      injection hv with e1 e2 e3
      omega
def appZ {α:Type} (xs:List α) (k:Int) (z:α):Option (List α):=if 0 ≤ k ∧ xs.length + k.toNat ≤ 1099511627776 then some (xs ++ List.replicate k.toNat z) else .none
section
variable {ds:List Deferred} {N:Nat} {a:Act} {l:List (Nat × Value)} {w w0:World} {P:Program} {ops:Array Oper} {Q:Exit → Act → World → Prop} {rest:List Oper} {o:Oper} {Kont:Act → World → Prop} {d:Nat} {K:Nat → Prop} {n:Nat} {L:List (Option Nat)}
theorem d_B (S:StD ds N a l) (W:Wd w0 w L) {s x:Operand} {T TN E:TypeId} {e:GT} {v:Value} {xs r:List (PT e)} {c:Option Nat} {kn kq:IntKind} {m:Int} {z0:PT e} (i:Nat) (z:Value) (ho:o.op = .call { callee:=.builtin .append,args:=#[s,x],argTypes:=#[T,TN] }) (ht:tie P (.sl e) false T [] 0 = true) (htn:tie P (.int kn) false TN [] 0 = true) (hE:P.underlying T = some (.slice E)) (hby:bytesB P T e = true) (hz:(P.info? E).bind (·.zero) = some z) (Rz:∀ w K,RepCs e w K z.cells.toList z0) (hd:o.dst = some d) (hN:Nat.blt d N = true)
    (hs:ev l s = some v) (hx:ev l x = some (.int kq m)) (O:Ow e E w w0.heap.size (Kx K w0.heap.size L) v xs c) (hi:L[i]? = some v.ownBlock) (hr:appZ xs m z0 = some r)
    (k:∀ a' w' v',Apd w w' v v' → Ow e E w' w0.heap.size (Kx K w0.heap.size (L.set i v'.ownBlock)) v' r (b_H c r.length) → StD ds N a' ((d,v') :: l) → Kont a' w'):o.wp P a w Kont Q:=by
  obtain ⟨cs,h1,h2,h3⟩:=O
  obtain ⟨E',hE',htE⟩:=b_b ht
  obtain rfl:E = E':=by rw [hE] at hE';injection hE' with h;injection h
  obtain ⟨ie,hie,hse⟩:=a_E htE
  unfold bytesB at hby
  rw [hE] at hby
  simp only [hie,Option.any_some,Bool.and_eq_true,Nat.blt_eq,Nat.ble_eq] at hby
  obtain ⟨hsz,hbytes,_⟩:=hby
  have hz0:ie.zero = some z:=by rw [hie] at hz;exact hz
  have hzl:z.cells.size = e.sz:=by have:=(Rz w K).len;simpa using this
  unfold appZ at hr
  by_cases hc:0 ≤ m ∧ xs.length + m.toNat ≤ 1099511627776
  · rw [if_pos hc] at hr
    obtain rfl:=Option.some.inj hr
    obtain ⟨mn,rfl⟩:∃ mn:Nat,m = mn:=⟨m.toNat,by omega⟩
    have hle:=hc.2
    simp only [Int.toNat_natCast] at hle k ⊢
    obtain ⟨v',w',hrun,a1,a2,a4,a5⟩:=c_b (P:=P) w w0.heap.size T TN o.type E ie z kn kq hE (b_e htn) hie hz0 (by rw [hzl,hse]) (by rw [hse];exact hsz) (fun u hu=>(Rz w K).one u hu) v xs.length cs (by rw [hse];exact h1) mn (by simp only [maxLen];omega) (by
      have:(xs.length + mn) * ie.bytes ≤ 1099511627776 * 128:=Nat.mul_le_mul (by omega) hbytes
      omega) W.below.size
    have hap:Apd w w' v v':=⟨a2,a4,fun q hq=>(a1.lt q hq).2⟩
    have hlen:(xs ++ List.replicate mn z0).length = xs.length + mn:=by simp
    refine a_D S (v:=v') (w':=w') hd hN (by simp [execOp,ho,resolve,invoke,builtin,S.eval hs,S.eval hx,hrun]) fun a'=>k a' w' v' hap ⟨_,by rw [hlen,← hse];exact a1,?_,?_⟩
    · have hrep:=a_A (Rz w (Kx K w0.heap.size L)) mn
      rw [List.length_replicate] at hrep
      exact (c_v h2 hrep).keep (hap.keeps hi) (hap.kk hi)
    · intro q hq
      unfold b_H at hq
      cases hcc:c with
      | none=>rw [hcc] at hq;cases hq
      | some q' =>
        rw [hcc] at hq
        simp only at hq
        split at hq
        · rename_i hqq
          obtain rfl:=Option.some.inj hq
          obtain ⟨B,k',hv⟩:=h3 q' hcc
          rw [hlen] at hqq
          exact a5 q' B k' hv hqq
        · cases hq
  · rw [if_neg hc] at hr
    cases hr
def cutI {α:Type} (xs:List α) (q:Int):Option (List α):=if 0 ≤ q ∧ q ≤ xs.length then some (xs.take q.toNat) else .none
theorem d_p (S:StD ds N a l) {T E:TypeId} {x:Operand} {hi:Option Operand} {e:GT} {v:Value} {xs r:List (PT e)} {c:Option Nat} {q:Int} (ho:o.op = .slice T x .none hi .none) (ht:tie P (.sl e) false T [] 0 = true) (hE:P.underlying T = some (.slice E)) (hd:o.dst = some d) (hN:Nat.blt d N = true)
    (hx:ev l x = some v) (O:Ow e E w n (Kx K n L) v xs c) (hhi:(hi = .none ∧ q = (xs.length:Int)) ∨ ∃ x k,hi = some x ∧ ev l x = some (.int k q)) (hr:cutI xs q = some r)
    (k:∀ a' v',v'.ownBlock = v.ownBlock → Ow e E w n (Kx K n L) v' r c → StD ds N a' ((d,v') :: l) → Kont a' w):o.wp P a w Kont Q:=by
  obtain ⟨cs,h1,h2,h3⟩:=O
  obtain ⟨E',hE',htE⟩:=b_b ht
  obtain rfl:E = E':=by rw [hE] at hE';injection hE' with h;injection h
  obtain ⟨ie,hie,hse⟩:=a_E htE
  unfold cutI at hr
  by_cases hc:0 ≤ q ∧ q ≤ xs.length
  · rw [if_pos hc] at hr
    obtain rfl:=Option.some.inj hr
    obtain ⟨c0,c1⟩:=hc
    have hcap:∃ A cap,v = .slice A xs.length cap ∧ xs.length ≤ cap ∧ (A = .none ∨ ∃ g,A = some ⟨g,0,.none⟩):=by
      rcases h1.2 with ⟨e1,e2⟩ | ⟨g,cap,cur,e1,e2,e3,e4,_⟩
      · exact ⟨.none,0,by rw [e1,e2],by omega,.inl rfl⟩
      · exact ⟨_,cap,e1,e4,.inr ⟨g,rfl⟩⟩
    obtain ⟨A,cap,rfl,hle,hA⟩:=hcap
    have hrun:(Instr.sliceAt T (.slice A xs.length cap) .none (hi.map a.eval) .none).run P w = .ok (.slice A q.toNat cap) w:=by
      have q2:q ≤ (cap:Int):=by omega
      rcases hhi with ⟨rfl,rfl⟩ | ⟨y',k',rfl,hy'⟩
      · rcases hA with rfl | ⟨g,rfl⟩ <;> simp [Instr.sliceAt,Instr.slice,Instr.sliceBounds,run_underlying hE,sizeOf,typeInfo,hie,hse,Addr.add_lit]
      · rcases hA with rfl | ⟨g,rfl⟩ <;> simp [Instr.sliceAt,Instr.slice,Instr.sliceBounds,Instr.sliceBound,asIntOf,run_underlying hE,sizeOf,typeInfo,hie,hse,S.eval hy',c0,q2,Addr.add_lit]
    have hcsl:=h2.len
    simp only [GT.sz] at hcsl
    refine a_D S (v:=.slice A q.toNat cap) hd hN (by simp [execOp,ho,S.eval hx,hrun]) fun a'=>k a' _ (by cases A <;> rfl) ⟨cs.take (q.toNat * e.sz),⟨?_,?_⟩,?_,fun p hp=>?_⟩
    · rw [List.length_take,List.length_take,hcsl]
      have:q.toNat * e.sz ≤ xs.length * e.sz:=Nat.mul_le_mul_right _ (by omega)
      rw [Nat.min_eq_left this,Nat.min_eq_left (by omega)]
    · have hl:(xs.take q.toNat).length = q.toNat:=by rw [List.length_take];omega
      rcases h1.2 with ⟨e1,e2⟩ | ⟨g,cap',cur,e1,e2,e3,e4,e5,e6,e7⟩
      · injection e1 with f1 f2 f3
        subst f1;subst f3
        have:q.toNat = 0:=by omega
        exact .inl ⟨by rw [this],by rw [hl,this]⟩
      · injection e1 with f1 f2 f3
        subst f1;subst f3
        refine .inr ⟨g,_,cur,by rw [hl],e2,e3,by rw [hl];omega,e5,e6,?_⟩
        rw [hl,← e7,List.take_take,Nat.min_eq_left (Nat.mul_le_mul_right _ (by omega))]
    · obtain ⟨hx,css,hcs,hcl,hrr⟩:=h2
      have hl:(xs.take q.toNat).length = q.toNat:=by rw [List.length_take];omega
      have hz:∀ c ∈ css,c.length = e.sz:=by
        intro c hcm
        obtain ⟨j,hj⟩:=List.getElem?_of_mem hcm
        have hjl:j < xs.length:=by have:=(List.getElem?_eq_some_iff.1 hj).1;omega
        exact (hrr j c _ hj (List.getElem?_eq_getElem hjl)).len
      have key:∀ (l:List (List Value)) (m:Nat),(∀ c ∈ l,c.length = e.sz) → l.flatten.take (m * e.sz) = (l.take m).flatten:=by
        intro l
        induction l with
        | nil=>intro m _;simp
        | cons c l ih =>
          intro m hc
          cases m with
          | zero=>simp
          | succ m =>
            have h0:=hc c (by simp)
            rw [List.flatten_cons,List.take_succ_cons,List.flatten_cons,List.take_append,h0,← ih m fun d hd=>hc d (by simp [hd])]
            rw [List.take_of_length_le (by rw [h0,Nat.add_mul];omega)]
            congr 2
            rw [Nat.add_mul]
            omega
      refine ⟨rfl,css.take q.toNat,by rw [hcs];exact key css _ hz,by rw [List.length_take,hl];omega,fun j c y hc hy=>?_⟩
      rw [List.getElem?_take] at hc hy
      split at hc
      · rename_i hlt
        rw [if_pos hlt] at hy
        exact hrr j c y hc hy
      · cases hc
    · obtain ⟨A',m',e1⟩:=h3 p hp
      injection e1 with f1 f2 f3
      exact ⟨_,_,by rw [f3]⟩
  · rw [if_neg hc] at hr
    cases hr
end
end Go.Proofs.Ytfelbalkobcfhaa
