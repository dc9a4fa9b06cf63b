/- The rules of the walk over plain data. Plain theorems, no condition. -/
import Derived.Test.YtlbaijkolglheaaLB2
set_option linter.unusedVariables false
set_option linter.unusedSimpArgs false
namespace Go.Proofs.Ytlbaijkolglheaa
open Go.RowKit
section
variable {ds:List Deferred} {N:Nat} {a:Act} {l:List (Nat × Value)} {w w0:World} {P:Program} {ops:Array Oper} {Q:Exit → Act → World → Prop} {rest:List Oper} {o:Oper} {Kont:Act → World → Prop} {d:Nat} {K:Nat → Prop} {n:Nat} {L:List (Option Nat)}
theorem Ow.put_at {E:TypeId} {e:GT} {xs ys:List (PT e)} {c:Option Nat} {g cap:Nat} {cur:Array Value} {dc:List Value} {lo i:Nat} (O:Ow e E w n (Kx K n L) (.slice (some ⟨g,0,.none⟩) xs.length cap) xs c) (hi:L[i]? = some (some g))
    (hg:w.heap[g]? = some (.cells cur E (0,0))) (hd:RepCs (.arr ys.length e) w (Kx K n L) dc ys) (hfit:lo + ys.length ≤ xs.length) :
    Apd w (w.setRow g (cur.toList.take (lo * e.sz) ++ dc ++ cur.toList.drop (lo * e.sz + dc.length)).toArray) (.slice (some ⟨g,0,.none⟩) xs.length cap) (.slice (some ⟨g,0,.none⟩) xs.length cap) ∧
    Ow e E (w.setRow g (cur.toList.take (lo * e.sz) ++ dc ++ cur.toList.drop (lo * e.sz + dc.length)).toArray) n (Kx K n L) (.slice (some ⟨g,0,.none⟩) xs.length cap) (xs.take lo ++ (ys ++ xs.drop (lo + ys.length))) c:=by
  obtain ⟨cs,h1,h2,h3⟩:=O
  have hcsl:cs.length = xs.length * e.sz:=h1.1
  have hdl:dc.length = ys.length * e.sz:=hd.len
  have hw:=b_E w g (cur.toList.take (lo * e.sz) ++ dc ++ cur.toList.drop (lo * e.sz + dc.length)).toArray
  have hgL:some g ∈ L:=List.mem_of_getElem? hi
  rcases h1.2 with ⟨e1,_⟩ | ⟨g',cap',cur',e1,hb,hg',hnc,hcm,hsz,htake⟩
  · cases e1
  · injection e1 with f1 f2 f3
    injection f1 with f1
    injection f1 with f1 _ _
    subst f1 f3
    rw [hg] at hg'
    injection hg' with hg'
    injection hg' with hg' _ _
    subst hg'
    refine ⟨⟨⟨hw.os,hw.tape,hw.output,Nat.le_of_eq hw.size.symm,fun q hq hne=>hw.block q fun e_=>hne (by rw [e_];rfl)⟩,.inl rfl,fun q hq=>?_⟩,?_⟩
    · obtain rfl:g = q:=by simpa [Value.ownBlock] using hq
      rw [hw.size];exact (Array.getElem?_eq_some_iff.1 hg).1
    · have htk:=d_2 h2 lo
      have hdr:=arr_drop h2 (lo + ys.length)
      have happ:=b_J htk (b_J hd hdr)
      have hnl:(xs.take lo ++ (ys ++ xs.drop (lo + ys.length))).length = xs.length:=by simp;omega
      have hcl:(cs.take (lo * e.sz) ++ (dc ++ cs.drop ((lo + ys.length) * e.sz))).length = xs.length * e.sz:=by
        have:=happ.len
        rw [this]
        show (xs.take lo ++ (ys ++ xs.drop (lo + ys.length))).length * e.sz = _
        rw [hnl]
      have hle:(lo + ys.length) * e.sz ≤ xs.length * e.sz:=Nat.mul_le_mul_right _ hfit
      have hle2:xs.length * e.sz ≤ cap * e.sz:=Nat.mul_le_mul_right _ hnc
      rw [Nat.add_mul] at hle
      have hcurl:cur.toList.length = cap * e.sz:=by simpa using hsz
      refine ⟨cs.take (lo * e.sz) ++ (dc ++ cs.drop ((lo + ys.length) * e.sz)),⟨by rw [hcl,hnl],.inr ⟨g,cap,_,by rw [hnl],hb,setRow_heap w g cur _ E _ hg,by rw [hnl];exact hnc,hcm,?_,?_⟩⟩,?_,h3⟩
      · simp only [List.size_toArray,List.length_append,List.length_drop,List.length_take,hcurl,hdl]
        omega
      · rw [hnl]
        show (cur.toList.take (lo * e.sz) ++ dc ++ cur.toList.drop (lo * e.sz + dc.length)).take (xs.length * e.sz) = _
        have ht:cs.take (lo * e.sz) = cur.toList.take (lo * e.sz):=by rw [← htake,List.take_take,Nat.min_eq_left (by omega)]
        have hA:(cur.toList.take (lo * e.sz)).length = lo * e.sz:=by rw [List.length_take,hcurl];omega
        have hk:(lo + ys.length) * e.sz = lo * e.sz + dc.length:=by rw [Nat.add_mul,hdl]
        rw [List.append_assoc,List.take_append,hA,List.take_of_length_le (l:=cur.toList.take (lo * e.sz)) (by rw [hA];omega),List.take_append (l₁:=dc),List.take_of_length_le (l:=dc) (by rw [hdl];omega),ht,hk]
        conv=>rhs;rw [← htake,List.drop_take]
        rw [Nat.sub_add_eq]
      · have hR:RepCs (.arr (xs.take lo ++ (ys ++ xs.drop (lo + ys.length))).length e) w (Kx K n L) (cs.take (lo * e.sz) ++ (dc ++ cs.drop ((lo + ys.length) * e.sz))) (xs.take lo ++ (ys ++ xs.drop (lo + ys.length))):=happ
        exact hR.keep (Keeps.wrote hw hgL) fun _ _ h=>h
theorem d_T {P:Program} (w:World) (T T2 ty E:TypeId) (ie:TypeInfo) (hu:P.underlying T = some (.slice E)) (hi:P.info? E = some ie) (g off dLen dCap:Nat) (sA:Option Addr) (sLen sCap:Nat) (cur:Array Value) (t:TypeId) (cs:List Value) (hg:w.heap[g]? = some (.cells cur t (0,0)))
    (hn:cs.length = Nat.min sLen dLen * ie.size) (hs0:sA = none → cs = []) (hsrc:∀ a,sA = some a → ∀ j v,cs[j]? = some v → w.cell? (a.add j) = some v) (hfit:off + cs.length ≤ cur.size) (h1:∀ v ∈ cs,v.oneCell' = true) :
    (Builtin.copy_ #[T,T2] ty #[.slice (some ⟨g,off,none⟩) dLen dCap,.slice sA sLen sCap]).run P w = .ok (goInt (Nat.min sLen dLen)) (w.setRow g (cur.toList.take off ++ cs ++ cur.toList.drop (off + cs.length)).toArray):=by
  have hst:=run_storeCells_at P g off t cs 0 cur w hg (by simpa using hfit) h1
  simp only [Nat.add_zero] at hst
  cases sA with
  | none =>
    obtain rfl:=hs0 rfl
    simp [Builtin.copy_,run_underlying hu,Builtin.lenOf,Builtin.firstCells,sizeOf,typeInfo,hi] at hn hst ⊢
    simp [storeCells] at hst ⊢
    exact hst
  | some a =>
    have hl:=run_loadCells_list (P:=P) w a cs (hsrc a rfl)
    simp [Builtin.copy_,run_underlying hu,Builtin.lenOf,Builtin.firstCells,sizeOf,typeInfo,hi,← hn,hl,hst]
theorem u8s_rep {w:World} {K:Nat → Prop} {m:List Int} (hB:Byt m):RepCs (.arr m.length (.int .u8)) w K (u8s m) m:=by
  have hfl:∀ q:List Int,u8s q = (q.map fun x=>[Value.int .u8 x]).flatten:=by
    intro q
    induction q with
    | nil=>rfl
    | cons y q ih=>simp only [List.map_cons,List.flatten_cons,← ih];rfl
  refine ⟨rfl,m.map fun x=>[.int .u8 x],hfl m,by simp,fun j c y hc hy=>?_⟩
  simp only [List.getElem?_map,hy,Option.map_some,Option.some.injEq] at hc
  have:=hB y (List.mem_of_getElem? hy)
  exact ⟨hc.symm,by simpa [InR,IntKind.min,IntKind.max,IntKind.signed,IntKind.bits] using this⟩
theorem u8s_data {m:List Int} (hB:Byt m):((strOfNums m).data.map fun b=>Value.int .u8 b.toNat) = (u8s m).toArray:=by
  simp only [strOfNums,List.map_toArray,u8s,List.map_map]
  congr 1
  refine List.map_congr_left fun x hx=>?_
  have:=hB x hx
  simp
  omega
theorem a_U (S:StD ds N a l) {T T2 E:TypeId} {x y:Operand} {e:GT} {v v' u:Value} {xs:List (PT e)} {c:Option Nat} {m:Nat} {ys:Sl (PT e)} (ho:o.op = .call { callee:=.builtin .copy,args:=#[x,y],argTypes:=#[T,T2] }) (ht:tie P (.sl e) false T [] 0 = true) (hE:P.underlying T = some (.slice E)) (hd:o.dst = some d) (hN:Nat.blt d N = true)
    (hx:ev l x = some v') (hs:SubV e.sz v m v') (hy:ev l y = some u) (O:Ow e E w n (Kx K n L) v xs c) (i:Nat) (hi:L[i]? = some v.ownBlock) (R:RepV (.sl e) w (Kx K n L) u ys)
    (k:∀ a' w',Apd w w' v v → Ow e E w' n (Kx K n L) v (xs.take m ++ b_3 (xs.drop m) ys.xs) c → InR .i64 ((Nat.min ys.xs.length (xs.length - m):Nat):Int) → StD ds N a' ((d,.int .i64 ((Nat.min ys.xs.length (xs.length - m):Nat):Int)) :: l) → Kont a' w'):o.wp P a w Kont Q:=by
  obtain ⟨A,q,cu,rfl,hm,hmc,hc63,_,hrow⟩:=R.sl
  obtain ⟨E',hE',htE⟩:=a_Q ht
  obtain rfl:E = E':=by rw [hE] at hE';injection hE' with h;injection h
  obtain ⟨ie,hie,hse⟩:=a_E htE
  obtain ⟨d1,hd1,hA⟩:=hrow.cells
  have O':=O
  obtain ⟨cs,h1,h2,h3⟩:=O'
  have hr:InR .i64 ((Nat.min ys.xs.length (xs.length - m):Nat):Int):=by
    have h5:Nat.min ys.xs.length (xs.length - m) ≤ ys.xs.length:=Nat.min_le_left ..
    simp only [InR,IntKind.min,IntKind.max,IntKind.signed,IntKind.bits]
    simp
    omega
  have hgo:goInt (Nat.min q (xs.length - m)) = .int .i64 ((Nat.min ys.xs.length (xs.length - m):Nat):Int):=by rw [hm];rfl
  have hd1l:d1.length = ys.xs.length * e.sz:=hd1.len
  obtain ⟨B,nn,cap,rfl,hmn,hnc,rfl⟩:=hs
  rcases h1.2 with ⟨e1,e2⟩ | ⟨g,cap',cur,e1,hb,hg,hnc',hcm,hcs,htake⟩
  · injection e1 with f1 f2 f3
    subst f1 f2 f3
    have hxs:xs = []:=List.eq_nil_of_length_eq_zero e2
    subst hxs
    have hm0:m = 0:=by omega
    subst hm0
    have hmin:Nat.min q 0 = 0:=Nat.min_zero q
    have hrun:(Builtin.copy_ #[T,T2] o.type #[.slice none 0 0,.slice A q cu]).run P w = .ok (goInt 0) w:=by
      have hl0:∀ (q:Addr),(loadCells q 0).run P w = .ok #[] w:=fun q=>by simpa using run_loadCells_list (P:=P) w q [] (by simp)
      cases A <;> simp [Builtin.copy_,run_underlying hE,Builtin.lenOf,Builtin.firstCells,sizeOf,typeInfo,hie,hmin,hl0]
    refine a_t S (v:=.int .i64 ((Nat.min ys.xs.length (([]:List (PT e)).length - 0):Nat):Int)) (w':=w) hd hN ?_ fun a'=>k a' w ⟨⟨rfl,rfl,rfl,Nat.le_refl _,fun _ _ _=>rfl⟩,.inl rfl,fun q hq=>by cases hq⟩ ?_ hr
    · have:goInt 0 = .int .i64 ((Nat.min ys.xs.length (([]:List (PT e)).length - 0):Nat):Int):=by rw [← hgo];simp
      have hx':=S.eval hx
      simp only [if_true] at hx'
      simp [execOp,ho,resolve,invoke,builtin,hx',S.eval hy,hrun,this]
    · have e0:([]:List (PT e)).take 0 ++ b_3 (([]:List (PT e)).drop 0) ys.xs = []:=by simp [b_3]
      rw [e0]
      exact ⟨cs,h1,h2,h3⟩
  · injection e1 with f1 f2 f3
    subst f1 f2 f3
    have hml:m ≤ xs.length:=hmn
    have hsub:∃ off,(if cap = m then (some ⟨g,0,none⟩:Option Addr) else Option.map (·.add (m * e.sz)) (some (⟨g,0,none⟩:Addr))) = some ⟨g,off,none⟩ ∧ (xs.length - m = 0 ∨ off = m * e.sz) ∧ off ≤ m * e.sz:=by
      by_cases hcq:cap = m
      · exact ⟨0,by rw [if_pos hcq],.inl (by omega),Nat.zero_le _⟩
      · refine ⟨m * e.sz,?_,.inr rfl,Nat.le_refl _⟩
        rw [if_neg hcq]
        show some ((⟨g,0,none⟩:Addr).add (m * e.sz)) = _
        rw [Addr.add_lit];simp
    obtain ⟨off,hoff,hom,hol⟩:=hsub
    rw [hoff] at hx
    have hk:(d1.take (Nat.min q (xs.length - m) * ie.size)).length = Nat.min q (xs.length - m) * ie.size:=by
      rw [List.length_take,hd1l,hse,hm]
      exact Nat.min_eq_left (Nat.mul_le_mul_right _ (Nat.min_le_left ..))
    have hcurl:cur.toList.length = cap * e.sz:=by simpa using hcs
    have hle:Nat.min q (xs.length - m) * e.sz ≤ (xs.length - m) * e.sz:=Nat.mul_le_mul_right _ (Nat.min_le_right ..)
    have hle2:(m + (xs.length - m)) * e.sz ≤ cap * e.sz:=Nat.mul_le_mul_right _ (by omega)
    rw [Nat.add_mul] at hle2
    have hone:=hd1.one
    have hrun:=d_T (P:=P) w T T2 o.type E ie hE hie g off (xs.length - m) (cap - m) A q cu cur E (d1.take (Nat.min q (xs.length - m) * ie.size)) hg hk (fun hAn=>by
        rcases hA with h0 | ⟨b,off,e1,_⟩
        · have:d1 = []:=List.eq_nil_of_length_eq_zero (by rw [hd1l,h0];simp)
          rw [this];simp
        · rw [hAn] at e1;cases e1) (fun r hq j u hj=>by
        rcases hA with h0 | ⟨b,off,e1,_,_,hcell⟩
        · have:d1 = []:=List.eq_nil_of_length_eq_zero (by rw [hd1l,h0];simp)
          rw [this] at hj;simp at hj
        · rw [e1] at hq
          obtain rfl:=Option.some.inj hq
          rw [List.getElem?_take] at hj
          split at hj
          · rw [Addr.add_lit];exact hcell j u hj
          · cases hj) (by rw [hk,hse];simp at hcurl ⊢;omega) (fun u hu=>hone u (List.mem_of_mem_take hu))
    have htk:RepCs (.arr (ys.xs.take (xs.length - m)).length e) w (Kx K n L) (d1.take ((xs.length - m) * e.sz)) (ys.xs.take (xs.length - m)):=d_2 hd1 _
    have e1:d1.take (Nat.min q (xs.length - m) * ie.size) = d1.take ((xs.length - m) * e.sz):=by
      rw [hse]
      rcases Nat.le_total q (xs.length - m) with h | h
      · rw [show Nat.min q (xs.length - m) = q from Nat.min_eq_left h,List.take_of_length_le (by rw [hd1l,hm];exact Nat.le_refl _),List.take_of_length_le (by rw [hd1l,hm];exact Nat.mul_le_mul_right _ h)]
      · rw [show Nat.min q (xs.length - m) = xs.length - m from Nat.min_eq_right h]
    rw [e1] at hrun
    have hyl:(ys.xs.take (xs.length - m)).length ≤ xs.length - m:=by rw [List.length_take];exact Nat.min_le_left _ _
    obtain ⟨lo,hlo,hlf,hlx⟩:∃ lo,off = lo * e.sz ∧ lo + (ys.xs.take (xs.length - m)).length ≤ xs.length ∧ xs.take lo ++ (ys.xs.take (xs.length - m) ++ xs.drop (lo + (ys.xs.take (xs.length - m)).length)) = xs.take m ++ b_3 (xs.drop m) ys.xs:=by
      by_cases hz:off = m * e.sz
      · refine ⟨m,hz,by omega,?_⟩
        unfold b_3
        rw [List.length_drop,List.drop_drop]
        congr 2
        rw [List.length_take]
        rcases Nat.le_total ys.xs.length (xs.length - m) with h | h
        · rw [Nat.min_eq_right h]
        · rw [Nat.min_eq_left h,List.drop_eq_nil_of_le (by omega),List.drop_eq_nil_of_le (by omega)]
      · have h0:xs.length - m = 0:=hom.resolve_right hz
        have hmx:m = xs.length:=by omega
        have ho0:off = 0:=by
          by_cases hcq:cap = m
          · rw [if_pos hcq] at hoff
            injection hoff with hoff
            injection hoff with _ h _
            exact h.symm
          · rw [if_neg hcq] at hoff
            exfalso;apply hz
            have:(⟨g,0,none⟩:Addr).add (m * e.sz) = ⟨g,off,none⟩:=Option.some.inj hoff
            rw [Addr.add_lit] at this
            injection this with _ h _
            omega
        refine ⟨0,by rw [ho0];simp,by omega,?_⟩
        rw [h0,hmx]
        simp [b_3]
    obtain ⟨pa,po⟩:=O.put_at (dc:=d1.take ((xs.length - m) * e.sz)) (lo:=lo) hi hg htk hlf
    rw [hlx,← hlo] at po
    rw [← hlo] at pa
    refine a_t S (v:=.int .i64 ((Nat.min ys.xs.length (xs.length - m):Nat):Int)) hd hN ?_ fun a'=>k a' _ pa po hr
    simp [execOp,ho,resolve,invoke,builtin,S.eval hx,S.eval hy,hrun,hgo]
def fitI {α β:Type} (ys:List α) (xs:List β):Option Unit:=if ys.length ≤ xs.length then some () else none
theorem fitI_le {α β:Type} {ys:List α} {xs:List β} {u:Unit} (h:fitI ys xs = some u):ys.length ≤ xs.length:=by
  unfold fitI at h
  split at h
  · assumption
  · cases h
theorem op_copyS (S:StD ds N a l) {T T2 E:TypeId} {x y:Operand} {v:Value} {xs ys:List Int} {c:Option Nat} (ho:o.op = .call { callee:=.builtin .copy,args:=#[x,y],argTypes:=#[T,T2] }) (ht:tie P (.sl (.int .u8)) false T [] 0 = true) (hE:P.underlying T = some (.slice E)) (hd:o.dst = some d) (hN:Nat.blt d N = true)
    (hx:ev l x = some v) (hy:ev l y = some (.string (strOfNums ys))) (hB:Byt ys) (hfit:ys.length ≤ xs.length) (O:Ow (.int .u8) E w n (Kx K n L) v xs c) (i:Nat) (hi:L[i]? = some v.ownBlock)
    (k:∀ a' w',Apd w w' v v → Ow (.int .u8) E w' n (Kx K n L) v (b_3 xs ys) c → StD ds N a' ((d,.int .i64 (ys.length:Int)) :: l) → Kont a' w'):o.wp P a w Kont Q:=by
  obtain ⟨E',hE',htE⟩:=a_Q ht
  obtain rfl:E = E':=by rw [hE] at hE';injection hE' with h;injection h
  obtain ⟨ie,hie,hse⟩:=a_E htE
  have hcs:RepCs (.arr ys.length (.int .u8)) w (Kx K n L) (u8s ys) ys:=u8s_rep hB
  have hul:(u8s ys).length = ys.length:=by simp [u8s]
  have hdata:((strOfNums ys).data.map fun b=>Value.int .u8 b.toNat) = (u8s ys).toArray:=u8s_data hB
  have O':=O
  obtain ⟨cs,h1,h2,h3⟩:=O'
  rcases h1.2 with ⟨rfl,hx0⟩ | ⟨g,cap,cur,rfl,hb,hg,hnc,hcm,hsz,htake⟩
  · have hys:ys = []:=List.eq_nil_of_length_eq_zero (by omega)
    subst hys
    have hxs:xs = []:=List.eq_nil_of_length_eq_zero hx0
    subst hxs
    have hrun:(Builtin.copy_ #[T,T2] o.type #[.slice none 0 0,.string (strOfNums [])]).run P w = .ok (goInt 0) w:=by
      simp [Builtin.copy_,run_underlying hE,Builtin.lenOf,Builtin.firstCells,sizeOf,typeInfo,hie,b_P]
    refine a_t S (v:=.int .i64 (([]:List Int).length:Int)) (w':=w) hd hN ?_ fun a'=>k a' w ⟨⟨rfl,rfl,rfl,Nat.le_refl _,fun _ _ _=>rfl⟩,.inl rfl,fun q hq=>by cases hq⟩ ?_
    · simp [execOp,ho,resolve,invoke,builtin,S.eval hx,S.eval hy,hrun,goInt]
    · have e0:b_3 ([]:List Int) [] = []:=by simp [b_3]
      rw [e0]
      exact ⟨cs,h1,h2,h3⟩
  · have hcurl:cur.toList.length = cap:=by simpa [GT.sz] using hsz
    have hmin:Nat.min ys.length xs.length = ys.length:=Nat.min_eq_left hfit
    have hst:=run_storeCells_at P g 0 E (u8s ys) 0 cur w hg (by rw [hul];simp at hcurl ⊢;omega) (fun u hu=>by obtain ⟨x,_,rfl⟩:=List.mem_map.1 hu;rfl)
    simp only [Nat.add_zero] at hst
    have hext:((strOfNums ys).extract 0 ys.length) = strOfNums ys:=by
      unfold strOfNums
      have h:=ByteArray.extract_mk (ys.map fun n=>UInt8.ofNat n.toNat) 0 ys.length
      rw [List.drop_zero,Nat.sub_zero,List.take_of_length_le (by simp)] at h
      simpa using h
    have hrun:(Builtin.copy_ #[T,T2] o.type #[.slice (some ⟨g,0,none⟩) xs.length cap,.string (strOfNums ys)]).run P w = .ok (goInt ys.length) (w.setRow g (cur.toList.take (0 * (GT.int .u8).sz) ++ u8s ys ++ cur.toList.drop (0 * (GT.int .u8).sz + (u8s ys).length)).toArray):=by
      have hmin':min ys.length xs.length = ys.length:=Nat.min_eq_left hfit
      rw [Nat.zero_mul]
      rw [Nat.zero_add]
      simp [Builtin.copy_,run_underlying hE,Builtin.lenOf,Builtin.firstCells,sizeOf,typeInfo,hie,b_P,hmin',hext,hdata]
      rw [List.take_of_length_le (by rw [hul];exact Nat.le_refl _),hst]
      simp [hul]
    obtain ⟨pa,po⟩:=Ow.put_at (e:=.int .u8) (ys:=ys) (dc:=u8s ys) (lo:=0) O hi hg hcs (by omega)
    have hl:xs.take 0 ++ (ys ++ xs.drop (0 + ys.length)) = b_3 xs ys:=by simp [b_3,List.take_of_length_le hfit]
    rw [hl] at po
    refine a_t S (v:=.int .i64 (ys.length:Int)) hd hN ?_ fun a'=>k a' _ pa po
    simp [execOp,ho,resolve,invoke,builtin,S.eval hx,S.eval hy,hrun,goInt]
end
theorem SbX.yst {w0 w w':World} {X P Q:List (Option Nat)} {n:Nat} (h:SbX w0 X w) (hy:Yst n w P w' Q) (hg:∀ c,some c ∈ P → w0.heap.size ≤ c ∨ some c ∈ X):SbX w0 X w' :=
  ⟨Nat.le_trans h.size hy.size,fun k hk hx=>(hy.keep k (Nat.lt_of_lt_of_le hk h.size) fun e=>by
    rcases hg k e with q | q
    · omega
    · exact hx q).trans (h.block k hk hx)⟩
end Go.Proofs.Ytlbaijkolglheaa
namespace Go.Proofs.Ytlbaijkolglheaa
open Go.RowKit
section
variable {w0 w w':World} {L:List (Option Nat)} {K:Nat → Prop} {n b i:Nat} {v:Value} {e:GT} {E:TypeId} {xs:List (PT e)} {c:Option Nat}
end
section
variable {ds:List Deferred} {N:Nat} {a:Act} {l:List (Nat × Value)} {w w0:World} {P:Program} {ops:Array Oper} {Q:Exit → Act → World → Prop} {rest:List Oper} {o:Oper} {Kont:Act → World → Prop} {d:Nat} {K:Nat → Prop} {n:Nat} {L:List (Option Nat)}
end
theorem b_res3 {N:Nat} {a:Act} {l:List (Nat × Value)} {w:World} {P:Program} (S:St N a l) {fn:Func} {R:Ending → World → Prop} {r r' r'':ResultVar} {v v' v'':Value} (hr:fn.results = #[r,r',r'']) (h1:c_g P a w r v) (h2:c_g P a w r' v') (h3:c_g P a w r'' v'') (hR:R (.returned (.tuple #[v,v',v''])) w):bodyPost P fn R .ret a w:=by
  refine ⟨S.defers,_,?_,hR⟩
  rcases b_H h1 with ⟨t,rfl,h⟩ | ⟨p,T,ad,rfl,h,h'⟩ <;> rcases b_H h2 with ⟨t2,rfl,g⟩ | ⟨p2,T2,ad2,rfl,g,g'⟩ <;> rcases b_H h3 with ⟨t3,rfl,f⟩ | ⟨p3,T3,ad3,rfl,f,f'⟩ <;> simp only [Array.getD_eq_getD_getElem?] at h g f
  · simp [results,hr,h,g,f]
  · simp [results,hr,h,g,f,asAddr,f']
  · simp [results,hr,h,g,f,asAddr,g']
  · simp [results,hr,h,g,f,asAddr,g',f']
  · simp [results,hr,h,g,f,asAddr,h']
  · simp [results,hr,h,g,f,asAddr,h',f']
  · simp [results,hr,h,g,f,asAddr,h',g']
  · simp [results,hr,h,g,f,asAddr,h',g',f']
theorem b_res4 {N:Nat} {a:Act} {l:List (Nat × Value)} {w:World} {P:Program} (S:St N a l) {fn:Func} {R:Ending → World → Prop} {r r' r'' r3:ResultVar} {v v' v'' v3:Value} (hr:fn.results = #[r,r',r'',r3]) (h1:c_g P a w r v) (h2:c_g P a w r' v') (h3:c_g P a w r'' v'') (h4:c_g P a w r3 v3) (hR:R (.returned (.tuple #[v,v',v'',v3])) w):bodyPost P fn R .ret a w:=by
  refine ⟨S.defers,_,?_,hR⟩
  rcases b_H h1 with ⟨t,rfl,h⟩ | ⟨p,T,ad,rfl,h,h'⟩ <;> rcases b_H h2 with ⟨t2,rfl,g⟩ | ⟨p2,T2,ad2,rfl,g,g'⟩ <;> rcases b_H h3 with ⟨t3,rfl,f⟩ | ⟨p3,T3,ad3,rfl,f,f'⟩ <;> rcases b_H h4 with ⟨t4,rfl,k⟩ | ⟨p4,T4,ad4,rfl,k,k'⟩ <;> simp only [Array.getD_eq_getD_getElem?] at h g f k <;> clear h1 h2 h3 h4 hR S <;> simp [*,results,asAddr]
end Go.Proofs.Ytlbaijkolglheaa
