/- The rules of the walk over plain data. Plain theorems, no condition. -/
import Derived.Test.YtlfgpmcohfaabaaGreatDoorLB2
import Derived.Test.YtlfgpmcohfaabaaGreatDoorLB1
import Derived.Lib.LaidU8
import Derived.Lay
set_option linter.unusedVariables false
set_option linter.unusedSimpArgs false
namespace Go.Proofs.YtlfgpmcohfaabaaGreatDoor
open Go.RowKit Go.Deep
def unD {H:Type}:(t:GT) → List (DataW H) → Option (PT t)
  | .int k,[.lit (.int k' n)]=>if k = k' then some n else .none
  | .bool,[.lit (.bool b)]=>some b
  | .str,[.lit (.string bs)]=>some (bs.map fun b=>(b.toNat:Int))
  | .st f,[.agg ps]=>unD f ps
  | .arr _ e,[.agg ps]=>ps.mapM fun d=>unD e [d]
  | .pair a b,d :: ps=>(unD a [d]).bind fun x=>(unD b ps).map fun y=>(x,y)
  | _,_=>.none
theorem e_P {α β γ:Type} {g:α → Option (β × γ)}:∀ {l:List α} {xs:List (β × γ)},l.mapM g = some xs → l.mapM (fun a=>(g a).map (·.1)) = some (xs.map (·.1))
  | [],xs,h=>by simp at h;subst h;rfl
  | a :: l,xs,h=>by
    rw [List.mapM_cons] at h
    simp only [Option.bind_eq_bind,Option.bind_eq_some_iff] at h
    obtain ⟨y,h1,ys,h2,h3⟩:=h
    obtain rfl:y :: ys = xs:=by simpa using h3
    rw [List.mapM_cons,h1,e_P h2]
    rfl
theorem e_q {α β:Type} {f:α → Option β}:∀ {l:List α} {r:List β},l.mapM f = some r → ∀ (i:Nat) (y:β),r[i]? = some y → ∃ a,l[i]? = some a ∧ f a = some y
  | [],r,h,i,y,hy=>by simp at h;subst h;simp at hy
  | a :: l,r,h,i,y,hy=>by
    rw [List.mapM_cons] at h
    simp only [Option.bind_eq_bind,Option.bind_eq_some_iff] at h
    obtain ⟨z,h1,zs,h2,h3⟩:=h
    obtain rfl:z :: zs = r:=by simpa using h3
    rcases i with _ | i
    · obtain rfl:z = y:=by simpa using hy
      exact ⟨a,rfl,h1⟩
    · rw [List.getElem?_cons_succ] at hy
      obtain ⟨b,hb,hf⟩:=e_q h2 i y hy
      exact ⟨b,by rw [List.getElem?_cons_succ];exact hb,hf⟩
theorem flat_key (s:Nat):∀ (n:Nat) (cs:List Value),cs.length = n * s → cs = ((List.range n).map fun i=>(cs.drop (i * s)).take s).flatten:=by
  intro n
  induction n with
  | zero=>intro cs hcs;simp at hcs;simp [hcs]
  | succ n ih =>
    intro cs hcs
    rw [List.range_succ_eq_map,List.map_cons,List.flatten_cons,List.map_map]
    have h1:=ih (cs.drop s) (by rw [List.length_drop,hcs,Nat.add_mul];omega)
    have h2:((fun i=>(cs.drop (i * s)).take s) ∘ Nat.succ) = fun i=>((cs.drop s).drop (i * s)).take s:=by
      funext i
      simp only [Function.comp_apply,List.drop_drop,Nat.succ_eq_add_one,Nat.add_mul,Nat.one_mul]
      rw [Nat.add_comm]
    rw [h2,← h1]
    simp
section
variable {H:Type} {enc:TypeId × Value → H} {P:Program} {w:World} {base:Nat} {spare:Nat → Bool} {held:Bool} {K:Nat → Prop}
theorem trodI {k:IntKind} {T:TypeId} {fuel:Nat} {cs:List Value} {x:DataW H × List MemPlace} (hu:P.underlying T = some (.int k)) (h:DataW.trod enc P w base spare held fuel T cs = some x):∃ n,cs = [.int k n] ∧ (Lit.int k n).wf = true ∧ x.1 = .lit (.int k n):=by
  obtain ⟨n,rfl,hw⟩:=e_J hu h
  refine ⟨n,rfl,hw,?_⟩
  cases fuel with
  | zero=>simp [DataW.trod] at h
  | succ fuel =>
    simp [DataW.trod,hu] at h
    rw [← h.2]
theorem trodB {T:TypeId} {fuel:Nat} {cs:List Value} {x:DataW H × List MemPlace} (hu:P.underlying T = some .bool) (h:DataW.trod enc P w base spare held fuel T cs = some x):∃ b,cs = [.bool b] ∧ x.1 = .lit (.bool b):=by
  obtain ⟨b,rfl⟩:=d_W hu h
  refine ⟨b,rfl,?_⟩
  cases fuel with
  | zero=>simp [DataW.trod] at h
  | succ fuel=>simp [DataW.trod,hu] at h;rw [← h]
theorem trodS {T:TypeId} {fuel:Nat} {cs:List Value} {x:DataW H × List MemPlace} (hu:P.underlying T = some .string) (h:DataW.trod enc P w base spare held fuel T cs = some x):∃ s,cs = [.string s] ∧ s.size ≤ maxLen ∧ x.1 = .lit (.string s.data.toList):=by
  obtain ⟨s,rfl,hm⟩:=e_K hu h
  refine ⟨s,rfl,hm,?_⟩
  cases fuel with
  | zero=>simp [DataW.trod] at h
  | succ fuel=>simp [DataW.trod,hu] at h;rw [← h.2]
theorem rep_unD:∀ (t:GT),
    (∀ (T:TypeId) (fuel:Nat) (cs:List Value) (x:DataW H × List MemPlace) (y:PT t),tiQ P t false T [] 0 = true → DataW.trod enc P w base spare held fuel T cs = some x → unD t [x.1] = some y → RepCs t w K cs y) ∧
    (∀ (T:TypeId) (fuel o:Nat) (fs:List Field) (cs:List Value) (ds:List (DataW H)) (y:PT t),tiQ P t true T fs o = true → cs.length = o + t.sz → fs.mapM (fun f=>(DataW.trod enc P w base spare held fuel f.type ((cs.drop f.offset).take (P.cellsOf f.type))).map (·.1)) = some ds → unD t ds = some y → RepCs t w K (cs.drop o) y):=by
  intro t
  have last:∀ {t:GT},(∀ a b,t ≠ .pair a b) → (∀ (T:TypeId) (fuel:Nat) (cs:List Value) (x:DataW H × List MemPlace) (y:PT t),tiQ P t false T [] 0 = true → DataW.trod enc P w base spare held fuel T cs = some x → unD t [x.1] = some y → RepCs t w K cs y) →
      ∀ (T:TypeId) (fuel o:Nat) (fs:List Field) (cs:List Value) (ds:List (DataW H)) (y:PT t),tiQ P t true T fs o = true → cs.length = o + t.sz → fs.mapM (fun f=>(DataW.trod enc P w base spare held fuel f.type ((cs.drop f.offset).take (P.cellsOf f.type))).map (·.1)) = some ds → unD t ds = some y → RepCs t w K (cs.drop o) y:=by
    intro t hp h T fuel o fs cs ds y ht hl hf hy
    obtain ⟨f,rfl,rfl,hft⟩:=tie_one hp ht
    rw [List.mapM_cons,List.mapM_nil] at hf
    cases e:DataW.trod enc P w base spare held fuel f.type ((cs.drop f.offset).take (P.cellsOf f.type)) with
    | none=>rw [e] at hf;simp at hf
    | some x =>
      rw [e] at hf
      obtain rfl:[x.1] = ds:=by simpa using hf
      rw [a_H hft,List.take_of_length_le (by rw [List.length_drop];omega)] at e
      exact h _ _ _ _ _ hft e hy
  induction t with
  | int k =>
    have A:∀ (T:TypeId) (fuel:Nat) (cs:List Value) (x:DataW H × List MemPlace) (y:PT (.int k)),tiQ P (.int k) false T [] 0 = true → DataW.trod enc P w base spare held fuel T cs = some x → unD (.int k) [x.1] = some y → RepCs (.int k) w K cs y:=by
      intro T fuel cs x y ht h hy
      obtain ⟨n,rfl,hw,hx⟩:=trodI (a_2 ht) h
      rw [hx,unD,if_pos rfl] at hy
      obtain rfl:=Option.some.inj hy
      exact ⟨rfl,by simpa [Lit.wf,InR] using hw⟩
    exact ⟨A,last (by simp) A⟩
  | bool =>
    have A:∀ (T:TypeId) (fuel:Nat) (cs:List Value) (x:DataW H × List MemPlace) (y:PT .bool),tiQ P .bool false T [] 0 = true → DataW.trod enc P w base spare held fuel T cs = some x → unD .bool [x.1] = some y → RepCs .bool w K cs y:=by
      intro T fuel cs x y ht h hy
      obtain ⟨b,rfl,hx⟩:=trodB (a_5 ht) h
      rw [hx,unD] at hy
      obtain rfl:=Option.some.inj hy
      rfl
    exact ⟨A,last (by simp) A⟩
  | str =>
    have A:∀ (T:TypeId) (fuel:Nat) (cs:List Value) (x:DataW H × List MemPlace) (y:PT .str),tiQ P .str false T [] 0 = true → DataW.trod enc P w base spare held fuel T cs = some x → unD .str [x.1] = some y → RepCs .str w K cs y:=by
      intro T fuel cs x y ht h hy
      obtain ⟨q,rfl,hm,hx⟩:=trodS (a_V ht) h
      rw [hx,unD] at hy
      obtain rfl:=Option.some.inj hy
      refine ⟨?_,fun z hz=>?_,?_⟩
      · obtain ⟨⟨l⟩⟩:=q
        simp [strOfNums,Function.comp_def]
      · obtain ⟨b,_,rfl⟩:=List.mem_map.1 hz
        have:=b.toNat_lt
        omega
      · rw [List.length_map,Array.length_toList]
        have:q.data.size = q.size:=rfl
        unfold maxLen at hm
        omega
    exact ⟨A,last (by simp) A⟩
  | raw =>
    refine ⟨fun T fuel cs x y _ _ hy=>?_,fun T fuel o fs cs ds y _ _ _ hy=>?_⟩
    · simp [unD] at hy
    · simp [unD] at hy
  | sl e ih =>
    refine ⟨fun T fuel cs x y _ _ hy=>?_,fun T fuel o fs cs ds y _ _ _ hy=>?_⟩
    · simp [unD] at hy
    · simp [unD] at hy
  | st f ih =>
    obtain ⟨_,ihB⟩:=ih
    have A:∀ (T:TypeId) (fuel:Nat) (cs:List Value) (x:DataW H × List MemPlace) (y:PT (.st f)),tiQ P (.st f) false T [] 0 = true → DataW.trod enc P w base spare held fuel T cs = some x → unD (.st f) [x.1] = some y → RepCs (.st f) w K cs y:=by
      intro T fuel cs x y ht h hy
      obtain ⟨fs,hfs,htf⟩:=c_e ht
      have hsz:=a_H ht
      cases fuel with
      | zero=>simp [DataW.trod] at h
      | succ fuel =>
        unfold DataW.trod at h
        rw [hfs] at h
        simp only at h
        split at h
        · rename_i hl
          simp only [Option.map_eq_some_iff] at h
          obtain ⟨xs,hx,rfl⟩:=h
          have:=ihB 0 fuel 0 fs.toList cs _ y htf (by rw [hl,hsz,Nat.zero_add]) (e_P hx) hy
          rw [List.drop_zero] at this
          exact this
        · cases h
    exact ⟨A,last (by simp) A⟩
  | pair a b iha ihb =>
    obtain ⟨ihA,_⟩:=iha
    obtain ⟨_,ihB⟩:=ihb
    refine ⟨fun T fuel cs x y ht=>by simp [tiQ] at ht,?_⟩
    intro T fuel o fs cs ds y ht hl hall hy
    match fs,ht,hall with
    | f :: fs,ht,hall =>
      simp only [tiQ,Bool.and_eq_true,beq_iff_eq] at ht
      obtain ⟨⟨ht1,ho⟩,ht2⟩:=ht
      rw [List.mapM_cons] at hall
      simp only [Option.bind_eq_bind,Option.bind_eq_some_iff] at hall
      obtain ⟨d,h1,ds',h2,h3⟩:=hall
      obtain rfl:d :: ds' = ds:=by simpa using h3
      obtain ⟨x,hx,rfl⟩:=Option.map_eq_some_iff.1 h1
      rw [unD] at hy
      simp only [Option.bind_eq_some_iff,Option.map_eq_some_iff] at hy
      obtain ⟨y1,g1,y2,g2,rfl⟩:=hy
      rw [a_H ht1,ho] at hx
      have k1:=ihA _ _ _ _ y1 ht1 hx g1
      have k2:=ihB T fuel (o + a.sz) fs cs ds' y2 ht2 (by rw [hl];show o + (a.sz + b.sz) = _;omega) h2 g2
      refine ⟨(cs.drop o).take a.sz,cs.drop (o + a.sz),?_,k1,k2⟩
      rw [← List.drop_drop,List.take_append_drop]
    | [],ht,_=>simp [tiQ] at ht
  | arr n e ih =>
    obtain ⟨ihA,_⟩:=ih
    have A:∀ (T:TypeId) (fuel:Nat) (cs:List Value) (x:DataW H × List MemPlace) (y:PT (.arr n e)),tiQ P (.arr n e) false T [] 0 = true → DataW.trod enc P w base spare held fuel T cs = some x → unD (.arr n e) [x.1] = some y → RepCs (.arr n e) w K cs y:=by
      intro T fuel cs x y ht h hy
      obtain ⟨E,hE,htE⟩:=b_A ht
      have hsz:=a_H ht
      cases fuel with
      | zero=>simp [DataW.trod] at h
      | succ fuel =>
        unfold DataW.trod at h
        rw [hE] at h
        simp only at h
        split at h
        · rename_i hl
          simp only [Option.map_eq_some_iff] at h
          obtain ⟨xs,hx,rfl⟩:=h
          rw [unD] at hy
          obtain ⟨l1,_⟩:=b_X hx
          obtain ⟨l2,_⟩:=b_X hy
          rw [List.length_range] at l1
          rw [List.length_map] at l2
          rw [hsz] at hl
          refine ⟨by rw [l2,l1],(List.range n).map fun i=>(cs.drop (i * e.sz)).take e.sz,flat_key e.sz n cs hl,by simp,fun j c z hc hz=>?_⟩
          obtain ⟨d,hd,hz2⟩:=e_q hy j z hz
          rw [List.getElem?_map] at hd
          obtain ⟨q,hq,rfl⟩:=Option.map_eq_some_iff.1 hd
          obtain ⟨i,hi,hx2⟩:=e_q hx j q hq
          have hj:j < n:=by
            have:=(List.getElem?_eq_some_iff.1 hi).1
            rw [List.length_range] at this;exact this
          rw [List.getElem?_range hj] at hi
          obtain rfl:=Option.some.inj hi
          rw [List.getElem?_map,List.getElem?_range hj] at hc
          obtain rfl:=Option.some.inj hc
          rw [a_H htE] at hx2
          exact ihA _ _ _ _ z htE hx2 hz2
        · cases h
    exact ⟨A,last (by simp) A⟩
end
theorem Pr.laid {P:Program} {w:World} {n:String} {d:DataW Unit} {g:Nat} {T:TypeId} {t:GT} {K:Nat → Prop} {y:PT t} (h:Lib.VarReads P w n d) (hg:P.globalNamed n = some g) (hT:(P.globals[g]?).map (·.type) = some T) (ht:tiQ P t false T [] 0 = true) (hy:unD t [d] = some y) (hz:0 < t.sz) (hK:K g):Pr t w K ⟨g,0,.none⟩ y:=by
  obtain ⟨g',T',cs,fuel,p,h1,h2,h3,h4⟩:=h
  obtain rfl:=Option.some.inj (hg.symm.trans h1)
  obtain rfl:=Option.some.inj (hT.symm.trans h2)
  have R:=(rep_unD (K:=K) t).1 T fuel cs.toList (d,p) y ht h4 hy
  have hc:∀ (i:Nat) (v:Value),cs.toList[i]? = some v → w.cell? ⟨g,0 + i,.none⟩ = some v:=fun i v hv=>by
    rw [Nat.zero_add,World.var?_cell hg h3 i,← Array.getElem?_toList];exact hv
  refine ⟨⟨rfl,_,R,hc⟩,?_,hK⟩
  have hl:=R.len
  have h0:∃ v,cs.toList[0]? = some v:=⟨cs.toList[0]'(by omega),List.getElem?_eq_getElem (by omega)⟩
  obtain ⟨v,hv⟩:=h0
  exact World.block_lt_of_cell? w _ (hc 0 v hv)
end Go.Proofs.YtlfgpmcohfaabaaGreatDoor
