/- Arguments as plain data: whatever the type's data are. Plain theorems, no condition. -/
import Derived.Test.YtfelbalkobcfhaaXE12
import Derived.WalkKit
import Derived.ProofKit
import Derived.OpenShut
import Derived.ChangeOld
import Derived.Deep.Slices
set_option linter.unusedVariables false
set_option linter.unusedSimpArgs false
namespace Go.Proofs.Ytfelbalkobcfhaa
open Go.RowKit Go.Deep
def d_z:GT → Bool
  | .int _=>true
  | .bool=>true
  | .str=>true
  | .sl e=>Nat.blt 0 e.sz && d_z e
  | .st f=>d_z f
  | .pair a b=>d_z a && d_z b
  | .arr _ e=>d_z e
  | .raw=>false
theorem tie_one {P:Program} {t:GT} (hs:∀ a b,t ≠ .pair a b) {T:TypeId} {fs:List Field} {o:Nat} (h:tie P t true T fs o = true):∃ f,fs = [f] ∧ f.offset = o ∧ tie P t false f.type [] 0 = true:=by
  match fs,h with
  | [],h=>cases t <;> simp [tie] at h
  | [f],h=>cases t <;> simp [tie] at h hs ⊢ <;> exact ⟨h.1.1,h.1.2,h.2⟩
  | f :: g :: r,h=>cases t <;> first | exact absurd rfl (hs _ _) | simp [tie] at h
theorem str_of (s:ByteArray):∃ l:List Int,s = strOfNums l ∧ Byt l ∧ l.length = s.size:=by
  refine ⟨s.data.toList.map fun b=>(b.toNat:Int),?_,fun z hz=>?_,by rw [List.length_map,Array.length_toList];rfl⟩
  · obtain ⟨⟨l⟩⟩:=s
    simp [strOfNums,Function.comp_def]
  · obtain ⟨b,_,rfl⟩:=List.mem_map.1 hz
    have:=b.toNat_lt
    omega
theorem c_X {α β:Type} {f:α → Option β}:∀ {l:List α} {r:List β},l.mapM f = some r → r.length = l.length ∧ ∀ a ∈ l,∃ y,f a = some y
  | [],r,h=>by simp at h;subst h;simp
  | a :: l,r,h=>by
    rw [List.mapM_cons] at h
    simp only [Option.bind_eq_bind,Option.bind_eq_some_iff] at h
    obtain ⟨y,h1,ys,h2,h3⟩:=h
    obtain rfl:y :: ys = r:=by simpa using h3
    obtain ⟨i1,i2⟩:=c_X h2
    refine ⟨by simp [i1],fun b hb=>?_⟩
    rcases List.mem_cons.1 hb with rfl | hb
    · exact ⟨y,h1⟩
    · exact i2 b hb
section
variable {H:Type} {enc:TypeId × Value → H} {P:Program} {w:World} {base:Nat} {spare:Nat → Bool} {held:Bool}
theorem b_6 {α:Type} {p:Nat → α → Prop}:∀ (n:Nat),(∀ i,i < n → ∃ x,p i x) → ∃ l:List α,l.length = n ∧ ∀ (i:Nat) x,l[i]? = some x → p i x
  | 0,_=>⟨[],rfl,fun i x h=>by simp at h⟩
  | n + 1,h=>by
    obtain ⟨l,hl,hp⟩:=b_6 n fun i hi=>h i (by omega)
    obtain ⟨x,hx⟩:=h n (by omega)
    refine ⟨l ++ [x],by simp [hl],fun i y hy=>?_⟩
    by_cases hi:i < l.length
    · rw [List.getElem?_append_left hi] at hy;exact hp i y hy
    · rw [List.getElem?_append_right (by omega)] at hy
      have:i - l.length = 0:=by have:=(List.getElem?_eq_some_iff.1 hy).1;simp at this;omega
      rw [this] at hy
      obtain rfl:x = y:=by simpa using hy
      rwa [show i = n by omega]
theorem a_X {t:GT} {T:TypeId} (h:tie P t false T [] 0 = true):P.cellsOf T = t.sz:=by
  obtain ⟨i,hi,hs⟩:=a_E h
  simp [Program.cellsOf,hi,hs]
theorem trod_int {k:IntKind} {T:TypeId} {fuel:Nat} {cs:List Value} {x:DataW H × List MemPlace} (hu:P.underlying T = some (.int k)) (h:DataW.trod enc P w base spare held fuel T cs = some x):∃ n,cs = [.int k n] ∧ (Lit.int k n).wf = true:=by
  cases fuel with
  | zero=>simp [DataW.trod] at h
  | succ fuel =>
    match cs,h with
    | [],h=>simp [DataW.trod,hu] at h
    | [v],h=>cases v <;> simp [DataW.trod,hu] at h ⊢;exact ⟨_,⟨h.1.1,rfl⟩,h.1.1 ▸ h.1.2⟩
    | _ :: _ :: _,h=>simp [DataW.trod,hu] at h
theorem trod_bool {T:TypeId} {fuel:Nat} {cs:List Value} {x:DataW H × List MemPlace} (hu:P.underlying T = some .bool) (h:DataW.trod enc P w base spare held fuel T cs = some x):∃ b,cs = [.bool b]:=by
  cases fuel with
  | zero=>simp [DataW.trod] at h
  | succ fuel =>
    match cs,h with
    | [],h=>simp [DataW.trod,hu] at h
    | [v],h=>cases v <;> first | exact ⟨_,rfl⟩ | simp [DataW.trod,hu] at h
    | _ :: _ :: _,h=>simp [DataW.trod,hu] at h
theorem trod_str {T:TypeId} {fuel:Nat} {cs:List Value} {x:DataW H × List MemPlace} (hu:P.underlying T = some .string) (h:DataW.trod enc P w base spare held fuel T cs = some x):∃ s,cs = [.string s] ∧ s.size ≤ maxLen:=by
  cases fuel with
  | zero=>simp [DataW.trod] at h
  | succ fuel =>
    match cs,h with
    | [],h=>simp [DataW.trod,hu] at h
    | [v],h=>cases v <;> simp [DataW.trod,hu] at h ⊢;exact h.1
    | _ :: _ :: _,h=>simp [DataW.trod,hu] at h
theorem rep_open:∀ (t:GT),d_z t = true →
    (∀ (T:TypeId) (fuel:Nat) (cs:List Value) (x:DataW H × List MemPlace),tie P t false T [] 0 = true → DataW.trod enc P w base spare held fuel T cs = some x → ∃ y:PT t,RepCs t w (fun _=>True) cs y) ∧
    (∀ (T:TypeId) (fuel o:Nat) (fs:List Field) (cs:List Value),tie P t true T fs o = true → cs.length = o + t.sz → (∀ f ∈ fs,∃ x,DataW.trod enc P w base spare held fuel f.type ((cs.drop f.offset).take (P.cellsOf f.type)) = some x) → ∃ y:PT t,RepCs t w (fun _=>True) (cs.drop o) y):=by
  intro t
  have last:∀ {t:GT},(∀ a b,t ≠ .pair a b) → (∀ (T:TypeId) (fuel:Nat) (cs:List Value) (x:DataW H × List MemPlace),tie P t false T [] 0 = true → DataW.trod enc P w base spare held fuel T cs = some x → ∃ y:PT t,RepCs t w (fun _=>True) cs y) →
      ∀ (T:TypeId) (fuel o:Nat) (fs:List Field) (cs:List Value),tie P t true T fs o = true → cs.length = o + t.sz → (∀ f ∈ fs,∃ x,DataW.trod enc P w base spare held fuel f.type ((cs.drop f.offset).take (P.cellsOf f.type)) = some x) → ∃ y:PT t,RepCs t w (fun _=>True) (cs.drop o) y:=by
    intro t hp h T fuel o fs cs ht hl hf
    obtain ⟨f,rfl,rfl,hft⟩:=tie_one hp ht
    obtain ⟨x,hx⟩:=hf f (by simp)
    rw [a_X hft,List.take_of_length_le (by rw [List.length_drop];omega)] at hx
    exact h _ _ _ _ hft hx
  induction t with
  | int k =>
    intro _
    have A:∀ (T:TypeId) (fuel:Nat) (cs:List Value) (x:DataW H × List MemPlace),tie P (.int k) false T [] 0 = true → DataW.trod enc P w base spare held fuel T cs = some x → ∃ y:PT (.int k),RepCs (.int k) w (fun _=>True) cs y:=by
      intro T fuel cs x ht h
      obtain ⟨n,rfl,hw⟩:=trod_int (b_e ht) h
      exact ⟨n,rfl,by simpa [Lit.wf,InR] using hw⟩
    exact ⟨A,last (by simp) A⟩
  | bool =>
    intro _
    have A:∀ (T:TypeId) (fuel:Nat) (cs:List Value) (x:DataW H × List MemPlace),tie P .bool false T [] 0 = true → DataW.trod enc P w base spare held fuel T cs = some x → ∃ y:PT .bool,RepCs .bool w (fun _=>True) cs y:=by
      intro T fuel cs x ht h
      obtain ⟨b,rfl⟩:=trod_bool (b_A ht) h
      exact ⟨b,rfl⟩
    exact ⟨A,last (by simp) A⟩
  | str =>
    intro _
    have A:∀ (T:TypeId) (fuel:Nat) (cs:List Value) (x:DataW H × List MemPlace),tie P .str false T [] 0 = true → DataW.trod enc P w base spare held fuel T cs = some x → ∃ y:PT .str,RepCs .str w (fun _=>True) cs y:=by
      intro T fuel cs x ht h
      obtain ⟨q,rfl,hm⟩:=trod_str (c_r ht) h
      obtain ⟨l,rfl,hB,hl⟩:=str_of q
      exact ⟨l,rfl,hB,by unfold maxLen at hm;omega⟩
    exact ⟨A,last (by simp) A⟩
  | raw=>intro hr;simp [d_z] at hr
  | sl e ih =>
    intro hr
    obtain ⟨hz,hre⟩:=Bool.and_eq_true_iff.1 hr
    have hz:0 < e.sz:=Nat.blt_eq ▸ hz
    obtain ⟨ihA,_⟩:=ih hre
    have A:∀ (T:TypeId) (fuel:Nat) (cs:List Value) (x:DataW H × List MemPlace),tie P (.sl e) false T [] 0 = true → DataW.trod enc P w base spare held fuel T cs = some x → ∃ y:PT (.sl e),RepCs (.sl e) w (fun _=>True) cs y:=by
      intro T fuel cs x ht h
      obtain ⟨E,hE,htE⟩:=b_b ht
      rcases open_slice hE h with ⟨rfl,_⟩ | ⟨a,len,cap,m,n,D,Pl,rfl,hb,hl,hm,hmm,_,hel⟩
      · exact ⟨⟨[],.none⟩,.none,0,0,rfl,rfl,Nat.le_refl _,by decide,(fun k h=>by cases h),.inl rfl⟩
      · have hlm:len ≤ m:=by rw [hmm];split <;> omega
        obtain ⟨ys,hys,hp⟩:=b_6 (α:=PT e) (p:=fun i y=>∃ cs',w.cells? base (a.add (i * P.cellsOf E)) (P.cellsOf E) = some cs' ∧ RepCs e w (fun _=>True) cs' y) len fun i hi=>by
          obtain ⟨cs',h1,h2⟩:=hel i (by omega)
          obtain ⟨y,hy⟩:=ihA _ _ _ _ htE h2
          exact ⟨y,cs',h1,hy⟩
        refine ⟨⟨ys,.none⟩,some a,len,cap,rfl,hys,hl,by unfold maxLen at hm;omega,(fun k h=>by cases h),?_⟩
        rcases Nat.eq_zero_or_pos len with h0 | h0
        · exact .inl (List.eq_nil_of_length_eq_zero (hys.trans h0))
        · obtain ⟨b,off,spot⟩:=a
          have hfirst:∃ v,w.cell? (Addr.add ⟨b,off,spot⟩ 0) = some v:=by
            obtain ⟨cs',h1,_⟩:=hel 0 (by omega)
            obtain ⟨_,hlen,hc⟩:=World.cells?_some h1
            rw [a_X htE] at hlen
            have hcl:0 < cs'.length:=by omega
            refine ⟨cs'[0],?_⟩
            have h3:=hc 0 (by rw [a_X htE];omega)
            simp [Addr.add] at h3 ⊢
            rw [h3]
            simp [List.getElem?_eq_getElem hcl]
          obtain ⟨v0,hv0⟩:=hfirst
          have hspot:spot = none:=by simpa [Addr.add] using World.cell?_spot hv0
          subst hspot
          refine .inr ⟨b,off,rfl,?_,trivial,fun j y hj=>?_⟩
          · rw [Addr.add_lit] at hv0
            exact World.block_lt_of_cell? w _ hv0
          · obtain ⟨cs',h1,h2⟩:=hp j y hj
            obtain ⟨_,hlen,hc⟩:=World.cells?_some h1
            rw [a_X htE] at hlen hc
            refine ⟨cs',h2,hlen,fun i v hv=>?_⟩
            have hi:=(List.getElem?_eq_some_iff.1 hv).1
            have:=hc i (by omega)
            rw [Addr.add_lit,Addr.add_lit] at this
            rw [this]
            exact hv
    exact ⟨A,last (by simp) A⟩
  | st f ih =>
    intro hr
    obtain ⟨_,ihB⟩:=ih hr
    have A:∀ (T:TypeId) (fuel:Nat) (cs:List Value) (x:DataW H × List MemPlace),tie P (.st f) false T [] 0 = true → DataW.trod enc P w base spare held fuel T cs = some x → ∃ y:PT (.st f),RepCs (.st f) w (fun _=>True) cs y:=by
      intro T fuel cs x ht h
      obtain ⟨fs,hfs,htf⟩:=d_r ht
      have hsz:=a_X ht
      cases fuel with
      | zero=>simp [DataW.trod] at h
      | succ fuel =>
        unfold DataW.trod at h
        rw [hfs] at h
        simp only at h
        split at h
        · rename_i hl
          simp only [Option.map_eq_some_iff] at h
          obtain ⟨xs,hx,_⟩:=h
          obtain ⟨_,hall⟩:=c_X hx
          have:=ihB 0 fuel 0 fs.toList cs htf (by rw [hl,hsz,Nat.zero_add]) hall
          rw [List.drop_zero] at this
          exact this
        · cases h
    exact ⟨A,last (by simp) A⟩
  | pair a b iha ihb =>
    intro hr
    obtain ⟨hra,hrb⟩:=Bool.and_eq_true_iff.1 hr
    obtain ⟨ihA,_⟩:=iha hra
    obtain ⟨_,ihB⟩:=ihb hrb
    refine ⟨fun T fuel cs x ht=>by simp [tie] at ht,?_⟩
    intro T fuel o fs cs ht hl hall
    match fs,ht,hall with
    | f :: fs,ht,hall =>
      simp only [tie,Bool.and_eq_true,beq_iff_eq] at ht
      obtain ⟨⟨ht1,ho⟩,ht2⟩:=ht
      obtain ⟨x,hx⟩:=hall f (by simp)
      rw [a_X ht1,ho] at hx
      obtain ⟨y1,h1⟩:=ihA _ _ _ _ ht1 hx
      obtain ⟨y2,h2⟩:=ihB T fuel (o + a.sz) fs cs ht2 (by rw [hl];show o + (a.sz + b.sz) = _;omega) fun g hg=>hall g (by simp [hg])
      refine ⟨(y1,y2),(cs.drop o).take a.sz,cs.drop (o + a.sz),?_,h1,h2⟩
      rw [← List.drop_drop,List.take_append_drop]
    | [],ht,_=>simp [tie] at ht
  | arr n e ih =>
    intro hr
    obtain ⟨ihA,_⟩:=ih hr
    have A:∀ (T:TypeId) (fuel:Nat) (cs:List Value) (x:DataW H × List MemPlace),tie P (.arr n e) false T [] 0 = true → DataW.trod enc P w base spare held fuel T cs = some x → ∃ y:PT (.arr n e),RepCs (.arr n e) w (fun _=>True) cs y:=by
      intro T fuel cs x ht h
      obtain ⟨E,hE,htE⟩:=b_8 ht
      have hsz:=a_X ht
      cases fuel with
      | zero=>simp [DataW.trod] at h
      | succ fuel =>
        unfold DataW.trod at h
        rw [hE] at h
        simp only at h
        split at h
        · rename_i hl
          simp only [Option.map_eq_some_iff] at h
          obtain ⟨xs,hx,_⟩:=h
          obtain ⟨_,hall⟩:=c_X hx
          rw [a_X htE] at hall
          obtain ⟨ys,hys,hp⟩:=b_6 (α:=PT e) (p:=fun i y=>RepCs e w (fun _=>True) ((cs.drop (i * e.sz)).take e.sz) y) n fun i hi=>by
            obtain ⟨x,hx⟩:=hall i (by simp [hi])
            exact ihA _ _ _ _ htE hx
          refine ⟨ys,hys,(List.range n).map fun i=>(cs.drop (i * e.sz)).take e.sz,?_,by simp,fun j c y hc hy=>?_⟩
          · rw [hsz] at hl
            have key:∀ (n:Nat) (cs:List Value),cs.length = n * e.sz → cs = ((List.range n).map fun i=>(cs.drop (i * e.sz)).take e.sz).flatten:=by
              intro n
              induction n with
              | zero=>intro cs hcs;simp at hcs;simp [hcs]
              | succ n ih =>
                intro cs hcs
                rw [List.range_succ_eq_map,List.map_cons,List.flatten_cons,List.map_map]
                have h1:=ih (cs.drop e.sz) (by rw [List.length_drop,hcs,Nat.add_mul];omega)
                have h2:((fun i=>(cs.drop (i * e.sz)).take e.sz) ∘ Nat.succ) = fun i=>((cs.drop e.sz).drop (i * e.sz)).take e.sz:=by
                  funext i
                  simp only [Function.comp_apply,List.drop_drop,Nat.succ_eq_add_one,Nat.add_mul,Nat.one_mul]
                  rw [Nat.add_comm]
                rw [h2,← h1]
                simp
            exact key n cs hl
          · rw [List.getElem?_map] at hc
            have hj:=(List.getElem?_eq_some_iff.1 hy).1
            rw [List.getElem?_range (by omega)] at hc
            obtain rfl:=Option.some.inj hc
            exact hp j y hy
        · cases h
    exact ⟨A,last (by simp) A⟩
theorem rep_arg {t:GT} {T:TypeId} {r:Reach} {b0:Nat} {v:Value} {d:DataW H} {p:List MemPlace} (ht:tie P t false T [] 0 = true) (hr:d_z t = true) (hv:Value.okWide P w r b0 T v) (h:DataW.Trod enc P w base spare held T v d p):∃ x:PT t,RepV t w (fun _=>True) v x:=by
  obtain ⟨fuel,hf⟩:=h
  obtain ⟨y,hy⟩:=(rep_open (enc:=enc) (P:=P) (w:=w) (base:=base) (spare:=spare) (held:=held) t hr).1 T fuel _ _ ht hf
  refine ⟨y,_,hy,?_⟩
  cases t with
  | st f =>
    obtain ⟨fs,hfs,_⟩:=d_r ht
    simp only [Value.okWide,hfs] at hv
    obtain ⟨cs,rfl,_⟩:=hv
    simp [Value.cells]
  | arr n e =>
    obtain ⟨E,hE,_⟩:=b_8 ht
    simp only [Value.okWide,hE] at hv
    obtain ⟨cs,rfl,_⟩:=hv
    simp [Value.cells]
  | int k =>
    simp only [Value.okWide,b_e ht] at hv
    cases v <;> simp_all [Value.cells,Cell.okWide,Cell.ok]
  | bool =>
    simp only [Value.okWide,b_A ht] at hv
    cases v <;> simp_all [Value.cells,Cell.okWide,Cell.ok]
  | str =>
    simp only [Value.okWide,c_r ht] at hv
    cases v <;> simp_all [Value.cells,Cell.okWide,Cell.ok]
  | sl e =>
    obtain ⟨E,hE,_⟩:=b_b ht
    obtain ⟨a,l,c,rfl⟩:=Go.WideShapes.okWide_slice hE hv
    simp [Value.cells]
  | raw=>simp [d_z] at hr
  | pair a b=>simp [tie] at ht
end
end Go.Proofs.Ytfelbalkobcfhaa
