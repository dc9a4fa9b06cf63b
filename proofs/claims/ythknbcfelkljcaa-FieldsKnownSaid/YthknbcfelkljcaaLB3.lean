/- The rules of the walk over plain data. Plain theorems, no condition. -/
import Derived.Test.YthknbcfelkljcaaLB2
import Derived.LoopN
set_option linter.unusedVariables false
set_option linter.unusedSimpArgs false
namespace Go.Proofs.Ythknbcfelkljcaa
open Go.RowKit Go.ChangeShapes
namespace Ro
def valB:Op → Bool
  | .move _ | .assign _ | .pick _ _ _ | .load _ _ | .binOp _ _ _ _ _ | .unOp _ _ _ | .convert _ _ _ | .slice _ _ _ _ _ | .fieldAddr _ _ _ | .field _ _ _ | .indexAddr _ _ _ | .index _ _ _ | .extract _ _=>true
  | .call c=>match c.callee with
    | .builtin .len | .builtin .cap | .builtin .min | .builtin .max=>true
    | _=>false
  | _=>false
theorem vrun {P:Program} {m:Sem Value} {w w1:World} {n:Next} (hr:(m >>= fun v=>(Pure.pure (Next.value v):Sem Next)).run P w = .ok n w1):∃ v,n = .value v:=by
  rw [Sem.run_bind] at hr
  cases hq:m.run P w with
  | ok v w2 =>
    rw [hq] at hr
    exact ⟨v,by
      have:(Result.ok (Next.value v) w2:Result Next) = .ok n w1:=hr
      injection this with h1 _;exact h1.symm⟩
  | halt x w2=>rw [hq] at hr;cases hr
theorem val_run {P:Program} {o:Oper} {ρ:Operand → Value} (h:valB o.op = true) {w w1:World} {n:Next} (hr:(execOp ρ o).run P w = .ok n w1):∃ v,n = .value v:=by
  unfold execOp at hr
  cases hop:o.op <;> rw [hop] at h <;> first | (exfalso;simp [valB] at h;done) | skip
  case call c =>
    rw [hop] at hr
    simp only [valB] at h
    cases hc:c.callee <;> rw [hc] at h <;> first | (exfalso;simp at h;done) | skip
    rename_i b
    cases b <;> first | (exfalso;simp at h;done) | skip
    all_goals
      simp only [resolve,hc,pure_bind,invoke,builtin] at hr
      exact vrun hr
  case pick c x y =>
    rw [hop] at hr
    simp only at hr
    rw [Sem.run_bind] at hr
    cases hq:(asBool (ρ c)).run P w with
    | ok v w2 =>
      rw [hq] at hr
      have:(Result.ok (Next.value (if v then ρ x else ρ y)) w2:Result Next) = .ok n w1:=hr
      injection this with h1 _
      exact ⟨_,h1.symm⟩
    | halt x w2=>rw [hq] at hr;cases hr
  case move x =>
    rw [hop] at hr
    have:(Result.ok (Next.value (ρ x)) w:Result Next) = .ok n w1:=hr
    injection this with h1 _
    exact ⟨_,h1.symm⟩
  case assign x =>
    rw [hop] at hr
    have:(Result.ok (Next.value (ρ x)) w:Result Next) = .ok n w1:=hr
    injection this with h1 _
    exact ⟨_,h1.symm⟩
  all_goals
    rw [hop] at hr
    exact vrun hr
def RL (P:Program) (ops:Array Oper):List Oper → (Act → World → Prop) → World → Act → World → Prop
  | [],K,w0,a,w=>w = w0 ∧ K a w
  | o :: rest,K,w0,a,w=>w = w0 ∧ ((Region.wanted o (yielded ops a.tmps) = true ∧ o.wp P a w (RL P ops rest K w0) (fun _ _ _=>False)) ∨ (Region.wanted o (yielded ops a.tmps) = false ∧ RL P ops rest K w0 (a.put o.dst undef) w))
section
variable {ds:List Deferred} {N:Nat} {a:Act} {l0 l1:List (Nat × Value)} {w w0:World} {P:Program} {ops:Array Oper} {l:List Oper} {Q:Exit → Act → World → Prop} {o:Oper} {m k i:Nat} {D:List Nat} {K:Act → World → Prop} {rest:List Oper}
theorem RL.wld:∀ {l:List Oper},RL P ops l K w0 a w → w = w0
  | [],h=>h.1
  | _ :: _,h=>h.1
theorem wpList_nil (h:K a w):RL P ops [] K w a w:=⟨rfl,h⟩
theorem w_go (S:StD ds N a l0) (hg:gOk ops l0 o = some true) (h:o.wp P a w (RL P ops rest K w) (fun _ _ _=>False)):RL P ops (o :: rest) K w a w:=⟨rfl,.inl ⟨gOk.wanted S hg,h⟩⟩
theorem c_m (S:StD ds N a l0) (hg:gOk ops l0 o = some false) (h:RL P ops rest K w (a.put o.dst undef) w):RL P ops (o :: rest) K w a w:=⟨rfl,.inr ⟨gOk.wanted S hg,h⟩⟩
theorem a_Y (tys:List (TypeId × GT)) (ht:tysOk P tys = true):∀ (l1:List Oper) {l2:List Oper} {a:Act} {l l':List (Nat × Value)},StD ds N a l → a_u tys ops N l1 l = some l' → (∀ a',StD ds N a' l' → RL P ops l2 K w a' w) → RL P ops (l1 ++ l2) K w a w
  | [],l2,a,l,l',S,h,k=>by
    simp only [a_u,Option.some.injEq] at h
    subst h
    exact k a S
  | o :: l1,l2,a,l,l',S,h,k=>by
    unfold a_u at h
    split at h
    · rename_i d hg hd
      split at h
      · rename_i v hv
        split at h
        · rename_i hN
          exact w_go S hg (a_F S hd hN (c_C S o tys ht hv) fun a' S'=>a_Y tys ht l1 S' h k)
        · cases h
      · cases h
    · rename_i d hg hd
      split at h
      · rename_i hN
        refine c_m S hg ?_
        rw [hd]
        exact a_Y tys ht l1 (S.put (by simpa [Nat.blt_eq] using hN) undef) h k
      · cases h
    · rename_i hg hd
      refine c_m S hg ?_
      rw [hd]
      exact a_Y tys ht l1 S h k
    · cases h
theorem a_E (S:StD ds N a l1) (tys:List (TypeId × GT)) (ht:tysOk P tys = true) (m:Nat) {l0:List Oper} {l':List (Nat × Value)} (h:a_u tys ops N (l0.take m) l1 = some l')
    (k:∀ a',StD ds N a' l' → RL P ops (l0.drop m) K w a' w):RL P ops l0 K w a w:=by
  rw [← List.take_append_drop m l0]
  exact a_Y tys ht _ S h k
theorem app:∀ (l1:List Oper) {l2:List Oper} {M:Act → World → Prop} {a:Act} {w:World},RL P ops l1 M w0 a w → (∀ a' w',M a' w' → w' = w0 → RL P ops l2 K w0 a' w') → RL P ops (l1 ++ l2) K w0 a w
  | [],l2,M,a,w,h,k=>k a w h.2 h.1
  | o :: l1,l2,M,a,w,h,k=>by
    obtain ⟨e,h⟩:=h
    refine ⟨e,h.imp (fun q=>⟨q.1,Oper.wp_mono (fun a' w' h'=>app l1 h' k) q.2⟩) (fun q=>⟨q.1,app l1 q.2 k⟩)⟩
theorem seg (m:Nat) (M:Act → World → Prop) {l0:List Oper} (h1:RL P ops (l0.take m) M w a w) (h2:∀ a' w',M a' w' → RL P ops (l0.drop m) K w a' w):RL P ops l0 K w a w:=by
  rw [← List.take_append_drop m l0]
  exact app _ h1 fun a' w' h e=>by subst e;exact h2 a' w' h
theorem fm_range {α:Type}:∀ l:List α,(List.range l.length).filterMap (fun i=>l[i]?) = l
  | []=>rfl
  | x :: l=>by
    rw [List.length_cons,List.range_succ_eq_map,List.filterMap_cons_some (show (x :: l)[0]? = some x from rfl),List.filterMap_map]
    exact congrArg (x :: ·) (fm_range l)
theorem any_ (hs:Region.noSelect l.toArray = true) (hv:l.all (fun o=>valB o.op) = true) (hQ:PanicOk Q):∀ (is:List Nat) {D:List Nat} {a:Act},a_R l m D is = true → Region.ready .any l.toArray (a_v m (is.reverse ++ D)) = [] →
    RL P l.toArray (is.filterMap (l[·]?)) (fun a w=>Q .normal a w) w0 a w0 → wpAnyH P .any l.toArray Q (· = w0) is.length (a_v m D) a w0
  | [],D,a,_,he,h=>⟨he,h.2⟩
  | i :: is,D,a,hc,he,h=>by
    simp only [a_R,Bool.and_eq_true] at hc
    obtain ⟨⟨hf,hr⟩,hc⟩:=hc
    have hi:i ∈ Region.ready .any l.toArray (a_v m D):=by simpa using hr
    obtain ⟨_,o,ho,_⟩:=mem_ready.1 hi
    have ho':l[i]? = some o:=by simpa using ho
    rw [List.filterMap_cons_some ho'] at h
    have he':Region.ready .any l.toArray (a_v m (is.reverse ++ (i :: D))) = []:=by simpa using he
    have fin:∀ v,YieldsIf P l.toArray (· = w0) o v a → RL P l.toArray (is.filterMap (l[·]?)) (fun a w=>Q .normal a w) w0 (a.put o.dst v) w0 → wpAnyH P .any l.toArray Q (· = w0) (is.length + 1) (a_v m D) a w0:=fun v hy h' =>
      wpAnyH_first ho (Region.noSelect_spec hs) (fun c a w=>hQ.put c o.dst v a w) is.length (a_v m D) a w0 (Region.free_spec ho hf) hi hy rfl (any_ hs hv hQ is hc he' h')
    rcases h.2 with ⟨hw,h1⟩ | ⟨hw,h1⟩
    · unfold Oper.wp at h1
      cases hrun:(execOp a.eval o).run P w0 with
      | halt x w' =>
        rw [hrun] at h1
        cases x <;> simp only [Oper.upon] at h1
      | ok n w' =>
        obtain ⟨v,rfl⟩:=val_run (List.all_eq_true.1 hv o (List.mem_of_getElem? ho')) hrun
        rw [hrun] at h1
        simp only [Oper.upon] at h1
        have e:=h1.wld
        subst e
        exact fin v (.inl ⟨hw,fun w hw'=>by rw [hw'];exact hrun⟩) h1
    · exact fin undef (.inr ⟨hw,rfl⟩) h1
def roB (l:List Oper) (m:Nat):Bool:=Region.noSelect l.toArray && l.all (fun o=>valB o.op) && a_R l m [] (List.range m) && (Region.ready .any l.toArray (a_v m ((List.range m).reverse ++ []))).isEmpty && Nat.beq l.length m
theorem any (hc:roB l m = true) (hQ:PanicOk Q) (h:RL P l.toArray l (fun a w=>Q .normal a w) w a w):wpAny P .any l.toArray Q m (a_v m []) a w:=by
  simp only [roB,Bool.and_eq_true] at hc
  obtain ⟨⟨⟨⟨h1,h2⟩,h3⟩,h4⟩,h5⟩:=hc
  have hl:l.length = m:=Nat.eq_of_beq_eq_true h5
  have e:(List.range m).filterMap (l[·]?) = l:=by rw [← hl];exact fm_range l
  have:=any_ (P:=P) (w0:=w) (a:=a) h1 h2 hQ (List.range m) h3 (List.isEmpty_iff.1 h4) (by rw [e];exact h)
  rw [List.length_range] at this
  exact wpAny_of_held _ _ _ _ this
end
end Ro
section
variable {a:Act} {w:World} {P:Program} {l:List Oper} {Q:Exit → Act → World → Prop}
theorem a_Q {id:Nat} (m:Nat) (hm:P.follows .mixedOrders = true) (hc:Ro.roB l m = true) (hQ:PanicOk Q) (h:∀ w',Below w.heap.size w w' → Ro.RL P l.toArray l (fun a w=>Q .normal a w) w' a w'):(Code.region id l.toArray true).wp P Q a w:=by
  have hl:l.length = m:=by simp only [Ro.roB,Bool.and_eq_true] at hc;exact Nat.eq_of_beq_eq_true hc.2
  exact b_P m hm hl hQ fun w' hb hq=>Ro.any hc hq (h w' hb)
end
end Go.Proofs.Ythknbcfelkljcaa
namespace Go.Proofs.Ythknbcfelkljcaa
open Go.RowKit
theorem RepV.rawV {w:World} {K:Nat → Prop} {v:Value} (h:v.oneCell' = true):RepV .raw w K v v:=⟨[v],⟨rfl,h⟩,rfl⟩
theorem a_4 {P:Program} {c:Code} {Q:Exit → Act → World → Prop} {n:Nat} {a:Act} {w:World} (h:c.wp P (Exit.then (Code.rounds P c Q n) Q) a w):Code.rounds P c Q (n + 1) a w:=h
theorem run_part {P:Program} {w W:World} {K:Nat → Prop} {T:TypeId} {t:GT} {x:PT t} {c c1 c2:List Value} (ht:tie P t false T [] 0 = true) (h1:RepCs t W K c x) :
    (part T (c1 ++ (c ++ c2)).toArray c1.length).run P w = .ok (if t.agg then .agg c.toArray else c.headD undef) w:=by
  obtain ⟨i,hi,hsz⟩:=a_G ht
  have hl:=h1.len
  have one:t.agg = false → (∀ d,P.underlying T = some d → (match d with | .struct _ | .array _ _=>true | _=>false) = false) → P.underlying T ≠ .none → t.sz = 1 → (part T (c1 ++ (c ++ c2)).toArray c1.length).run P w = .ok (if t.agg then .agg c.toArray else c.headD undef) w:=by
    intro hagg hd hne h1z
    rw [h1z] at hl
    match c,hl with
    | [u],_ =>
      cases hu:P.underlying T with
      | none=>exact absurd hu hne
      | some d =>
        have:=hd d hu
        rw [if_neg (by simp [hagg])]
        cases d <;> simp at this <;> simp [part,isAgg,run_underlying hu]
  have ext:((c1 ++ (c ++ c2)).toArray.extract c1.length (c1.length + t.sz)) = c.toArray:=by
    rw [← hl]
    simp
  cases t with
  | int k=>exact one rfl (fun d hd=>by rw [b_g ht] at hd;cases hd;rfl) (by rw [b_g ht];simp) rfl
  | bool=>exact one rfl (fun d hd=>by rw [b_p ht] at hd;cases hd;rfl) (by rw [b_p ht];simp) rfl
  | str=>exact one rfl (fun d hd=>by rw [b_I ht] at hd;cases hd;rfl) (by rw [b_I ht];simp) rfl
  | sl e=>obtain ⟨E,hE,_⟩:=b_i ht;exact one rfl (fun d hd=>by rw [hE] at hd;cases hd;rfl) (by rw [hE];simp) rfl
  | raw=>obtain ⟨d0,hE,hd0⟩:=d_t ht;exact one rfl (fun d hd=>by rw [hE] at hd;cases hd;exact hd0) (by rw [hE];simp) rfl
  | pair a b=>simp [tie] at ht
  | st f =>
    obtain ⟨fs,hfs,_⟩:=c_y ht
    rw [if_pos rfl]
    have ext':((c1 ++ (c ++ c2)).toArray.extract c1.length (c1.length + i.size)) = c.toArray:=by rw [hsz];exact ext
    simp only [part,isAgg,Sem.run_bind,run_underlying hfs,Result.andThen_ok,Sem.run_pure,if_pos,sizeOf,typeInfo,run_program,hi,ext']
  | arr m e =>
    obtain ⟨E,hE,_⟩:=c_g ht
    rw [if_pos rfl]
    have ext':((c1 ++ (c ++ c2)).toArray.extract c1.length (c1.length + i.size)) = c.toArray:=by rw [hsz];exact ext
    simp only [part,isAgg,Sem.run_bind,run_underlying hE,Result.andThen_ok,Sem.run_pure,if_pos,sizeOf,typeInfo,run_program,hi,ext']
section
variable {ds:List Deferred} {N:Nat} {a:Act} {l:List (Nat × Value)} {w w0:World} {P:Program} {ops:Array Oper} {Q:Exit → Act → World → Prop} {rest:List Oper} {o:Oper} {Kont:Act → World → Prop} {d:Nat} {K:Nat → Prop} {n:Nat} {L:List (Option Nat)}
theorem c_k (S:StD ds N a l) {T:TypeId} {x i:Operand} {m:Nat} {e:GT} {v:Value} {xs:List (PT e)} {k0:IntKind} {j:Int} {y:PT e} (ho:o.op = .index T x i) (ht:tie P (.arr m e) false T [] 0 = true) (hd:o.dst = some d) (hN:Nat.blt d N = true) (hx:ev l x = some v) (R:RepV (.arr m e) w K v xs)
    (hi:ev l i = some (.int k0 j)) (hj:idx xs j = some y) (k:∀ a' u,RepV e w K u y → StD ds N a' ((d,u) :: l) → Kont a' w):o.wp P a w Kont Q:=by
  obtain ⟨E,hE,hte⟩:=c_g ht
  obtain ⟨ie,hie,hse⟩:=a_G hte
  obtain ⟨cs,hr,rfl⟩:=R
  obtain ⟨h0,hg,hlt⟩:=b_a hj
  have hjl:j.toNat < xs.length:=by omega
  have hm:j.toNat < m:=by have:=hr.1;omega
  obtain ⟨c1,c,c2,rfl,hl1,hrep,_⟩:=Ln.arr (n:=m) hm y w K cs xs hr
  have hy:RepCs e w K c y:=by
    have hrep':RepCs e w K c (xs.getD j.toNat y):=hrep
    have e0:xs.getD j.toNat y = y:=by simp [List.getD,hg]
    rwa [e0] at hrep'
  have hp:=run_part (P:=P) (w:=w) (c1:=c1) (c2:=c2) hte hy
  refine a_F S (v:=if e.agg then .agg c.toArray else c.headD undef) hd hN ?_ fun a'=>k a' _ ⟨c,hy,rfl⟩
  rw [if_pos (show (GT.arr m e).agg = true from rfl)] at hx
  have hlen:(0 ≤ j ∧ j < (m:Int)):=by omega
  rw [hl1,← List.append_assoc] at hp
  simp only [execOp,ho,S.eval hx,S.eval hi,Instr.index,asIntOf,Sem.run_bind,Sem.run_pure,Result.andThen_ok,run_underlying hE,if_pos hlen,sizeOf,typeInfo,run_program,hie,hse,hp]
end
end Go.Proofs.Ythknbcfelkljcaa
namespace Go.Proofs.Ythknbcfelkljcaa
open Go.RowKit
structure SbX (w0:World) (X:List (Option Nat)) (w:World):Prop where
  size:w0.heap.size ≤ w.heap.size
  block:∀ k,k < w0.heap.size → some k ∉ X → w.heap[k]? = w0.heap[k]?
theorem SbX.refl (w:World) (X:List (Option Nat)):SbX w X w:=⟨Nat.le_refl _,fun _ _ _=>rfl⟩
theorem SbX.step {w0 w w':World} {X:List (Option Nat)} (h:SbX w0 X w) (hb:Below w.heap.size w w'):SbX w0 X w' :=
  ⟨Nat.le_trans h.size hb.size,fun k hk hx=>(hb.block k (Nat.lt_of_lt_of_le hk h.size)).trans (h.block k hk hx)⟩
theorem SbX.apd {w0 w w':World} {X:List (Option Nat)} {v v':Value} (h:SbX w0 X w) (A:Apd w w' v v') (hg:∀ c,v.ownBlock = some c → w0.heap.size ≤ c ∨ some c ∈ X):SbX w0 X w' :=
  ⟨Nat.le_trans h.size A.grown.size,fun k hk hx=>(A.grown.block k (Nat.lt_of_lt_of_le hk h.size) fun e=>by
    rcases hg k e.symm with q | q
    · omega
    · exact hx q).trans (h.block k hk hx)⟩
theorem SbX.wrote {w0 w w':World} {X:List (Option Nat)} {b:Nat} (h:SbX w0 X w) (hw:Wrote b w w') (hg:w0.heap.size ≤ b ∨ some b ∈ X):SbX w0 X w' :=
  ⟨Nat.le_trans h.size (Nat.le_of_eq hw.size.symm),fun k hk hx=>(hw.block k fun e=>by
    rcases hg with q | q
    · omega
    · exact hx (e ▸ q)).trans (h.block k hk hx)⟩
theorem Apd.geX {n:Nat} {w w':World} {X:List (Option Nat)} {v v':Value} (A:Apd w w' v v') (hg:∀ c,v.ownBlock = some c → n ≤ c ∨ some c ∈ X) (hn:n ≤ w.heap.size):∀ c,v'.ownBlock = some c → n ≤ c ∨ some c ∈ X:=fun c hc=>by
  rcases A.at_ with e | e
  · exact hg c (e ▸ hc)
  · rw [e] at hc;obtain rfl:=Option.some.inj hc;exact .inl hn
theorem notX {x y:Option Nat} {X:List (Option Nat)} (h:x ≠ y) (t:x ∉ X):x ∉ y :: X:=fun hm=>by
  rcases List.mem_cons.1 hm with e | e
  · exact h e
  · exact t e
theorem SbX.cell {w w':World} {X:List (Option Nat)} (h:SbX w X w') {p:Addr} (hp:p.block < w.heap.size) (hx:some p.block ∉ X):w'.cell? p = w.cell? p :=
  World.cell?_of_block (h.block p.block hp hx)
section
variable {ds:List Deferred} {N:Nat} {a:Act} {l0 l1:List (Nat × Value)} {w:World} {S0:World → Prop} {P:Program} {l:List Oper} {Q:Exit → Act → World → Prop} {o:Oper} {m k i:Nat} {D:List Nat}
theorem b_7 {id:Nat} (m:Nat) (X:List (Option Nat)) (hm:P.follows .mixedOrders = true) (hl:l.length = m) (hQ:PanicOk Q) (h:∀ w',Below w.heap.size w w' → PanicOk Q → AnH P l Q m (SbX w' X) m [] a w'):(Code.region id l.toArray true).wp P Q a w:=by
  subst hl
  refine wp_region_any hm (wpAny_of_held (S:=SbX { w with drawn:=w.drawn + 1 } X) _ _ _ _ ?_)
  have:=h { w with drawn:=w.drawn + 1 } ⟨rfl,rfl,rfl,Nat.le_refl _,fun _ _=>rfl⟩ hQ
  simpa [AnH,a_v] using this
namespace R
end R
theorem c_t {X:List (Option Nat)} {t:GT} {T:TypeId} {ad:Operand} {d:Nat} {p:Addr} {x:PT t} {K:Nat → Prop} (hs:Region.noSelect l.toArray = true) (hQ:PanicOk Q) (hc:a_R l m D [i] = true) (ho:l[i]? = some o) (S:StD ds N a l0) (hg:gOk l.toArray l0 o = some true)
    (hop:o.op = .load T ad) (ht:tie P t false T [] 0 = true) (hd:o.dst = some d) (hN:Nat.blt d N = true) (ha:ev l0 ad = some (.pointer (some p))) (hA:RepAt t w K p x) (hb:p.block < w.heap.size) (hx:some p.block ∉ X)
    (kk:∀ a' v,RepV t w K v x → StD ds N a' ((d,v) :: l0) → AnH P l Q m (SbX w X) k (i :: D) a' w):AnH P l Q m (SbX w X) (k + 1) D a w:=by
  simp only [a_R,Bool.and_eq_true] at hc
  obtain ⟨⟨hf,hr⟩,_⟩:=hc
  have hi:i ∈ Region.ready .any l.toArray (a_v m D):=by simpa using hr
  have ho':l.toArray[i]? = some o:=by simpa using ho
  obtain ⟨h0,cs,hR,hcell⟩:=hA
  have hv:∀ w',SbX w X w' → (execOp a.eval o).run P w' = .ok (.value (if t.agg then .agg cs.toArray else cs.headD undef)) w':=fun w' hw'=>by
    have:=b_H (P:=P) (w:=w') ht h0 hR fun j u hj=>by
      rw [← hcell j u hj]
      exact hw'.cell (show (⟨p.block,p.off + j,.none⟩:Addr).block < w.heap.size from hb) hx
    simp [execOp,hop,S.eval ha,Instr.loadAt,Instr.sureAddr,this]
  have:=kk (a.put o.dst (if t.agg then .agg cs.toArray else cs.headD undef)) _ ⟨cs,hR,rfl⟩ (by rw [hd];exact S.put (by simpa [Nat.blt_eq] using hN) _)
  exact wpAnyH_first ho' (Region.noSelect_spec hs) (fun c a w=>hQ.put c o.dst _ a w) k (a_v m D) a w (Region.free_spec ho' hf) hi (.inl ⟨gOk.wanted S hg,hv⟩) (SbX.refl w X) this
end
@[reducible] def tupG (e:GT):Nat → GT
  | 0=>e
  | n + 1=>.pair e (tupG e n)
@[reducible] def tupL {e:GT}:(n:Nat) → PT (tupG e n) → List (PT e)
  | 0,x=>[x]
  | n + 1,x=>x.1 :: tupL n x.2
theorem d_T {e:GT} {w:World} {K:Nat → Prop} {n:Nat} {cs:List Value} {x:PT e} {xs:List (PT e)}:RepCs (.arr (n + 1) e) w K cs (x :: xs) ↔ ∃ c1 c2,cs = c1 ++ c2 ∧ RepCs e w K c1 x ∧ RepCs (.arr n e) w K c2 xs:=by
  constructor
  · rintro ⟨hx,css,rfl,hl,hr⟩
    match css,hl with
    | c :: css,hl =>
      refine ⟨c,css.flatten,by simp,hr 0 c x rfl rfl,by simpa using hx,css,rfl,by simpa using hl,fun j c' y hc hy=>hr (j + 1) c' y (by simpa using hc) (by simpa using hy)⟩
  · rintro ⟨c1,c2,rfl,h1,hx,css,rfl,hl,hr⟩
    refine ⟨by rw [List.length_cons,hx],c1 :: css,by simp,by rw [List.length_cons,hl],fun j c' y hc hy=>?_⟩
    cases j with
    | zero=>simp at hc hy;subst hc;subst hy;exact h1
    | succ j=>exact hr j c' y (by simpa using hc) (by simpa using hy)
theorem arr_nil {e:GT} {w:World} {K:Nat → Prop} {cs:List Value}:RepCs (.arr 0 e) w K cs ([]:List (PT e)) ↔ cs = []:=by
  constructor
  · rintro ⟨_,css,rfl,hl,_⟩
    rw [List.eq_nil_of_length_eq_zero hl];rfl
  · rintro rfl
    exact ⟨rfl,[],rfl,rfl,fun j c y hc=>by simp at hc⟩
theorem tup_arr {e:GT} {w:World} {K:Nat → Prop}:∀ {n:Nat} {cs:List Value} {x:PT (tupG e n)},RepCs (tupG e n) w K cs x ↔ RepCs (.arr (n + 1) e) w K cs (tupL n x)
  | 0,cs,x=>by
    show RepCs e w K cs x ↔ RepCs (.arr 1 e) w K cs [x]
    rw [d_T]
    constructor
    · exact fun h=>⟨cs,[],by simp,h,arr_nil.2 rfl⟩
    · rintro ⟨c1,c2,rfl,h1,h2⟩
      rw [arr_nil.1 h2,List.append_nil];exact h1
  | n + 1,cs,x=>by
    show RepCs (.pair e (tupG e n)) w K cs x ↔ RepCs (.arr (n + 1 + 1) e) w K cs (x.1 :: tupL n x.2)
    rw [d_T]
    constructor
    · rintro ⟨c1,c2,rfl,h1,h2⟩
      exact ⟨c1,c2,rfl,h1,tup_arr.1 h2⟩
    · rintro ⟨c1,c2,rfl,h1,h2⟩
      exact ⟨c1,c2,rfl,h1,tup_arr.2 h2⟩
theorem d_b {e:GT}:∀ (n:Nat) (x:PT (tupG e n)),(tupL n x).length = n + 1
  | 0,x=>rfl
  | n + 1,x=>by show (tupL n x.2).length + 1 = _;rw [d_b n x.2]
section
variable {w0 w:World} {K:Nat → Prop} {n b:Nat} {L:List (Option Nat)} {e:GT} {E:TypeId}
theorem Ow.toLit {xs:List (PT e)} (q:Nat) (x:PT (tupG e q)) (hx:xs = tupL q x) (h:Ow e E w n K (.slice (some ⟨b,0,.none⟩) (q + 1) (q + 1)) xs (some (q + 1))):Bx (.st (tupG e q)) E w K b x:=by
  obtain ⟨cs,h1,h2,h3⟩:=h
  subst hx
  rcases h1.2 with ⟨e1,_⟩ | ⟨g,cap,cur,e1,hb,hg,hnc,hcm,hsz,htake⟩
  · cases e1
  · injection e1 with e1 e2 e3
    have e4:b = g:=by injection e1 with e1;injection e1
    subst e4
    have hl:=d_b q x
    have hcs:=h2.len
    rw [hl] at hcs
    have hcs:cs.length = (q + 1) * e.sz:=hcs
    have hcur:cur.toList = cs:=by
      rw [← htake]
      refine (List.take_of_length_le ?_).symm
      rw [Array.length_toList,hsz,← e3,hl]
      exact Nat.le_refl _
    refine ⟨cs,?_,tup_arr.2 ?_⟩
    · rw [hg,← hcur]
    · have:=h2
      rw [hl] at this
      exact this
theorem Bx.litPub (q:Nat) {x:PT (tupG e q)} (h:Bx (.st (tupG e q)) E w (Kx K n L) b x) (W:Wd w0 w L) (hn:w0.heap.size = n) (i:Nat) (hi:L[i]? = some (some b)) (hq:(q + 1) ≤ 1048576):RepV (.sl e) w (Kx K n (L.eraseIdx i)) (.slice (some ⟨b,0,.none⟩) (q + 1) (q + 1)) ⟨tupL q x,some (q + 1)⟩:=by
  have hlt:=h.lt
  obtain ⟨cs,h1,h2⟩:=h
  have h2:RepCs (tupG e q) w (Kx K n L) cs x:=h2
  have h3:=(tup_arr.1 h2)
  have hk:∀ c,Kx K n L c → Kx K n (L.eraseIdx i) c:=fun c hk=>⟨hk.1,fun hm=>hk.2 ((List.eraseIdx_sublist _ _).subset hm)⟩
  have hl:=d_b q x
  refine ⟨[_],⟨_,q + 1,q + 1,rfl,hl,Nat.le_refl _,by omega,fun k hk=>Option.some.inj hk,?_⟩,rfl⟩
  have hb:some b ∉ L.eraseIdx i:=fun hm=>by
    obtain ⟨j,hji,hj⟩:=b_t hm
    rcases W.neq hji hj hi with e | e
    · cases e
    · exact e rfl
  have hown:=(W.own b (List.mem_of_getElem? hi)).1
  have h4:RepCs (.arr (tupL q x).length e) w (Kx K n (L.eraseIdx i)) cs (tupL q x):=by
    rw [hl];exact h3.keep (Keeps.refl _ _) fun c _ h=>hk c h
  refine RowsOf.of_cells (cs:=cs) h4 hlt ⟨.inr (by omega),hb⟩ fun j u hu=>?_
  rw [Nat.zero_add,cell_of_row w b j _ E (0,0) h1]
  simpa using hu
end
section
variable {ds:List Deferred} {N:Nat} {a:Act} {l:List (Nat × Value)} {w w0:World} {P:Program} {ops:Array Oper} {Q:Exit → Act → World → Prop} {rest:List Oper} {o:Oper} {Kont:Act → World → Prop} {d:Nat} {K:Nat → Prop} {n:Nat} {L:List (Option Nat)}
theorem a_S (S:StD ds N a l) {T:TypeId} {x i:Operand} {e:GT} {b m:Nat} {k0:IntKind} {j:Int} (off:Nat) (ho:o.op = .indexAddr T x i) (ht:tie P (.sl e) false T [] 0 = true) (hd:o.dst = some d) (hN:Nat.blt d N = true) (hx:ev l x = some (.slice (some ⟨b,0,.none⟩) m m))
    (hi:ev l i = some (.int k0 j)) (hj:(decide (0 ≤ j) && decide (j < (m:Int))) = true) (hoff:off = j.toNat * e.sz) (k:∀ a',StD ds N a' ((d,.pointer (some ((⟨b,0,.none⟩:Addr).add off))) :: l) → Kont a' w):o.wp P a w Kont Q:=by
  obtain ⟨E,hE,hte⟩:=b_i ht
  obtain ⟨ie,hie,hse⟩:=a_G hte
  rw [Bool.and_eq_true,decide_eq_true_eq,decide_eq_true_eq] at hj
  refine a_F S hd hN ?_ k
  subst hoff
  simp [execOp,ho,S.eval hx,S.eval hi,Instr.indexAt,asIntOf,run_underlying hE,hj,sizeOf,typeInfo,hie,hse]
theorem op_eqnil0 (S:StD ds N a l) {T T':TypeId} {x:Operand} {e:GT} (ho:o.op = .binOp .eql T x (.const (.slice .none 0 0)) T') (ht:tie P (.sl e) false T [] 0 = true) (hd:o.dst = some d) (hN:Nat.blt d N = true)
    (hx:ev l x = some (.slice .none 0 0)) (k:∀ a',StD ds N a' ((d,.bool true) :: l) → Kont a' w):o.wp P a w Kont Q:=by
  obtain ⟨E,hE,htE⟩:=b_i ht
  have hc:a.eval (.const (.slice .none 0 0)) = .slice .none 0 0:=rfl
  have he0:∀ d,(Op.equalIn (d + 1) T (.slice .none 0 0) (.slice .none 0 0)).run P w = .ok true w:=by
    intro d
    simp [Op.equalIn,run_underlying hE]
  have he:(Op.equalIn 10000 T (.slice .none 0 0) (.slice .none 0 0)).run P w = .ok true w:=he0 9999
  refine a_F S (v:=.bool true) hd hN ?_ k
  simp only [execOp,ho,S.eval hx,hc]
  simp [eqGuard,binOp,Op.equal,Op.maxDepth,he]
end
end Go.Proofs.Ythknbcfelkljcaa
namespace Go.Proofs.Ythknbcfelkljcaa
open Go.RowKit
section
variable {ds:List Deferred} {N:Nat} {a:Act} {l0:List (Nat × Value)} {w:World} {P:Program} {l:List Oper} {Q:Exit → Act → World → Prop} {o:Oper} {m k i:Nat} {D:List Nat} {S0:World → Prop}
theorem anh_val {d:Nat} {v:Value} (hs:Region.noSelect l.toArray = true) (hQ:PanicOk Q) (hS:S0 w) (hc:a_R l m D [i] = true) (ho:l[i]? = some o) (S:StD ds N a l0) (hg:gOk l.toArray l0 o = some true)
    (hd:o.dst = some d) (hN:Nat.blt d N = true) (hall:∀ w',(execOp a.eval o).run P w' = .ok (.value v) w') (kk:∀ a',StD ds N a' ((d,v) :: l0) → AnH P l Q m S0 k (i :: D) a' w):AnH P l Q m S0 (k + 1) D a w:=by
  simp only [a_R,Bool.and_eq_true] at hc
  obtain ⟨⟨hf,hr⟩,_⟩:=hc
  have hi:i ∈ Region.ready .any l.toArray (a_v m D):=by simpa using hr
  have ho':l.toArray[i]? = some o:=by simpa using ho
  have:=kk (a.put o.dst v) (by rw [hd];exact S.put (by simpa [Nat.blt_eq] using hN) _)
  exact wpAnyH_first ho' (Region.noSelect_spec hs) (fun c a w=>hQ.put c o.dst _ a w) k (a_v m D) a w (Region.free_spec ho' hf) hi (.inl ⟨gOk.wanted S hg,fun w _=>hall w⟩) hS this
theorem b_Y {d:Nat} (hs:Region.noSelect l.toArray = true) (hQ:PanicOk Q) (hS:S0 w) (hc:a_R l m D [i] = true) (ho:l[i]? = some o) (S:StD ds N a l0) (hg:gOk l.toArray l0 o = some true)
    {op:BinOp} {T T':TypeId} {x y:Operand} (k0:IntKind) (z:Int) {p n r:Int} (hop:o.op = .binOp op T x y T') (hz0:(op,z) = (.add,p + n) ∨ (op,z) = (.sub,p - n) ∨ (op,z) = (.mul,p * n))
    (hd:o.dst = some d) (hN:Nat.blt d N = true) (hx:ev l0 x = some (.int k0 p)) (hy:ev l0 y = some (.int k0 n)) (hz:ckI k0 z = some r) (kk:∀ a',StD ds N a' ((d,.int k0 r) :: l0) → AnH P l Q m S0 k (i :: D) a' w):AnH P l Q m S0 (k + 1) D a w:=by
  refine anh_val hs hQ hS hc ho S hg hd hN (fun w'=>?_) kk
  obtain ⟨h1,_,h2⟩:=a_j hz
  subst h1
  rcases hz0 with h | h | h <;> (obtain ⟨rfl,rfl⟩:=Prod.mk.inj h;simp [execOp,hop,S.eval hx,S.eval hy,a_J,binOp,Op.intArith,h2])
theorem anh_rem {d:Nat} (hs:Region.noSelect l.toArray = true) (hQ:PanicOk Q) (hS:S0 w) (hc:a_R l m D [i] = true) (ho:l[i]? = some o) (S:StD ds N a l0) (hg:gOk l.toArray l0 o = some true)
    {T T':TypeId} {x y:Operand} (k0:IntKind) {p n r:Int} (hop:o.op = .binOp .rem T x y T')
    (hd:o.dst = some d) (hN:Nat.blt d N = true) (hx:ev l0 x = some (.int k0 p)) (hy:ev l0 y = some (.int k0 n)) (hz:b_3 k0 p n = some r) (kk:∀ a',StD ds N a' ((d,.int k0 r) :: l0) → AnH P l Q m S0 k (i :: D) a' w):AnH P l Q m S0 (k + 1) D a w:=by
  refine anh_val hs hQ hS hc ho S hg hd hN (fun w'=>?_) kk
  unfold b_3 at hz
  split at hz
  · cases hz
  · rename_i hn
    obtain ⟨h1,_,h2⟩:=a_j hz
    subst h1
    simp [execOp,hop,S.eval hx,S.eval hy,a_J,binOp,Op.intDiv,hn]
end
end Go.Proofs.Ythknbcfelkljcaa
namespace Go.Proofs.Ythknbcfelkljcaa
open Go.RowKit
class TyOk (P:Program) (tys:outParam (List (TypeId × GT))):Prop where
  ok:tysOk P tys = true
section
variable {r:Option Nat} {ds:List Deferred} {N:Nat} {a:Act} {l:List (Nat × Value)} {w:World} {P:Program} {ops:Array Oper} {Q:Exit → Act → World → Prop} {K:Act → World → Prop} {tys:List (TypeId × GT)} {l0:List Oper}
theorem dl1 [T:TyOk P tys] (S:StD ds N a l) (m:Nat) (p1:Nat × Value) (k:∀ a',StD ds N a' (p1 :: l) → wpList P ops Q (l0.drop m) a' w) (h:a_u tys ops N (l0.take m) l = some (p1 :: l):=by kernel_rfl):wpList P ops Q l0 a w:=a_E S tys T.ok m h k
theorem dl2 [T:TyOk P tys] (S:StD ds N a l) (m:Nat) (p1 p2:Nat × Value) (k:∀ a',StD ds N a' (p1 :: p2 :: l) → wpList P ops Q (l0.drop m) a' w) (h:a_u tys ops N (l0.take m) l = some (p1 :: p2 :: l):=by kernel_rfl):wpList P ops Q l0 a w:=a_E S tys T.ok m h k
theorem dl3 [T:TyOk P tys] (S:StD ds N a l) (m:Nat) (p1 p2 p3:Nat × Value) (k:∀ a',StD ds N a' (p1 :: p2 :: p3 :: l) → wpList P ops Q (l0.drop m) a' w) (h:a_u tys ops N (l0.take m) l = some (p1 :: p2 :: p3 :: l):=by kernel_rfl):wpList P ops Q l0 a w:=a_E S tys T.ok m h k
theorem dl4 [T:TyOk P tys] (S:StD ds N a l) (m:Nat) (p1 p2 p3 p4:Nat × Value) (k:∀ a',StD ds N a' (p1 :: p2 :: p3 :: p4 :: l) → wpList P ops Q (l0.drop m) a' w) (h:a_u tys ops N (l0.take m) l = some (p1 :: p2 :: p3 :: p4 :: l):=by kernel_rfl):wpList P ops Q l0 a w:=a_E S tys T.ok m h k
theorem dl5 [T:TyOk P tys] (S:StD ds N a l) (m:Nat) (p1 p2 p3 p4 p5:Nat × Value) (k:∀ a',StD ds N a' (p1 :: p2 :: p3 :: p4 :: p5 :: l) → wpList P ops Q (l0.drop m) a' w) (h:a_u tys ops N (l0.take m) l = some (p1 :: p2 :: p3 :: p4 :: p5 :: l):=by kernel_rfl):wpList P ops Q l0 a w:=a_E S tys T.ok m h k
theorem dl6 [T:TyOk P tys] (S:StD ds N a l) (m:Nat) (p1 p2 p3 p4 p5 p6:Nat × Value) (k:∀ a',StD ds N a' (p1 :: p2 :: p3 :: p4 :: p5 :: p6 :: l) → wpList P ops Q (l0.drop m) a' w) (h:a_u tys ops N (l0.take m) l = some (p1 :: p2 :: p3 :: p4 :: p5 :: p6 :: l):=by kernel_rfl):wpList P ops Q l0 a w:=a_E S tys T.ok m h k
theorem dl7 [T:TyOk P tys] (S:StD ds N a l) (m:Nat) (p1 p2 p3 p4 p5 p6 p7:Nat × Value) (k:∀ a',StD ds N a' (p1 :: p2 :: p3 :: p4 :: p5 :: p6 :: p7 :: l) → wpList P ops Q (l0.drop m) a' w) (h:a_u tys ops N (l0.take m) l = some (p1 :: p2 :: p3 :: p4 :: p5 :: p6 :: p7 :: l):=by kernel_rfl):wpList P ops Q l0 a w:=a_E S tys T.ok m h k
theorem dl8 [T:TyOk P tys] (S:StD ds N a l) (m:Nat) (p1 p2 p3 p4 p5 p6 p7 p8:Nat × Value) (k:∀ a',StD ds N a' (p1 :: p2 :: p3 :: p4 :: p5 :: p6 :: p7 :: p8 :: l) → wpList P ops Q (l0.drop m) a' w) (h:a_u tys ops N (l0.take m) l = some (p1 :: p2 :: p3 :: p4 :: p5 :: p6 :: p7 :: p8 :: l):=by kernel_rfl):wpList P ops Q l0 a w:=a_E S tys T.ok m h k
theorem R.dl1 [T:TyOk P tys] (S:StD ds N a l) (m:Nat) (p1:Nat × Value) (k:∀ a',StD ds N a' (p1 :: l) → LI r P ops Q (l0.drop m) a' w) (h:a_u tys ops N (l0.take m) l = some (p1 :: l):=by kernel_rfl):LI r P ops Q l0 a w:=R.a_E S tys T.ok m h k
theorem R.dl2 [T:TyOk P tys] (S:StD ds N a l) (m:Nat) (p1 p2:Nat × Value) (k:∀ a',StD ds N a' (p1 :: p2 :: l) → LI r P ops Q (l0.drop m) a' w) (h:a_u tys ops N (l0.take m) l = some (p1 :: p2 :: l):=by kernel_rfl):LI r P ops Q l0 a w:=R.a_E S tys T.ok m h k
theorem R.dl3 [T:TyOk P tys] (S:StD ds N a l) (m:Nat) (p1 p2 p3:Nat × Value) (k:∀ a',StD ds N a' (p1 :: p2 :: p3 :: l) → LI r P ops Q (l0.drop m) a' w) (h:a_u tys ops N (l0.take m) l = some (p1 :: p2 :: p3 :: l):=by kernel_rfl):LI r P ops Q l0 a w:=R.a_E S tys T.ok m h k
theorem R.dl4 [T:TyOk P tys] (S:StD ds N a l) (m:Nat) (p1 p2 p3 p4:Nat × Value) (k:∀ a',StD ds N a' (p1 :: p2 :: p3 :: p4 :: l) → LI r P ops Q (l0.drop m) a' w) (h:a_u tys ops N (l0.take m) l = some (p1 :: p2 :: p3 :: p4 :: l):=by kernel_rfl):LI r P ops Q l0 a w:=R.a_E S tys T.ok m h k
theorem R.dl5 [T:TyOk P tys] (S:StD ds N a l) (m:Nat) (p1 p2 p3 p4 p5:Nat × Value) (k:∀ a',StD ds N a' (p1 :: p2 :: p3 :: p4 :: p5 :: l) → LI r P ops Q (l0.drop m) a' w) (h:a_u tys ops N (l0.take m) l = some (p1 :: p2 :: p3 :: p4 :: p5 :: l):=by kernel_rfl):LI r P ops Q l0 a w:=R.a_E S tys T.ok m h k
theorem R.dl6 [T:TyOk P tys] (S:StD ds N a l) (m:Nat) (p1 p2 p3 p4 p5 p6:Nat × Value) (k:∀ a',StD ds N a' (p1 :: p2 :: p3 :: p4 :: p5 :: p6 :: l) → LI r P ops Q (l0.drop m) a' w) (h:a_u tys ops N (l0.take m) l = some (p1 :: p2 :: p3 :: p4 :: p5 :: p6 :: l):=by kernel_rfl):LI r P ops Q l0 a w:=R.a_E S tys T.ok m h k
theorem R.dl7 [T:TyOk P tys] (S:StD ds N a l) (m:Nat) (p1 p2 p3 p4 p5 p6 p7:Nat × Value) (k:∀ a',StD ds N a' (p1 :: p2 :: p3 :: p4 :: p5 :: p6 :: p7 :: l) → LI r P ops Q (l0.drop m) a' w) (h:a_u tys ops N (l0.take m) l = some (p1 :: p2 :: p3 :: p4 :: p5 :: p6 :: p7 :: l):=by kernel_rfl):LI r P ops Q l0 a w:=R.a_E S tys T.ok m h k
theorem R.dl8 [T:TyOk P tys] (S:StD ds N a l) (m:Nat) (p1 p2 p3 p4 p5 p6 p7 p8:Nat × Value) (k:∀ a',StD ds N a' (p1 :: p2 :: p3 :: p4 :: p5 :: p6 :: p7 :: p8 :: l) → LI r P ops Q (l0.drop m) a' w) (h:a_u tys ops N (l0.take m) l = some (p1 :: p2 :: p3 :: p4 :: p5 :: p6 :: p7 :: p8 :: l):=by kernel_rfl):LI r P ops Q l0 a w:=R.a_E S tys T.ok m h k
theorem Ro.dl1 [T:TyOk P tys] (S:StD ds N a l) (m:Nat) (p1:Nat × Value) (k:∀ a',StD ds N a' (p1 :: l) → Ro.RL P ops (l0.drop m) K w a' w) (h:a_u tys ops N (l0.take m) l = some (p1 :: l):=by kernel_rfl):Ro.RL P ops l0 K w a w:=Ro.a_E S tys T.ok m h k
theorem Ro.dl2 [T:TyOk P tys] (S:StD ds N a l) (m:Nat) (p1 p2:Nat × Value) (k:∀ a',StD ds N a' (p1 :: p2 :: l) → Ro.RL P ops (l0.drop m) K w a' w) (h:a_u tys ops N (l0.take m) l = some (p1 :: p2 :: l):=by kernel_rfl):Ro.RL P ops l0 K w a w:=Ro.a_E S tys T.ok m h k
theorem Ro.dl3 [T:TyOk P tys] (S:StD ds N a l) (m:Nat) (p1 p2 p3:Nat × Value) (k:∀ a',StD ds N a' (p1 :: p2 :: p3 :: l) → Ro.RL P ops (l0.drop m) K w a' w) (h:a_u tys ops N (l0.take m) l = some (p1 :: p2 :: p3 :: l):=by kernel_rfl):Ro.RL P ops l0 K w a w:=Ro.a_E S tys T.ok m h k
theorem Ro.dl4 [T:TyOk P tys] (S:StD ds N a l) (m:Nat) (p1 p2 p3 p4:Nat × Value) (k:∀ a',StD ds N a' (p1 :: p2 :: p3 :: p4 :: l) → Ro.RL P ops (l0.drop m) K w a' w) (h:a_u tys ops N (l0.take m) l = some (p1 :: p2 :: p3 :: p4 :: l):=by kernel_rfl):Ro.RL P ops l0 K w a w:=Ro.a_E S tys T.ok m h k
theorem Ro.dl5 [T:TyOk P tys] (S:StD ds N a l) (m:Nat) (p1 p2 p3 p4 p5:Nat × Value) (k:∀ a',StD ds N a' (p1 :: p2 :: p3 :: p4 :: p5 :: l) → Ro.RL P ops (l0.drop m) K w a' w) (h:a_u tys ops N (l0.take m) l = some (p1 :: p2 :: p3 :: p4 :: p5 :: l):=by kernel_rfl):Ro.RL P ops l0 K w a w:=Ro.a_E S tys T.ok m h k
theorem Ro.dl6 [T:TyOk P tys] (S:StD ds N a l) (m:Nat) (p1 p2 p3 p4 p5 p6:Nat × Value) (k:∀ a',StD ds N a' (p1 :: p2 :: p3 :: p4 :: p5 :: p6 :: l) → Ro.RL P ops (l0.drop m) K w a' w) (h:a_u tys ops N (l0.take m) l = some (p1 :: p2 :: p3 :: p4 :: p5 :: p6 :: l):=by kernel_rfl):Ro.RL P ops l0 K w a w:=Ro.a_E S tys T.ok m h k
theorem Ro.dl7 [T:TyOk P tys] (S:StD ds N a l) (m:Nat) (p1 p2 p3 p4 p5 p6 p7:Nat × Value) (k:∀ a',StD ds N a' (p1 :: p2 :: p3 :: p4 :: p5 :: p6 :: p7 :: l) → Ro.RL P ops (l0.drop m) K w a' w) (h:a_u tys ops N (l0.take m) l = some (p1 :: p2 :: p3 :: p4 :: p5 :: p6 :: p7 :: l):=by kernel_rfl):Ro.RL P ops l0 K w a w:=Ro.a_E S tys T.ok m h k
theorem Ro.dl8 [T:TyOk P tys] (S:StD ds N a l) (m:Nat) (p1 p2 p3 p4 p5 p6 p7 p8:Nat × Value) (k:∀ a',StD ds N a' (p1 :: p2 :: p3 :: p4 :: p5 :: p6 :: p7 :: p8 :: l) → Ro.RL P ops (l0.drop m) K w a' w) (h:a_u tys ops N (l0.take m) l = some (p1 :: p2 :: p3 :: p4 :: p5 :: p6 :: p7 :: p8 :: l):=by kernel_rfl):Ro.RL P ops l0 K w a w:=Ro.a_E S tys T.ok m h k
theorem wcs {c:Operand} {x y:Code} (t:Bool) (S:StD ds N a l) (he:ev l c = some (.bool t)) (h1:t = true → Code.wp P x Q a w) (h2:t = false → Code.wp P y Q a w):Code.wp P (Code.cond c x y) Q a w:=wp_cond_split (S.eval he) h1 h2
theorem wgo {o:Oper} {rest:List Oper} (S:StD ds N a l) (h:o.wp P a w (wpList P ops Q rest) Q) (hg:gOk ops l o = some true:=by rfl):wpList P ops Q (o :: rest) a w:=w_go S hg h
theorem R.wgo {o:Oper} {rest:List Oper} (S:StD ds N a l) (h:o.wp P a w (LI r P ops Q rest) Q) (hg:gOk ops l o = some true:=by rfl) (hd:b_C o = true:=by rfl):LI r P ops Q (o :: rest) a w:=R.w_go S hg h hd
theorem Ro.wgo {o:Oper} {rest:List Oper} (S:StD ds N a l) (h:o.wp P a w (Ro.RL P ops rest K w) (fun _ _ _=>False)) (hg:gOk ops l o = some true:=by rfl):Ro.RL P ops (o :: rest) K w a w:=Ro.w_go S hg h
theorem dzp {α:Type} {c:Prop} [Decidable c] {x:Option α} {q:α} {G:Prop} (h:(if c then none else x) = some q) (hc:c):G:=by rw [if_pos hc] at h;cases h
theorem dzn {α:Type} {b:Bool} {x:Option α} {q:α} {G:Prop} (h:(if b then x else none) = some q) (hc:b = false):G:=by rw [hc] at h;cases h
end
end Go.Proofs.Ythknbcfelkljcaa
