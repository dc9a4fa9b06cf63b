/- The rules of the walk in the frame of a round, and where yield is called. Plain theorems, no condition. -/
import Derived.Test.YtfelbalkobcfhaaXE22
import Derived.RangeFuncNested
import Derived.RangeFuncLeaves
import Derived.OrdersIn
set_option linter.unusedVariables false
set_option linter.unusedSimpArgs false
namespace Go.Proofs.Ytfelbalkobcfhaa
open Go.RowKit
def Fr (r:Option Nat):Fence:={ Fence.wide with round:=r }
def b_q (o:Oper):Bool:=match o.op with | .defer _=>false | _=>true
def CI (r:Option Nat) (P:Program) (c:Code) (Q:Exit → Act → World → Prop) (a:Act) (w:World):Prop:=¬ LetsOut Q → c.wpIn (Fr r) 0 P Q a w
def LI (r:Option Nat) (P:Program) (ops:Array Oper) (Q:Exit → Act → World → Prop) (l:List Oper) (a:Act) (w:World):Prop:=¬ LetsOut Q → wpListIn (Fr r) 0 P ops Q l a w
theorem e_E {r:Option Nat} {ρ:Operand → Value} {o:Oper} (h:b_q o = true):o.semAt (Fr r).round ρ = execOp ρ o:=by
  cases r with
  | none=>exact Oper.semAt_none ρ o
  | some l =>
    refine Oper.semAt_some l ρ o fun c hc=>?_
    unfold b_q at h
    rw [hc] at h
    cases h
section
variable {r:Option Nat} {ds:List Deferred} {N:Nat} {a:Act} {l:List (Nat × Value)} {w w0:World} {P:Program} {ops:Array Oper} {Q:Exit → Act → World → Prop} {rest:List Oper} {o:Oper} {Kont K:Act → World → Prop} {d:Nat}
theorem rowsIn_of {row:String} {args:Array Value} {R:Value → World → Prop} (h:Rows P row args w R):RowsIn (Fr r) 0 P row args w R:=by
  intro c cs _
  obtain ⟨v,w',hr,hs⟩:=h c cs
  exact ⟨v,w',hr,stepsIn_wide.2 hs⟩
theorem d_s {f:FuncId} {args:Array Value} {R:Ending → World → Prop} (h:Calls P f args w R):CallsIn (Fr r) 0 P f args w R:=callsIn_wide.2 h
theorem wpIn_of (hd:b_q o = true) (h:o.wp P a w K Q):o.wpIn (Fr r) 0 P a w K Q:=by
  refine ⟨fun _ _=>trivial,?_⟩
  rw [e_E hd]
  unfold Oper.wp at h
  generalize (execOp a.eval o).run P w = q at *
  cases q with
  | ok n w' =>
    cases n <;> simp only [Oper.upon,Oper.uponIn] at h ⊢
    case value=>exact h
    case skip=>exact h
    case defer=>exact h
    case enter=>exact ⟨fun h=>by simp [Fr,Fence.wide] at h,d_s h⟩
    case row=>exact ⟨fun h=>by simp [Fr,Fence.wide] at h,rowsIn_of h⟩
  | halt x w'=>cases x <;> simp only [Oper.upon,Oper.uponIn] at h ⊢ <;> exact h
theorem b_c {y:Act → World → Prop} (hQ:¬ LetsOut Q):¬ LetsOut (Exit.then y Q):=fun ⟨a,w,h⟩=>hQ ⟨a,w,h⟩
theorem e_s {id:Nat} (hQ:¬ LetsOut Q):¬ LetsOut (Exit.inBlock id Q):=fun ⟨a,w,h⟩=>hQ ⟨a,w,h⟩
namespace R
theorem wp_seq {x y:Code} (h:CI r P x (Exit.then (CI r P y Q) Q) a w):CI r P (.seq x y) Q a w:=fun hQ =>
  wpIn_seq (wpIn_mono (h (b_c hQ)) fun e a w he=>by
    cases e with
    | normal=>exact he hQ
    | _=>exact he)
theorem wp_skip (h:Q .normal a w):CI r P .skip Q a w:=fun _=>wpIn_skip h
theorem wp_ret (h:Q .ret a w):CI r P .ret Q a w:=fun _=>wpIn_ret h
theorem wp_exit {id:Nat} (h:Q (.exit id) a w):CI r P (.exit id) Q a w:=fun _=>wpIn_exit h
theorem wp_block {id:Nat} {c:Code} (h:CI r P c (Exit.inBlock id Q) a w):CI r P (.block id c) Q a w:=fun hQ=>wpIn_block (h (e_s hQ))
theorem wp_cond_split {c:Operand} {x y:Code} {t:Bool} (hc:a.eval c = .bool t) (ht:t = true → CI r P x Q a w) (hf:t = false → CI r P y Q a w):CI r P (.cond c x y) Q a w:=fun hQ =>
  wpIn_cond_split hc (fun h=>ht h hQ) (fun h=>hf h hQ)
theorem wp_cut_ {x:Code} (M:Act → World → Prop) (h1:CI r P x (Exit.then M Q) a w) (h2:∀ a' w',M a' w' → Q .normal a' w'):CI r P x Q a w:=fun hQ =>
  wpIn_mono (h1 (b_c hQ)) fun e a' w' h=>by
    cases e with
    | normal=>exact h2 a' w' h
    | _=>exact h
theorem wp_loop_n {c:Code} (I:Nat → Act → World → Prop) (n:Nat) (h0:I n a w) (round:∀ n a w,I n a w → ∃ m,n = m + 1 ∧ CI r P c (Exit.then (I m) Q) a w):CI r P (.loop c) Q a w:=by
  intro hQ
  refine wpIn_loop (fun a w=>∃ n,I n a w) (fun a w=>leastOf (fun n=>I n a w)) ⟨n,h0⟩ fun a w hI=>?_
  obtain ⟨m,hm,hr⟩:=round _ a w (leastOf_spec hI).1
  refine wpIn_mono (hr (b_c hQ)) fun e a' w' hq=>?_
  cases e with
  | normal=>exact show (∃ n,I n a' w') ∧ leastOf (fun n=>I n a' w') < leastOf (fun n=>I n a w) from (by
    have hq:I m a' w':=hq
    refine ⟨⟨m,hq⟩,?_⟩
    have:=(leastOf_spec (p:=fun n=>I n a' w') ⟨m,hq⟩).2 m hq
    omega)
  | _=>exact hq
theorem wp_region_lit {id:Nat} {l:List Oper} (h:LI r P l.toArray Q l a w):CI r P (.region id l.toArray false) Q a w:=fun hQ=>wpIn_region_lit (h hQ)
theorem wpList_nil (h:Q .normal a w):LI r P ops Q [] a w:=fun _=>h
theorem w_go (S:StD ds N a l) (hg:gOk ops l o = some true) (h:o.wp P a w (LI r P ops Q rest) Q) (hd:b_q o = true:=by rfl):LI r P ops Q (o :: rest) a w:=by
  intro hQ
  unfold wpListIn
  rw [if_pos (gOk.wanted S hg)]
  exact Oper.wpIn_mono (fun a w h=>h hQ) (wpIn_of hd h)
theorem d_3 (S:StD ds N a l) (hg:gOk ops l o = some false) (h:LI r P ops Q rest (a.put o.dst undef) w):LI r P ops Q (o :: rest) a w:=by
  intro hQ
  unfold wpListIn
  rw [if_neg (by rw [gOk.wanted S hg];exact Bool.false_ne_true)]
  exact ⟨fun _ _=>trivial,h hQ⟩
theorem b_h (tys:List (TypeId × GT)) (ht:tysOk P tys = true):∀ (l1:List Oper) {l2:List Oper} {a:Act} {l l':List (Nat × Value)},StD ds N a l → a_L tys ops N l1 l = some l' → (∀ a',StD ds N a' l' → LI r P ops Q l2 a' w) → LI r P ops Q (l1 ++ l2) a w
  | [],l2,a,l,l',S,h,k=>by
    simp only [a_L,Option.some.injEq] at h
    subst h
    exact k a S
  | o :: l1,l2,a,l,l',S,h,k=>by
    unfold a_L at h
    split at h
    · rename_i d hg hd
      split at h
      · rename_i v hv
        split at h
        · rename_i hN
          exact w_go S hg (a_D S hd hN (e_t S o tys ht hv) fun a' S'=>b_h tys ht l1 S' h k) (by
            unfold b_q
            split
            · rename_i c hc;rw [hc] at hv;simp [pureOp] at hv
            · rfl)
        · cases h
      · cases h
    · rename_i d hg hd
      split at h
      · rename_i hN
        refine d_3 S hg ?_
        rw [hd]
        exact b_h tys ht l1 (S.put (by simpa [Nat.blt_eq] using hN) undef) h k
      · cases h
    · rename_i hg hd
      refine d_3 S hg ?_
      rw [hd]
      exact b_h tys ht l1 S h k
    · cases h
theorem wl_pure (S:StD ds N a l) (tys:List (TypeId × GT)) (ht:tysOk P tys = true) (m:Nat) {l0:List Oper} {l':List (Nat × Value)} (h:a_L tys ops N (l0.take m) l = some l')
    (k:∀ a',StD ds N a' l' → LI r P ops Q (l0.drop m) a' w):LI r P ops Q l0 a w:=by
  rw [← List.take_append_drop m l0]
  exact b_h tys ht _ S h k
theorem cut_:∀ (l1:List Oper) {l2:List Oper} {a:Act} {w:World} (M:Act → World → Prop),LI r P ops (Exit.then M Q) l1 a w → (∀ a' w',M a' w' → LI r P ops Q l2 a' w') → LI r P ops Q (l1 ++ l2) a w
  | [],l2,a,w,M,h1,h2=>fun hQ=>h2 a w (h1 (b_c hQ)) hQ
  | o :: l1,l2,a,w,M,h1,h2=>by
    intro hQ
    have h1:=h1 (b_c hQ)
    have ih:=fun a w (h:wpListIn (Fr r) 0 P ops (Exit.then M Q) l1 a w)=>cut_ l1 (l2:=l2) (a:=a) (w:=w) M (fun _=>h) h2 hQ
    show wpListIn (Fr r) 0 P ops Q (o :: (l1 ++ l2)) a w
    unfold wpListIn at h1 ⊢
    split
    · rename_i hw
      rw [if_pos hw] at h1
      refine ⟨fun _ _=>trivial,?_⟩
      have h1:=h1.2
      generalize (o.semAt (Fr r).round a.eval).run P w = q at *
      cases q with
      | ok n w' =>
        cases n <;> simp only [Oper.uponIn] at h1 ⊢ <;> try exact ih _ _ h1
        · refine ⟨h1.1,CallsIn.mono h1.2 fun e w'' h=>?_⟩
          cases e with
          | returned v=>exact ih _ _ h
          | panicked c=>exact h
          | outgrown=>obtain ⟨a0,w0,h0⟩:=h;exact ⟨a0,w0,h0⟩
        · refine ⟨h1.1,RoundIn.mono h1.2 fun e w'' h=>?_⟩
          cases e with
          | returned v=>exact ih _ _ h
          | panicked c=>exact h
          | outgrown=>obtain ⟨a0,w0,h0⟩:=h;exact ⟨a0,w0,h0⟩
        · exact ⟨h1.1,RowsIn.mono h1.2 fun v w'' h=>ih _ _ h⟩
      | halt x w' =>
        cases x <;> simp only [Oper.uponIn] at h1 ⊢
        exact h1
    · rename_i hw
      rw [if_neg hw] at h1
      exact ⟨fun _ _=>trivial,ih _ _ h1.2⟩
theorem seg (m:Nat) (M:Act → World → Prop) {l0:List Oper} (h1:LI r P ops (Exit.then M Q) (l0.take m) a w) (h2:∀ a' w',M a' w' → LI r P ops Q (l0.drop m) a' w'):LI r P ops Q l0 a w:=by
  rw [← List.take_append_drop m l0]
  exact cut_ _ M h1 h2
theorem c_e {md:Region.Mode} (hQ:¬ LetsOut Q) (hd:∀ (i:Nat) o,ops[i]? = some o → b_q o = true):∀ (fuel:Nat) (listed:Array Bool) (a:Act) (w:World),wpAny P md ops Q fuel listed a w → wpAnyIn (Fr r) 0 P md ops Q fuel listed a w
  | 0,listed,a,w,h=>h
  | fuel + 1,listed,a,w,h=>by
    refine ⟨h.1,fun i hi=>?_⟩
    have h2:=h.2 i hi
    unfold wpOp at h2
    unfold wpOpIn
    cases ho:ops[i]? with
    | none=>rw [ho] at h2;exact c_e hQ hd fuel _ a w h2
    | some o =>
      rw [ho] at h2
      simp only at h2 ⊢
      by_cases hw:Region.wanted o (yielded ops a.tmps) = true
      · rw [if_pos hw] at h2 ⊢
        rcases h2 with h2 | ⟨_,h3⟩
        · exact Oper.wpIn_mono (fun a w h=>c_e hQ hd fuel _ a w h) (wpIn_of (hd i o ho) h2)
        · exact absurd h3 hQ
      · rw [if_neg hw] at h2 ⊢
        exact ⟨fun _ _=>trivial,c_e hQ hd fuel _ _ w h2⟩
theorem drawn {id:Nat} {l:List Oper} (hm:P.follows .mixedOrders = true) (hd:l.all b_q = true) (h:e_O P l Q a w):CI r P (.region id l.toArray true) Q a w:=fun hQ =>
  wpIn_region_any hm (c_e hQ (fun i o ho=>List.all_eq_true.1 hd o (List.mem_of_getElem? (i:=i) (by simpa using ho))) _ _ _ _ h)
theorem w_yield (S:StD ds N a l) (hg:gOk ops l o = some true) {x:Operand} {xs:Array Operand} {ts:Array TypeId} {l0:Nat} (ho:o.op = .call { callee:=.value x,args:=xs,argTypes:=ts }) (hx:ev l x = some (.func (.yield l0) #[] #[])) (hd:o.dst = some d) (hN:Nat.blt d N = true)
    {vs:List Value} (hv:evs l xs.toList = some vs) {R:Ending → World → Prop} (h:YieldAt Fence.wide 0 P l0 vs.toArray w R) (k:∀ e w',R e w' → ∃ v,e = .returned v ∧ ∀ a',StD ds N a' ((d,v) :: l) → LI r P ops Q rest a' w'):LI r P ops Q (o :: rest) a w:=by
  intro hQ
  have hvs:xs.map a.eval = vs.toArray:=by
    rw [← S.evs hv,← Array.toList_map,Array.toArray_toList]
  obtain ⟨fn,tmps,assign,body,hy,hR⟩:=h
  have hr:(execOp a.eval o).run P w = .ok (.round l0 fn tmps assign body) w:=by
    simp [execOp,ho,resolve,S.eval hx,Deferred.ofValue,invoke,hvs,hy]
  have hnd:b_q o = true:=by unfold b_q;rw [ho]
  unfold wpListIn
  rw [if_pos (gOk.wanted S hg)]
  refine ⟨fun _ _=>trivial,?_⟩
  rw [e_E hnd,hr]
  refine ⟨fun h=>by simp [Fr,Fence.wide] at h,RoundIn.mono (show RoundIn (Fr r) 0 P l0 fn tmps assign body w R from hR) fun e w' he=>?_⟩
  obtain ⟨v,rfl,hk⟩:=k e w' he
  simp only [hd]
  exact hk _ (S.put (by simpa [Nat.blt_eq] using hN) v) hQ
end R
end
end Go.Proofs.Ytfelbalkobcfhaa
