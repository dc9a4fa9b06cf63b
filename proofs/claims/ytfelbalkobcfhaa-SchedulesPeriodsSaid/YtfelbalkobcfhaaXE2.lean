/- The walk over plain data: what a call's slots hold, and a rule for each operation. Plain theorems, no condition. -/
import Derived.Test.YtfelbalkobcfhaaXE1
set_option linter.unusedVariables false
set_option linter.unusedSimpArgs false
namespace Go.Proofs.Ytfelbalkobcfhaa
open Go.RowKit
def lk:List (Nat × Value) → Nat → Option Value
  | [],_=>none
  | (i,v) :: l,j=>bif Nat.beq i j then some v else lk l j
def ev (l:List (Nat × Value)):Operand → Option Value
  | .tmp t=>lk l t
  | .const v=>some v
  | .global g=>some (.pointer (some ⟨g,0,none⟩))
  | .func f=>some (.func (.func f) #[] #[])
structure StD (ds:List Deferred) (N:Nat) (a:Act) (l:List (Nat × Value)):Prop where
  size:a.tmps.size = N
  defers:a.defers = ds
  at_:∀ i v,lk l i = some v → a.tmps[i]? = some v
abbrev St (N:Nat) (a:Act) (l:List (Nat × Value)):Prop:=StD [] N a l
section
variable {ds:List Deferred} {N:Nat} {a:Act} {l:List (Nat × Value)} {w:World} {P:Program} {ops:Array Oper} {Q:Exit → Act → World → Prop} {rest:List Oper} {o:Oper} {Kont:Act → World → Prop} {d:Nat}
theorem StD.eval (S:StD ds N a l) {x:Operand} {v:Value} (h:ev l x = some v):a.eval x = v:=by
  cases x with
  | tmp t=>simp [Act.eval,S.at_ t v h]
  | const u=>simpa [ev,Act.eval] using h
  | global g=>simpa [ev,Act.eval] using h
  | func f=>simpa [ev,Act.eval] using h
theorem StD.put (S:StD ds N a l) (hd:d < N) (v:Value):StD ds N (a.put (some d) v) ((d,v) :: l):=by
  refine ⟨by simp [Act.put,S.size],by simp [Act.put,S.defers],fun i u h=>?_⟩
  unfold lk at h
  cases hb:Nat.beq d i with
  | true =>
    rw [hb] at h
    obtain rfl:=Nat.eq_of_beq_eq_true hb
    have:d < a.tmps.size:=by rw [S.size];exact hd
    simpa [Act.put,this] using h
  | false =>
    rw [hb] at h
    have hne:d ≠ i:=fun e=>by subst e;rw [Nat.beq_refl] at hb;cases hb
    simp only [Act.put,Array.getElem?_setIfInBounds_ne hne]
    exact S.at_ i u h
theorem StD.putN (S:StD ds N a l) (hd:d < N) (v:Value) (l':List (Nat × Value)) (hl:∀ i u,lk l' i = some u → lk ((d,v) :: l) i = some u):StD ds N (a.put (some d) v) l' :=
  ⟨(S.put hd v).size,(S.put hd v).defers,fun i u h=>(S.put hd v).at_ i u (hl i u h)⟩
def sub:List (Nat × Value) → List (Nat × Value) → Prop
  | [],_=>True
  | (i,v) :: r,l=>lk l i = some v ∧ sub r l
theorem sub.lk_:∀ {r l:List (Nat × Value)},sub r l → ∀ i u,lk r i = some u → lk l i = some u
  | [],_,_,i,u,h=>by simp [lk] at h
  | (j,v) :: r,l,hs,i,u,h=>by
    unfold lk at h
    cases hb:Nat.beq j i with
    | true =>
      rw [hb] at h
      obtain rfl:=Nat.eq_of_beq_eq_true hb
      have:v = u:=by simpa using h
      rw [← this]
      exact hs.1
    | false=>rw [hb] at h;exact sub.lk_ hs.2 i u h
theorem StD.sub (S:StD ds N a l) {l':List (Nat × Value)} (h:sub l' l):StD ds N a l':=⟨S.size,S.defers,fun i u hi=>S.at_ i u (h.lk_ i u hi)⟩
theorem StD.skip (S:StD ds N a l) {d:Option Nat} (hd:∀ x,d = some x → x < N ∧ lk l x = none) (v:Value):StD ds N (a.put d v) l:=by
  cases d with
  | none=>exact ⟨by simp [Act.put,S.size],by simp [Act.put,S.defers],S.at_⟩
  | some d =>
    obtain ⟨h1,h2⟩:=hd d rfl
    refine S.putN h1 v l fun i u h=>?_
    unfold lk
    cases hb:Nat.beq d i with
    | true=>obtain rfl:=Nat.eq_of_beq_eq_true hb;rw [h2] at h;cases h
    | false=>exact h
theorem d_q:∀ (l1:List Oper) {l2:List Oper} {a:Act} {w:World} (M:Act → World → Prop),wpList P ops (Exit.then M Q) l1 a w → (∀ a' w',M a' w' → wpList P ops Q l2 a' w') → wpList P ops Q (l1 ++ l2) a w
  | [],l2,a,w,M,h1,h2=>h2 a w h1
  | o :: l1,l2,a,w,M,h1,h2=>by
    have ih:=fun a w h=>d_q l1 (l2:=l2) (a:=a) (w:=w) M h h2
    show wpList P ops Q (o :: (l1 ++ l2)) a w
    unfold wpList at h1 ⊢
    split
    · rename_i hw
      rw [if_pos hw] at h1
      rcases h1 with h1 | ⟨h1,h3⟩
      · refine .inl ?_
        have:∀ e a w,e ≠ Exit.normal → Exit.then M Q e a w → Q e a w:=by
          intro e a w he h
          cases e <;> first | exact h | exact absurd rfl he
        unfold Oper.wp at h1 ⊢
        generalize (execOp a.eval o).run P w = r at *
        cases r with
        | ok n w' =>
          cases n <;> simp only [Oper.upon] at h1 ⊢ <;> try exact ih _ _ h1
          · refine Calls.mono h1 fun e w'' h=>?_
            cases e with
            | returned v=>exact ih _ _ h
            | panicked c=>exact h
            | outgrown=>obtain ⟨a0,w0,h0⟩:=h;exact ⟨a0,w0,h0⟩
          · exact Rows.mono h1 fun v w'' h=>ih _ _ h
        | halt x w' =>
          cases x <;> simp only [Oper.upon] at h1 ⊢
          exact h1
      · obtain ⟨a0,w0,h0⟩:=h3
        exact .inr ⟨h1,a0,w0,h0⟩
    · rename_i hw
      rw [if_neg hw] at h1
      exact ih _ _ h1
theorem wp_cut_ {x:Code} (M:Act → World → Prop) (h1:x.wp P (Exit.then M Q) a w) (h2:∀ a' w',M a' w' → Q .normal a' w'):x.wp P Q a w :=
  wp_mono h1 fun e a' w' h=>by
    cases e with
    | normal=>exact h2 a' w' h
    | _=>exact h
theorem a_D (S:StD ds N a l) {v:Value} {w':World} (hd:o.dst = some d) (hN:Nat.blt d N = true) (hr:(execOp a.eval o).run P w = .ok (.value v) w') (k:∀ a',StD ds N a' ((d,v) :: l) → Kont a' w'):o.wp P a w Kont Q:=by
  unfold Oper.wp
  rw [hr]
  simp only [Oper.upon,hd]
  exact k _ (S.put (by simpa [Nat.blt_eq] using hN) v)
def gtOf:List (TypeId × GT) → TypeId → Option GT
  | [],_=>none
  | (i,g) :: l,j=>bif Nat.beq i j then some g else gtOf l j
def tysOk (P:Program) (tys:List (TypeId × GT)):Bool:=tys.all fun p=>tie P p.2 false p.1 [] 0
theorem gtOf.tie:∀ {tys:List (TypeId × GT)} {T:TypeId} {g:GT},tysOk P tys = true → gtOf tys T = some g → tie P g false T [] 0 = true
  | [],_,_,_,h=>by simp [gtOf] at h
  | (i,g') :: l,T,g,hok,h=>by
    simp only [tysOk,List.all_cons,Bool.and_eq_true] at hok
    unfold gtOf at h
    cases hb:Nat.beq i T with
    | true =>
      rw [hb] at h
      obtain rfl:=Nat.eq_of_beq_eq_true hb
      have:g' = g:=by simpa using h
      rw [← this]
      exact hok.1
    | false=>rw [hb] at h;exact gtOf.tie (by simpa [tysOk] using hok.2) h
theorem b_e {k:IntKind} {T:TypeId} (h:tie P (.int k) false T [] 0 = true):P.underlying T = some (.int k):=by
  unfold tie at h
  simp only [Bool.and_eq_true] at h
  have h1:=h.1
  split at h1
  · rename_i k' hk;simp at h1;rw [hk,h1]
  · cases h1
theorem b_A {T:TypeId} (h:tie P .bool false T [] 0 = true):P.underlying T = some .bool:=by
  unfold tie at h
  simp only [Bool.and_eq_true] at h
  have h1:=h.1
  split at h1
  · assumption
  · cases h1
theorem c_r {T:TypeId} (h:tie P .str false T [] 0 = true):P.underlying T = some .string:=by
  unfold tie at h
  simp only [Bool.and_eq_true] at h
  have h1:=h.1
  split at h1
  · assumption
  · cases h1
theorem b_b {e:GT} {T:TypeId} (h:tie P (.sl e) false T [] 0 = true):∃ E,P.underlying T = some (.slice E) ∧ tie P e false E [] 0 = true:=by
  unfold tie at h
  simp only [Bool.and_eq_true] at h
  have h1:=h.1
  split at h1
  · rename_i E hE;exact ⟨E,hE,h1⟩
  · cases h1
theorem tie_raw {T:TypeId} (h:tie P .raw false T [] 0 = true):∃ E,P.underlying T = some (.slice E):=by
  unfold tie at h
  simp only [Bool.and_eq_true] at h
  have h1:=h.1
  split at h1
  · rename_i E hE;exact ⟨E,hE⟩
  · cases h1
theorem b_8 {n:Nat} {e:GT} {T:TypeId} (h:tie P (.arr n e) false T [] 0 = true):∃ E,P.underlying T = some (.array n E) ∧ tie P e false E [] 0 = true:=by
  unfold tie at h
  simp only [Bool.and_eq_true] at h
  have h1:=h.1
  split at h1
  · rename_i n' E hE;simp at h1;exact ⟨E,by rw [hE,h1.1],h1.2⟩
  · cases h1
theorem d_r {f:GT} {T:TypeId} (h:tie P (.st f) false T [] 0 = true):∃ fs,P.underlying T = some (.struct fs) ∧ tie P f true 0 fs.toList 0 = true:=by
  unfold tie at h
  simp only [Bool.and_eq_true] at h
  have h1:=h.1
  split at h1
  · rename_i fs hfs;exact ⟨fs,hfs,h1⟩
  · cases h1
theorem a_E {t:GT} {T:TypeId} (h:tie P t false T [] 0 = true):∃ i,P.info? T = some i ∧ i.size = t.sz:=by
  cases t with
  | pair a b=>simp [tie] at h
  | _ =>
    unfold tie at h
    simp only [Bool.and_eq_true] at h
    cases hi:P.info? T with
    | none=>rw [hi] at h;simp at h
    | some i=>rw [hi] at h;exact ⟨i,rfl,by simpa using h.2⟩
end
end Go.Proofs.Ytfelbalkobcfhaa
