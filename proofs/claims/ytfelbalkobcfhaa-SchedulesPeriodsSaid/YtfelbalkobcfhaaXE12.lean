/- The rules of the walk over plain data, more: structs that are compared; a pointer to an array. Plain theorems, no condition. -/
import Derived.Test.YtfelbalkobcfhaaXE11
import Derived.ChangeKeysEq
set_option linter.unusedVariables false
set_option linter.unusedSimpArgs false
namespace Go.Proofs.Ytfelbalkobcfhaa
open Go.RowKit
def e_n:GT → Bool
  | .int _=>true
  | .bool=>true
  | .str=>true
  | _=>false
def d_Z:GT → Bool
  | .pair a b=>e_n a && d_Z b
  | t=>e_n t
def eqP:(t:GT) → PT t → PT t → Bool
  | .int _,x,y=>decide ((x:Int) = y)
  | .bool,x,y=>decide ((x:Bool) = y)
  | .str,x,y=>decide ((x:List Int) = y)
  | .pair a b,x,y=>eqP a x.1 y.1 && eqP b x.2 y.2
  | _,_,_=>false
section
variable {P:Program}
theorem tie_last {t:GT} (hs:e_n t = true) {T:TypeId} {fs:List Field} {o:Nat} (h:tie P t true T fs o = true):∃ f,fs = [f] ∧ f.offset = o ∧ tie P t false f.type [] 0 = true:=by
  match fs,h with
  | [],h=>cases t <;> simp [tie,e_n] at h hs
  | [f],h=>cases t <;> simp [tie,e_n] at h hs ⊢ <;> exact ⟨h.1.1,h.1.2,h.2⟩
  | f :: g :: r,h=>cases t <;> simp [tie,e_n] at h hs
theorem b_Y {t:GT} (hs:e_n t = true) {T:TypeId} (h:tie P t false T [] 0 = true):P.plainKey T = true:=by
  cases t <;> simp [e_n] at hs
  · simp [Program.plainKey,b_e h]
  · simp [Program.plainKey,b_A h]
  · simp [Program.plainKey,c_r h]
theorem scal_eq {t:GT} (hs:e_n t = true) {T:TypeId} (h:tie P t false T [] 0 = true) {w W:World} {K:Nat → Prop} {c1 c2:List Value} {x y:PT t} (h1:RepCs t W K c1 x) (h2:RepCs t W K c2 y) (d:Nat) :
    ∃ v1 v2,c1 = [v1] ∧ c2 = [v2] ∧ (Op.equalIn (d + 1) T v1 v2).run P w = .ok (eqP t x y) w:=by
  cases t <;> simp [e_n] at hs
  · refine ⟨_,_,h1.1,h2.1,?_⟩
    rw [run_equalIn_int w d T _ _ _ _ (b_e h)]
    simp [eqP,Bool.beq_eq_decide_eq]
  · refine ⟨_,_,h1,h2,?_⟩
    rw [run_equalIn_bool' w d T _ _ (b_A h)]
    simp [eqP,Bool.beq_eq_decide_eq]
  · refine ⟨_,_,h1.1,h2.1,?_⟩
    rw [run_equalIn_string w d T _ _ (c_r h),str_beq h1.2.1 h2.2.1]
    rfl
theorem d_0 {d : Nat} {w W : World} {K : Nat → Prop} {xs ys : Array Value} : ∀ {t : GT} {T : TypeId} {fs : List Field} {o : Nat}, d_Z t = true → tie P t true T fs o = true → fs.all (fun f => f.name != "_") = true →
    ∀ {c1 c2:List Value} {x y:PT t},RepCs t W K c1 x → RepCs t W K c2 y → (∀ i v,c1[i]? = some v → xs[o + i]? = some v) → (∀ i v,c2[i]? = some v → ys[o + i]? = some v) →
    (Op.eqFields (d + 1) xs ys fs).run P w = .ok (eqP t x y) w:=by
  intro t
  have last : ∀ {t : GT} {T : TypeId} {fs : List Field} {o : Nat}, e_n t = true → tie P t true T fs o = true → fs.all (fun f => f.name != "_") = true →
    ∀ {c1 c2:List Value} {x y:PT t},RepCs t W K c1 x → RepCs t W K c2 y → (∀ i v,c1[i]? = some v → xs[o + i]? = some v) → (∀ i v,c2[i]? = some v → ys[o + i]? = some v) →
    (Op.eqFields (d + 1) xs ys fs).run P w = .ok (eqP t x y) w:=by
    intro t T fs o hs ht hn c1 c2 x y h1 h2 e1 e2
    obtain ⟨f,rfl,rfl,hf⟩:=tie_last hs ht
    obtain ⟨v1,v2,rfl,rfl,he⟩:=scal_eq (w:=w) hs hf h1 h2 d
    have hnm : f.name ≠ "_" := by simpa using hn
    have p1:=run_part_plain (w:=w) (b_Y hs hf) (e1 0 v1 rfl)
    have p2:=run_part_plain (w:=w) (b_Y hs hf) (e2 0 v2 rfl)
    rw [Nat.add_zero] at p1 p2
    simp only [Op.eqFields,if_pos hnm,Sem.run_bind,p1,p2,he,Result.andThen_ok]
    cases eqP t x y <;> simp [Op.eqFields]
  induction t with
  | pair a b iha ihb =>
    intro T fs o hs ht hn c1 c2 x y h1 h2 e1 e2
    obtain ⟨ha,hb⟩:=Bool.and_eq_true_iff.1 hs
    match fs,ht,hn with
    | f :: fs,ht,hn =>
      simp only [tie,Bool.and_eq_true,beq_iff_eq] at ht
      obtain ⟨⟨ht1,ho⟩,ht2⟩:=ht
      obtain ⟨a1,b1,rfl,ha1,hb1⟩:=h1
      obtain ⟨a2,b2,rfl,ha2,hb2⟩:=h2
      obtain ⟨v1,v2,rfl,rfl,he⟩:=scal_eq (w:=w) ha ht1 ha1 ha2 d
      have hsz:a.sz = 1:=by have:=ha1.len;simpa using this.symm
      simp only [List.all_cons,Bool.and_eq_true,bne_iff_ne] at hn
      have p1:=run_part_plain (w:=w) (b_Y ha ht1) (e1 0 v1 rfl)
      have p2:=run_part_plain (w:=w) (b_Y ha ht1) (e2 0 v2 rfl)
      rw [Nat.add_zero,← ho] at p1 p2
      rw [hsz] at ht2
      have:=ihb hb ht2 (by simpa using hn.2) hb1 hb2 (fun i v hv=>by have:=e1 (i + 1) v (by simpa using hv);rwa [show o + 1 + i = o + (i + 1) by omega]) (fun i v hv=>by have:=e2 (i + 1) v (by simpa using hv);rwa [show o + 1 + i = o + (i + 1) by omega])
      simp only [Op.eqFields,if_pos hn.1,Sem.run_bind,p1,p2,he,Result.andThen_ok]
      show _ = Result.ok (eqP a x.1 y.1 && eqP b x.2 y.2) w
      cases eqP a x.1 y.1 <;> simp [this]
    | [],ht,_=>simp [tie] at ht
  | int k=>exact fun hs=>last hs
  | bool=>exact fun hs=>last hs
  | str=>exact fun hs=>last hs
  | sl e _=>intro _ _ _ hs;simp [d_Z,e_n] at hs
  | st e _=>intro _ _ _ hs;simp [d_Z,e_n] at hs
  | arr n e _=>intro _ _ _ hs;simp [d_Z,e_n] at hs
  | raw=>intro _ _ _ hs;simp [d_Z,e_n] at hs
def eqB (P : Program) (T : TypeId) : Bool := (P.fieldsOf T).toList.all (fun f => f.name != "_") && !P.stoodInHeld T && !P.eqGuardType P.depth T
theorem steq_run {T:TypeId} {t:GT} {w W1:World} {K1 K2:Nat → Prop} {v1 v2:Value} {x y:PT t} (hf:d_Z t = true) (ht:tie P (.st t) false T [] 0 = true) (hb:eqB P T = true) (h1:RepV (.st t) W1 K1 v1 x) (h2:RepV (.st t) W1 K2 v2 y) :
    ∃ a b,v1 = .agg a ∧ v2 = .agg b ∧ P.eqGuardType P.depth T = false ∧ (Op.equalIn 10000 T (.agg a) (.agg b)).run P w = .ok (eqP t x y) w:=by
  obtain ⟨c1,h1,rfl⟩:=h1
  obtain ⟨c2,h2,rfl⟩:=h2
  obtain ⟨fs,hfs,htf⟩:=d_r ht
  simp only [eqB,Bool.and_eq_true,Bool.not_eq_true'] at hb
  have hfo:P.fieldsOf T = fs:=by simp [Program.fieldsOf,hfs]
  refine ⟨_,_,rfl,rfl,hb.2,?_⟩
  rw [show (10000:Nat) = 9998 + 1 + 1 from rfl,run_equalIn_struct w (9998 + 1) T _ _ (by rw [hfo];exact hfs) hb.1.2,hfo]
  have h1':RepCs t W1 (fun _=>True) c1 x:=RepCs.keep (K:=K1) ⟨Nat.le_refl _,fun _ _ _=>rfl⟩ (fun _ _ _=>trivial) (t:=t) h1
  have h2':RepCs t W1 (fun _=>True) c2 y:=RepCs.keep (K:=K2) ⟨Nat.le_refl _,fun _ _ _=>rfl⟩ (fun _ _ _=>trivial) (t:=t) h2
  rw [d_0 (w:=w) hf htf (by rw [← hfo];exact hb.1.1) h1' h2' (fun i v hv=>by simpa using hv) (fun i v hv=>by simpa using hv)]
end
section
variable {ds:List Deferred} {N:Nat} {a:Act} {l:List (Nat × Value)} {w w0:World} {P:Program} {ops:Array Oper} {Q:Exit → Act → World → Prop} {rest:List Oper} {o:Oper} {Kont:Act → World → Prop} {d:Nat} {K:Nat → Prop} {n:Nat} {L:List (Option Nat)}
theorem op_stneq (S:StD ds N a l) {T T':TypeId} {x y:Operand} {t:GT} {K1 K2:Nat → Prop} {v1 v2:Value} {m n:PT t} (ho:o.op = .binOp .neq T x y T') (hd:o.dst = some d) (hN:Nat.blt d N = true)
    (hx:ev l x = some v1) (hy:ev l y = some v2) (hf:d_Z t = true) (ht:tie P (.st t) false T [] 0 = true) (hb:eqB P T = true) (h1:RepV (.st t) w K1 v1 m) (h2:RepV (.st t) w K2 v2 n)
    (k:∀ a',StD ds N a' ((d,.bool (!eqP t m n)) :: l) → Kont a' w):o.wp P a w Kont Q:=by
  obtain ⟨a1,a2,rfl,rfl,hg,he⟩:=steq_run (w:=w) hf ht hb h1 h2
  refine a_D S hd hN ?_ k
  simp [execOp,ho,S.eval hx,S.eval hy,run_eqGuard_agg w _ T _ _ _ _ hg,run_neq_struct,he]
end
def cndF (b w:Bool) (f:Value → World → Prop):Value → World → Prop:=fun v W=>(b = w → f v W) ∧ (¬ b = w → v = undef)
theorem a_u {R:World → World → Prop} {b w:Bool} {f:Value → World → Prop} (h:d_P R f):d_P R (cndF b w f):=fun v _ _ hb hf=>⟨fun e=>h v _ _ hb (hf.1 e),hf.2⟩
theorem cndF.pos {b w:Bool} {f:Value → World → Prop} {v:Value} {W:World} (h:cndF b w f v W) (hc:b = w):f v W:=h.1 hc
theorem cndF.neg {b w:Bool} {f:Value → World → Prop} {v:Value} {W:World} (h:cndF b w f v W) (hc:¬ b = w):v = undef:=h.2 hc
theorem a_d {ds:List Deferred} {N:Nat} {A:Act} {l:List (Nat × Value)} {W:World} {R:Act → Prop} (S:StD ds N A l) (h:∀ a',StD ds N a' l → R a'):FillE W [] A R:=h A S
instance {α:Type}:Inhabited (Sl α):=⟨⟨[],.none⟩⟩
end Go.Proofs.Ytfelbalkobcfhaa
