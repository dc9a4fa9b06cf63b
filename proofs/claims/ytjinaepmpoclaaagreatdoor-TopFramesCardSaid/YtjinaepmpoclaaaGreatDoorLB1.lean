/- The rules of the walk over plain data. Plain theorems, no condition. -/
import Derived.Test.YtjinaepmpoclaaaGreatDoorRows
import Derived.WalkKit
import Derived.WalkSpells
import Derived.WalkLawsBesides
import Derived.BigGuardPart
import Derived.Maps.AppendAt
import Derived.Deep.DeepCutAuto
import Derived.Deep.LoopGhost
import Derived.Lib.Hide
import Derived.Deep.QuietTactic
import Derived.BigQuiet
import Derived.Orders
import Derived.Lib.ConvBytes
import Derived.ChangeKeysEq
import Derived.ProofKit
import Derived.OpenShut
import Derived.ChangeOld
import Derived.Deep.Slices
set_option linter.unusedVariables false
set_option linter.unusedSimpArgs false
namespace Go.Proofs.YtjinaepmpoclaaaGreatDoor
open Go.RowKit
def Rd (w:World) (B:Nat) (A:Option Addr) (xs:List Value):Prop :=
  xs = [] ∨ ∃ b off,A = some ⟨b,off,none⟩ ∧ b < B ∧ ∀ j v,xs[j]? = some v → w.cell? ⟨b,off + j,none⟩ = some v
section
variable {w w':World} {B B':Nat} {A:Option Addr} {xs:List Value}
end
def u8s (l:List Int):List Value:=l.map (Value.int .u8)
def Byt (l:List Int):Prop:=∀ z ∈ l,0 ≤ z ∧ z ≤ 255
theorem u8s_get (l:List Int) (j:Nat) (h:j < l.length):(u8s l)[j]? = some (.int .u8 l[j]):=by simp [u8s,h]
theorem Byt.nil:Byt []:=fun _ h=>by cases h
theorem Byt.cons {z:Int} {l:List Int} (h:0 ≤ z ∧ z ≤ 255) (hl:Byt l):Byt (z :: l):=fun y hy=>by
  rcases List.mem_cons.1 hy with rfl | h'
  · exact h
  · exact hl y h'
theorem Byt.take {a:List Int} (ha:Byt a) (n:Nat):Byt (a.take n):=fun y hy=>ha y (List.mem_of_mem_take hy)
theorem Byt.drop {a:List Int} (ha:Byt a) (n:Nat):Byt (a.drop n):=fun y hy=>ha y (List.mem_of_mem_drop hy)
theorem str_inj {a b:List Int} (ha:Byt a) (hb:Byt b):strOfNums a = strOfNums b ↔ a = b:=by
  refine ⟨fun h=>?_,fun h=>by rw [h]⟩
  have h1:a.map (fun n=>UInt8.ofNat n.toNat) = b.map (fun n=>UInt8.ofNat n.toNat):=by
    have:=congrArg (fun s=>s.data.toList) h
    simpa [strOfNums] using this
  clear h
  induction a generalizing b with
  | nil =>
    cases b with
    | nil=>rfl
    | cons y b=>simp at h1
  | cons x a ih =>
    cases b with
    | nil=>simp at h1
    | cons y b =>
      simp only [List.map_cons,List.cons.injEq] at h1
      have hx:=ha x (by simp)
      have hy:=hb y (by simp)
      have e:x = y:=by
        have:=congrArg UInt8.toNat h1.1
        simp only [UInt8.toNat_ofNat'] at this
        omega
      rw [e,ih (fun z hz=>ha z (List.mem_cons_of_mem _ hz)) (fun z hz=>hb z (List.mem_cons_of_mem _ hz)) h1.2]
theorem d_u {a b:List Int} (ha:Byt a) (hb:Byt b):((strOfNums a).toList == (strOfNums b).toList) = decide (a = b):=by
  rw [Bool.eq_iff_iff,beq_iff_eq,decide_eq_true_eq,← str_inj ha hb]
  refine ⟨fun h=>?_,fun h=>by rw [h]⟩
  rw [ByteArray.toList_eq,ByteArray.toList_eq] at h
  exact ByteArray.ext (Array.toList_inj.1 h)
section
variable {P:Program} (w:World)
theorem run_str (src dst e:TypeId) (hs:P.underlying src = some (.slice e)) (he:P.underlying e = some (.int .u8)) (hd:P.underlying dst = some .string)
    (B:Nat) (A:Option Addr) (c n:Nat) (l:List Int) (hn:l.length = n) (h:Rd w B A (u8s l)):(convert src dst (.slice A n c)).run P w = .ok (.string (strOfNums l)) w:=by
  rcases h with h | ⟨b,off,rfl,_,hc⟩
  · have hl:l = []:=by simpa [u8s] using h
    subst hl
    subst hn
    rcases A with _ | a
    · exact run_convert_bytes_nil w src e hs he 0 c dst hd
    · exact run_convert_bytes_back w src dst e a c [] hs he hd (fun j hj=>by simp at hj)
  · refine run_convert_bytes_arg w src e hs he b off n c l hn (fun i hi=>?_) dst hd
    rw [hc i _ (u8s_get l i (by omega))]
    simp [List.getD,show i < l.length by omega]
end
end Go.Proofs.YtjinaepmpoclaaaGreatDoor
namespace Go.Proofs.YtjinaepmpoclaaaGreatDoor
open Go.RowKit
theorem d_2 {a b c:World} (h:Below a.heap.size a b) (k:Below b.heap.size b c):Below a.heap.size a c:=h.trans (k.mono h.size)
def d_d (ops:Array Oper) (F:Nat → Value → World → Prop) (A:Act) (W:World):List Edge → Prop
  | []=>True
  | e :: es=>(match (ops[e.on]?).bind (·.dst) with | some d=>∃ v,A.tmps[d]? = some v ∧ F e.on v W | none=>True) ∧ d_d ops F A W es
def b_j (ops:Array Oper):List Nat:=ops.toList.filterMap (·.dst)
def a_N (ops:Array Oper) (n:Nat):Bool :=
  (b_j ops).Nodup && (b_j ops).all (· < n) && (ops.toList.zipIdx.all fun (o,i)=>o.after.all fun e=>!Region.binds .any e || decide (e.on < i))
structure RInv (ops:Array Oper) (F:Nat → Value → World → Prop) (a0:Act) (w0:World) (listed:Array Bool) (a:Act) (w:World):Prop where
  size:listed.size = ops.size
  tsize:a.tmps.size = a0.tmps.size
  defers:a.defers = a0.defers
  below:Below w0.heap.size w0 w
  keep:∀ t,t ∉ b_j ops → a.tmps[t]? = a0.tmps[t]?
  done:∀ (i:Nat) (o:Oper) (d:Nat),listed.getD i false = true → ops[i]? = some o → o.dst = some d → ∃ v,a.tmps[d]? = some v ∧ F i v w
section
variable {P:Program} {ops:Array Oper} {F:Nat → Value → World → Prop} {a0:Act} {w0:World} {Q:Exit → Act → World → Prop}
theorem b_w {i:Nat} {o:Oper} {d:Nat} (h:ops[i]? = some o) (hd:o.dst = some d):d ∈ b_j ops:=by
  unfold b_j
  refine List.mem_filterMap.2 ⟨o,?_,hd⟩
  exact Array.mem_toList_iff.2 (Array.mem_of_getElem? h)
theorem c_x:∀ (l:List Oper),(l.filterMap (·.dst)).Nodup → ∀ (i j:Nat) (x y:Oper) (d:Nat),l[i]? = some x → l[j]? = some y → x.dst = some d → y.dst = some d → i = j
  | [],_,i,j,x,y,d,hi,_,_,_=>by simp at hi
  | o :: l,hn,i,j,x,y,d,hi,hj,hx,hy=>by
    have hn':(l.filterMap (·.dst)).Nodup:=by
      cases ho:o.dst with
      | none=>simpa [List.filterMap_cons,ho] using hn
      | some e=>rw [List.filterMap_cons,ho] at hn;exact (List.nodup_cons.1 hn).2
    have hnot:∀ (k:Nat) (z:Oper) (e:Nat),l[k]? = some z → z.dst = some e → o.dst ≠ some e:=by
      intro k z e hk hz ho
      rw [List.filterMap_cons,ho] at hn
      exact (List.nodup_cons.1 hn).1 (List.mem_filterMap.2 ⟨z,List.mem_of_getElem? hk,hz⟩)
    match i,j with
    | 0,0=>rfl
    | 0,j + 1=>simp at hi hj;subst hi;exact absurd hx (hnot j y d hj hy)
    | i + 1,0=>simp at hi hj;subst hj;exact absurd hy (hnot i x d hi hx)
    | i + 1,j + 1=>simp at hi hj;rw [c_x l hn' i j x y d hi hj hx hy]
theorem c_y {listed:Array Bool} (hsz:listed.size = ops.size) (hac:∀ i o,ops[i]? = some o → ∀ e ∈ o.after,Region.binds .any e = true → e.on < i) (h:Region.ready .any ops listed = []) :
    ∀ i,i < ops.size → listed.getD i false = true:=by
  intro i
  induction i using Nat.strongRecOn with
  | ind i ih =>
    intro hi
    have hli:i < listed.size:=by omega
    cases hl:listed.getD i false with
    | true=>rfl
    | false =>
      exfalso
      have hm:i ∈ Region.ready .any ops listed:=mem_ready.2 ⟨by simpa [hli] using hl,ops[i],by simp [hi],fun e he hb=>ih e.on (hac i ops[i] (by simp [hi]) e he hb) (by
        have:=hac i ops[i] (by simp [hi]) e he hb
        omega)⟩
      rw [h] at hm
      cases hm
theorem unlisted_lt {listed:Array Bool} {i:Nat} (hi:i ∈ Region.ready .any ops listed):i < listed.size ∧ listed.getD i false = false:=by
  obtain ⟨h,_⟩:=mem_ready.1 hi
  rcases Nat.lt_or_ge i listed.size with hl | hl
  · exact ⟨hl,by simpa [hl] using h⟩
  · simp [Array.getElem?_eq_none hl] at h
theorem d_e (I:Array Bool → Act → World → Prop) (hstep:∀ listed a w i,I listed a w → i ∈ Region.ready .any ops listed → wpOp P ops Q i (fun a' w'=>I (listed.setIfInBounds i true) a' w') a w)
    (hend:∀ listed a w,I listed a w → Region.ready .any ops listed = [] → Q .normal a w) :
    ∀ (fuel:Nat) (listed:Array Bool) (a:Act) (w:World),(listed.toList.filter (!·)).length ≤ fuel → I listed a w → wpAny P .any ops Q fuel listed a w:=by
  intro fuel
  induction fuel with
  | zero =>
    intro listed a w hc hI
    have hr:Region.ready .any ops listed = []:=by
      refine List.eq_nil_iff_forall_not_mem.2 fun i hi=>?_
      obtain ⟨hl,hf⟩:=unlisted_lt hi
      have hm:false ∈ listed.toList.filter (!·):=List.mem_filter.2 ⟨by
        rw [show false = listed[i] from by simpa [hl] using hf.symm]
        exact Array.mem_toList_iff.2 (Array.getElem_mem hl),rfl⟩
      have:=List.length_pos_of_mem hm
      omega
    exact ⟨hr,hend _ _ _ hI hr⟩
  | succ fuel ih =>
    intro listed a w hc hI
    refine ⟨hend _ _ _ hI,fun i hi=>wpOp_mono (fun a' w' h'=>ih _ a' w' ?_ h') (hstep _ _ _ i hI hi)⟩
    obtain ⟨hl,hf⟩:=unlisted_lt hi
    have hf':listed.toList[i]'(by simpa using hl) = false:=by simpa [hl] using hf
    have:∀ (l:List Bool) (i:Nat) (h:i < l.length),l[i] = false → ((l.set i true).filter (!·)).length + 1 = (l.filter (!·)).length:=by
      intro l
      induction l with
      | nil=>intro i h;simp at h
      | cons x l ih =>
        intro i h e
        match i with
        | 0=>simp at e;subst e;simp
        | i + 1 =>
          have:=ih i (by simpa using h) (by simpa using e)
          cases x <;> simp at this ⊢ <;> omega
    have:=this listed.toList i (by simpa using hl) hf'
    rw [Array.toList_setIfInBounds]
    omega
def c_S (d:Option Nat) (a:Act):Value:=match d with | some d=>a.tmps.getD d undef | none=>undef
def RPost (d:Option Nat) (f:Value → World → Prop) (ds:List Deferred) (w:World) (Q:Exit → Act → World → Prop):Exit → Act → World → Prop
  | .normal,a,w'=>a.defers = ds ∧ f (c_S d a) w' ∧ Below w.heap.size w w'
  | .outgrown,a,w'=>Q .outgrown a w'
  | _,_,_=>False
def FillDeps (F:List (Value → World → Prop)) (W:World):List (Nat × Nat) → Act → (Act → Prop) → Prop
  | [],A,R=>R A
  | (i,d) :: ds,A,R=>∀ v,(F.getD i (fun _ _=>True)) v W → FillDeps F W ds (A.put (some d) v) R
def depsB (ops:Array Oper) (o:Oper) (ds:List (Nat × Nat)):Bool :=
  (ds.all fun p=>((ops[p.1]?).bind (·.dst)) == some p.2 && o.after.toList.any fun e=>Region.binds .any e && e.on == p.1) &&
  ((o.looksAt ops).all fun t=>!(b_j ops).contains t || ds.any (·.2 == t))
def b_7 (ops:Array Oper):List Oper → List (List (Nat × Nat)) → Bool
  | [],_=>true
  | o :: os,ds :: D=>depsB ops o ds && b_7 ops os D
  | _,_=>false
def a_7 (B:Act):List (Nat × Nat) → Act → Act
  | [],A=>A
  | (_,d) :: ds,A=>a_7 B ds (A.put (some d) (B.tmps.getD d undef))
theorem FillDeps.get {F:List (Value → World → Prop)} {W:World} {B:Act} {R:Act → Prop}:∀ (ds:List (Nat × Nat)) (A:Act),FillDeps F W ds A R → (∀ p ∈ ds,(F.getD p.1 (fun _ _=>True)) (B.tmps.getD p.2 undef) W) → R (a_7 B ds A)
  | [],_,h,_=>h
  | (i,d) :: ds,A,h,hp=>FillDeps.get ds _ (h _ (hp (i,d) (by simp))) fun p hm=>hp p (List.mem_cons_of_mem _ hm)
theorem b_8 (B:Act):∀ (ds:List (Nat × Nat)) (A:Act),A.tmps.size = B.tmps.size →
    (a_7 B ds A).defers = A.defers ∧ (a_7 B ds A).tmps.size = B.tmps.size ∧ (∀ t:Nat,(a_7 B ds A).tmps[t]? = A.tmps[t]? ∨ (a_7 B ds A).tmps[t]? = B.tmps[t]?) ∧
      (∀ t:Nat,A.tmps[t]? = B.tmps[t]? → (a_7 B ds A).tmps[t]? = B.tmps[t]?) ∧ ∀ p ∈ ds,(a_7 B ds A).tmps[p.2]? = B.tmps[p.2]?
  | [],A,hs=>⟨rfl,hs,fun _=>.inl rfl,fun _ h=>h,fun _ h=>by cases h⟩
  | (i,d) :: ds,A,hs=>by
    have key:∀ t:Nat,(A.put (some d) (B.tmps.getD d undef)).tmps[t]? = if d = t then B.tmps[t]? else A.tmps[t]?:=by
      intro t
      by_cases e:d = t
      · subst e
        rw [if_pos rfl]
        rcases Nat.lt_or_ge d B.tmps.size with h | h
        · simp [Act.put,hs,h]
        · simp [Act.put,Array.getElem?_eq_none h]
          omega
      · rw [if_neg e]
        simp [Act.put,Array.getElem?_setIfInBounds_ne e]
    obtain ⟨h1,h2,h3,h4,h5⟩:=b_8 B ds (A.put (some d) (B.tmps.getD d undef)) (by simp [Act.put,hs])
    refine ⟨by simpa [a_7,Act.put] using h1,h2,fun t=>?_,fun t ht=>?_,fun p hp=>?_⟩
    · rcases h3 t with h | h
      · rw [key t] at h
        split at h
        · exact .inr h
        · exact .inl h
      · exact .inr h
    · refine h4 t ?_
      rw [key t]
      split
      · rfl
      · exact ht
    · rcases List.mem_cons.1 hp with e | h
      · subst e
        exact h4 d (by rw [key d,if_pos rfl])
      · exact h5 p h
theorem eval_same {A B:Act} {x:Operand} (h:∀ t,x = .tmp t → A.tmps[t]? = B.tmps[t]?):A.eval x = B.eval x:=by
  cases x with
  | tmp t=>simp [Act.eval,h t rfl]
  | _=>rfl
theorem d_v {o:Oper} {A B:Act} (h:∀ t ∈ o.looksAt ops,A.tmps[t]? = B.tmps[t]?):Region.wanted o (yielded ops A.tmps) = Region.wanted o (yielded ops B.tmps):=by
  unfold Region.wanted
  cases hg:o.guard with
  | none=>rfl
  | some gw =>
    obtain ⟨g,want⟩:=gw
    have:yielded ops A.tmps g = yielded ops B.tmps g:=by
      unfold yielded
      cases hd:(ops[g]?).bind (·.dst) with
      | none=>rfl
      | some d =>
        have:=h d (List.mem_append_right _ (by simp [hg,hd]))
        simp [this]
    simp [this]
def eqv (x:Value):Value → World → Prop:=fun v _=>v = x
variable {all:List Oper} {F:List (Value → World → Prop)} {o:Oper} {os:List Oper} {ds:List (Nat × Nat)} {D:List (List (Nat × Nat))}
end
end Go.Proofs.YtjinaepmpoclaaaGreatDoor
namespace Go.Proofs.YtjinaepmpoclaaaGreatDoor
open Go.RowKit
def c_z (D:List Nat) (R:World → World → Prop) (P:Program) (ops:Array Oper) (F:Nat → Value → World → Prop) (a0:Act) (w0:World) (Q:Exit → Act → World → Prop) (i:Nat) (o:Oper):Prop :=
  ∀ (A:Act) (W:World),R w0 W → A.defers = a0.defers → A.tmps.size = a0.tmps.size → (∀ t,t ∉ D → A.tmps[t]? = a0.tmps[t]?) → d_d ops F A W (o.after.toList.filter (Region.binds .any)) →
    if Region.wanted o (yielded ops A.tmps) then o.wp P A W (fun A' W'=>∃ v,A' = A.put o.dst v ∧ (o.dst = none → v = undef) ∧ F i v W' ∧ R W W') Q ∨ (o.asks P A W ∧ LetsOut Q) else F i undef W
abbrev d_w (R:World → World → Prop) (P:Program) (ops:Array Oper) (F:Nat → Value → World → Prop) (a0:Act) (w0:World) (Q:Exit → Act → World → Prop) (i:Nat) (o:Oper):Prop:=c_z (b_j ops) R P ops F a0 w0 Q i o
def depsDB (D:List Nat) (ops:Array Oper) (o:Oper) (ds:List (Nat × Nat)):Bool :=
  (ds.all fun p=>((ops[p.1]?).bind (·.dst)) == some p.2 && o.after.toList.any fun e=>Region.binds .any e && e.on == p.1) &&
  ((o.looksAt ops).all fun t=>!D.contains t || ds.any (·.2 == t))
def b_H (D:List Nat) (ops:Array Oper):List Oper → List (List (Nat × Nat)) → Bool
  | [],_=>true
  | o :: os,ds :: E=>depsDB D ops o ds && b_H D ops os E
  | _,_=>false
def StepsOkR (R:World → World → Prop) (P:Program) (ops:Array Oper) (F:Nat → Value → World → Prop) (a0:Act) (w0:World) (Q:Exit → Act → World → Prop):Nat → List Oper → Prop
  | _,[]=>True
  | i,o :: os=>d_w R P ops F a0 w0 Q i o ∧ StepsOkR R P ops F a0 w0 Q (i + 1) os
def b_I (F:Nat → Value → World → Prop) (W:World) (Q:Act → Prop):Nat → List Oper → Act → Prop
  | _,[],a=>Q a
  | i,o :: os,a=>match o.dst with
    | some _=>∀ v,F i v W → b_I F W Q (i + 1) os (a.put o.dst v)
    | none=>F i undef W → b_I F W Q (i + 1) os a
structure RInvR (R:World → World → Prop) (ops:Array Oper) (F:Nat → Value → World → Prop) (a0:Act) (w0:World) (listed:Array Bool) (a:Act) (w:World):Prop where
  size:listed.size = ops.size
  tsize:a.tmps.size = a0.tmps.size
  defers:a.defers = a0.defers
  below:R w0 w
  keep:∀ t,t ∉ b_j ops → a.tmps[t]? = a0.tmps[t]?
  done:∀ (i:Nat) (o:Oper) (d:Nat),listed.getD i false = true → ops[i]? = some o → o.dst = some d → ∃ v,a.tmps[d]? = some v ∧ F i v w
  doneN:∀ (i:Nat) (o:Oper),listed.getD i false = true → ops[i]? = some o → o.dst = none → F i undef w
section
variable {R:World → World → Prop} {P:Program} {ops:Array Oper} {F:Nat → Value → World → Prop} {a0:Act} {w0:World} {Q:Exit → Act → World → Prop}
theorem StepsOkR.get:∀ (l:List Oper) (k:Nat),StepsOkR R P ops F a0 w0 Q k l → ∀ j o,l[j]? = some o → d_w R P ops F a0 w0 Q (k + j) o
  | [],_,_,j,o,h=>by simp at h
  | x :: l,k,hs,0,o,h=>by simp at h;subst h;exact hs.1
  | x :: l,k,hs,j + 1,o,h=>by
    have:=StepsOkR.get l (k + 1) hs.2 j o (by simpa using h)
    rwa [Nat.add_assoc,Nat.add_comm 1 j] at this
theorem RInvR.step (hR0:∀ w,R w w) (hRt:∀ a b c,R a b → R b c → R a c) (hB:a_N ops a0.tmps.size = true) (hst:∀ i v w w',R w w' → F i v w → F i v w') (hs:StepsOkR R P ops F a0 w0 Q 0 ops.toList)
    {listed:Array Bool} {a:Act} {w:World} {i:Nat} (h:RInvR R ops F a0 w0 listed a w) (hi:i ∈ Region.ready .any ops listed) :
    wpOp P ops Q i (fun a' w'=>RInvR R ops F a0 w0 (listed.setIfInBounds i true) a' w') a w:=by
  obtain ⟨hun,o,ho,hall⟩:=mem_ready.1 hi
  simp only [a_N,Bool.and_eq_true,decide_eq_true_eq,List.all_eq_true] at hB
  obtain ⟨⟨hnd,hlt⟩,_⟩:=hB
  have hstep:=StepsOkR.get ops.toList 0 hs i o (by simpa using ho) a w h.below h.defers h.tsize h.keep (by
    have:∀ l:List Edge,(∀ e ∈ l,e ∈ o.after ∧ Region.binds .any e = true) → d_d ops F a w l:=by
      intro l
      induction l with
      | nil=>intro _;trivial
      | cons e es ih =>
        intro hl
        refine ⟨?_,ih fun x hx=>hl x (List.mem_cons_of_mem _ hx)⟩
        obtain ⟨he,hb⟩:=hl e (by simp)
        have hd:=hall e he hb
        cases hoe:ops[e.on]? with
        | none=>trivial
        | some oe =>
          cases hde:oe.dst with
          | none=>simp [hde]
          | some d=>simpa [hde] using h.done e.on oe d hd hoe hde
    exact this _ fun e he=>by
      rw [List.mem_filter] at he
      exact ⟨Array.mem_toList_iff.1 he.1,he.2⟩)
  rw [Nat.zero_add] at hstep
  have fin:∀ v w',(o.dst = none → v = undef) → F i v w' → R w w' → RInvR R ops F a0 w0 (listed.setIfInBounds i true) (a.put o.dst v) w':=by
    intro v w' hnone hv hb
    have tk:∀ t,o.dst ≠ some t → (a.put o.dst v).tmps[t]? = a.tmps[t]?:=by
      intro t hne
      cases hd:o.dst with
      | none=>rfl
      | some d =>
        have:d ≠ t:=fun e=>hne (by rw [hd,e])
        simp [Act.put,Array.getElem?_setIfInBounds_ne this]
    refine ⟨by simpa using h.size,?_,?_,hRt _ _ _ h.below hb,fun t ht=>?_,fun j p d hj hp hd=>?_,fun j p hj hp hd=>?_⟩
    · cases hd:o.dst <;> simp [Act.put,h.tsize]
    · cases hd:o.dst <;> simp [Act.put,h.defers]
    · rw [tk t (fun e=>ht (b_w ho e)),h.keep t ht]
    · by_cases hij:i = j
      · subst hij
        rw [ho] at hp
        obtain rfl:=Option.some.inj hp
        refine ⟨v,?_,hv⟩
        have:d < a.tmps.size:=by
          rw [h.tsize]
          exact hlt d (b_w ho hd)
        simp [Act.put,hd,this]
      · rw [show (listed.setIfInBounds i true).getD j false = listed.getD j false from getD_set_ne false hij] at hj
        obtain ⟨u,hu,hF⟩:=h.done j p d hj hp hd
        refine ⟨u,?_,hst _ _ _ _ hb hF⟩
        rw [tk d (fun e=>hij (c_x ops.toList hnd i j o p d (by simpa using ho) (by simpa using hp) e hd))]
        exact hu
    · by_cases hij:i = j
      · subst hij
        rw [ho] at hp
        obtain rfl:=Option.some.inj hp
        rw [← hnone hd]
        exact hv
      · rw [show (listed.setIfInBounds i true).getD j false = listed.getD j false from getD_set_ne false hij] at hj
        exact hst _ _ _ _ hb (h.doneN j p hj hp hd)
  unfold wpOp
  simp only [ho]
  split
  · rename_i hw
    rw [if_pos hw] at hstep
    exact hstep.imp (Oper.wp_mono (fun a' w' ⟨v,e,hn,hv,hb⟩=>by subst e;exact fin v w' hn hv hb)) id
  · rename_i hw
    rw [if_neg hw] at hstep
    exact fin undef w (fun _=>rfl) hstep (hR0 _)
theorem RInvR.finish (hB:a_N ops a0.tmps.size = true) {listed:Array Bool} {a:Act} {w:World} (h:RInvR R ops F a0 w0 listed a w) (hr:Region.ready .any ops listed = [])
    {K:Act → Prop} (hend:b_I F w K 0 ops.toList a0):K a:=by
  have hB':=hB
  simp only [a_N,Bool.and_eq_true,decide_eq_true_eq,List.all_eq_true] at hB'
  obtain ⟨⟨hnd,hlt⟩,hacB⟩:=hB'
  have hac:∀ (i:Nat) (o:Oper),ops[i]? = some o → ∀ e ∈ o.after,Region.binds .any e = true → e.on < i:=by
    intro i o ho e he hb
    have:=hacB (o,i) (by
      rw [List.mem_zipIdx_iff_getElem?]
      simpa using ho)
    simp only [Array.all_eq_true_iff_forall_mem] at this
    have:=this e he
    simpa [hb] using this
  have hall:=c_y h.size hac hr
  have key:∀ (l:List Oper) (k:Nat) (b:Act),(∀ j,l[j]? = ops.toList[k + j]?) → b.tmps.size = a.tmps.size → b.defers = a.defers →
      (∀ t,(∀ (j:Nat) (o:Oper),l[j]? = some o → o.dst ≠ some t) → b.tmps[t]? = a.tmps[t]?) → b_I F w K k l b → K a:=by
    intro l
    induction l with
    | nil =>
      intro k b _ hs hd ht he
      have:b = a:=by
        obtain ⟨bt,bd⟩:=b
        obtain ⟨at_,ad⟩:=a
        simp only at hd
        subst hd
        have:bt = at_:=Array.ext_getElem? fun t=>ht t (fun j o hj=>by simp at hj)
        rw [this]
      rw [← this]
      exact he
    | cons o l ih =>
      intro k b hl hs hd ht he
      have h0:ops[k]? = some o:=by simpa using (hl 0).symm
      have hl':∀ j,l[j]? = ops.toList[k + 1 + j]?:=fun j=>by have:=hl (j + 1);simpa [Nat.add_assoc,Nat.add_comm 1 j] using this
      unfold b_I at he
      cases hod:o.dst with
      | none =>
        rw [hod] at he
        have he:=he (h.doneN k o (hall k (by
          rcases Nat.lt_or_ge k ops.size with hk | hk
          · exact hk
          · rw [Array.getElem?_eq_none hk] at h0;cases h0)) h0 hod)
        exact ih (k + 1) b hl' hs hd (fun t hn=>ht t (fun j p hj=>by
          match j,hj with
          | 0,hj=>simp at hj;subst hj;simp [hod]
          | j + 1,hj=>exact hn j p (by simpa using hj))) he
      | some d =>
        rw [hod] at he
        obtain ⟨v,hv,hF⟩:=h.done k o d (hall k (by
          rcases Nat.lt_or_ge k ops.size with hk | hk
          · exact hk
          · rw [Array.getElem?_eq_none hk] at h0;cases h0)) h0 hod
        refine ih (k + 1) (b.put (some d) v) hl' (by simp [Act.put,hs]) (by simp [Act.put,hd]) (fun t hn=>?_) (he v hF)
        by_cases hdt:d = t
        · subst hdt
          have hlt':d < b.tmps.size:=by rw [hs,h.tsize];exact hlt d (b_w h0 hod)
          simp [Act.put,hlt',hv]
        · simp only [Act.put]
          rw [Array.getElem?_setIfInBounds_ne hdt]
          refine ht t (fun j p hj=>?_)
          match j,hj with
          | 0,hj=>simp at hj;subst hj;simpa [hod] using hdt
          | j + 1,hj=>exact hn j p (by simpa using hj)
  refine key ops.toList 0 a0 (by simp) h.tsize.symm h.defers.symm (fun t hn=>(h.keep t (fun hm=>?_)).symm) hend
  unfold b_j at hm
  obtain ⟨o,hmo,hd⟩:=List.mem_filterMap.1 hm
  obtain ⟨j,hj⟩:=List.getElem?_of_mem hmo
  exact hn j o hj hd
abbrev WAny (P:Program) (l:List Oper) (Q:Exit → Act → World → Prop) (a:Act) (w:World):Prop:=wpAny P .any l.toArray Q l.toArray.size (Array.replicate l.toArray.size false) a { w with drawn:=w.drawn + 1 }
theorem c_A {a0:Act} {w0:World} {l:List Oper} (Fs:List (Value → World → Prop)) (hR0:∀ w,R w w) (hRt:∀ a b c,R a b → R b c → R a c) (hRd:∀ w,R w { w with drawn:=w.drawn + 1 }) (hm:P.follows .mixedOrders = true) (hB:a_N l.toArray a0.tmps.size = true)
    (hst:∀ f ∈ Fs,∀ v w w',R w w' → f v w → f v w')
    (hs:StepsOkR R P l.toArray (fun i=>Fs.getD i (fun _ _=>True)) a0 w0 Q 0 l)
    (hend:∀ W,R w0 W → b_I (fun i=>Fs.getD i (fun _ _=>True)) W (fun a=>Q .normal a W) 0 l a0):WAny P l Q a0 w0:=by
  unfold WAny
  have hst':∀ (i:Nat) v w w',R w w' → (fun i=>Fs.getD i (fun _ _=>True)) i v w → (fun i=>Fs.getD i (fun _ _=>True)) i v w':=by
    intro i v w w' hb hF
    simp only [List.getD_eq_getElem?_getD] at hF ⊢
    cases hi:Fs[i]? with
    | none=>trivial
    | some f=>rw [hi] at hF;exact hst f (List.mem_of_getElem? hi) v w w' hb hF
  refine d_e (I:=RInvR R l.toArray (fun i=>Fs.getD i (fun _ _=>True)) a0 w0) (fun listed a w i h hi=>RInvR.step hR0 hRt hB hst' (by simpa using hs) h hi) (fun listed a w h hr=>RInvR.finish hB h hr (K:=fun a=>Q .normal a w) (by simpa using hend w h.below)) _ _ _ _ ?_ ?_
  · refine Nat.le_trans (List.length_filter_le _ _) (by simp)
  · refine ⟨by simp,rfl,rfl,hRd _,fun _ _=>rfl,fun i o d hl=>?_,fun i o hl=>?_⟩
    rotate_left
    · rcases Nat.lt_or_ge i l.length with hi | hi
      · simp [Array.getD_eq_getD_getElem?,hi] at hl
      · simp [Array.getD_eq_getD_getElem?,Nat.not_lt.2 hi] at hl
    rcases Nat.lt_or_ge i l.length with hi | hi
    · simp [Array.getD_eq_getD_getElem?,hi] at hl
    · simp [Array.getD_eq_getD_getElem?,Nat.not_lt.2 hi] at hl
def a_0 (R:World → World → Prop) (d:Option Nat) (f:Value → World → Prop) (ds:List Deferred) (w:World) (Q:Exit → Act → World → Prop):Exit → Act → World → Prop
  | .normal,a,w'=>a.defers = ds ∧ f (c_S d a) w' ∧ R w w'
  | .outgrown,a,w'=>Q .outgrown a w'
  | _,_,_=>False
theorem c_T {D:List Nat} {F:List (Value → World → Prop)} {F':Nat → Value → World → Prop} {o:Oper} {i:Nat} {ds:List (Nat × Nat)} {f:Value → World → Prop} (hB:a_N ops a0.tmps.size = true) (hsel:Region.noSelect ops = true) (ho:ops[i]? = some o)
    (hd:depsDB D ops o ds = true) (hF:∀ p ∈ ds,F' p.1 = F.getD p.1 (fun _ _=>True)) (hf:F' i = f)
    (h:∀ W,R w0 W → FillDeps F W ds a0 fun A=>wpList P ops (a_0 R o.dst f a0.defers W Q) [o] A W):c_z D R P ops F' a0 w0 Q i o:=by
  intro A W hW hdf hsz hkeep hdeps
  simp only [depsDB,Bool.and_eq_true,List.all_eq_true,beq_iff_eq] at hd
  obtain ⟨hd1,hd2⟩:=hd
  have dep:∀ (l:List Edge),d_d ops F' A W l → ∀ e ∈ l,∀ d,(ops[e.on]?).bind (·.dst) = some d → ∃ v,A.tmps[d]? = some v ∧ F' e.on v W:=by
    intro l
    induction l with
    | nil=>intro _ e he;cases he
    | cons x l ih =>
      intro hl e he d hed
      rcases List.mem_cons.1 he with rfl | h'
      · have:=hl.1
        rw [hed] at this
        exact this
      · exact ih hl.2 e h' d hed
  have hval:∀ p ∈ ds,(F.getD p.1 (fun _ _=>True)) (A.tmps.getD p.2 undef) W:=by
    intro p hp
    obtain ⟨h1,h2⟩:=hd1 p hp
    obtain ⟨e,he,h3⟩:=List.any_eq_true.1 h2
    simp only [Bool.and_eq_true,beq_iff_eq] at h3
    obtain ⟨v,hv,hFv⟩:=dep _ hdeps e (List.mem_filter.2 ⟨he,h3.1⟩) p.2 (by rw [h3.2];exact h1)
    rw [← hF p hp,← h3.2]
    simpa [hv] using hFv
  have hstep:=FillDeps.get (B:=A) ds a0 (h W hW) hval
  generalize hA':a_7 A ds a0 = A' at hstep
  obtain ⟨g1,g2,g3,g4,g5⟩:=b_8 A ds a0 hsz.symm
  rw [hA'] at g1 g2 g3 g4 g5
  have hlook:∀ t ∈ o.looksAt ops,A'.tmps[t]? = A.tmps[t]?:=by
    intro t ht
    have:=hd2 t ht
    by_cases hm:t ∈ D
    · simp only [List.contains_eq_mem,decide_eq_true hm,Bool.not_true,Bool.false_or,List.any_eq_true,beq_iff_eq] at this
      obtain ⟨p,hp,rfl⟩:=this
      exact g5 p hp
    · exact g4 t (hkeep t hm).symm
  have hw:=d_v (ops:=ops) hlook
  have hop:∀ cs b,o.op ≠ .select cs b:=fun cs b=>Region.noSelect_spec hsel i o cs b ho
  have he:execOp A'.eval o = execOp A.eval o:=execOp_congr o hop fun x hx=>eval_same fun t ht=>hlook t (List.mem_append_left _ (List.mem_filterMap.2 ⟨x,by simpa using hx,by simp [ht]⟩))
  have hdlt:∀ d,o.dst = some d → d < A'.tmps.size:=by
    intro d hod
    simp only [a_N,Bool.and_eq_true,decide_eq_true_eq,List.all_eq_true] at hB
    rw [g2,hsz]
    exact hB.1.2 d (b_w ho hod)
  have hslot:∀ v,c_S o.dst (A'.put o.dst v) = match o.dst with | some _=>v | none=>undef:=by
    intro v
    cases hod:o.dst with
    | none=>rfl
    | some d=>simp [c_S,Act.put,hdlt d hod]
  have hout:LetsOut (a_0 R o.dst f a0.defers W Q) → LetsOut Q:=fun ⟨a,w,h⟩=>⟨a,w,h⟩
  rw [hf]
  unfold wpList at hstep
  rw [hw] at hstep
  split
  · rename_i hwt
    rw [if_pos hwt] at hstep
    rcases hstep with hstep | ⟨hasks,hl⟩
    · refine .inl ?_
      unfold Oper.wp at hstep ⊢
      rw [he] at hstep
      have conv:∀ v w',a_0 R o.dst f a0.defers W Q .normal (A'.put o.dst v) w' → ∃ u,A.put o.dst v = A.put o.dst u ∧ (o.dst = none → u = undef) ∧ f u w' ∧ R W w':=by
        intro v w' hr
        obtain ⟨_,h2,h3⟩:=hr
        rw [hslot v] at h2
        cases hod:o.dst with
        | none=>rw [hod] at h2;exact ⟨undef,rfl,fun _=>rfl,h2,h3⟩
        | some d=>rw [hod] at h2;exact ⟨v,rfl,(fun h=>by cases h),h2,h3⟩
      generalize (execOp A.eval o).run P W = r at *
      cases r with
      | ok n w' =>
        cases n <;> simp only [Oper.upon,wpList] at hstep ⊢
        case value u=>exact conv u w' hstep
        case skip=>exact conv undef w' hstep
        case defer d =>
          exfalso
          have h1:=hstep.1
          cases hod:o.dst <;> simp [Act.put,hod,g1] at h1
        case enter fn args =>
          refine Calls.mono hstep fun e w'' h=>?_
          cases e with
          | returned u=>exact conv u w'' h
          | panicked c=>exact h.elim
          | outgrown=>exact hout h
        case row row args=>exact Rows.mono hstep fun u w'' h=>conv u w'' h
      | halt x w' =>
        cases x <;> simp only [Oper.upon] at hstep ⊢
        case panic u=>exact hstep.elim
    · refine .inr ⟨?_,hout hl⟩
      unfold Oper.asks at hasks ⊢
      rw [he] at hasks
      exact hasks
  · rename_i hwt
    rw [if_neg hwt] at hstep
    obtain ⟨_,h2,_⟩:=(show a_0 R o.dst f a0.defers W Q .normal (A'.put o.dst undef) W from hstep)
    rw [hslot undef] at h2
    cases hod:o.dst <;> simpa [hod] using h2
theorem d_3 {F:List (Value → World → Prop)} {F':Nat → Value → World → Prop} {o:Oper} {i:Nat} {ds:List (Nat × Nat)} {f:Value → World → Prop} (hB:a_N ops a0.tmps.size = true) (hsel:Region.noSelect ops = true) (ho:ops[i]? = some o)
    (hd:depsB ops o ds = true) (hF:∀ p ∈ ds,F' p.1 = F.getD p.1 (fun _ _=>True)) (hf:F' i = f)
    (h:∀ W,R w0 W → FillDeps F W ds a0 fun A=>wpList P ops (a_0 R o.dst f a0.defers W Q) [o] A W):d_w R P ops F' a0 w0 Q i o:=c_T (D:=b_j ops) hB hsel ho hd hF hf h
variable {all:List Oper} {F:List (Value → World → Prop)} {o:Oper} {os:List Oper} {ds:List (Nat × Nat)} {D:List (List (Nat × Nat))}
end
def filled (g:Nat) (blk:Obj):Value → World → Prop:=fun _ w=>w.heap[g]? = some blk
end Go.Proofs.YtjinaepmpoclaaaGreatDoor
namespace Go.Proofs.YtjinaepmpoclaaaGreatDoor
open Go.RowKit
inductive GT where
  | int (k:IntKind)
  | bool
  | str
  | sl (e:GT)
  | st (f:GT)
  | pair (a b:GT)
  | arr (n:Nat) (e:GT)
  | raw
structure Sl (α:Type) where
  xs:List α
  cap:Option Nat
@[reducible] def PT:GT → Type
  | .int _=>Int
  | .bool=>Bool
  | .str=>List Int
  | .sl e=>Sl (PT e)
  | .st f=>PT f
  | .pair a b=>PT a × PT b
  | .arr _ e=>List (PT e)
  | .raw=>Value
@[reducible] def GT.sz:GT → Nat
  | .int _=>1
  | .bool=>1
  | .str=>1
  | .sl _=>1
  | .st f=>f.sz
  | .pair a b=>a.sz + b.sz
  | .arr n e=>n * e.sz
  | .raw=>1
def InR (k:IntKind) (x:Int):Prop:=k.min ≤ x ∧ x ≤ k.max
instance (k:IntKind) (x:Int):Decidable (InR k x):=inferInstanceAs (Decidable (k.min ≤ x ∧ x ≤ k.max))
def RowsOf {α:Type} (R:List Value → α → Prop) (sz:Nat) (w:World) (K:Nat → Prop) (A:Option Addr) (xs:List α):Prop :=
  xs = [] ∨ ∃ b off,A = some ⟨b,off,none⟩ ∧ b < w.heap.size ∧ K b ∧ ∀ (j:Nat) (x:α),xs[j]? = some x → ∃ cs,R cs x ∧ cs.length = sz ∧ ∀ (i:Nat) (v:Value),cs[i]? = some v → w.cell? ⟨b,off + j * sz + i,none⟩ = some v
def RepCs:(t:GT) → World → (Nat → Prop) → List Value → PT t → Prop
  | .int k,_,_,cs,x=>cs = [.int k x] ∧ InR k x
  | .bool,_,_,cs,x=>cs = [.bool x]
  | .str,_,_,cs,x=>cs = [.string (strOfNums x)] ∧ Byt x ∧ x.length ≤ 9223372036854775807
  | .sl e,w,K,cs,x=>∃ A n c,cs = [.slice A n c] ∧ x.xs.length = n ∧ n ≤ c ∧ c ≤ 9223372036854775807 ∧ (∀ k,x.cap = some k → c = k) ∧ RowsOf (RepCs e w K) e.sz w K A x.xs
  | .st f,w,K,cs,x=>RepCs f w K cs x
  | .pair a b,w,K,cs,x=>∃ c1 c2,cs = c1 ++ c2 ∧ RepCs a w K c1 x.1 ∧ RepCs b w K c2 x.2
  | .arr n e,w,K,cs,x=>x.length = n ∧ ∃ css:List (List Value),cs = css.flatten ∧ css.length = n ∧ ∀ (j:Nat) c y,css[j]? = some c → x[j]? = some y → RepCs e w K c y
  | .raw,_,_,cs,x=>cs = [x] ∧ x.oneCell' = true
@[reducible] def GT.agg:GT → Bool
  | .st _=>true
  | .arr _ _=>true
  | _=>false
def RepV (t:GT) (w:World) (K:Nat → Prop) (v:Value) (x:PT t):Prop :=
  ∃ cs:List Value,RepCs t w K cs x ∧ v = if t.agg then .agg cs.toArray else cs.headD undef
theorem RepCs.len:∀ {t:GT} {w K cs} {x:PT t},RepCs t w K cs x → cs.length = t.sz
  | .int _,_,_,_,_,h=>by rw [h.1];rfl
  | .bool,_,_,_,_,h=>by rw [h];rfl
  | .str,_,_,_,_,h=>by rw [h.1];rfl
  | .sl _,_,_,_,_,⟨_,_,_,h,_⟩=>by rw [h];rfl
  | .st f,_,_,_,_,h=>RepCs.len (t:=f) h
  | .pair a b,_,_,_,_,⟨_,_,h,h1,h2⟩=>by rw [h,List.length_append,RepCs.len h1,RepCs.len h2]
  | .arr n e,w,K,_,x,⟨hx,css,h,hl,hr⟩=>by
    rw [h,List.length_flatten]
    show _ = n * e.sz
    have key:∀ (l:List (List Value)) (y:List (PT e)),l.length = y.length → (∀ (j:Nat) c z,l[j]? = some c → y[j]? = some z → RepCs e w K c z) → (l.map List.length).sum = l.length * e.sz:=by
      intro l
      induction l with
      | nil=>intro y _ _;simp
      | cons c l ih =>
        intro y hy hh
        match y,hy with
        | z :: y,hy =>
          have h0:=RepCs.len (hh 0 c z rfl rfl)
          have h1:=ih y (by simpa using hy) (fun j c' z' hc hz=>hh (j + 1) c' z' (by simpa using hc) (by simpa using hz))
          rw [List.map_cons,List.sum_cons,h0,h1,List.length_cons,Nat.add_mul,Nat.one_mul,Nat.add_comm]
    rw [key css x (by omega) hr,hl]
  | .raw,_,_,_,_,h=>by rw [h.1];rfl
def Keeps (K:Nat → Prop) (w w':World):Prop:=w.heap.size ≤ w'.heap.size ∧ ∀ p:Addr,p.block < w.heap.size → K p.block → w'.cell? p = w.cell? p
theorem RowsOf.keep {α:Type} {R R':List Value → α → Prop} {sz:Nat} {w w':World} {K K':Nat → Prop} {A:Option Addr} {xs:List α} (h:RowsOf R sz w K A xs) (hR:∀ cs x,R cs x → R' cs x)
    (hk:Keeps K w w') (hK:∀ b,b < w.heap.size → K b → K' b):RowsOf R' sz w' K' A xs:=by
  rcases h with rfl | ⟨b,off,rfl,hb,hKb,hc⟩
  · exact .inl rfl
  · refine .inr ⟨b,off,rfl,by have:=hk.1;omega,hK b hb hKb,fun j x hj=>?_⟩
    obtain ⟨cs,h1,h2,h3⟩:=hc j x hj
    exact ⟨cs,hR _ _ h1,h2,fun i v hv=>(hk.2 ⟨b,_,none⟩ hb hKb).trans (h3 i v hv)⟩
theorem RepCs.keep {w w':World} {K K':Nat → Prop} (hk:Keeps K w w') (hK:∀ b,b < w.heap.size → K b → K' b):∀ {t:GT} {cs} {x:PT t},RepCs t w K cs x → RepCs t w' K' cs x
  | .int _,_,_,h=>h
  | .bool,_,_,h=>h
  | .str,_,_,h=>h
  | .sl e,_,_,⟨A,n,c,h0,h1,h2,h3,h4,h5⟩=>⟨A,n,c,h0,h1,h2,h3,h4,h5.keep (fun cs x h=>RepCs.keep hk hK (t:=e) h) hk hK⟩
  | .st f,_,_,h=>RepCs.keep hk hK (t:=f) h
  | .pair a b,_,_,⟨c1,c2,h,h1,h2⟩=>⟨c1,c2,h,RepCs.keep hk hK (t:=a) h1,RepCs.keep hk hK (t:=b) h2⟩
  | .arr n e,_,_,⟨hx,css,h,hl,hr⟩=>⟨hx,css,h,hl,fun j c y hc hy=>RepCs.keep hk hK (t:=e) (hr j c y hc hy)⟩
  | .raw,_,_,h=>h
theorem RepV.keep {w w':World} {K K':Nat → Prop} {t:GT} {v:Value} {x:PT t} (h:RepV t w K v x) (hk:Keeps K w w') (hK:∀ b,b < w.heap.size → K b → K' b):RepV t w' K' v x :=
  let ⟨cs,h1,h2⟩:=h;⟨cs,h1.keep hk hK,h2⟩
theorem Keeps.refl (K:Nat → Prop) (w:World):Keeps K w w:=⟨Nat.le_refl _,fun _ _ _=>rfl⟩
theorem Keeps.below {K:Nat → Prop} {w w':World} (h:Below w.heap.size w w'):Keeps K w w':=⟨h.size,fun p hp _=>h.cell hp⟩
def RepAt (t:GT) (w:World) (K:Nat → Prop) (p:Addr) (x:PT t):Prop :=
  p.spot = none ∧ ∃ cs,RepCs t w K cs x ∧ ∀ (i:Nat) (v:Value),cs[i]? = some v → w.cell? ⟨p.block,p.off + i,none⟩ = some v
@[reducible] def comp:GT → Nat → GT
  | .pair a _,0=>a
  | .pair _ b,k + 1=>comp b k
  | t,_=>t
@[reducible] def d_I:GT → Nat → Nat
  | .pair _ _,0=>0
  | .pair a b,k + 1=>a.sz + d_I b k
  | _,_=>0
@[reducible] def proj:(t:GT) → (k:Nat) → PT t → PT (comp t k)
  | .pair _ _,0,x=>x.1
  | .pair _ b,k + 1,x=>proj b k x.2
  | .int _,_,x=>x
  | .bool,_,x=>x
  | .str,_,x=>x
  | .sl _,_,x=>x
  | .st _,_,x=>x
  | .arr _ _,_,x=>x
  | .raw,_,x=>x
@[reducible] def upd:(t:GT) → (k:Nat) → PT (comp t k) → PT t → PT t
  | .pair _ _,0,y,x=>(y,x.2)
  | .pair _ b,k + 1,y,x=>(x.1,upd b k y x.2)
  | .int _,_,y,_=>y
  | .bool,_,y,_=>y
  | .str,_,y,_=>y
  | .sl _,_,y,_=>y
  | .st _,_,y,_=>y
  | .arr _ _,_,y,_=>y
  | .raw,_,y,_=>y
theorem RepAt.comp0 {w:World} {K:Nat → Prop}:∀ {t:GT} (k:Nat) {b off:Nat} {x:PT t},RepAt t w K ⟨b,off,none⟩ x → RepAt (comp t k) w K ⟨b,off + d_I t k,none⟩ (proj t k x)
  | .pair a b',0,b,off,x,⟨_,cs,⟨c1,c2,h,h1,h2⟩,hc⟩=>⟨rfl,c1,h1,fun i v hv=>hc i v (by rw [h,List.getElem?_append_left (List.getElem?_eq_some_iff.1 hv).1];exact hv)⟩
  | .pair a b',k + 1,b,off,x,⟨_,cs,⟨c1,c2,h,h1,h2⟩,hc⟩=>by
    have:=RepAt.comp0 (t:=b') (w:=w) (K:=K) k (b:=b) (off:=off + a.sz) (x:=x.2) ⟨rfl,c2,h2,fun i v hv=>by
      have:=hc (a.sz + i) v (by rw [h,List.getElem?_append_right (by rw [h1.len];omega),h1.len];simpa using hv)
      rw [Nat.add_assoc];exact this⟩
    rw [Nat.add_assoc] at this
    exact this
  | .int _,_,_,_,_,h=>h
  | .bool,_,_,_,_,h=>h
  | .str,_,_,_,_,h=>h
  | .sl _,_,_,_,_,h=>h
  | .st _,_,_,_,_,h=>h
  | .arr _ _,_,_,_,_,h=>h
  | .raw,_,_,_,_,h=>h
theorem RepAt.add {w:World} {K:Nat → Prop} {t:GT} (k:Nat) {p:Addr} {x:PT t} (h:RepAt t w K p x):RepAt (Go.Proofs.YtjinaepmpoclaaaGreatDoor.comp t k) w K (p.add (d_I t k)) (proj t k x):=by
  obtain ⟨b,off,spot⟩:=p
  obtain rfl:spot = none:=h.1
  rw [Addr.add_lit]
  exact RepAt.comp0 k h
theorem RepAt.st {w:World} {K:Nat → Prop} {t:GT} {p:Addr} {x:PT t} (h:RepAt (.st t) w K p x):RepAt t w K p x:=h
theorem RepAt.keep {w w':World} {K K':Nat → Prop} {t:GT} {p:Addr} {x:PT t} (h:RepAt t w K p x) (hk:Keeps K w w') (hK:∀ b,b < w.heap.size → K b → K' b)
    (hp:∀ i,i < t.sz → w'.cell? ⟨p.block,p.off + i,none⟩ = w.cell? ⟨p.block,p.off + i,none⟩):RepAt t w' K' p x:=by
  obtain ⟨hs,cs,h1,h2⟩:=h
  exact ⟨hs,cs,h1.keep hk hK,fun i v hv=>(hp i (by rw [← h1.len];exact (List.getElem?_eq_some_iff.1 hv).1)).trans (h2 i v hv)⟩
theorem RowsOf.el {e:GT} {w:World} {K:Nat → Prop} {A:Option Addr} {xs:List (PT e)} (h:RowsOf (RepCs e w K) e.sz w K A xs) {j:Nat} {x:PT e} (hj:xs[j]? = some x) :
    ∃ b off,A = some ⟨b,off,none⟩ ∧ b < w.heap.size ∧ K b ∧ RepAt e w K ⟨b,off + j * e.sz,none⟩ x:=by
  rcases h with rfl | ⟨b,off,rfl,hb,hK,hc⟩
  · simp at hj
  · obtain ⟨cs,h1,_,h3⟩:=hc j x hj
    exact ⟨b,off,rfl,hb,hK,rfl,cs,h1,h3⟩
def rawD:Option TypeDesc → Bool
  | some (.struct _)=>false
  | some (.array _ _)=>false
  | some _=>true
  | none=>false
def tiQ (P:Program):GT → Bool → TypeId → List Field → Nat → Bool
  | .int k,false,T,_,_=>(match P.underlying T with | some (.int k')=>decide (k = k') | _=>false) && (P.info? T).any fun i=>i.size == 1
  | .bool,false,T,_,_=>(match P.underlying T with | some .bool=>true | _=>false) && (P.info? T).any fun i=>i.size == 1
  | .str,false,T,_,_=>(match P.underlying T with | some .string=>true | _=>false) && (P.info? T).any fun i=>i.size == 1
  | .sl e,false,T,_,_=>(match P.underlying T with | some (.slice E)=>tiQ P e false E [] 0 | _=>false) && (P.info? T).any fun i=>i.size == 1
  | .st f,false,T,_,_=>(match P.underlying T with | some (.struct fs)=>tiQ P f true 0 fs.toList 0 | _=>false) && (P.info? T).any fun i=>i.size == f.sz
  | .arr n e,false,T,_,_=>(match P.underlying T with | some (.array n' E)=>n == n' && tiQ P e false E [] 0 | _=>false) && (P.info? T).any fun i=>i.size == n * e.sz
  | .raw,false,T,_,_=>rawD (P.underlying T) && (P.info? T).any fun i=>i.size == 1
  | .pair a b,true,T,f :: fs,o=>tiQ P a false f.type [] 0 && f.offset == o && tiQ P b true T fs (o + a.sz)
  | .pair _ _,_,_,_,_=>false
  | .int k,true,_,[f],o=>f.offset == o && (match P.underlying f.type with | some (.int k')=>decide (k = k') | _=>false) && (P.info? f.type).any fun i=>i.size == 1
  | .bool,true,_,[f],o=>f.offset == o && (match P.underlying f.type with | some .bool=>true | _=>false) && (P.info? f.type).any fun i=>i.size == 1
  | .str,true,_,[f],o=>f.offset == o && (match P.underlying f.type with | some .string=>true | _=>false) && (P.info? f.type).any fun i=>i.size == 1
  | .sl e,true,_,[f],o=>f.offset == o && (match P.underlying f.type with | some (.slice E)=>tiQ P e false E [] 0 | _=>false) && (P.info? f.type).any fun i=>i.size == 1
  | .st g,true,_,[f],o=>f.offset == o && (match P.underlying f.type with | some (.struct fs)=>tiQ P g true 0 fs.toList 0 | _=>false) && (P.info? f.type).any fun i=>i.size == g.sz
  | .arr n e,true,_,[f],o=>f.offset == o && (match P.underlying f.type with | some (.array n' E)=>n == n' && tiQ P e false E [] 0 | _=>false) && (P.info? f.type).any fun i=>i.size == n * e.sz
  | .raw,true,_,[f],o=>f.offset == o && rawD (P.underlying f.type) && (P.info? f.type).any fun i=>i.size == 1
  | _,_,_,_,_=>false
end Go.Proofs.YtjinaepmpoclaaaGreatDoor
namespace Go.Proofs.YtjinaepmpoclaaaGreatDoor
open Go.RowKit
def lk:List (Nat × Value) → Nat → Option Value
  | [],_=>none
  | (i,v) :: l,j=>bif Nat.beq i j then some v else lk l j
def ev (l:List (Nat × Value)):Operand → Option Value
  | .tmp t=>lk l t
  | .const v=>some v
  | .global g=>some (.pointer (some ⟨g,0,none⟩))
  | .func f=>some (.func (.func f) #[] #[])
structure StD (ds:List Deferred) (N:Nat) (a:Act) (l:List (Nat × Value)):Prop where
  size:a.tmps.size = N
  defers:a.defers = ds
  at_:∀ i v,lk l i = some v → a.tmps[i]? = some v
abbrev St (N:Nat) (a:Act) (l:List (Nat × Value)):Prop:=StD [] N a l
section
variable {ds:List Deferred} {N:Nat} {a:Act} {l:List (Nat × Value)} {w:World} {P:Program} {ops:Array Oper} {Q:Exit → Act → World → Prop} {rest:List Oper} {o:Oper} {Kont:Act → World → Prop} {d:Nat}
theorem StD.eval (S:StD ds N a l) {x:Operand} {v:Value} (h:ev l x = some v):a.eval x = v:=by
  cases x with
  | tmp t=>simp [Act.eval,S.at_ t v h]
  | const u=>simpa [ev,Act.eval] using h
  | global g=>simpa [ev,Act.eval] using h
  | func f=>simpa [ev,Act.eval] using h
theorem StD.put (S:StD ds N a l) (hd:d < N) (v:Value):StD ds N (a.put (some d) v) ((d,v) :: l):=by
  refine ⟨by simp [Act.put,S.size],by simp [Act.put,S.defers],fun i u h=>?_⟩
  unfold lk at h
  cases hb:Nat.beq d i with
  | true =>
    rw [hb] at h
    obtain rfl:=Nat.eq_of_beq_eq_true hb
    have:d < a.tmps.size:=by rw [S.size];exact hd
    simpa [Act.put,this] using h
  | false =>
    rw [hb] at h
    have hne:d ≠ i:=fun e=>by subst e;rw [Nat.beq_refl] at hb;cases hb
    simp only [Act.put,Array.getElem?_setIfInBounds_ne hne]
    exact S.at_ i u h
def sub:List (Nat × Value) → List (Nat × Value) → Prop
  | [],_=>True
  | (i,v) :: r,l=>lk l i = some v ∧ sub r l
theorem sub.lk_:∀ {r l:List (Nat × Value)},sub r l → ∀ i u,lk r i = some u → lk l i = some u
  | [],_,_,i,u,h=>by simp [lk] at h
  | (j,v) :: r,l,hs,i,u,h=>by
    unfold lk at h
    cases hb:Nat.beq j i with
    | true =>
      rw [hb] at h
      obtain rfl:=Nat.eq_of_beq_eq_true hb
      have:v = u:=by simpa using h
      rw [← this]
      exact hs.1
    | false=>rw [hb] at h;exact sub.lk_ hs.2 i u h
theorem StD.sub (S:StD ds N a l) {l':List (Nat × Value)} (h:sub l' l):StD ds N a l':=⟨S.size,S.defers,fun i u hi=>S.at_ i u (h.lk_ i u hi)⟩
theorem c_U:∀ (l1:List Oper) {l2:List Oper} {a:Act} {w:World} (M:Act → World → Prop),wpList P ops (Exit.then M Q) l1 a w → (∀ a' w',M a' w' → wpList P ops Q l2 a' w') → wpList P ops Q (l1 ++ l2) a w
  | [],l2,a,w,M,h1,h2=>h2 a w h1
  | o :: l1,l2,a,w,M,h1,h2=>by
    have ih:=fun a w h=>c_U l1 (l2:=l2) (a:=a) (w:=w) M h h2
    show wpList P ops Q (o :: (l1 ++ l2)) a w
    unfold wpList at h1 ⊢
    split
    · rename_i hw
      rw [if_pos hw] at h1
      rcases h1 with h1 | ⟨h1,h3⟩
      · refine .inl ?_
        have:∀ e a w,e ≠ Exit.normal → Exit.then M Q e a w → Q e a w:=by
          intro e a w he h
          cases e <;> first | exact h | exact absurd rfl he
        unfold Oper.wp at h1 ⊢
        generalize (execOp a.eval o).run P w = r at *
        cases r with
        | ok n w' =>
          cases n <;> simp only [Oper.upon] at h1 ⊢ <;> try exact ih _ _ h1
          · refine Calls.mono h1 fun e w'' h=>?_
            cases e with
            | returned v=>exact ih _ _ h
            | panicked c=>exact h
            | outgrown=>obtain ⟨a0,w0,h0⟩:=h;exact ⟨a0,w0,h0⟩
          · exact Rows.mono h1 fun v w'' h=>ih _ _ h
        | halt x w' =>
          cases x <;> simp only [Oper.upon] at h1 ⊢
          exact h1
      · obtain ⟨a0,w0,h0⟩:=h3
        exact .inr ⟨h1,a0,w0,h0⟩
    · rename_i hw
      rw [if_neg hw] at h1
      exact ih _ _ h1
theorem a_A {x:Code} (M:Act → World → Prop) (h1:x.wp P (Exit.then M Q) a w) (h2:∀ a' w',M a' w' → Q .normal a' w'):x.wp P Q a w :=
  wp_mono h1 fun e a' w' h=>by
    cases e with
    | normal=>exact h2 a' w' h
    | _=>exact h
theorem a_s (S:StD ds N a l) {v:Value} {w':World} (hd:o.dst = some d) (hN:Nat.blt d N = true) (hr:(execOp a.eval o).run P w = .ok (.value v) w') (k:∀ a',StD ds N a' ((d,v) :: l) → Kont a' w'):o.wp P a w Kont Q:=by
  unfold Oper.wp
  rw [hr]
  simp only [Oper.upon,hd]
  exact k _ (S.put (by simpa [Nat.blt_eq] using hN) v)
def gtOf:List (TypeId × GT) → TypeId → Option GT
  | [],_=>none
  | (i,g) :: l,j=>bif Nat.beq i j then some g else gtOf l j
def tysOk (P:Program) (tys:List (TypeId × GT)):Bool:=tys.all fun p=>tiQ P p.2 false p.1 [] 0
theorem gtOf.tie:∀ {tys:List (TypeId × GT)} {T:TypeId} {g:GT},tysOk P tys = true → gtOf tys T = some g → tiQ P g false T [] 0 = true
  | [],_,_,_,h=>by simp [gtOf] at h
  | (i,g') :: l,T,g,hok,h=>by
    simp only [tysOk,List.all_cons,Bool.and_eq_true] at hok
    unfold gtOf at h
    cases hb:Nat.beq i T with
    | true =>
      rw [hb] at h
      obtain rfl:=Nat.eq_of_beq_eq_true hb
      have:g' = g:=by simpa using h
      rw [← this]
      exact hok.1
    | false=>rw [hb] at h;exact gtOf.tie (by simpa [tysOk] using hok.2) h
theorem a_Q {k:IntKind} {T:TypeId} (h:tiQ P (.int k) false T [] 0 = true):P.underlying T = some (.int k):=by
  unfold tiQ at h
  simp only [Bool.and_eq_true] at h
  have h1:=h.1
  split at h1
  · rename_i k' hk;simp at h1;rw [hk,h1]
  · cases h1
theorem a_Y {T:TypeId} (h:tiQ P .bool false T [] 0 = true):P.underlying T = some .bool:=by
  unfold tiQ at h
  simp only [Bool.and_eq_true] at h
  have h1:=h.1
  split at h1
  · assumption
  · cases h1
theorem a_R {T:TypeId} (h:tiQ P .str false T [] 0 = true):P.underlying T = some .string:=by
  unfold tiQ at h
  simp only [Bool.and_eq_true] at h
  have h1:=h.1
  split at h1
  · assumption
  · cases h1
theorem a_V {e:GT} {T:TypeId} (h:tiQ P (.sl e) false T [] 0 = true):∃ E,P.underlying T = some (.slice E) ∧ tiQ P e false E [] 0 = true:=by
  unfold tiQ at h
  simp only [Bool.and_eq_true] at h
  have h1:=h.1
  split at h1
  · rename_i E hE;exact ⟨E,hE,h1⟩
  · cases h1
theorem d_x {T:TypeId} (h:tiQ P .raw false T [] 0 = true):∃ d,P.underlying T = some d ∧ (match d with | .struct _ | .array _ _=>true | _=>false) = false:=by
  unfold tiQ at h
  simp only [Bool.and_eq_true] at h
  have h1:=h.1
  cases hu:P.underlying T with
  | none=>rw [hu] at h1;cases h1
  | some d =>
    rw [hu] at h1
    refine ⟨d,rfl,?_⟩
    cases d <;> first | rfl | cases h1
theorem b_s {n:Nat} {e:GT} {T:TypeId} (h:tiQ P (.arr n e) false T [] 0 = true):∃ E,P.underlying T = some (.array n E) ∧ tiQ P e false E [] 0 = true:=by
  unfold tiQ at h
  simp only [Bool.and_eq_true] at h
  have h1:=h.1
  split at h1
  · rename_i n' E hE;simp at h1;exact ⟨E,by rw [hE,h1.1],h1.2⟩
  · cases h1
theorem b_9 {f:GT} {T:TypeId} (h:tiQ P (.st f) false T [] 0 = true):∃ fs,P.underlying T = some (.struct fs) ∧ tiQ P f true 0 fs.toList 0 = true:=by
  unfold tiQ at h
  simp only [Bool.and_eq_true] at h
  have h1:=h.1
  split at h1
  · rename_i fs hfs;exact ⟨fs,hfs,h1⟩
  · cases h1
theorem a_u {t:GT} {T:TypeId} (h:tiQ P t false T [] 0 = true):∃ i,P.info? T = some i ∧ i.size = t.sz:=by
  cases t with
  | pair a b=>simp [tiQ] at h
  | _ =>
    unfold tiQ at h
    simp only [Bool.and_eq_true] at h
    cases hi:P.info? T with
    | none=>rw [hi] at h;simp at h
    | some i=>rw [hi] at h;exact ⟨i,rfl,by simpa using h.2⟩
end
end Go.Proofs.YtjinaepmpoclaaaGreatDoor
namespace Go.Proofs.YtjinaepmpoclaaaGreatDoor
open Go.RowKit
def ckI (k:IntKind) (z:Int):Option Int:=if k.min ≤ z ∧ z ≤ k.max then some z else .none
def a_y (op:BinOp) (k:IntKind) (x y:Int):Int :=
  match op with
  | .and=>k.wrap (BitVec.ofInt k.bits x &&& BitVec.ofInt k.bits y).toNat
  | .or=>k.wrap (BitVec.ofInt k.bits x ||| BitVec.ofInt k.bits y).toNat
  | .xor=>k.wrap (BitVec.ofInt k.bits x ^^^ BitVec.ofInt k.bits y).toNat
  | _=>k.wrap (BitVec.ofInt k.bits x &&& ~~~ BitVec.ofInt k.bits y).toNat
def shlI (k:IntKind) (x y:Int):Option Int:=if 0 ≤ y then some (k.wrap (x * 2 ^ (min y.toNat k.bits))) else .none
def shrI (x y:Int) (k:IntKind):Option Int:=if 0 ≤ y then some (x.fdiv (2 ^ (min y.toNat k.bits))) else .none
def quoI (k:IntKind) (x y:Int):Option Int:=if y = 0 then .none else ckI k (x.tdiv y)
def d_b (k:IntKind) (x y:Int):Option Int:=if y = 0 then .none else ckI k (x.tmod y)
def idx {α:Type} (xs:List α) (i:Int):Option α:=if 0 ≤ i then xs[i.toNat]? else .none
def capO {α:Type} (s:Sl α):Option Int:=s.cap.map fun c=>(c:Int)
def a_d {α:Type} (s:Sl α):Int:=(s.xs.length:Int)
def b_i (s:List Int):Int:=(s.length:Int)
theorem b_x (k:IntKind) {z:Int} (h0:k.min ≤ z) (h1:z ≤ k.max):k.wrap z = z:=by
  cases k <;> simp [IntKind.min,IntKind.max,IntKind.wrap,IntKind.signed,IntKind.bits] at * <;> omega
theorem a_1 (k:IntKind) (n:Int):InR k (k.wrap n):=wrap_within k n
theorem a_j {k:IntKind} {z y:Int} (h:ckI k z = some y):z = y ∧ InR k y ∧ k.wrap z = y:=by
  unfold ckI at h
  split at h
  · rename_i hr
    obtain rfl:=Option.some.inj h
    exact ⟨rfl,hr,b_x k hr.1 hr.2⟩
  · cases h
theorem inR_bits {op:BinOp} {k:IntKind} {x y:Int}:InR k (a_y op k x y):=by
  unfold a_y
  split <;> exact a_1 _ _
theorem inR_rem {k:IntKind} {x y z:Int} (h:d_b k x y = some z):InR k z:=by
  unfold d_b at h
  split at h
  · cases h
  · exact (a_j h).2.1
theorem c_N {k k':IntKind} {x:Int} (h:InR k x) (hk:k'.min ≤ k.min ∧ k.max ≤ k'.max):k'.wrap x = x ∧ InR k' x :=
  have h1:k'.min ≤ x:=Int.le_trans hk.1 h.1
  have h2:x ≤ k'.max:=Int.le_trans h.2 hk.2
  ⟨b_x k' h1 h2,h1,h2⟩
def strB (l:List Int):Bool:=l.all fun z=>decide (0 ≤ z ∧ z ≤ 255)
theorem strG (l:List Int) (h:strB l = true) (hl:Nat.ble l.length 9223372036854775807 = true):Byt l ∧ l.length ≤ 9223372036854775807 :=
  ⟨fun z hz=>by simpa using List.all_eq_true.1 h z hz,Nat.le_of_ble_eq_true hl⟩
def intBin (op:BinOp) (k:IntKind) (x y:Int):Option Value :=
  match op with
  | .eql=>some (.bool (x == y))
  | .neq=>some (.bool (x != y))
  | .lss=>some (.bool (decide (x < y)))
  | .leq=>some (.bool (decide (x ≤ y)))
  | .gtr=>some (.bool (decide (x > y)))
  | .geq=>some (.bool (decide (x ≥ y)))
  | .add=>if k.signed then .none else some (.int k (k.wrap (x + y)))
  | .sub=>if k.signed then .none else some (.int k (k.wrap (x - y)))
  | .mul=>if k.signed then .none else some (.int k (k.wrap (x * y)))
  | .and=>some (.int k (a_y .and k x y))
  | .or=>some (.int k (a_y .or k x y))
  | .xor=>some (.int k (a_y .xor k x y))
  | .andNot=>some (.int k (a_y .andNot k x y))
  | _=>.none
def pureOp (tys:List (TypeId × GT)) (l:List (Nat × Value)):Op → Option Value
  | .move x=>ev l x
  | .assign x=>ev l x
  | .pick c x y=>match ev l c with | some (.bool true)=>ev l x | some (.bool false)=>ev l y | _=>.none
  | .extract t i=>match ev l t with | some (.tuple vs)=>vs[i]? | _=>.none
  | .nilCheck x=>match ev l x with | some (.pointer (some p))=>some (.pointer (some p)) | _=>.none
  | .unOp .not _ x=>match ev l x with | some (.bool b)=>some (.bool !b) | _=>.none
  | .binOp op T x y _=>match gtOf tys T with
    | some (.int _)=>(match ev l x,ev l y with | some (.int k x),some (.int k' y)=>(if k = k' then intBin op k x y else .none) | _,_=>.none)
    | some .bool=>(match ev l x,ev l y with | some (.bool x),some (.bool y)=>(match op with | .eql=>some (.bool (x == y)) | .neq=>some (.bool (!(x == y))) | _=>.none) | _,_=>.none)
    | _=>.none
  | .convert src dst x=>match gtOf tys src,gtOf tys dst,ev l x with | some (.int _),some (.int k),some (.int _ n)=>some (.int k (k.wrap n)) | _,_,_=>.none
  | .fieldAddr T x k=>match gtOf tys T,ev l x with | some (.st f),some (.pointer (some p))=>if Nat.blt 0 (comp f k).sz && fieldB f k then some (.pointer (some (p.add (d_I f k)))) else .none | _,_=>.none
  | _=>.none
where fieldB:GT → Nat → Bool
  | .pair _ _,0=>true
  | .pair _ b,k + 1=>fieldB b k
  | _,0=>true
  | _,_=>false
section
variable {ds:List Deferred} {N:Nat} {a:Act} {l:List (Nat × Value)} {w:World} {P:Program} {ops:Array Oper} {Q:Exit → Act → World → Prop} {rest:List Oper} {o:Oper} {Kont:Act → World → Prop} {d:Nat}
theorem a_X:∀ {f:GT} {k:Nat} {T:TypeId} {fs:List Field} {off:Nat},tiQ P f true T fs off = true → pureOp.fieldB f k = true → ∃ fld,fs[k]? = some fld ∧ fld.offset = off + d_I f k ∧ ∃ i,P.info? fld.type = some i ∧ i.size = (comp f k).sz
  | .pair a b,0,T,fs,off,h,_=>by
    cases fs with
    | nil=>simp [tiQ] at h
    | cons f fs =>
      simp only [tiQ,Bool.and_eq_true,beq_iff_eq] at h
      obtain ⟨i,hi,hs⟩:=a_u h.1.1
      exact ⟨f,rfl,by simpa [d_I] using h.1.2,i,hi,hs⟩
  | .pair a b,k + 1,T,fs,off,h,hk=>by
    cases fs with
    | nil=>simp [tiQ] at h
    | cons f fs =>
      simp only [tiQ,Bool.and_eq_true,beq_iff_eq] at h
      obtain ⟨fld,h1,h2,h3⟩:=a_X h.2 (k:=k) (by simpa [pureOp.fieldB] using hk)
      exact ⟨fld,by simpa using h1,by rw [h2,Nat.add_assoc],h3⟩
  | .int _,0,T,fs,off,h,_=>by
    match fs with
    | []=>simp [tiQ] at h
    | [f] =>
      simp only [tiQ,Bool.and_eq_true,beq_iff_eq] at h
      refine ⟨f,rfl,h.1.1,?_⟩
      cases hi:P.info? f.type with
      | none=>simp [hi] at h
      | some i=>simp [hi] at h;exact ⟨i,rfl,h.2⟩
    | _ :: _ :: _=>simp [tiQ] at h
  | .bool,0,T,fs,off,h,_=>by
    match fs with
    | []=>simp [tiQ] at h
    | [f] =>
      simp only [tiQ,Bool.and_eq_true,beq_iff_eq] at h
      refine ⟨f,rfl,h.1.1,?_⟩
      cases hi:P.info? f.type with
      | none=>simp [hi] at h
      | some i=>simp [hi] at h;exact ⟨i,rfl,h.2⟩
    | _ :: _ :: _=>simp [tiQ] at h
  | .str,0,T,fs,off,h,_=>by
    match fs with
    | []=>simp [tiQ] at h
    | [f] =>
      simp only [tiQ,Bool.and_eq_true,beq_iff_eq] at h
      refine ⟨f,rfl,h.1.1,?_⟩
      cases hi:P.info? f.type with
      | none=>simp [hi] at h
      | some i=>simp [hi] at h;exact ⟨i,rfl,h.2⟩
    | _ :: _ :: _=>simp [tiQ] at h
  | .sl _,0,T,fs,off,h,_=>by
    match fs with
    | []=>simp [tiQ] at h
    | [f] =>
      simp only [tiQ,Bool.and_eq_true,beq_iff_eq] at h
      refine ⟨f,rfl,h.1.1,?_⟩
      cases hi:P.info? f.type with
      | none=>simp [hi] at h
      | some i=>simp [hi] at h;exact ⟨i,rfl,h.2⟩
    | _ :: _ :: _=>simp [tiQ] at h
  | .st g,0,T,fs,off,h,_=>by
    match fs with
    | []=>simp [tiQ] at h
    | [f] =>
      simp only [tiQ,Bool.and_eq_true,beq_iff_eq] at h
      refine ⟨f,rfl,h.1.1,?_⟩
      cases hi:P.info? f.type with
      | none=>simp [hi] at h
      | some i=>simp [hi] at h;exact ⟨i,rfl,h.2⟩
    | _ :: _ :: _=>simp [tiQ] at h
  | .arr n e,0,T,fs,off,h,_=>by
    match fs with
    | []=>simp [tiQ] at h
    | [f] =>
      simp only [tiQ,Bool.and_eq_true,beq_iff_eq] at h
      refine ⟨f,rfl,h.1.1,?_⟩
      cases hi:P.info? f.type with
      | none=>simp [hi] at h
      | some i=>simp [hi] at h;exact ⟨i,rfl,h.2⟩
    | _ :: _ :: _=>simp [tiQ] at h
  | .raw,0,T,fs,off,h,_=>by
    match fs with
    | []=>simp [tiQ] at h
    | [f] =>
      simp only [tiQ,Bool.and_eq_true,beq_iff_eq] at h
      refine ⟨f,rfl,h.1.1,?_⟩
      cases hi:P.info? f.type with
      | none=>simp [hi] at h
      | some i=>simp [hi] at h;exact ⟨i,rfl,h.2⟩
    | _ :: _ :: _=>simp [tiQ] at h
  | .int _,_ + 1,_,_,_,_,h=>by simp [pureOp.fieldB] at h
  | .bool,_ + 1,_,_,_,_,h=>by simp [pureOp.fieldB] at h
  | .str,_ + 1,_,_,_,_,h=>by simp [pureOp.fieldB] at h
  | .sl _,_ + 1,_,_,_,_,h=>by simp [pureOp.fieldB] at h
  | .st _,_ + 1,_,_,_,_,h=>by simp [pureOp.fieldB] at h
  | .arr _ _,_ + 1,_,_,_,_,h=>by simp [pureOp.fieldB] at h
  | .raw,_ + 1,_,_,_,_,h=>by simp [pureOp.fieldB] at h
theorem a_J (op:BinOp) (T:TypeId) (x y:Operand) (k k':IntKind) (m n:Int):(eqGuard op T x y (.int k m) (.int k' n)).run P w = .ok () w:=by
  cases op <;> simp [eqGuard]
theorem c_u (op:BinOp) (T:TypeId) (x y:Operand) (m n:Bool):(eqGuard op T x y (.bool m) (.bool n)).run P w = .ok () w:=by
  cases op <;> simp [eqGuard]
theorem b_J (op:BinOp) (T:TypeId) (x y:Operand) (m n:ByteArray):(eqGuard op T x y (.string m) (.string n)).run P w = .ok () w:=by
  cases op <;> simp [eqGuard]
theorem d_4 (op:BinOp) (T:TypeId) (k:IntKind) (x y:Int) {v:Value} (h:intBin op k x y = some v):(binOp op T (.int k x) (.int k y)).run P w = .ok v w:=by
  cases op <;> simp only [intBin,Option.some.injEq,reduceCtorEq] at h <;> first
    | (subst h;simp [binOp,Op.intCmp,Op.intBits,a_y])
    | (split at h
       · cases h
       · simp only [Option.some.injEq] at h;subst h;simp [binOp,Op.intArith])
theorem b_1 (T:TypeId) (h:P.underlying T = some .bool) (x y:Bool):(Op.equal T (.bool x) (.bool y)).run P w = .ok (x == y) w:=by
  show (Op.equalIn (9999 + 1) T (.bool x) (.bool y)).run P w = _
  rw [Op.equalIn]
  simp only [Sem.run_bind,run_underlying h,Result.andThen_ok]
  rfl
theorem d_f (T:TypeId) (h:P.underlying T = some .bool) (x y:Bool):(binOp .eql T (.bool x) (.bool y)).run P w = .ok (.bool (x == y)) w:=by
  show (do pure (Value.bool (← Op.equal T (.bool x) (.bool y))):Sem Value).run P w = _
  simp only [Sem.run_bind,b_1 T h,Result.andThen_ok]
  rfl
theorem d_g (T:TypeId) (h:P.underlying T = some .bool) (x y:Bool):(binOp .neq T (.bool x) (.bool y)).run P w = .ok (.bool (!(x == y))) w:=by
  show (do pure (Value.bool (!(← Op.equal T (.bool x) (.bool y)))):Sem Value).run P w = _
  simp only [Sem.run_bind,b_1 T h,Result.andThen_ok]
  rfl
theorem c_B (S:StD ds N a l) (o:Oper) (tys:List (TypeId × GT)) (ht:tysOk P tys = true) {v:Value} (h:pureOp tys l o.op = some v):(execOp a.eval o).run P w = .ok (.value v) w:=by
  cases hop:o.op with
  | move x=>rw [hop] at h;simp [execOp,hop,S.eval h]
  | assign x=>rw [hop] at h;simp [execOp,hop,S.eval h]
  | pick c x y =>
    rw [hop] at h
    simp only [pureOp] at h
    split at h
    · rename_i hc;simp [execOp,hop,S.eval hc,S.eval h,asBool]
    · rename_i hc;simp [execOp,hop,S.eval hc,S.eval h,asBool]
    · cases h
  | extract t i =>
    rw [hop] at h
    simp only [pureOp] at h
    split at h
    · rename_i vs hc
      simp [execOp,hop,S.eval hc,Instr.extract,h]
    · cases h
  | nilCheck x =>
    rw [hop] at h
    simp only [pureOp] at h
    split at h
    · rename_i p hc
      obtain rfl:=Option.some.inj h
      simp [execOp,hop,S.eval hc]
    · cases h
  | unOp u T x =>
    rw [hop] at h
    cases u <;> simp only [pureOp,reduceCtorEq] at h
    split at h
    · rename_i b hb
      obtain rfl:=Option.some.inj h
      simp [execOp,hop,S.eval hb,Op.unary]
    · cases h
  | binOp op T x y T' =>
    rw [hop] at h
    simp only [pureOp] at h
    split at h
    · rename_i k0 hg
      split at h
      · rename_i k x' k' y' hx hy
        split at h
        · rename_i hk
          subst hk
          simp [execOp,hop,S.eval hx,S.eval hy,a_J,d_4 op T k x' y' h]
        · cases h
      · cases h
    · rename_i hg
      have htie:=a_Y (gtOf.tie ht hg)
      split at h
      · rename_i x' y' hx hy
        cases op <;> simp only [Option.some.injEq,reduceCtorEq] at h <;>
          (subst h
           simp [execOp,hop,S.eval hx,S.eval hy,c_u,d_f _ htie,d_g _ htie])
      · cases h
    · cases h
  | convert src dst x =>
    rw [hop] at h
    simp only [pureOp] at h
    split at h
    · rename_i k0 k k' n hg0 hg hx
      obtain rfl:=Option.some.inj h
      have h1:=a_Q (gtOf.tie ht hg)
      have h0:=a_Q (gtOf.tie ht hg0)
      simp [execOp,hop,S.eval hx,convert,run_underlying h0,run_underlying h1,Conv.intToInt]
    · cases h
  | fieldAddr T x k =>
    rw [hop] at h
    simp only [pureOp] at h
    split at h
    · rename_i f p hg hx
      split at h
      · rename_i hb
        simp only [Bool.and_eq_true,Nat.blt_eq] at hb
        obtain rfl:=Option.some.inj h
        obtain ⟨fs,hfs,htf⟩:=b_9 (gtOf.tie ht hg)
        obtain ⟨fld,h1,h2,i,hi,his⟩:=a_X htf hb.2
        have h1':fs[k]? = some fld:=by simpa using h1
        have hz:i.size ≠ 0:=by rw [his];omega
        simp [execOp,hop,S.eval hx,Instr.fieldAt,run_underlying hfs,h1',Instr.sureAddr,fieldPlace,sizeOf,typeInfo,hi,hz,h2]
      · cases h
    · cases h
  | _=>rw [hop] at h;simp [pureOp] at h
end
end Go.Proofs.YtjinaepmpoclaaaGreatDoor
namespace Go.Proofs.YtjinaepmpoclaaaGreatDoor
open Go.RowKit
def Kx (K:Nat → Prop) (n:Nat) (L:List (Option Nat)):Nat → Prop:=fun b=>(K b ∨ n ≤ b) ∧ some b ∉ L
def NoK:Nat → Prop:=fun _=>False
structure Wd (w0 w:World) (L:List (Option Nat)):Prop where
  below:Below w0.heap.size w0 w
  own:∀ b,some b ∈ L → w0.heap.size ≤ b ∧ b < w.heap.size
  dis:L.Pairwise fun x y=>x = .none ∨ x ≠ y
structure NewB (w w':World) (b:Nat):Prop where
  below:Below w.heap.size w w'
  ge:w.heap.size ≤ b
  lt:b < w'.heap.size
structure Wrote (b:Nat) (w w':World):Prop where
  os:w'.os = w.os
  tape:w'.tape = w.tape
  output:w'.output = w.output
  size:w'.heap.size = w.heap.size
  block:∀ k,k ≠ b → w'.heap[k]? = w.heap[k]?
theorem Wd.start (w:World):Wd w w []:=⟨Below.refl _ _,fun b h=>(List.not_mem_nil h).elim,List.Pairwise.nil⟩
section
variable {w0 w w':World} {L:List (Option Nat)} {K:Nat → Prop} {n b:Nat} {t:GT}
theorem Wd.step (h:Wd w0 w L) (hb:Below w.heap.size w w'):Wd w0 w' L :=
  ⟨h.below.trans (hb.mono h.below.size),fun b hm=>⟨(h.own b hm).1,by have:=(h.own b hm).2;have:=hb.size;omega⟩,h.dis⟩
theorem Wd.box (h:Wd w0 w L) (hb:NewB w w' b):Wd w0 w' (some b :: L):=by
  refine ⟨h.below.trans (hb.below.mono h.below.size),fun c hm=>?_,List.pairwise_cons.2 ⟨fun y hy=>?_,h.dis⟩⟩
  · rcases List.mem_cons.1 hm with e | hm
    · obtain rfl:=Option.some.inj e
      have:=hb.ge;have:=h.below.size
      exact ⟨by omega,hb.lt⟩
    · have h1:=h.own c hm
      have h2:=hb.below.size
      exact ⟨h1.1,by omega⟩
  · refine .inr fun e=>?_
    subst e
    have:=(h.own b hy).2;have:=hb.ge
    omega
theorem Wd.wrote (h:Wd w0 w L) (hw:Wrote b w w') (hb:some b ∈ L):Wd w0 w' L :=
  ⟨h.below.trans ⟨hw.os,hw.tape,hw.output,Nat.le_of_eq hw.size.symm,fun k hk=>hw.block k (by have:=(h.own b hb).1;omega)⟩,fun c hm=>by rw [hw.size];exact h.own c hm,h.dis⟩
theorem RepV.step {v:Value} {x:PT t} (h:RepV t w K v x) (hb:Below w.heap.size w w'):RepV t w' K v x:=h.keep (Keeps.below hb) fun _ _ h=>h
theorem RepV.box {v:Value} {x:PT t} (h:RepV t w (Kx K n L) v x) (hb:NewB w w' b):RepV t w' (Kx K n (some b :: L)) v x :=
  h.keep (Keeps.below hb.below) fun c hc hk=>⟨hk.1,fun hm=>by
    rcases List.mem_cons.1 hm with e | hm
    · obtain rfl:=Option.some.inj e;have:=hb.ge;omega
    · exact hk.2 hm⟩
theorem Keeps.wrote (hw:Wrote b w w') (hb:some b ∈ L):Keeps (Kx K n L) w w' :=
  ⟨Nat.le_of_eq hw.size.symm,fun p _ hk=>World.cell?_of_block (hw.block p.block fun e=>hk.2 (by rw [e];exact hb))⟩
theorem RepV.wrote {v:Value} {x:PT t} (h:RepV t w (Kx K n L) v x) (hw:Wrote b w w') (hb:some b ∈ L):RepV t w' (Kx K n L) v x:=h.keep (Keeps.wrote hw hb) fun _ _ h=>h
theorem RepV.arg {v:Value} {x:PT t} (h:RepV t w K v x):RepV t w (Kx K w.heap.size []) v x:=h.keep (Keeps.refl _ _) fun _ _ h=>⟨.inl h,fun h=>(List.not_mem_nil h).elim⟩
theorem RepV.all {v:Value} {x:PT t} (h:RepV t w K v x):RepV t w (fun _=>True) v x:=h.keep (Keeps.refl _ _) fun _ _ _=>trivial
theorem RepV.weak {v:Value} {x:PT t} (h:RepV t w (Kx NoK n L) v x):RepV t w (Kx K n L) v x:=h.keep (Keeps.refl _ _) fun _ _ h=>⟨.inr (h.1.resolve_left id),h.2⟩
theorem RepV.new {w1:World} {v:Value} {x:PT t} (h:RepV t w' (Kx NoK w.heap.size []) v x) (hw:Wd w1 w L):RepV t w' (Kx NoK w1.heap.size L) v x :=
  h.keep (Keeps.refl _ _) fun c _ hk=>by
    have h1:w.heap.size ≤ c:=hk.1.resolve_left id
    have h2:=hw.below.size
    exact ⟨.inr (by omega),fun hm=>by have:=(hw.own c hm).2;omega⟩
theorem RepV.back {w1:World} {v:Value} {x:PT t} (h:RepV t w' (Kx (Kx K w1.heap.size L) w.heap.size []) v x) (hw:Wd w1 w L):RepV t w' (Kx K w1.heap.size L) v x :=
  h.keep (Keeps.refl _ _) fun c _ hk=>by
    rcases hk.1 with h1 | h1
    · exact h1
    · have h2:=hw.below.size
      exact ⟨.inr (by omega),fun hm=>by have:=(hw.own c hm).2;omega⟩
theorem RepV.out {v:Value} {x:PT t} (h:RepV t w' (Kx K n L) v x):RepV t w' (Kx K n []) v x:=h.keep (Keeps.refl _ _) fun c _ hk=>⟨hk.1,fun h=>(List.not_mem_nil h).elim⟩
def Bx (t:GT) (T:TypeId) (w:World) (K:Nat → Prop) (b:Nat) (x:PT t):Prop:=∃ cs:List Value,w.heap[b]? = some (.cells cs.toArray T (0,0)) ∧ RepCs t w K cs x
variable {T:TypeId} {x:PT t}
theorem Bx.at_ (h:Bx t T w K b x):RepAt t w K ⟨b,0,.none⟩ x:=by
  obtain ⟨cs,h1,h2⟩:=h
  refine ⟨rfl,cs,h2,fun i v hv=>?_⟩
  show w.cell? ⟨b,0 + i,.none⟩ = _
  rw [Nat.zero_add,cell_of_row w b i _ T (0,0) h1]
  simpa using hv
theorem Bx.lt (h:Bx t T w K b x):b < w.heap.size:=by obtain ⟨cs,h1,_⟩:=h;exact (Array.getElem?_eq_some_iff.1 h1).1
theorem Bx.step (h:Bx t T w K b x) (hb:Below w.heap.size w w'):Bx t T w' K b x:=by
  have hl:=h.lt
  obtain ⟨cs,h1,h2⟩:=h
  exact ⟨cs,(hb.block b hl).trans h1,h2.keep (Keeps.below hb) fun _ _ h=>h⟩
theorem Bx.box {c:Nat} (h:Bx t T w (Kx K n L) b x) (hb:NewB w w' c):Bx t T w' (Kx K n (some c :: L)) b x:=by
  have hl:=h.lt
  obtain ⟨cs,h1,h2⟩:=h
  exact ⟨cs,(hb.below.block b hl).trans h1,h2.keep (Keeps.below hb.below) fun d hc hk=>⟨hk.1,fun hm=>by
    rcases List.mem_cons.1 hm with e | hm
    · obtain rfl:=Option.some.inj e;have:=hb.ge;omega
    · exact hk.2 hm⟩⟩
theorem Bx.wrote {c:Nat} (h:Bx t T w (Kx K n L) b x) (hw:Wrote c w w') (hb:some c ∈ L) (hne:b ≠ c):Bx t T w' (Kx K n L) b x:=by
  obtain ⟨cs,h1,h2⟩:=h
  exact ⟨cs,(hw.block b hne).trans h1,h2.keep (Keeps.wrote hw hb) fun _ _ h=>h⟩
end
def d_c (t:GT) (w:World) (K:Nat → Prop) (r:PT t):Ending → World → Prop:=fun e w'=>∃ v,e = .returned v ∧ RepV t w' K v r ∧ Below w.heap.size w w'
def Ret2 (t u:GT) (w:World) (K:Nat → Prop) (r:PT t × PT u):Ending → World → Prop:=fun e w'=>∃ v1 v2,e = .returned (.tuple #[v1,v2]) ∧ RepV t w' K v1 r.1 ∧ RepV u w' K v2 r.2 ∧ Below w.heap.size w w'
def Ret3 (t u s:GT) (w:World) (K:Nat → Prop) (r:PT t × PT u × PT s):Ending → World → Prop:=fun e w'=>∃ v1 v2 v3,e = .returned (.tuple #[v1,v2,v3]) ∧ RepV t w' K v1 r.1 ∧ RepV u w' K v2 r.2.1 ∧ RepV s w' K v3 r.2.2 ∧ Below w.heap.size w w'
theorem RepV.int {k:IntKind} {w:World} {K:Nat → Prop} {v:Value} {x:Int} (h:RepV (.int k) w K v x):v = .int k x ∧ InR k x:=by
  obtain ⟨cs,⟨rfl,h1⟩,rfl⟩:=h;exact ⟨rfl,h1⟩
theorem RepV.bool {w:World} {K:Nat → Prop} {v:Value} {x:Bool} (h:RepV .bool w K v x):v = .bool x:=by
  obtain ⟨cs,h1,rfl⟩:=h
  have:cs = [.bool x]:=h1
  rw [this];rfl
theorem RepV.str {w:World} {K:Nat → Prop} {v:Value} {x:List Int} (h:RepV .str w K v x):v = .string (strOfNums x) ∧ Byt x ∧ x.length ≤ 9223372036854775807:=by
  obtain ⟨cs,⟨rfl,h1⟩,rfl⟩:=h;exact ⟨rfl,h1⟩
theorem RepV.mkInt {k:IntKind} {w:World} {K:Nat → Prop} {x:Int} (h:InR k x):RepV (.int k) w K (.int k x) x:=⟨[.int k x],⟨rfl,h⟩,rfl⟩
theorem RepV.mkBool {w:World} {K:Nat → Prop} {x:Bool}:RepV .bool w K (.bool x) x:=⟨[.bool x],rfl,rfl⟩
theorem RepV.mkStr {w:World} {K:Nat → Prop} {x:List Int} (h:Byt x ∧ x.length ≤ 9223372036854775807):RepV .str w K (.string (strOfNums x)) x:=⟨[.string (strOfNums x)],⟨rfl,h⟩,rfl⟩
theorem RepV.sl {e:GT} {w:World} {K:Nat → Prop} {v:Value} {x:Sl (PT e)} (h:RepV (.sl e) w K v x) :
    ∃ A n c,v = .slice A n c ∧ x.xs.length = n ∧ n ≤ c ∧ c ≤ 9223372036854775807 ∧ (∀ k,x.cap = some k → c = k) ∧ RowsOf (RepCs e w K) e.sz w K A x.xs:=by
  obtain ⟨cs,⟨A,n,c,rfl,h⟩,rfl⟩:=h;exact ⟨A,n,c,rfl,h⟩
theorem RepV.nil {e:GT} {w:World} {K:Nat → Prop}:RepV (.sl e) w K (.slice .none 0 0) ⟨[],some 0⟩ :=
  ⟨[.slice .none 0 0],⟨.none,0,0,rfl,rfl,Nat.le_refl _,by omega,fun k h=>Option.some.inj h,.inl rfl⟩,rfl⟩
def GT.isPair:GT → Bool
  | .pair _ _=>true
  | _=>false
theorem RepV.cells {t:GT} {w:World} {K:Nat → Prop} {v:Value} {x:PT t} (h:RepV t w K v x) (hp:t.isPair = false):RepCs t w K v.cells.toList x:=by
  obtain ⟨cs,h1,rfl⟩:=h
  cases t with
  | st f=>simpa [Value.cells,GT.agg] using h1
  | arr m e=>simpa [Value.cells,GT.agg] using h1
  | int k=>obtain ⟨rfl,h2⟩:=h1;exact ⟨rfl,h2⟩
  | bool=>have h1:cs = _:=h1;subst h1;rfl
  | str=>obtain ⟨rfl,h2⟩:=h1;exact ⟨rfl,h2⟩
  | sl e=>obtain ⟨A,m,c,rfl,h2⟩:=h1;exact ⟨A,m,c,rfl,h2⟩
  | raw=>obtain ⟨rfl,h2⟩:=h1;refine ⟨?_,h2⟩;revert h2;show x.oneCell' = true → x.cells.toList = [x];cases x <;> intro h2 <;> first | rfl | cases h2
  | pair a b=>cases hp
section
variable {ds:List Deferred} {N:Nat} {a:Act} {l:List (Nat × Value)} {w w0:World} {P:Program} {ops:Array Oper} {Q:Exit → Act → World → Prop} {rest:List Oper} {o:Oper} {Kont:Act → World → Prop} {d:Nat} {K:Nat → Prop} {n:Nat} {L:List (Option Nat)}
def gOk (ops:Array Oper) (l:List (Nat × Value)) (o:Oper):Option Bool :=
  match o.guard with
  | .none=>some true
  | some (j,want)=>match (ops[j]?).bind (·.dst) with
    | some d=>match lk l d with
      | some (.bool b)=>some (b == want)
      | some (.tuple _)=>some false
      | _=>.none
    | .none=>.none
def a_h (tys:List (TypeId × GT)) (ops:Array Oper) (N:Nat):List Oper → List (Nat × Value) → Option (List (Nat × Value))
  | [],l=>some l
  | o :: os,l=>match gOk ops l o,o.dst with
    | some true,some d=>match pureOp tys l o.op with
      | some v=>if Nat.blt d N then a_h tys ops N os ((d,v) :: l) else .none
      | .none=>.none
    | some false,some d=>if Nat.blt d N then a_h tys ops N os ((d,undef) :: l) else .none
    | some false,.none=>a_h tys ops N os l
    | _,_=>.none
theorem gOk.wanted (S:StD ds N a l) {b:Bool} (h:gOk ops l o = some b):Region.wanted o (yielded ops a.tmps) = b:=by
  unfold gOk at h
  split at h
  · rename_i hg
    obtain rfl:=Option.some.inj h
    simp [Region.wanted,hg]
  · rename_i j want hg
    split at h
    · rename_i d hd
      split at h
      · rename_i b' hb
        obtain rfl:=Option.some.inj h
        simp only [Region.wanted,hg,yielded,hd,Option.bind_some,S.at_ d _ hb]
        cases b' <;> cases want <;> rfl
      · rename_i vs hb
        obtain rfl:=Option.some.inj h
        simp only [Region.wanted,hg,yielded,hd,Option.bind_some,S.at_ d _ hb]
        rfl
      · cases h
    · cases h
theorem w_go (S:StD ds N a l) (hg:gOk ops l o = some true) (h:o.wp P a w (wpList P ops Q rest) Q):wpList P ops Q (o :: rest) a w:=by
  unfold wpList
  rw [if_pos (gOk.wanted S hg)]
  exact .inl h
theorem c_q (S:StD ds N a l) (hg:gOk ops l o = some false) (h:wpList P ops Q rest (a.put o.dst undef) w):wpList P ops Q (o :: rest) a w:=by
  unfold wpList
  rw [if_neg (by rw [gOk.wanted S hg];exact Bool.false_ne_true)]
  exact h
theorem a_T (tys:List (TypeId × GT)) (ht:tysOk P tys = true):∀ (l1:List Oper) {l2:List Oper} {a:Act} {l l':List (Nat × Value)},StD ds N a l → a_h tys ops N l1 l = some l' → (∀ a',StD ds N a' l' → wpList P ops Q l2 a' w) → wpList P ops Q (l1 ++ l2) a w
  | [],l2,a,l,l',S,h,k=>by
    simp only [a_h,Option.some.injEq] at h
    subst h
    exact k a S
  | o :: l1,l2,a,l,l',S,h,k=>by
    unfold a_h at h
    split at h
    · rename_i d hg hd
      split at h
      · rename_i v hv
        split at h
        · rename_i hN
          exact w_go S hg (a_s S hd hN (c_B S o tys ht hv) fun a' S'=>a_T tys ht l1 S' h k)
        · cases h
      · cases h
    · rename_i d hg hd
      split at h
      · rename_i hN
        refine c_q S hg ?_
        rw [hd]
        exact a_T tys ht l1 (S.put (by simpa [Nat.blt_eq] using hN) undef) h k
      · cases h
    · rename_i hg hd
      refine c_q S hg ?_
      rw [hd]
      exact a_T tys ht l1 S h k
    · cases h
theorem a_O (S:StD ds N a l) (tys:List (TypeId × GT)) (ht:tysOk P tys = true) (m:Nat) {l0:List Oper} {l':List (Nat × Value)} (h:a_h tys ops N (l0.take m) l = some l')
    (k:∀ a',StD ds N a' l' → wpList P ops Q (l0.drop m) a' w):wpList P ops Q l0 a w:=by
  rw [← List.take_append_drop m l0]
  exact a_T tys ht _ S h k
theorem seg (m:Nat) (M:Act → World → Prop) {l0:List Oper} (h1:wpList P ops (Exit.then M Q) (l0.take m) a w) (h2:∀ a' w',M a' w' → wpList P ops Q (l0.drop m) a' w'):wpList P ops Q l0 a w:=by
  rw [← List.take_append_drop m l0]
  exact c_U _ M h1 h2
theorem a_g (S:StD ds N a l) {op:BinOp} {T T':TypeId} {x y:Operand} (k0:IntKind) (z:Int) {m n r:Int} (ho:o.op = .binOp op T x y T') (hop:(op,z) = (.add,m + n) ∨ (op,z) = (.sub,m - n) ∨ (op,z) = (.mul,m * n))
    (hd:o.dst = some d) (hN:Nat.blt d N = true) (hx:ev l x = some (.int k0 m)) (hy:ev l y = some (.int k0 n)) (hz:ckI k0 z = some r) (k:∀ a',StD ds N a' ((d,.int k0 r) :: l) → Kont a' w):o.wp P a w Kont Q:=by
  refine a_s S hd hN ?_ k
  obtain ⟨h1,_,h2⟩:=a_j hz
  subst h1
  rcases hop with h | h | h <;> (obtain ⟨rfl,rfl⟩:=Prod.mk.inj h;simp [execOp,ho,S.eval hx,S.eval hy,a_J,binOp,Op.intArith,h2])
theorem op_quo (S:StD ds N a l) {T T':TypeId} {x y:Operand} (k0:IntKind) {m n r:Int} (ho:o.op = .binOp .quo T x y T')
    (hd:o.dst = some d) (hN:Nat.blt d N = true) (hx:ev l x = some (.int k0 m)) (hy:ev l y = some (.int k0 n)) (hz:quoI k0 m n = some r) (k:∀ a',StD ds N a' ((d,.int k0 r) :: l) → Kont a' w):o.wp P a w Kont Q:=by
  refine a_s S hd hN ?_ k
  unfold quoI at hz
  split at hz
  · cases hz
  · rename_i hn
    obtain ⟨h1,_,h2⟩:=a_j hz
    subst h1
    simp [execOp,ho,S.eval hx,S.eval hy,a_J,binOp,Op.intDiv,h2,hn]
theorem c_r (S:StD ds N a l) {T T':TypeId} {x y:Operand} (k0:IntKind) {m n r:Int} (ho:o.op = .binOp .rem T x y T')
    (hd:o.dst = some d) (hN:Nat.blt d N = true) (hx:ev l x = some (.int k0 m)) (hy:ev l y = some (.int k0 n)) (hz:d_b k0 m n = some r) (k:∀ a',StD ds N a' ((d,.int k0 r) :: l) → Kont a' w):o.wp P a w Kont Q:=by
  refine a_s S hd hN ?_ k
  unfold d_b at hz
  split at hz
  · cases hz
  · rename_i hn
    obtain ⟨h1,_,h2⟩:=a_j hz
    subst h1
    simp [execOp,ho,S.eval hx,S.eval hy,a_J,binOp,Op.intDiv,hn]
theorem op_shl (S:StD ds N a l) {T T':TypeId} {x y:Operand} (k0 k1:IntKind) {m n r:Int} (ho:o.op = .binOp .shl T x y T')
    (hd:o.dst = some d) (hN:Nat.blt d N = true) (hx:ev l x = some (.int k0 m)) (hy:ev l y = some (.int k1 n)) (hz:shlI k0 m n = some r) (k:∀ a',StD ds N a' ((d,.int k0 r) :: l) → Kont a' w):o.wp P a w Kont Q:=by
  refine a_s S hd hN ?_ k
  unfold shlI at hz
  split at hz
  · rename_i hn
    obtain rfl:=Option.some.inj hz
    have:¬ n < 0:=by omega
    simp [execOp,ho,S.eval hx,S.eval hy,a_J,binOp,Op.shift,this]
  · cases hz
theorem c_V (S:StD ds N a l) {T T':TypeId} {x y:Operand} (k0 k1:IntKind) {m n r:Int} (ho:o.op = .binOp .shr T x y T')
    (hd:o.dst = some d) (hN:Nat.blt d N = true) (hx:ev l x = some (.int k0 m)) (hy:ev l y = some (.int k1 n)) (hz:shrI m n k0 = some r) (k:∀ a',StD ds N a' ((d,.int k0 r) :: l) → Kont a' w):o.wp P a w Kont Q:=by
  refine a_s S hd hN ?_ k
  unfold shrI at hz
  split at hz
  · rename_i hn
    obtain rfl:=Option.some.inj hz
    have:¬ n < 0:=by omega
    simp [execOp,ho,S.eval hx,S.eval hy,a_J,binOp,Op.shift,this]
  · cases hz
theorem b_2 (S:StD ds N a l) {src dst:TypeId} {x:Operand} (k0:IntKind) (T1 T2:GT) {k1:IntKind} {m:Int} (ho:o.op = .convert src dst x) (h1:tiQ P (.int k1) false src [] 0 = true) (h2:tiQ P (.int k0) false dst [] 0 = true)
    (hd:o.dst = some d) (hN:Nat.blt d N = true) (hx:ev l x = some (.int k1 m)) (hm:k0.wrap m = m) (k:∀ a',StD ds N a' ((d,.int k0 m) :: l) → Kont a' w):o.wp P a w Kont Q:=by
  refine a_s S hd hN ?_ k
  simp [execOp,ho,S.eval hx,convert,run_underlying (a_Q h1),run_underlying (a_Q h2),Conv.intToInt,hm]
theorem c_v (S:StD ds N a l) {T T':TypeId} {x y:Operand} {m n:List Int} (ho:o.op = .binOp .eql T x y T') (hd:o.dst = some d) (hN:Nat.blt d N = true)
    (hx:ev l x = some (.string (strOfNums m))) (hy:ev l y = some (.string (strOfNums n))) (hm:Byt m) (hn:Byt n) (k:∀ a',StD ds N a' ((d,.bool (decide (m = n))) :: l) → Kont a' w):o.wp P a w Kont Q:=by
  refine a_s S hd hN ?_ k
  simp [execOp,ho,S.eval hx,S.eval hy,b_J,binOp,Op.stringOp,d_u hm hn]
theorem c_a (S:StD ds N a l) {T T':TypeId} {x y:Operand} {m n:List Int} (ho:o.op = .binOp .neq T x y T') (hd:o.dst = some d) (hN:Nat.blt d N = true)
    (hx:ev l x = some (.string (strOfNums m))) (hy:ev l y = some (.string (strOfNums n))) (hm:Byt m) (hn:Byt n) (k:∀ a',StD ds N a' ((d,.bool (!decide (m = n))) :: l) → Kont a' w):o.wp P a w Kont Q:=by
  refine a_s S hd hN ?_ k
  simp [execOp,ho,S.eval hx,S.eval hy,b_J,binOp,Op.stringOp,d_u hm hn]
theorem b_y (m:List Int):(strOfNums m).size = m.length:=by simp [strOfNums,ByteArray.size]
theorem b_a (S:StD ds N a l) {T:TypeId} {x:Operand} {m:List Int} (ho:o.op = .call { callee:=.builtin .len,args:=#[x],argTypes:=#[T] }) (ht:tiQ P .str false T [] 0 = true) (hd:o.dst = some d) (hN:Nat.blt d N = true)
    (hx:ev l x = some (.string (strOfNums m))) (k:∀ a',StD ds N a' ((d,.int .i64 (b_i m)) :: l) → Kont a' w):o.wp P a w Kont Q:=by
  refine a_s S hd hN ?_ k
  simp [execOp,ho,resolve,invoke,builtin,S.eval hx,Builtin.len_,run_underlying (a_R ht),goInt,b_y,b_i]
theorem a_m (S:StD ds N a l) {T:TypeId} {x:Operand} {e:GT} {v:Value} {xs:Sl (PT e)} (ho:o.op = .call { callee:=.builtin .len,args:=#[x],argTypes:=#[T] }) (ht:tiQ P (.sl e) false T [] 0 = true) (hd:o.dst = some d) (hN:Nat.blt d N = true)
    (hx:ev l x = some v) (R:RepV (.sl e) w K v xs) (k:∀ a',InR .i64 (a_d xs) → StD ds N a' ((d,.int .i64 (a_d xs)) :: l) → Kont a' w):o.wp P a w Kont Q:=by
  obtain ⟨A,m,c,rfl,h1,h2,h3,_,_⟩:=R.sl
  obtain ⟨E,hE,_⟩:=a_V ht
  refine a_s S (v:=.int .i64 (a_d xs)) hd hN ?_ fun a'=>k a' ?_
  · simp [execOp,ho,resolve,invoke,builtin,S.eval hx,Builtin.len_,run_underlying hE,goInt,a_d,h1]
  · simp only [InR,a_d,h1,IntKind.min,IntKind.max,IntKind.signed,IntKind.bits];simp;omega
theorem op_cap (S:StD ds N a l) {T:TypeId} {x:Operand} {e:GT} {v:Value} {xs:Sl (PT e)} {c:Int} (ho:o.op = .call { callee:=.builtin .cap,args:=#[x],argTypes:=#[T] }) (ht:tiQ P (.sl e) false T [] 0 = true) (hd:o.dst = some d) (hN:Nat.blt d N = true)
    (hx:ev l x = some v) (R:RepV (.sl e) w K v xs) (hc:capO xs = some c) (k:∀ a',InR .i64 c → StD ds N a' ((d,.int .i64 c) :: l) → Kont a' w):o.wp P a w Kont Q:=by
  obtain ⟨A,m,c',rfl,h1,h2,h3,h4,_⟩:=R.sl
  obtain ⟨E,hE,_⟩:=a_V ht
  unfold capO at hc
  cases hcap:xs.cap with
  | none=>rw [hcap] at hc;cases hc
  | some q =>
    rw [hcap] at hc
    obtain rfl:=h4 q hcap
    obtain rfl:((c':Nat):Int) = c:=by simpa using hc
    refine a_s S (v:=.int .i64 (c':Int)) hd hN ?_ fun a'=>k a' ?_
    · simp [execOp,ho,resolve,invoke,builtin,S.eval hx,Builtin.cap_,run_underlying hE,goInt]
    · simp only [InR,IntKind.min,IntKind.max,IntKind.signed,IntKind.bits];simp;omega
theorem b_z {α:Type} {xs:List α} {i:Int} {x:α} (h:idx xs i = some x):0 ≤ i ∧ xs[i.toNat]? = some x ∧ i < xs.length:=by
  unfold idx at h
  split at h
  · rename_i h0
    exact ⟨h0,h,by have:=(List.getElem?_eq_some_iff.1 h).1;omega⟩
  · cases h
theorem a_q (S:StD ds N a l) {T:TypeId} {x i:Operand} {e:GT} {v:Value} {xs:Sl (PT e)} {k0:IntKind} {j:Int} {y:PT e} (ho:o.op = .indexAddr T x i) (ht:tiQ P (.sl e) false T [] 0 = true) (hd:o.dst = some d) (hN:Nat.blt d N = true)
    (hx:ev l x = some v) (R:RepV (.sl e) w K v xs) (hi:ev l i = some (.int k0 j)) (hj:idx xs.xs j = some y)
    (k:∀ a' p,RepAt e w K p y → p.block < w.heap.size ∧ K p.block → StD ds N a' ((d,.pointer (some p)) :: l) → Kont a' w):o.wp P a w Kont Q:=by
  obtain ⟨A,m,c,rfl,h1,h2,h3,h4,h5⟩:=R.sl
  obtain ⟨E,hE,htE⟩:=a_V ht
  obtain ⟨ie,hie,hse⟩:=a_u htE
  obtain ⟨h0,hg,hlt⟩:=b_z hj
  obtain ⟨b,off,rfl,hb,hK,hR⟩:=h5.el hg
  have hlt':0 ≤ j ∧ j < (m:Int):=by omega
  refine a_s S (v:=.pointer (some ⟨b,off + j.toNat * e.sz,.none⟩)) hd hN ?_ fun a'=>k a' ⟨b,off + j.toNat * e.sz,.none⟩ hR ⟨hb,hK⟩
  simp [execOp,ho,S.eval hx,S.eval hi,Instr.indexAt,asIntOf,run_underlying hE,hlt',sizeOf,typeInfo,hie,hse,Addr.add_lit]
theorem b_K {T:TypeId} {t:GT} {p:Addr} {x:PT t} (ht:tiQ P t false T [] 0 = true) (R:RepAt t w K p x):∃ v,(loadVar T p).run P w = .ok v w ∧ RepV t w K v x:=by
  obtain ⟨b,off,spot⟩:=p
  obtain ⟨hs,cs,h1,h2⟩:=R
  obtain rfl:spot = .none:=hs
  obtain ⟨i,hi,hsz⟩:=a_u ht
  have hl:=h1.len
  have hload:(loadCells ⟨b,off,.none⟩ i.size).run P w = .ok cs.toArray w:=by
    rw [hsz,← hl]
    exact run_loadCells_list (P:=P) w ⟨b,off,.none⟩ cs (fun j v hv=>by rw [Addr.add_lit];exact h2 j v hv)
  have one:t.agg = false → (∀ d,P.underlying T = some d → (match d with | .struct _ | .array _ _=>true | _=>false) = false) → P.underlying T ≠ .none → t.sz = 1 → ∃ v,(loadVar T ⟨b,off,.none⟩).run P w = .ok v w ∧ RepV t w K v x:=by
    intro hagg hd hne h1z
    rw [h1z] at hl
    match cs,hl with
    | [c],_ =>
      have hc:=h2 0 c rfl
      cases hu:P.underlying T with
      | none=>exact absurd hu hne
      | some d =>
        have:=hd d hu
        refine ⟨c,?_,[c],h1,by rw [if_neg (by simp [hagg])];rfl⟩
        have hc':w.cell? ⟨b,off,.none⟩ = some c:=hc
        cases d <;> simp at this <;> simp [loadVar,isAgg,run_underlying hu,hc']
  cases t with
  | int k=>exact one rfl (fun d hd=>by rw [a_Q ht] at hd;cases hd;rfl) (by rw [a_Q ht];simp) rfl
  | bool=>exact one rfl (fun d hd=>by rw [a_Y ht] at hd;cases hd;rfl) (by rw [a_Y ht];simp) rfl
  | str=>exact one rfl (fun d hd=>by rw [a_R ht] at hd;cases hd;rfl) (by rw [a_R ht];simp) rfl
  | sl e=>obtain ⟨E,hE,_⟩:=a_V ht;exact one rfl (fun d hd=>by rw [hE] at hd;cases hd;rfl) (by rw [hE];simp) rfl
  | raw=>obtain ⟨d0,hE,hd0⟩:=d_x ht;exact one rfl (fun d hd=>by rw [hE] at hd;cases hd;exact hd0) (by rw [hE];simp) rfl
  | pair a b=>simp [tiQ] at ht
  | st f =>
    obtain ⟨fs,hfs,_⟩:=b_9 ht
    exact ⟨.agg cs.toArray,by simp [loadVar,isAgg,run_underlying hfs,sizeOf,typeInfo,hi,hload],cs,h1,by simp [GT.agg]⟩
  | arr m e =>
    obtain ⟨E,hE,_⟩:=b_s ht
    exact ⟨.agg cs.toArray,by simp [loadVar,isAgg,run_underlying hE,sizeOf,typeInfo,hi,hload],cs,h1,by simp [GT.agg]⟩
theorem a_c (S:StD ds N a l) {T:TypeId} {ad:Operand} {t:GT} {p:Addr} {x:PT t} (ho:o.op = .load T ad) (ht:tiQ P t false T [] 0 = true) (hd:o.dst = some d) (hN:Nat.blt d N = true)
    (ha:ev l ad = some (.pointer (some p))) (R:RepAt t w K p x) (k:∀ a' v,RepV t w K v x → StD ds N a' ((d,v) :: l) → Kont a' w):o.wp P a w Kont Q:=by
  obtain ⟨v,hr,hv⟩:=b_K (P:=P) ht R
  refine a_s S (v:=v) hd hN ?_ fun a'=>k a' v hv
  simp [execOp,ho,S.eval ha,Instr.loadAt,Instr.sureAddr,hr]
end
end Go.Proofs.YtjinaepmpoclaaaGreatDoor
namespace Go.Proofs.YtjinaepmpoclaaaGreatDoor
open Go.RowKit
theorem RepCs.one:∀ {t:GT} {w K cs} {x:PT t},RepCs t w K cs x → ∀ u ∈ cs,u.oneCell' = true
  | .int _,_,_,_,_,h=>by rw [h.1];simp [Value.oneCell']
  | .bool,_,_,_,_,h=>by
    have h:_ = _:=h
    rw [h];simp [Value.oneCell']
  | .str,_,_,_,_,h=>by rw [h.1];simp [Value.oneCell']
  | .sl _,_,_,_,_,⟨_,_,_,h,_⟩=>by rw [h];simp [Value.oneCell']
  | .st f,_,_,_,_,h=>RepCs.one (t:=f) h
  | .pair a b,_,_,_,_,⟨_,_,h,h1,h2⟩=>by
    intro u hu
    rw [h] at hu
    rcases List.mem_append.1 hu with hu | hu
    · exact RepCs.one h1 u hu
    · exact RepCs.one h2 u hu
  | .arr n e,w,K,_,x,⟨hx,css,h,hl,hr⟩=>by
    intro u hu
    rw [h] at hu
    obtain ⟨c,hc,hu⟩:=List.mem_flatten.1 hu
    obtain ⟨j,hj⟩:=List.getElem?_of_mem hc
    have hjl:j < x.length:=by have:=(List.getElem?_eq_some_iff.1 hj).1;omega
    exact RepCs.one (hr j c _ hj (List.getElem?_eq_getElem hjl)) u hu
  | .raw,_,_,_,_,h=>by obtain ⟨h,h2⟩:=h;rw [h];intro u hu;rw [List.mem_singleton.1 hu];exact h2
def Ln (t t':GT) (off:Nat) (get:PT t → PT t') (set:PT t' → PT t → PT t):Prop :=
  ∀ w K cs x,RepCs t w K cs x → ∃ c1 c c2,cs = c1 ++ c ++ c2 ∧ c1.length = off ∧ RepCs t' w K c (get x) ∧ ∀ cn y,RepCs t' w K cn y → RepCs t w K (c1 ++ cn ++ c2) (set y x)
theorem Ln.whole {t:GT}:Ln t t 0 id (fun y _=>y):=fun w K cs x h=>⟨[],cs,[],by simp,rfl,h,fun cn y hy=>by simpa using hy⟩
theorem Ln.st {f t':GT} {off:Nat} {get set} (h:Ln f t' off get set):Ln (.st f) t' off get set:=h
theorem Ln.comp:∀ {t:GT} (k:Nat),Ln t (comp t k) (d_I t k) (proj t k) (upd t k)
  | .pair a b,0=>fun w K cs x ⟨c1,c2,h,h1,h2⟩=>⟨[],c1,c2,by simpa using h,rfl,h1,fun cn y hy=>⟨cn,c2,by simp,hy,h2⟩⟩
  | .pair a b,k + 1=>fun w K cs x ⟨c1,c2,h,h1,h2⟩=>by
    obtain ⟨d1,d,d2,e,el,er,es⟩:=Ln.comp (t:=b) k w K c2 x.2 h2
    refine ⟨c1 ++ d1,d,d2,by rw [h,e];simp,by rw [List.length_append,h1.len,el],er,fun cn y hy=>?_⟩
    exact ⟨c1,d1 ++ cn ++ d2,by simp,h1,es cn y hy⟩
  | .int _,_=>Ln.whole
  | .bool,_=>Ln.whole
  | .str,_=>Ln.whole
  | .sl _,_=>Ln.whole
  | .st _,_=>Ln.whole
  | .arr _ _,_=>Ln.whole
  | .raw,_=>Ln.whole
theorem Ln.trans {t t' t'':GT} {o1 o2:Nat} {g1:PT t → PT t'} {s1 g2 s2} (h1:Ln t t' o1 g1 s1) (h2:Ln t' t'' o2 g2 s2):Ln t t'' (o1 + o2) (fun x=>g2 (g1 x)) (fun y x=>s1 (s2 y (g1 x)) x):=by
  intro w K cs x h
  obtain ⟨c1,c,c2,e,el,er,es⟩:=h1 w K cs x h
  obtain ⟨d1,d,d2,e',el',er',es'⟩:=h2 w K c (g1 x) er
  refine ⟨c1 ++ d1,d,d2 ++ c2,by rw [e,e'];simp,by rw [List.length_append,el,el'],er',fun cn y hy=>?_⟩
  have:=es (d1 ++ cn ++ d2) _ (es' cn y hy)
  simpa using this
theorem a_z {P:Program} {c:Code} {Q:Exit → Act → World → Prop} {a:Act} {w:World} (I:Nat → Act → World → Prop) (n:Nat) (h0:I n a w)
    (round:∀ n a w,I n a w → ∃ m,n = m + 1 ∧ c.wp P (Exit.then (I m) Q) a w):(Code.loop c).wp P Q a w:=by
  refine wp_loop_ghost I n h0 fun n a w h=>?_
  obtain ⟨m,hm,hr⟩:=round n a w h
  refine wp_mono hr fun e a' w' he=>?_
  cases e with
  | normal=>exact ⟨m,by omega,he⟩
  | _=>exact he
def b_0:Nat → List Value → List (Nat × Value)
  | _,[]=>[]
  | i,v :: l=>(i,v) :: b_0 (i + 1) l
theorem d_J:∀ (l:List Value) (i j:Nat) (v:Value),lk (b_0 i l) j = some v → i ≤ j ∧ l[j - i]? = some v
  | [],i,j,v,h=>by simp [b_0,lk] at h
  | u :: l,i,j,v,h=>by
    unfold b_0 lk at h
    cases hb:Nat.beq i j with
    | true =>
      rw [hb] at h
      obtain rfl:=Nat.eq_of_beq_eq_true hb
      have:u = v:=by simpa using h
      exact ⟨Nat.le_refl _,by simp [this]⟩
    | false =>
      rw [hb] at h
      obtain ⟨h1,h2⟩:=d_J l (i + 1) j v h
      refine ⟨by omega,?_⟩
      rw [show j - i = (j - (i + 1)) + 1 from by omega]
      simpa using h2
theorem StD.enter (args:List Value) (N:Nat) (h:args.length ≤ N):St N { tmps:=args.toArray ++ Array.replicate (N - args.toArray.size) undef,defers:=[] } (b_0 0 args):=by
  refine ⟨by simp;omega,rfl,fun i v hi=>?_⟩
  obtain ⟨_,h2⟩:=d_J args 0 i v hi
  have hlt:=(List.getElem?_eq_some_iff.1 h2).1
  rw [Array.getElem?_append_left (by simpa using hlt)]
  simpa using h2
theorem enter {P:Program} {f:FuncId} {fn:Func} {c:Code} {args:List Value} {w:World} {R:Ending → World → Prop} (hf:P.funcs[f]? = some fn) (hb:fn.body = some c) (N:Nat) (hN:fn.ntmps = N) (hl:Nat.ble args.length N = true)
    (h:∀ a,St N a (b_0 0 args) → c.wp P (bodyPost P fn R) a w):Calls P f args.toArray w R:=by
  refine calls_of_wp hf hb ?_
  rw [hN]
  exact h _ (StD.enter args N (by simpa [Nat.ble_eq] using hl))
def evs (l:List (Nat × Value)):List Operand → Option (List Value)
  | []=>some []
  | x :: xs=>match ev l x,evs l xs with | some v,some vs=>some (v :: vs) | _,_=>.none
def a_I (P : Program) (f : FuncId) : Bool := match P.funcs[f]? with | some fn => !(fn.name == "runtime.NumGoroutine") && !fn.body.isNone | .none => false
section
variable {ds:List Deferred} {N:Nat} {a:Act} {l:List (Nat × Value)} {w w0:World} {P:Program} {ops:Array Oper} {Q:Exit → Act → World → Prop} {rest:List Oper} {o:Oper} {Kont:Act → World → Prop} {d:Nat} {K:Nat → Prop} {n:Nat} {L:List (Option Nat)}
theorem StD.evs (S:StD ds N a l):∀ {xs:List Operand} {vs:List Value},Go.Proofs.YtjinaepmpoclaaaGreatDoor.evs l xs = some vs → xs.map a.eval = vs
  | [],vs,h=>by simp [Go.Proofs.YtjinaepmpoclaaaGreatDoor.evs] at h;subst h;rfl
  | x :: xs,vs,h=>by
    unfold Go.Proofs.YtjinaepmpoclaaaGreatDoor.evs at h
    split at h
    · rename_i v us hv hus
      obtain rfl:=Option.some.inj h
      rw [List.map_cons,S.eval hv,StD.evs S hus]
    · cases h
theorem b_L {f:FuncId} (hf:a_I P f = true) (args:Array Value):(callFunc f args).run P w = .ok (.enter f args) w:=by
  unfold a_I at hf
  split at hf
  · rename_i fn hfn
    simp only [Bool.and_eq_true,Bool.not_eq_true'] at hf
    have h1 : ¬ fn.name = "runtime.NumGoroutine" := by simpa using hf.1
    have h2:¬ fn.body = .none:=by intro e;rw [e] at hf;simp at hf
    simp [callFunc,hfn,h1,h2]
  · cases hf
theorem a_e (S:StD ds N a l) {f:FuncId} {xs:Array Operand} {ts:Array TypeId} (ho:o.op = .call { callee:=.value (.func f),args:=xs,argTypes:=ts }) (hf:a_I P f = true) (hd:o.dst = some d) (hN:Nat.blt d N = true)
    {vs:List Value} (hv:evs l xs.toList = some vs) {R:Ending → World → Prop} (h:Calls P f vs.toArray w R) (k:∀ e w',R e w' → ∃ v,e = .returned v ∧ ∀ a',StD ds N a' ((d,v) :: l) → Kont a' w'):o.wp P a w Kont Q:=by
  have hvs:xs.map a.eval = vs.toArray:=by
    rw [← S.evs hv,← Array.toList_map,Array.toArray_toList]
  have hr:(execOp a.eval o).run P w = .ok (.enter f vs.toArray) w:=by
    simp [execOp,ho,resolve,Act.eval,Deferred.ofValue,invoke,hvs,b_L hf]
  unfold Oper.wp
  rw [hr]
  simp only [Oper.upon]
  refine h.mono fun e w' he=>?_
  obtain ⟨v,rfl,hk⟩:=k e w' he
  simp only [hd]
  exact hk _ (S.put (by simpa [Nat.blt_eq] using hN) v)
theorem a_2 (S:StD ds N a l) {f:FuncId} {x:Operand} {fi cap:Array Value} {xs:Array Operand} {ts:Array TypeId} (ho:o.op = .call { callee:=.value x,args:=xs,argTypes:=ts }) (hx:ev l x = some (.func (.func f) fi cap)) (hf:a_I P f = true) (hd:o.dst = some d) (hN:Nat.blt d N = true)
    {vs:List Value} (hv:evs l xs.toList = some vs) {R:Ending → World → Prop} (h:Calls P f (fi ++ vs.toArray ++ cap) w R) (k:∀ e w',R e w' → ∃ v,e = .returned v ∧ ∀ a',StD ds N a' ((d,v) :: l) → Kont a' w'):o.wp P a w Kont Q:=by
  have hvs:xs.map a.eval = vs.toArray:=by
    rw [← S.evs hv,← Array.toList_map,Array.toArray_toList]
  have hr:(execOp a.eval o).run P w = .ok (.enter f (fi ++ vs.toArray ++ cap)) w:=by
    simp [execOp,ho,resolve,S.eval hx,Deferred.ofValue,invoke,hvs,b_L hf]
  unfold Oper.wp
  rw [hr]
  simp only [Oper.upon]
  refine h.mono fun e w' he=>?_
  obtain ⟨v,rfl,hk⟩:=k e w' he
  simp only [hd]
  exact hk _ (S.put (by simpa [Nat.blt_eq] using hN) v)
theorem a_U (w:World) (ob:Obj):NewB w (w.alloc ob) w.heap.size:=⟨(Below.refl _ _).alloc (Nat.le_refl _) _,Nat.le_refl _,by simp⟩
theorem b_u (S:StD ds N a l) {T:TypeId} {x:Operand} {t:GT} {v:Value} {y:PT t} (ho:o.op = .box T x) (hp:t.isPair = false) (hd:o.dst = some d) (hN:Nat.blt d N = true) (hx:ev l x = some v) (R:RepV t w (Kx K n L) v y)
    (k:∀ a' w' b,NewB w w' b → Bx t T w' (Kx K n (some b :: L)) b y → StD ds N a' ((d,.pointer (some ⟨b,0,.none⟩)) :: l) → Kont a' w'):o.wp P a w Kont Q:=by
  refine a_s S (v:=.pointer (some ⟨w.heap.size,0,.none⟩)) (w':=w.alloc (.cells v.cells T)) hd hN ?_ fun a'=>k a' _ w.heap.size (a_U w _) ?_
  · simp [execOp,ho,S.eval hx,Instr.box,newVar,newRow]
  · refine ⟨v.cells.toList,by simpa using heap_alloc_new w _,?_⟩
    have hb:=a_U w (.cells v.cells T)
    exact (R.cells hp).keep (Keeps.below hb.below) fun c hc hk=>⟨hk.1,fun hm=>by
      rcases List.mem_cons.1 hm with e | hm
      · obtain rfl:=Option.some.inj e;omega
      · exact hk.2 hm⟩
theorem a_K (S:StD ds N a l) {T:TypeId} {t:GT} {y:PT t} (ho:o.op = .alloc T) (hd:o.dst = some d) (hN:Nat.blt d N = true) (z:Value) (hz:(P.info? T).bind (·.zero) = some z) (R:∀ w K,RepCs t w K z.cells.toList y)
    (k:∀ a' w' b,NewB w w' b → Bx t T w' (Kx K n (some b :: L)) b y → StD ds N a' ((d,.pointer (some ⟨b,0,.none⟩)) :: l) → Kont a' w'):o.wp P a w Kont Q:=by
  cases hi:P.info? T with
  | none=>rw [hi] at hz;cases hz
  | some i =>
    have hz':i.zero = some z:=by rw [hi] at hz;exact hz
    refine a_s S (v:=.pointer (some ⟨w.heap.size,0,.none⟩)) (w':=w.alloc (.cells z.cells T)) hd hN ?_ fun a'=>k a' _ w.heap.size (a_U w _) ⟨z.cells.toList,by simpa using heap_alloc_new w _,R _ _⟩
    simp [execOp,ho,Instr.alloc,zeroValue,typeInfo,hi,hz',newVar,newRow]
theorem b_M (w:World) (b:Nat) (cs:Array Value):Wrote b w (w.setRow b cs) :=
  ⟨rfl,rfl,rfl,by simp [World.setRow],fun k hk=>setRow_other w b k cs hk⟩
theorem c_C {T TB:TypeId} {t t':GT} {b off:Nat} {get:PT t → PT t'} {set:PT t' → PT t → PT t} {x:PT t} {y:PT t'} {v:Value} (ht:tiQ P t' false T [] 0 = true) (B:Bx t TB w (Kx K n L) b x) (hb:some b ∈ L) (hln:Ln t t' off get set) (R:RepV t' w (Kx K n L) v y) :
    ∃ w',(storeVar T ⟨b,off,.none⟩ v).run P w = .ok () w' ∧ Wrote b w w' ∧ Bx t TB w' (Kx K n L) b (set y x):=by
  obtain ⟨cs,hg,hcs⟩:=B
  obtain ⟨c1,c,c2,rfl,hoff,hc,hset⟩:=hln w _ cs x hcs
  obtain ⟨i,hi,hsz⟩:=a_u ht
  have hp:t'.isPair = false:=by cases t' <;> first | rfl | simp [tiQ] at ht
  have hv:=R.cells hp
  have hlen:v.cells.toList.length = c.length:=by rw [hv.len,hc.len]
  have hst:=run_storeCells_at (P:=P) b off TB v.cells.toList 0 (c1 ++ c ++ c2).toArray w hg (by simp at hlen ⊢;omega) (hv.one)
  refine ⟨w.setRow b ((c1 ++ c ++ c2).toArray.toList.take (off + 0) ++ v.cells.toList ++ (c1 ++ c ++ c2).toArray.toList.drop (off + 0 + v.cells.toList.length)).toArray,?_,b_M w b _,⟨c1 ++ v.cells.toList ++ c2,?_,?_⟩⟩
  · have:v.cells.size = i.size:=by rw [hsz,← hv.len];simp
    simp only [storeVar,sizeOf,typeInfo,Sem.run_bind,Sem.run_pure,Result.andThen_ok,run_program,hi,this,ne_eq,not_true_eq_false,if_false]
    exact hst
  · rw [setRow_heap w b _ _ TB _ hg]
    congr 2
    have h1:(c1 ++ c ++ c2).take (off + 0) = c1:=by rw [Nat.add_zero,← hoff,List.append_assoc];exact List.take_left
    have h2:(c1 ++ c ++ c2).drop (off + 0 + v.cells.toList.length) = c2:=by
      rw [hlen,Nat.add_zero,← hoff,← List.length_append];exact List.drop_left
    simp only [List.toList_toArray] at h1 h2 ⊢
    rw [h1,h2]
  · exact (hset _ y hv).keep (Keeps.wrote (b_M w b _) hb) fun _ _ h=>h
theorem a_n (S:StD ds N a l) {T TB:TypeId} {ad xo:Operand} {t t':GT} {b off:Nat} {get:PT t → PT t'} {set:PT t' → PT t → PT t} {x:PT t} {y:PT t'} {v:Value} {p:Addr} (ho:o.op = .store T ad xo) (hd:o.dst = .none) (ht:tiQ P t' false T [] 0 = true)
    (ha:ev l ad = some (.pointer (some p))) (hp:p = ⟨b,off,.none⟩) (hx:ev l xo = some v) (B:Bx t TB w (Kx K n L) b x) (hb:some b ∈ L) (hln:Ln t t' off get set) (R:RepV t' w (Kx K n L) v y)
    (k:∀ w',Wrote b w w' → Bx t TB w' (Kx K n L) b (set y x) → Kont a w'):o.wp P a w Kont Q:=by
  obtain ⟨w',hr,hw,hB⟩:=c_C (P:=P) ht B hb hln R
  subst hp
  have hrun:(execOp a.eval o).run P w = .ok .skip w':=by
    simp [execOp,ho,S.eval ha,S.eval hx,Instr.storeAt,Instr.sureAddr,hr]
  unfold Oper.wp
  rw [hrun]
  simp only [Oper.upon,hd]
  exact k w' hw hB
theorem a_a {K:Act → World → Prop} (h:K a w):Exit.then K Q .normal a w:=h
theorem a_w {K:Act → World → Prop} {id:Nat} (h:Q (.exit id) a w):Exit.then K Q (.exit id) a w:=h
theorem a_i {K:Act → World → Prop} (h:Q .ret a w):Exit.then K Q .ret a w:=h
theorem b_m {id:Nat} (h:Q .normal a w):Exit.inBlock id Q .normal a w:=h
theorem b_n {id:Nat} (h:Q .ret a w):Exit.inBlock id Q .ret a w:=h
theorem a_M {id:Nat} (h:Q .normal a w):Exit.inBlock id Q (.exit id) a w:=by simp only [Exit.inBlock,if_true];exact h
theorem c_0 {id id':Nat} (hne:Nat.beq id' id = false) (h:Q (.exit id') a w):Exit.inBlock id Q (.exit id') a w:=by
  have:¬ id' = id:=fun e=>by subst e;rw [Nat.beq_refl] at hne;cases hne
  simp only [Exit.inBlock,this,if_false];exact h
theorem a_b {α β:Type} {x:Option α} {f:α → Option β} {r:β} (h:x.bind f = some r):∃ y,x = some y ∧ f y = some r:=Option.bind_eq_some_iff.1 h
theorem a_H (S:St N a l) {fn:Func} {R:Ending → World → Prop} {s:Nat} {v:Value} (hr:fn.results = #[.tmp s]) (hv:lk l s = some v) (hR:R (.returned v) w):bodyPost P fn R .ret a w :=
  ⟨S.defers,v,by simp [results,hr,S.at_ s v hv],hR⟩
theorem b_N (S:St N a l) {fn:Func} {R:Ending → World → Prop} {s s':Nat} {v v':Value} (hr:fn.results = #[.tmp s,.tmp s']) (hv:lk l s = some v) (hv':lk l s' = some v') (hR:R (.returned (.tuple #[v,v'])) w):bodyPost P fn R .ret a w :=
  ⟨S.defers,_,by simp [results,hr,S.at_ s v hv,S.at_ s' v' hv'],hR⟩
theorem b_ret3 (S:St N a l) {fn:Func} {R:Ending → World → Prop} {s s' s'':Nat} {v v' v'':Value} (hr:fn.results = #[.tmp s,.tmp s',.tmp s'']) (hv:lk l s = some v) (hv':lk l s' = some v') (hv'':lk l s'' = some v'') (hR:R (.returned (.tuple #[v,v',v''])) w):bodyPost P fn R .ret a w :=
  ⟨S.defers,_,by simp [results,hr,S.at_ s v hv,S.at_ s' v' hv',S.at_ s'' v'' hv''],hR⟩
end
end Go.Proofs.YtjinaepmpoclaaaGreatDoor
namespace Go.Proofs.YtjinaepmpoclaaaGreatDoor
open Go.RowKit
theorem c_w {α:Type}:∀ (css:List (List α)) (s j i:Nat),(∀ c ∈ css,c.length = s) → i < s → css.flatten[j * s + i]? = (css[j]?).bind (·[i]?)
  | [],s,j,i,_,_=>by simp
  | c :: css,s,0,i,h,hi=>by
    have hc:=h c (by simp)
    simp only [List.flatten_cons,Nat.zero_mul,Nat.zero_add]
    rw [List.getElem?_append_left (by omega)]
    simp
  | c :: css,s,j + 1,i,h,hi=>by
    have hc:=h c (by simp)
    have ih:=c_w css s j i (fun d hd=>h d (List.mem_cons_of_mem _ hd)) hi
    simp only [List.flatten_cons]
    rw [List.getElem?_append_right (by rw [hc,Nat.add_mul];omega),hc,show (j + 1) * s + i - s = j * s + i from by rw [Nat.add_mul];omega,ih]
    simp
section
variable {e:GT} {w:World} {K:Nat → Prop}
theorem RepCs.arrOf {css:List (List Value)} {xs:List (PT e)} (hl:css.length = xs.length) (h:∀ (j:Nat) c y,css[j]? = some c → xs[j]? = some y → RepCs e w K c y):RepCs (.arr xs.length e) w K css.flatten xs :=
  ⟨rfl,css,rfl,hl,h⟩
theorem RowsOf.of_cells {b off:Nat} {cs:List Value} {xs:List (PT e)} (h:RepCs (.arr xs.length e) w K cs xs) (hb:b < w.heap.size) (hK:K b) (hc:∀ i v,cs[i]? = some v → w.cell? ⟨b,off + i,.none⟩ = some v) :
    RowsOf (RepCs e w K) e.sz w K (some ⟨b,off,.none⟩) xs:=by
  obtain ⟨_,css,rfl,hl,hr⟩:=h
  refine .inr ⟨b,off,rfl,hb,hK,fun j x hj=>?_⟩
  have hjl:j < css.length:=by rw [hl];exact (List.getElem?_eq_some_iff.1 hj).1
  have hjc:css[j]? = some css[j]:=List.getElem?_eq_getElem hjl
  have hx:=hr j _ x hjc hj
  refine ⟨css[j],hx,hx.len,fun i v hv=>?_⟩
  have hi:i < e.sz:=by rw [← hx.len];exact (List.getElem?_eq_some_iff.1 hv).1
  rw [Nat.add_assoc]
  refine hc _ _ ?_
  rw [c_w css e.sz j i (fun c hc=>?_) hi,hjc]
  · exact hv
  · obtain ⟨k,hk⟩:=List.getElem?_of_mem hc
    have hkl:k < xs.length:=by rw [← hl];exact (List.getElem?_eq_some_iff.1 hk).1
    exact (hr k c _ hk (List.getElem?_eq_getElem hkl)).len
theorem RowsOf.cells {A:Option Addr} {xs:List (PT e)} (h:RowsOf (RepCs e w K) e.sz w K A xs):∃ cs,RepCs (.arr xs.length e) w K cs xs ∧ (xs = [] ∨ ∃ b off,A = some ⟨b,off,.none⟩ ∧ b < w.heap.size ∧ K b ∧ ∀ i v,cs[i]? = some v → w.cell? ⟨b,off + i,.none⟩ = some v):=by
  rcases h with rfl | ⟨b,off,rfl,hb,hK,hc⟩
  · exact ⟨[],⟨rfl,[],rfl,rfl,fun j c y h=>by simp at h⟩,.inl rfl⟩
  · have key:∀ m,m ≤ xs.length → ∃ css:List (List Value),css.length = m ∧ ∀ (j:Nat) c,css[j]? = some c → ∃ x,xs[j]? = some x ∧ RepCs e w K c x ∧ c.length = e.sz ∧ ∀ (i:Nat) v,c[i]? = some v → w.cell? ⟨b,off + j * e.sz + i,.none⟩ = some v:=by
      intro m
      induction m with
      | zero=>intro _;exact ⟨[],rfl,fun j c h=>by simp at h⟩
      | succ m ih =>
        intro hm
        obtain ⟨css,h1,h2⟩:=ih (by omega)
        obtain ⟨c,hc1,hc2,hc3⟩:=hc m xs[m] (List.getElem?_eq_getElem (by omega))
        refine ⟨css ++ [c],by simp [h1],fun j d hd=>?_⟩
        by_cases hj:j < m
        · rw [List.getElem?_append_left (by omega)] at hd
          exact h2 j d hd
        · rw [List.getElem?_append_right (by omega)] at hd
          have:j - css.length = 0:=by
            have:=(List.getElem?_eq_some_iff.1 hd).1
            simp at this
            omega
          obtain rfl:j = m:=by omega
          rw [this] at hd
          obtain rfl:c = d:=by simpa using hd
          exact ⟨_,List.getElem?_eq_getElem (by omega),hc1,hc2,hc3⟩
    obtain ⟨css,h1,h2⟩:=key xs.length (Nat.le_refl _)
    refine ⟨css.flatten,⟨rfl,css,rfl,h1,fun j c y hcj hy=>?_⟩,.inr ⟨b,off,rfl,hb,hK,fun i v hv=>?_⟩⟩
    · obtain ⟨x,hx,hr,_⟩:=h2 j c hcj
      rw [hy] at hx
      obtain rfl:=Option.some.inj hx
      exact hr
    · have hlen:∀ c ∈ css,c.length = e.sz:=fun c hcm=>by
        obtain ⟨k,hk⟩:=List.getElem?_of_mem hcm
        obtain ⟨_,_,_,hs,_⟩:=h2 k c hk
        exact hs
      rcases Nat.eq_zero_or_pos e.sz with hz | hz
      · have:css.flatten.length = 0:=by
          rw [List.length_flatten]
          have:∀ l:List (List Value),(∀ c ∈ l,c.length = e.sz) → (l.map List.length).sum = 0:=by
            intro l
            induction l with
            | nil=>intro _;rfl
            | cons c l ih=>intro h;rw [List.map_cons,List.sum_cons,h c (by simp),hz,ih (fun d hd=>h d (List.mem_cons_of_mem _ hd))]
          exact this css hlen
        have:=(List.getElem?_eq_some_iff.1 hv).1
        omega
      · have hi:i = i / e.sz * e.sz + i % e.sz:=by rw [Nat.mul_comm];exact (Nat.div_add_mod i e.sz).symm
        rw [hi,c_w css e.sz _ _ hlen (Nat.mod_lt _ hz)] at hv
        cases hcj:css[i / e.sz]? with
        | none=>rw [hcj] at hv;cases hv
        | some c =>
          rw [hcj] at hv
          obtain ⟨_,_,_,_,h4⟩:=h2 _ c hcj
          have:=h4 _ v hv
          rw [hi,← Nat.add_assoc]
          exact this
theorem rep_bytes {cs:List Value} {xs:List Int} (h:RepCs (.arr xs.length (.int .u8)) w K cs xs):cs = u8s xs ∧ Byt xs:=by
  obtain ⟨_,css,rfl,hl,hr⟩:=h
  have key:∀ (css:List (List Value)) (xs:List Int),css.length = xs.length → (∀ (j:Nat) c y,css[j]? = some c → xs[j]? = some y → RepCs (.int .u8) w K c y) → css.flatten = u8s xs ∧ Byt xs:=by
    intro css
    induction css with
    | nil =>
      intro xs hl _
      have:xs = []:=List.eq_nil_of_length_eq_zero (by simpa using hl.symm)
      subst this
      exact ⟨rfl,Byt.nil⟩
    | cons c css ih =>
      intro xs hl hr
      match xs,hl with
      | x :: xs,hl =>
        obtain ⟨h1,h2⟩:=ih xs (by simpa using hl) (fun j c y hc hy=>hr (j + 1) c y (by simpa using hc) (by simpa using hy))
        obtain ⟨hc,hin⟩:=hr 0 c x rfl rfl
        refine ⟨by rw [List.flatten_cons,h1,hc];rfl,Byt.cons ?_ h2⟩
        simpa [InR,IntKind.min,IntKind.max,IntKind.signed,IntKind.bits] using hin
  exact key css xs hl hr
theorem RepV.bytes {v:Value} {x:Sl Int} (h:RepV (.sl (.int .u8)) w K v x):∃ A n c,v = .slice A n c ∧ x.xs.length = n ∧ Rd w w.heap.size A (u8s x.xs) ∧ Byt x.xs:=by
  obtain ⟨A,n,c,rfl,h1,_,_,_,h5⟩:=h.sl
  obtain ⟨cs,hcs,hA⟩:=h5.cells
  obtain ⟨rfl,hB⟩:=rep_bytes hcs
  refine ⟨A,n,c,rfl,h1,?_,hB⟩
  rcases hA with hx | ⟨b,off,rfl,hb,_,hc⟩
  · rw [hx];exact .inl rfl
  · exact .inr ⟨b,off,rfl,hb,fun j v hv=>hc j v hv⟩
theorem RepV.byt {v:Value} {x:Sl Int} (h:RepV (.sl (.int .u8)) w K v x):Byt x.xs ∧ x.xs.length ≤ 9223372036854775807:=by
  obtain ⟨A,n,c,_,h1,_,hB⟩:=h.bytes
  obtain ⟨A',n',c',rfl,h1',h2,h3,_,_⟩:=h.sl
  exact ⟨hB,by omega⟩
end
theorem c_D (s:Nat):∀ (vs:List Value) (k:Nat) (pre:List Value) (z:List Value),(∀ v ∈ vs,v.cells.size = s) → pre.length = k * s → z.length = vs.length * s →
    Instr.fill (fun i=>some (i * s,s)) (pre ++ z).toArray (b_0 k vs) = some (pre ++ (vs.map fun v=>v.cells.toList).flatten).toArray
  | [],k,pre,z,_,_,hz=>by
    have:z = []:=List.eq_nil_of_length_eq_zero (by simpa using hz)
    simp [b_0,Instr.fill,this]
  | v :: vs,k,pre,z,h,hp,hz=>by
    have hv:=h v (by simp)
    have hzl:z.length = s + vs.length * s:=by rw [hz,List.length_cons,Nat.add_mul];omega
    unfold b_0 Instr.fill
    have hno:¬ (v.cells.size ≠ s ∨ (k * s + v.cells.size > (pre ++ z).toArray.size)):=by
      simp [hv,hp,hzl]
    simp only [Bool.or_eq_true,decide_eq_true_eq,hno,if_false]
    have hfold:∀ (cs:List Value) (j:Nat) (a b:List Value),cs.length ≤ b.length → a.length = k * s + j → ((cs.zipIdx j).foldl (fun (acc:Array Value) (p:Value × Nat)=>acc.setIfInBounds (k * s + p.2) p.1) (a ++ b).toArray) = (a ++ cs ++ b.drop cs.length).toArray:=by
      intro cs
      induction cs with
      | nil=>intro j a b _ _;simp
      | cons c cs ih =>
        intro j a b hb ha
        match b,hb with
        | x :: b,hb =>
          rw [List.zipIdx_cons,List.foldl_cons]
          have:((a ++ x :: b).toArray.setIfInBounds (k * s + j) c) = ((a ++ [c]) ++ b).toArray:=by
            rw [← ha]
            simp [List.setIfInBounds_toArray,List.set_append_right]
          rw [this,ih (j + 1) (a ++ [c]) b (by simpa using hb) (by simp [ha];omega)]
          simp
    have h1:(v.cells.zipIdx.foldl (fun cs (x:Value × Nat)=>cs.setIfInBounds (k * s + x.2) x.1) (pre ++ z).toArray) = (pre ++ v.cells.toList ++ z.drop s).toArray:=by
      have:=hfold v.cells.toList 0 pre z (by simp [hv];omega) (by omega)
      rw [show v.cells.toList.length = s from by simpa using hv] at this
      rw [← this,← Array.foldl_toList,Array.toList_zipIdx]
    have h2:=c_D s vs (k + 1) (pre ++ v.cells.toList) (z.drop s) (fun u hu=>h u (List.mem_cons_of_mem _ hu)) (by simp [hp,hv,Nat.add_mul]) (by simp [hzl])
    rw [h1,h2]
    simp
def RepVs (e:GT) (w:World) (K:Nat → Prop):List Value → List (PT e) → Prop
  | [],[]=>True
  | v :: vs,x :: xs=>RepV e w K v x ∧ RepVs e w K vs xs
  | _,_=>False
theorem RepVs.css {e:GT} {w:World} {K:Nat → Prop} (hp:e.isPair = false):∀ {vs:List Value} {xs:List (PT e)},RepVs e w K vs xs → vs.length = xs.length ∧ (∀ v ∈ vs,v.cells.size = e.sz) ∧ ∀ (j:Nat) c y,(vs.map fun v=>v.cells.toList)[j]? = some c → xs[j]? = some y → RepCs e w K c y
  | [],[],_=>⟨rfl,fun v h=>(List.not_mem_nil h).elim,fun j c y h=>by simp at h⟩
  | v :: vs,x :: xs,⟨h,hs⟩=>by
    obtain ⟨h1,h2,h3⟩:=RepVs.css hp hs
    have hc:=h.cells hp
    refine ⟨by simp [h1],fun u hu=>?_,fun j c y hj hy=>?_⟩
    · rcases List.mem_cons.1 hu with rfl | hu
      · rw [← hc.len];simp
      · exact h2 u hu
    · cases j with
      | zero=>simp at hj hy;subst hj;subst hy;exact hc
      | succ j=>exact h3 j c y (by simpa using hj) (by simpa using hy)
section
variable {ds:List Deferred} {N:Nat} {a:Act} {l:List (Nat × Value)} {w w0:World} {P:Program} {ops:Array Oper} {Q:Exit → Act → World → Prop} {rest:List Oper} {o:Oper} {Kont:Act → World → Prop} {d:Nat} {K:Nat → Prop} {n:Nat} {L:List (Option Nat)}
theorem d_5 {w':World} {b:Nat} {e:GT} {E:TypeId} {cs:List Value} {xs:List (PT e)} {more:List Value} {fr:Nat × Nat} (W:Wd w0 w L) (hb:NewB w w' b) (hg:w'.heap[b]? = some (.cells (cs ++ more).toArray E fr)) (h:RepCs (.arr xs.length e) w (Kx K w0.heap.size L) cs xs) (c:Nat) (hc:xs.length ≤ c) (hc':c ≤ 9223372036854775807) (capo:Option Nat) (hcap:∀ k,capo = some k → c = k) :
    RepV (.sl e) w' (Kx K w0.heap.size L) (.slice (some ⟨b,0,.none⟩) xs.length c) ⟨xs,capo⟩:=by
  refine ⟨[_],⟨_,_,_,rfl,rfl,hc,hc',hcap,?_⟩,rfl⟩
  have h1:=hb.ge
  have h2:=W.below.size
  refine RowsOf.of_cells (cs:=cs) (h.keep (Keeps.below hb.below) fun _ _ h=>h) hb.lt ⟨.inr (by omega),fun hm=>by have:=(W.own _ hm).2;omega⟩ fun i v hv=>?_
  rw [Nat.zero_add,cell_of_row _ _ i _ E fr hg]
  have hi:=(List.getElem?_eq_some_iff.1 hv).1
  simp [List.getElem?_append_left hi,hv]
theorem run_bsl (T E:TypeId) (len:Nat) (parts:Array (Nat × Value)) (cells:Array Value) (ie:TypeInfo) (z:Value) (hu:P.underlying T = some (.slice E)) (hie:P.info? E = some ie) (hz:ie.zero = some z) (hsmall:¬ len * ie.size > 2 ^ 24) (hpos:¬ len * ie.size = 0)
    (h:Instr.fill (fun i=>some (i * ie.size,ie.size)) ((Array.range (len * ie.size)).map (z.cells[· % z.cells.size]!)) parts.toList = some cells) :
    (Instr.buildSlice T len parts).run P w = .ok (.slice (some ⟨w.heap.size,0,.none⟩) len len) (w.alloc (.cells cells E)):=by
  simp [Instr.buildSlice,run_underlying hu,sizeOf,typeInfo,zeroValue,hie,hz,hsmall,hpos,h,newRow]
def zeroB (P:Program) (T:TypeId):Bool:=match P.underlying T with | some (.slice E)=>(P.info? E).any fun i=>i.zero.isSome | _=>false
theorem a_k (S:StD ds N a l) (W:Wd w0 w L) {T:TypeId} {len:Nat} {parts:Array (Nat × Operand)} {e:GT} {vs:List Value} {xs:List (PT e)} (ho:o.op = .buildSlice T len parts) (ht:tiQ P (.sl e) false T [] 0 = true) (hp:e.isPair = false) (hsz:Nat.blt 0 (len * e.sz) = true) (hzero:zeroB P T = true) (hd:o.dst = some d) (hN:Nat.blt d N = true)
    (hv:evs l (parts.toList.map (·.2)) = some vs) (hparts:parts.toList.map (·.1) = List.range len) (hsmall:Nat.ble (len * e.sz) 16777216 = true) (R:RepVs e w (Kx K w0.heap.size L) vs xs)
    (k:∀ a' w' v,Below w.heap.size w w' → RepV (.sl e) w' (Kx K w0.heap.size L) v ⟨xs,some len⟩ → StD ds N a' ((d,v) :: l) → Kont a' w'):o.wp P a w Kont Q:=by
  obtain ⟨h1,h2,h3⟩:=R.css hp
  obtain ⟨E,hE,htE⟩:=a_V ht
  obtain ⟨ie,hie,hse⟩:=a_u htE
  have hvl:vs.length = len:=by
    have hm:=S.evs hv
    have:=congrArg List.length hparts
    rw [← hm]
    simpa using this
  obtain ⟨z,hz⟩:∃ z,ie.zero = some z:=by
    unfold zeroB at hzero
    rw [hE] at hzero
    simp only [hie,Option.any_some] at hzero
    exact Option.isSome_iff_exists.1 hzero
  have hpl:(parts.map fun (p:Nat × Operand)=>(p.1,a.eval p.2)).toList = b_0 0 vs:=by
    have hm:=S.evs hv
    have key:∀ (ps:List (Nat × Operand)) (us:List Value) (i:Nat),ps.map (·.1) = List.range' i ps.length → (ps.map (·.2)).map a.eval = us → ps.map (fun p=>(p.1,a.eval p.2)) = b_0 i us:=by
      intro ps
      induction ps with
      | nil=>intro us i _ h;simp at h;subst h;rfl
      | cons p ps ih =>
        intro us i h1 h2
        rw [List.map_cons,List.length_cons,List.range'_succ] at h1
        injection h1 with h1a h1b
        rw [List.map_cons,List.map_cons] at h2
        subst h2
        rw [List.map_cons,h1a]
        unfold b_0
        rw [ih _ (i + 1) h1b rfl]
    rw [Array.toList_map]
    refine key parts.toList vs 0 ?_ hm
    rw [hparts,List.range_eq_range']
    have:=congrArg List.length hparts
    simp at this
    simp [this]
  have hfill:Instr.fill (fun i=>some (i * ie.size,ie.size)) ((Array.range (len * ie.size)).map (z.cells[· % z.cells.size]!)) (parts.map fun (p:Nat × Operand)=>(p.1,a.eval p.2)).toList = some (vs.map fun v=>v.cells.toList).flatten.toArray:=by
    rw [hpl]
    have:=c_D ie.size vs 0 [] ((Array.range (len * ie.size)).map (z.cells[· % z.cells.size]!)).toList (fun v hv=>by rw [hse];exact h2 v hv) (by simp) (by simp [hvl])
    simpa only [List.nil_append,Array.toArray_toList] using this
  have hrun:=run_bsl (P:=P) (w:=w) T E len (parts.map fun (p:Nat × Operand)=>(p.1,a.eval p.2)) _ ie z hE hie hz (by rw [hse];simpa [Nat.ble_eq,Nat.not_lt] using hsmall) (by rw [hse];simp [Nat.blt_eq] at hsz;omega) hfill
  have hle:len ≤ 16777216:=by
    simp only [Nat.ble_eq,Nat.blt_eq] at hsmall hsz
    have hz:0 < e.sz:=Nat.pos_of_ne_zero fun h=>by rw [h] at hsz;simp at hsz
    have:=Nat.le_mul_of_pos_right len hz
    omega
  have hrep:=d_5 (E:=E) (more:=[]) (fr:=(0,0)) (K:=K) W (a_U w (.cells (vs.map fun v=>v.cells.toList).flatten.toArray E)) (by rw [List.append_nil];exact heap_alloc_new w _) (RepCs.arrOf (css:=vs.map fun v=>v.cells.toList) (by simp [h1]) h3) len (by omega) (by omega) (some len) (fun k hk=>Option.some.inj hk)
  refine a_s S (v:=.slice (some ⟨w.heap.size,0,.none⟩) len len) (w':=w.alloc (.cells (vs.map fun v=>v.cells.toList).flatten.toArray E)) hd hN ?_ fun a'=>k a' _ _ (a_U w _).below ?_
  · have hpm:parts.map (fun (x:Nat × Operand)=>match x with | (i,x)=>(i,a.eval x)) = parts.map fun (p:Nat × Operand)=>(p.1,a.eval p.2):=rfl
    simp only [execOp,ho]
    simp [hrun,hpm]
  · rw [show xs.length = len from by omega] at hrep
    exact hrep
theorem c_E (S:StD ds N a l) {src dst:TypeId} {x:Operand} {v:Value} {xs:Sl Int} (ho:o.op = .convert src dst x) (ht:tiQ P (.sl (.int .u8)) false src [] 0 = true) (ht':tiQ P .str false dst [] 0 = true) (hd:o.dst = some d) (hN:Nat.blt d N = true)
    (hx:ev l x = some v) (R:RepV (.sl (.int .u8)) w K v xs) (k:∀ a',StD ds N a' ((d,.string (strOfNums xs.xs)) :: l) → Kont a' w):o.wp P a w Kont Q:=by
  obtain ⟨A,m,c,rfl,h1,h2,_⟩:=R.bytes
  obtain ⟨E,hE,htE⟩:=a_V ht
  refine a_s S hd hN ?_ k
  have:=run_str (P:=P) w src dst E hE (a_Q htE) (a_R ht') w.heap.size A c m xs.xs h1 h2
  simp [execOp,ho,S.eval hx,this]
end
end Go.Proofs.YtjinaepmpoclaaaGreatDoor
namespace Go.Proofs.YtjinaepmpoclaaaGreatDoor
open Go.RowKit
def a_v (g:GT) (K:Nat → Prop) (x:PT g):Value → World → Prop:=fun v w=>RepV g w K v x
def isI (k:IntKind) (x:Int):Value → World → Prop:=fun v _=>v = .int k x ∧ InR k x
def isS (x:List Int):Value → World → Prop:=fun v _=>v = .string (strOfNums x) ∧ Byt x ∧ x.length ≤ 9223372036854775807
def isT2 (F1 F2:Value → World → Prop):Value → World → Prop:=fun v w=>∃ v1 v2,v = .tuple #[v1,v2] ∧ F1 v1 w ∧ F2 v2 w
structure Lv (K:Nat → Prop) (w w':World):Prop where
  os:w'.os = w.os
  tape:w'.tape = w.tape
  output:w'.output = w.output
  size:w.heap.size ≤ w'.heap.size
  keep:Keeps K w w'
structure Rel (K:Nat → Prop) (R:World → World → Prop):Prop where
  refl:∀ w,R w w
  trans:∀ a b c,R a b → R b c → R a c
  drawn:∀ w,R w { w with drawn:=w.drawn + 1 }
  lv:∀ a b,R a b → Lv K a b
  below:∀ a b,Below a.heap.size a b → R a b
def Bl (w w':World):Prop:=Below w.heap.size w w'
theorem Bl.rel (K:Nat → Prop):Rel K Bl:=⟨fun w=>Below.refl _ _,fun a b c h k=>d_2 h k,fun w=>⟨rfl,rfl,rfl,Nat.le_refl _,fun _ _=>rfl⟩,fun a b h=>⟨h.os,h.tape,h.output,h.size,Keeps.below h⟩,fun a b h=>h⟩
structure Sto (t:GT) (T:TypeId) (K:Nat → Prop) (g:Nat) (xn:PT t) (w w':World):Prop where
  os:w'.os = w.os
  tape:w'.tape = w.tape
  output:w'.output = w.output
  size:w.heap.size ≤ w'.heap.size
  block:∀ k,k < w.heap.size → k ≠ g → w'.heap[k]? = w.heap[k]?
  some_:(∃ x,Bx t T w K g x) → ∃ x,Bx t T w' K g x
  new:Bx t T w K g xn → Bx t T w' K g xn
def c_F (R:World → World → Prop) (f:Value → World → Prop):Prop:=∀ v w w',R w w' → f v w → f v w'
section
variable {R:World → World → Prop} {K:Nat → Prop}
theorem a_f (x:Value):c_F R (eqv x):=fun _ _ _ _ h=>h
theorem a_x {k:IntKind} {x:Int}:c_F R (isI k x):=fun _ _ _ _ h=>h
theorem d_h {x:List Int}:c_F R (isS x):=fun _ _ _ _ h=>h
theorem a_l {g:GT} {x:PT g} (hR:Rel K R):c_F R (a_v g K x):=fun _ _ _ hb h=>RepV.keep h (hR.lv _ _ hb).keep fun _ _ h=>h
theorem stab_T2 {F1 F2:Value → World → Prop} (h1:c_F R F1) (h2:c_F R F2):c_F R (isT2 F1 F2):=fun _ _ _ hb ⟨v1,v2,e,a,b⟩=>⟨v1,v2,e,h1 _ _ _ hb a,h2 _ _ _ hb b⟩
end
def b_e:List (Value → World → Prop) → Nat → Value → World → Prop
  | [],_=>fun _ _=>True
  | f :: _,0=>f
  | _ :: fs,i + 1=>b_e fs i
theorem b_v:∀ (Fs:List (Value → World → Prop)) (i:Nat),Fs.getD i (fun _ _=>True) = b_e Fs i
  | [],_=>rfl
  | f :: _,0=>rfl
  | _ :: fs,i + 1=>by rw [List.getD_cons_succ];exact b_v fs i
def StabL (R:World → World → Prop):List (Value → World → Prop) → Prop
  | []=>True
  | f :: fs=>c_F R f ∧ StabL R fs
theorem StabL.all {R:World → World → Prop}:∀ {Fs:List (Value → World → Prop)},StabL R Fs → ∀ f ∈ Fs,c_F R f
  | f :: fs,h,g,hg=>by
    rcases List.mem_cons.1 hg with rfl | hg
    · exact h.1
    · exact StabL.all h.2 g hg
def FillE (W:World):List ((Value → World → Prop) × Nat) → Act → (Act → Prop) → Prop
  | [],A,R=>R A
  | (f,d) :: ds,A,R=>∀ v,f v W → FillE W ds (A.put (some d) v) R
theorem FillE.deps {Fs:List (Value → World → Prop)} {W:World} {R:Act → Prop}:∀ (ds:List (Nat × Nat)) (A:Act),FillE W (ds.map fun p=>(b_e Fs p.1,p.2)) A R → FillDeps Fs W ds A R
  | [],_,h=>h
  | (i,d) :: ds,A,h=>fun v hv=>FillE.deps ds _ (h v (by rw [← b_v];exact hv))
section
variable {R:World → World → Prop}
def RunAll (R:World → World → Prop) (P:Program) (ops:Array Oper) (a0:Act) (w0:World) (Q:Exit → Act → World → Prop) (Fs:List (Value → World → Prop)):Nat → List Oper → List (List (Nat × Nat)) → Prop
  | _,[],_=>True
  | i,o :: os,ds :: D=>(∀ W,R w0 W → FillE W (ds.map fun p=>(b_e Fs p.1,p.2)) a0 fun A=>wpList P ops (a_0 R o.dst (b_e Fs i) a0.defers W Q) [o] A W) ∧ RunAll R P ops a0 w0 Q Fs (i + 1) os D
  | _,_ :: _,[]=>False
theorem RunAll.cons {P:Program} {ops:Array Oper} {a0:Act} {w0:World} {Q:Exit → Act → World → Prop} {Fs:List (Value → World → Prop)} {i:Nat} {o:Oper} {os:List Oper} {ds:List (Nat × Nat)} {D:List (List (Nat × Nat))} (f:Value → World → Prop) (es:List ((Value → World → Prop) × Nat))
    (hf:b_e Fs i = f) (he:(ds.map fun p=>(b_e Fs p.1,p.2)) = es) (h:∀ W,R w0 W → FillE W es a0 fun A=>wpList P ops (a_0 R o.dst f a0.defers W Q) [o] A W) (r:RunAll R P ops a0 w0 Q Fs (i + 1) os D):RunAll R P ops a0 w0 Q Fs i (o :: os) (ds :: D):=by
  subst hf
  subst he
  exact ⟨h,r⟩
def EndE (W:World) (Q:Act → Prop):List (Value → World → Prop) → List Oper → Act → Prop
  | f :: fs,o :: os,a=>match o.dst with
    | some d=>∀ v,f v W → EndE W Q fs os (a.put (some d) v)
    | .none=>f undef W → EndE W Q fs os a
  | _,_,a=>Q a
theorem EndE.some_ {W:World} {Q:Act → Prop} {f:Value → World → Prop} {fs:List (Value → World → Prop)} {o:Oper} {os:List Oper} {a:Act} {d:Nat} (hd:o.dst = some d) (h:∀ v,f v W → EndE W Q fs os (a.put (some d) v)):EndE W Q (f :: fs) (o :: os) a:=by
  unfold EndE
  rw [hd]
  exact h
theorem EndE.ok {W:World} {Q:Act → Prop} (fs:List (Value → World → Prop)):∀ (F:Nat → Value → World → Prop) (k:Nat) (os:List Oper) (a:Act),fs.length = os.length → (∀ j,F (k + j) = b_e fs j) → EndE W Q fs os a → b_I F W Q k os a:=by
  induction fs with
  | nil =>
    intro F k os a hl _ h
    obtain rfl:os = []:=List.eq_nil_of_length_eq_zero (by simpa using hl.symm)
    exact h
  | cons f fs ih =>
    intro F k os a hl hF h
    cases os with
    | nil=>simp at hl
    | cons o os =>
      have hl':fs.length = os.length:=by simpa using hl
      have hF':∀ j,F (k + 1 + j) = b_e fs j:=fun j=>by have:=hF (j + 1);rw [← Nat.add_assoc,Nat.add_right_comm] at this;exact this
      have h0:F k = f:=hF 0
      unfold b_I
      unfold EndE at h
      cases hd:o.dst with
      | none=>rw [hd] at h;intro hf;rw [h0] at hf;exact ih F (k + 1) os a hl' hF' (h hf)
      | some d =>
        rw [hd] at h
        intro v hv
        rw [h0] at hv
        exact ih F (k + 1) os _ hl' hF' (h v hv)
theorem RunAll.steps {P:Program} {ops:Array Oper} {a0:Act} {w0:World} {Q:Exit → Act → World → Prop} {Fs:List (Value → World → Prop)} (hB:a_N ops a0.tmps.size = true) (hsel:Region.noSelect ops = true):∀ (l:List Oper) (k:Nat) (D:List (List (Nat × Nat))),
    (∀ j,l[j]? = ops[k + j]?) → b_7 ops l D = true → RunAll R P ops a0 w0 Q Fs k l D → StepsOkR R P ops (fun i=>Fs.getD i (fun _ _=>True)) a0 w0 Q k l
  | [],_,_,_,_,_=>trivial
  | o :: l,k,[],_,_,h=>h.elim
  | o :: l,k,ds :: D,hl,hD,h=>by
    have h0:ops[k]? = some o:=by simpa using (hl 0).symm
    simp only [b_7,Bool.and_eq_true] at hD
    refine ⟨d_3 (F:=Fs) (f:=b_e Fs k) hB hsel h0 hD.1 (fun p _=>rfl) (b_v Fs k) fun W hW=>FillE.deps ds a0 (h.1 W hW),?_⟩
    exact RunAll.steps hB hsel l (k + 1) D (fun j=>by have:=hl (j + 1);simpa [Nat.add_assoc,Nat.add_comm 1 j] using this) hD.2 h.2
theorem c_b {K:Nat → Prop} {P:Program} {l:List Oper} {a0:Act} {w0:World} {Q:Exit → Act → World → Prop} (hR:Rel K R) (Fs:List (Value → World → Prop)) (D:List (List (Nat × Nat))) (hm:P.follows .mixedOrders = true) (hB:a_N l.toArray a0.tmps.size = true) (hsel:Region.noSelect l.toArray = true)
    (hD:b_7 l.toArray l D = true) (hlen:Fs.length = l.length) (hst:StabL R Fs) (h:RunAll R P l.toArray a0 w0 Q Fs 0 l D) (hend:∀ W,R w0 W → EndE W (fun a=>Q .normal a W) Fs l a0):WAny P l Q a0 w0 :=
  c_A Fs hR.refl hR.trans hR.drawn hm hB (fun f hf=>hst.all f hf) (RunAll.steps hB hsel l 0 D (fun j=>by simp) hD h) fun W hW=>EndE.ok Fs _ 0 l a0 hlen (fun j=>by rw [Nat.zero_add];exact b_v Fs j) (hend W hW)
theorem b_A {K:Nat → Prop} {P:Program} {id:Nat} {l:List Oper} {a0:Act} {w0:World} {Q:Exit → Act → World → Prop} (hR:Rel K R) (Fs:List (Value → World → Prop)) (D:List (List (Nat × Nat))) (hm:P.follows .mixedOrders = true) (hB:a_N l.toArray a0.tmps.size = true) (hsel:Region.noSelect l.toArray = true)
    (hD:b_7 l.toArray l D = true) (hlen:Fs.length = l.length) (hst:StabL R Fs) (h:RunAll R P l.toArray a0 w0 Q Fs 0 l D) (hend:∀ W,R w0 W → EndE W (fun a=>Q .normal a W) Fs l a0):(Code.region id l.toArray true).wp P Q a0 w0:=wp_region_any hm (c_b hR Fs D hm hB hsel hD hlen hst h hend)
theorem b_f {ds:List Deferred} {N:Nat} {l:List (Nat × Value)} {W:World} {Q:Act → Prop} {a:Act} (S:StD ds N a l) (h:∀ a',StD ds N a' l → Q a'):EndE W Q [] [] a:=h a S
theorem RPost.mk_ {ds:List Deferred} {N d:Nat} {A a0:Act} {l:List (Nat × Value)} {v:Value} {f:Value → World → Prop} {w w':World} {Q:Exit → Act → World → Prop} (S:StD ds N A l) (hd:lk l d = some v) (h0:a0.defers = ds) (hf:f v w') (hb:R w w') :
    a_0 R (some d) f a0.defers w Q .normal A w':=by
  refine ⟨S.defers.trans h0.symm,?_,hb⟩
  have:c_S (some d) A = v:=by simp [c_S,S.at_ d v hd]
  rw [this]
  exact hf
end
section
variable {w0 w w':World} {L:List (Option Nat)} {K:Nat → Prop} {n b:Nat} {t:GT}
end
end Go.Proofs.YtjinaepmpoclaaaGreatDoor
namespace Go.Proofs.YtjinaepmpoclaaaGreatDoor
open Go.RowKit
def Ow (e:GT) (E:TypeId) (w:World) (n:Nat) (K:Nat → Prop) (v:Value) (xs:List (PT e)) (c:Option Nat):Prop :=
  ∃ cs,w.ownsRow n E e.sz v xs.length cs ∧ RepCs (.arr xs.length e) w K cs xs ∧ ∀ q,c = some q → ∃ A m,v = .slice A m q
structure Apd (w w':World) (v v':Value):Prop where
  grown:w.grownBy w' v.ownBlock
  at_:v'.ownBlock = v.ownBlock ∨ v'.ownBlock = some w.heap.size
  lt:∀ k,v'.ownBlock = some k → k < w'.heap.size
section
variable {w0 w w':World} {L:List (Option Nat)} {K:Nat → Prop} {n b i:Nat} {t:GT} {v v':Value}
theorem Apd.keeps (h:Apd w w' v v') (hi:L[i]? = some v.ownBlock):Keeps (Kx K n L) w w' :=
  ⟨h.grown.size,fun p hp hk=>World.cell?_of_block (h.grown.block p.block hp fun e=>hk.2 (by rw [e];exact List.mem_of_getElem? hi))⟩
theorem Apd.kk (h:Apd w w' v v') (hi:L[i]? = some v.ownBlock):∀ c,c < w.heap.size → Kx K n L c → Kx K n (L.set i v'.ownBlock) c:=by
  intro c hc hk
  refine ⟨hk.1,fun hm=>?_⟩
  rcases List.mem_or_eq_of_mem_set hm with hm | e
  · exact hk.2 hm
  · rcases h.at_ with e2 | e2
    · exact hk.2 (by rw [e,e2];exact List.mem_of_getElem? hi)
    · rw [e2] at e
      have:=Option.some.inj e
      omega
theorem RepV.apd {u:Value} {x:PT t} (h:RepV t w (Kx K n L) u x) (ha:Apd w w' v v') (hi:L[i]? = some v.ownBlock):RepV t w' (Kx K n (L.set i v'.ownBlock)) u x:=h.keep (ha.keeps hi) (ha.kk hi)
theorem Wd.apd (h:Wd w0 w L) (ha:Apd w w' v v') (hi:L[i]? = some v.ownBlock):Wd w0 w' (L.set i v'.ownBlock):=by
  have hsz:=h.below.size
  refine ⟨h.below.trans ⟨ha.grown.os,ha.grown.tape,ha.grown.output,ha.grown.size,fun k hk=>ha.grown.block k (by omega) fun e=>?_⟩,fun c hm=>?_,?_⟩
  · have:=h.own k (by rw [e];exact List.mem_of_getElem? hi)
    omega
  · have hs:=ha.grown.size
    rcases List.mem_or_eq_of_mem_set hm with hm | e
    · have:=h.own c hm;omega
    · have h2:=ha.lt c e.symm
      rcases ha.at_ with e2 | e2
      · have:=h.own c (by rw [e,e2];exact List.mem_of_getElem? hi);omega
      · rw [e2] at e;have:=Option.some.inj e;omega
  · have hd:=List.pairwise_iff_getElem.1 h.dis
    refine List.pairwise_iff_getElem.2 fun p q hp hq hpq=>?_
    simp only [List.length_set] at hp hq
    rw [List.getElem_set,List.getElem_set]
    have hil:i < L.length:=(List.getElem?_eq_some_iff.1 hi).1
    have hiv:L[i] = v.ownBlock:=(List.getElem?_eq_some_iff.1 hi).2
    have fresh:∀ (r:Nat) (hr:r < L.length),v'.ownBlock = some w.heap.size → L[r] = .none ∨ L[r] ≠ v'.ownBlock:=by
      intro r hr e2
      cases hlr:L[r] with
      | none=>exact .inl rfl
      | some c =>
        refine .inr fun e=>?_
        rw [e2] at e
        have:=(h.own c (by rw [← hlr];exact List.getElem_mem hr)).2
        have:=Option.some.inj e
        omega
    split
    · rename_i hip
      subst hip
      rw [if_neg (by omega)]
      rcases ha.at_ with e2 | e2
      · have h:=hd i q hp hq hpq;rw [hiv,← e2] at h;exact h
      · rcases fresh q hq e2 with e | e
        · rw [e,e2];exact .inr (by simp)
        · exact .inr (fun h=>e h.symm)
    · split
      · rename_i hiq
        subst hiq
        rcases ha.at_ with e2 | e2
        · have h:=hd p i hp hq hpq;rw [hiv,← e2] at h;exact h
        · exact fresh p hp e2
      · exact hd p q hp hq hpq
theorem Wd.neq (h:Wd w0 w L) {x y:Option Nat} {p q:Nat} (hpq:p ≠ q) (hp:L[p]? = some x) (hq:L[q]? = some y):x = .none ∨ x ≠ y:=by
  have hd:=List.pairwise_iff_getElem.1 h.dis
  obtain ⟨hpl,hpv⟩:=List.getElem?_eq_some_iff.1 hp
  obtain ⟨hql,hqv⟩:=List.getElem?_eq_some_iff.1 hq
  rcases Nat.lt_or_gt_of_ne hpq with hlt | hlt
  · have:=hd p q hpl hql hlt;rw [hpv,hqv] at this;exact this
  · have:=hd q p hql hpl hlt
    rw [hpv,hqv] at this
    rcases this with e | e
    · cases x with
      | none=>exact .inl rfl
      | some c=>exact .inr (by rw [e];simp)
    · exact .inr fun h=>e h.symm
theorem Wd.bne (h:Wd w0 w L) {c:Nat} {p q:Nat} (hpq:p ≠ q) (hp:L[p]? = some (some b)) (hq:L[q]? = some (some c)):b ≠ c:=by
  rcases h.neq hpq hp hq with e | e
  · cases e
  · exact fun h=>e (by rw [h])
theorem Bx.apd {T:TypeId} {x:PT t} (h:Bx t T w (Kx K n L) b x) (W:Wd w0 w L) (ha:Apd w w' v v') (hi:L[i]? = some v.ownBlock) {j:Nat} (hj:L[j]? = some (some b)) (hji:j ≠ i):Bx t T w' (Kx K n (L.set i v'.ownBlock)) b x:=by
  have hl:=h.lt
  obtain ⟨cs,h1,h2⟩:=h
  refine ⟨cs,(ha.grown.block b hl fun e=>?_).trans h1,h2.keep (ha.keeps hi) (ha.kk hi)⟩
  rcases W.neq hji hj hi with e2 | e2
  · cases e2
  · exact e2 e
theorem Ow.apd {e:GT} {E:TypeId} {u:Value} {xs:List (PT e)} {c:Option Nat} (h:Ow e E w n (Kx K n L) u xs c) (W:Wd w0 w L) (ha:Apd w w' v v') (hi:L[i]? = some v.ownBlock) {j:Nat} (hj:L[j]? = some u.ownBlock) (hji:j ≠ i):Ow e E w' n (Kx K n (L.set i v'.ownBlock)) u xs c:=by
  obtain ⟨cs,h1,h2,h3⟩:=h
  refine ⟨cs,h1.kept ha.grown ?_,h2.keep (ha.keeps hi) (ha.kk hi),h3⟩
  exact W.neq hji hj hi
theorem Ow.step {e:GT} {E:TypeId} {xs:List (PT e)} {c:Option Nat} (h:Ow e E w n K v xs c) (hb:Below w.heap.size w w'):Ow e E w' n K v xs c:=by
  obtain ⟨cs,h1,h2,h3⟩:=h
  exact ⟨cs,h1.kept (row:=.none) ⟨hb.os,hb.tape,hb.output,hb.size,fun k hk _=>hb.block k hk⟩ (by cases hv:v.ownBlock <;> simp),h2.keep (Keeps.below hb) fun _ _ h=>h,h3⟩
theorem Ow.box {e:GT} {E:TypeId} {xs:List (PT e)} {c:Option Nat} (h:Ow e E w n (Kx K n L) v xs c) (hb:NewB w w' b):Ow e E w' n (Kx K n (some b :: L)) v xs c:=by
  obtain ⟨cs,h1,h2,h3⟩:=h
  exact ⟨cs,h1.kept (row:=.none) ⟨hb.below.os,hb.below.tape,hb.below.output,hb.below.size,fun k hk _=>hb.below.block k hk⟩ (by cases hv:v.ownBlock <;> simp),h2.keep (Keeps.below hb.below) fun d hc hk=>⟨hk.1,fun hm=>by
    rcases List.mem_cons.1 hm with e | hm
    · obtain rfl:=Option.some.inj e;have:=hb.ge;omega
    · exact hk.2 hm⟩,h3⟩
theorem Ow.wrote {e:GT} {E:TypeId} {xs:List (PT e)} {c:Option Nat} (h:Ow e E w n (Kx K n L) v xs c) (hw:Wrote b w w') (hb:some b ∈ L) (hne:v.ownBlock ≠ some b):Ow e E w' n (Kx K n L) v xs c:=by
  obtain ⟨cs,h1,h2,h3⟩:=h
  refine ⟨cs,h1.kept (row:=some b) ⟨hw.os,hw.tape,hw.output,Nat.le_of_eq hw.size.symm,fun k _ hk=>hw.block k fun e=>hk (by rw [e])⟩ (.inr hne),h2.keep (Keeps.wrote hw hb) fun _ _ h=>h,h3⟩
theorem Ow.nil {e:GT} {E:TypeId}:Ow e E w n K (.slice .none 0 0) [] (some 0) :=
  ⟨[],World.ownsRow_nil w n E e.sz,⟨rfl,[],rfl,rfl,fun j c y h=>by simp at h⟩,fun q h=>⟨.none,0,by rw [← Option.some.inj h]⟩⟩
theorem Kx.more {c:Nat} (hk:Kx K n L c):Kx K n (.none :: L) c:=⟨hk.1,fun hm=>by
  rcases List.mem_cons.1 hm with e | hm
  · cases e
  · exact hk.2 hm⟩
theorem RepV.more {u:Value} {x:PT t} (h:RepV t w (Kx K n L) u x):RepV t w (Kx K n (.none :: L)) u x:=h.keep (Keeps.refl _ _) fun _ _ hk=>hk.more
theorem Bx.more {T:TypeId} {x:PT t} (h:Bx t T w (Kx K n L) b x):Bx t T w (Kx K n (.none :: L)) b x:=by
  obtain ⟨cs,h1,h2⟩:=h
  exact ⟨cs,h1,h2.keep (Keeps.refl _ _) fun c _ hk=>⟨hk.1,fun hm=>by
    rcases List.mem_cons.1 hm with e | hm
    · cases e
    · exact hk.2 hm⟩⟩
theorem Ow.more {e:GT} {E:TypeId} {xs:List (PT e)} {c:Option Nat} (h:Ow e E w n (Kx K n L) v xs c):Ow e E w n (Kx K n (.none :: L)) v xs c:=by
  obtain ⟨cs,h1,h2,h3⟩:=h
  exact ⟨cs,h1,h2.keep (Keeps.refl _ _) fun c _ hk=>⟨hk.1,fun hm=>by
    rcases List.mem_cons.1 hm with e | hm
    · cases e
    · exact hk.2 hm⟩,h3⟩
theorem Wd.more (h:Wd w0 w L):Wd w0 w (.none :: L) :=
  ⟨h.below,fun c hm=>by
    rcases List.mem_cons.1 hm with e | hm
    · cases e
    · exact h.own c hm,List.pairwise_cons.2 ⟨fun _ _=>.inl rfl,h.dis⟩⟩
theorem Wd.less {L':List (Option Nat)} (h:Wd w0 w L) (hs:L'.Sublist L):Wd w0 w L':=⟨h.below,fun c hm=>h.own c (hs.subset hm),h.dis.sublist hs⟩
theorem RepV.less {L':List (Option Nat)} {u:Value} {x:PT t} (h:RepV t w (Kx K n L) u x) (hs:L'.Sublist L):RepV t w (Kx K n L') u x:=h.keep (Keeps.refl _ _) fun c _ hk=>⟨hk.1,fun hm=>hk.2 (hs.subset hm)⟩
theorem Bx.less {L':List (Option Nat)} {T:TypeId} {x:PT t} (h:Bx t T w (Kx K n L) b x) (hs:L'.Sublist L):Bx t T w (Kx K n L') b x:=by
  obtain ⟨cs,h1,h2⟩:=h
  exact ⟨cs,h1,h2.keep (Keeps.refl _ _) fun c _ hk=>⟨hk.1,fun hm=>hk.2 (hs.subset hm)⟩⟩
theorem Ow.less {L':List (Option Nat)} {e:GT} {E:TypeId} {xs:List (PT e)} {c:Option Nat} (h:Ow e E w n (Kx K n L) v xs c) (hs:L'.Sublist L):Ow e E w n (Kx K n L') v xs c:=by
  obtain ⟨cs,h1,h2,h3⟩:=h
  exact ⟨cs,h1,h2.keep (Keeps.refl _ _) fun c _ hk=>⟨hk.1,fun hm=>hk.2 (hs.subset hm)⟩,h3⟩
theorem Ow.pub {e:GT} {E:TypeId} {xs:List (PT e)} {c:Option Nat} {L':List (Option Nat)} (h:Ow e E w n (Kx K n L) v xs c) (hs:L'.Sublist L) (hno:∀ k,v.ownBlock = some k → some k ∉ L'):RepV (.sl e) w (Kx K n L') v ⟨xs,c⟩:=by
  obtain ⟨cs,h1,h2,h3⟩:=h
  have hk:∀ c,Kx K n L c → Kx K n L' c:=fun c hk=>⟨hk.1,fun hm=>hk.2 (hs.subset hm)⟩
  rcases h1.2 with ⟨rfl,hcs⟩ | ⟨g,cap,cur,rfl,hb,hg,hnc,hcm,hsz,htake⟩
  · obtain rfl:xs = []:=List.eq_nil_of_length_eq_zero hcs
    refine ⟨[_],⟨.none,0,0,rfl,rfl,Nat.le_refl _,by omega,fun q hq=>?_,.inl rfl⟩,rfl⟩
    obtain ⟨A,m,e⟩:=h3 q hq
    injection e
  · refine ⟨[_],⟨_,xs.length,cap,rfl,rfl,hnc,by simpa [maxLen] using hcm,fun q hq=>?_,?_⟩,rfl⟩
    · obtain ⟨A,m,e⟩:=h3 q hq
      injection e
    · refine RowsOf.of_cells (cs:=cs) (h2.keep (Keeps.refl _ _) fun c _ h=>hk c h) (Array.getElem?_eq_some_iff.1 hg).1 ⟨.inr hb,hno g rfl⟩ fun i u hu=>?_
      have:=h1.cells (g:=g) rfl i u hu
      rwa [Addr.add_lit] at this
theorem Ow.read {e:GT} {E:TypeId} {xs:List (PT e)} {c:Option Nat} (h:Ow e E w n (Kx K n L) v xs c):RepV (.sl e) w (Kx K n []) v ⟨xs,c⟩:=h.pub (List.nil_sublist _) fun _ _ h=>(List.not_mem_nil h).elim
end
def c_G {α:Type} (xs ys:List α):Option (List α):=if xs.length + ys.length ≤ 1099511627776 then some (xs ++ ys) else .none
def b_O (c:Option Nat) (n:Nat):Option Nat:=match c with | some q=>if n ≤ q then some q else .none | .none=>.none
def bytesB (P:Program) (T:TypeId) (e:GT):Bool:=Nat.blt 0 e.sz && match P.underlying T with | some (.slice E)=>(P.info? E).any fun i=>Nat.ble i.bytes 128 && i.zero.any fun z=>Nat.beq z.cells.size e.sz | _=>false
section
variable {ds:List Deferred} {N:Nat} {a:Act} {l:List (Nat × Value)} {w w0:World} {P:Program} {ops:Array Oper} {Q:Exit → Act → World → Prop} {rest:List Oper} {o:Oper} {Kont:Act → World → Prop} {d:Nat} {K:Nat → Prop} {n:Nat} {L:List (Option Nat)}
theorem b_X {e:GT} {cs ds:List Value} {xs ys:List (PT e)} {m k:Nat} (h1:RepCs (.arr m e) w K cs xs) (h2:RepCs (.arr k e) w K ds ys):RepCs (.arr (xs ++ ys).length e) w K (cs ++ ds) (xs ++ ys):=by
  obtain ⟨hx,c1,rfl,hl1,hr1⟩:=h1
  obtain ⟨hy,c2,rfl,hl2,hr2⟩:=h2
  refine ⟨rfl,c1 ++ c2,by simp,by simp;omega,fun j c y hc hyj=>?_⟩
  by_cases hj:j < c1.length
  · rw [List.getElem?_append_left hj] at hc
    rw [List.getElem?_append_left (by omega)] at hyj
    exact hr1 j c y hc hyj
  · rw [List.getElem?_append_right (by omega)] at hc
    rw [List.getElem?_append_right (by omega)] at hyj
    have e1:j - xs.length = j - c1.length:=by omega
    rw [e1] at hyj
    exact hr2 _ c y hc hyj
theorem a_P (S:StD ds N a l) (W:Wd w0 w L) {s x:Operand} {T E:TypeId} {e:GT} {v u:Value} {xs r:List (PT e)} {ys:Sl (PT e)} {c:Option Nat} (i:Nat) (ho:o.op = .call { callee:=.builtin .append,args:=#[s,x],argTypes:=#[T,T] }) (ht:tiQ P (.sl e) false T [] 0 = true) (hE:P.underlying T = some (.slice E)) (hby:bytesB P T e = true) (hd:o.dst = some d) (hN:Nat.blt d N = true)
    (hs:ev l s = some v) (hx:ev l x = some u) (O:Ow e E w w0.heap.size (Kx K w0.heap.size L) v xs c) (hi:L[i]? = some v.ownBlock) (R:RepV (.sl e) w (Kx K w0.heap.size L) u ys) (hr:c_G xs ys.xs = some r)
    (k:∀ a' w' v',Apd w w' v v' → Ow e E w' w0.heap.size (Kx K w0.heap.size (L.set i v'.ownBlock)) v' r (b_O c r.length) → StD ds N a' ((d,v') :: l) → Kont a' w'):o.wp P a w Kont Q:=by
  obtain ⟨cs,h1,h2,h3⟩:=O
  obtain ⟨A,m,cu,rfl,hm,hmc,hc63,_,hrow⟩:=R.sl
  obtain ⟨E',hE',htE⟩:=a_V ht
  obtain rfl:E = E':=by rw [hE] at hE';injection hE' with h;injection h
  obtain ⟨ie,hie,hse⟩:=a_u htE
  unfold bytesB at hby
  rw [hE] at hby
  simp only [hie,Option.any_some,Bool.and_eq_true,Nat.blt_eq,Nat.ble_eq] at hby
  obtain ⟨hsz,hbytes,hz⟩:=hby
  obtain ⟨z,hz0,hz1⟩:∃ z,ie.zero = some z ∧ z.cells.size = e.sz:=by
    cases hzz:ie.zero with
    | none=>rw [hzz] at hz;cases hz
    | some z=>rw [hzz] at hz;exact ⟨z,rfl,by simpa using hz⟩
  unfold c_G at hr
  have hle:xs.length + ys.xs.length ≤ 1099511627776:=by
    by_cases h:xs.length + ys.xs.length ≤ 1099511627776
    · exact h
    · rw [if_neg h] at hr;cases hr
  rw [if_pos hle] at hr
  obtain rfl:=Option.some.inj hr
  have hcells:=hrow.cells
  obtain ⟨ds,hds,hA⟩:=hcells
  have hlen:(xs ++ ys.xs).length = xs.length + m:=by rw [List.length_append,hm]
  have key:∃ v' w',(Builtin.append_ #[T,T] o.type #[v,.slice A m cu]).run P w = .ok v' w' ∧ w'.ownsRow w0.heap.size E e.sz v' (xs.length + m) (cs ++ ds) ∧ w.grownBy w' v.ownBlock ∧ (v'.ownBlock = v.ownBlock ∨ v'.ownBlock = some w.heap.size) ∧ (∀ q A' k',v = .slice A' k' q → xs.length + m ≤ q → ∃ B k'',v' = .slice B k'' q):=by
    rcases hA with hx0 | ⟨b,off,rfl,hb,hKb,hcell⟩
    · have hm0:m = 0:=by rw [← hm,hx0];rfl
      subst hm0
      have hds0:ds = []:=by
        have:=hds.len
        rw [hx0] at this
        exact List.eq_nil_of_length_eq_zero (by simpa [GT.sz] using this)
      subst hds0
      refine ⟨v,w,?_,by simpa using h1,World.grownBy.refl w _,.inl rfl,fun q A' k' hv _=>⟨A',k',hv⟩⟩
      rcases h1.2 with ⟨rfl,_⟩ | ⟨g,cap,cur,rfl,_,hg,hnc,_⟩
      · cases A with
        | none=>simp [Builtin.append_,run_underlying hE,sizeOf,typeInfo,hie,Builtin.lenOf,Builtin.firstCells]
        | some ad=>simp [Builtin.append_,run_underlying hE,sizeOf,typeInfo,hie,Builtin.lenOf,Builtin.firstCells,loadCells,loadCellsFrom]
      · cases A with
        | none=>simp [Builtin.append_,run_underlying hE,sizeOf,typeInfo,hie,Builtin.lenOf,Builtin.firstCells,hnc,storeCells]
        | some ad=>simp [Builtin.append_,run_underlying hE,sizeOf,typeInfo,hie,Builtin.lenOf,Builtin.firstCells,hnc,storeCells,loadCells,loadCellsFrom]
    · have hdl:=hds.len
      obtain ⟨v',w',hrun,a1,a2,a3,a4⟩:=run_append_own_at (P:=P) w w0.heap.size T o.type E ie z e.sz ie.bytes hE hie hz0 hse rfl hz1 hsz v xs.length cs h1 ⟨b,off,.none⟩ m cu ds (by rw [hdl];simp [GT.sz,hm]) (fun j q hq=>by rw [Addr.add_lit];exact hcell j q hq) hds.one (by simp only [maxLen];omega) (by
          have:(xs.length + m) * ie.bytes ≤ 1099511627776 * 128:=Nat.mul_le_mul (by omega) hbytes
          omega) W.below.size
      refine ⟨v',w',hrun,a1,a2,a4,fun q A' k' hv hq=>?_⟩
      rcases h1.2 with ⟨hv0,_⟩ | ⟨g,cap,cur,hv0,_,hg,hnc,hcm,hcsz,htk⟩
      · rw [hv0] at hv
        injection hv with e1 e2 e3
        subst e3
        have:v' = .slice .none 0 0:=a3.2 ⟨hv0,by omega⟩
        exact ⟨.none,0,this⟩
      · rw [hv0] at hv
        injection hv with e1 e2 e3
        subst e3
        have hroom:=run_append_room (P:=P) w T o.type E ie hE hie g xs.length cap cur (by rw [hg]) ⟨b,off,.none⟩ m cu ds (by rw [hdl,hse];simp [GT.sz,hm]) (fun j q hq=>by rw [Addr.add_lit];exact hcell j q hq) hds.one hq (by rw [hcsz,hdl,hse];simp [GT.sz,hm,← Nat.add_mul];exact Nat.mul_le_mul_right _ hq)
        rw [hv0,hroom] at hrun
        injection hrun with e4 e5
        exact ⟨_,_,e4.symm⟩
  obtain ⟨v',w',hrun,a1,a2,a4,a5⟩:=key
  have hap:Apd w w' v v':=⟨a2,a4,fun q hq=>(a1.lt q hq).2⟩
  refine a_s S (v:=v') (w':=w') hd hN (by simp [execOp,ho,resolve,invoke,builtin,S.eval hs,S.eval hx,hrun]) fun a'=>k a' w' v' hap ⟨cs ++ ds,by rw [hlen];exact a1,?_,?_⟩
  · have:=b_X h2 hds
    exact this.keep (hap.keeps hi) (hap.kk hi)
  · intro q hq
    unfold b_O at hq
    cases hc:c with
    | none=>rw [hc] at hq;cases hq
    | some q' =>
      rw [hc] at hq
      simp only at hq
      split at hq
      · rename_i hqq
        obtain rfl:=Option.some.inj hq
        obtain ⟨B,k',hv⟩:=h3 q' hc
        rw [hlen] at hqq
        exact a5 q' B k' hv hqq
      · cases hq
end
end Go.Proofs.YtjinaepmpoclaaaGreatDoor
namespace Go.Proofs.YtjinaepmpoclaaaGreatDoor
open Go.RowKit
def mkI (m c:Int):Option (Nat × Nat):=if 0 ≤ m ∧ m ≤ c ∧ c ≤ 1099511627776 then some (m.toNat,c.toNat) else .none
def slI {α:Type} (s:Sl α) (lo hi:Int):Option (Sl α):=if 0 ≤ lo ∧ lo ≤ hi ∧ hi ≤ s.xs.length then some ⟨(s.xs.take hi.toNat).drop lo.toNat,s.cap.map (· - lo.toNat)⟩ else .none
def c_c {α:Type} (s:Sl α) (lo hi mx:Int):Option (Sl α):=if 0 ≤ lo ∧ lo ≤ hi ∧ hi ≤ mx ∧ mx ≤ s.xs.length then some ⟨(s.xs.take hi.toNat).drop lo.toNat,some (mx.toNat - lo.toNat)⟩ else .none
def slS (s:List Int) (lo hi:Int):Option (List Int):=if 0 ≤ lo ∧ lo ≤ hi ∧ hi ≤ s.length then some ((s.take hi.toNat).drop lo.toNat) else .none
section
variable {ds:List Deferred} {N:Nat} {a:Act} {l:List (Nat × Value)} {w w0:World} {P:Program} {ops:Array Oper} {Q:Exit → Act → World → Prop} {rest:List Oper} {o:Oper} {Kont:Act → World → Prop} {d:Nat} {K:Nat → Prop} {n:Nat} {L:List (Option Nat)}
theorem RowsOf.cut {e:GT} {A:Option Addr} {xs:List (PT e)} (h:RowsOf (RepCs e w K) e.sz w K A xs) (lo hi:Nat) (hhi:hi ≤ xs.length) (B:Option Addr) (hB:lo < hi → B = A.map (·.add (lo * e.sz))):RowsOf (RepCs e w K) e.sz w K B ((xs.take hi).drop lo):=by
  by_cases hlt:lo < hi
  · rw [hB hlt]
    rcases h with rfl | ⟨b,off,rfl,hb,hK,hc⟩
    · exact .inl (by simp)
    · refine .inr ⟨b,off + lo * e.sz,by simp [Addr.add_lit],hb,hK,fun j x hj=>?_⟩
      rw [List.getElem?_drop,List.getElem?_take] at hj
      split at hj
      · obtain ⟨cs,h1,h2,h3⟩:=hc (lo + j) x hj
        refine ⟨cs,h1,h2,fun i v hv=>?_⟩
        have:=h3 i v hv
        rw [Nat.add_mul,← Nat.add_assoc] at this
        exact this
      · cases hj
  · exact .inl (List.drop_eq_nil_of_le (by rw [List.length_take];omega))
theorem b_q (S:StD ds N a l) {T:TypeId} {x:Operand} {lo hi:Option Operand} {e:GT} {v:Value} {xs r:Sl (PT e)} {m q:Int} (ho:o.op = .slice T x lo hi .none) (ht:tiQ P (.sl e) false T [] 0 = true) (hd:o.dst = some d) (hN:Nat.blt d N = true)
    (hx:ev l x = some v) (R:RepV (.sl e) w K v xs) (hlo:(lo = .none ∧ m = 0) ∨ ∃ x k,lo = some x ∧ ev l x = some (.int k m)) (hhi:(hi = .none ∧ q = a_d xs) ∨ ∃ x k,hi = some x ∧ ev l x = some (.int k q)) (hr:slI xs m q = some r)
    (k:∀ a' v',RepV (.sl e) w K v' r → StD ds N a' ((d,v') :: l) → Kont a' w):o.wp P a w Kont Q:=by
  obtain ⟨A,n0,c,rfl,h1,h2,h3,h4,h5⟩:=R.sl
  obtain ⟨E,hE,htE⟩:=a_V ht
  obtain ⟨ie,hie,hse⟩:=a_u htE
  unfold slI at hr
  split at hr
  · rename_i hc
    obtain ⟨c0,c1,c2⟩:=hc
    obtain rfl:=Option.some.inj hr
    have hrun:(Instr.sliceAt T (.slice A n0 c) (lo.map a.eval) (hi.map a.eval) .none).run P w = .ok (.slice (if c = m.toNat then A else A.map (·.add (m.toNat * e.sz))) (q.toNat - m.toNat) (c - m.toNat)) w:=by
      have q1:0 ≤ q:=by omega
      have q2:q ≤ (c:Int):=by omega
      have q3:(m ≤ max q 0):=by omega
      rcases hlo with ⟨rfl,rfl⟩ | ⟨y,k,rfl,hy⟩ <;> rcases hhi with ⟨rfl,rfl⟩ | ⟨y',k',rfl,hy'⟩
      · simp [Instr.sliceAt,Instr.slice,Instr.sliceBounds,run_underlying hE,sizeOf,typeInfo,hie,hse,a_d,h1]
      · simp [Instr.sliceAt,Instr.slice,Instr.sliceBounds,Instr.sliceBound,asIntOf,run_underlying hE,sizeOf,typeInfo,hie,hse,S.eval hy',q1,q2]
      · have c1':m ≤ (n0:Int):=by rw [← h1];exact c1
        simp [Instr.sliceAt,Instr.slice,Instr.sliceBounds,Instr.sliceBound,asIntOf,run_underlying hE,sizeOf,typeInfo,hie,hse,a_d,h1,S.eval hy,c0,c1']
      · simp [Instr.sliceAt,Instr.slice,Instr.sliceBounds,Instr.sliceBound,asIntOf,run_underlying hE,sizeOf,typeInfo,hie,hse,S.eval hy,S.eval hy',q1,q2,c0,q3]
    refine a_s S (v:=.slice (if c = m.toNat then A else A.map (·.add (m.toNat * e.sz))) (q.toNat - m.toNat) (c - m.toNat)) hd hN ?_ fun a'=>k a' _ ⟨[_],⟨_,_,_,rfl,?_,by omega,by omega,?_,?_⟩,rfl⟩
    · simp [execOp,ho,S.eval hx,hrun]
    · simp [List.length_drop,List.length_take];omega
    · intro k hk
      cases hcap:xs.cap with
      | none=>rw [hcap] at hk;cases hk
      | some p =>
        rw [hcap] at hk
        have:=h4 p hcap
        simp at hk
        omega
    · refine h5.cut _ _ (by omega) _ fun hlt=>?_
      rw [if_neg (by omega)]
  · cases hr
theorem a_8 (S:StD ds N a l) {T:TypeId} {x hi mx:Operand} {lo:Option Operand} {e:GT} {v:Value} {xs r:Sl (PT e)} {m q p:Int} {k2 k3:IntKind} (ho:o.op = .slice T x lo (some hi) (some mx)) (ht:tiQ P (.sl e) false T [] 0 = true) (hd:o.dst = some d) (hN:Nat.blt d N = true)
    (hx:ev l x = some v) (R:RepV (.sl e) w K v xs) (hlo:(lo = .none ∧ m = 0) ∨ ∃ x k,lo = some x ∧ ev l x = some (.int k m)) (hhi:ev l hi = some (.int k2 q)) (hmx:ev l mx = some (.int k3 p)) (hr:c_c xs m q p = some r)
    (k:∀ a' v',RepV (.sl e) w K v' r → StD ds N a' ((d,v') :: l) → Kont a' w):o.wp P a w Kont Q:=by
  obtain ⟨A,n0,c,rfl,h1,h2,h3,h4,h5⟩:=R.sl
  obtain ⟨E,hE,htE⟩:=a_V ht
  obtain ⟨ie,hie,hse⟩:=a_u htE
  unfold c_c at hr
  split at hr
  · rename_i hc
    obtain ⟨c0,c1,c2,c3⟩:=hc
    obtain rfl:=Option.some.inj hr
    have hrun:(Instr.sliceAt T (.slice A n0 c) (lo.map a.eval) (some (a.eval hi)) (some (a.eval mx))).run P w = .ok (.slice (if p.toNat = m.toNat then A else A.map (·.add (m.toNat * e.sz))) (q.toNat - m.toNat) (p.toNat - m.toNat)) w:=by
      have q1:0 ≤ q:=by omega
      have q2:q ≤ max p 0:=by omega
      have q3:(m ≤ max q 0):=by omega
      have q4:0 ≤ p:=by omega
      have q5:p ≤ (c:Int):=by omega
      rcases hlo with ⟨rfl,rfl⟩ | ⟨y,k,rfl,hy⟩
      · simp [Instr.sliceAt,Instr.slice,Instr.sliceBounds,Instr.sliceBound,asIntOf,run_underlying hE,sizeOf,typeInfo,hie,hse,S.eval hhi,S.eval hmx,q1,q2,q4,q5]
      · simp [Instr.sliceAt,Instr.slice,Instr.sliceBounds,Instr.sliceBound,asIntOf,run_underlying hE,sizeOf,typeInfo,hie,hse,S.eval hy,S.eval hhi,S.eval hmx,q1,q2,q4,q5,c0,q3]
    refine a_s S (v:=.slice (if p.toNat = m.toNat then A else A.map (·.add (m.toNat * e.sz))) (q.toNat - m.toNat) (p.toNat - m.toNat)) hd hN ?_ fun a'=>k a' _ ⟨[_],⟨_,_,_,rfl,?_,by omega,by omega,?_,?_⟩,rfl⟩
    · simp [execOp,ho,S.eval hx,hrun]
    · simp [List.length_drop,List.length_take];omega
    · intro k hk
      exact Option.some.inj hk
    · refine h5.cut _ _ (by omega) _ fun hlt=>?_
      rw [if_neg (by omega)]
  · cases hr
theorem c_H (S:StD ds N a l) {T:TypeId} {x:Operand} {lo hi:Option Operand} {xs r:List Int} {m q:Int} (ho:o.op = .slice T x lo hi .none) (ht:tiQ P .str false T [] 0 = true) (hd:o.dst = some d) (hN:Nat.blt d N = true)
    (hx:ev l x = some (.string (strOfNums xs))) (hlo:(lo = .none ∧ m = 0) ∨ ∃ x k,lo = some x ∧ ev l x = some (.int k m)) (hhi:(hi = .none ∧ q = b_i xs) ∨ ∃ x k,hi = some x ∧ ev l x = some (.int k q)) (hr:slS xs m q = some r)
    (k:∀ a',StD ds N a' ((d,.string (strOfNums r)) :: l) → Kont a' w):o.wp P a w Kont Q:=by
  unfold slS at hr
  split at hr
  · rename_i hc
    obtain ⟨c0,c1,c2⟩:=hc
    obtain rfl:=Option.some.inj hr
    refine a_s S hd hN ?_ k
    have hex:(strOfNums xs).extract m.toNat q.toNat = strOfNums ((xs.take q.toNat).drop m.toNat):=by
      apply ByteArray.ext
      simp [strOfNums,ByteArray.data_extract,List.map_take,List.map_drop,List.extract_eq_take_drop,List.drop_take]
    have q1:0 ≤ q:=by omega
    have q2:q ≤ ((strOfNums xs).size:Int):=by rw [b_y];exact c2
    have q3:(m ≤ max q 0):=by omega
    rcases hlo with ⟨rfl,rfl⟩ | ⟨y,k,rfl,hy⟩ <;> rcases hhi with ⟨rfl,rfl⟩ | ⟨y',k',rfl,hy'⟩
    · have:(strOfNums xs).extract 0 xs.length = strOfNums ((xs.take (b_i xs).toNat).drop 0):=by simpa [b_i] using hex
      simp [execOp,ho,S.eval hx,Instr.sliceAt,Instr.slice,Instr.sliceBounds,run_underlying (a_R ht),b_y,b_i] at this ⊢
    · simp [execOp,ho,S.eval hx,Instr.sliceAt,Instr.slice,Instr.sliceBounds,Instr.sliceBound,asIntOf,run_underlying (a_R ht),S.eval hy',q1,q2]
      simpa using hex
    · have c1':m ≤ ((strOfNums xs).size:Int):=by rw [b_y];exact c1
      simp [execOp,ho,S.eval hx,Instr.sliceAt,Instr.slice,Instr.sliceBounds,Instr.sliceBound,asIntOf,run_underlying (a_R ht),S.eval hy,c0,c1']
      rw [b_y]
      simpa [b_i] using hex
    · simp [execOp,ho,S.eval hx,Instr.sliceAt,Instr.slice,Instr.sliceBounds,Instr.sliceBound,asIntOf,run_underlying (a_R ht),S.eval hy,S.eval hy',q1,q2,c0,q3]
      exact hex
  · cases hr
theorem op_idxS (S:StD ds N a l) {T:TypeId} {x i:Operand} {xs:List Int} {k0:IntKind} {j y:Int} (ho:o.op = .index T x i) (ht:tiQ P .str false T [] 0 = true) (hd:o.dst = some d) (hN:Nat.blt d N = true) (hx:ev l x = some (.string (strOfNums xs))) (hB:Byt xs)
    (hi:ev l i = some (.int k0 j)) (hj:idx xs j = some y) (k:∀ a',StD ds N a' ((d,.int .u8 y) :: l) → Kont a' w):o.wp P a w Kont Q:=by
  refine a_s S hd hN ?_ k
  obtain ⟨h0,hg,hlt⟩:=b_z hj
  have hy:=hB y (List.mem_of_getElem? hg)
  have hsz:j.toNat < (strOfNums xs).size:=by rw [b_y];omega
  have hget:(strOfNums xs)[j.toNat]? = some (UInt8.ofNat y.toNat):=by
    rw [getElem?_pos (strOfNums xs) j.toNat hsz]
    congr 1
    have:(strOfNums xs)[j.toNat] = (strOfNums xs).data[j.toNat]'hsz:=rfl
    rw [this]
    have hx2:=(List.getElem?_eq_some_iff.1 hg).2
    simp [strOfNums,hx2]
  have:((UInt8.ofNat y.toNat).toNat:Int) = y:=by simp;omega
  simp [execOp,ho,S.eval hx,S.eval hi,Instr.index,asIntOf,run_underlying (a_R ht),h0,hget,this]
  omega
theorem a_C {e:GT} {cs:List Value} {z:PT e} (h:RepCs e w K cs z) (m:Nat):RepCs (.arr (List.replicate m z).length e) w K (List.replicate m cs).flatten (List.replicate m z):=by
  refine ⟨rfl,List.replicate m cs,rfl,by simp,fun j c y hc hy=>?_⟩
  simp only [List.getElem?_replicate] at hc hy
  split at hc
  · rename_i hj
    rw [if_pos hj] at hy
    obtain rfl:=Option.some.inj hc
    obtain rfl:=Option.some.inj hy
    exact h
  · cases hc
theorem c_W (z:List Value) (hz:0 < z.length) (m:Nat):((Array.range (m * z.length)).map (z.toArray[· % z.toArray.size]!)) = (List.replicate m z).flatten.toArray:=by
  apply Array.ext'
  apply List.ext_getElem?
  intro i
  simp only [Array.toList_map,Array.toList_range,List.getElem?_map,List.size_toArray]
  by_cases hi:i < m * z.length
  · have hdiv:i = i / z.length * z.length + i % z.length:=by rw [Nat.mul_comm];exact (Nat.div_add_mod i z.length).symm
    have hmod:=Nat.mod_lt i hz
    have hq:i / z.length < m:=(Nat.div_lt_iff_lt_mul hz).2 hi
    have:=c_w (List.replicate m z) z.length (i / z.length) (i % z.length) (fun c hc=>by rw [(List.mem_replicate.1 hc).2]) hmod
    rw [← hdiv] at this
    rw [this]
    simp [hi,hq,List.getElem?_replicate,List.getElem?_eq_getElem hmod]
  · rw [List.getElem?_eq_none (by simp;omega),List.getElem?_eq_none (by simp;omega)]
    rfl
theorem c_1 (S:StD ds N a l) (W:Wd w0 w L) {T E:TypeId} {x y:Operand} {e:GT} {z0:PT e} {m c:Int} {kx ky:IntKind} {r:Nat × Nat} (z:Value) (ho:o.op = .makeSlice T x y) (ht:tiQ P (.sl e) false T [] 0 = true) (hE:P.underlying T = some (.slice E)) (hby:bytesB P T e = true) (hz:(P.info? E).bind (·.zero) = some z) (R:∀ w K,RepCs e w K z.cells.toList z0) (hd:o.dst = some d) (hN:Nat.blt d N = true)
    (hx:ev l x = some (.int kx m)) (hy:ev l y = some (.int ky c)) (hr:mkI m c = some r)
    (k:∀ a' w' b,NewB w w' b → Ow e E w' w0.heap.size (Kx K w0.heap.size (some b :: L)) (.slice (some ⟨b,0,.none⟩) r.1 r.2) (List.replicate r.1 z0) (some r.2) → StD ds N a' ((d,.slice (some ⟨b,0,.none⟩) r.1 r.2) :: l) → Kont a' w'):o.wp P a w Kont Q:=by
  obtain ⟨E',hE',htE⟩:=a_V ht
  obtain rfl:E = E':=by rw [hE] at hE';injection hE' with h;injection h
  obtain ⟨ie,hie,hse⟩:=a_u htE
  unfold bytesB at hby
  rw [hE] at hby
  simp only [hie,Option.any_some,Bool.and_eq_true,Nat.blt_eq,Nat.ble_eq] at hby
  obtain ⟨hsz,hbytes,_⟩:=hby
  have hz0:ie.zero = some z:=by rw [hie] at hz;exact hz
  have hzl:z.cells.size = e.sz:=by have:=(R w K).len;simpa using this
  unfold mkI at hr
  split at hr
  · rename_i hc
    obtain ⟨c0,c1,c2⟩:=hc
    obtain rfl:=Option.some.inj hr
    have hwm:IntKind.i64.wrap m = m:=b_x .i64 (by simp [IntKind.min,IntKind.signed,IntKind.bits];omega) (by simp [IntKind.max,IntKind.signed,IntKind.bits];omega)
    have hwc:IntKind.i64.wrap c = c:=b_x .i64 (by simp [IntKind.min,IntKind.signed,IntKind.bits];omega) (by simp [IntKind.max,IntKind.signed,IntKind.bits];omega)
    have hcells:((Array.range (c.toNat * e.sz)).map (z.cells[· % z.cells.size]!)) = (List.replicate c.toNat z.cells.toList).flatten.toArray:=by
      have:=c_W z.cells.toList (by simp [hzl];omega) c.toNat
      simpa [hzl] using this
    have hlarge:¬ ((ie.bytes:Int) * c > 2 ^ 48):=by
      have h1:(ie.bytes:Int) ≤ 128:=by omega
      have h2:(ie.bytes:Int) * c ≤ 128 * 1099511627776:=Int.mul_le_mul h1 c2 (by omega) (by omega)
      omega
    have hb:=a_U w (.cells (List.replicate c.toNat z.cells.toList).flatten.toArray E)
    have hroom:∀ b w1,(askRoom b).run P w1 = .ok () w1:=by
      intro b w1
      unfold askRoom
      split
      · rfl
      · rfl
    have hrun:(Instr.makeSlice T (.int kx m) (.int ky c)).run P w = .ok (.slice (some ⟨w.heap.size,0,.none⟩) m.toNat c.toNat) (w.alloc (.cells (List.replicate c.toNat z.cells.toList).flatten.toArray E)):=by
      have e1:(c < 0) = False:=eq_false (by omega)
      have e2:(m < 0) = False:=eq_false (by omega)
      have e3:(c < m) = False:=eq_false (by omega)
      have hlarge:(281474976710656 < (ie.bytes:Int) * c) = False:=eq_false (by simpa using hlarge)
      by_cases hn0:c.toNat * e.sz = 0
      · have hc0:c.toNat = 0:=by rcases Nat.mul_eq_zero.1 hn0 with h | h <;> omega
        have hm0:m.toNat = 0:=by omega
        simp [Instr.makeSlice,run_underlying hE,asInt,asIntOf,typeInfo,hie,hwm,hwc,e1,e2,e3,hlarge,hroom,sizeOf,hse,hn0,newRow,hc0,hm0]
        rw [show Array.range 0 = #[] from rfl,Array.map_empty]
      · simp [Instr.makeSlice,run_underlying hE,asInt,asIntOf,typeInfo,hie,hwm,hwc,e1,e2,e3,hlarge,hroom,sizeOf,hse,hn0,newRow,zeroValue,hz0,hcells]
    refine a_s S (v:=.slice (some ⟨w.heap.size,0,.none⟩) m.toNat c.toNat) (w':=w.alloc (.cells (List.replicate c.toNat z.cells.toList).flatten.toArray E)) hd hN (by simp [execOp,ho,S.eval hx,S.eval hy,hrun]) fun a'=>k a' _ w.heap.size hb ⟨(List.replicate m.toNat z.cells.toList).flatten,⟨?_,.inr ⟨w.heap.size,c.toNat,_,?_,W.below.size,heap_alloc_new w _,?_,?_,?_,?_⟩⟩,a_C (R _ _) _,fun q hq=>?_⟩
    · have:=(a_C (R w K) m.toNat).len
      simpa [GT.sz] using this
    · simp
    · simp;omega
    · simp only [maxLen];omega
    · have:=(a_C (R w K) c.toNat).len
      simpa [GT.sz] using this
    · have hlen:=(a_C (R w K) m.toNat).len
      simp only [GT.sz,List.length_replicate] at hlen
      have hsplit:(List.replicate c.toNat z.cells.toList).flatten = (List.replicate m.toNat z.cells.toList).flatten ++ (List.replicate (c.toNat - m.toNat) z.cells.toList).flatten:=by
        rw [← List.flatten_append,List.replicate_append_replicate]
        congr 2
        omega
      rw [List.toList_toArray,hsplit]
      simp only [List.length_replicate]
      rw [← hlen]
      exact List.take_left
    · exact ⟨_,_,by rw [Option.some.inj hq]⟩
  · cases hr
end
end Go.Proofs.YtjinaepmpoclaaaGreatDoor
namespace Go.Proofs.YtjinaepmpoclaaaGreatDoor
open Go.RowKit
def d_y (f:GT) (w:World) (K:Nat → Prop):List (Nat × Value) → PT f → PT f → Prop
  | [],x,x'=>x = x'
  | (k,v) :: ps,x,x'=>∃ y,RepV (comp f k) w K v y ∧ (comp f k).isPair = false ∧ pureOp.fieldB f k = true ∧ d_y f w K ps (upd f k y x) x'
def FillsA (n:Nat) (e:GT) (w:World) (K:Nat → Prop):List (Nat × Value) → List (PT e) → List (PT e) → Prop
  | [],x,x'=>x = x'
  | (k,v) :: ps,x,x'=>∃ y,RepV e w K v y ∧ k < n ∧ FillsA n e w K ps (x.set k y) x'
section
variable {ds:List Deferred} {N:Nat} {a:Act} {l:List (Nat × Value)} {w w0:World} {P:Program} {ops:Array Oper} {Q:Exit → Act → World → Prop} {rest:List Oper} {o:Oper} {Kont:Act → World → Prop} {d:Nat} {K:Nat → Prop} {n:Nat} {L:List (Option Nat)}
theorem Ln.arr {n:Nat} {e:GT} {j:Nat} (hj:j < n) (z:PT e):Ln (.arr n e) e (j * e.sz) (fun x=>x.getD j z) (fun y x=>x.set j y):=by
  rintro w K cs x ⟨hx,css,rfl,hl,hr⟩
  have hjc:j < css.length:=by omega
  have hjx:j < x.length:=by omega
  have hlen:∀ c ∈ css,c.length = e.sz:=fun c hc=>by
    obtain ⟨k,hk⟩:=List.getElem?_of_mem hc
    have hkx:k < x.length:=by have:=(List.getElem?_eq_some_iff.1 hk).1;omega
    exact (hr k c _ hk (List.getElem?_eq_getElem hkx)).len
  have hsplit:css = css.take j ++ css[j] :: css.drop (j + 1):=by rw [List.getElem_cons_drop,List.take_append_drop]
  have hsum:∀ l:List (List Value),(∀ c ∈ l,c.length = e.sz) → l.flatten.length = l.length * e.sz:=by
    intro l
    induction l with
    | nil=>intro _;simp
    | cons c l ih=>intro h;rw [List.flatten_cons,List.length_append,h c (by simp),ih fun d hd=>h d (List.mem_cons_of_mem _ hd),List.length_cons,Nat.add_mul];omega
  refine ⟨(css.take j).flatten,css[j],(css.drop (j + 1)).flatten,?_,?_,?_,fun cn y hy=>⟨by simpa using hx,css.set j cn,?_,by simpa using hl,fun k c q hc hq=>?_⟩⟩
  · have h2:(css.take j ++ css[j] :: css.drop (j + 1)).flatten = (css.take j).flatten ++ css[j] ++ (css.drop (j + 1)).flatten:=by rw [List.flatten_append,List.flatten_cons,List.append_assoc]
    rw [← h2,← hsplit]
  · rw [hsum _ fun c hc=>hlen c (List.mem_of_mem_take hc),List.length_take]
    congr 1
    omega
  · have:=hr j _ x[j] (List.getElem?_eq_getElem hjc) (List.getElem?_eq_getElem hjx)
    show RepCs e w K css[j] (x.getD j z)
    rw [List.getD_eq_getElem?_getD,List.getElem?_eq_getElem hjx]
    exact this
  · rw [List.set_eq_take_append_cons_drop,if_pos hjc]
    simp
  · by_cases hjk:j = k
    · subst hjk
      rw [List.getElem?_set_self hjc] at hc
      rw [List.getElem?_set_self hjx] at hq
      obtain rfl:=Option.some.inj hc
      obtain rfl:=Option.some.inj hq
      exact hy
    · rw [List.getElem?_set_ne hjk] at hc hq
      exact hr k c q hc hq
theorem d_K {cs c1 c c2:List Value} {v:Value} {off s:Nat} (h:cs = c1 ++ c ++ c2) (h1:c1.length = off) (hc:c.length = s) (hv:v.cells.size = s) :
    (v.cells.zipIdx.foldl (fun acc (x:Value × Nat)=>acc.setIfInBounds (off + x.2) x.1) cs.toArray) = (c1 ++ v.cells.toList ++ c2).toArray:=by
  subst h
  have key:∀ (us:List Value) (j:Nat) (p q:List Value),us.length ≤ q.length → p.length = off + j → ((us.zipIdx j).foldl (fun (acc:Array Value) (x:Value × Nat)=>acc.setIfInBounds (off + x.2) x.1) (p ++ q).toArray) = (p ++ us ++ q.drop us.length).toArray:=by
    intro us
    induction us with
    | nil=>intro j p q _ _;simp
    | cons u us ih =>
      intro j p q hq hp
      match q,hq with
      | y :: q,hq =>
        rw [List.zipIdx_cons,List.foldl_cons]
        have:((p ++ y :: q).toArray.setIfInBounds (off + j) u) = ((p ++ [u]) ++ q).toArray:=by
          rw [← hp]
          simp [List.setIfInBounds_toArray,List.set_append_right]
        rw [this,ih (j + 1) (p ++ [u]) q (by simpa using hq) (by simp [hp];omega)]
        simp
  have:=key v.cells.toList 0 c1 (c ++ c2) (by simp [hv,hc]) (by omega)
  rw [← Array.foldl_toList,Array.toList_zipIdx,List.append_assoc]
  rw [this]
  simp [hv,← hc]
theorem d_L {f:GT} {T:TypeId} {fs:Array Field} (htf:tiQ P f true 0 fs.toList 0 = true) (places:Nat → Option (Nat × Nat)) (hpl:∀ k,pureOp.fieldB f k = true → places k = some (d_I f k,(comp f k).sz)) :
    ∀ (ps:List (Nat × Value)) (cs:List Value) (x x':PT f),RepCs f w K cs x → d_y f w K ps x x' → ∃ cs',Instr.fill places cs.toArray ps = some cs'.toArray ∧ RepCs f w K cs' x'
  | [],cs,x,x',h,hf=>⟨cs,rfl,by have:x = x':=hf;rw [← this];exact h⟩
  | (k,v) :: ps,cs,x,x',h,⟨y,hv,hp,hk,hrest⟩=>by
    obtain ⟨c1,c,c2,e,h1,hc,hset⟩:=Ln.comp (t:=f) k w K cs x h
    have hvc:=hv.cells hp
    have hvl:=hvc.len
    have hcl:=hc.len
    have hvs:v.cells.size = (comp f k).sz:=by simpa using hvl
    obtain ⟨cs',hf',hr'⟩:=d_L (T:=T) htf places hpl ps (c1 ++ v.cells.toList ++ c2) _ x' (hset _ y hvc) hrest
    refine ⟨cs',?_,hr'⟩
    unfold Instr.fill
    rw [hpl k hk]
    have hno:¬ (v.cells.size ≠ (comp f k).sz ∨ d_I f k + v.cells.size > cs.toArray.size):=by
      rw [e]
      simp [hvs,← h1,hcl]
    simp only [Bool.or_eq_true,decide_eq_true_eq,hno,if_false]
    rw [d_K e h1 hcl hvs]
    exact hf'
theorem d_i {m:Nat} {e:GT} (z:PT e) :
    ∀ (ps:List (Nat × Value)) (cs:List Value) (x x':List (PT e)),e.isPair = false → RepCs (.arr m e) w K cs x → FillsA m e w K ps x x' → ∃ cs',Instr.fill (fun i=>some (i * e.sz,e.sz)) cs.toArray ps = some cs'.toArray ∧ RepCs (.arr m e) w K cs' x'
  | [],cs,x,x',_,h,hf=>⟨cs,rfl,by have:x = x':=hf;rw [← this];exact h⟩
  | (k,v) :: ps,cs,x,x',hp,h,⟨y,hv,hk,hrest⟩=>by
    obtain ⟨c1,c,c2,e',h1,hc,hset⟩:=Ln.arr hk z w K cs x h
    have hvc:=hv.cells hp
    have hvl:=hvc.len
    have hcl:=hc.len
    have hvs:v.cells.size = e.sz:=by simpa using hvl
    obtain ⟨cs',hf',hr'⟩:=d_i z ps (c1 ++ v.cells.toList ++ c2) _ x' hp (hset _ y hvc) hrest
    refine ⟨cs',?_,hr'⟩
    unfold Instr.fill
    have hno:¬ (v.cells.size ≠ e.sz ∨ k * e.sz + v.cells.size > cs.toArray.size):=by
      rw [e']
      simp [hvs,← h1,hcl]
    simp only [Bool.or_eq_true,decide_eq_true_eq,hno,if_false]
    rw [d_K e' h1 hcl hvs]
    exact hf'
theorem c_I (fs:Array Field):∀ (l:List Field) (acc:Array (Nat × Nat)),(∀ f ∈ l,∃ i,P.info? f.type = some i) →
    (l.foldlM (fun (acc:Array (Nat × Nat)) (f:Field)=>(do pure (acc.push (f.offset,← sizeOf f.type)):Sem _)) acc).run P w = .ok (acc ++ (l.map fun f=>(f.offset,P.cellsOf f.type)).toArray) w
  | [],acc,_=>by simp
  | f :: l,acc,h=>by
    obtain ⟨i,hi⟩:=h f (by simp)
    simp only [List.foldlM_cons,Sem.run_bind,sizeOf,typeInfo,run_program,hi,Result.andThen_ok,Sem.run_pure]
    have:=c_I fs l (acc.push (f.offset,i.size)) fun g hg=>h g (List.mem_cons_of_mem _ hg)
    simp only [sizeOf,typeInfo] at this
    rw [this]
    simp [Program.cellsOf,hi]
theorem d_j:∀ {f:GT} {T:TypeId} {fs:List Field} {off:Nat},tiQ P f true T fs off = true → ∀ g ∈ fs,∃ i,P.info? g.type = some i
  | .pair a b,T,fs,off,h=>by
    cases fs with
    | nil=>simp [tiQ] at h
    | cons f fs =>
      simp only [tiQ,Bool.and_eq_true,beq_iff_eq] at h
      intro g hg
      rcases List.mem_cons.1 hg with rfl | hg
      · obtain ⟨i,hi,_⟩:=a_u h.1.1;exact ⟨i,hi⟩
      · exact d_j h.2 g hg
  | .int _,T,fs,off,h=>by
    intro g hg
    obtain ⟨k,hk⟩:=List.getElem?_of_mem hg
    match fs,h with
    | [f],h=>obtain ⟨fld,h1,_,i,hi,_⟩:=a_X (k:=0) h rfl;simp at h1 hg;subst h1;subst hg;exact ⟨i,hi⟩
    | f :: f2 :: r,h=>simp [tiQ] at h
  | .bool,T,fs,off,h=>by
    intro g hg
    match fs,h with
    | [f],h=>obtain ⟨fld,h1,_,i,hi,_⟩:=a_X (k:=0) h rfl;simp at h1 hg;subst h1;subst hg;exact ⟨i,hi⟩
    | f :: f2 :: r,h=>simp [tiQ] at h
  | .str,T,fs,off,h=>by
    intro g hg
    match fs,h with
    | [f],h=>obtain ⟨fld,h1,_,i,hi,_⟩:=a_X (k:=0) h rfl;simp at h1 hg;subst h1;subst hg;exact ⟨i,hi⟩
    | f :: f2 :: r,h=>simp [tiQ] at h
  | .sl _,T,fs,off,h=>by
    intro g hg
    match fs,h with
    | [f],h=>obtain ⟨fld,h1,_,i,hi,_⟩:=a_X (k:=0) h rfl;simp at h1 hg;subst h1;subst hg;exact ⟨i,hi⟩
    | f :: f2 :: r,h=>simp [tiQ] at h
  | .st _,T,fs,off,h=>by
    intro g hg
    match fs,h with
    | [f],h=>obtain ⟨fld,h1,_,i,hi,_⟩:=a_X (k:=0) h rfl;simp at h1 hg;subst h1;subst hg;exact ⟨i,hi⟩
    | f :: f2 :: r,h=>simp [tiQ] at h
  | .arr _ _,T,fs,off,h=>by
    intro g hg
    match fs,h with
    | [f],h=>obtain ⟨fld,h1,_,i,hi,_⟩:=a_X (k:=0) h rfl;simp at h1 hg;subst h1;subst hg;exact ⟨i,hi⟩
    | f :: f2 :: r,h=>simp [tiQ] at h
  | .raw,T,fs,off,h=>by
    intro g hg
    match fs,h with
    | [f],h=>obtain ⟨fld,h1,_,i,hi,_⟩:=a_X (k:=0) h rfl;simp at h1 hg;subst h1;subst hg;exact ⟨i,hi⟩
    | f :: f2 :: r,h=>simp [tiQ] at h
theorem a_F (S:StD ds N a l) {T:TypeId} {parts:Array (Nat × Operand)} {f:GT} {z0 x:PT f} {vs:List Value} (z:Value) (ho:o.op = .build T parts) (ht:tiQ P (.st f) false T [] 0 = true) (hz:(P.info? T).bind (·.zero) = some z) (R:∀ w K,RepCs f w K z.cells.toList z0) (hd:o.dst = some d) (hN:Nat.blt d N = true)
    (hv:evs l (parts.toList.map (·.2)) = some vs) (ps:List (Nat × Value)) (hps:ps = (parts.toList.map (·.1)).zip vs) (F:d_y f w K ps z0 x) (k:∀ a' v,RepV (.st f) w K v x → StD ds N a' ((d,v) :: l) → Kont a' w):o.wp P a w Kont Q:=by
  obtain ⟨fs,hfs,htf⟩:=b_9 ht
  obtain ⟨i,hi,hsz⟩:=a_u ht
  have hz0:i.zero = some z:=by rw [hi] at hz;exact hz
  have hmap:(fs.mapM fun (g:Field)=>(do pure (g.offset,← sizeOf g.type):Sem _)).run P w = .ok (fs.toList.map fun g=>(g.offset,P.cellsOf g.type)).toArray w:=by
    rw [Array.mapM_eq_foldlM]
    have:=c_I (P:=P) (w:=w) fs fs.toList #[] (d_j htf)
    rw [← Array.foldlM_toList]
    simpa using this
  have hpl:∀ k,pureOp.fieldB f k = true → (fs.toList.map fun g=>(g.offset,P.cellsOf g.type)).toArray[k]? = some (d_I f k,(comp f k).sz):=by
    intro k hk
    obtain ⟨fld,h1,h2,j,hj,hjs⟩:=a_X htf hk
    simp only [List.getElem?_toArray,List.getElem?_map,h1,Option.map_some,h2,Program.cellsOf,hj,hjs,Nat.zero_add,Option.getD_some]
  obtain ⟨cs',hfill,hrep⟩:=d_L (T:=T) htf (fun k=>(fs.toList.map fun g=>(g.offset,P.cellsOf g.type)).toArray[k]?) hpl ps z.cells.toList z0 x (R w K) F
  have hparts:(parts.map fun (p:Nat × Operand)=>(p.1,a.eval p.2)).toList = ps:=by
    rw [hps,← S.evs hv,Array.toList_map]
    induction parts.toList with
    | nil=>rfl
    | cons p r ih=>simp [ih]
  refine a_s S (v:=.agg cs'.toArray) hd hN ?_ fun a'=>k a' _ ⟨cs',hrep,rfl⟩
  have hpm:parts.map (fun (x:Nat × Operand)=>match x with | (i,x)=>(i,a.eval x)) = parts.map fun (p:Nat × Operand)=>(p.1,a.eval p.2):=rfl
  have hfill':Instr.fill (fun k=>(fs.toList.map fun g=>(g.offset,P.cellsOf g.type)).toArray[k]?) z.cells ps = some cs'.toArray:=by simpa using hfill
  simp only [execOp,ho,hpm,Instr.build,zeroValue,typeInfo,Sem.run_bind,run_program,hi,Result.andThen_ok,Sem.run_pure,hz0,run_underlying hfs,hmap,hparts,hfill']
def d_z (P:Program) (a:Act) (w:World) (r:ResultVar) (v:Value):Prop:=match r with
  | .tmp t=>a.tmps.getD t undef = v
  | .cell p T=>∃ ad,a.tmps.getD p undef = .pointer (some ad) ∧ (loadVar T ad).run P w = .ok v w
theorem a_E (S:StD ds N a l) {s:Nat} {v:Value} (h:lk l s = some v):d_z P a w (.tmp s) v:=by simp [d_z,S.at_ s v h]
theorem a_3 (S:StD ds N a l) {s:Nat} {p:Addr} {T:TypeId} {t:GT} {x:PT t} (h:lk l s = some (.pointer (some p))) (ht:tiQ P t false T [] 0 = true) (R:RepAt t w K p x):∃ v,d_z P a w (.cell s T) v ∧ RepV t w K v x:=by
  obtain ⟨v,hr,hv⟩:=b_K (P:=P) ht R
  exact ⟨v,⟨p,by simp [S.at_ s _ h],hr⟩,hv⟩
theorem d_A {r:ResultVar} {v:Value} (h:d_z P a w r v):(∃ t,r = .tmp t ∧ a.tmps.getD t undef = v) ∨ ∃ p T ad,r = .cell p T ∧ a.tmps.getD p undef = .pointer (some ad) ∧ (loadVar T ad).run P w = .ok v w:=by
  cases r with
  | tmp t=>exact .inl ⟨t,rfl,h⟩
  | cell p T=>obtain ⟨ad,h1,h2⟩:=h;exact .inr ⟨p,T,ad,rfl,h1,h2⟩
theorem d_k (S:St N a l) {fn:Func} {R:Ending → World → Prop} {r:ResultVar} {v:Value} (hr:fn.results = #[r]) (h1:d_z P a w r v) (hR:R (.returned v) w):bodyPost P fn R .ret a w:=by
  refine ⟨S.defers,v,?_,hR⟩
  rcases d_A h1 with ⟨t,rfl,h⟩ | ⟨p,T,ad,rfl,h,h'⟩
  · simp only [Array.getD_eq_getD_getElem?] at h;simp [results,hr,h]
  · simp only [Array.getD_eq_getD_getElem?] at h;simp [results,hr,h,asAddr,h']
theorem b_d (S:St N a l) {fn:Func} {R:Ending → World → Prop} {r r':ResultVar} {v v':Value} (hr:fn.results = #[r,r']) (h1:d_z P a w r v) (h2:d_z P a w r' v') (hR:R (.returned (.tuple #[v,v'])) w):bodyPost P fn R .ret a w:=by
  refine ⟨S.defers,_,?_,hR⟩
  rcases d_A h1 with ⟨t,rfl,h⟩ | ⟨p,T,ad,rfl,h,h'⟩ <;> rcases d_A h2 with ⟨t2,rfl,g⟩ | ⟨p2,T2,ad2,rfl,g,g'⟩
  · simp only [Array.getD_eq_getD_getElem?] at h g;simp [results,hr,h,g]
  · simp only [Array.getD_eq_getD_getElem?] at h g;simp [results,hr,h,g,asAddr,g']
  · simp only [Array.getD_eq_getD_getElem?] at h g;simp [results,hr,h,g,asAddr,h']
  · simp only [Array.getD_eq_getD_getElem?] at h g;simp [results,hr,h,g,asAddr,h',g']
theorem d_B (S:StD ds N a l) {fn:Fn} {fi cp:Array Operand} {vs us:List Value} (ho:o.op = .makeFunc fn fi cp) (hd:o.dst = some d) (hN:Nat.blt d N = true) (hv:evs l fi.toList = some vs) (hu:evs l cp.toList = some us) (k:∀ a',StD ds N a' ((d,.func fn vs.toArray us.toArray) :: l) → Kont a' w):o.wp P a w Kont Q:=by
  refine a_s S hd hN ?_ k
  have h1:fi.map a.eval = vs.toArray:=by rw [← S.evs hv,← Array.toList_map,Array.toArray_toList]
  have h2:cp.map a.eval = us.toArray:=by rw [← S.evs hu,← Array.toList_map,Array.toArray_toList]
  simp [execOp,ho,Instr.makeFunc,h1,h2]
end
end Go.Proofs.YtjinaepmpoclaaaGreatDoor
namespace Go.Proofs.YtjinaepmpoclaaaGreatDoor
open Go.RowKit
section
variable {w0 w w':World} {L:List (Option Nat)} {K:Nat → Prop} {n b:Nat} {t:GT} {v v':Value}
theorem Wd.lessAt (h:Wd w0 w L) (i:Nat):Wd w0 w (L.eraseIdx i):=h.less (List.eraseIdx_sublist _ _)
theorem RepV.lessAt {u:Value} {x:PT t} (h:RepV t w (Kx K n L) u x) (i:Nat):RepV t w (Kx K n (L.eraseIdx i)) u x:=h.less (List.eraseIdx_sublist _ _)
theorem Bx.lessAt {T:TypeId} {x:PT t} (h:Bx t T w (Kx K n L) b x) (i:Nat):Bx t T w (Kx K n (L.eraseIdx i)) b x:=h.less (List.eraseIdx_sublist _ _)
theorem Ow.lessAt {e:GT} {E:TypeId} {xs:List (PT e)} {c:Option Nat} (h:Ow e E w n (Kx K n L) v xs c) (i:Nat):Ow e E w n (Kx K n (L.eraseIdx i)) v xs c:=h.less (List.eraseIdx_sublist _ _)
theorem Wd.drop (h:Wd w0 w L) (i:Nat):Wd w0 w (L.drop i):=h.less (List.drop_sublist _ _)
theorem RepV.drop {u:Value} {x:PT t} (h:RepV t w (Kx K n L) u x) (i:Nat):RepV t w (Kx K n (L.drop i)) u x:=h.less (List.drop_sublist _ _)
theorem Bx.drop {T:TypeId} {x:PT t} (h:Bx t T w (Kx K n L) b x) (i:Nat):Bx t T w (Kx K n (L.drop i)) b x:=h.less (List.drop_sublist _ _)
theorem Ow.drop {e:GT} {E:TypeId} {xs:List (PT e)} {c:Option Nat} (h:Ow e E w n (Kx K n L) v xs c) (i:Nat):Ow e E w n (Kx K n (L.drop i)) v xs c:=h.less (List.drop_sublist _ _)
theorem b_P {α:Type} {l:List α} {i:Nat} {x:α} (h:x ∈ l.eraseIdx i):∃ j,j ≠ i ∧ l[j]? = some x:=by
  obtain ⟨j,hj⟩:=List.getElem?_of_mem h
  rw [List.getElem?_eraseIdx] at hj
  split at hj
  · exact ⟨j,by omega,hj⟩
  · exact ⟨j + 1,by omega,hj⟩
theorem Ow.pubAt {e:GT} {E:TypeId} {xs:List (PT e)} {c:Option Nat} (h:Ow e E w n (Kx K n L) v xs c) (W:Wd w0 w L) (i:Nat) (hi:L[i]? = some v.ownBlock):RepV (.sl e) w (Kx K n (L.eraseIdx i)) v ⟨xs,c⟩:=by
  refine h.pub (List.eraseIdx_sublist _ _) fun k hk hm=>?_
  obtain ⟨j,hji,hj⟩:=b_P hm
  rcases W.neq hji hj hi with e | e
  · cases e
  · exact e hk.symm
theorem Wd.one (W:Wd w0 w L) {p q:Nat} (hpq:p ≠ q) {x:Option Nat} (hp:L[p]? = some x) (hq:L[q]? = some (some b)):x ≠ some b:=by
  rcases W.neq hpq.symm hq hp with e | e
  · cases e
  · exact fun h=>e h.symm
theorem addr_add (b off m:Nat):(⟨b,off,.none⟩:Addr).add m = ⟨b,off + m,.none⟩:=Addr.add_lit b off m
theorem slS_ok {s r:List Int} {lo hi:Int} (h:Byt s ∧ s.length ≤ 9223372036854775807) (hr:slS s lo hi = some r):Byt r ∧ r.length ≤ 9223372036854775807:=by
  unfold slS at hr
  split at hr
  · rw [← Option.some.inj hr]
    exact ⟨(h.1.take _).drop _,by simp only [List.length_drop,List.length_take];omega⟩
  · cases hr
theorem Ow.el {e:GT} {E:TypeId} {xs:List (PT e)} {c:Option Nat} (h:Ow e E w n K v xs c) {j:Nat} {y:PT e} (hj:xs[j]? = some y) :
    ∃ g cap,v = .slice (some ⟨g,0,.none⟩) xs.length cap ∧ RepAt e w K ⟨g,j * e.sz,.none⟩ y:=by
  obtain ⟨cs,h1,h2,h3⟩:=h
  rcases h1.2 with ⟨rfl,hcs⟩ | ⟨g,cap,cur,rfl,hb,hg,hnc,hcm,hsz,htake⟩
  · have:xs = []:=List.eq_nil_of_length_eq_zero hcs
    subst this
    simp at hj
  · refine ⟨g,cap,rfl,rfl,?_⟩
    have hjl:=(List.getElem?_eq_some_iff.1 hj).1
    obtain ⟨c1,cc,c2,e1,e2,e3,_⟩:=Ln.arr hjl y w K cs xs h2
    refine ⟨cc,?_,fun i u hu=>?_⟩
    · have:xs.getD j y = y:=by rw [List.getD_eq_getElem?_getD,hj];rfl
      have e3':RepCs e w K cc (xs.getD j y):=e3
      rw [this] at e3'
      exact e3'
    · have hil:=(List.getElem?_eq_some_iff.1 hu).1
      have:=h1.cells (g:=g) rfl (j * e.sz + i) u (by
        rw [e1,List.append_assoc,List.getElem?_append_right (by omega),e2,Nat.add_sub_cancel_left,List.getElem?_append_left hil]
        exact hu)
      rw [Addr.add_lit] at this
      simpa using this
end
def lrK {α β γ:Type} (y:α ⊕ β) (g:β → Option γ) (f:α → Option γ):Option γ:=match y with | .inl s=>f s | .inr r=>g r
theorem b_E {α β γ:Type} {e:α} {g:β → Option γ} {f:α → Option γ} {r:γ} (h:lrK (.inl e) g f = some r):f e = some r:=h
theorem c_s {α β:Type} {e r:β} {f:α → Option β} (h:lrK (.inr e) some f = some r):e = r:=Option.some.inj h
theorem d_C {α β δ:Type} {e:β} {y:δ ⊕ β} {f:α → Option (δ ⊕ β)} (h:lrK (.inr e) (fun r=>some (.inr r)) f = some y):y = .inr e:=(Option.some.inj h).symm
theorem Ow.forget {e:GT} {E:TypeId} {w:World} {n:Nat} {K:Nat → Prop} {v:Value} {xs:List (PT e)} {c:Option Nat} (h:Ow e E w n K v xs c):Ow e E w n K v xs .none:=by
  obtain ⟨cs,h1,h2,h3⟩:=h
  exact ⟨cs,h1,h2,fun q hq=>by cases hq⟩
section
variable {ds:List Deferred} {N:Nat} {a:Act} {l:List (Nat × Value)} {w w0:World} {P:Program} {ops:Array Oper} {Q:Exit → Act → World → Prop} {rest:List Oper} {o:Oper} {Kont:Act → World → Prop} {d:Nat} {K:Nat → Prop} {n:Nat} {L:List (Option Nat)}
theorem b_F (S:StD ds N a l) {T E:TypeId} {x i:Operand} {e:GT} {v:Value} {xs:List (PT e)} {c:Option Nat} {k0:IntKind} {j:Int} {y:PT e} (ho:o.op = .indexAddr T x i) (ht:tiQ P (.sl e) false T [] 0 = true) (hd:o.dst = some d) (hN:Nat.blt d N = true)
    (hx:ev l x = some v) (O:Ow e E w n K v xs c) (hi:ev l i = some (.int k0 j)) (hj:idx xs j = some y)
    (k:∀ a' g,v.ownBlock = some g → RepAt e w K ⟨g,j.toNat * e.sz,.none⟩ y → StD ds N a' ((d,.pointer (some ⟨g,j.toNat * e.sz,.none⟩)) :: l) → Kont a' w):o.wp P a w Kont Q:=by
  obtain ⟨E',hE,htE⟩:=a_V ht
  obtain ⟨ie,hie,hse⟩:=a_u htE
  obtain ⟨h0,hg,hlt⟩:=b_z hj
  obtain ⟨g,cap,rfl,hR⟩:=O.el hg
  have hlt':0 ≤ j ∧ j < (xs.length:Int):=⟨h0,hlt⟩
  refine a_s S (v:=.pointer (some ⟨g,j.toNat * e.sz,.none⟩)) hd hN ?_ fun a'=>k a' g rfl hR
  simp [execOp,ho,S.eval hx,S.eval hi,Instr.indexAt,asIntOf,run_underlying hE,hlt',sizeOf,typeInfo,hie,hse,Addr.add_lit]
theorem d_l (S:StD ds N a l) {T E:TypeId} {ad xo:Operand} {e t':GT} {g off:Nat} {get:PT e → PT t'} {set:PT t' → PT e → PT e} {xs:List (PT e)} {c:Option Nat} {v u:Value} {z:PT e} {y:PT t'} {p:Addr} {j:Nat} (ho:o.op = .store T ad xo) (hd:o.dst = .none) (ht:tiQ P t' false T [] 0 = true)
    (ha:ev l ad = some (.pointer (some p))) (hp:p = ⟨g,j * e.sz + off,.none⟩) (hx:ev l xo = some u) (O:Ow e E w n (Kx K n L) v xs c) (hv:v.ownBlock = some g) (i:Nat) (hi:L[i]? = some v.ownBlock) (hj:xs[j]? = some z) (hln:Ln e t' off get set) (R:RepV t' w (Kx K n L) u y)
    (k:∀ w',Wrote g w w' → some g ∈ L → Ow e E w' n (Kx K n L) v (xs.set j (set y z)) c → Kont a w'):o.wp P a w Kont Q:=by
  have hgL:some g ∈ L:=by rw [← hv];exact List.mem_of_getElem? hi
  obtain ⟨cs,h1,h2,h3⟩:=O
  obtain ⟨it,hit,hsz⟩:=a_u ht
  have hpq:t'.isPair = false:=by cases t' <;> first | rfl | simp [tiQ] at ht
  have hvc:=R.cells hpq
  have hjl:=(List.getElem?_eq_some_iff.1 hj).1
  have hln2:=Ln.trans (Ln.arr hjl z) hln
  obtain ⟨c1,cc,c2,e1,e2,e3,eset⟩:=hln2 w _ cs xs h2
  have hgd:xs.getD j z = z:=by rw [List.getD_eq_getElem?_getD,hj];rfl
  rcases h1.2 with ⟨rfl,hcs⟩ | ⟨g',cap,cur,rfl,hb,hg,hnc,hcm,hcsz,htake⟩
  · simp [Value.ownBlock] at hv
  · have hgg:g' = g:=by simpa [Value.ownBlock] using hv
    subst hgg
    have hlen:u.cells.toList.length = cc.length:=by rw [hvc.len,e3.len]
    have hcl:cs.length = xs.length * e.sz:=h1.1
    have hcur:cur.toList = c1 ++ cc ++ (c2 ++ cur.toList.drop (xs.length * e.sz)):=by
      conv=>lhs;rw [← List.take_append_drop (xs.length * e.sz) cur.toList,htake,e1]
      simp
    have hst:=run_storeCells_at (P:=P) g' (j * e.sz + off) E u.cells.toList 0 cur w hg (by
      have:=congrArg List.length hcur
      simp only [List.length_append,Array.length_toList] at this
      omega) hvc.one
    have htk:(cur.toList.take (j * e.sz + off + 0)) = c1:=by
      rw [hcur,Nat.add_zero,← e2,List.append_assoc]
      exact List.take_left
    have hdp:(cur.toList.drop (j * e.sz + off + 0 + u.cells.toList.length)) = c2 ++ cur.toList.drop (xs.length * e.sz):=by
      conv=>lhs;rw [hcur]
      rw [hlen,Nat.add_zero,← e2,← List.length_append]
      exact List.drop_left
    rw [htk,hdp] at hst
    have hw:=b_M w g' (c1 ++ u.cells.toList ++ (c2 ++ cur.toList.drop (xs.length * e.sz))).toArray
    have hrun:(execOp a.eval o).run P w = .ok .skip (w.setRow g' (c1 ++ u.cells.toList ++ (c2 ++ cur.toList.drop (xs.length * e.sz))).toArray):=by
      have hss:u.cells.size = it.size:=by rw [hsz,← hvc.len];simp
      subst hp
      have hsv:(storeVar T ⟨g',j * e.sz + off,.none⟩ u).run P w = .ok () (w.setRow g' (c1 ++ u.cells.toList ++ (c2 ++ cur.toList.drop (xs.length * e.sz))).toArray):=by
        simp only [storeVar,sizeOf,typeInfo,Sem.run_bind,Sem.run_pure,Result.andThen_ok,run_program,hit,hss,ne_eq,not_true_eq_false,if_false]
        exact hst
      simp [execOp,ho,S.eval ha,S.eval hx,Instr.storeAt,Instr.sureAddr,hsv]
    unfold Oper.wp
    rw [hrun]
    simp only [Oper.upon,hd]
    have hnew:=eset u.cells.toList y hvc
    have hnewlen:(c1 ++ u.cells.toList ++ c2).length = xs.length * e.sz:=by
      rw [← hcl,e1]
      simp only [List.length_append,hlen]
    refine k _ hw hgL ⟨c1 ++ u.cells.toList ++ c2,⟨by rw [hnewlen];simp,.inr ⟨g',cap,_,by simp,hb,setRow_heap w g' cur _ E _ hg,by simpa using hnc,hcm,?_,?_⟩⟩,?_,?_⟩
    · have:=congrArg List.length hcur
      simp only [List.length_append,Array.length_toList] at this
      simp only [List.size_toArray,List.length_append,hlen]
      omega
    · simp only [List.length_set]
      rw [← hnewlen,← List.append_assoc]
      exact List.take_left
    · have:(fun (x:List (PT e))=>x.set j (set y (x.getD j z))) xs = xs.set j (set y z):=by simp only [hgd]
      have hnew':RepCs (.arr xs.length e) w (Kx K n L) (c1 ++ u.cells.toList ++ c2) (xs.set j (set y (xs.getD j z))):=hnew
      rw [hgd] at hnew'
      have hnl:(xs.set j (set y z)).length = xs.length:=by simp
      rw [hnl]
      exact hnew'.keep (Keeps.wrote hw hgL) fun _ _ h=>h
    · intro q hq
      obtain ⟨A,m,hA⟩:=h3 q hq
      exact ⟨A,m,hA⟩
end
end Go.Proofs.YtjinaepmpoclaaaGreatDoor
namespace Go.Proofs.YtjinaepmpoclaaaGreatDoor
open Go.RowKit
def d_D:GT → Bool
  | .int _=>true
  | .bool=>true
  | .str=>true
  | _=>false
def c_2:GT → Bool
  | .pair a b=>d_D a && c_2 b
  | t=>d_D t
def eqP:(t:GT) → PT t → PT t → Bool
  | .int _,x,y=>decide ((x:Int) = y)
  | .bool,x,y=>decide ((x:Bool) = y)
  | .str,x,y=>decide ((x:List Int) = y)
  | .pair a b,x,y=>eqP a x.1 y.1 && eqP b x.2 y.2
  | _,_,_=>false
section
variable {P:Program}
theorem tie_last {t:GT} (hs:d_D t = true) {T:TypeId} {fs:List Field} {o:Nat} (h:tiQ P t true T fs o = true):∃ f,fs = [f] ∧ f.offset = o ∧ tiQ P t false f.type [] 0 = true:=by
  match fs,h with
  | [],h=>cases t <;> simp [tiQ,d_D] at h hs
  | [f],h=>cases t <;> simp [tiQ,d_D] at h hs ⊢ <;> exact ⟨h.1.1,h.1.2,h.2⟩
  | f :: g :: r,h=>cases t <;> simp [tiQ,d_D] at h hs
theorem b_Y {t:GT} (hs:d_D t = true) {T:TypeId} (h:tiQ P t false T [] 0 = true):P.plainKey T = true:=by
  cases t <;> simp [d_D] at hs
  · simp [Program.plainKey,a_Q h]
  · simp [Program.plainKey,a_Y h]
  · simp [Program.plainKey,a_R h]
theorem scal_eq {t:GT} (hs:d_D t = true) {T:TypeId} (h:tiQ P t false T [] 0 = true) {w W:World} {K:Nat → Prop} {c1 c2:List Value} {x y:PT t} (h1:RepCs t W K c1 x) (h2:RepCs t W K c2 y) (d:Nat) :
    ∃ v1 v2,c1 = [v1] ∧ c2 = [v2] ∧ (Op.equalIn (d + 1) T v1 v2).run P w = .ok (eqP t x y) w:=by
  cases t <;> simp [d_D] at hs
  · refine ⟨_,_,h1.1,h2.1,?_⟩
    rw [run_equalIn_int w d T _ _ _ _ (a_Q h)]
    simp [eqP,Bool.beq_eq_decide_eq]
  · refine ⟨_,_,h1,h2,?_⟩
    rw [run_equalIn_bool' w d T _ _ (a_Y h)]
    simp [eqP,Bool.beq_eq_decide_eq]
  · refine ⟨_,_,h1.1,h2.1,?_⟩
    rw [run_equalIn_string w d T _ _ (a_R h),d_u h1.2.1 h2.2.1]
    rfl
theorem d_m {d : Nat} {w W : World} {K : Nat → Prop} {xs ys : Array Value} : ∀ {t : GT} {T : TypeId} {fs : List Field} {o : Nat}, c_2 t = true → tiQ P t true T fs o = true → fs.all (fun f => f.name != "_") = true →
    ∀ {c1 c2:List Value} {x y:PT t},RepCs t W K c1 x → RepCs t W K c2 y → (∀ i v,c1[i]? = some v → xs[o + i]? = some v) → (∀ i v,c2[i]? = some v → ys[o + i]? = some v) →
    (Op.eqFields (d + 1) xs ys fs).run P w = .ok (eqP t x y) w:=by
  intro t
  have last : ∀ {t : GT} {T : TypeId} {fs : List Field} {o : Nat}, d_D t = true → tiQ P t true T fs o = true → fs.all (fun f => f.name != "_") = true →
    ∀ {c1 c2:List Value} {x y:PT t},RepCs t W K c1 x → RepCs t W K c2 y → (∀ i v,c1[i]? = some v → xs[o + i]? = some v) → (∀ i v,c2[i]? = some v → ys[o + i]? = some v) →
    (Op.eqFields (d + 1) xs ys fs).run P w = .ok (eqP t x y) w:=by
    intro t T fs o hs ht hn c1 c2 x y h1 h2 e1 e2
    obtain ⟨f,rfl,rfl,hf⟩:=tie_last hs ht
    obtain ⟨v1,v2,rfl,rfl,he⟩:=scal_eq (w:=w) hs hf h1 h2 d
    have hnm : f.name ≠ "_" := by simpa using hn
    have p1:=run_part_plain (w:=w) (b_Y hs hf) (e1 0 v1 rfl)
    have p2:=run_part_plain (w:=w) (b_Y hs hf) (e2 0 v2 rfl)
    rw [Nat.add_zero] at p1 p2
    simp only [Op.eqFields,if_pos hnm,Sem.run_bind,p1,p2,he,Result.andThen_ok]
    cases eqP t x y <;> simp [Op.eqFields]
  induction t with
  | pair a b iha ihb =>
    intro T fs o hs ht hn c1 c2 x y h1 h2 e1 e2
    obtain ⟨ha,hb⟩:=Bool.and_eq_true_iff.1 hs
    match fs,ht,hn with
    | f :: fs,ht,hn =>
      simp only [tiQ,Bool.and_eq_true,beq_iff_eq] at ht
      obtain ⟨⟨ht1,ho⟩,ht2⟩:=ht
      obtain ⟨a1,b1,rfl,ha1,hb1⟩:=h1
      obtain ⟨a2,b2,rfl,ha2,hb2⟩:=h2
      obtain ⟨v1,v2,rfl,rfl,he⟩:=scal_eq (w:=w) ha ht1 ha1 ha2 d
      have hsz:a.sz = 1:=by have:=ha1.len;simpa using this.symm
      simp only [List.all_cons,Bool.and_eq_true,bne_iff_ne] at hn
      have p1:=run_part_plain (w:=w) (b_Y ha ht1) (e1 0 v1 rfl)
      have p2:=run_part_plain (w:=w) (b_Y ha ht1) (e2 0 v2 rfl)
      rw [Nat.add_zero,← ho] at p1 p2
      rw [hsz] at ht2
      have:=ihb hb ht2 (by simpa using hn.2) hb1 hb2 (fun i v hv=>by have:=e1 (i + 1) v (by simpa using hv);rwa [show o + 1 + i = o + (i + 1) by omega]) (fun i v hv=>by have:=e2 (i + 1) v (by simpa using hv);rwa [show o + 1 + i = o + (i + 1) by omega])
      simp only [Op.eqFields,if_pos hn.1,Sem.run_bind,p1,p2,he,Result.andThen_ok]
      show _ = Result.ok (eqP a x.1 y.1 && eqP b x.2 y.2) w
      cases eqP a x.1 y.1 <;> simp [this]
    | [],ht,_=>simp [tiQ] at ht
  | int k=>exact fun hs=>last hs
  | bool=>exact fun hs=>last hs
  | str=>exact fun hs=>last hs
  | sl e _=>intro _ _ _ hs;simp [c_2,d_D] at hs
  | st e _=>intro _ _ _ hs;simp [c_2,d_D] at hs
  | arr n e _=>intro _ _ _ hs;simp [c_2,d_D] at hs
  | raw=>intro _ _ _ hs;simp [c_2,d_D] at hs
def eqB (P : Program) (T : TypeId) : Bool := (P.fieldsOf T).toList.all (fun f => f.name != "_") && !P.stoodInHeld T && !P.eqGuardType P.depth T
theorem d_M {T:TypeId} {t:GT} {w W1:World} {K1 K2:Nat → Prop} {v1 v2:Value} {x y:PT t} (hf:c_2 t = true) (ht:tiQ P (.st t) false T [] 0 = true) (hb:eqB P T = true) (h1:RepV (.st t) W1 K1 v1 x) (h2:RepV (.st t) W1 K2 v2 y) :
    ∃ a b,v1 = .agg a ∧ v2 = .agg b ∧ P.eqGuardType P.depth T = false ∧ (Op.equalIn 10000 T (.agg a) (.agg b)).run P w = .ok (eqP t x y) w:=by
  obtain ⟨c1,h1,rfl⟩:=h1
  obtain ⟨c2,h2,rfl⟩:=h2
  obtain ⟨fs,hfs,htf⟩:=b_9 ht
  simp only [eqB,Bool.and_eq_true,Bool.not_eq_true'] at hb
  have hfo:P.fieldsOf T = fs:=by simp [Program.fieldsOf,hfs]
  refine ⟨_,_,rfl,rfl,hb.2,?_⟩
  rw [show (10000:Nat) = 9998 + 1 + 1 from rfl,run_equalIn_struct w (9998 + 1) T _ _ (by rw [hfo];exact hfs) hb.1.2,hfo]
  have h1':RepCs t W1 (fun _=>True) c1 x:=RepCs.keep (K:=K1) ⟨Nat.le_refl _,fun _ _ _=>rfl⟩ (fun _ _ _=>trivial) (t:=t) h1
  have h2':RepCs t W1 (fun _=>True) c2 y:=RepCs.keep (K:=K2) ⟨Nat.le_refl _,fun _ _ _=>rfl⟩ (fun _ _ _=>trivial) (t:=t) h2
  rw [d_m (w:=w) hf htf (by rw [← hfo];exact hb.1.1) h1' h2' (fun i v hv=>by simpa using hv) (fun i v hv=>by simpa using hv)]
end
section
variable {ds:List Deferred} {N:Nat} {a:Act} {l:List (Nat × Value)} {w w0:World} {P:Program} {ops:Array Oper} {Q:Exit → Act → World → Prop} {rest:List Oper} {o:Oper} {Kont:Act → World → Prop} {d:Nat} {K:Nat → Prop} {n:Nat} {L:List (Option Nat)}
theorem b_r (S:StD ds N a l) {T T':TypeId} {x y:Operand} {t:GT} {K1 K2:Nat → Prop} {v1 v2:Value} {m n:PT t} (ho:o.op = .binOp .eql T x y T') (hd:o.dst = some d) (hN:Nat.blt d N = true)
    (hx:ev l x = some v1) (hy:ev l y = some v2) (hf:c_2 t = true) (ht:tiQ P (.st t) false T [] 0 = true) (hb:eqB P T = true) (h1:RepV (.st t) w K1 v1 m) (h2:RepV (.st t) w K2 v2 n)
    (k:∀ a',StD ds N a' ((d,.bool (eqP t m n)) :: l) → Kont a' w):o.wp P a w Kont Q:=by
  obtain ⟨a1,a2,rfl,rfl,hg,he⟩:=d_M (w:=w) hf ht hb h1 h2
  refine a_s S hd hN ?_ k
  simp [execOp,ho,S.eval hx,S.eval hy,run_eqGuard_agg w _ T _ _ _ _ hg,run_eql_struct,he]
theorem op_stneq (S:StD ds N a l) {T T':TypeId} {x y:Operand} {t:GT} {K1 K2:Nat → Prop} {v1 v2:Value} {m n:PT t} (ho:o.op = .binOp .neq T x y T') (hd:o.dst = some d) (hN:Nat.blt d N = true)
    (hx:ev l x = some v1) (hy:ev l y = some v2) (hf:c_2 t = true) (ht:tiQ P (.st t) false T [] 0 = true) (hb:eqB P T = true) (h1:RepV (.st t) w K1 v1 m) (h2:RepV (.st t) w K2 v2 n)
    (k:∀ a',StD ds N a' ((d,.bool (!eqP t m n)) :: l) → Kont a' w):o.wp P a w Kont Q:=by
  obtain ⟨a1,a2,rfl,rfl,hg,he⟩:=d_M (w:=w) hf ht hb h1 h2
  refine a_s S hd hN ?_ k
  simp [execOp,ho,S.eval hx,S.eval hy,run_eqGuard_agg w _ T _ _ _ _ hg,run_neq_struct,he]
end
def cndF (b w:Bool) (f:Value → World → Prop):Value → World → Prop:=fun v W=>(b = w → f v W) ∧ (¬ b = w → v = undef)
theorem a_p {R:World → World → Prop} {b w:Bool} {f:Value → World → Prop} (h:c_F R f):c_F R (cndF b w f):=fun v _ _ hb hf=>⟨fun e=>h v _ _ hb (hf.1 e),hf.2⟩
theorem cndF.pos {b w:Bool} {f:Value → World → Prop} {v:Value} {W:World} (h:cndF b w f v W) (hc:b = w):f v W:=h.1 hc
theorem cndF.neg {b w:Bool} {f:Value → World → Prop} {v:Value} {W:World} (h:cndF b w f v W) (hc:¬ b = w):v = undef:=h.2 hc
theorem a_o {ds:List Deferred} {N:Nat} {A:Act} {l:List (Nat × Value)} {W:World} {R:Act → Prop} (S:StD ds N A l) (h:∀ a',StD ds N a' l → R a'):FillE W [] A R:=h A S
instance {α:Type}:Inhabited (Sl α):=⟨⟨[],.none⟩⟩
end Go.Proofs.YtjinaepmpoclaaaGreatDoor
namespace Go.Proofs.YtjinaepmpoclaaaGreatDoor
open Go.RowKit
@[simp] theorem inR_u8 {x:Int}:InR .u8 x ↔ 0 ≤ x ∧ x ≤ 255:=by simp [InR,IntKind.min,IntKind.max,IntKind.signed,IntKind.bits]
@[simp] theorem inR_u16 {x:Int}:InR .u16 x ↔ 0 ≤ x ∧ x ≤ 65535:=by simp [InR,IntKind.min,IntKind.max,IntKind.signed,IntKind.bits]
@[simp] theorem inR_i64 {x:Int}:InR .i64 x ↔ -9223372036854775808 ≤ x ∧ x ≤ 9223372036854775807:=by simp [InR,IntKind.min,IntKind.max,IntKind.signed,IntKind.bits]
theorem ckI_ok {k:IntKind} {z:Int} (h:InR k z):ckI k z = some z:=if_pos h
theorem a_t {z:Int} (h:-9223372036854775808 ≤ z ∧ z ≤ 9223372036854775807):ckI .i64 z = some z:=ckI_ok (inR_i64.2 h)
theorem wrap_u8 (x:Int):IntKind.wrap .u8 x = x % 256:=by simp [IntKind.wrap,IntKind.bits,IntKind.signed]
theorem d_N (x:Int):IntKind.wrap .u16 x = x % 65536:=by simp [IntKind.wrap,IntKind.bits,IntKind.signed]
theorem shrI_8 {x:Int} {k:IntKind} (hk:8 ≤ k.bits) (h:0 ≤ x):shrI x 8 k = some (x / 256):=by
  have:min (8:Int).toNat k.bits = 8:=by show min 8 k.bits = 8;omega
  unfold shrI
  rw [if_pos (by decide),this]
  congr 1
  exact Int.fdiv_eq_ediv_of_nonneg x (by decide)
theorem b_3 {k:IntKind} {x y:Int} (h:0 ≤ x) (hy:0 < y) (hk:InR k (x % y)):d_b k x y = some (x % y):=by
  unfold d_b
  rw [if_neg (by omega),Int.tmod_eq_emod_of_nonneg h,ckI_ok hk]
theorem quoI_ok {k:IntKind} {x y:Int} (h:0 ≤ x) (hy:0 < y) (hk:InR k (x / y)):quoI k x y = some (x / y):=by
  unfold quoI
  rw [if_neg (by omega),Int.tdiv_eq_ediv_of_nonneg h,ckI_ok hk]
theorem orS {b c:Bool}:(if b = false then some c else some true) = some (b || c):=by cases b <;> rfl
theorem a_5 {α:Type} (xs:List α) (n:Nat):idx xs (n:Int) = xs[n]?:=by
  unfold idx
  rw [if_pos (by omega)]
  simp
theorem b_k {α:Type} {xs ys:List α} (h:xs.length + ys.length ≤ 1099511627776):c_G xs ys = some (xs ++ ys):=if_pos h
theorem mkI_ok {m c:Int} (h0:0 ≤ m) (h1:m ≤ c) (h2:c ≤ 1099511627776):mkI m c = some (m.toNat,c.toNat):=if_pos ⟨h0,h1,h2⟩
end Go.Proofs.YtjinaepmpoclaaaGreatDoor
namespace Go.Proofs.YtjinaepmpoclaaaGreatDoor
open Go.RowKit
end Go.Proofs.YtjinaepmpoclaaaGreatDoor
namespace Go.Proofs.YtjinaepmpoclaaaGreatDoor
open Go.RowKit Go.Deep
def c_3:GT → Bool
  | .int _=>true
  | .bool=>true
  | .str=>true
  | .sl e=>Nat.blt 0 e.sz && c_3 e
  | .st f=>c_3 f
  | .pair a b=>c_3 a && c_3 b
  | .arr _ e=>c_3 e
  | .raw=>false
theorem tie_one {P:Program} {t:GT} (hs:∀ a b,t ≠ .pair a b) {T:TypeId} {fs:List Field} {o:Nat} (h:tiQ P t true T fs o = true):∃ f,fs = [f] ∧ f.offset = o ∧ tiQ P t false f.type [] 0 = true:=by
  match fs,h with
  | [],h=>cases t <;> simp [tiQ] at h
  | [f],h=>cases t <;> simp [tiQ] at h hs ⊢ <;> exact ⟨h.1.1,h.1.2,h.2⟩
  | f :: g :: r,h=>cases t <;> first | exact absurd rfl (hs _ _) | simp [tiQ] at h
theorem str_of (s:ByteArray):∃ l:List Int,s = strOfNums l ∧ Byt l ∧ l.length = s.size:=by
  refine ⟨s.data.toList.map fun b=>(b.toNat:Int),?_,fun z hz=>?_,by rw [List.length_map,Array.length_toList];rfl⟩
  · obtain ⟨⟨l⟩⟩:=s
    simp [strOfNums,Function.comp_def]
  · obtain ⟨b,_,rfl⟩:=List.mem_map.1 hz
    have:=b.toNat_lt
    omega
theorem b_Q {α β:Type} {f:α → Option β}:∀ {l:List α} {r:List β},l.mapM f = some r → r.length = l.length ∧ ∀ a ∈ l,∃ y,f a = some y
  | [],r,h=>by simp at h;subst h;simp
  | a :: l,r,h=>by
    rw [List.mapM_cons] at h
    simp only [Option.bind_eq_bind,Option.bind_eq_some_iff] at h
    obtain ⟨y,h1,ys,h2,h3⟩:=h
    obtain rfl:y :: ys = r:=by simpa using h3
    obtain ⟨i1,i2⟩:=b_Q h2
    refine ⟨by simp [i1],fun b hb=>?_⟩
    rcases List.mem_cons.1 hb with rfl | hb
    · exact ⟨y,h1⟩
    · exact i2 b hb
section
variable {H:Type} {enc:TypeId × Value → H} {P:Program} {w:World} {base:Nat} {spare:Nat → Bool} {held:Bool}
theorem b_4 {α:Type} {p:Nat → α → Prop}:∀ (n:Nat),(∀ i,i < n → ∃ x,p i x) → ∃ l:List α,l.length = n ∧ ∀ (i:Nat) x,l[i]? = some x → p i x
  | 0,_=>⟨[],rfl,fun i x h=>by simp at h⟩
  | n + 1,h=>by
    obtain ⟨l,hl,hp⟩:=b_4 n fun i hi=>h i (by omega)
    obtain ⟨x,hx⟩:=h n (by omega)
    refine ⟨l ++ [x],by simp [hl],fun i y hy=>?_⟩
    by_cases hi:i < l.length
    · rw [List.getElem?_append_left hi] at hy;exact hp i y hy
    · rw [List.getElem?_append_right (by omega)] at hy
      have:i - l.length = 0:=by have:=(List.getElem?_eq_some_iff.1 hy).1;simp at this;omega
      rw [this] at hy
      obtain rfl:x = y:=by simpa using hy
      rwa [show i = n by omega]
theorem a_B {t:GT} {T:TypeId} (h:tiQ P t false T [] 0 = true):P.cellsOf T = t.sz:=by
  obtain ⟨i,hi,hs⟩:=a_u h
  simp [Program.cellsOf,hi,hs]
theorem d_O {k:IntKind} {T:TypeId} {fuel:Nat} {cs:List Value} {x:DataW H × List MemPlace} (hu:P.underlying T = some (.int k)) (h:DataW.trod enc P w base spare held fuel T cs = some x):∃ n,cs = [.int k n] ∧ (Lit.int k n).wf = true:=by
  cases fuel with
  | zero=>simp [DataW.trod] at h
  | succ fuel =>
    match cs,h with
    | [],h=>simp [DataW.trod,hu] at h
    | [v],h=>cases v <;> simp [DataW.trod,hu] at h ⊢;exact ⟨_,⟨h.1.1,rfl⟩,h.1.1 ▸ h.1.2⟩
    | _ :: _ :: _,h=>simp [DataW.trod,hu] at h
theorem d_n {T:TypeId} {fuel:Nat} {cs:List Value} {x:DataW H × List MemPlace} (hu:P.underlying T = some .bool) (h:DataW.trod enc P w base spare held fuel T cs = some x):∃ b,cs = [.bool b]:=by
  cases fuel with
  | zero=>simp [DataW.trod] at h
  | succ fuel =>
    match cs,h with
    | [],h=>simp [DataW.trod,hu] at h
    | [v],h=>cases v <;> first | exact ⟨_,rfl⟩ | simp [DataW.trod,hu] at h
    | _ :: _ :: _,h=>simp [DataW.trod,hu] at h
theorem d_P {T:TypeId} {fuel:Nat} {cs:List Value} {x:DataW H × List MemPlace} (hu:P.underlying T = some .string) (h:DataW.trod enc P w base spare held fuel T cs = some x):∃ s,cs = [.string s] ∧ s.size ≤ maxLen:=by
  cases fuel with
  | zero=>simp [DataW.trod] at h
  | succ fuel =>
    match cs,h with
    | [],h=>simp [DataW.trod,hu] at h
    | [v],h=>cases v <;> simp [DataW.trod,hu] at h ⊢;exact h.1
    | _ :: _ :: _,h=>simp [DataW.trod,hu] at h
theorem rep_open:∀ (t:GT),c_3 t = true →
    (∀ (T:TypeId) (fuel:Nat) (cs:List Value) (x:DataW H × List MemPlace),tiQ P t false T [] 0 = true → DataW.trod enc P w base spare held fuel T cs = some x → ∃ y:PT t,RepCs t w (fun _=>True) cs y) ∧
    (∀ (T:TypeId) (fuel o:Nat) (fs:List Field) (cs:List Value),tiQ P t true T fs o = true → cs.length = o + t.sz → (∀ f ∈ fs,∃ x,DataW.trod enc P w base spare held fuel f.type ((cs.drop f.offset).take (P.cellsOf f.type)) = some x) → ∃ y:PT t,RepCs t w (fun _=>True) (cs.drop o) y):=by
  intro t
  have last:∀ {t:GT},(∀ a b,t ≠ .pair a b) → (∀ (T:TypeId) (fuel:Nat) (cs:List Value) (x:DataW H × List MemPlace),tiQ P t false T [] 0 = true → DataW.trod enc P w base spare held fuel T cs = some x → ∃ y:PT t,RepCs t w (fun _=>True) cs y) →
      ∀ (T:TypeId) (fuel o:Nat) (fs:List Field) (cs:List Value),tiQ P t true T fs o = true → cs.length = o + t.sz → (∀ f ∈ fs,∃ x,DataW.trod enc P w base spare held fuel f.type ((cs.drop f.offset).take (P.cellsOf f.type)) = some x) → ∃ y:PT t,RepCs t w (fun _=>True) (cs.drop o) y:=by
    intro t hp h T fuel o fs cs ht hl hf
    obtain ⟨f,rfl,rfl,hft⟩:=tie_one hp ht
    obtain ⟨x,hx⟩:=hf f (by simp)
    rw [a_B hft,List.take_of_length_le (by rw [List.length_drop];omega)] at hx
    exact h _ _ _ _ hft hx
  induction t with
  | int k =>
    intro _
    have A:∀ (T:TypeId) (fuel:Nat) (cs:List Value) (x:DataW H × List MemPlace),tiQ P (.int k) false T [] 0 = true → DataW.trod enc P w base spare held fuel T cs = some x → ∃ y:PT (.int k),RepCs (.int k) w (fun _=>True) cs y:=by
      intro T fuel cs x ht h
      obtain ⟨n,rfl,hw⟩:=d_O (a_Q ht) h
      exact ⟨n,rfl,by simpa [Lit.wf,InR] using hw⟩
    exact ⟨A,last (by simp) A⟩
  | bool =>
    intro _
    have A:∀ (T:TypeId) (fuel:Nat) (cs:List Value) (x:DataW H × List MemPlace),tiQ P .bool false T [] 0 = true → DataW.trod enc P w base spare held fuel T cs = some x → ∃ y:PT .bool,RepCs .bool w (fun _=>True) cs y:=by
      intro T fuel cs x ht h
      obtain ⟨b,rfl⟩:=d_n (a_Y ht) h
      exact ⟨b,rfl⟩
    exact ⟨A,last (by simp) A⟩
  | str =>
    intro _
    have A:∀ (T:TypeId) (fuel:Nat) (cs:List Value) (x:DataW H × List MemPlace),tiQ P .str false T [] 0 = true → DataW.trod enc P w base spare held fuel T cs = some x → ∃ y:PT .str,RepCs .str w (fun _=>True) cs y:=by
      intro T fuel cs x ht h
      obtain ⟨q,rfl,hm⟩:=d_P (a_R ht) h
      obtain ⟨l,rfl,hB,hl⟩:=str_of q
      exact ⟨l,rfl,hB,by unfold maxLen at hm;omega⟩
    exact ⟨A,last (by simp) A⟩
  | raw=>intro hr;simp [c_3] at hr
  | sl e ih =>
    intro hr
    obtain ⟨hz,hre⟩:=Bool.and_eq_true_iff.1 hr
    have hz:0 < e.sz:=Nat.blt_eq ▸ hz
    obtain ⟨ihA,_⟩:=ih hre
    have A:∀ (T:TypeId) (fuel:Nat) (cs:List Value) (x:DataW H × List MemPlace),tiQ P (.sl e) false T [] 0 = true → DataW.trod enc P w base spare held fuel T cs = some x → ∃ y:PT (.sl e),RepCs (.sl e) w (fun _=>True) cs y:=by
      intro T fuel cs x ht h
      obtain ⟨E,hE,htE⟩:=a_V ht
      rcases open_slice hE h with ⟨rfl,_⟩ | ⟨a,len,cap,m,n,D,Pl,rfl,hb,hl,hm,hmm,_,hel⟩
      · exact ⟨⟨[],.none⟩,.none,0,0,rfl,rfl,Nat.le_refl _,by decide,(fun k h=>by cases h),.inl rfl⟩
      · have hlm:len ≤ m:=by rw [hmm];split <;> omega
        obtain ⟨ys,hys,hp⟩:=b_4 (α:=PT e) (p:=fun i y=>∃ cs',w.cells? base (a.add (i * P.cellsOf E)) (P.cellsOf E) = some cs' ∧ RepCs e w (fun _=>True) cs' y) len fun i hi=>by
          obtain ⟨cs',h1,h2⟩:=hel i (by omega)
          obtain ⟨y,hy⟩:=ihA _ _ _ _ htE h2
          exact ⟨y,cs',h1,hy⟩
        refine ⟨⟨ys,.none⟩,some a,len,cap,rfl,hys,hl,by unfold maxLen at hm;omega,(fun k h=>by cases h),?_⟩
        rcases Nat.eq_zero_or_pos len with h0 | h0
        · exact .inl (List.eq_nil_of_length_eq_zero (hys.trans h0))
        · obtain ⟨b,off,spot⟩:=a
          have hfirst:∃ v,w.cell? (Addr.add ⟨b,off,spot⟩ 0) = some v:=by
            obtain ⟨cs',h1,_⟩:=hel 0 (by omega)
            obtain ⟨_,hlen,hc⟩:=World.cells?_some h1
            rw [a_B htE] at hlen
            have hcl:0 < cs'.length:=by omega
            refine ⟨cs'[0],?_⟩
            have h3:=hc 0 (by rw [a_B htE];omega)
            simp [Addr.add] at h3 ⊢
            rw [h3]
            simp [List.getElem?_eq_getElem hcl]
          obtain ⟨v0,hv0⟩:=hfirst
          have hspot:spot = none:=by simpa [Addr.add] using World.cell?_spot hv0
          subst hspot
          refine .inr ⟨b,off,rfl,?_,trivial,fun j y hj=>?_⟩
          · rw [Addr.add_lit] at hv0
            exact World.block_lt_of_cell? w _ hv0
          · obtain ⟨cs',h1,h2⟩:=hp j y hj
            obtain ⟨_,hlen,hc⟩:=World.cells?_some h1
            rw [a_B htE] at hlen hc
            refine ⟨cs',h2,hlen,fun i v hv=>?_⟩
            have hi:=(List.getElem?_eq_some_iff.1 hv).1
            have:=hc i (by omega)
            rw [Addr.add_lit,Addr.add_lit] at this
            rw [this]
            exact hv
    exact ⟨A,last (by simp) A⟩
  | st f ih =>
    intro hr
    obtain ⟨_,ihB⟩:=ih hr
    have A:∀ (T:TypeId) (fuel:Nat) (cs:List Value) (x:DataW H × List MemPlace),tiQ P (.st f) false T [] 0 = true → DataW.trod enc P w base spare held fuel T cs = some x → ∃ y:PT (.st f),RepCs (.st f) w (fun _=>True) cs y:=by
      intro T fuel cs x ht h
      obtain ⟨fs,hfs,htf⟩:=b_9 ht
      have hsz:=a_B ht
      cases fuel with
      | zero=>simp [DataW.trod] at h
      | succ fuel =>
        unfold DataW.trod at h
        rw [hfs] at h
        simp only at h
        split at h
        · rename_i hl
          simp only [Option.map_eq_some_iff] at h
          obtain ⟨xs,hx,_⟩:=h
          obtain ⟨_,hall⟩:=b_Q hx
          have:=ihB 0 fuel 0 fs.toList cs htf (by rw [hl,hsz,Nat.zero_add]) hall
          rw [List.drop_zero] at this
          exact this
        · cases h
    exact ⟨A,last (by simp) A⟩
  | pair a b iha ihb =>
    intro hr
    obtain ⟨hra,hrb⟩:=Bool.and_eq_true_iff.1 hr
    obtain ⟨ihA,_⟩:=iha hra
    obtain ⟨_,ihB⟩:=ihb hrb
    refine ⟨fun T fuel cs x ht=>by simp [tiQ] at ht,?_⟩
    intro T fuel o fs cs ht hl hall
    match fs,ht,hall with
    | f :: fs,ht,hall =>
      simp only [tiQ,Bool.and_eq_true,beq_iff_eq] at ht
      obtain ⟨⟨ht1,ho⟩,ht2⟩:=ht
      obtain ⟨x,hx⟩:=hall f (by simp)
      rw [a_B ht1,ho] at hx
      obtain ⟨y1,h1⟩:=ihA _ _ _ _ ht1 hx
      obtain ⟨y2,h2⟩:=ihB T fuel (o + a.sz) fs cs ht2 (by rw [hl];show o + (a.sz + b.sz) = _;omega) fun g hg=>hall g (by simp [hg])
      refine ⟨(y1,y2),(cs.drop o).take a.sz,cs.drop (o + a.sz),?_,h1,h2⟩
      rw [← List.drop_drop,List.take_append_drop]
    | [],ht,_=>simp [tiQ] at ht
  | arr n e ih =>
    intro hr
    obtain ⟨ihA,_⟩:=ih hr
    have A:∀ (T:TypeId) (fuel:Nat) (cs:List Value) (x:DataW H × List MemPlace),tiQ P (.arr n e) false T [] 0 = true → DataW.trod enc P w base spare held fuel T cs = some x → ∃ y:PT (.arr n e),RepCs (.arr n e) w (fun _=>True) cs y:=by
      intro T fuel cs x ht h
      obtain ⟨E,hE,htE⟩:=b_s ht
      have hsz:=a_B ht
      cases fuel with
      | zero=>simp [DataW.trod] at h
      | succ fuel =>
        unfold DataW.trod at h
        rw [hE] at h
        simp only at h
        split at h
        · rename_i hl
          simp only [Option.map_eq_some_iff] at h
          obtain ⟨xs,hx,_⟩:=h
          obtain ⟨_,hall⟩:=b_Q hx
          rw [a_B htE] at hall
          obtain ⟨ys,hys,hp⟩:=b_4 (α:=PT e) (p:=fun i y=>RepCs e w (fun _=>True) ((cs.drop (i * e.sz)).take e.sz) y) n fun i hi=>by
            obtain ⟨x,hx⟩:=hall i (by simp [hi])
            exact ihA _ _ _ _ htE hx
          refine ⟨ys,hys,(List.range n).map fun i=>(cs.drop (i * e.sz)).take e.sz,?_,by simp,fun j c y hc hy=>?_⟩
          · rw [hsz] at hl
            have key:∀ (n:Nat) (cs:List Value),cs.length = n * e.sz → cs = ((List.range n).map fun i=>(cs.drop (i * e.sz)).take e.sz).flatten:=by
              intro n
              induction n with
              | zero=>intro cs hcs;simp at hcs;simp [hcs]
              | succ n ih =>
                intro cs hcs
                rw [List.range_succ_eq_map,List.map_cons,List.flatten_cons,List.map_map]
                have h1:=ih (cs.drop e.sz) (by rw [List.length_drop,hcs,Nat.add_mul];omega)
                have h2:((fun i=>(cs.drop (i * e.sz)).take e.sz) ∘ Nat.succ) = fun i=>((cs.drop e.sz).drop (i * e.sz)).take e.sz:=by
                  funext i
                  simp only [Function.comp_apply,List.drop_drop,Nat.succ_eq_add_one,Nat.add_mul,Nat.one_mul]
                  rw [Nat.add_comm]
                rw [h2,← h1]
                simp
            exact key n cs hl
          · rw [List.getElem?_map] at hc
            have hj:=(List.getElem?_eq_some_iff.1 hy).1
            rw [List.getElem?_range (by omega)] at hc
            obtain rfl:=Option.some.inj hc
            exact hp j y hy
        · cases h
    exact ⟨A,last (by simp) A⟩
theorem d_E {t:GT} {T:TypeId} {r:Reach} {b0:Nat} {v:Value} {d:DataW H} {p:List MemPlace} (ht:tiQ P t false T [] 0 = true) (hr:c_3 t = true) (hv:Value.okWide P w r b0 T v) (h:DataW.Trod enc P w base spare held T v d p):∃ x:PT t,RepV t w (fun _=>True) v x:=by
  obtain ⟨fuel,hf⟩:=h
  obtain ⟨y,hy⟩:=(rep_open (enc:=enc) (P:=P) (w:=w) (base:=base) (spare:=spare) (held:=held) t hr).1 T fuel _ _ ht hf
  refine ⟨y,_,hy,?_⟩
  cases t with
  | st f =>
    obtain ⟨fs,hfs,_⟩:=b_9 ht
    simp only [Value.okWide,hfs] at hv
    obtain ⟨cs,rfl,_⟩:=hv
    simp [Value.cells]
  | arr n e =>
    obtain ⟨E,hE,_⟩:=b_s ht
    simp only [Value.okWide,hE] at hv
    obtain ⟨cs,rfl,_⟩:=hv
    simp [Value.cells]
  | int k =>
    simp only [Value.okWide,a_Q ht] at hv
    cases v <;> simp_all [Value.cells,Cell.okWide,Cell.ok]
  | bool =>
    simp only [Value.okWide,a_Y ht] at hv
    cases v <;> simp_all [Value.cells,Cell.okWide,Cell.ok]
  | str =>
    simp only [Value.okWide,a_R ht] at hv
    cases v <;> simp_all [Value.cells,Cell.okWide,Cell.ok]
  | sl e =>
    obtain ⟨E,hE,_⟩:=a_V ht
    obtain ⟨a,l,c,rfl⟩:=Go.WideShapes.okWide_slice hE hv
    simp [Value.cells]
  | raw=>simp [c_3] at hr
  | pair a b=>simp [tiQ] at ht
end
end Go.Proofs.YtjinaepmpoclaaaGreatDoor
namespace Go.Proofs.YtjinaepmpoclaaaGreatDoor
open Go.RowKit
section
variable {ds:List Deferred} {N:Nat} {a:Act} {l:List (Nat × Value)} {w w0:World} {P:Program} {ops:Array Oper} {Q:Exit → Act → World → Prop} {rest:List Oper} {o:Oper} {Kont:Act → World → Prop} {d:Nat} {K:Nat → Prop} {n:Nat} {L:List (Option Nat)}
theorem RepAt.ix {m:Nat} {e:GT} {p:Addr} {x:List (PT e)} (h:RepAt (.arr m e) w K p x) {j:Int} {y:PT e} (hj:idx x j = some y):RepAt e w K (p.add (j.toNat * e.sz)) y:=by
  obtain ⟨h0,hg,hlt⟩:=b_z hj
  obtain ⟨b,off,spot⟩:=p
  obtain ⟨hs,cs,hr,hc⟩:=h
  obtain rfl:spot = none:=hs
  have hjl:j.toNat < x.length:=by omega
  have hm:j.toNat < m:=by have:=hr.1;omega
  obtain ⟨c1,c,c2,rfl,hl1,hrep,_⟩:=Ln.arr (n:=m) hm y w K cs x hr
  rw [Addr.add_lit]
  refine ⟨rfl,c,?_,fun i v hv=>?_⟩
  · have:x.getD j.toNat y = y:=by simp [List.getD,hg]
    have hrep':RepCs e w K c (x.getD j.toNat y):=hrep
    rw [this] at hrep'
    exact hrep'
  · have hi:=(List.getElem?_eq_some_iff.1 hv).1
    have:=hc (c1.length + i) v (by rw [List.append_assoc,List.getElem?_append_right (by omega),List.getElem?_append_left (by omega)];simpa using hv)
    rw [hl1,← Nat.add_assoc] at this
    exact this
theorem b_b (S:StD ds N a l) {T:TypeId} {x i:Operand} {m:Nat} {e:GT} {p:Addr} {xs:List (PT e)} {k0:IntKind} {j:Int} {y:PT e} (ho:o.op = .indexAddr T x i) (ht:tiQ P (.arr m e) false T [] 0 = true) (hd:o.dst = some d) (hN:Nat.blt d N = true)
    (hx:ev l x = some (.pointer (some p))) (R:RepAt (.arr m e) w K p xs) (hi:ev l i = some (.int k0 j)) (hj:idx xs j = some y)
    (k:∀ a',StD ds N a' ((d,.pointer (some (p.add (j.toNat * GT.sz e)))) :: l) → Kont a' w):o.wp P a w Kont Q:=by
  obtain ⟨E,hE,htE⟩:=b_s ht
  obtain ⟨ie,hie,hse⟩:=a_u htE
  obtain ⟨h0,hg,hlt⟩:=b_z hj
  have hlen:xs.length = m:=by obtain ⟨_,_,hr,_⟩:=R;exact hr.1
  have hlt':0 ≤ j ∧ j < (m:Int):=by omega
  refine a_s S (v:=.pointer (some (p.add (j.toNat * e.sz)))) hd hN ?_ k
  simp [execOp,ho,S.eval hx,S.eval hi,Instr.indexAt,asIntOf,run_underlying hE,hlt',sizeOf,typeInfo,hie,hse,Instr.sureAddr]
end
section
variable {ds:List Deferred} {N:Nat} {a:Act} {l:List (Nat × Value)} {w w0:World} {P:Program} {ops:Array Oper} {Q:Exit → Act → World → Prop} {rest:List Oper} {o:Oper} {Kont:Act → World → Prop} {d:Nat}
theorem op_min (S:StD ds N a l) {T:Array TypeId} {x y:Operand} {k k':IntKind} {m n:Int} (ho:o.op = .call { callee:=.builtin .min,args:=#[x,y],argTypes:=T }) (hd:o.dst = some d) (hN:Nat.blt d N = true)
    (hx:ev l x = some (.int k m)) (hy:ev l y = some (.int k' n)) (c:∀ a',StD ds N a' ((d,.int k (if n < m then n else m)) :: l) → Kont a' w):o.wp P a w Kont Q:=by
  refine a_s S hd hN ?_ c
  simp [execOp,ho,resolve,invoke,builtin,S.eval hx,S.eval hy,run_min_int2]
end
end Go.Proofs.YtjinaepmpoclaaaGreatDoor
