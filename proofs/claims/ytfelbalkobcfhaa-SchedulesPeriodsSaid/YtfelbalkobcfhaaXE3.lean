/- The rules of the walk over plain data: operations that compute, reads, calls, the end. Plain theorems, no condition. -/
import Derived.Test.YtfelbalkobcfhaaXE2
set_option linter.unusedVariables false
set_option linter.unusedSimpArgs false
namespace Go.Proofs.Ytfelbalkobcfhaa
open Go.RowKit
def ckI (k:IntKind) (z:Int):Option Int:=if k.min ≤ z ∧ z ≤ k.max then some z else .none
def c_F (op:BinOp) (k:IntKind) (x y:Int):Int :=
  match op with
  | .and=>k.wrap (BitVec.ofInt k.bits x &&& BitVec.ofInt k.bits y).toNat
  | .or=>k.wrap (BitVec.ofInt k.bits x ||| BitVec.ofInt k.bits y).toNat
  | .xor=>k.wrap (BitVec.ofInt k.bits x ^^^ BitVec.ofInt k.bits y).toNat
  | _=>k.wrap (BitVec.ofInt k.bits x &&& ~~~ BitVec.ofInt k.bits y).toNat
def shlI (k:IntKind) (x y:Int):Option Int:=if 0 ≤ y then some (k.wrap (x * 2 ^ (min y.toNat k.bits))) else .none
def e_R (k:IntKind) (x y:Int):Option Int:=if y = 0 then .none else ckI k (x.tdiv y)
def c_L (k:IntKind) (x y:Int):Option Int:=if y = 0 then .none else ckI k (x.tmod y)
def idx {α:Type} (xs:List α) (i:Int):Option α:=if 0 ≤ i then xs[i.toNat]? else .none
def capO {α:Type} (s:Sl α):Option Int:=s.cap.map fun c=>(c:Int)
def a_4 {α:Type} (s:Sl α):Int:=(s.xs.length:Int)
theorem b_C (k:IntKind) {z:Int} (h0:k.min ≤ z) (h1:z ≤ k.max):k.wrap z = z:=by
  cases k <;> simp [IntKind.min,IntKind.max,IntKind.wrap,IntKind.signed,IntKind.bits] at * <;> omega
theorem e_F (k:IntKind) (n:Int):InR k (k.wrap n):=wrap_within k n
theorem a_h {k:IntKind} {z y:Int} (h:ckI k z = some y):z = y ∧ InR k y ∧ k.wrap z = y:=by
  unfold ckI at h
  split at h
  · rename_i hr
    obtain rfl:=Option.some.inj h
    exact ⟨rfl,hr,b_C k hr.1 hr.2⟩
  · cases h
theorem inR_shl {k:IntKind} {x y z:Int} (h:shlI k x y = some z):InR k z:=by
  unfold shlI at h
  split at h
  · rw [← Option.some.inj h];exact e_F _ _
  · cases h
theorem c_3 {k:IntKind} {x y z:Int} (h:e_R k x y = some z):InR k z:=by
  unfold e_R at h
  split at h
  · cases h
  · exact (a_h h).2.1
theorem d_J {k:IntKind} {x y z:Int} (h:c_L k x y = some z):InR k z:=by
  unfold c_L at h
  split at h
  · cases h
  · exact (a_h h).2.1
theorem widen {k k':IntKind} {x:Int} (h:InR k x) (hk:k'.min ≤ k.min ∧ k.max ≤ k'.max):k'.wrap x = x ∧ InR k' x :=
  have h1:k'.min ≤ x:=Int.le_trans hk.1 h.1
  have h2:x ≤ k'.max:=Int.le_trans h.2 hk.2
  ⟨b_C k' h1 h2,h1,h2⟩
def intBin (op:BinOp) (k:IntKind) (x y:Int):Option Value :=
  match op with
  | .eql=>some (.bool (x == y))
  | .neq=>some (.bool (x != y))
  | .lss=>some (.bool (decide (x < y)))
  | .leq=>some (.bool (decide (x ≤ y)))
  | .gtr=>some (.bool (decide (x > y)))
  | .geq=>some (.bool (decide (x ≥ y)))
  | .add=>if k.signed then .none else some (.int k (k.wrap (x + y)))
  | .sub=>if k.signed then .none else some (.int k (k.wrap (x - y)))
  | .mul=>if k.signed then .none else some (.int k (k.wrap (x * y)))
  | .and=>some (.int k (c_F .and k x y))
  | .or=>some (.int k (c_F .or k x y))
  | .xor=>some (.int k (c_F .xor k x y))
  | .andNot=>some (.int k (c_F .andNot k x y))
  | _=>.none
def pureOp (tys:List (TypeId × GT)) (l:List (Nat × Value)):Op → Option Value
  | .move x=>ev l x
  | .assign x=>ev l x
  | .pick c x y=>match ev l c with | some (.bool true)=>ev l x | some (.bool false)=>ev l y | _=>.none
  | .extract t i=>match ev l t with | some (.tuple vs)=>vs[i]? | _=>.none
  | .nilCheck x=>match ev l x with | some (.pointer (some p))=>some (.pointer (some p)) | _=>.none
  | .unOp .not _ x=>match ev l x with | some (.bool b)=>some (.bool !b) | _=>.none
  | .binOp op T x y _=>match gtOf tys T with
    | some (.int _)=>(match ev l x,ev l y with | some (.int k x),some (.int k' y)=>(if k = k' then intBin op k x y else .none) | _,_=>.none)
    | some .bool=>(match ev l x,ev l y with | some (.bool x),some (.bool y)=>(match op with | .eql=>some (.bool (x == y)) | .neq=>some (.bool (!(x == y))) | _=>.none) | _,_=>.none)
    | _=>.none
  | .convert src dst x=>match gtOf tys src,gtOf tys dst,ev l x with | some (.int _),some (.int k),some (.int _ n)=>some (.int k (k.wrap n)) | _,_,_=>.none
  | .fieldAddr T x k=>match gtOf tys T,ev l x with | some (.st f),some (.pointer (some p))=>if Nat.blt 0 (comp f k).sz && fieldB f k then some (.pointer (some (p.add (a_3 f k)))) else .none | _,_=>.none
  | _=>.none
where fieldB:GT → Nat → Bool
  | .pair _ _,0=>true
  | .pair _ b,k + 1=>fieldB b k
  | _,0=>true
  | _,_=>false
section
variable {ds:List Deferred} {N:Nat} {a:Act} {l:List (Nat × Value)} {w:World} {P:Program} {ops:Array Oper} {Q:Exit → Act → World → Prop} {rest:List Oper} {o:Oper} {Kont:Act → World → Prop} {d:Nat}
theorem a_2:∀ {f:GT} {k:Nat} {T:TypeId} {fs:List Field} {off:Nat},tie P f true T fs off = true → pureOp.fieldB f k = true → ∃ fld,fs[k]? = some fld ∧ fld.offset = off + a_3 f k ∧ ∃ i,P.info? fld.type = some i ∧ i.size = (comp f k).sz
  | .pair a b,0,T,fs,off,h,_=>by
    cases fs with
    | nil=>simp [tie] at h
    | cons f fs =>
      simp only [tie,Bool.and_eq_true,beq_iff_eq] at h
      obtain ⟨i,hi,hs⟩:=a_E h.1.1
      exact ⟨f,rfl,by simpa [a_3] using h.1.2,i,hi,hs⟩
  | .pair a b,k + 1,T,fs,off,h,hk=>by
    cases fs with
    | nil=>simp [tie] at h
    | cons f fs =>
      simp only [tie,Bool.and_eq_true,beq_iff_eq] at h
      obtain ⟨fld,h1,h2,h3⟩:=a_2 h.2 (k:=k) (by simpa [pureOp.fieldB] using hk)
      exact ⟨fld,by simpa using h1,by rw [h2,Nat.add_assoc],h3⟩
  | .int _,0,T,fs,off,h,_=>by
    match fs with
    | []=>simp [tie] at h
    | [f] =>
      simp only [tie,Bool.and_eq_true,beq_iff_eq] at h
      refine ⟨f,rfl,h.1.1,?_⟩
      cases hi:P.info? f.type with
      | none=>simp [hi] at h
      | some i=>simp [hi] at h;exact ⟨i,rfl,h.2⟩
    | _ :: _ :: _=>simp [tie] at h
  | .bool,0,T,fs,off,h,_=>by
    match fs with
    | []=>simp [tie] at h
    | [f] =>
      simp only [tie,Bool.and_eq_true,beq_iff_eq] at h
      refine ⟨f,rfl,h.1.1,?_⟩
      cases hi:P.info? f.type with
      | none=>simp [hi] at h
      | some i=>simp [hi] at h;exact ⟨i,rfl,h.2⟩
    | _ :: _ :: _=>simp [tie] at h
  | .str,0,T,fs,off,h,_=>by
    match fs with
    | []=>simp [tie] at h
    | [f] =>
      simp only [tie,Bool.and_eq_true,beq_iff_eq] at h
      refine ⟨f,rfl,h.1.1,?_⟩
      cases hi:P.info? f.type with
      | none=>simp [hi] at h
      | some i=>simp [hi] at h;exact ⟨i,rfl,h.2⟩
    | _ :: _ :: _=>simp [tie] at h
  | .sl _,0,T,fs,off,h,_=>by
    match fs with
    | []=>simp [tie] at h
    | [f] =>
      simp only [tie,Bool.and_eq_true,beq_iff_eq] at h
      refine ⟨f,rfl,h.1.1,?_⟩
      cases hi:P.info? f.type with
      | none=>simp [hi] at h
      | some i=>simp [hi] at h;exact ⟨i,rfl,h.2⟩
    | _ :: _ :: _=>simp [tie] at h
  | .st g,0,T,fs,off,h,_=>by
    match fs with
    | []=>simp [tie] at h
    | [f] =>
      simp only [tie,Bool.and_eq_true,beq_iff_eq] at h
      refine ⟨f,rfl,h.1.1,?_⟩
      cases hi:P.info? f.type with
      | none=>simp [hi] at h
      | some i=>simp [hi] at h;exact ⟨i,rfl,h.2⟩
    | _ :: _ :: _=>simp [tie] at h
  | .arr n e,0,T,fs,off,h,_=>by
    match fs with
    | []=>simp [tie] at h
    | [f] =>
      simp only [tie,Bool.and_eq_true,beq_iff_eq] at h
      refine ⟨f,rfl,h.1.1,?_⟩
      cases hi:P.info? f.type with
      | none=>simp [hi] at h
      | some i=>simp [hi] at h;exact ⟨i,rfl,h.2⟩
    | _ :: _ :: _=>simp [tie] at h
  | .raw,0,T,fs,off,h,_=>by
    match fs with
    | []=>simp [tie] at h
    | [f] =>
      simp only [tie,Bool.and_eq_true,beq_iff_eq] at h
      refine ⟨f,rfl,h.1.1,?_⟩
      cases hi:P.info? f.type with
      | none=>simp [hi] at h
      | some i=>simp [hi] at h;exact ⟨i,rfl,h.2⟩
    | _ :: _ :: _=>simp [tie] at h
  | .int _,_ + 1,_,_,_,_,h=>by simp [pureOp.fieldB] at h
  | .bool,_ + 1,_,_,_,_,h=>by simp [pureOp.fieldB] at h
  | .str,_ + 1,_,_,_,_,h=>by simp [pureOp.fieldB] at h
  | .sl _,_ + 1,_,_,_,_,h=>by simp [pureOp.fieldB] at h
  | .st _,_ + 1,_,_,_,_,h=>by simp [pureOp.fieldB] at h
  | .arr _ _,_ + 1,_,_,_,_,h=>by simp [pureOp.fieldB] at h
  | .raw,_ + 1,_,_,_,_,h=>by simp [pureOp.fieldB] at h
theorem a_Y (op:BinOp) (T:TypeId) (x y:Operand) (k k':IntKind) (m n:Int):(eqGuard op T x y (.int k m) (.int k' n)).run P w = .ok () w:=by
  cases op <;> simp [eqGuard]
theorem c_G (op:BinOp) (T:TypeId) (x y:Operand) (m n:Bool):(eqGuard op T x y (.bool m) (.bool n)).run P w = .ok () w:=by
  cases op <;> simp [eqGuard]
theorem e_S (op:BinOp) (T:TypeId) (k:IntKind) (x y:Int) {v:Value} (h:intBin op k x y = some v):(binOp op T (.int k x) (.int k y)).run P w = .ok v w:=by
  cases op <;> simp only [intBin,Option.some.injEq,reduceCtorEq] at h <;> first
    | (subst h;simp [binOp,Op.intCmp,Op.intBits,c_F])
    | (split at h
       · cases h
       · simp only [Option.some.injEq] at h;subst h;simp [binOp,Op.intArith])
theorem b_4 (T:TypeId) (h:P.underlying T = some .bool) (x y:Bool):(Op.equal T (.bool x) (.bool y)).run P w = .ok (x == y) w:=by
  show (Op.equalIn (9999 + 1) T (.bool x) (.bool y)).run P w = _
  rw [Op.equalIn]
  simp only [Sem.run_bind,run_underlying h,Result.andThen_ok]
  rfl
theorem d_5 (T:TypeId) (h:P.underlying T = some .bool) (x y:Bool):(binOp .eql T (.bool x) (.bool y)).run P w = .ok (.bool (x == y)) w:=by
  show (do pure (Value.bool (← Op.equal T (.bool x) (.bool y))):Sem Value).run P w = _
  simp only [Sem.run_bind,b_4 T h,Result.andThen_ok]
  rfl
theorem d_6 (T:TypeId) (h:P.underlying T = some .bool) (x y:Bool):(binOp .neq T (.bool x) (.bool y)).run P w = .ok (.bool (!(x == y))) w:=by
  show (do pure (Value.bool (!(← Op.equal T (.bool x) (.bool y)))):Sem Value).run P w = _
  simp only [Sem.run_bind,b_4 T h,Result.andThen_ok]
  rfl
theorem e_t (S:StD ds N a l) (o:Oper) (tys:List (TypeId × GT)) (ht:tysOk P tys = true) {v:Value} (h:pureOp tys l o.op = some v):(execOp a.eval o).run P w = .ok (.value v) w:=by
  cases hop:o.op with
  | move x=>rw [hop] at h;simp [execOp,hop,S.eval h]
  | assign x=>rw [hop] at h;simp [execOp,hop,S.eval h]
  | pick c x y =>
    rw [hop] at h
    simp only [pureOp] at h
    split at h
    · rename_i hc;simp [execOp,hop,S.eval hc,S.eval h,asBool]
    · rename_i hc;simp [execOp,hop,S.eval hc,S.eval h,asBool]
    · cases h
  | extract t i =>
    rw [hop] at h
    simp only [pureOp] at h
    split at h
    · rename_i vs hc
      simp [execOp,hop,S.eval hc,Instr.extract,h]
    · cases h
  | nilCheck x =>
    rw [hop] at h
    simp only [pureOp] at h
    split at h
    · rename_i p hc
      obtain rfl:=Option.some.inj h
      simp [execOp,hop,S.eval hc]
    · cases h
  | unOp u T x =>
    rw [hop] at h
    cases u <;> simp only [pureOp,reduceCtorEq] at h
    split at h
    · rename_i b hb
      obtain rfl:=Option.some.inj h
      simp [execOp,hop,S.eval hb,Op.unary]
    · cases h
  | binOp op T x y T' =>
    rw [hop] at h
    simp only [pureOp] at h
    split at h
    · rename_i k0 hg
      split at h
      · rename_i k x' k' y' hx hy
        split at h
        · rename_i hk
          subst hk
          simp [execOp,hop,S.eval hx,S.eval hy,a_Y,e_S op T k x' y' h]
        · cases h
      · cases h
    · rename_i hg
      have htie:=b_A (gtOf.tie ht hg)
      split at h
      · rename_i x' y' hx hy
        cases op <;> simp only [Option.some.injEq,reduceCtorEq] at h <;>
          (subst h
           simp [execOp,hop,S.eval hx,S.eval hy,c_G,d_5 _ htie,d_6 _ htie])
      · cases h
    · cases h
  | convert src dst x =>
    rw [hop] at h
    simp only [pureOp] at h
    split at h
    · rename_i k0 k k' n hg0 hg hx
      obtain rfl:=Option.some.inj h
      have h1:=b_e (gtOf.tie ht hg)
      have h0:=b_e (gtOf.tie ht hg0)
      simp [execOp,hop,S.eval hx,convert,run_underlying h0,run_underlying h1,Conv.intToInt]
    · cases h
  | fieldAddr T x k =>
    rw [hop] at h
    simp only [pureOp] at h
    split at h
    · rename_i f p hg hx
      split at h
      · rename_i hb
        simp only [Bool.and_eq_true,Nat.blt_eq] at hb
        obtain rfl:=Option.some.inj h
        obtain ⟨fs,hfs,htf⟩:=d_r (gtOf.tie ht hg)
        obtain ⟨fld,h1,h2,i,hi,his⟩:=a_2 htf hb.2
        have h1':fs[k]? = some fld:=by simpa using h1
        have hz:i.size ≠ 0:=by rw [his];omega
        simp [execOp,hop,S.eval hx,Instr.fieldAt,run_underlying hfs,h1',Instr.sureAddr,fieldPlace,sizeOf,typeInfo,hi,hz,h2]
      · cases h
    · cases h
  | _=>rw [hop] at h;simp [pureOp] at h
end
end Go.Proofs.Ytfelbalkobcfhaa
