/- The rules of the walk over plain data, more: memory. Plain theorems, no condition. -/
import Derived.Test.YtfelbalkobcfhaaXE3
set_option linter.unusedVariables false
set_option linter.unusedSimpArgs false
namespace Go.Proofs.Ytfelbalkobcfhaa
open Go.RowKit
def Kx (K:Nat → Prop) (n:Nat) (L:List (Option Nat)):Nat → Prop:=fun b=>(K b ∨ n ≤ b) ∧ some b ∉ L
def NoK:Nat → Prop:=fun _=>False
structure Wd (w0 w:World) (L:List (Option Nat)):Prop where
  below:Below w0.heap.size w0 w
  own:∀ b,some b ∈ L → w0.heap.size ≤ b ∧ b < w.heap.size
  dis:L.Pairwise fun x y=>x = .none ∨ x ≠ y
structure NewB (w w':World) (b:Nat):Prop where
  below:Below w.heap.size w w'
  ge:w.heap.size ≤ b
  lt:b < w'.heap.size
structure Wrote (b:Nat) (w w':World):Prop where
  os:w'.os = w.os
  tape:w'.tape = w.tape
  output:w'.output = w.output
  size:w'.heap.size = w.heap.size
  block:∀ k,k ≠ b → w'.heap[k]? = w.heap[k]?
theorem Wd.start (w:World):Wd w w []:=⟨Below.refl _ _,fun b h=>(List.not_mem_nil h).elim,List.Pairwise.nil⟩
section
variable {w0 w w':World} {L:List (Option Nat)} {K:Nat → Prop} {n b:Nat} {t:GT}
theorem Wd.step (h:Wd w0 w L) (hb:Below w.heap.size w w'):Wd w0 w' L :=
  ⟨h.below.trans (hb.mono h.below.size),fun b hm=>⟨(h.own b hm).1,by have:=(h.own b hm).2;have:=hb.size;omega⟩,h.dis⟩
theorem Wd.box (h:Wd w0 w L) (hb:NewB w w' b):Wd w0 w' (some b :: L):=by
  refine ⟨h.below.trans (hb.below.mono h.below.size),fun c hm=>?_,List.pairwise_cons.2 ⟨fun y hy=>?_,h.dis⟩⟩
  · rcases List.mem_cons.1 hm with e | hm
    · obtain rfl:=Option.some.inj e
      have:=hb.ge;have:=h.below.size
      exact ⟨by omega,hb.lt⟩
    · have h1:=h.own c hm
      have h2:=hb.below.size
      exact ⟨h1.1,by omega⟩
  · refine .inr fun e=>?_
    subst e
    have:=(h.own b hy).2;have:=hb.ge
    omega
theorem Wd.wrote (h:Wd w0 w L) (hw:Wrote b w w') (hb:some b ∈ L):Wd w0 w' L :=
  ⟨h.below.trans ⟨hw.os,hw.tape,hw.output,Nat.le_of_eq hw.size.symm,fun k hk=>hw.block k (by have:=(h.own b hb).1;omega)⟩,fun c hm=>by rw [hw.size];exact h.own c hm,h.dis⟩
theorem RepV.step {v:Value} {x:PT t} (h:RepV t w K v x) (hb:Below w.heap.size w w'):RepV t w' K v x:=h.keep (Keeps.below hb) fun _ _ h=>h
theorem RepV.box {v:Value} {x:PT t} (h:RepV t w (Kx K n L) v x) (hb:NewB w w' b):RepV t w' (Kx K n (some b :: L)) v x :=
  h.keep (Keeps.below hb.below) fun c hc hk=>⟨hk.1,fun hm=>by
    rcases List.mem_cons.1 hm with e | hm
    · obtain rfl:=Option.some.inj e;have:=hb.ge;omega
    · exact hk.2 hm⟩
theorem Keeps.wrote (hw:Wrote b w w') (hb:some b ∈ L):Keeps (Kx K n L) w w' :=
  ⟨Nat.le_of_eq hw.size.symm,fun p _ hk=>World.cell?_of_block (hw.block p.block fun e=>hk.2 (by rw [e];exact hb))⟩
theorem RepV.wrote {v:Value} {x:PT t} (h:RepV t w (Kx K n L) v x) (hw:Wrote b w w') (hb:some b ∈ L):RepV t w' (Kx K n L) v x:=h.keep (Keeps.wrote hw hb) fun _ _ h=>h
theorem RepV.arg {v:Value} {x:PT t} (h:RepV t w K v x):RepV t w (Kx K w.heap.size []) v x:=h.keep (Keeps.refl _ _) fun _ _ h=>⟨.inl h,fun h=>(List.not_mem_nil h).elim⟩
theorem RepV.all {v:Value} {x:PT t} (h:RepV t w K v x):RepV t w (fun _=>True) v x:=h.keep (Keeps.refl _ _) fun _ _ _=>trivial
theorem RepV.new {w1:World} {v:Value} {x:PT t} (h:RepV t w' (Kx NoK w.heap.size []) v x) (hw:Wd w1 w L):RepV t w' (Kx NoK w1.heap.size L) v x :=
  h.keep (Keeps.refl _ _) fun c _ hk=>by
    have h1:w.heap.size ≤ c:=hk.1.resolve_left id
    have h2:=hw.below.size
    exact ⟨.inr (by omega),fun hm=>by have:=(hw.own c hm).2;omega⟩
theorem RepV.back {w1:World} {v:Value} {x:PT t} (h:RepV t w' (Kx (Kx K w1.heap.size L) w.heap.size []) v x) (hw:Wd w1 w L):RepV t w' (Kx K w1.heap.size L) v x :=
  h.keep (Keeps.refl _ _) fun c _ hk=>by
    rcases hk.1 with h1 | h1
    · exact h1
    · have h2:=hw.below.size
      exact ⟨.inr (by omega),fun hm=>by have:=(hw.own c hm).2;omega⟩
theorem RepV.out {v:Value} {x:PT t} (h:RepV t w' (Kx K n L) v x):RepV t w' (Kx K n []) v x:=h.keep (Keeps.refl _ _) fun c _ hk=>⟨hk.1,fun h=>(List.not_mem_nil h).elim⟩
def Bx (t:GT) (T:TypeId) (w:World) (K:Nat → Prop) (b:Nat) (x:PT t):Prop:=∃ cs:List Value,w.heap[b]? = some (.cells cs.toArray T (0,0)) ∧ RepCs t w K cs x
variable {T:TypeId} {x:PT t}
theorem Bx.at_ (h:Bx t T w K b x):RepAt t w K ⟨b,0,.none⟩ x:=by
  obtain ⟨cs,h1,h2⟩:=h
  refine ⟨rfl,cs,h2,fun i v hv=>?_⟩
  show w.cell? ⟨b,0 + i,.none⟩ = _
  rw [Nat.zero_add,cell_of_row w b i _ T (0,0) h1]
  simpa using hv
theorem Bx.lt (h:Bx t T w K b x):b < w.heap.size:=by obtain ⟨cs,h1,_⟩:=h;exact (Array.getElem?_eq_some_iff.1 h1).1
theorem Bx.step (h:Bx t T w K b x) (hb:Below w.heap.size w w'):Bx t T w' K b x:=by
  have hl:=h.lt
  obtain ⟨cs,h1,h2⟩:=h
  exact ⟨cs,(hb.block b hl).trans h1,h2.keep (Keeps.below hb) fun _ _ h=>h⟩
theorem Bx.box {c:Nat} (h:Bx t T w (Kx K n L) b x) (hb:NewB w w' c):Bx t T w' (Kx K n (some c :: L)) b x:=by
  have hl:=h.lt
  obtain ⟨cs,h1,h2⟩:=h
  exact ⟨cs,(hb.below.block b hl).trans h1,h2.keep (Keeps.below hb.below) fun d hc hk=>⟨hk.1,fun hm=>by
    rcases List.mem_cons.1 hm with e | hm
    · obtain rfl:=Option.some.inj e;have:=hb.ge;omega
    · exact hk.2 hm⟩⟩
theorem Bx.wrote {c:Nat} (h:Bx t T w (Kx K n L) b x) (hw:Wrote c w w') (hb:some c ∈ L) (hne:b ≠ c):Bx t T w' (Kx K n L) b x:=by
  obtain ⟨cs,h1,h2⟩:=h
  exact ⟨cs,(hw.block b hne).trans h1,h2.keep (Keeps.wrote hw hb) fun _ _ h=>h⟩
end
def b_s (t:GT) (w:World) (K:Nat → Prop) (r:PT t):Ending → World → Prop:=fun e w'=>∃ v,e = .returned v ∧ RepV t w' K v r ∧ Below w.heap.size w w'
def Ret2 (t u:GT) (w:World) (K:Nat → Prop) (r:PT t × PT u):Ending → World → Prop:=fun e w'=>∃ v1 v2,e = .returned (.tuple #[v1,v2]) ∧ RepV t w' K v1 r.1 ∧ RepV u w' K v2 r.2 ∧ Below w.heap.size w w'
theorem RepV.int {k:IntKind} {w:World} {K:Nat → Prop} {v:Value} {x:Int} (h:RepV (.int k) w K v x):v = .int k x ∧ InR k x:=by
  obtain ⟨cs,⟨rfl,h1⟩,rfl⟩:=h;exact ⟨rfl,h1⟩
theorem RepV.bool {w:World} {K:Nat → Prop} {v:Value} {x:Bool} (h:RepV .bool w K v x):v = .bool x:=by
  obtain ⟨cs,h1,rfl⟩:=h
  have:cs = [.bool x]:=h1
  rw [this];rfl
theorem RepV.str {w:World} {K:Nat → Prop} {v:Value} {x:List Int} (h:RepV .str w K v x):v = .string (strOfNums x) ∧ Byt x ∧ x.length ≤ 9223372036854775807:=by
  obtain ⟨cs,⟨rfl,h1⟩,rfl⟩:=h;exact ⟨rfl,h1⟩
theorem RepV.mkInt {k:IntKind} {w:World} {K:Nat → Prop} {x:Int} (h:InR k x):RepV (.int k) w K (.int k x) x:=⟨[.int k x],⟨rfl,h⟩,rfl⟩
theorem RepV.mkBool {w:World} {K:Nat → Prop} {x:Bool}:RepV .bool w K (.bool x) x:=⟨[.bool x],rfl,rfl⟩
theorem RepV.sl {e:GT} {w:World} {K:Nat → Prop} {v:Value} {x:Sl (PT e)} (h:RepV (.sl e) w K v x) :
    ∃ A n c,v = .slice A n c ∧ x.xs.length = n ∧ n ≤ c ∧ c ≤ 9223372036854775807 ∧ (∀ k,x.cap = some k → c = k) ∧ RowsOf (RepCs e w K) e.sz w K A x.xs:=by
  obtain ⟨cs,⟨A,n,c,rfl,h⟩,rfl⟩:=h;exact ⟨A,n,c,rfl,h⟩
theorem RepV.nil {e:GT} {w:World} {K:Nat → Prop}:RepV (.sl e) w K (.slice .none 0 0) ⟨[],some 0⟩ :=
  ⟨[.slice .none 0 0],⟨.none,0,0,rfl,rfl,Nat.le_refl _,by omega,fun k h=>Option.some.inj h,.inl rfl⟩,rfl⟩
def GT.isPair:GT → Bool
  | .pair _ _=>true
  | _=>false
theorem RepV.cells {t:GT} {w:World} {K:Nat → Prop} {v:Value} {x:PT t} (h:RepV t w K v x) (hp:t.isPair = false):RepCs t w K v.cells.toList x:=by
  obtain ⟨cs,h1,rfl⟩:=h
  cases t with
  | st f=>simpa [Value.cells,GT.agg] using h1
  | arr m e=>simpa [Value.cells,GT.agg] using h1
  | int k=>obtain ⟨rfl,h2⟩:=h1;exact ⟨rfl,h2⟩
  | bool=>have h1:cs = _:=h1;subst h1;rfl
  | str=>obtain ⟨rfl,h2⟩:=h1;exact ⟨rfl,h2⟩
  | sl e=>obtain ⟨A,m,c,rfl,h2⟩:=h1;exact ⟨A,m,c,rfl,h2⟩
  | raw=>obtain ⟨rfl,A,m,c,h2⟩:=h1;subst h2;exact ⟨rfl,A,m,c,rfl⟩
  | pair a b=>cases hp
section
variable {ds:List Deferred} {N:Nat} {a:Act} {l:List (Nat × Value)} {w w0:World} {P:Program} {ops:Array Oper} {Q:Exit → Act → World → Prop} {rest:List Oper} {o:Oper} {Kont:Act → World → Prop} {d:Nat} {K:Nat → Prop} {n:Nat} {L:List (Option Nat)}
def gOk (ops:Array Oper) (l:List (Nat × Value)) (o:Oper):Option Bool :=
  match o.guard with
  | .none=>some true
  | some (j,want)=>match (ops[j]?).bind (·.dst) with
    | some d=>match lk l d with
      | some (.bool b)=>some (b == want)
      | some (.tuple _)=>some false
      | _=>.none
    | .none=>.none
def a_L (tys:List (TypeId × GT)) (ops:Array Oper) (N:Nat):List Oper → List (Nat × Value) → Option (List (Nat × Value))
  | [],l=>some l
  | o :: os,l=>match gOk ops l o,o.dst with
    | some true,some d=>match pureOp tys l o.op with
      | some v=>if Nat.blt d N then a_L tys ops N os ((d,v) :: l) else .none
      | .none=>.none
    | some false,some d=>if Nat.blt d N then a_L tys ops N os ((d,undef) :: l) else .none
    | some false,.none=>a_L tys ops N os l
    | _,_=>.none
theorem gOk.wanted (S:StD ds N a l) {b:Bool} (h:gOk ops l o = some b):Region.wanted o (yielded ops a.tmps) = b:=by
  unfold gOk at h
  split at h
  · rename_i hg
    obtain rfl:=Option.some.inj h
    simp [Region.wanted,hg]
  · rename_i j want hg
    split at h
    · rename_i d hd
      split at h
      · rename_i b' hb
        obtain rfl:=Option.some.inj h
        simp only [Region.wanted,hg,yielded,hd,Option.bind_some,S.at_ d _ hb]
        cases b' <;> cases want <;> rfl
      · rename_i vs hb
        obtain rfl:=Option.some.inj h
        simp only [Region.wanted,hg,yielded,hd,Option.bind_some,S.at_ d _ hb]
        rfl
      · cases h
    · cases h
theorem w_go (S:StD ds N a l) (hg:gOk ops l o = some true) (h:o.wp P a w (wpList P ops Q rest) Q):wpList P ops Q (o :: rest) a w:=by
  unfold wpList
  rw [if_pos (gOk.wanted S hg)]
  exact .inl h
theorem d_3 (S:StD ds N a l) (hg:gOk ops l o = some false) (h:wpList P ops Q rest (a.put o.dst undef) w):wpList P ops Q (o :: rest) a w:=by
  unfold wpList
  rw [if_neg (by rw [gOk.wanted S hg];exact Bool.false_ne_true)]
  exact h
theorem b_h (tys:List (TypeId × GT)) (ht:tysOk P tys = true):∀ (l1:List Oper) {l2:List Oper} {a:Act} {l l':List (Nat × Value)},StD ds N a l → a_L tys ops N l1 l = some l' → (∀ a',StD ds N a' l' → wpList P ops Q l2 a' w) → wpList P ops Q (l1 ++ l2) a w
  | [],l2,a,l,l',S,h,k=>by
    simp only [a_L,Option.some.injEq] at h
    subst h
    exact k a S
  | o :: l1,l2,a,l,l',S,h,k=>by
    unfold a_L at h
    split at h
    · rename_i d hg hd
      split at h
      · rename_i v hv
        split at h
        · rename_i hN
          exact w_go S hg (a_D S hd hN (e_t S o tys ht hv) fun a' S'=>b_h tys ht l1 S' h k)
        · cases h
      · cases h
    · rename_i d hg hd
      split at h
      · rename_i hN
        refine d_3 S hg ?_
        rw [hd]
        exact b_h tys ht l1 (S.put (by simpa [Nat.blt_eq] using hN) undef) h k
      · cases h
    · rename_i hg hd
      refine d_3 S hg ?_
      rw [hd]
      exact b_h tys ht l1 S h k
    · cases h
theorem wl_pure (S:StD ds N a l) (tys:List (TypeId × GT)) (ht:tysOk P tys = true) (m:Nat) {l0:List Oper} {l':List (Nat × Value)} (h:a_L tys ops N (l0.take m) l = some l')
    (k:∀ a',StD ds N a' l' → wpList P ops Q (l0.drop m) a' w):wpList P ops Q l0 a w:=by
  rw [← List.take_append_drop m l0]
  exact b_h tys ht _ S h k
theorem seg (m:Nat) (M:Act → World → Prop) {l0:List Oper} (h1:wpList P ops (Exit.then M Q) (l0.take m) a w) (h2:∀ a' w',M a' w' → wpList P ops Q (l0.drop m) a' w'):wpList P ops Q l0 a w:=by
  rw [← List.take_append_drop m l0]
  exact d_q _ M h1 h2
theorem a_f (S:StD ds N a l) {op:BinOp} {T T':TypeId} {x y:Operand} (k0:IntKind) (z:Int) {m n r:Int} (ho:o.op = .binOp op T x y T') (hop:(op,z) = (.add,m + n) ∨ (op,z) = (.sub,m - n) ∨ (op,z) = (.mul,m * n))
    (hd:o.dst = some d) (hN:Nat.blt d N = true) (hx:ev l x = some (.int k0 m)) (hy:ev l y = some (.int k0 n)) (hz:ckI k0 z = some r) (k:∀ a',StD ds N a' ((d,.int k0 r) :: l) → Kont a' w):o.wp P a w Kont Q:=by
  refine a_D S hd hN ?_ k
  obtain ⟨h1,_,h2⟩:=a_h hz
  subst h1
  rcases hop with h | h | h <;> (obtain ⟨rfl,rfl⟩:=Prod.mk.inj h;simp [execOp,ho,S.eval hx,S.eval hy,a_Y,binOp,Op.intArith,h2])
theorem d_8 (S:StD ds N a l) {T T':TypeId} {x y:Operand} (k0:IntKind) {m n r:Int} (ho:o.op = .binOp .quo T x y T')
    (hd:o.dst = some d) (hN:Nat.blt d N = true) (hx:ev l x = some (.int k0 m)) (hy:ev l y = some (.int k0 n)) (hz:e_R k0 m n = some r) (k:∀ a',StD ds N a' ((d,.int k0 r) :: l) → Kont a' w):o.wp P a w Kont Q:=by
  refine a_D S hd hN ?_ k
  unfold e_R at hz
  split at hz
  · cases hz
  · rename_i hn
    obtain ⟨h1,_,h2⟩:=a_h hz
    subst h1
    simp [execOp,ho,S.eval hx,S.eval hy,a_Y,binOp,Op.intDiv,h2,hn]
theorem b_Q (S:StD ds N a l) {T T':TypeId} {x y:Operand} (k0:IntKind) {m n r:Int} (ho:o.op = .binOp .rem T x y T')
    (hd:o.dst = some d) (hN:Nat.blt d N = true) (hx:ev l x = some (.int k0 m)) (hy:ev l y = some (.int k0 n)) (hz:c_L k0 m n = some r) (k:∀ a',StD ds N a' ((d,.int k0 r) :: l) → Kont a' w):o.wp P a w Kont Q:=by
  refine a_D S hd hN ?_ k
  unfold c_L at hz
  split at hz
  · cases hz
  · rename_i hn
    obtain ⟨h1,_,h2⟩:=a_h hz
    subst h1
    simp [execOp,ho,S.eval hx,S.eval hy,a_Y,binOp,Op.intDiv,hn]
theorem op_shl (S:StD ds N a l) {T T':TypeId} {x y:Operand} (k0 k1:IntKind) {m n r:Int} (ho:o.op = .binOp .shl T x y T')
    (hd:o.dst = some d) (hN:Nat.blt d N = true) (hx:ev l x = some (.int k0 m)) (hy:ev l y = some (.int k1 n)) (hz:shlI k0 m n = some r) (k:∀ a',StD ds N a' ((d,.int k0 r) :: l) → Kont a' w):o.wp P a w Kont Q:=by
  refine a_D S hd hN ?_ k
  unfold shlI at hz
  split at hz
  · rename_i hn
    obtain rfl:=Option.some.inj hz
    have:¬ n < 0:=by omega
    simp [execOp,ho,S.eval hx,S.eval hy,a_Y,binOp,Op.shift,this]
  · cases hz
theorem e_x (S:StD ds N a l) {src dst:TypeId} {x:Operand} (k0:IntKind) (T1 T2:GT) {k1:IntKind} {m:Int} (ho:o.op = .convert src dst x) (h1:tie P (.int k1) false src [] 0 = true) (h2:tie P (.int k0) false dst [] 0 = true)
    (hd:o.dst = some d) (hN:Nat.blt d N = true) (hx:ev l x = some (.int k1 m)) (hm:k0.wrap m = m) (k:∀ a',StD ds N a' ((d,.int k0 m) :: l) → Kont a' w):o.wp P a w Kont Q:=by
  refine a_D S hd hN ?_ k
  simp [execOp,ho,S.eval hx,convert,run_underlying (b_e h1),run_underlying (b_e h2),Conv.intToInt,hm]
theorem a_F (S:StD ds N a l) {T:TypeId} {x:Operand} {e:GT} {v:Value} {xs:Sl (PT e)} (ho:o.op = .call { callee:=.builtin .len,args:=#[x],argTypes:=#[T] }) (ht:tie P (.sl e) false T [] 0 = true) (hd:o.dst = some d) (hN:Nat.blt d N = true)
    (hx:ev l x = some v) (R:RepV (.sl e) w K v xs) (k:∀ a',InR .i64 (a_4 xs) → StD ds N a' ((d,.int .i64 (a_4 xs)) :: l) → Kont a' w):o.wp P a w Kont Q:=by
  obtain ⟨A,m,c,rfl,h1,h2,h3,_,_⟩:=R.sl
  obtain ⟨E,hE,_⟩:=b_b ht
  refine a_D S (v:=.int .i64 (a_4 xs)) hd hN ?_ fun a'=>k a' ?_
  · simp [execOp,ho,resolve,invoke,builtin,S.eval hx,Builtin.len_,run_underlying hE,goInt,a_4,h1]
  · simp only [InR,a_4,h1,IntKind.min,IntKind.max,IntKind.signed,IntKind.bits];simp;omega
theorem op_cap (S:StD ds N a l) {T:TypeId} {x:Operand} {e:GT} {v:Value} {xs:Sl (PT e)} {c:Int} (ho:o.op = .call { callee:=.builtin .cap,args:=#[x],argTypes:=#[T] }) (ht:tie P (.sl e) false T [] 0 = true) (hd:o.dst = some d) (hN:Nat.blt d N = true)
    (hx:ev l x = some v) (R:RepV (.sl e) w K v xs) (hc:capO xs = some c) (k:∀ a',InR .i64 c → StD ds N a' ((d,.int .i64 c) :: l) → Kont a' w):o.wp P a w Kont Q:=by
  obtain ⟨A,m,c',rfl,h1,h2,h3,h4,_⟩:=R.sl
  obtain ⟨E,hE,_⟩:=b_b ht
  unfold capO at hc
  cases hcap:xs.cap with
  | none=>rw [hcap] at hc;cases hc
  | some q =>
    rw [hcap] at hc
    obtain rfl:=h4 q hcap
    obtain rfl:((c':Nat):Int) = c:=by simpa using hc
    refine a_D S (v:=.int .i64 (c':Int)) hd hN ?_ fun a'=>k a' ?_
    · simp [execOp,ho,resolve,invoke,builtin,S.eval hx,Builtin.cap_,run_underlying hE,goInt]
    · simp only [InR,IntKind.min,IntKind.max,IntKind.signed,IntKind.bits];simp;omega
theorem a_1 {α:Type} {xs:List α} {i:Int} {x:α} (h:idx xs i = some x):0 ≤ i ∧ xs[i.toNat]? = some x ∧ i < xs.length:=by
  unfold idx at h
  split at h
  · rename_i h0
    exact ⟨h0,h,by have:=(List.getElem?_eq_some_iff.1 h).1;omega⟩
  · cases h
theorem a_p (S:StD ds N a l) {T:TypeId} {x i:Operand} {e:GT} {v:Value} {xs:Sl (PT e)} {k0:IntKind} {j:Int} {y:PT e} (ho:o.op = .indexAddr T x i) (ht:tie P (.sl e) false T [] 0 = true) (hd:o.dst = some d) (hN:Nat.blt d N = true)
    (hx:ev l x = some v) (R:RepV (.sl e) w K v xs) (hi:ev l i = some (.int k0 j)) (hj:idx xs.xs j = some y)
    (k:∀ a' p,RepAt e w K p y → p.block < w.heap.size ∧ K p.block → StD ds N a' ((d,.pointer (some p)) :: l) → Kont a' w):o.wp P a w Kont Q:=by
  obtain ⟨A,m,c,rfl,h1,h2,h3,h4,h5⟩:=R.sl
  obtain ⟨E,hE,htE⟩:=b_b ht
  obtain ⟨ie,hie,hse⟩:=a_E htE
  obtain ⟨h0,hg,hlt⟩:=a_1 hj
  obtain ⟨b,off,rfl,hb,hK,hR⟩:=h5.el hg
  have hlt':0 ≤ j ∧ j < (m:Int):=by omega
  refine a_D S (v:=.pointer (some ⟨b,off + j.toNat * e.sz,.none⟩)) hd hN ?_ fun a'=>k a' ⟨b,off + j.toNat * e.sz,.none⟩ hR ⟨hb,hK⟩
  simp [execOp,ho,S.eval hx,S.eval hi,Instr.indexAt,asIntOf,run_underlying hE,hlt',sizeOf,typeInfo,hie,hse,Addr.add_lit]
theorem b_R {T:TypeId} {t:GT} {p:Addr} {x:PT t} (ht:tie P t false T [] 0 = true) (R:RepAt t w K p x):∃ v,(loadVar T p).run P w = .ok v w ∧ RepV t w K v x:=by
  obtain ⟨b,off,spot⟩:=p
  obtain ⟨hs,cs,h1,h2⟩:=R
  obtain rfl:spot = .none:=hs
  obtain ⟨i,hi,hsz⟩:=a_E ht
  have hl:=h1.len
  have hload:(loadCells ⟨b,off,.none⟩ i.size).run P w = .ok cs.toArray w:=by
    rw [hsz,← hl]
    exact run_loadCells_list (P:=P) w ⟨b,off,.none⟩ cs (fun j v hv=>by rw [Addr.add_lit];exact h2 j v hv)
  have one:t.agg = false → (∀ d,P.underlying T = some d → (match d with | .struct _ | .array _ _=>true | _=>false) = false) → P.underlying T ≠ .none → t.sz = 1 → ∃ v,(loadVar T ⟨b,off,.none⟩).run P w = .ok v w ∧ RepV t w K v x:=by
    intro hagg hd hne h1z
    rw [h1z] at hl
    match cs,hl with
    | [c],_ =>
      have hc:=h2 0 c rfl
      cases hu:P.underlying T with
      | none=>exact absurd hu hne
      | some d =>
        have:=hd d hu
        refine ⟨c,?_,[c],h1,by rw [if_neg (by simp [hagg])];rfl⟩
        have hc':w.cell? ⟨b,off,.none⟩ = some c:=hc
        cases d <;> simp at this <;> simp [loadVar,isAgg,run_underlying hu,hc']
  cases t with
  | int k=>exact one rfl (fun d hd=>by rw [b_e ht] at hd;cases hd;rfl) (by rw [b_e ht];simp) rfl
  | bool=>exact one rfl (fun d hd=>by rw [b_A ht] at hd;cases hd;rfl) (by rw [b_A ht];simp) rfl
  | str=>exact one rfl (fun d hd=>by rw [c_r ht] at hd;cases hd;rfl) (by rw [c_r ht];simp) rfl
  | sl e=>obtain ⟨E,hE,_⟩:=b_b ht;exact one rfl (fun d hd=>by rw [hE] at hd;cases hd;rfl) (by rw [hE];simp) rfl
  | raw=>obtain ⟨E,hE⟩:=tie_raw ht;exact one rfl (fun d hd=>by rw [hE] at hd;cases hd;rfl) (by rw [hE];simp) rfl
  | pair a b=>simp [tie] at ht
  | st f =>
    obtain ⟨fs,hfs,_⟩:=d_r ht
    exact ⟨.agg cs.toArray,by simp [loadVar,isAgg,run_underlying hfs,sizeOf,typeInfo,hi,hload],cs,h1,by simp [GT.agg]⟩
  | arr m e =>
    obtain ⟨E,hE,_⟩:=b_8 ht
    exact ⟨.agg cs.toArray,by simp [loadVar,isAgg,run_underlying hE,sizeOf,typeInfo,hi,hload],cs,h1,by simp [GT.agg]⟩
theorem a_b (S:StD ds N a l) {T:TypeId} {ad:Operand} {t:GT} {p:Addr} {x:PT t} (ho:o.op = .load T ad) (ht:tie P t false T [] 0 = true) (hd:o.dst = some d) (hN:Nat.blt d N = true)
    (ha:ev l ad = some (.pointer (some p))) (R:RepAt t w K p x) (k:∀ a' v,RepV t w K v x → StD ds N a' ((d,v) :: l) → Kont a' w):o.wp P a w Kont Q:=by
  obtain ⟨v,hr,hv⟩:=b_R (P:=P) ht R
  refine a_D S (v:=v) hd hN ?_ fun a'=>k a' v hv
  simp [execOp,ho,S.eval ha,Instr.loadAt,Instr.sureAddr,hr]
end
end Go.Proofs.Ytfelbalkobcfhaa
