/- The rules of the walk over plain data, more: pointers that may be nil, variables that a call is handed. Plain theorems, no condition. -/
import Derived.Test.YtfelbalkobcfhaaXE32
set_option linter.unusedVariables false
set_option linter.unusedSimpArgs false
namespace Go.Proofs.Ytfelbalkobcfhaa
open Go.RowKit
@[reducible] def b_w:Value → Option Nat
  | .pointer (some a)=>some a.block
  | _=>.none
def Opt1 (t:GT) (T:TypeId) (w:World) (K:Nat → Prop) (v:Value) (x:Option (PT t)):Prop:=(v = .pointer .none ∧ x = .none) ∨ ∃ b y,v = pB b ∧ x = some y ∧ Bx t T w K b y
section
variable {w0 w w':World} {L P:List (Option Nat)} {K:Nat → Prop} {n b:Nat} {t:GT} {v:Value} {T:TypeId}
theorem Bx.backW {x:PT t} (h:Bx t T w' (Kx (Kx K w0.heap.size L) w.heap.size P) b x) (hW:Wd w0 w L):Bx t T w' (Kx K w0.heap.size (P ++ L)) b x:=by
  obtain ⟨cs,h1,h2⟩:=h
  exact ⟨cs,h1,h2.keep (Keeps.refl _ _) fun c _ hk=>Kx.backW hW hk⟩
theorem Opt1.backW {x:Option (PT t)} (h:Opt1 t T w' (Kx (Kx K w0.heap.size L) w.heap.size P) v x) (hW:Wd w0 w L):Opt1 t T w' (Kx K w0.heap.size (P ++ L)) v x:=by
  rcases h with h | ⟨b,y,h1,h2,h3⟩
  · exact .inl h
  · exact .inr ⟨b,y,h1,h2,h3.backW hW⟩
theorem Opt1.fr (P LO:List (Option Nat)) {x:Option (PT t)} (h:Opt1 t T w (Kx K n (P ++ LO)) v x):Opt1 t T w (Kx K n P) v x:=by
  rcases h with h | ⟨b,y,h1,h2,h3⟩
  · exact .inl h
  · exact .inr ⟨b,y,h1,h2,h3.less (List.sublist_append_left _ _)⟩
theorem Opt1.open {α:Type} {f:α → PT t} {r:Option α} (h:Opt1 t T w K v (r.map f)):(v = .pointer .none ∧ r = .none) ∨ ∃ b y,v = pB b ∧ r = some y ∧ Bx t T w K b (f y):=by
  rcases h with ⟨h1,h2⟩ | ⟨b,y,h1,h2,h3⟩
  · cases r with
    | none=>exact .inl ⟨h1,rfl⟩
    | some z=>cases h2
  · cases r with
    | none=>cases h2
    | some z=>exact .inr ⟨b,z,h1,rfl,by cases h2;exact h3⟩
theorem Opt1.nil:Opt1 t T w K (.pointer .none) .none:=.inl ⟨rfl,rfl⟩
theorem Opt1.bx {x:PT t} (h:Bx t T w K b x):Opt1 t T w K (pB b) (some x):=.inr ⟨b,x,rfl,rfl,h⟩
theorem Bx.all {x:PT t} (h:Bx t T w (Kx K n L) b x):Bx t T w (Kx K n []) b x:=h.less (List.nil_sublist _)
end
section
variable {ds:List Deferred} {N:Nat} {a:Act} {l:List (Nat × Value)} {w w0:World} {P:Program} {ops:Array Oper} {Q:Exit → Act → World → Prop} {rest:List Oper} {o:Oper} {Kont:Act → World → Prop} {d:Nat}
def ptrB (P:Program) (T:TypeId):Bool:=match P.underlying T with | some (.pointer _)=>true | _=>false
end
end Go.Proofs.Ytfelbalkobcfhaa
