/- The rules of the walk over plain data, more: a region that draws its order, in which what is loaded from old blocks comes first. Plain theorems, no condition. -/
import Derived.Test.YtfelbalkobcfhaaXE39
import Derived.OrdersHeld
set_option linter.unusedVariables false
set_option linter.unusedSimpArgs false
namespace Go.Proofs.Ytfelbalkobcfhaa
open Go.RowKit
@[reducible] def Sb (w0:World):World → Prop:=fun w=>Below w0.heap.size w0 w
theorem Sb.step {w0 w w':World} (h:Sb w0 w) (hb:Below w.heap.size w w'):Sb w0 w':=Below.trans h (hb.mono h.size)
theorem Sb.apd {w0 w w':World} {v v':Value} (h:Sb w0 w) (A:Apd w w' v v') (hg:∀ c,v.ownBlock = some c → w0.heap.size ≤ c):Sb w0 w' :=
  Below.trans h ⟨A.grown.os,A.grown.tape,A.grown.output,A.grown.size,fun k hk=>A.grown.block k (Nat.lt_of_lt_of_le hk h.size) fun e=>by have:=hg k e.symm;omega⟩
theorem Sb.wrote {w0 w w':World} {b:Nat} (h:Sb w0 w) (hw:Wrote b w w') (hg:w0.heap.size ≤ b):Sb w0 w' :=
  Below.trans h ⟨hw.os,hw.tape,hw.output,Nat.le_of_eq hw.size.symm,fun k hk=>hw.block k fun e=>by omega⟩
theorem Apd.ge {n:Nat} {w w':World} {v v':Value} (A:Apd w w' v v') (hg:∀ c,v.ownBlock = some c → n ≤ c) (hn:n ≤ w.heap.size):∀ c,v'.ownBlock = some c → n ≤ c:=fun c hc=>by
  rcases A.at_ with e | e
  · exact hg c (e ▸ hc)
  · rw [e] at hc;obtain rfl:=Option.some.inj hc;exact hn
def AnH (P:Program) (l:List Oper) (Q:Exit → Act → World → Prop) (m:Nat) (w0:World) (k:Nat) (D:List Nat) (a:Act) (w:World):Prop:=wpAnyH P .any l.toArray Q (Sb w0) k (a_U m D) a w
def AnStepH (P:Program) (l:List Oper) (Q:Exit → Act → World → Prop) (m:Nat) (w0:World) (k:Nat) (D:List Nat) (a:Act) (w:World) (i:Nat):Prop:=wpOp P l.toArray Q i (fun a' w'=>Sb w0 w' ∧ AnH P l Q m w0 k (i :: D) a' w') a w
def AnForksH (P:Program) (l:List Oper) (Q:Exit → Act → World → Prop) (m:Nat) (w0:World) (k:Nat) (D:List Nat) (a:Act) (w:World):List Nat → Prop
  | []=>True
  | i :: is=>AnStepH P l Q m w0 k D a w i ∧ AnForksH P l Q m w0 k D a w is
theorem AnForksH.get {P:Program} {l:List Oper} {Q:Exit → Act → World → Prop} {m k:Nat} {w0:World} {D:List Nat} {a:Act} {w:World}:∀ {is:List Nat},AnForksH P l Q m w0 k D a w is → ∀ i ∈ is,AnStepH P l Q m w0 k D a w i
  | j :: is,h,i,hi=>by
    rcases List.mem_cons.1 hi with rfl | hi
    · exact h.1
    · exact AnForksH.get h.2 i hi
section
variable {P:Program} {w W:World} {K:Nat → Prop}
end
section
variable {ds:List Deferred} {N:Nat} {a:Act} {l0 l1:List (Nat × Value)} {w w0:World} {P:Program} {l:List Oper} {Q:Exit → Act → World → Prop} {o:Oper} {m k i:Nat} {D:List Nat}
namespace R
end R
end
end Go.Proofs.Ytfelbalkobcfhaa
