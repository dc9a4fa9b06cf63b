/- The rules of the walk over plain data, more: one pure operation of a drawn region, in one step. Plain theorems, no condition. -/
import Derived.Test.YtfelbalkobcfhaaXE30
set_option linter.unusedVariables false
set_option linter.unusedSimpArgs false
namespace Go.Proofs.Ytfelbalkobcfhaa
open Go.RowKit
section
variable {P:Program} {ops:Array Oper} {Q:Exit → Act → World → Prop} {a0 A:Act} {w0 w:World} {ds:List Deferred} {N d i s b:Nat} {l:List (Nat × Value)} {v:Value} {o:Oper} {M:Nat → Option (Option Nat)} {I:List Nat} {L:List (Option Nat)}
theorem RPost.one {R:World → World → Prop} {f:Value → World → Prop} (S:StD ds N A l) (tys:List (TypeId × GT)) (ht:tysOk P tys = true) (hd:o.dst = some d) (h:(a_L tys ops N [o] l).bind (fun q=>lk q d) = some v) (h0:a0.defers = ds) (hf:f v w) (hb:R w w) :
    FillE w [] A (fun B=>wpList P ops (b_K R o.dst f a0.defers w Q) [o] B w):=by
  show wpList P ops _ [o] A w
  obtain ⟨q,h1,h2⟩:=Option.bind_eq_some_iff.1 h
  refine wl_pure S tys ht 1 (l0:=[o]) h1 fun a' S'=>?_
  rw [hd]
  exact wpList_nil (RPost.mk_ S' h2 h0 hf hb)
theorem RPostG.one {f:Value → GW → Prop} (S:StD ds N A l) (tys:List (TypeId × GT)) (ht:tysOk P tys = true) (hd:o.dst = some d) (h:(a_L tys ops N [o] l).bind (fun q=>lk q d) = some v) (h0:a0.defers = ds) (hf:f v (M,w)) (hb:Below w.heap.size w w) :
    FillEG (M,w) [] A (fun B=>wpList P ops (RPostG (Gr w0 I L) i o.dst f a0.defers (M,w) Q) [o] B w):=by
  show wpList P ops _ [o] A w
  obtain ⟨q,h1,h2⟩:=Option.bind_eq_some_iff.1 h
  refine wl_pure S tys ht 1 (l0:=[o]) h1 fun a' S'=>?_
  rw [hd]
  exact wpList_nil (RPostG.mk_ S' h2 h0 hf hb)
theorem RPostS.one {F:GW → Prop} {f:Value → GW → Prop} (S:StD ds N A l) (tys:List (TypeId × GT)) (ht:tysOk P tys = true) (hd:o.dst = some d) (h:(a_L tys ops N [o] l).bind (fun q=>lk q d) = some v) (h0:a0.defers = ds) (hf:f v (M,w)) (hb:Below w.heap.size w w) :
    FillEG (M,w) [] A (fun B=>wpList P ops (RPostG (Gs w0 I L s b F) i o.dst f a0.defers (M,w) Q) [o] B w):=by
  show wpList P ops _ [o] A w
  obtain ⟨q,h1,h2⟩:=Option.bind_eq_some_iff.1 h
  refine wl_pure S tys ht 1 (l0:=[o]) h1 fun a' S'=>?_
  rw [hd]
  exact wpList_nil (RPostS.mk_ S' h2 h0 hf hb)
end
end Go.Proofs.Ytfelbalkobcfhaa
