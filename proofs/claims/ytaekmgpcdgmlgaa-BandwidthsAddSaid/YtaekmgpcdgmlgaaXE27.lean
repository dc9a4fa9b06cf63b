/- The rules of the walk over plain data, more: a part of a part that holds a slice of one's own; data whose capacities are not known. Plain theorems, no condition. -/
import Derived.Test.YtaekmgpcdgmlgaaXE26
set_option linter.unusedVariables false
set_option linter.unusedSimpArgs false
namespace Go.Proofs.Ytaekmgpcdgmlgaa
open Go.RowKit

/-- A part of a datum that may be replaced by one of another type. -/
def Lx (t s t' s':GT) (get:PT t → PT s) (set:PT s' → PT t → PT t'):Prop :=
  ∀ w K cs x,RepCs t w K cs x → ∃ c1 c c2,cs = c1 ++ c ++ c2 ∧ RepCs s w K c (get x) ∧ ∀ cn y,cn.length = c.length → RepCs s' w K cn y → RepCs t' w K (c1 ++ cn ++ c2) (set y x)
theorem Lx.st {f s f' s':GT} {get:PT f → PT s} {set:PT s' → PT f → PT f'} (h:Lx f s f' s' get set):Lx (.st f) s (.st f') s' get set:=h
theorem Lx.left {a b s a' s':GT} {get:PT a → PT s} {set:PT s' → PT a → PT a'} (h:Lx a s a' s' get set):Lx (.pair a b) s (.pair a' b) s' (fun x=>get x.1) (fun y x=>(set y x.1,x.2)):=by
  rintro w K cs x ⟨c1,c2,e,h1,h2⟩
  obtain ⟨d1,d,d2,e',er,es⟩:=h w K c1 x.1 h1
  exact ⟨d1,d,d2 ++ c2,by rw [e,e'];simp,er,fun cn y hl hy=>⟨d1 ++ cn ++ d2,c2,by simp,es cn y hl hy,h2⟩⟩
section
variable {w:World} {K:Nat → Prop} {b n:Nat} {t t' e:GT} {T:TypeId} {L:List (Option Nat)}
end

theorem addr_add1 (b m:Nat):(⟨b,0,.none⟩:Addr).add m = ⟨b,m,.none⟩:=by rw [addr_add,Nat.zero_add]
theorem addr_add2 (b m n:Nat):((⟨b,0,.none⟩:Addr).add m).add n = ⟨b,m + n,.none⟩:=by rw [addr_add1,addr_add]
instance slDec {α:Type} [DecidableEq α]:DecidableEq (Sl α):=fun a b =>
  if h:a.xs = b.xs ∧ a.cap = b.cap then isTrue (by obtain ⟨x,c⟩:=a;obtain ⟨y,d⟩:=b;obtain ⟨h1,h2⟩:=h;simp only at h1 h2;rw [h1,h2]) else isFalse (by rintro rfl;exact h ⟨rfl,rfl⟩)
section
variable {w:World} {K:Nat → Prop} {b n:Nat} {t e:GT} {T E:TypeId} {L:List (Option Nat)}
end
end Go.Proofs.Ytaekmgpcdgmlgaa
