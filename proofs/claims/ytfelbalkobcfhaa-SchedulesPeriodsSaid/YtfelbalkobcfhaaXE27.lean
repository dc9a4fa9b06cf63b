/- The rules of the walk over plain data, more: a part of a part that holds a slice of one's own; data whose capacities are not known. Plain theorems, no condition. -/
import Derived.Test.YtfelbalkobcfhaaXE26
set_option linter.unusedVariables false
set_option linter.unusedSimpArgs false
namespace Go.Proofs.Ytfelbalkobcfhaa
open Go.RowKit
def Lx (t s t' s':GT) (get:PT t → PT s) (set:PT s' → PT t → PT t'):Prop :=
  ∀ w K cs x,RepCs t w K cs x → ∃ c1 c c2,cs = c1 ++ c ++ c2 ∧ RepCs s w K c (get x) ∧ ∀ cn y,cn.length = c.length → RepCs s' w K cn y → RepCs t' w K (c1 ++ cn ++ c2) (set y x)
theorem Lx.here {s s':GT}:Lx s s s' s' id (fun y _=>y):=fun w K cs x h=>⟨[],cs,[],by simp,h,fun cn y _ hy=>by simpa using hy⟩
theorem Lx.st {f s f' s':GT} {get:PT f → PT s} {set:PT s' → PT f → PT f'} (h:Lx f s f' s' get set):Lx (.st f) s (.st f') s' get set:=h
theorem Lx.left {a b s a' s':GT} {get:PT a → PT s} {set:PT s' → PT a → PT a'} (h:Lx a s a' s' get set):Lx (.pair a b) s (.pair a' b) s' (fun x=>get x.1) (fun y x=>(set y x.1,x.2)):=by
  rintro w K cs x ⟨c1,c2,e,h1,h2⟩
  obtain ⟨d1,d,d2,e',er,es⟩:=h w K c1 x.1 h1
  exact ⟨d1,d,d2 ++ c2,by rw [e,e'];simp,er,fun cn y hl hy=>⟨d1 ++ cn ++ d2,c2,by simp,es cn y hl hy,h2⟩⟩
section
variable {w:World} {K:Nat → Prop} {b n:Nat} {t t' e:GT} {T:TypeId} {L:List (Option Nat)}
theorem Lx.toRaw {get:PT t → PT (.sl e)} {set:Value → PT t → PT t'} (ln:Lx t (.sl e) t' .raw get set) {cs:List Value} {x:PT t} (h:RepCs t w K cs x):∃ v,RepCs t' w K cs (set v x):=by
  obtain ⟨c1,c,c2,rfl,⟨A,n,c0,rfl,_⟩,es⟩:=ln w K cs x h
  exact ⟨_,es [.slice A n c0] (.slice A n c0) rfl ⟨rfl,A,n,c0,rfl⟩⟩
theorem Lx.unraw {get:PT t → Value} {set:PT (.sl e) → PT t → PT t'} (ln:Lx t .raw t' (.sl e) get set) {cs:List Value} {x:PT t} {y:Sl (PT e)} (h:RepCs t w K cs x) (hv:RepV (.sl e) w K (get x) y):RepCs t' w K cs (set y x):=by
  obtain ⟨c1,c,c2,rfl,⟨rfl,_⟩,es⟩:=ln w K cs x h
  obtain ⟨cs,⟨A,n,c0,rfl,h3⟩,e1⟩:=hv
  have e1:get x = .slice A n c0:=e1
  rw [e1]
  exact es [.slice A n c0] y rfl ⟨A,n,c0,rfl,h3⟩
theorem Bx.toRawX {get:PT t → PT (.sl e)} {set:Value → PT t → PT t'} (ln:Lx t (.sl e) t' .raw get set) {x:PT t} (h:Bx t T w K b x):∃ v,Bx t' T w K b (set v x):=by
  obtain ⟨cs,h1,h2⟩:=h
  obtain ⟨v,hv⟩:=ln.toRaw h2
  exact ⟨v,cs,h1,hv⟩
theorem Bx.unrawX {get:PT t → Value} {set:PT (.sl e) → PT t → PT t'} (ln:Lx t .raw t' (.sl e) get set) {x:PT t} {y:Sl (PT e)} (h:Bx t T w K b x) (hv:RepV (.sl e) w K (get x) y):Bx t' T w K b (set y x):=by
  obtain ⟨cs,h1,h2⟩:=h
  exact ⟨cs,h1,ln.unraw h2 hv⟩
theorem RepV.unrawX {get:PT t → Value} {set:PT (.sl e) → PT t → PT t'} (ln:Lx t .raw t' (.sl e) get set) (ha:t.agg = true) (ha':t'.agg = true) {u:Value} {x:PT t} {y:Sl (PT e)} (h:RepV t w K u x) (hv:RepV (.sl e) w K (get x) y):RepV t' w K u (set y x):=by
  obtain ⟨cs,h1,h2⟩:=h
  rw [ha,if_pos rfl] at h2
  exact ⟨cs,ln.unraw h1 hv,by rw [ha',if_pos rfl];exact h2⟩
end
theorem b_v (b m:Nat):(⟨b,0,.none⟩:Addr).add m = ⟨b,m,.none⟩:=by rw [e_B,Nat.zero_add]
theorem c_0 (b m n:Nat):((⟨b,0,.none⟩:Addr).add m).add n = ⟨b,m + n,.none⟩:=by rw [b_v,e_B]
instance slDec {α:Type} [DecidableEq α]:DecidableEq (Sl α):=fun a b =>
  if h:a.xs = b.xs ∧ a.cap = b.cap then isTrue (by obtain ⟨x,c⟩:=a;obtain ⟨y,d⟩:=b;obtain ⟨h1,h2⟩:=h;simp only at h1 h2;rw [h1,h2]) else isFalse (by rintro rfl;exact h ⟨rfl,rfl⟩)
section
variable {w:World} {K:Nat → Prop} {b n:Nat} {t e:GT} {T E:TypeId} {L:List (Option Nat)}
end
end Go.Proofs.Ytfelbalkobcfhaa
