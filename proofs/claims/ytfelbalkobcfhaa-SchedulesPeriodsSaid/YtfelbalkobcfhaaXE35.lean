/- The rules of the walk over plain data, more: sets: maps of numbers to true, alone or in a struct of one field. Plain theorems, no condition. -/
import Derived.Test.YtfelbalkobcfhaaXE34
set_option linter.unusedVariables false
set_option linter.unusedSimpArgs false
namespace Go.Proofs.Ytfelbalkobcfhaa
open Go.RowKit
def SetObj (kd:IntKind) (o:Obj) (xs:List Int):Prop:=∃ es c,o = .map es c ∧ es.toList.map (fun e=>(e.key,e.val)) = xs.map fun x=>(.int kd x,.bool true)
def Mp (kd:IntKind) (w:World) (b:Nat) (xs:List Int):Prop:=∃ o,SetObj kd o xs ∧ Ox o w b
def c_N (x:Int) (xs:List Int):List Int:=if x ∈ xs then xs else xs ++ [x]
section
variable {w0 w w' A B:World} {L L' LO P Q:List (Option Nat)} {K:Nat → Prop} {n b d i:Nat} {kd:IntKind} {v v':Value} {o:Option Nat} {xs:List Int}
theorem Mp.lt (h:Mp kd w b xs):b < w.heap.size:=by obtain ⟨o,_,h⟩:=h;exact h.lt
theorem Mp.step (h:Mp kd w b xs) (hb:Below w.heap.size w w'):Mp kd w' b xs:=by obtain ⟨o,hs,h⟩:=h;exact ⟨o,hs,h.step hb⟩
theorem Mp.box (h:Mp kd w b xs) (hb:NewB w w' i):Mp kd w' b xs:=h.step hb.below
theorem Mp.newO (h:Mp kd w b xs) (hN:NewO w w' o):Mp kd w' b xs:=h.step hN.below
theorem Mp.newW (h:Mp kd w b xs) (hN:Wd w w' P):Mp kd w' b xs:=h.step hN.below
theorem Mp.wrote (h:Mp kd w b xs) (hw:Wrote i w w') (hm:True) (hne:b ≠ i):Mp kd w' b xs:=by obtain ⟨o,hs,h⟩:=h;exact ⟨o,hs,h.wrote hw hm hne⟩
theorem Mp.apd (h:Mp kd w b xs) (W:Wd w0 w L) (ha:Apd w w' v v') (hi:L[i]? = some v.ownBlock) {j:Nat} (hj:L[j]? = some (some b)) (hji:j ≠ i):Mp kd w' b xs:=by obtain ⟨o,hs,h⟩:=h;exact ⟨o,hs,h.apd W ha hi hj hji⟩
theorem Mp.more (h:Mp kd w b xs):Mp kd w b xs:=h
theorem Mp.lessAt (h:Mp kd w b xs) (i:Nat):Mp kd w b xs:=h
theorem Mp.drop (h:Mp kd w b xs) (i:Nat):Mp kd w b xs:=h
theorem Mp.nc (h:Mp kd A b xs) (hn:Nc d A B) (hb:b ≠ d):Mp kd B b xs:=by obtain ⟨o,hs,h⟩:=h;exact ⟨o,hs,h.nc hn hb⟩
theorem Mp.mk_ {m:Nat} (h:Mp kd w b xs) (hm:Mk m L w w') (hb:some b ∈ L):Mp kd w' b xs:=by obtain ⟨o,hs,h⟩:=h;exact ⟨o,hs,h.mk_ hm hb⟩
theorem Mp.gr {I:List Nat} {g g':GW} (h:Mp kd g.2 b xs) (hg:Gr w0 I L g g'):Mp kd g'.2 b xs:=by obtain ⟨o,hs,h⟩:=h;exact ⟨o,hs,h.gr hg⟩
theorem Mp.gs {I:List Nat} {s c:Nat} {F:GW → Prop} {g g':GW} (h:Mp kd g.2 c xs) (hg:Gs w0 I L s b F g g') (hne:c ≠ b):Mp kd g'.2 c xs:=by obtain ⟨o,hs,h⟩:=h;exact ⟨o,hs,h.gs hg hne⟩
theorem Mp.sto {t:GT} {T:TypeId} {g:Nat} {xn:PT t} {K':Nat → Prop} (h:Mp kd w b xs) (hs:Sto t T K' g xn w w') (hne:b ≠ g):Mp kd w' b xs:=by obtain ⟨o,hq,h⟩:=h;exact ⟨o,hq,h.sto hs hne⟩
theorem Mp.yst (Bs:List (Option Nat)) (h:Mp kd A b xs) (hy:Yst n A LO B L') (W:Wd w0 A (Bs ++ LO)) (hb:some b ∈ Bs):Mp kd B b xs:=by obtain ⟨o,hs,h⟩:=h;exact ⟨o,hs,h.yst Bs hy W hb⟩
theorem Mp.yfr (LO:List (Option Nat)) (h:Mp kd A b xs) (hy:Yst n A P B Q) (W:Wd w0 A (P ++ LO)) (hb:some b ∈ LO):Mp kd B b xs:=by obtain ⟨o,hs,h⟩:=h;exact ⟨o,hs,h.yfr LO hy W hb⟩
end
structure SetTy (P:Program) (T Tm Tk Tv:TypeId) (kd:IntKind):Prop where
  st:∃ fs f,P.underlying T = some (.struct fs) ∧ fs.toList = [f] ∧ f.type = Tm ∧ f.offset = 0
  inf:∃ i,P.info? T = some i ∧ i.size = 1 ∧ ∃ cs,i.zero = some (.agg cs) ∧ cs.toList = [.map none]
  infm:∃ i,P.info? Tm = some i ∧ i.size = 1
  mp:P.underlying Tm = some (.map Tk Tv)
  key:P.underlying Tk = some (.int kd)
  inv:∃ i,P.info? Tv = some i ∧ i.zero = some (.bool false)
def oneF (fs:List Field) (Tm:TypeId):Bool:=match fs with | [f]=>Nat.beq f.type Tm && Nat.beq f.offset 0 | _=>false
def nilM (z:Option Value):Bool:=match z with | some (.agg cs)=>(match cs.toList with | [.map none]=>true | _=>false) | _=>false
def isStr (d:Option TypeDesc) (Tm:TypeId):Bool:=match d with | some (.struct fs)=>oneF fs.toList Tm | _=>false
def isMp (d:Option TypeDesc) (Tk Tv:TypeId):Bool:=match d with | some (.map k v)=>Nat.beq k Tk && Nat.beq v Tv | _=>false
def isIn (d:Option TypeDesc) (kd:IntKind):Bool:=match d with | some (.int k)=>decide (k = kd) | _=>false
def fzB (z:Option Value):Bool:=match z with | some (.bool false)=>true | _=>false
def setTyB (P:Program) (T Tm Tk Tv:TypeId) (kd:IntKind):Bool :=
  isStr (P.underlying T) Tm && (P.info? T).any (fun i=>Nat.beq i.size 1 && nilM i.zero) && (P.info? Tm).any (fun i=>Nat.beq i.size 1) && isMp (P.underlying Tm) Tk Tv && isIn (P.underlying Tk) kd && (P.info? Tv).any (fun i=>fzB i.zero)
theorem anyS {α:Type} {x:Option α} {p:α → Bool} (h:x.any p = true):∃ y,x = some y ∧ p y = true:=by
  cases x with
  | none=>cases h
  | some y=>exact ⟨y,rfl,h⟩
theorem SetTy.of {P:Program} {T Tm Tk Tv:TypeId} {kd:IntKind} (h:setTyB P T Tm Tk Tv kd = true):SetTy P T Tm Tk Tv kd:=by
  simp only [setTyB,Bool.and_eq_true] at h
  obtain ⟨⟨⟨⟨⟨h1,h2⟩,h3⟩,h4⟩,h5⟩,h6⟩:=h
  refine ⟨?_,?_,?_,?_,?_,?_⟩
  · unfold isStr at h1
    split at h1
    · rename_i fs hu
      unfold oneF at h1
      split at h1
      · rename_i f hf
        simp only [Bool.and_eq_true,Nat.beq_eq] at h1
        exact ⟨fs,f,hu,hf,h1.1,h1.2⟩
      · cases h1
    · cases h1
  · obtain ⟨i,hi,h2⟩:=anyS h2
    simp only [Bool.and_eq_true,Nat.beq_eq] at h2
    refine ⟨i,hi,h2.1,?_⟩
    have h:=h2.2
    unfold nilM at h
    split at h
    · rename_i cs hz
      split at h
      · rename_i hc
        exact ⟨cs,hz,hc⟩
      · cases h
    · cases h
  · obtain ⟨i,hi,h3⟩:=anyS h3
    exact ⟨i,hi,by simpa [Nat.beq_eq] using h3⟩
  · unfold isMp at h4
    split at h4
    · rename_i k v hu
      simp only [Bool.and_eq_true,Nat.beq_eq] at h4
      rw [hu,h4.1,h4.2]
    · cases h4
  · unfold isIn at h5
    split at h5
    · rename_i k hu
      rw [hu,of_decide_eq_true h5]
    · cases h5
  · obtain ⟨i,hi,h6⟩:=anyS h6
    unfold fzB at h6
    split at h6
    · rename_i hz
      exact ⟨i,hi,hz⟩
    · cases h6
section
variable {ds:List Deferred} {N:Nat} {a:Act} {l:List (Nat × Value)} {w w0:World} {P:Program} {ops:Array Oper} {Q:Exit → Act → World → Prop} {rest:List Oper} {o:Oper} {Kont:Act → World → Prop} {d:Nat} {T Tm Tk Tv:TypeId} {kd:IntKind}
theorem c_5 (kd:IntKind) (z:Int):∀ (es:List MapEntry) (xs:List Int) (i:Nat),es.map (fun e=>(e.key,e.val)) = xs.map (fun x=>(Value.int kd x,Value.bool true)) →
    (z ∈ xs ∧ ∃ j,i ≤ j ∧ Instr.findNow (.int kd) (.int kd z) es i = some (some (j,.bool true)) ∧ ∃ e,es[j - i]? = some e ∧ e.key = .int kd z ∧ e.val = .bool true) ∨ (z ∉ xs ∧ Instr.findNow (.int kd) (.int kd z) es i = some .none)
  | [],[],i,_=>.inr ⟨by simp,rfl⟩
  | [],x :: xs,i,h=>by simp at h
  | e :: es,[],i,h=>by simp at h
  | e :: es,x :: xs,i,h=>by
    simp only [List.map_cons,List.cons.injEq,Prod.mk.injEq] at h
    obtain ⟨⟨hk,hv⟩,h⟩:=h
    by_cases hz:z = x
    · subst hz
      refine .inl ⟨by simp,i,Nat.le_refl _,?_,e,by simp,hk,hv⟩
      simp [Instr.findNow,Instr.sameNow,hk,hv]
    · have hs:Instr.sameNow (.int kd) (.int kd z) e.key = some false:=by rw [hk];simp [Instr.sameNow,hz]
      have hf:Instr.findNow (.int kd) (.int kd z) (e :: es) i = Instr.findNow (.int kd) (.int kd z) es (i + 1):=by
        rw [Instr.findNow,hs]
      rcases c_5 kd z es xs (i + 1) h with ⟨h1,j,hj,h2,e',h3,h4,h5⟩ | ⟨h1,h2⟩
      · refine .inl ⟨by simp [h1],j,by omega,hf.trans h2,e',?_,h4,h5⟩
        rw [show j - i = (j - (i + 1)) + 1 by omega]
        simpa using h3
      · exact .inr ⟨by simp [hz,h1],hf.trans h2⟩
theorem b_G (e:Bool) (hk:P.underlying Tk = some (.int kd)) (z:Int):(Instr.checkKey e 10000 Tk (.int kd z)).run P w = .ok () w:=by
  show (Instr.checkKey e (9999 + 1) Tk (.int kd z)).run P w = _
  rw [Instr.checkKey]
  simp [run_underlying hk]
end
end Go.Proofs.Ytfelbalkobcfhaa
