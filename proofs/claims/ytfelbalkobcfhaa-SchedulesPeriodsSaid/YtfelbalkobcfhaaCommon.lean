/- Words on memory that every proof of this seat uses: a slice that reads as a list of cells; append from any source; bytes to a string. Plain theorems, no condition. -/
import Derived.Test.YtfelbalkobcfhaaRows
import Derived.WalkKit
import Derived.WalkSpells
import Derived.WalkLawsBesides
import Derived.BigGuardPart
import Derived.Maps.AppendAt
import Derived.Deep.DeepCutAuto
import Derived.Deep.LoopGhost
import Derived.Lib.Hide
import Derived.Deep.QuietTactic
import Derived.BigQuiet
namespace Go.Proofs.Ytfelbalkobcfhaa
open Go.RowKit
def Rd (w:World) (B:Nat) (A:Option Addr) (xs:List Value):Prop :=
  xs = [] ∨ ∃ b off,A = some ⟨b,off,none⟩ ∧ b < B ∧ ∀ j v,xs[j]? = some v → w.cell? ⟨b,off + j,none⟩ = some v
section
variable {w w':World} {B B':Nat} {A:Option Addr} {xs:List Value}
theorem Rd.nil:Rd w B A []:=.inl rfl
theorem Rd.at_ {k:Nat} (h:Rd w B A xs) (hk:k < xs.length):∃ b off,A = some ⟨b,off,none⟩ ∧ b < B ∧ w.cell? ⟨b,off + k,none⟩ = some xs[k]:=by
  rcases h with rfl | ⟨b,off,rfl,hb,hc⟩
  · simp at hk
  · exact ⟨b,off,rfl,hb,hc k _ (List.getElem?_eq_getElem hk)⟩
theorem Rd.keep (h:Rd w B A xs) (hk:∀ p:Addr,p.block < B → w'.cell? p = w.cell? p):Rd w' B A xs:=by
  rcases h with rfl | ⟨b,off,rfl,hb,hc⟩
  · exact .inl rfl
  · exact .inr ⟨b,off,rfl,hb,fun j v hj=>(hk _ hb).trans (hc j v hj)⟩
theorem Rd.more (h:Rd w B A xs) (hB:B ≤ B'):Rd w B' A xs:=by
  rcases h with rfl | ⟨b,off,rfl,hb,hc⟩
  · exact .inl rfl
  · exact .inr ⟨b,off,rfl,by omega,hc⟩
theorem Rd.below (h:Rd w B A xs) (hb:Below B w w'):Rd w' B A xs:=h.keep fun _ hp=>hb.cell hp
theorem Rd.alloc (h:Rd w B A xs) (hB:B ≤ w.heap.size) (o:Obj):Rd (w.alloc o) B A xs:=h.below ((Below.refl _ _).alloc hB o)
theorem Rd.setCell (h:Rd w B A xs) {p:Addr} (hB:B ≤ p.block) (u:Value):Rd (w.setCell p u) B A xs:=h.below ((Below.refl _ _).setCell hB u)
theorem Rd.grown (h:Rd w B A xs) {row:Option Nat} (hg:w.grownBy w' row) (hB:B ≤ w.heap.size) (hr:∀ g,row = some g → B ≤ g):Rd w' B A xs :=
  h.below ((Below.refl _ _).grown hg hB hr)
theorem Rd.own {base:Nat} {e:TypeId} {n c:Nat} (h:w.ownsRow base e 1 (.slice A n c) n xs):Rd w w.heap.size A xs:=by
  rcases h.2 with ⟨hv,rfl⟩ | ⟨g,cap,cur,hv,_,hg,_,_,_,ht⟩
  · exact .inl (List.eq_nil_of_length_eq_zero (by simpa using h.1))
  · simp only [Value.slice.injEq] at hv
    obtain ⟨rfl,_,rfl⟩:=hv
    refine .inr ⟨g,0,rfl,(Array.getElem?_eq_some_iff.1 hg).1,fun j v hj=>?_⟩
    have:=h.cells (g:=g) rfl j v hj
    simpa [Addr.add_lit] using this
theorem Rd.take (h:Rd w B A xs) (m:Nat):Rd w B A (xs.take m):=by
  rcases h with rfl | ⟨b,off,rfl,hb,hc⟩
  · exact .inl (by simp)
  · exact .inr ⟨b,off,rfl,hb,fun j v hj=>hc j v (by
      rw [List.getElem?_take] at hj
      split at hj
      · exact hj
      · cases hj)⟩
theorem Rd.drop (h:Rd w B A xs) {k c:Nat} (hc:xs.length ≤ c):Rd w B (if c = k then A else A.map (·.add k)) (xs.drop k):=by
  by_cases e:c = k
  · exact .inl (List.drop_eq_nil_of_le (by omega))
  rw [if_neg e]
  rcases h with rfl | ⟨b,off,rfl,hb,hcell⟩
  · exact .inl (by simp)
  · refine .inr ⟨b,off + k,by simp [Addr.add_lit],hb,fun j v hj=>?_⟩
    rw [List.getElem?_drop] at hj
    rw [Nat.add_assoc]
    exact hcell _ _ hj
end
def u8s (l:List Int):List Value:=l.map (Value.int .u8)
def Byt (l:List Int):Prop:=∀ z ∈ l,0 ≤ z ∧ z ≤ 255
@[simp] theorem u8s_length (l:List Int):(u8s l).length = l.length:=by simp [u8s]
theorem Byt.nil:Byt []:=fun _ h=>by cases h
theorem Byt.cons {z:Int} {l:List Int} (h:0 ≤ z ∧ z ≤ 255) (hl:Byt l):Byt (z :: l):=fun y hy=>by
  rcases List.mem_cons.1 hy with rfl | h'
  · exact h
  · exact hl y h'
theorem Byt.append {a b:List Int} (ha:Byt a) (hb:Byt b):Byt (a ++ b):=fun y hy=>by
  rcases List.mem_append.1 hy with h | h
  · exact ha y h
  · exact hb y h
theorem Byt.take {a:List Int} (ha:Byt a) (n:Nat):Byt (a.take n):=fun y hy=>ha y (List.mem_of_mem_take hy)
theorem Byt.drop {a:List Int} (ha:Byt a) (n:Nat):Byt (a.drop n):=fun y hy=>ha y (List.mem_of_mem_drop hy)
theorem Byt.get {a:List Int} (ha:Byt a) (k:Nat):0 ≤ a.getD k 0 ∧ a.getD k 0 ≤ 255:=by
  by_cases h:k < a.length
  · rw [List.getD_eq_getElem?_getD,List.getElem?_eq_getElem h];exact ha _ (List.getElem_mem h)
  · rw [List.getD_eq_getElem?_getD,List.getElem?_eq_none (by omega)];exact ⟨Int.le_refl _,by decide⟩
theorem str_inj {a b:List Int} (ha:Byt a) (hb:Byt b):strOfNums a = strOfNums b ↔ a = b:=by
  refine ⟨fun h=>?_,fun h=>by rw [h]⟩
  have h1:a.map (fun n=>UInt8.ofNat n.toNat) = b.map (fun n=>UInt8.ofNat n.toNat):=by
    have:=congrArg (fun s=>s.data.toList) h
    simpa [strOfNums] using this
  clear h
  induction a generalizing b with
  | nil =>
    cases b with
    | nil=>rfl
    | cons y b=>simp at h1
  | cons x a ih =>
    cases b with
    | nil=>simp at h1
    | cons y b =>
      simp only [List.map_cons,List.cons.injEq] at h1
      have hx:=ha x (by simp)
      have hy:=hb y (by simp)
      have e:x = y:=by
        have:=congrArg UInt8.toNat h1.1
        simp only [UInt8.toNat_ofNat'] at this
        omega
      rw [e,ih (fun z hz=>ha z (List.mem_cons_of_mem _ hz)) (fun z hz=>hb z (List.mem_cons_of_mem _ hz)) h1.2]
theorem str_beq {a b:List Int} (ha:Byt a) (hb:Byt b):((strOfNums a).toList == (strOfNums b).toList) = decide (a = b):=by
  rw [Bool.eq_iff_iff,beq_iff_eq,decide_eq_true_eq,← str_inj ha hb]
  refine ⟨fun h=>?_,fun h=>by rw [h]⟩
  rw [ByteArray.toList_eq,ByteArray.toList_eq] at h
  exact ByteArray.ext (Array.toList_inj.1 h)
section
variable {P:Program} (w:World)
end
end Go.Proofs.Ytfelbalkobcfhaa
