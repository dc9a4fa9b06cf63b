/- The rules of the walk over plain data, more: functions that write to what they are handed. Plain theorems, no condition. -/
import Derived.Test.YtfelbalkobcfhaaXE29
set_option linter.unusedVariables false
set_option linter.unusedSimpArgs false
namespace Go.Proofs.Ytfelbalkobcfhaa
open Go.RowKit
section
variable {w0 w A:World} {I:List Nat} {L L2 LO:List (Option Nat)} {s b:Nat} {F:GW → Prop} {g g':GW}
theorem Gr.kk' {K:Nat → Prop} {n:Nat} (h:Gr w0 I L g g') {c:Nat} (hc:c < g.2.heap.size) (hk:Kx K n (lm I L2 g.1) c):Kx K n (lm I L2 g'.1) c:=⟨hk.1,fun hm=>by
  rcases List.mem_append.1 hm with hm | hm
  · obtain ⟨i,hi,e⟩:=List.mem_map.1 hm
    cases hg:g.1 i with
    | none =>
      cases hg':g'.1 i with
      | none=>rw [hg'] at e;cases e
      | some o =>
        rw [hg'] at e
        have e:o = some c:=e
        have:=h.new i c hg (by rw [hg',e])
        omega
    | some o =>
      rw [h.same i o hg] at e
      exact hk.2 (List.mem_append.2 (.inl (List.mem_map.2 ⟨i,hi,by rw [hg];exact e⟩)))
  · exact hk.2 (List.mem_append.2 (.inr hm))⟩
theorem Gs.kk' {K:Nat → Prop} {n:Nat} (h:Gs w0 I L s b F g g') {c:Nat} (hc:c < g.2.heap.size) (hk:Kx K n (lm I L2 g.1) c):Kx K n (lm I L2 g'.1) c:=⟨hk.1,fun hm=>by
  rcases List.mem_append.1 hm with hm | hm
  · obtain ⟨i,hi,e⟩:=List.mem_map.1 hm
    cases hg:g.1 i with
    | none =>
      cases hg':g'.1 i with
      | none=>rw [hg'] at e;cases e
      | some o =>
        rw [hg'] at e
        have e:o = some c:=e
        have:=h.new i c hg (by rw [hg',e])
        omega
    | some o =>
      rw [h.same i o hg] at e
      exact hk.2 (List.mem_append.2 (.inl (List.mem_map.2 ⟨i,hi,by rw [hg];exact e⟩)))
  · exact hk.2 (List.mem_append.2 (.inr hm))⟩
theorem Rnd.gs' (h:Rnd A LO g.2 (lm I L2 g.1)) (hg:Gs w0 I L s b F g g') (hb:some b ∈ L2):Rnd A LO g'.2 (lm I L2 g'.1) :=
  ⟨hg.os.trans h.os,hg.tape.trans h.tape,hg.output.trans h.output,Nat.le_trans h.size hg.size,
   fun k hl hm=>(hg.block k (Nat.lt_of_lt_of_le hl h.size) fun e=>absurd (h.old k hl (by rw [e];exact c_K hb)) hm).trans (h.keep k hl hm),
   fun k hl hm=>Classical.byContradiction fun hb' =>
    (hg.kk' (K:=fun _=>True) (n:=0) (L2:=L2) (Nat.lt_of_lt_of_le hl h.size) ⟨.inl trivial,fun h2=>hb' (h.old k hl h2)⟩).2 hm⟩
end
theorem Br.free {t:GT} {w:World} {K:Nat → Prop} {n:Nat} {L:List (Option Nat)} {p:Addr} {x:PT t} (h:Br t w (Kx K n L) p x):Br t w (Kx K n []) p x :=
  ⟨h.1.keep (Keeps.refl _ _) (fun c _ hk=>⟨hk.1,fun h=>(List.not_mem_nil h).elim⟩) (fun i _=>rfl),h.2⟩
section
variable {ds:List Deferred} {N:Nat} {a:Act} {l:List (Nat × Value)} {w w0:World} {P:Program} {ops:Array Oper} {Q:Exit → Act → World → Prop} {rest:List Oper} {o:Oper} {Kont:Act → World → Prop} {d:Nat} {K:Nat → Prop} {n:Nat} {L:List (Option Nat)}
end
end Go.Proofs.Ytfelbalkobcfhaa
