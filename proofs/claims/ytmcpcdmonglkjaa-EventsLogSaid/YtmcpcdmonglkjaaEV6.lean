/- Events: acts, behind logs and sameness, in plain words. Plain theorems, no condition. -/
import Derived.Test.YtmcpcdmonglkjaaEV5
import Derived.Test.YtmcpcdmonglkjaaP5
import Derived.Test.YtmcpcdmonglkjaaP6
set_option linter.unusedVariables false
set_option linter.unusedSimpArgs false
namespace Go.Proofs.Ytmcpcdmonglkjaa
open Go.RowKit

abbrev Ac:Type:=Int × Int × Int × Int
abbrev Ev:Type:=Int × Int × (Sl Int) × Int
def AcOk (x:Ac):Prop:=(0 ≤ x.1 ∧ x.1 ≤ 255) ∧ (0 ≤ x.2.1 ∧ x.2.1 ≤ 255) ∧ (0 ≤ x.2.2.1 ∧ x.2.2.1 ≤ 255) ∧ (0 ≤ x.2.2.2 ∧ x.2.2.2 ≤ 255)
def Lo (p:List Int):Prop:=∀ a ∈ p,a ≤ 3
theorem p37_ok (n:Nat) (x:Int) (h:0 ≤ x ∧ x ≤ 255):∃ p:Sl Int,p37 n x = some p ∧ plcd p.xs = true ∧ Lo p.xs:=by
  have q:∀ y:Int,0 < y → y ≤ 255 → quoI .u8 x y = some (x / y):=fun y h1 h2=>quoI_ok h.1 h1 (inR_u8.2 ⟨Int.ediv_nonneg h.1 (by omega),Int.le_trans (Int.ediv_le_self _ h.1) h.2⟩)
  have r:∀ y:Int,0 ≤ y → remI .u8 y 3 = some (y % 3):=fun y h1=>remI_ok h1 (by decide) (inR_u8.2 (by omega))
  have n1:0 ≤ x / 3:=by omega
  have n2:0 ≤ x / 9:=by omega
  have n3:0 ≤ x / 27:=by omega
  have w1:∀ y:Int,IntKind.wrap .u8 (1 + y % 3) = 1 + y % 3:=fun y=>by rw [wrap_u8];omega
  unfold p37
  rw [q 3 (by decide) (by decide),Option.bind_some,r _ n1,Option.bind_some,q 9 (by decide) (by decide),Option.bind_some,r _ n2,Option.bind_some,q 27 (by decide) (by decide),Option.bind_some,r _ n3,Option.bind_some,r _ h.1,Option.bind_some,w1,w1,w1,w1]
  obtain ⟨k,hk1,hk2,hk3⟩:∃ k:Nat,1 ≤ k ∧ k ≤ 3 ∧ 1 + x % 3 = (k:Int):=⟨(1 + x % 3).toNat,by omega,by omega,by omega⟩
  obtain ⟨d,hd⟩:=slI_take (xs:=[1 + x / 3 % 3,1 + x / 9 % 3,1 + x / 27 % 3]) (c:=some 3) (k:=k) hk2
  rw [hk3,hd,Option.bind_some]
  have hm:∀ a ∈ [1 + x / 3 % 3,1 + x / 9 % 3,1 + x / 27 % 3],1 ≤ a ∧ a ≤ 3:=fun a ha=>by
    simp only [List.mem_cons,List.not_mem_nil,or_false] at ha
    rcases ha with rfl | rfl | rfl <;> omega
  refine ⟨_,rfl,plcd_iff.2 ⟨?_,fun a ha=>?_⟩,fun a ha=>?_⟩
  · rw [List.length_take];simp only [List.length_cons,List.length_nil];omega
  · have:=hm a (List.mem_of_mem_take ha);omega
  · have:=hm a (List.mem_of_mem_take ha);omega
theorem p13_ok (n:Nat) (x:Ac) (h:AcOk x) (t:Int):∃ e:Ev,p13 n x t = some e ∧ e.1 = t ∧ EvOk e ∧ Lo e.2.2.1.xs:=by
  obtain ⟨h1,h2,h3,h4⟩:=h
  obtain ⟨p,hp,hpl,hlo⟩:=p37_ok n x.2.1 h2
  have r:remI .u8 x.1 4 = some (x.1 % 4):=remI_ok h1.1 (by decide) (inR_u8.2 (by omega))
  have r9:remI .u8 x.2.2.1 9 = some (x.2.2.1 % 9):=remI_ok h3.1 (by decide) (inR_u8.2 (by omega))
  have w1:IntKind.wrap .u8 (1 + x.1 % 4) = 1 + x.1 % 4:=by rw [wrap_u8];omega
  have w2:IntKind.wrap .u8 (1 + x.2.2.1 % 9) = 1 + x.2.2.1 % 9:=by rw [wrap_u8];omega
  unfold p13
  rw [r,Option.bind_some,hp,Option.bind_some,w1]
  by_cases hc:1 + x.1 % 4 = 2
  · rw [if_pos (by simpa using hc),r9,Option.bind_some,w2,Option.bind_some]
    refine ⟨_,rfl,rfl,⟨by show 1 ≤ 1 + x.1 % 4 ∧ 1 + x.1 % 4 ≤ 4;omega,hpl,?_⟩,hlo⟩
    show adr (1 + x.1 % 4) (1 + x.2.2.1 % 9) = true
    unfold adr
    rw [if_pos hc,decide_eq_true (by omega),decide_eq_true (by omega)]
    rfl
  · rw [if_neg (by simpa using hc),Option.bind_some]
    refine ⟨_,rfl,rfl,⟨by show 1 ≤ 1 + x.1 % 4 ∧ 1 + x.1 % 4 ≤ 4;omega,hpl,?_⟩,hlo⟩
    show adr (1 + x.1 % 4) 0 = true
    unfold adr
    rw [if_neg hc]
    rfl
theorem EvOk.short {e:Ev} (h:EvOk e):e.2.2.1.xs ≠ [] ∧ e.2.2.1.xs.length ≤ 900:=by
  have:=(plcd_iff.1 h.2.1).1
  exact ⟨fun e=>by rw [e] at this;simp at this,by omega⟩
/-! ### Sameness -/
theorem p18_l1_eq {n:Nat} {x y:Sl Nd} (h:x.xs.map nd = y.xs.map nd) (hx:Bd n x.xs):∀ (m k:Nat),x.xs.length < k + m → k ≤ x.xs.length → p18_l1 n x y m k = some (.inl ()):=by
  have hl:x.xs.length = y.xs.length:=by have:=congrArg List.length h;simpa using this
  have hf:=hx.few;have hb:=hx.big
  intro m
  induction m with
  | zero=>intro k h hk;omega
  | succ m IH =>
    intro k hkm hk
    rw [p18_l1]
    by_cases hlt:k < x.xs.length
    · have hy:k < y.xs.length:=by omega
      have e:nd x.xs[k] = nd y.xs[k]:=by
        have:=congrArg (fun l:List N=>l[k]?) h
        simpa [List.getElem?_eq_getElem hlt,List.getElem?_eq_getElem hy] using this
      have e1:x.xs[k].1.xs = y.xs[k].1.xs:=congrArg (fun z:N=>z.1) e
      have e2:x.xs[k].2.1 = y.xs[k].2.1:=congrArg (fun z:N=>z.2.1) e
      have e3:x.xs[k].2.2 = y.xs[k].2.2:=congrArg (fun z:N=>z.2.2) e
      have hs:=hx.short _ (List.getElem_mem hlt)
      have hs2:y.xs[k].1.xs.length ≤ 900:=by rw [← e1];exact hs
      have e17:p17 n x.xs[k].1 y.xs[k].1 = some true:=by
        rw [p17_eq n _ _ (by omega) (by omega) (by omega) (by omega),e1]
        exact congrArg some (decide_eq_true rfl)
      have b2:(x.xs[k].2.1 != y.xs[k].2.1) = false:=by rw [e2];exact bne_self_eq_false _
      have b3:(x.xs[k].2.2 != y.xs[k].2.2) = false:=by rw [e3];exact bne_self_eq_false _
      rw [if_pos (decide_eq_true (show (k:Int) < lenI x by unfold lenI;omega)),ixN hlt,Option.bind_some,ixN hy,Option.bind_some,e17,Option.bind_some]
      rw [if_pos (show (!true) = false from rfl),Option.bind_some,Option.bind_some,Option.bind_some,b2,if_pos rfl,Option.bind_some,Option.bind_some,Option.bind_some,b3,if_neg Bool.false_ne_true]
      rw [ckS (by omega) (by omega),Option.bind_some,succI]
      exact IH (k + 1) (by omega) (by omega)
    · rw [if_neg (by rw [decide_eq_true_eq];unfold lenI;omega)]
theorem p18_eq {n:Nat} {x y:Sl Nd} (h:x.xs.map nd = y.xs.map nd) (hx:Bd n x.xs):p18 n x y = some true:=by
  have hl:x.xs.length = y.xs.length:=by have:=congrArg List.length h;simpa using this
  have hf:=hx.few;have hb:=hx.big
  unfold p18
  have e:p18_l1 n x y n 0 = some (.inl ()):=p18_l1_eq h hx n 0 (by omega) (by omega)
  rw [if_neg (by simp [lenI,hl]),e,Option.bind_some,lrl]
theorem p15_l1_eq {n:Nat} {x:Sl Nd} (hx:Bd n x.xs) (ho:Own x):∀ (m k:Nat),x.xs.length < k + m → k ≤ x.xs.length → p15_l1 n x m k = some (.inl ()):=by
  have hf:=hx.few;have hb:=hx.big
  intro m
  induction m with
  | zero=>intro k h hk;omega
  | succ m IH =>
    intro k hkm hk
    rw [p15_l1]
    by_cases hlt:k < x.xs.length
    · have hc:capO x.xs[k].1 = some (x.xs[k].1.xs.length:Int):=by unfold capO;rw [ho.2 _ (List.getElem_mem hlt)];rfl
      rw [if_pos (decide_eq_true (show (k:Int) < lenI x by unfold lenI;omega)),ixN hlt,Option.bind_some,hc,Option.bind_some,Option.bind_some,if_neg (by simp [lenI]),ckS (by omega) (by omega),Option.bind_some,succI]
      exact IH (k + 1) (by omega) (by omega)
    · rw [if_neg (by rw [decide_eq_true_eq];unfold lenI;omega)]
theorem p15_eq {n:Nat} {x y:Sl Nd} (h:x.xs.map nd = y.xs.map nd) (hx:Bd n x.xs) (ho:Own x):p15 n x y = some true:=by
  have hf:=hx.few;have hb:=hx.big
  have e:p15_l1 n x n 0 = some (.inl ()):=p15_l1_eq hx ho n 0 (by omega) (by omega)
  have hc:capO x = some (x.xs.length:Int):=by unfold capO;rw [ho.1];rfl
  unfold p15
  rw [e,Option.bind_some,lrl,hc,Option.bind_some,if_pos (by simp [lenI]),p18_eq h hx,Option.bind_some,Option.bind_some]
set_option maxRecDepth 1000000 in
theorem livesE:p11 6000 = some true:=by kernel_rfl
end Go.Proofs.Ytmcpcdmonglkjaa
