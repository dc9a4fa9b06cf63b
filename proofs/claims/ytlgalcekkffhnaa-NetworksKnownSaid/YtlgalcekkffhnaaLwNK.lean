/- NetworksKnown in plain words. -/
import Derived.Test.YtlgalcekkffhnaaPN4
import Derived.Test.YtlgalcekkffhnaaLwMz
import Derived.Test.YtlgalcekkffhnaaLwD
import Derived.Test.YtlgalcekkffhnaaLwNPz
import Derived.Test.YtlgalcekkffhnaaPz1
set_option linter.unusedVariables false
set_option linter.unusedSimpArgs false
namespace Go.Proofs.Ytlgalcekkffhnaa
open Go.RowKit
def okK (s:Sl Int):Prop:=s.xs.length ≤ 300 ∧ s.cap = some s.xs.length ∧ ∀ y ∈ s.xs,InR .u8 y
theorem inR_w8 (x:Int):InR .u8 (IntKind.wrap .u8 x):=a_Q _ _
theorem p7_l3_eq (n:Nat) (c:Int) (q:Nat × Nat) (hc:0 ≤ c ∧ c ≤ 100003) (L:Nat) (hL:L ≤ 300):∀ (m k:Nat) (l:List Int),l.length = L → L < k + m → k ≤ L → (∀ y ∈ l,InR .u8 y) →
    ∃ r,p7_l3 n c q m k l = some r ∧ r.length = L ∧ ∀ y ∈ r,InR .u8 y
  | 0,k,l,h,h2,hk,_=>by omega
  | m + 1,k,l,h,h2,hk,hb=>by
    unfold p7_l3
    by_cases hlt:k < L
    · have hm:(k:Int) * c ≤ 300 * 100003:=Int.mul_le_mul (by omega) hc.2 hc.1 (by decide)
      have hm0:0 ≤ (k:Int) * c:=Int.mul_nonneg (by omega) hc.1
      rw [if_pos (by simp [a_d,h];omega),a_o (by omega),Option.bind_some,a_I,List.getElem?_eq_getElem (by omega),Option.bind_some,a_o (by omega),Option.bind_some,show ((k:Int) + 1) = ((k + 1:Nat):Int) by simp]
      refine p7_l3_eq n c q hc L hL m (k + 1) _ (by simpa using h) (by omega) (by omega) fun y hy=>?_
      rcases List.mem_or_eq_of_mem_set hy with hy | rfl
      · exact hb y hy
      · exact inR_w8 _
    · rw [if_neg (by simp [a_d,h];omega)]
      exact ⟨l,rfl,h,hb⟩
theorem p7_l2_eq (n:Nat) (hn:1000 < n) (N:Nat) (hN:N ≤ 30):∀ (m i:Nat) (l:List (Sl Int)) (k:Int),N < i + m → i ≤ N → l.length = i → (∀ s ∈ l,okK s) → 0 ≤ k ∧ k < 100003 →
    ∃ (r:List (Sl Int)) (k':Int),p7_l2 n N m i l k = some (k',r) ∧ r.length = N ∧ (∀ s ∈ r,okK s) ∧ 0 ≤ k' ∧ k' < 100003
  | 0,i,l,k,h,hi,_,_,_=>by omega
  | m + 1,i,l,k,h,hi,hl,hs,hk=>by
    unfold p7_l2
    by_cases hlt:i < N
    · have hmod:k % ((N:Int) * 9 + 2) < (N:Int) * 9 + 2:=Int.emod_lt_of_pos _ (by omega)
      have hmod0:0 ≤ k % ((N:Int) * 9 + 2):=Int.emod_nonneg _ (by omega)
      obtain ⟨L,hLe⟩:∃ L:Nat,k % ((N:Int) * 9 + 2) = (L:Int):=⟨_,(Int.toNat_of_nonneg hmod0).symm⟩
      rw [hLe] at hmod
      obtain ⟨f,e3,hfl,hfb⟩:=(show ∃ r,p7_l3 n k (L,L) n 0 (List.replicate L 0) = some r ∧ r.length = L ∧ ∀ y ∈ r,InR .u8 y from
        p7_l3_eq n k (L,L) ⟨hk.1,by omega⟩ L (by omega) n 0 (List.replicate L 0) (by simp) (by omega) (by omega) (fun y hy=>by rw [List.eq_of_mem_replicate hy];decide))
      rw [if_pos (by simpa using hlt),a_o (by omega),Option.bind_some,a_o (by omega),Option.bind_some,a_S hk.1 (by omega) (by rw [hLe];exact inR_i64.2 (by omega)),Option.bind_some,hLe,d_P (by omega) (by omega) (by omega),Option.bind_some]
      simp only [Int.toNat_natCast]
      rw [e3,Option.bind_some,b_i (by simp;omega),Option.bind_some,a_o (by omega),Option.bind_some,a_o (by omega),Option.bind_some,a_o (by omega),Option.bind_some,a_o (by omega),Option.bind_some,
        a_S (by omega) (by decide) (inR_i64.2 (by omega)),Option.bind_some,a_o (by omega),Option.bind_some,show ((i:Int) + 1) = ((i + 1:Nat):Int) by simp]
      refine p7_l2_eq n hn N hN m (i + 1) _ _ (by omega) (by omega) (by simp [hl]) (fun s hs'=>?_) (by omega)
      rcases List.mem_append.1 hs' with h | h
      · exact hs s h
      · rw [List.mem_singleton.1 h]
        exact ⟨by simp only [hfl];omega,by simp only [hfl],hfb⟩
    · rw [if_neg (by simpa using hlt)]
      exact ⟨l,k,rfl,by omega,hs,hk⟩
theorem okK.fine {l:List (Sl Int)} (h:∀ s ∈ l,okK s) (hl:l.length ≤ 30):d_1 (.sl (.sl (.int .u8))) (⟨l,.none⟩:Sl (Sl Int)):=by
  refine ⟨by simp only;omega,(fun k hk=>by cases hk),fun s hs=>?_⟩
  obtain ⟨h1,h2,h3⟩:=h s hs
  refine ⟨by omega,fun k hk=>?_,h3⟩
  rw [h2] at hk
  obtain rfl:=Option.some.inj hk
  omega
theorem p7_l1_eq (n:Nat) (hn:n = 20000):∀ (m i:Nat) (k:Int),30 < i + m → i ≤ 30 → 0 ≤ k ∧ k < 100003 → p7_l1 n m i k = some (.inl ())
  | 0,i,k,h,hi,_=>by omega
  | m + 1,i,k,h,hi,hk=>by
    unfold p7_l1
    by_cases hlt:i < 30
    · obtain ⟨r,k',e2,hrl,hrs,hk'⟩:=(show ∃ (r:List (Sl Int)) (k':Int),p7_l2 n i n 0 [] k = some (k',r) ∧ _ from p7_l2_eq n (by omega) i (by omega) n 0 [] k (by omega) (by omega) rfl (fun s hs=>by simp at hs) hk)
      have hF:=okK.fine hrs (by omega)
      have hw:(0:Int) ≤ IntKind.wrap .u16 k' ∧ IntKind.wrap .u16 k' ≤ 65535:=by rw [c_y];omega
      have hwi:(0:Int) ≤ IntKind.wrap .u8 (i:Int) ∧ IntKind.wrap .u8 (i:Int) ≤ 255:=by rw [d_F];omega
      have hwu:InR .u16 (IntKind.wrap .u16 (i:Int)):=a_Q _ _
      have hwk:InR .u16 (IntKind.wrap .u16 k'):=a_Q _ _
      have e3:=p3_ok n (IntKind.wrap .u16 k',(⟨r,.none⟩:Sl (Sl Int))) (IntKind.wrap .u8 (i:Int)) hw hwi (by omega)
      have e6:p6 n (40 + k' % 3000) (⟨r,.none⟩:Sl (Sl Int)) (⟨[IntKind.wrap .u8 k',IntKind.wrap .u8 (i:Int),2],some 3⟩:Sl Int) = some true:=by
        rw [hn]
        refine p6_law (inR_i64.2 (by omega)) hF ⟨by simp,(fun k hk=>by obtain rfl:=Option.some.inj hk;simp),fun y hy=>?_⟩
        simp only [List.mem_cons,List.not_mem_nil,or_false] at hy
        rcases hy with rfl | rfl | rfl
        · exact inR_w8 _
        · exact inR_w8 _
        · show InR .u8 2;decide
      have e4:p4 n (⟨[],some 0⟩:Sl Int) (⟨r,.none⟩:Sl (Sl Int)) (⟨[([IntKind.wrap .u16 k',IntKind.wrap .u16 (i:Int)]:List Int)],some 1⟩:Sl (List Int)) = some true:=by
        rw [hn]
        refine p4_law ⟨by simp,(fun k hk=>by obtain rfl:=Option.some.inj hk;simp),fun y hy=>by simp at hy⟩ hF ⟨by simp,(fun k hk=>by obtain rfl:=Option.some.inj hk;simp),fun y hy=>?_⟩
        rw [List.mem_singleton.1 hy]
        refine ⟨rfl,fun z hz=>?_⟩
        simp only [List.mem_cons,List.not_mem_nil,or_false] at hz
        rcases hz with rfl | rfl
        · exact hwk
        · exact hwu
      rw [if_pos (by simp only [decide_eq_true_eq];omega),e2,Option.bind_some]
      simp only
      rw [e3,Option.bind_some,if_pos (show (!true) = false from rfl),a_S hk'.1 (by decide) (inR_i64.2 (by omega)),Option.bind_some,a_o (by omega),Option.bind_some,e6,Option.bind_some,Option.bind_some,if_pos (show (!true) = false from rfl)]
      have e5:(if (decide ((i:Int) < 20)) = true then (p4 n (⟨[],some 0⟩:Sl Int) (⟨r,.none⟩:Sl (Sl Int)) (⟨[([IntKind.wrap .u16 k',IntKind.wrap .u16 (i:Int)]:List Int)],some 1⟩:Sl (List Int))).bind fun t_118=>some (!t_118) else some false) = some false:=by
        rw [e4]
        split <;> rfl
      rw [e5,Option.bind_some,Option.bind_some,if_neg (by simp),a_o (by omega),Option.bind_some,show ((i:Int) + 1) = ((i + 1:Nat):Int) by simp]
      exact p7_l1_eq n hn m (i + 1) k' (by omega) (by omega) hk'
    · rw [if_neg (by simp only [decide_eq_true_eq];omega)]
theorem p7_law:p7 20000 = some true:=by
  unfold p7
  have e:p7_l1 20000 20000 0 1 = some (.inl ()):=p7_l1_eq 20000 rfl 20000 0 1 (by omega) (by omega) (by omega)
  rw [e,Option.bind_some,lrKK,p5_law (by decide),Option.bind_some,if_pos rfl,p5_law (by decide),Option.bind_some,Option.bind_some,if_pos rfl,p5_law (by decide),Option.bind_some,Option.bind_some,if_pos rfl,livesK 20000 (by omega)]
  rfl
end Go.Proofs.Ytlgalcekkffhnaa
