/- SchedulesAny in plain words. Plain theorems, no condition. -/
import Derived.Test.YtfelbalkobcfhaaSD9
import Derived.Test.YtfelbalkobcfhaaLB2
import Derived.Test.YtfelbalkobcfhaaPa1
set_option linter.unusedVariables false
set_option linter.unusedSimpArgs false
namespace Go.Proofs.Ytfelbalkobcfhaa
open Go.RowKit
theorem p3_l2_eq (n:Nat) (V:List (Int × Int)) (c:Option Nat) (hV:V.length ≤ 1000):∀ (m k:Nat),V.length - k < m → k ≤ V.length → p3_l2 n V ⟨V,c⟩ m k = some (.inl ()):=by
  intro m
  induction m with
  | zero=>intro k hm;exact absurd hm (by omega)
  | succ m ih =>
    intro k hm hk
    rw [p3_l2,a_9]
    by_cases hlt:k < V.length
    · have e:eqP gf0 V[k] V[k] = true:=(eqP_iff (t:=gf0) rfl _ _).2 rfl
      rw [c_i (show (k:Int) < (V.length:Int) by omega),e_u hlt,Option.bind_some,Option.bind_some,e,if_neg (by decide),ckS (by omega) (by omega),Option.bind_some,b_O]
      exact ih (k + 1) (by omega) (by omega)
    · rw [c_b (show ¬ (k:Int) < (V.length:Int) by omega)]
theorem slI_one {x:Sl Slt} {k:Nat} (h:k < x.xs.length):∃ c,slI x (k:Int) ((k + 1:Nat):Int) = some ⟨[x.xs[k]],c⟩:=by
  unfold slI
  rw [if_pos (show (0:Int) ≤ (k:Int) ∧ (k:Int) ≤ ((k + 1:Nat):Int) ∧ ((k + 1:Nat):Int) ≤ (x.xs.length:Int) by omega)]
  refine ⟨x.cap.map fun j=>j - (k:Int).toNat,?_⟩
  refine congrArg some ?_
  have e:(x.xs.take ((k + 1:Nat):Int).toNat).drop (k:Int).toNat = [x.xs[k]]:=by
    rw [show (k:Int).toNat = k by omega,show ((k + 1:Nat):Int).toNat = k + 1 by omega,c_a h]
    exact List.drop_left' (by rw [List.length_take];omega)
  rw [e]
theorem p3_l1_eq {n:Nat} (hn:1100 ≤ n) (x:Sl Slt) (hx:∀ s ∈ x.xs,0 ≤ s.2.1.1) (hl:x.xs.length ≤ 300):∀ (m k:Nat) (a:List Slt),x.xs.length - k < m → k ≤ x.xs.length → a.length ≤ k →
    p3_l1 n x m k a = some (a ++ b_Q (x.xs.drop k)):=by
  intro m
  induction m with
  | zero=>intro k a hm;exact absurd hm (by omega)
  | succ m ih =>
    intro k a hm hk ha
    rw [p3_l1,b_m]
    by_cases hlt:k < x.xs.length
    · have h0:=hx x.xs[k] (List.getElem_mem hlt)
      obtain ⟨c,hc⟩:=slI_one hlt
      rw [c_i (by omega),ckS (by omega) (by omega),Option.bind_some,b_O,hc,Option.bind_some,p9_eq hn (⟨[x.xs[k]],c⟩:Sl Slt) (fun s hs=>by rw [List.mem_singleton.1 hs];exact h0) (by simp),Option.bind_some,b_p hlt,d_S]
      by_cases hv:VS x.xs[k]
      · rw [if_pos hv,if_pos (by simpa using e_8 hv),e_u hlt,Option.bind_some,a_1 (by simp only [List.length_singleton];omega),Option.bind_some,Option.bind_some,Option.bind_some,ih (k + 1) _ (by omega) (by omega) (by rw [List.length_append,List.length_singleton];omega),List.append_assoc]
        rfl
      · rw [if_neg hv,if_neg (by simpa using e_9 hv),Option.bind_some,Option.bind_some,ih (k + 1) _ (by omega) (by omega) (by omega)]
    · rw [c_b (by omega),List.drop_eq_nil_of_le (by omega)]
      simp [b_Q]
theorem goodS_idem (l:List Slt):b_Q (b_Q l) = b_Q l:=e_B fun s hs=>(f_b hs).2
theorem visL_good (l:List Slt) (T:Int):e_C (b_Q l) T = e_C l T:=by
  unfold e_C tvG
  rw [goodS_idem]
theorem goodS_len (l:List Slt):(b_Q l).length ≤ l.length:=List.length_filter_le _ _
theorem p3_main {x0:Sl Slt} {x1:Int} (F:∀ s ∈ x0.xs,0 ≤ s.2.1.1) (G1:InR .i64 x1):p3 6000 x0 x1 = some true:=by
  unfold p3
  rw [b_m]
  by_cases h12:(x0.xs.length:Int) > 12
  · rw [c_i h12,p8_ok,Option.bind_some]
  · have h1:=p3_l1_eq (n:=6000) (by decide) x0 F (by omega) 6000 0 [] (by omega) (by omega) (by simp)
    have hgl:=goodS_len x0.xs
    rw [show ((0:Nat):Int) = 0 from rfl,List.drop_zero,List.nil_append] at h1
    rw [c_b h12,h1,Option.bind_some]
    have hq:(if decide (x1 ≥ 0) = true then some (decide (x1 ≤ 1048576)) else some false) = some (decide (0 ≤ x1 ∧ x1 ≤ 1048576)):=by
      by_cases h:0 ≤ x1
      · rw [c_i h]
        by_cases h':x1 ≤ 1048576
        · rw [decide_eq_true h',decide_eq_true ⟨h,h'⟩]
        · rw [decide_eq_false h',decide_eq_false fun z=>h' z.2]
      · rw [c_b h,decide_eq_false fun z=>h z.1]
    rw [hq,Option.bind_some]
    by_cases hT:0 ≤ x1 ∧ x1 ≤ 1048576
    · have h2:=p11_eq0 (n:=6000) (by decide) x0 F (by omega) x1 hT
      have h3:=p10_eq (n:=6000) (by decide) (⟨b_Q x0.xs,.none⟩:Sl Slt) (fun s hs=>(f_b hs).2) (by simp only;omega) x1 hT
      simp only [visL_good] at h3
      have hl:=f_c x0.xs x1
      have h4:=p3_l2_eq 6000 (e_C x0.xs x1) (some (e_C x0.xs x1).length) (by omega) 6000 0 (by omega) (by omega)
      rw [show ((0:Nat):Int) = 0 from rfl] at h4
      rw [c_i hT,h3,Option.bind_some,Option.bind_some,h2,Option.bind_some]
      rw [if_neg (by rw [a_9,a_9,bne_self_eq_false];decide),h4,Option.bind_some,lrKl,p8_ok,Option.bind_some]
    · have h4:=p3_l2_eq 6000 [] (some 0) (by simp) 6000 0 (by decide) (by simp)
      rw [show ((0:Nat):Int) = 0 from rfl] at h4
      rw [c_b hT,Option.bind_some,p11_out _ _ _ hT,Option.bind_some]
      rw [if_neg (by rw [a_9,a_9,bne_self_eq_false];decide),h4,Option.bind_some,lrKl,p8_ok,Option.bind_some]
theorem p3_law {x0:Sl Slt} {x1:Int} (F0:Fine gt9 x0) (G1:InR .i64 x1):p3 6000 x0 x1 = some true :=
  p3_main (fun s hs=>(inR_u8.1 (F0.2.2 s hs).2.1.1).1) G1
end Go.Proofs.Ytfelbalkobcfhaa
