/- SchedulesFair in plain words. Plain theorems, no condition. -/
import Derived.Test.YtfelbalkobcfhaaSC2
import Derived.Test.YtfelbalkobcfhaaXE16
import Derived.Test.YtfelbalkobcfhaaPf1
set_option linter.unusedVariables false
set_option linter.unusedSimpArgs false
namespace Go.Proofs.Ytfelbalkobcfhaa
open Go.RowKit

/-- The ring behind s looks. -/
def RR (N s:Nat):List Int:=(List.range N).map fun i=>((10 + (s + i) % N:Nat):Int)
theorem RR_len (N s:Nat):(RR N s).length = N:=by unfold RR;simp
theorem RR_get {N s i:Nat} (h:i < N):(RR N s)[i]'(by rw [RR_len];exact h) = ((10 + (s + i) % N:Nat):Int):=by unfold RR;simp
theorem RR_get? (N s i:Nat):(RR N s)[i]? = if i < N then some ((10 + (s + i) % N:Nat):Int) else none:=by
  unfold RR
  rw [List.getElem?_map]
  by_cases h:i < N
  · rw [List.getElem?_range h,if_pos h];rfl
  · rw [if_neg h,List.getElem?_eq_none (by simp;omega)];rfl
theorem RR_rot {N s d:Nat} (hN:0 < N):(RR N s).drop (d % N) ++ (RR N s).take (d % N) = RR N (s + d):=by
  have hd:=Nat.mod_lt d hN
  refine List.ext_getElem? fun i=>?_
  rw [RR_get?,List.getElem?_append,List.length_drop,RR_len]
  by_cases h1:i < N - d % N
  · rw [if_pos h1,List.getElem?_drop,RR_get?,if_pos (by omega),if_pos (by omega)]
    rw [show s + (d % N + i) = (d % N + (s + i)) by omega,Nat.mod_add_mod,show d + (s + i) = s + d + i by omega]
  · rw [if_neg h1,List.getElem?_take,RR_get?]
    by_cases h2:i < N
    · rw [if_pos (by omega),if_pos (by omega),if_pos h2]
      have e:(s + d + i) % N = (s + (i - (N - d % N))) % N:=by
        rw [show s + d + i = d + (s + i) by omega,← Nat.mod_add_mod,show d % N + (s + i) = s + (i - (N - d % N)) + N by omega,Nat.add_mod_right]
      rw [e]
    · rw [if_neg h2]
      by_cases h3:i - (N - d % N) < d % N
      · omega
      · rw [if_neg h3]
theorem RR_mod {N s d:Nat} (hN:0 < N):(s + d % N) % N = (s + d) % N:=by rw [Nat.add_mod_mod]
/-! ### The functions -/
abbrev Rnd':=Sl Int × Int × Int
theorem p34_eq (n:Nat) {N s d:Nat} (hN:0 < N) (hN2:N ≤ 20) (c:Option Nat) (idle:Int):p34 n ((⟨RR N s,c⟩,((d % N:Nat):Int),idle):Rnd') = some ((d % N:Nat):Int):=by
  have hd:=Nat.mod_lt d hN
  unfold p34
  simp only
  rw [lenI_mk,RR_len,if_neg (by omega),remS (by omega) (by omega) (by omega),Option.bind_some,show ((d % N:Nat):Int) % (N:Int) = ((d % N % N:Nat):Int) by simp,Nat.mod_mod]
theorem p16_eq (n:Nat) {N s d:Nat} (hN:0 < N) (hN2:N ≤ 20) (c:Option Nat) (idle:Nat):p16 n ((⟨RR N s,c⟩,((d % N:Nat):Int),(idle:Int)):Rnd') = some (if idle < N then (((10 + (s + d) % N:Nat):Int),true) else (0,false)):=by
  have hd:=Nat.mod_lt d hN
  unfold p16
  simp only
  rw [orS,Option.bind_some,lenI_mk,RR_len,show ((N:Int) == 0) = false by simp;omega,Bool.false_or]
  by_cases h:idle < N
  · rw [decide_eq_false (show ¬ (idle:Int) ≥ (N:Int) by omega),if_neg (by decide),p34_eq n hN hN2,Option.bind_some,idxE (by rw [RR_len];exact hd),Option.bind_some,RR_get hd,if_pos h,RR_mod hN]
  · rw [decide_eq_true (show (idle:Int) ≥ (N:Int) by omega),if_pos rfl,if_neg h]
theorem p17_eq (n:Nat) {N s d:Nat} (hN:0 < N) (hN2:N ≤ 20) (c:Option Nat) (idle:Nat) (h:idle < N) (u:Bool):p17 n ((⟨RR N s,c⟩,((d % N:Nat):Int),(idle:Int)):Rnd') u = some (⟨RR N s,some N⟩,(((d + 1) % N:Nat):Int),((if u = true then 0 else idle + 1:Nat):Int)):=by
  have hd:=Nat.mod_lt d hN
  obtain ⟨c2,e2⟩:=p33_eq n (⟨RR N s,c⟩:Sl Int) (by simp only;rw [RR_len];omega)
  unfold p17
  rw [p16_eq n hN hN2 c idle,if_pos h,Option.bind_some]
  simp only
  rw [if_neg (by decide),e2,Option.bind_some,p30_eq,Option.bind_some,p34_eq n hN hN2,Option.bind_some,ckS (by omega) (by omega),Option.bind_some,lenI_mk,RR_len,remS (by omega) (by omega) (by omega),Option.bind_some]
  have e3:(((d % N:Nat):Int) + 1) % (N:Int) = (((d + 1) % N:Nat):Int):=by
    rw [castS,← Int.natCast_emod,Nat.mod_add_mod]
  rw [e3]
  cases u
  · rw [if_pos (by rfl),ckS (by omega) (by omega),Option.bind_some,Option.bind_some];rfl
  · rw [if_neg (by decide),Option.bind_some];rfl
theorem p18_eq (n:Nat) (hn:10 ≤ n) {N s d:Nat} (hN:0 < N) (hN2:N ≤ 20) (c:Option Nat) (idle:Int):p18 n ((⟨RR N s,c⟩,((d % N:Nat):Int),idle):Rnd') = some ⟨RR N (s + d),some N⟩:=by
  have hd:=Nat.mod_lt d hN
  obtain ⟨c1,e1⟩:=slI_take (x:=(⟨RR N s,c⟩:Sl Int)) (i:=d % N) (by simp only;rw [RR_len];omega)
  obtain ⟨c2,e2⟩:=slI_drop (x:=(⟨RR N s,c⟩:Sl Int)) (i:=d % N) (by simp only;rw [RR_len];omega)
  unfold p18
  rw [p34_eq n hN hN2,Option.bind_some]
  simp only
  rw [if_neg (show ¬ (lenI (⟨RR N s,c⟩:Sl Int) == 0) = true by rw [lenI_mk,RR_len];simp;omega),e2,Option.bind_some,Option.bind_some,e1,Option.bind_some,p31_eq hn _ _ (by simp only [List.length_drop];rw [RR_len];omega) (by simp only [List.length_take];rw [RR_len];omega),Option.bind_some,p30_eq,Option.bind_some]
  simp only
  rw [RR_rot hN,RR_len]
theorem p15_eq (n:Nat) (l:List Int) (c:Option Nat) (hl:l.length ≤ 1000):p15 n ⟨l,c⟩ = some (⟨l,some l.length⟩,0,0):=by
  obtain ⟨c2,e2⟩:=p33_eq n (⟨l,c⟩:Sl Int) hl
  unfold p15
  rw [e2,Option.bind_some,p30_eq,Option.bind_some]
/-! ### The loops -/
theorem shr8 {y s:Int} (h0:0 ≤ y) (h1:y ≤ 255) (hs:0 ≤ s):∃ z,shrI y s .u8 = some z ∧ 0 ≤ z ∧ z ≤ 255:=by
  unfold shrI
  rw [if_pos hs]
  refine ⟨_,rfl,?_,?_⟩
  · rw [Int.fdiv_eq_ediv_of_nonneg _ (Int.le_of_lt (Int.pow_pos (by decide)))]
    exact Int.ediv_nonneg h0 (Int.le_of_lt (Int.pow_pos (by decide)))
  · rw [Int.fdiv_eq_ediv_of_nonneg _ (Int.le_of_lt (Int.pow_pos (by decide)))]
    exact Int.le_trans (Int.ediv_le_self _ h0) h1
def Tk (y:List Int):Prop:=∃ a b,y = [a,b] ∧ (0 ≤ a ∧ a ≤ 255) ∧ (0 ≤ b ∧ b ≤ 255)
theorem p5_l3_eq (n:Nat) (x1:Sl (List Int)) {j:Nat} (hj:j < x1.xs.length) (hT:Tk x1.xs[j]) {N s:Nat} (hN:0 < N) (hN2:N ≤ 20) (hs:s ≤ 100000):∀ (m k d idle:Nat) (c:Option Nat),51 - k < m → k ≤ 50 → d ≤ k → idle ≤ N →
    ∃ d' i' c',d' ≤ 50 ∧ p5_l3 n x1 N j m k idle ((s + d:Nat):Int) (⟨RR N s,c⟩,((d % N:Nat):Int),(idle:Int)) = some (.inl (((s + d':Nat):Int),(⟨RR N s,c'⟩,((d' % N:Nat):Int),i'))):=by
  obtain ⟨a,b,hab,ha,hb⟩:=hT
  intro m
  induction m with
  | zero=>intro k d idle c hm;exact absurd hm (by omega)
  | succ m ih =>
    intro k d idle c hm hk hd hi
    have a1:=Int.emod_nonneg a (show (50:Int) ≠ 0 by decide)
    have a2:=Int.emod_lt_of_pos a (show (0:Int) < 50 by decide)
    rw [p5_l3,idxE hj,Option.bind_some,hab,show idx [a,b] 0 = some a from rfl,Option.bind_some,remI_ok ha.1 (by decide) (inR_u8.2 ⟨a1,by omega⟩),Option.bind_some]
    by_cases hlt:(k:Int) < a % 50
    · rw [ifDT hlt,p16_eq n hN hN2,Option.bind_some]
      by_cases hid:idle < N
      · rw [if_pos hid]
        simp only
        have hsd:((s + d:Nat):Int) % (N:Int) = (((s + d) % N:Nat):Int):=by rw [Int.natCast_emod]
        rw [decide_eq_true (show (idle:Int) < (N:Int) by omega),if_neg (by decide),if_neg (by decide),remS (by omega) (by omega) (by omega),Option.bind_some,hsd]
        have hmod:=Nat.mod_lt (s + d) hN
        rw [ckS (by omega) (by omega),Option.bind_some,if_neg (by simp)]
        obtain ⟨z,hz,z0,z1⟩:=shr8 (y:=b) (s:=(k:Int) % 8) hb.1 hb.2 (by omega)
        have b1:=Int.emod_nonneg z (show (2:Int) ≠ 0 by decide)
        have b2:=Int.emod_lt_of_pos z (show (0:Int) < 2 by decide)
        rw [Option.bind_some,show idx [a,b] 1 = some b from rfl,Option.bind_some,remS (by omega) (by decide) (by omega),Option.bind_some,hz,Option.bind_some,remI_ok z0 (by decide) (inR_u8.2 ⟨b1,by omega⟩),Option.bind_some,p17_eq n hN hN2 c idle hid,Option.bind_some,ckS (by omega) (by omega),Option.bind_some,ckS (by omega) (by omega),Option.bind_some]
        have e:(if (z % 2 == 1) = true then some (0:Int) else some ((idle:Int) + 1)) = some ((if (z % 2 == 1) = true then 0 else idle + 1:Nat):Int):=by split <;> rfl
        rw [e,Option.bind_some,ckS (by omega) (by omega),Option.bind_some,castS,castS]
        exact ih (k + 1) (d + 1) _ (some N) (by omega) (by omega) (by omega) (by split <;> omega)
      · rw [if_neg hid]
        simp only
        rw [decide_eq_false (show ¬ (idle:Int) < (N:Int) by omega),if_neg (by decide),if_pos (by rfl)]
        exact ⟨d,_,c,by omega,rfl⟩
    · rw [ifDF hlt]
      exact ⟨d,_,c,by omega,rfl⟩
theorem p5_l2_eq {n:Nat} (hn:100 ≤ n) (x1:Sl (List Int)) (hx:∀ y ∈ x1.xs,Tk y) (hl:x1.xs.length ≤ 40) {N:Nat} (hN:0 < N) (hN2:N ≤ 20):∀ (m k s:Nat) (c:Option Nat),x1.xs.length - k < m → k ≤ x1.xs.length → s ≤ 50 * k →
    ∃ r,p5_l2 n x1 N m k (s:Int) ⟨RR N s,c⟩ = some (.inl r):=by
  intro m
  induction m with
  | zero=>intro k s c hm;exact absurd hm (by omega)
  | succ m ih =>
    intro k s c hm hk hs
    rw [p5_l2,len_def]
    by_cases hlt:k < x1.xs.length
    · obtain ⟨d,i,c',hd,h3⟩:=p5_l3_eq n x1 hlt (hx _ (List.getElem_mem hlt)) hN hN2 (s:=s) (by omega) n 0 0 0 (some N) (by omega) (by omega) (by omega) (by omega)
      rw [Nat.zero_mod,Nat.add_zero,show ((0:Nat):Int) = 0 from rfl] at h3
      have hmod:=Nat.mod_lt (s + d) hN
      rw [ifDT (by omega),p15_eq n _ _ (by rw [RR_len];omega),Option.bind_some,RR_len,h3,Option.bind_some,lrKl]
      simp only
      rw [p18_eq n (by omega) hN hN2,Option.bind_some,lenI_mk,RR_len,if_pos (by simp),show (0:Int) = ((0:Nat):Int) from rfl,idxE (by rw [RR_len];exact hN),Option.bind_some,RR_get hN,remS (by omega) (by omega) (by omega),Option.bind_some,show ((s + d:Nat):Int) % (N:Int) = (((s + d) % N:Nat):Int) by rw [Int.natCast_emod],ckS (by omega) (by omega),Option.bind_some,Option.bind_some,Nat.add_zero]
      rw [show (((10 + (s + d) % N:Nat):Int) != 10 + (((s + d) % N:Nat):Int)) = false by simp,if_pos rfl,show capO (⟨RR N (s + d),some N⟩:Sl Int) = some (N:Int) from rfl,Option.bind_some,Option.bind_some,show ((N:Int) != (N:Int)) = false by simp,if_neg (by decide),ckS (by omega) (by omega),Option.bind_some,castS]
      exact ih (k + 1) (s + d) (some N) (by omega) (by omega) (by omega)
    · rw [ifDF (by omega)]
      exact ⟨_,rfl⟩
theorem p5_l1_eq (n N:Nat) (hN2:N ≤ 20):∀ (m k:Nat),N - k < m → k ≤ N → p5_l1 n N m k ((List.range k).map fun i:Nat=>((10 + i:Nat):Int)) = some ((List.range N).map fun i:Nat=>((10 + i:Nat):Int)):=by
  intro m
  induction m with
  | zero=>intro k hm;exact absurd hm (by omega)
  | succ m ih =>
    intro k hm hk
    rw [p5_l1]
    by_cases hlt:k < N
    · rw [ifDT (by omega),ckS (by omega) (by omega),Option.bind_some,appI_ok (by simp;omega),Option.bind_some,ckS (by omega) (by omega),Option.bind_some,castS,← ih (k + 1) (by omega) (by omega),List.range_succ,List.map_append]
      rfl
    · have:k = N:=by omega
      subst this
      rw [ifDF (by omega)]
theorem RR_0 (N:Nat):RR N 0 = (List.range N).map fun i:Nat=>((10 + i:Nat):Int):=by
  unfold RR
  refine List.map_congr_left fun i hi=>?_
  rw [Nat.zero_add,Nat.mod_eq_of_lt (List.mem_range.1 hi)]
theorem tk_of {y:List Int} (F:Fine (.arr 2 (.int .u8)) y):Tk y:=by
  obtain ⟨h1,h2⟩:=F
  match y,h1,h2 with
  | [a,b],_,h2=>exact ⟨a,b,rfl,inR_u8.1 (h2 a (by simp)),inR_u8.1 (h2 b (by simp))⟩
theorem p5_law {x0:Int} {x1:Sl (List Int)} (G0:InR .u8 x0) (F1:Fine (.sl (.arr 2 (.int .u8))) x1):p5 6000 x0 x1 = some true:=by
  have g:=inR_u8.1 G0
  unfold p5
  rw [len_def]
  by_cases h40:(x1.xs.length:Int) > 40
  · rw [ifDT h40,p8_ok,Option.bind_some]
  · have a1:=Int.emod_nonneg x0 (show (20:Int) ≠ 0 by decide)
    have a2:=Int.emod_lt_of_pos x0 (show (0:Int) < 20 by decide)
    rw [ifDF h40,remI_ok g.1 (by decide) (inR_u8.2 ⟨a1,by omega⟩),Option.bind_some,ckS (by omega) (by omega),Option.bind_some]
    obtain ⟨N,hN⟩:=Int.eq_ofNat_of_zero_le (show 0 ≤ 1 + x0 % 20 by omega)
    rw [hN]
    have h1:=p5_l1_eq 6000 N (by omega) 6000 0 (by omega) (by omega)
    rw [show ((0:Nat):Int) = 0 from rfl,List.range_zero,List.map_nil] at h1
    obtain ⟨r,h2⟩:=p5_l2_eq (n:=6000) (by decide) x1 (fun y hy=>tk_of (F1.2.2 y hy)) (by omega) (N:=N) (by omega) (by omega) 6000 0 0 .none (by omega) (by omega) (by omega)
    rw [show ((0:Nat):Int) = 0 from rfl,RR_0] at h2
    rw [h1,Option.bind_some,h2,Option.bind_some,lrKl,p8_ok,Option.bind_some]
end Go.Proofs.Ytfelbalkobcfhaa
