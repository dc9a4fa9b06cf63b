/- SchedulesRing in plain words. Plain theorems, no condition. -/
import Derived.Test.YtfelbalkobcfhaaSC2
import Derived.Test.YtfelbalkobcfhaaXE16
import Derived.Test.YtfelbalkobcfhaaPr1
set_option linter.unusedVariables false
set_option linter.unusedSimpArgs false
namespace Go.Proofs.Ytfelbalkobcfhaa
open Go.RowKit

theorem p4_l1_eq (n:Nat) (x1:Int) (hx1:0 ≤ x1 ∧ x1 ≤ 65535):∀ (m c:Nat) (l:List Int),258 - c < m → c ≤ 258 → l.length ≤ 256 → ∃ l',p4_l1 n x1 m c l = some l' ∧ l'.length ≤ 256:=by
  intro m
  induction m with
  | zero=>intro c l hm;exact absurd hm (by omega)
  | succ m ih =>
    intro c l hm hc hl
    have a1:=Int.emod_nonneg x1 (show (258:Int) ≠ 0 by decide)
    have a2:=Int.emod_lt_of_pos x1 (show (0:Int) < 258 by decide)
    rw [p4_l1,remI_ok hx1.1 (by decide) (inR_u16.2 ⟨a1,by omega⟩),Option.bind_some]
    by_cases hlt:(c:Int) < x1 % 258
    · rw [ifDT hlt,lenI_mk]
      by_cases h2:(l.length:Int) < 256
      · rw [ifDT h2,ckS (by omega) (by omega),Option.bind_some,appI_ok (by simp only [List.length_singleton];omega),Option.bind_some,Option.bind_some,ckS (by omega) (by omega),Option.bind_some,castS]
        exact ih (c + 1) _ (by omega) (by omega) (by simp;omega)
      · rw [ifDF h2,Option.bind_some,ckS (by omega) (by omega),Option.bind_some,castS]
        exact ih (c + 1) _ (by omega) (by omega) hl
    · rw [ifDF hlt];exact ⟨l,rfl,hl⟩
theorem p4_l3_eq (n:Nat) (W:List Int) (v:Int) (hl:W.length ≤ 300):∀ (k:Nat) (m:Nat) (a:Int),k < m → k ≤ W.length → p4_l3 n W v m ((k:Int) - 1) a = some (at_ (fnd (W.take k) v) a):=by
  intro k
  induction k with
  | zero =>
    intro m a hm _
    obtain ⟨m',rfl⟩:∃ m',m = m' + 1:=⟨m - 1,by omega⟩
    rw [p4_l3,ifDF (by decide)]
    rfl
  | succ k ih =>
    intro m a hm hk
    obtain ⟨m',rfl⟩:∃ m',m = m' + 1:=⟨m - 1,by omega⟩
    have hlt:k < W.length:=by omega
    rw [p4_l3,show (((k + 1:Nat):Int) - 1) = (k:Int) by omega,ifDT (by omega),idxE hlt,Option.bind_some,take_succ_eq hlt,fnd_snoc]
    have hs:∀ b:Int,((some b).bind fun j_116=>(ckI .i64 ((k:Int) - 1)).bind fun x_119=>p4_l3 n W v m' x_119 j_116) = some (at_ (fnd (W.take k) v) b):=by
      intro b
      rw [Option.bind_some,ckS (by omega) (by omega),Option.bind_some,ih m' b (by omega) (by omega)]
    by_cases he:(W[k] == v) = true
    · rw [if_pos he,hs]
      cases fnd (W.take k) v with
      | some i=>rfl
      | none=>simp only;rw [if_pos he,List.length_take,Nat.min_eq_left (by omega)];rfl
    · rw [if_neg he,hs]
      cases fnd (W.take k) v with
      | some i=>rfl
      | none=>simp only;rw [if_neg he]
theorem inR_i16' {x:Int}:InR .i16 x ↔ -32768 ≤ x ∧ x ≤ 32767:=by simp [InR,IntKind.min,IntKind.max,IntKind.signed,IntKind.bits]
theorem rem128 {y:Int} (h0:-32768 ≤ y) (h1:y ≤ 32767):∃ v,remI .i64 y 128 = some v ∧ -128 < v ∧ v < 128:=by
  have a:=Int.tmod_lt_of_pos y (show (0:Int) < 128 by decide)
  have b:-128 < y.tmod 128:=by
    rcases Int.le_total 0 y with h | h
    · have:=Int.tmod_nonneg 128 h;omega
    · have e:y.tmod 128 = -((-y).tmod 128):=by rw [Int.neg_tmod,Int.neg_neg]
      have:=Int.tmod_lt_of_pos (-y) (show (0:Int) < 128 by decide)
      omega
  refine ⟨y.tmod 128,?_,b,a⟩
  unfold remI
  rw [if_neg (by decide),ckS (by omega) (by omega)]
theorem p4_l2_eq {n:Nat} (hn:1100 ≤ n) (x0:Sl Int) (hx:∀ y ∈ x0.xs,-32768 ≤ y ∧ y ≤ 32767) (hxl:x0.xs.length ≤ 60):∀ (m k:Nat) (W:List Int) (c:Option Nat),x0.xs.length - k < m → k ≤ x0.xs.length → W.length ≤ 256 →
    ∃ W' c',p4_l2 n x0 m k W ⟨W,c⟩ = some (.inl (W',⟨W',c'⟩)):=by
  intro m
  induction m with
  | zero=>intro k W c hm;exact absurd hm (by omega)
  | succ m ih =>
    intro k W c hm hk hW
    rw [p4_l2,len_def]
    by_cases hlt:k < x0.xs.length
    · obtain ⟨y0,y1⟩:=hx x0.xs[k] (List.getElem_mem hlt)
      obtain ⟨v,hv,v0,v1⟩:=rem128 y0 y1
      have h3:=p4_l3_eq n W v (by omega) W.length n (-1) (by omega) (Nat.le_refl _)
      rw [List.take_length] at h3
      have fin:∀ (W':List Int) (c':Option Nat),W'.length ≤ 256 → ∃ W'' c'',((ckI .i64 ((k:Int) + 1)).bind fun x_291=>p4_l2 n x0 m x_291 W' ⟨W',c'⟩) = some (.inl (W'',⟨W'',c''⟩)):=by
        intro W' c' h'
        rw [ckS (by omega) (by omega),Option.bind_some,castS]
        exact ih (k + 1) W' c' (by omega) (by omega) h'
      rw [ifDT (by omega),idxE hlt,Option.bind_some,hv,Option.bind_some,lenI_mk,ckS (by omega) (by omega),Option.bind_some,h3,Option.bind_some,Option.bind_some]
      by_cases h128:x0.xs[k] ≥ 128
      · rw [ifDT h128]
        cases hf:fnd W v with
        | some i =>
          have hi:=fnd_lt hf
          rw [p12_yes hn ⟨W,c⟩ v (by simp only;omega) hf,Option.bind_some]
          simp only
          rw [show at_ (some i) (-1) = (i:Int) from rfl,decide_eq_true (show (i:Int) ≥ 0 by omega),show (!((0:Int) == 0) == true) = false from rfl,if_pos rfl,show ((0:Int) != 0) = false from rfl,if_neg (show ¬ false = true by decide),Option.bind_some,Option.bind_some,if_neg (show ¬ false = true by decide),if_pos rfl]
          obtain ⟨c1,e1⟩:=slI_take (x:=(⟨W,.none⟩:Sl Int)) (i:=i) (by simp only;omega)
          obtain ⟨c2,e2⟩:=slI_drop (x:=(⟨W,.none⟩:Sl Int)) (i:=i + 1) (by simp only;omega)
          rw [lenI_mk] at e2
          rw [e1,Option.bind_some,appI_ok (by simp;omega),Option.bind_some,ckS (by omega) (by omega),Option.bind_some,castS,e2,Option.bind_some,appI_ok (by simp;omega),Option.bind_some,Option.bind_some,Option.bind_some]
          simp only [List.nil_append]
          exact fin _ _ (by simp;omega)
        | none =>
          rw [p12_no hn ⟨W,c⟩ v (by simp only;omega) hf,Option.bind_some]
          simp only
          rw [show at_ none (-1) = -1 from rfl,decide_eq_false (show ¬ (-1:Int) ≥ 0 by decide),show (!((7:Int) == 0) == false) = false from rfl,if_pos rfl,show ((7:Int) != 0) = true from rfl,if_pos rfl,Option.bind_some,show ((7:Int) != 7) = false from rfl,if_neg (show ¬ false = true by decide),Option.bind_some,if_neg (show ¬ false = true by decide),Option.bind_some]
          exact fin _ _ hW
      · rw [ifDF h128,p13_eq hn ⟨W,c⟩ v (by simp only;omega),Option.bind_some]
        simp only
        by_cases hneg:v < 0
        · rw [if_pos hneg,ifDT hneg,Option.bind_some]
          simp only
          rw [show ((1:Int) != 1) = false from rfl,if_pos rfl,show ((1:Int) != 0) = true from rfl,if_pos rfl,show (lenI nilI != 0) = false from rfl,Option.bind_some,Option.bind_some,if_neg (show ¬ false = true by decide),show ((1:Int) == 0) = false from rfl,if_neg (show ¬ false = true by decide),Option.bind_some,lrKl]
          exact fin _ _ hW
        · rw [if_neg hneg,ifDF hneg]
          cases hf:fnd W v with
          | some i =>
            rw [if_pos (show (some i).isSome = true from rfl),ifDT (show at_ (some i) (-1) ≥ 0 by show (i:Int) ≥ 0;omega),Option.bind_some,Option.bind_some]
            simp only
            rw [show ((8:Int) != 8) = false from rfl,if_pos rfl,show ((8:Int) != 0) = true from rfl,if_pos rfl,show (lenI nilI != 0) = false from rfl,Option.bind_some,Option.bind_some,if_neg (show ¬ false = true by decide),show ((8:Int) == 0) = false from rfl,if_neg (show ¬ false = true by decide),Option.bind_some,lrKl]
            exact fin _ _ hW
          | none =>
            rw [if_neg (show ¬ (none:Option Nat).isSome = true by decide),ifDF (show ¬ at_ none (-1) ≥ 0 by decide)]
            by_cases h256:256 ≤ W.length
            · rw [if_pos h256,if_pos (show ((W.length:Int) == 256) = true by rw [beq_iff_eq];omega),Option.bind_some,Option.bind_some,Option.bind_some]
              simp only
              rw [show ((3:Int) != 3) = false from rfl,if_pos rfl,show ((3:Int) != 0) = true from rfl,if_pos rfl,show (lenI nilI != 0) = false from rfl,Option.bind_some,Option.bind_some,if_neg (show ¬ false = true by decide),show ((3:Int) == 0) = false from rfl,if_neg (show ¬ false = true by decide),Option.bind_some,lrKl]
              exact fin _ _ hW
            · rw [if_neg h256,if_neg (show ¬ ((W.length:Int) == 256) = true by rw [beq_iff_eq];omega),Option.bind_some,Option.bind_some,Option.bind_some]
              simp only
              rw [show ((0:Int) != 0) = false from rfl,if_pos rfl,if_neg (show ¬ false = true by decide),Option.bind_some,Option.bind_some,if_neg (show ¬ false = true by decide),show ((0:Int) == 0) = true from rfl,if_pos rfl,appI_ok (by simp;omega),Option.bind_some,p14_same (by omega) _ _ (by simp;omega),Option.bind_some,if_neg (by decide),Option.bind_some,lrKl]
              exact fin _ _ (by simp;omega)
    · rw [ifDF (by omega)]
      exact ⟨W,c,rfl⟩
theorem p4_law {x0:Sl Int} {x1:Int} (F0:Fine (.sl (.int .i16)) x0) (G1:InR .u16 x1):p4 6000 x0 x1 = some true:=by
  unfold p4
  rw [len_def]
  by_cases h60:(x0.xs.length:Int) > 60
  · rw [ifDT h60,p8_ok,Option.bind_some]
  · rw [ifDF h60]
    obtain ⟨l,h1,hl⟩:=p4_l1_eq 6000 x1 (inR_u16.1 G1) 6000 0 [] (by omega) (by omega) (by decide)
    rw [show ((0:Nat):Int) = 0 from rfl] at h1
    rw [h1,Option.bind_some,appI_ok (by simp;omega),Option.bind_some,List.nil_append]
    obtain ⟨W,c,h2⟩:=p4_l2_eq (n:=6000) (by decide) x0 (fun y hy=>inR_i16'.1 (F0.2.2 y hy)) (by omega) 6000 0 l (capA (some 0) l.length) (by omega) (by omega) hl
    rw [show ((0:Nat):Int) = 0 from rfl] at h2
    rw [h2,Option.bind_some,lrKl]
    simp only
    rw [lenI_mk,lenI_mk,if_pos (by simp),p8_ok,Option.bind_some,Option.bind_some]
end Go.Proofs.Ytfelbalkobcfhaa
