/- BandwidthsSums in plain words: Load and Share are the sums of the definition, and repeated. Plain theorems, no condition. -/
import Derived.Test.YtaekmgpcdgmlgaaBW6
import Derived.Test.YtaekmgpcdgmlgaaXE16
import Derived.Test.YtaekmgpcdgmlgaaPs1
set_option linter.unusedVariables false
set_option linter.unusedSimpArgs false
namespace Go.Proofs.Ytaekmgpcdgmlgaa
open Go.RowKit

theorem p20_l1_eq {n:Nat} (hn:20 ≤ n) (p:Sl Slt) (hA:AllV p.xs) (hl:p.xs.length ≤ 300) (t:Int) (h1:-1000 ≤ t) (h2:t ≤ 10000000):∀ (m k:Nat) (a:Int),p.xs.length - k < m → k ≤ p.xs.length → 0 ≤ a → a + 80000 * ((p.xs.length:Int) - k) ≤ 100000000 →
    p20_l1 n p t m k a = some (if 0 ≤ t ∧ t ≤ 1048576 then a + TL (p.xs.drop k) t else a):=by
  intro m
  induction m with
  | zero=>intro k a h;exact absurd h (by omega)
  | succ m ih =>
    intro k a hm hk ha hb
    unfold p20_l1
    rw [len_def]
    by_cases hlt:k < p.xs.length
    · have hv:=hA p.xs[k] (List.getElem_mem hlt)
      have hr:=ld_range hv.1 hv.2.2.1 t
      rw [ifDT (show (k:Int) < (p.xs.length:Int) by omega),idxE hlt,Option.bind_some,andS,Option.bind_some,p34_eq n _ hv.1,Option.bind_some,decide_eq_true hv.2,drop_cons hlt]
      by_cases hq:0 ≤ t ∧ t ≤ 1048576
      · have hb':(decide (t ≥ 0) && decide (t ≤ 1048576)) = true:=by rw [Bool.and_eq_true,decide_eq_true_eq,decide_eq_true_eq];exact hq
        rw [hb',if_pos rfl,Option.bind_some,if_pos rfl,p38_eq (by omega) _ hv.1 hv.2.2.1,Option.bind_some,p37_eq n _ hv.1 hv.2 t h1 h2,Option.bind_some,ckS (by omega) (by omega),Option.bind_some,Option.bind_some,ckS (by omega) (by omega),Option.bind_some,castS,ih (k + 1) _ (by omega) (by omega) (by omega) (by omega),if_pos hq,if_pos hq,TL_cons,Int.add_assoc]
      · have hb':(decide (t ≥ 0) && decide (t ≤ 1048576)) = false:=by rw [Bool.and_eq_false_iff,decide_eq_false_iff_not,decide_eq_false_iff_not];omega
        rw [hb',if_neg (by decide),Option.bind_some,if_neg (by decide),Option.bind_some,ckS (by omega) (by omega),Option.bind_some,castS,ih (k + 1) _ (by omega) (by omega) (by omega) (by omega),if_neg hq,if_neg hq]
    · rw [ifDF (by omega),List.drop_eq_nil_of_le (by omega)]
      simp [TL]
theorem p20_eq {n:Nat} (hn:400 ≤ n) (p:Sl Slt) (hA:AllV p.xs) (hl:p.xs.length ≤ 300) (t:Int) (h1:-1000 ≤ t) (h2:t ≤ 10000000):p20 n p t = some (if 0 ≤ t ∧ t ≤ 1048576 then TL p.xs t else 0):=by
  unfold p20
  have:=p20_l1_eq (n:=n) (by omega) p hA hl t h1 h2 n 0 0 (by omega) (by omega) (by omega) (by omega)
  rw [show ((0:Nat):Int) = 0 from rfl] at this
  rw [this,Option.bind_some,List.drop_zero,Int.zero_add]
theorem p21_l1_eq {n:Nat} (hn:20 ≤ n) (p:Sl Slt) (hA:AllV p.xs) (hl:p.xs.length ≤ 300) (g t:Int) (h1:-1000 ≤ t) (h2:t ≤ 10000000):∀ (m k:Nat) (a:Int),p.xs.length - k < m → k ≤ p.xs.length → 0 ≤ a → a + 80000 * ((p.xs.length:Int) - k) ≤ 100000000 →
    p21_l1 n p g t m k a = some (if 0 ≤ t ∧ t ≤ 1048576 then a + FL (p.xs.drop k) g t else a):=by
  intro m
  induction m with
  | zero=>intro k a h;exact absurd h (by omega)
  | succ m ih =>
    intro k a hm hk ha hb
    unfold p21_l1
    rw [len_def]
    by_cases hlt:k < p.xs.length
    · have hv:=hA p.xs[k] (List.getElem_mem hlt)
      have hr:=fr_range hv.1 hv.2.2.1 g t
      have hc:=cst_range hv.1 hv.2.2.1
      rw [ifDT (show (k:Int) < (p.xs.length:Int) by omega),idxE hlt,Option.bind_some,andS,Option.bind_some,p34_eq n _ hv.1,Option.bind_some,decide_eq_true hv.2,drop_cons hlt]
      by_cases hq:0 ≤ t ∧ t ≤ 1048576
      · have hb':(decide (t ≥ 0) && decide (t ≤ 1048576)) = true:=by rw [Bool.and_eq_true,decide_eq_true_eq,decide_eq_true_eq];exact hq
        rw [hb',if_pos rfl,Option.bind_some,if_pos rfl,p39_eq n _ hv.1 hv.2 g t h1 h2,Option.bind_some,Option.bind_some,p38_eq (by omega) _ hv.1 hv.2.2.1,Option.bind_some]
        have e:(if us p.xs[k] g t = true then (ckI .i64 (a + (cst p.xs[k].2.1).2.2)).bind fun x_73=>some x_73 else some a) = some (a + fr p.xs[k] g t):=by
          unfold fr
          split
          · rw [ckS (by omega) (by omega),Option.bind_some]
          · rw [Int.add_zero]
        rw [e,Option.bind_some,ckS (by omega) (by omega),Option.bind_some,castS,ih (k + 1) _ (by omega) (by omega) (by omega) (by omega),if_pos hq,if_pos hq,FL_cons,Int.add_assoc]
      · have hb':(decide (t ≥ 0) && decide (t ≤ 1048576)) = false:=by rw [Bool.and_eq_false_iff,decide_eq_false_iff_not,decide_eq_false_iff_not];omega
        rw [hb',if_neg (by decide),Option.bind_some,if_neg (by decide),Option.bind_some,if_neg (by decide),Option.bind_some,ckS (by omega) (by omega),Option.bind_some,castS,ih (k + 1) _ (by omega) (by omega) (by omega) (by omega),if_neg hq,if_neg hq]
    · rw [ifDF (by omega),List.drop_eq_nil_of_le (by omega)]
      simp [FL]
theorem p21_eq {n:Nat} (hn:400 ≤ n) (p:Sl Slt) (hA:AllV p.xs) (hl:p.xs.length ≤ 300) (g t:Int) (h1:-1000 ≤ t) (h2:t ≤ 10000000):p21 n p g t = some (if 0 ≤ t ∧ t ≤ 1048576 then FL p.xs g t else 0):=by
  unfold p21
  have:=p21_l1_eq (n:=n) (by omega) p hA hl g t h1 h2 n 0 0 (by omega) (by omega) (by omega) (by omega)
  rw [show ((0:Nat):Int) = 0 from rfl] at this
  rw [this,Option.bind_some,List.drop_zero,Int.zero_add]
theorem due_256 {per ph t a:Int} (hp:isP per = true) (ht:0 ≤ t) (ha:0 ≤ a):due per ph (t + 256 * a) = due per ph t:=by
  unfold due
  rw [Bool.eq_iff_iff,decide_eq_true_eq,decide_eq_true_eq]
  rcases isP_cases hp with rfl | rfl | rfl | rfl | rfl | rfl | rfl | rfl | rfl <;> omega
theorem ld_256 {s:Slt} (hv:VS s) {t a:Int} (ht:0 ≤ t) (ha:0 ≤ a):ld s (t + 256 * a) = ld s t:=by
  have hp:=hv.2.1.2.2.2.2.2.1
  unfold ld
  rw [due_256 hp ht ha]
  by_cases h2:2 ≤ t
  · rw [show t + 256 * a - 2 = (t - 2) + 256 * a by omega,due_256 hp (by omega) ha]
  · have e1:due s.2.1.2.2.2.2.1 s.2.2 (t - 2) = false:=decide_eq_false fun k=>by omega
    rw [e1]
    by_cases hs:s.2.1.1 = 2
    · have:(cst s.2.1).2.1 = 0:=by unfold cst;rw [if_pos hs]
      rw [this];simp
    · have e2:due s.2.1.2.2.2.2.1 s.2.2 (t + 256 * a - 2) = false:=by
        cases hc:due s.2.1.2.2.2.2.1 s.2.2 (t + 256 * a - 2) with
        | false=>rfl
        | true =>
          have h8:=due_slow hv.2.1 hs hc
          have:s.2.2 % 8 ≤ 3:=by rcases hv.2.2.2.2 with h | h;exact absurd h hs;exact h
          omega
      rw [e2]
theorem fr_32 {s:Slt} (hv:VS s) {g f a:Int} (hf:0 ≤ f) (ha:0 ≤ a):fr s g (f + 32 * a) = fr s g f:=by
  have hp:=hv.2.1.2.2.2.2.2.1
  have h0:=hv.2.2.1
  unfold fr us
  rw [show (f + 32 * a) * 8 + s.2.2 % 8 = (f * 8 + s.2.2 % 8) + 256 * a by omega,due_256 hp (by omega) ha]
theorem TL_256 {l:List Slt} (hA:AllV l) {t a:Int} (ht:0 ≤ t) (ha:0 ≤ a):TL l (t + 256 * a) = TL l t:=by
  unfold TL
  congr 1
  exact List.map_congr_left fun s hs=>ld_256 (hA s hs).2 ht ha
theorem FL_32 {l:List Slt} (hA:AllV l) {g t a:Int} (ht:0 ≤ t) (ha:0 ≤ a):FL l g (t + 32 * a) = FL l g t:=by
  unfold FL
  congr 1
  exact List.map_congr_left fun s hs=>fr_32 (hA s hs).2 ht ha
theorem idxGR1 (l:List Slt) (g:Int) (t:Nat) (h:t < 256):idx (GR l g) (t:Int) = some (TL l (t:Int)):=by
  rw [idx_nat,GR_get,if_pos (by omega),if_pos (by omega)]
theorem idxGR2 (l:List Slt) (g:Int) (t:Nat) (h:t < 32):idx (GR l g) (256 + (t:Int)) = some (FL l g (t:Int)):=by
  rw [show (256 + (t:Int)) = ((256 + t:Nat):Int) by simp,idx_nat,GR_get,if_pos (by omega),if_neg (by omega),show (((256 + t:Nat):Int) - 256) = (t:Int) by omega]
theorem p6_l1_eq {n:Nat} (hn:400 ≤ n) (a:Int) (ha0:0 ≤ a) (ha:a ≤ 255) (p:Sl Slt) (c g:Int) (hA:AllV p.xs) (hl:p.xs.length ≤ 300):∀ (m k:Nat),256 - k < m → k ≤ 256 → p6_l1 n a (p,c) (GR p.xs g) m k = some (.inl ()):=by
  intro m
  induction m with
  | zero=>intro k h;exact absurd h (by omega)
  | succ m ih =>
    intro k hm hk
    unfold p6_l1
    by_cases hlt:k < 256
    · rw [ifDT (show (k:Int) < 256 by omega)]
      simp only
      rw [p20_eq hn p hA hl k (by omega) (by omega),if_pos (by omega),Option.bind_some,idxGR1 _ _ _ hlt,Option.bind_some,show (TL p.xs (k:Int) != TL p.xs (k:Int)) = false from bne_self_eq_false _,if_pos rfl,ckS (by omega) (by omega),Option.bind_some,ckS (by omega) (by omega),Option.bind_some]
      rw [p20_eq hn p hA hl _ (by omega) (by omega),if_pos (by omega),TL_256 hA (by omega) ha0,Option.bind_some,Option.bind_some,show (TL p.xs (k:Int) != TL p.xs (k:Int)) = false from bne_self_eq_false _,Option.bind_some,if_neg (by decide),ckS (by omega) (by omega),Option.bind_some,castS]
      exact ih (k + 1) (by omega) (by omega)
    · rw [ifDF (by omega)]
theorem p6_l2_eq {n:Nat} (hn:400 ≤ n) (a:Int) (ha0:0 ≤ a) (ha:a ≤ 255) (p:Sl Slt) (c g:Int) (hA:AllV p.xs) (hl:p.xs.length ≤ 300):∀ (m k:Nat),32 - k < m → k ≤ 32 → p6_l2 n a (p,c) g (GR p.xs g) m k = some (.inl ()):=by
  intro m
  induction m with
  | zero=>intro k h;exact absurd h (by omega)
  | succ m ih =>
    intro k hm hk
    unfold p6_l2
    by_cases hlt:k < 32
    · rw [ifDT (show (k:Int) < 32 by omega)]
      simp only
      rw [p21_eq hn p hA hl g k (by omega) (by omega),if_pos (by omega),Option.bind_some,ckS (by omega) (by omega),Option.bind_some,idxGR2 _ _ _ hlt,Option.bind_some,show (FL p.xs g (k:Int) != FL p.xs g (k:Int)) = false from bne_self_eq_false _,if_pos rfl,ckS (by omega) (by omega),Option.bind_some,ckS (by omega) (by omega),Option.bind_some]
      rw [p21_eq hn p hA hl g _ (by omega) (by omega),if_pos (by omega),FL_32 hA (by omega) ha0,Option.bind_some,Option.bind_some,idxGR2 _ _ _ hlt,Option.bind_some,show (FL p.xs g (k:Int) != FL p.xs g (k:Int)) = false from bne_self_eq_false _,Option.bind_some,if_neg (by decide),ckS (by omega) (by omega),Option.bind_some,castS]
      exact ih (k + 1) (by omega) (by omega)
    · rw [ifDF (by omega)]
theorem goodL_of {x:Sl (Int × Bool × Bool × Int × Int × Int)} (F:Fine (.sl gt3) x):∀ y ∈ x.xs,GoodL y:=fun y hy=>by
  have:=F.2.2 y hy
  obtain ⟨h1,_,_,h2,h3,h4⟩:=this
  exact ⟨inR_u8.1 h1,inR_u16.1 h2,inR_u8.1 h3,inR_u8.1 h4⟩
theorem p6_law {x:Sl (Int × Bool × Bool × Int × Int × Int)} {a h:Int} (F:Fine (.sl gt3) x) (G1:InR .u8 a) (G2:InR .u8 h):p6 6000 x a h = some true:=by
  have ha:=inR_u8.1 G1
  have hh:=inR_u8.1 G2
  obtain ⟨c,p,hp,hg⟩:=p9_ok (n:=6000) (by decide) x (goodL_of F)
  have hA:=hg.allV
  have hl:=GP.len (b:=20) hg
  have r4:remI .u8 h 4 = some (h % 4):=remI_ok hh.1 (by decide) (inR_u8.2 (by omega))
  unfold p6
  rw [hp,Option.bind_some,r4,Option.bind_some]
  simp only
  rw [p13_eq (by decide) p hA (by omega),Option.bind_some,show (0:Int) = ((0:Nat):Int) from rfl,p6_l1_eq (by decide) a ha.1 ha.2 p c _ hA (by omega) 6000 0 (by omega) (by omega),Option.bind_some,lrKl,p6_l2_eq (by decide) a ha.1 ha.2 p c _ hA (by omega) 6000 0 (by omega) (by omega),Option.bind_some,lrKl]
  rw [p20_eq (by decide) p hA (by omega) _ (by decide) (by decide),if_neg (by decide),Option.bind_some,p20_eq (by decide) p hA (by omega) _ (by decide) (by decide),if_neg (by decide),Option.bind_some,ckS (by decide) (by decide),Option.bind_some]
  rw [p21_eq (by decide) p hA (by omega) _ _ (by decide) (by decide),if_neg (by decide),Option.bind_some,ckS (by decide) (by decide),Option.bind_some,p21_eq (by decide) p hA (by omega) _ _ (by decide) (by decide),if_neg (by decide),Option.bind_some,ckS (by decide) (by decide),Option.bind_some]
  rw [p15_ok]
  rfl
end Go.Proofs.Ytaekmgpcdgmlgaa
