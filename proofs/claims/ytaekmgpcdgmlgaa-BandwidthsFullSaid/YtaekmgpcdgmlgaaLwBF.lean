/- BandwidthsFull in plain words. Plain theorems, no condition. -/
import Derived.Test.YtaekmgpcdgmlgaaBW6
import Derived.Test.YtaekmgpcdgmlgaaXE16
import Derived.Test.YtaekmgpcdgmlgaaPf1
set_option linter.unusedVariables false
set_option linter.unusedSimpArgs false
namespace Go.Proofs.Ytaekmgpcdgmlgaa
open Go.RowKit

/-! ### Costs -/
theorem cstH {y:Nd} (hv:VN y) (h:y.1 = 2):1 ≤ (cst y).1 ∧ (cst y).2.1 = 0:=by
  obtain ⟨sp,k,i,mx,per,hub⟩:=y
  obtain ⟨hk,hs,h1,h2,_⟩:=hv
  simp only at hk hs h1 h2 h
  have w1:=wst_range (x:=mx + 3) (by omega) (by have:=capN_le k sp;omega)
  have w2:wst 3 = 39:=by decide
  have w4:wst 1 = 20:=by decide
  unfold cst c0
  simp only [lst_cons,lst_nil]
  rw [if_pos h]
  refine ⟨?_,rfl⟩
  simp only
  rw [if_neg (by decide)]
  split <;> omega
theorem cstL {y:Nd} (h0:0 ≤ y.1) (hv:VN y) (h:y.1 ≠ 2):103 ≤ (cst y).2.2 ∧ (cst y).2.2 ≤ 10800 ∧ (cst y).1 ≤ (cst y).2.2 + 103 ∧ (cst y).2.1 ≤ (cst y).2.2 + 103:=by
  obtain ⟨sp,k,i,mx,per,hub⟩:=y
  obtain ⟨hk,hs,h1,h2,_⟩:=hv
  simp only at hk hs h1 h2 h h0
  have hc:=capN_le k sp
  have w1:48 ≤ wst (mx + 3) ∧ wst (mx + 3) ≤ 9600:=by unfold wst;omega
  have w2:wst 3 = 39:=by decide
  have w3:wst 4 = 48:=by decide
  have w4:wst 1 = 20:=by decide
  have w5:sp = 0 → wst (mx + 3) ≤ 200:=by
    intro e
    subst e
    have:mx ≤ 8:=by rcases hk with rfl | rfl <;> simp [capN] at h2 <;> omega
    unfold wst;omega
  unfold cst c0 cS cC
  simp only [lst_cons,lst_nil]
  rw [if_neg h]
  simp only
  rcases hk with rfl | rfl <;> cases i <;> by_cases e0:sp = 0 <;> simp only [e0,if_true,if_false,lst_cons,lst_nil,List.cons_append,List.nil_append,List.append_nil] <;> simp [lst_cons,lst_nil] <;> (try have:=w5 e0) <;> omega

/-! ### Slots laid one after the other -/
def cntN (M k g:Nat):Nat:=min M (k - g * M)
theorem cnt_succ {M k g:Nat} (hM:1 ≤ M):cntN M (k + 1) g = cntN M k g + if k / M = g then 1 else 0:=by
  have h1:k / M = g ↔ g * M ≤ k ∧ k < g * M + M:=by
    have a:=Nat.le_div_iff_mul_le (x:=g) (y:=k) (k:=M) (by omega)
    have b:=Nat.div_lt_iff_lt_mul (x:=k) (y:=g + 1) (k:=M) (by omega)
    rw [Nat.succ_mul] at b
    omega
  unfold cntN
  by_cases h:k / M = g
  · rw [if_pos h]
    have:=h1.1 h
    omega
  · rw [if_neg h]
    have:=mt h1.2 h
    omega
theorem cnt_lt {M k g:Nat} (hM:1 ≤ M):cntN M k g < M ↔ k < (g + 1) * M:=by
  unfold cntN
  rw [Nat.succ_mul]
  omega
theorem cnt_le (M k g:Nat):cntN M k g ≤ M:=Nat.min_le_left _ _
def sl1 (y:Nd) (e M i:Nat):Slt:=((i:Int),y,((e * (i / M):Nat):Int))
def Lk (y:Nd) (e M k:Nat):List Slt:=(List.range k).map (sl1 y e M)
theorem Lk_succ (y:Nd) (e M k:Nat):Lk y e M (k + 1) = Lk y e M k ++ [((k:Int),y,((e * (k / M):Nat):Int))]:=by
  unfold Lk;rw [List.range_succ,List.map_append];rfl
theorem Lk_len (y:Nd) (e M k:Nat):(Lk y e M k).length = k:=by unfold Lk;simp
theorem Lk_mem {y:Nd} {e M k:Nat} {s:Slt} (h:s ∈ Lk y e M k):∃ i,i < k ∧ s = sl1 y e M i:=by
  unfold Lk at h
  obtain ⟨i,h1,rfl⟩:=List.mem_map.1 h
  exact ⟨i,List.mem_range.1 h1,rfl⟩
theorem Lk_has (y:Nd) (e M k:Nat):hasId (Lk y e M k) (k:Int) = false:=by
  cases h:hasId (Lk y e M k) (k:Int) with
  | false=>rfl
  | true =>
    obtain ⟨s,hs,e'⟩:=List.mem_map.1 (hasId_iff.1 h)
    obtain ⟨i,h1,rfl⟩:=Lk_mem hs
    have:(i:Int) = (k:Int):=e'
    omega
theorem due_nat {p g t:Nat}:due (p:Int) (g:Int) (t:Int) = decide (t % p = g):=by
  unfold due
  rw [decide_eq_decide,← Int.natCast_emod]
  constructor
  · intro h;have:=h.2;omega
  · intro h;exact ⟨by omega,by omega⟩
theorem ite_mul_one {p:Prop} [Decidable p] (c:Int):c * (((if p then 1 else 0:Nat)):Int) = if p then c else 0:=by split <;> simp
theorem TH {y:Nd} {p M:Nat} (hp:y.2.2.2.2.1 = (p:Int)) (hM:1 ≤ M) (h2:(cst y).2.1 = 0) (t:Nat):∀ k,TL (Lk y 1 M k) (t:Int) = (cst y).1 * ((cntN M k (t % p):Nat):Int)
  | 0=>by unfold cntN;simp [Lk,TL]
  | k + 1=>by
    rw [Lk_succ,TL_append,TL_one,TH hp hM h2 t k,cnt_succ hM,Int.natCast_add,Int.mul_add,ite_mul_one]
    unfold ld
    simp only
    rw [h2,hp,due_nat,ite_self,Int.add_zero,Nat.one_mul]
    by_cases h:t % p = k / M
    · rw [decide_eq_true h,if_pos rfl,if_pos h.symm]
    · rw [decide_eq_false h,if_neg (by decide),if_neg (fun q=>h q.symm)]
theorem FS {y:Nd} {Q M:Nat} (hp:y.2.2.2.2.1 = ((8 * Q:Nat):Int)) (hs:y.1 ≠ 2) (hM:1 ≤ M) (f:Nat):∀ k,FL (Lk y 8 M k) y.2.2.2.2.2 (f:Int) = (cst y).2.2 * ((cntN M k (f % Q):Nat):Int)
  | 0=>by unfold cntN;simp [Lk,FL]
  | k + 1=>by
    rw [Lk_succ,FL_append,FL_one,FS hp hs hM f k,cnt_succ hM,Int.natCast_add,Int.mul_add,ite_mul_one]
    unfold fr us
    simp only
    rw [hp,show (f:Int) * 8 + ((8 * (k / M):Nat):Int) % 8 = ((8 * f:Nat):Int) by omega,due_nat,Nat.mul_mod_mul_left]
    by_cases h:f % Q = k / M
    · rw [if_pos (by rw [decide_eq_true_eq];exact ⟨hs,trivial,by rw [decide_eq_true_eq,h]⟩),if_pos h.symm]
    · rw [if_neg (by rw [decide_eq_true_eq];rintro ⟨_,_,q⟩;rw [decide_eq_true_eq] at q;exact h (Nat.eq_of_mul_eq_mul_left (by decide) q)),if_neg (fun q=>h q.symm)]
theorem TBd {y:Nd} {Q M:Nat} (hv:VN y) (hp:y.2.2.2.2.1 = ((8 * Q:Nat):Int)) (hs:y.1 ≠ 2) (hM:1 ≤ M) {B:Int} (hB:(0 ≤ B) ∧ (cst y).1 ≤ B ∧ (cst y).2.1 ≤ B) (t:Nat):∀ k,TL (Lk y 8 M k) (t:Int) ≤ B * ((cntN M k (t / 8 % Q):Nat):Int)
  | 0=>by unfold cntN;simp [Lk,TL]
  | k + 1=>by
    have ih:=TBd hv hp hs hM hB t k
    rw [Lk_succ,TL_append,TL_one,cnt_succ hM,Int.natCast_add,Int.mul_add,ite_mul_one]
    have key:ld ((k:Int),y,((8 * (k / M):Nat):Int)) (t:Int) ≤ if k / M = t / 8 % Q then B else 0:=by
      have d2:∀ u:Nat,u ≤ t → t ≤ u + 2 → due y.2.2.2.2.1 ((8 * (k / M):Nat):Int) (u:Int) = true → k / M = t / 8 % Q:=by
        intro u h1 h2 h
        have h8:=due_slow hv hs h
        rw [hp,due_nat,decide_eq_true_eq] at h
        have e1:t / 8 = u / 8:=by omega
        rw [e1,← Nat.mod_mul_right_div_self,h]
        omega
      unfold ld
      simp only
      by_cases h1:due y.2.2.2.2.1 ((8 * (k / M):Nat):Int) (t:Int) = true
      · rw [if_pos h1,if_neg (by rw [due_2 hv hs h1];decide),if_pos (d2 t (by omega) (by omega) h1)]
        omega
      · rw [if_neg h1]
        by_cases h3:due y.2.2.2.2.1 ((8 * (k / M):Nat):Int) ((t:Int) - 2) = true
        · have ht:(0:Int) ≤ (t:Int) - 2:=by
            unfold due at h3
            rw [decide_eq_true_eq] at h3
            exact h3.1
          rw [if_pos h3,if_pos (d2 (t - 2) (by omega) (by omega) (by rw [show (((t - 2:Nat)):Int) = (t:Int) - 2 by omega];exact h3))]
          omega
        · rw [if_neg h3]
          split <;> omega
    omega
/-! ### In which phases there is room -/
def OkQ (e M k q:Nat):Prop:=(e = 8 → q % 8 ≤ 3) ∧ k < (q / e + 1) * M
theorem ph_high {y:Nd} {p M:Nat} (h0:0 ≤ y.1) (hv:VN y) (hs:y.1 = 2) (hp:y.2.2.2.2.1 = (p:Int)) {a:Nat} (ha:(cst y).1 = (a:Int)) (hM:M = 48000 / a) (hM1:1 ≤ M) (k q:Nat) (hq:q < p):phOk (Lk y 1 M k) y q ↔ OkQ 1 M k q:=by
  have h2:=(cstH hv hs).2
  have ha1:=(cstH hv hs).1
  have hr:=isP_range hv.2.2.2.2.2.1
  have key:∀ t:Nat,t % p = q → (okT (Lk y 1 M k) y t ↔ k < (q + 1) * M):=by
    intro t ht
    rw [← cnt_lt hM1]
    unfold okT
    rw [TH hp hM1 h2 t k,ht,ha]
    have:(cntN M k q < M) ↔ (cntN M k q + 1) * a ≤ 48000:=by
      rw [hM,Nat.lt_iff_add_one_le,Nat.le_div_iff_mul_le (by omega)]
    rw [this]
    have e:((a:Int) * ((cntN M k q:Nat):Int) + (a:Int) ≤ 48000) ↔ (cntN M k q + 1) * a ≤ 48000:=by
      rw [Nat.succ_mul,Nat.mul_comm,← Int.natCast_mul]
      omega
    rw [e]
    exact ⟨fun h=>h.1,fun h=>⟨h,fun c=>absurd hs c⟩⟩
  unfold phOk OkQ
  rw [Nat.div_one]
  constructor
  · rintro ⟨_,h⟩
    refine ⟨fun c=>absurd c (by decide),(key q (Nat.mod_eq_of_lt hq)).1 (h q (by omega) ?_)⟩
    rw [hp,due_nat,decide_eq_true (Nat.mod_eq_of_lt hq)]
  · rintro ⟨_,h⟩
    refine ⟨.inl hs,fun t ht hd=>(key t ?_).2 h⟩
    rwa [hp,due_nat,decide_eq_true_eq] at hd
theorem ph_slow {y:Nd} {Q M:Nat} (h0:0 ≤ y.1) (hv:VN y) (hs:y.1 ≠ 2) (hp:y.2.2.2.2.1 = ((8 * Q:Nat):Int)) {a:Nat} (ha:(cst y).2.2 = (a:Int)) (hM:M = 10800 / a) (hM1:1 ≤ M) (k q:Nat) (hq:q < 8 * Q):phOk (Lk y 8 M k) y q ↔ OkQ 8 M k q:=by
  obtain ⟨c1,c2,c3,c4⟩:=cstL h0 hv hs
  have hr:=isP_range hv.2.2.2.2.2.1
  have hM2:M ≤ 104:=by
    rw [hM]
    exact Nat.le_trans (Nat.div_le_div_left (show 103 ≤ a by omega) (by decide)) (by decide)
  have hMa:M * a ≤ 10800:=by rw [hM];exact Nat.div_mul_le_self _ _
  have key:∀ t:Nat,t % (8 * Q) = q → q % 8 ≤ 3 → (okT (Lk y 8 M k) y t ↔ k < (q / 8 + 1) * M):=by
    intro t ht hq3
    have hg:t / 8 % Q = q / 8:=by rw [← Nat.mod_mul_right_div_self,ht]
    have ht8:t % 8 = q % 8:=by rw [← ht,Nat.mod_mul_right_mod]
    have hg2:(t + 2) / 8 % Q = q / 8:=by rw [show (t + 2) / 8 = t / 8 by omega,hg]
    rw [← cnt_lt hM1]
    unfold okT
    rw [show (t:Int) / 8 = ((t / 8:Nat):Int) by omega,FS hp hs hM1 (t / 8) k,hg,ha]
    have:(cntN M k (q / 8) < M) ↔ (cntN M k (q / 8) + 1) * a ≤ 10800:=by
      rw [hM,Nat.lt_iff_add_one_le,Nat.le_div_iff_mul_le (by omega)]
    have e:((a:Int) * ((cntN M k (q / 8):Nat):Int) + (a:Int) ≤ 10800) ↔ (cntN M k (q / 8) + 1) * a ≤ 10800:=by
      rw [Nat.succ_mul,Nat.mul_comm,← Int.natCast_mul]
      omega
    rw [e,← this]
    constructor
    · intro h;exact (h.2 hs).2
    · intro h
      have b1:=TBd hv hp hs hM1 (B:=(a:Int) + 103) ⟨by omega,by omega,by omega⟩ t k
      have b2:=TBd hv hp hs hM1 (B:=(a:Int) + 103) ⟨by omega,by omega,by omega⟩ (t + 2) k
      rw [hg] at b1
      rw [hg2] at b2
      have m1:(cntN M k (q / 8) + 1) * (a + 103) ≤ M * (a + 103):=Nat.mul_le_mul_right _ h
      rw [Nat.mul_add M] at m1
      rw [Nat.succ_mul] at m1
      have e3:((a:Int) + 103) * ((cntN M k (q / 8):Nat):Int) = ((cntN M k (q / 8) * (a + 103):Nat):Int):=by
        rw [Int.natCast_mul,Int.mul_comm];rfl
      rw [e3] at b1 b2
      rw [show (((t + 2:Nat)):Int) = (t:Int) + 2 by omega] at b2
      refine ⟨by omega,fun _=>⟨by omega,h⟩⟩
  have hr8:=hv.2.2.2.2.2.2.2 hs
  unfold phOk OkQ
  constructor
  · rintro ⟨h1,h⟩
    have h3:q % 8 ≤ 3:=by
      rcases h1 with c | c
      · exact absurd c hs
      · omega
    refine ⟨fun _=>h3,(key q (Nat.mod_eq_of_lt hq) h3).1 (h q (by omega) ?_)⟩
    rw [hp,due_nat,decide_eq_true (Nat.mod_eq_of_lt hq)]
  · rintro ⟨h1,h⟩
    have h3:=h1 rfl
    refine ⟨.inr (by omega),fun t ht hd=>(key t ?_ h3).2 h⟩
    rwa [hp,due_nat,decide_eq_true_eq] at hd
/-- The next phase. -/
theorem fst_next {y:Nd} {e M k Q:Nat} (he:e = 1 ∨ e = 8) (hM:1 ≤ M) (hp:y.2.2.2.2.1 = ((e * Q:Nat):Int)) (h:∀ q,q < e * Q → (phOk (Lk y e M k) y q ↔ OkQ e M k q)):fstPh (Lk y e M k) y 0 = if k < Q * M then some (e * (k / M)) else none:=by
  have hn:y.2.2.2.2.1.toNat = e * Q:=by rw [hp];rfl
  have he0:0 < e:=by omega
  by_cases hk:k < Q * M
  · rw [if_pos hk]
    have hd:k / M < Q:=(Nat.div_lt_iff_lt_mul (by omega)).2 hk
    have hlt:e * (k / M) < e * Q:=Nat.mul_lt_mul_of_pos_left hd he0
    have hmM:k < (k / M + 1) * M:=by
      have:=Nat.lt_div_mul_add (a:=k) (b:=M) (by omega)
      rw [Nat.succ_mul];omega
    obtain ⟨q,h1,h2⟩:=fstPh_le (l:=Lk y e M k) (x:=y) (r:=e * (k / M)) (by rw [hn];exact hlt) ((h _ hlt).2 ⟨fun e8=>by subst e8;omega,by rw [Nat.mul_div_cancel_left _ he0];exact hmM⟩)
    obtain ⟨f1,f2,_⟩:=fstPh_some h1
    rw [hn] at f1
    have f3:=((h q f1).1 f2).2
    have f4:k / M < q / e + 1:=(Nat.div_lt_iff_lt_mul (by omega)).2 f3
    have f5:e * (k / M) ≤ q:=by
      have:e * (k / M) ≤ e * (q / e):=Nat.mul_le_mul_left e (by omega)
      have:=Nat.mul_div_le q e
      omega
    rw [h1,show q = e * (k / M) by omega]
  · rw [if_neg hk]
    cases hf:fstPh (Lk y e M k) y 0 with
    | none=>rfl
    | some q =>
      obtain ⟨f1,f2,_⟩:=fstPh_some hf
      rw [hn] at f1
      have f3:=((h q f1).1 f2).2
      have f4:q / e < Q:=(Nat.div_lt_iff_lt_mul he0).2 (by rw [Nat.mul_comm];exact f1)
      have:(q / e + 1) * M ≤ Q * M:=Nat.mul_le_mul_right M f4
      omega
/-- A plan of k slots is without error. -/
structure LkOk (y:Nd) (e M k:Nat):Prop where
  chk:chk (Lk y e M k) = 0
theorem Lk_sp {y:Nd} (h0:0 ≤ y.1) (e M k:Nat):∀ s ∈ Lk y e M k,0 ≤ s.2.1.1:=fun s hs=>by
  obtain ⟨i,_,rfl⟩:=Lk_mem hs
  exact h0
theorem Lk_ok {y:Nd} {e M Q:Nat} (h0:0 ≤ y.1) (hv:VN y) (hf:∀ k,fstPh (Lk y e M k) y 0 = if k < Q * M then some (e * (k / M)) else none):∀ k,k ≤ 40 → k ≤ Q * M → chk (Lk y e M k) = 0
  | 0,_,_=>by rfl
  | k + 1,h1,h2=>by
    rw [Lk_succ]
    exact chk_add (Lk_sp h0 e M k) (Lk_ok h0 hv hf k (by omega) (by omega)) h0 (by omega) hv (Lk_has y e M k) (by rw [Lk_len];omega) (by rw [hf k,if_pos (by omega)])
theorem p5_l1_eq {n:Nat} (hn:1100 ≤ n) {y:Nd} {e M Q:Nat} (h0:0 ≤ y.1) (hv:VN y) (hf:∀ k,fstPh (Lk y e M k) y 0 = if k < Q * M then some (e * (k / M)) else none):∀ (m k:Nat),42 - k < m → k ≤ 40 → k ≤ Q * M →
    ∃ r j,p5_l1 n y m k 0 ⟨Lk y e M k,some k⟩ = some (r,⟨Lk y e M j,some j⟩) ∧ j ≤ 40 ∧ j ≤ Q * M ∧ ((r = 0 ∧ j = 40) ∨ (r = 14 ∧ j = Q * M)):=by
  intro m
  induction m with
  | zero=>intro k hm;exact absurd hm (by omega)
  | succ m ih =>
    intro k hm hk hq
    rw [p5_l1,andS,Option.bind_some,show ((0:Int) == 0) = true from rfl,Bool.and_true]
    by_cases h40:k < 40
    · have hc:=Lk_ok h0 hv hf k hk hq
      have ha:addR (Lk y e M k) (k:Int) y = if k < Q * M then (⟨Lk y e M (k + 1),some (k + 1)⟩,0) else (nilS,14):=by
        unfold addR
        rw [if_neg (fun q=>q hc),if_neg (by rintro (q | q);omega;exact q hv),if_neg (by rw [Lk_has];decide),if_neg (by rw [Lk_len];omega),hf k]
        by_cases hlt:k < Q * M
        · rw [if_pos hlt,if_pos hlt,Lk_succ,Lk_len]
        · rw [if_neg hlt,if_neg hlt]
      rw [decide_eq_true (show (k:Int) < 40 by omega),if_pos rfl,p11_eq hn ⟨Lk y e M k,some k⟩ (Lk_sp h0 e M k) (by simp only;rw [Lk_len];omega) (k:Int) y h0,Option.bind_some]
      simp only
      rw [ha]
      by_cases hlt:k < Q * M
      · rw [if_pos hlt]
        simp only
        rw [show ((0:Int) == 0) = true from rfl,if_pos rfl,Option.bind_some,ckS (by omega) (by omega),Option.bind_some,castS]
        exact ih (k + 1) (by omega) (by omega) (by omega)
      · rw [if_neg hlt]
        simp only
        rw [show ((14:Int) == 0) = false from rfl,if_neg (by decide),Option.bind_some,ckS (by omega) (by omega),Option.bind_some]
        obtain ⟨m',rfl⟩:∃ m',m = m' + 1:=⟨m - 1,by omega⟩
        rw [p5_l1,andS,Option.bind_some,show ((14:Int) == 0) = false from rfl,Bool.and_false,if_neg (by decide)]
        exact ⟨14,k,rfl,hk,hq,.inr ⟨rfl,by omega⟩⟩
    · rw [decide_eq_false (show ¬ (k:Int) < 40 by omega),if_neg (by decide)]
      exact ⟨0,k,rfl,hk,hq,.inl ⟨rfl,by omega⟩⟩
theorem idx30 {a b c:Int}:idx [a,b,c] 0 = some a:=rfl
theorem idx32 {a b c:Int}:idx [a,b,c] 2 = some c:=rfl
theorem min40 {z:Int} {j QM:Nat} {r:Int} (hz:z = (QM:Int)) (h1:j ≤ 40) (h2:j ≤ QM) (h3:(r = 0 ∧ j = 40) ∨ (r = 14 ∧ j = QM)):((j:Int) == if z < 40 then z else 40) = true:=by
  rw [beq_iff_eq,hz]
  rcases h3 with ⟨_,h⟩ | ⟨_,h⟩ <;> split <;> omega
theorem p5_law {x0:Int × Bool × Bool × Int × Int × Int} (F0:Fine gt3 x0):p5 6000 x0 = some true:=by
  obtain ⟨h1,_,_,h2,h3,h4⟩:=F0
  obtain ⟨y,hy,hv,h0,_,_⟩:=p10_ok 6000 x0 (inR_u8.1 h1) (inR_u16.1 h2) (inR_u8.1 h3) (inR_u8.1 h4)
  have hr:=isP_range hv.2.2.2.2.2.1
  have hcr:=cst_range h0 hv
  obtain ⟨p,hp⟩:=Int.eq_ofNat_of_zero_le (show 0 ≤ y.2.2.2.2.1 by omega)
  unfold p5
  rw [hy,Option.bind_some,p12_eq (by decide) y h0 hv,Option.bind_some]
  have rest:∀ (e M Q:Nat),(∀ k,fstPh (Lk y e M k) y 0 = if k < Q * M then some (e * (k / M)) else none) → ∃ r j,p5_l1 6000 y 6000 0 0 ⟨[],some 0⟩ = some (r,⟨Lk y e M j,some j⟩) ∧ j ≤ 40 ∧ j ≤ Q * M ∧ ((r = 0 ∧ j = 40) ∨ (r = 14 ∧ j = Q * M)) ∧ p17 6000 (⟨Lk y e M j,some j⟩:Sl Slt) = some true:=by
    intro e M Q hf
    obtain ⟨r,j,q1,q2,q3,q4⟩:=p5_l1_eq (n:=6000) (by decide) h0 hv hf 6000 0 (by omega) (by omega) (by omega)
    have hc:=chk_zero (Lk_ok h0 hv hf j q2 q3)
    refine ⟨r,j,q1,q2,q3,q4,?_⟩
    rw [p17_eq (by decide) ⟨Lk y e M j,some j⟩ (fun s hs=>⟨Lk_sp h0 e M j s hs,hc.2.1 s hs⟩) (by simp only;rw [Lk_len];omega),decide_eq_true (show RoomA (Lk y e M j) (Lk y e M j) from hc.2.2.2)]
  by_cases hs:y.1 = 2
  · obtain ⟨c1,c2⟩:=cstH hv hs
    obtain ⟨a,ha⟩:=Int.eq_ofNat_of_zero_le (show 0 ≤ (cst y).1 by omega)
    have hM1:1 ≤ 48000 / a:=(Nat.le_div_iff_mul_le (by omega)).2 (by omega)
    obtain ⟨r,j,q1,q2,q3,q4,q5⟩:=rest 1 (48000 / a) p (fun k=>fst_next (.inl rfl) hM1 (by rw [hp,Nat.one_mul]) fun q hq=>ph_high h0 hv hs hp ha rfl hM1 k q (by rwa [Nat.one_mul] at hq))
    rw [q1,Option.bind_some]
    simp only
    have e1:(if (r != 0) = true then some (r != 14) else some false) = some false:=by
      rcases q4 with ⟨rfl,_⟩ | ⟨rfl,_⟩ <;> rfl
    have hdm:48000 / a ≤ 48000:=Nat.div_le_self _ _
    have hpm:p * (48000 / a) ≤ 256 * 48000:=Nat.mul_le_mul (by omega) hdm
    rw [e1,Option.bind_some,if_pos rfl,q5,Option.bind_some,Option.bind_some,idx30,idx32,Option.bind_some,Option.bind_some,decide_eq_false (show ¬ (cst y).1 < 1 by omega),show (!true) = false from rfl,if_pos rfl,show (y.1 == 2) = true by simpa using hs,if_pos rfl,Option.bind_some,Option.bind_some,if_pos rfl,show (y.1 != 2) = false by simpa using hs,if_neg (by decide),Option.bind_some,Option.bind_some,if_neg (by decide),if_pos rfl,Option.bind_some,quoS (by decide) (by omega) (by decide),Option.bind_some,ha,hp]
    have ez:((p:Int) * ((48000:Int) / (a:Int))) = ((p * (48000 / a):Nat):Int):=by rw [Int.natCast_mul,Int.natCast_ediv];rfl
    rw [ckS (by rw [ez];omega) (by rw [ez];omega),Option.bind_some,lenI_mk,Lk_len,min40 ez q2 q3 q4,if_pos rfl,p15_ok,Option.bind_some,Option.bind_some]
  · obtain ⟨c1,c2,_,_⟩:=cstL h0 hv hs
    obtain ⟨a,ha⟩:=Int.eq_ofNat_of_zero_le (show 0 ≤ (cst y).2.2 by omega)
    have hM1:1 ≤ 10800 / a:=(Nat.le_div_iff_mul_le (by omega)).2 (by omega)
    have h8:=hv.2.2.2.2.2.2.2 hs
    have hpQ:p = 8 * (p / 8):=by
      rcases isP_cases hv.2.2.2.2.2.1 with q | q | q | q | q | q | q | q | q <;> omega
    have hp':y.2.2.2.2.1 = ((8 * (p / 8):Nat):Int):=by rw [← hpQ];exact hp
    obtain ⟨r,j,q1,q2,q3,q4,q5⟩:=rest 8 (10800 / a) (p / 8) (fun k=>fst_next (.inr rfl) hM1 hp' fun q hq=>ph_slow h0 hv hs hp' ha rfl hM1 k q hq)
    rw [q1,Option.bind_some]
    simp only
    have e1:(if (r != 0) = true then some (r != 14) else some false) = some false:=by
      rcases q4 with ⟨rfl,_⟩ | ⟨rfl,_⟩ <;> rfl
    have hdm:10800 / a ≤ 10800:=Nat.div_le_self _ _
    have hpm:p / 8 * (10800 / a) ≤ 256 * 10800:=Nat.mul_le_mul (by omega) hdm
    rw [e1,Option.bind_some,if_pos rfl,q5,Option.bind_some,Option.bind_some,idx30,idx32,Option.bind_some,Option.bind_some,decide_eq_false (show ¬ (cst y).2.2 < 1 by omega),show (!true) = false from rfl,if_pos rfl,show (y.1 == 2) = false by simpa using hs,if_neg (by decide),Option.bind_some,Option.bind_some,if_pos rfl,show (y.1 != 2) = true by simpa using hs,if_pos rfl,Option.bind_some,Option.bind_some,if_neg (by decide),if_neg (by decide),quoS (by omega) (by decide) (by omega),Option.bind_some,Option.bind_some,quoS (by decide) (by omega) (by decide),Option.bind_some,ha,hp]
    have ez:(((p:Int) / 8) * ((10800:Int) / (a:Int))) = ((p / 8 * (10800 / a):Nat):Int):=by rw [Int.natCast_mul,Int.natCast_ediv,Int.natCast_ediv];rfl
    rw [ckS (by rw [ez];omega) (by rw [ez];omega),Option.bind_some,lenI_mk,Lk_len,min40 ez q2 q3 q4,if_pos rfl,p15_ok,Option.bind_some,Option.bind_some]
end Go.Proofs.Ytaekmgpcdgmlgaa
