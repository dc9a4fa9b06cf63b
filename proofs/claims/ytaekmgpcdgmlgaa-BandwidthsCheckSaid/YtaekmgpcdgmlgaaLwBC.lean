/- BandwidthsCheck in plain words. Plain theorems, no condition. -/
import Derived.Test.YtaekmgpcdgmlgaaBW6
import Derived.Test.YtaekmgpcdgmlgaaXE16
import Derived.Test.YtaekmgpcdgmlgaaPc1
set_option linter.unusedVariables false
set_option linter.unusedSimpArgs false
namespace Go.Proofs.Ytaekmgpcdgmlgaa
open Go.RowKit

def L16 (n:Nat) (x:Nd) (m:Nat) (c:Int):Prop:=∃ r,p16_l1 n x m c = some r ∧ (r = x.2.2.2.2.1 ↔ isP x.2.2.2.2.1 = true ∧ c ≤ x.2.2.2.2.1)
theorem isP_dbl {c p:Int} (hc:isP c = true) (hp:isP p = true) (h:c < p):2 * c ≤ p:=by
  rcases isP_cases hc with rfl | rfl | rfl | rfl | rfl | rfl | rfl | rfl | rfl <;> rcases isP_cases hp with rfl | rfl | rfl | rfl | rfl | rfl | rfl | rfl | rfl <;> omega
theorem l16_step {n:Nat} {x:Nd} {c:Int} (hc:isP c = true) (hc2:c < 256) {m:Nat} (ih:L16 n x m (2 * c)):L16 n x (m + 1) c:=by
  obtain ⟨r,h1,h2⟩:=ih
  unfold L16
  rw [p16_l1,andS,Option.bind_some,decide_eq_true hc2,Bool.and_true]
  have hr:=isP_range hc
  by_cases h:c < x.2.2.2.2.1
  · rw [decide_eq_true h,if_pos rfl,ckS (by omega) (by omega),Option.bind_some]
    refine ⟨r,h1,h2.trans ⟨fun q=>⟨q.1,by omega⟩,fun q=>⟨q.1,isP_dbl hc q.1 h⟩⟩⟩
  · rw [decide_eq_false h,if_neg (by decide)]
    refine ⟨c,rfl,⟨fun q=>⟨by rw [← q];exact hc,by omega⟩,fun q=>by omega⟩⟩
theorem l16_end {n:Nat} {x:Nd} {m:Nat}:L16 n x (m + 1) 256:=by
  unfold L16
  rw [p16_l1,andS,Option.bind_some,show (decide ((256:Int) < 256)) = false from rfl,Bool.and_false,if_neg (by decide)]
  refine ⟨256,rfl,⟨fun q=>⟨by rw [← q];rfl,by omega⟩,fun q=>by have:=isP_range q.1;omega⟩⟩
theorem l16_8 (n:Nat) (x:Nd) (m:Nat):L16 n x (m + 6) 8 :=
  l16_step (c:=8) rfl (by decide) (l16_step (c:=16) rfl (by decide) (l16_step (c:=32) rfl (by decide) (l16_step (c:=64) rfl (by decide) (l16_step (c:=128) rfl (by decide) l16_end))))
theorem l16_1 (n:Nat) (x:Nd) (m:Nat):L16 n x (m + 9) 1 :=
  l16_step (c:=1) rfl (by decide) (l16_step (c:=2) rfl (by decide) (l16_step (c:=4) rfl (by decide) (l16_8 n x m)))
theorem p16_eq {n:Nat} (hn:20 ≤ n) (x:Nd) (h0:0 ≤ x.1) (hh:0 ≤ x.2.2.2.2.2):p16 n x = some (decide (VN x)):=by
  obtain ⟨k,rfl⟩:∃ k,n = k + 9:=⟨n - 9,by omega⟩
  unfold p16
  rw [andS,Option.bind_some,orS,Option.bind_some,orS,Option.bind_some,orS,Option.bind_some,orS,Option.bind_some,andS,Option.bind_some,orS,Option.bind_some]
  by_cases hq:(x.2.1 = 3 ∨ x.2.1 = 1) ∧ x.1 ≤ 2 ∧ 0 ≤ x.2.2.2.1 ∧ x.2.2.2.1 ≤ 1024 ∧ x.2.2.2.2.2 ≤ 127 ∧ (x.1 = 2 → x.2.2.2.2.2 = 0)
  · obtain ⟨hk,hsp,hm0,hm1,hb,h2⟩:=hq
    have e1:(x.2.1 != 3 && x.2.1 != 1) = false:=by rcases hk with e | e <;> rw [e] <;> rfl
    have e2:((x.1 == 2) && decide (x.2.2.2.2.2 > 0)) = false:=by
      by_cases h:x.1 = 2
      · rw [decide_eq_false (by have:=h2 h;omega),Bool.and_false]
      · rw [show (x.1 == 2) = false by simpa using h,Bool.false_and]
    rw [e1,e2,decide_eq_false (show ¬ x.1 > 2 by omega),decide_eq_false (show ¬ x.2.2.2.1 < 0 by omega),decide_eq_false (show ¬ x.2.2.2.1 > 1024 by omega),decide_eq_false (show ¬ x.2.2.2.2.2 > 127 by omega)]
    rw [show (false || false || false || false || false || false) = false from rfl,if_neg (by decide),p33_eq _ x.2.2.1 x.2.1 x.2.2.2.1 x.1 hk h0 hsp hm0 hm1,Option.bind_some]
    have key:∀ c:Int,L16 (k + 9) x (k + 9) c → (x.1 = 2 → c = 1) → (x.1 ≠ 2 → c = 8) → ((p16_l1 (k + 9) x (k + 9) c).bind fun y_37=>(if (y_37 == x.2.2.2.2.1) = true then some (decide (1 ≤ x.2.2.2.1 ∧ x.2.2.2.1 ≤ capN x.2.1 x.1)) else some false).bind fun q_49=>some q_49) = some (decide (VN x)):=by
      rintro c ⟨r,q1,q2⟩ c1 c2
      rw [q1,Option.bind_some,andS,Option.bind_some]
      refine congrArg some ?_
      rw [Bool.eq_iff_iff,Bool.and_eq_true,beq_iff_eq,decide_eq_true_eq,decide_eq_true_eq,q2]
      constructor
      · rintro ⟨⟨a1,a2⟩,a3,a4⟩
        exact ⟨hk,hsp,a3,a4,hb,a1,h2,fun hne=>by have:=c2 hne;omega⟩
      · intro hv
        have hr:=isP_range hv.2.2.2.2.2.1
        refine ⟨⟨hv.2.2.2.2.2.1,?_⟩,hv.2.2.1,hv.2.2.2.1⟩
        by_cases h:x.1 = 2
        · have:=c1 h;omega
        · have:=c2 h;have:=hv.2.2.2.2.2.2.2 h;omega
    by_cases h:x.1 = 2
    · rw [if_neg (by simpa using h),Option.bind_some]
      exact key 1 (l16_1 _ x k) (fun _=>rfl) (fun c=>absurd h c)
    · rw [if_pos (by simpa using h),Option.bind_some]
      exact key 8 (l16_8 _ x (k + 3)) (fun c=>absurd c h) (fun _=>rfl)
  · have hb:(x.2.1 != 3 && x.2.1 != 1 || decide (x.1 > 2) || decide (x.2.2.2.1 < 0) || decide (x.2.2.2.1 > 1024) || decide (x.2.2.2.2.2 > 127) || ((x.1 == 2) && decide (x.2.2.2.2.2 > 0))) = true:=by
      rw [← Bool.not_eq_false]
      intro h
      simp only [Bool.or_eq_false_iff,Bool.and_eq_false_iff,bne_eq_false_iff_eq,decide_eq_false_iff_not,beq_eq_false_iff_ne] at h
      exact hq ⟨h.1.1.1.1.1,by omega,by omega,by omega,by omega,fun e=>by rcases h.2 with q | q;exact absurd e q;omega⟩
    have hV:¬ VN x:=fun h=>by
      have h1:=capN_le x.2.1 x.1
      have h2:1 ≤ x.2.2.2.1:=h.2.2.1
      have h3:x.2.2.2.1 ≤ capN x.2.1 x.1:=h.2.2.2.1
      exact hq ⟨h.1,h.2.1,by omega,by omega,h.2.2.2.2.1,h.2.2.2.2.2.2.1⟩
    rw [hb,if_pos rfl,decide_eq_false hV]

/-! ### The slots that are tried -/
def Sg (s:Slt):Prop:=0 ≤ s.2.1.1 ∧ 0 ≤ s.2.1.2.2.2.2.2 ∧ s.2.2 ≤ 9223372036854775807
def PL (l:List Slt):Prop:=l.length ≤ 260 ∧ ∀ s ∈ l,Sg s
theorem p4_l2_eq (n:Nat) (x:Sl Slt) (hx:∀ s ∈ x.xs,Sg s) (hxl:x.xs.length ≤ 12) (c:Int) (h0:0 ≤ c) (h1:c ≤ 300):∀ (m k:Nat) (l:List Slt),x.xs.length - k < m → k ≤ x.xs.length → PL l → ∃ l',p4_l2 n x c m k l = some l' ∧ PL l':=by
  intro m
  induction m with
  | zero=>intro k l hm;exact absurd hm (by omega)
  | succ m ih =>
    intro k l hm hk hl
    rw [p4_l2,andS,Option.bind_some,len_def,lenI_mk]
    by_cases hq:(k:Int) < (x.xs.length:Int) ∧ (l.length:Int) < 260
    · have hlt:k < x.xs.length:=by omega
      have hg:=hx x.xs[k] (List.getElem_mem hlt)
      have fin:∀ s:Slt,Sg s → ∃ l',((some s).bind fun j_93=>(appI l [j_93]).bind fun l_109=>(ckI .i64 ((k:Int) + 1)).bind fun x_116=>p4_l2 n x c m x_116 l_109) = some l' ∧ PL l':=by
        intro s hs
        rw [Option.bind_some,appI_ok (by simp only [List.length_singleton];omega),Option.bind_some,ckS (by omega) (by omega),Option.bind_some,castS]
        refine ih (k + 1) _ (by omega) (by omega) ⟨by simp;omega,fun y hy=>?_⟩
        rcases List.mem_append.1 hy with h | h
        · exact hl.2 y h
        · rw [List.mem_singleton.1 h];exact hs
      rw [decide_eq_true hq.1,decide_eq_true hq.2,show (true && true) = true from rfl,if_pos rfl,idxE hlt,Option.bind_some,andS,Option.bind_some,andS,Option.bind_some]
      by_cases hc:(decide (c > 0) && decide (x.xs[k].1 ≥ 0) && decide (x.xs[k].1 < 1000)) = true
      · rw [if_pos hc]
        simp only [Bool.and_eq_true,decide_eq_true_eq] at hc
        rw [ckS (by omega) (by omega),Option.bind_some,ckS (by omega) (by omega),Option.bind_some]
        exact fin _ hg
      · rw [if_neg hc]
        exact fin _ hg
    · have:(decide ((k:Int) < (x.xs.length:Int)) && decide ((l.length:Int) < 260)) = false:=by
        rw [Bool.and_eq_false_iff,decide_eq_false_iff_not,decide_eq_false_iff_not];omega
      rw [this,if_neg (by decide)]
      exact ⟨l,rfl,hl⟩
theorem p4_l1_eq {n:Nat} (hn:20 ≤ n) (x:Sl Slt) (hx:∀ s ∈ x.xs,Sg s) (hxl:x.xs.length ≤ 12) (x1:Int) (hx1:0 ≤ x1 ∧ x1 ≤ 65535):∀ (m c:Nat) (l:List Slt),301 - c < m → c ≤ 301 → PL l → ∃ l',p4_l1 n x x1 m c l = some l' ∧ PL l':=by
  intro m
  induction m with
  | zero=>intro k l hm;exact absurd hm (by omega)
  | succ m ih =>
    intro c l hm hk hl
    have a1:=Int.emod_nonneg x1 (show (300:Int) ≠ 0 by decide)
    have a2:=Int.emod_lt_of_pos x1 (show (0:Int) < 300 by decide)
    rw [p4_l1,remI_ok hx1.1 (by decide) (inR_u16.2 ⟨a1,by omega⟩),Option.bind_some,ckS (by omega) (by omega),Option.bind_some,andS,Option.bind_some,lenI_mk]
    by_cases hq:(c:Int) < 1 + x1 % 300 ∧ (l.length:Int) < 260
    · rw [decide_eq_true hq.1,decide_eq_true hq.2,show (true && true) = true from rfl,if_pos rfl]
      obtain ⟨l',h1,h2⟩:=p4_l2_eq n x hx hxl c (by omega) (by omega) n 0 l (by omega) (by omega) hl
      rw [show ((0:Nat):Int) = 0 from rfl] at h1
      rw [h1,Option.bind_some,ckS (by omega) (by omega),Option.bind_some,castS]
      exact ih (c + 1) l' (by omega) (by omega) h2
    · have:(decide ((c:Int) < 1 + x1 % 300) && decide ((l.length:Int) < 260)) = false:=by
        rw [Bool.and_eq_false_iff,decide_eq_false_iff_not,decide_eq_false_iff_not];omega
      rw [this,if_neg (by decide)]
      exact ⟨l,rfl,hl⟩
/-! ### Good slots, and ids that stand twice -/
theorem p4_l4_eq (n:Nat) (l:List Slt) (j:Nat) (hj:j ≤ l.length) (hl:l.length ≤ 300) (y:Slt):∀ (m k:Nat) (b:Bool),j - k < m → k ≤ j →
    p4_l4 n l j y m k b = some (b || ((l.take j).drop k).any fun s=>s.1 == y.1):=by
  intro m
  induction m with
  | zero=>intro k b hm;exact absurd hm (by omega)
  | succ m ih =>
    intro k b hm hk
    rw [p4_l4]
    by_cases hlt:k < j
    · have hkl:k < (l.take j).length:=by simp;omega
      rw [ifDT (by omega),idxE (show k < l.length by omega),Option.bind_some,orS,Option.bind_some,ckS (by omega) (by omega),Option.bind_some,castS,ih (k + 1) _ (by omega) (by omega),drop_cons hkl,List.any_cons,Bool.or_assoc,List.getElem_take]
    · have he:k = j:=by omega
      subst he
      rw [ifDF (by omega),List.drop_eq_nil_of_le (by simp;omega),List.any_nil,Bool.or_false]
def AllS (zs:List Slt):Prop:=∀ s ∈ zs,VS s
instance (zs:List Slt):Decidable (AllS zs):=by unfold AllS;infer_instance
theorem AllS_cons {s:Slt} {zs:List Slt}:AllS (s :: zs) ↔ VS s ∧ AllS zs:=by unfold AllS;exact List.forall_mem_cons
theorem good_eq {n:Nat} (hn:20 ≤ n) (s:Slt) (hs:Sg s) (g:Bool) {β:Type} (f:Bool → Option β) :
    ((if g = true then some (decide (s.1 ≥ 0)) else some false).bind fun q_149=>(if q_149 = true then (p16 n s.2.1).bind fun t_155=>some t_155 else some false).bind fun q_152=>(if q_152 = true then some (decide (s.2.2 ≥ 0)) else some false).bind fun q_161=>(if q_161 = true then some (decide (s.2.2 < s.2.1.2.2.2.2.1)) else some false).bind fun q_164=>(if q_164 = true then (if (s.2.1.1 == 2) = false then (remI .i64 s.2.2 8).bind fun x_175=>some (decide (x_175 < 4)) else some true).bind fun q_172=>some q_172 else some false).bind f) = f (g && decide (VS s)):=by
  rw [p16_eq hn s.2.1 hs.1 hs.2.1,andS,Option.bind_some,Option.bind_some,andS,Option.bind_some,andS,Option.bind_some,andS,Option.bind_some]
  by_cases hq:(g && decide (s.1 ≥ 0) && decide (VN s.2.1) && decide (s.2.2 ≥ 0) && decide (s.2.2 < s.2.1.2.2.2.2.1)) = true
  · rw [if_pos hq]
    simp only [Bool.and_eq_true,decide_eq_true_eq] at hq
    rw [remS hq.1.2 (by decide) hs.2.2,Option.bind_some,orS,Option.bind_some,Option.bind_some]
    refine congrArg f ?_
    rw [hq.1.1.1.1,Bool.true_and,Bool.eq_iff_iff,Bool.or_eq_true,beq_iff_eq,decide_eq_true_eq,decide_eq_true_eq]
    constructor
    · intro h
      exact ⟨hq.1.1.1.2,hq.1.1.2,hq.1.2,hq.2,by rcases h with h | h;exact .inl h;exact .inr (by omega)⟩
    · intro h
      rcases h.2.2.2.2 with q | q
      · exact .inl q
      · exact .inr (by omega)
  · rw [if_neg hq,Option.bind_some]
    refine congrArg f ?_
    have hn':¬ (g && decide (VS s)) = true:=fun h=>hq (by
      simp only [Bool.and_eq_true,decide_eq_true_eq] at h ⊢
      exact ⟨⟨⟨⟨h.1,h.2.1⟩,h.2.2.1⟩,h.2.2.2.1⟩,h.2.2.2.2.1⟩)
    rw [Bool.eq_false_iff.2 hn']
theorem p4_l3_eq {n:Nat} (hn:320 ≤ n) (l:List Slt) (hl:PL l):∀ (m k:Nat) (t g:Bool),l.length - k < m → k ≤ l.length → t = !decide (((l.take k).map (·.1)).Nodup) →
    p4_l3 n l m k t g = some (g && decide (AllS (l.drop k)),!decide ((l.map (·.1)).Nodup)):=by
  have hll:=hl.1
  intro m
  induction m with
  | zero=>intro k t g hm;exact absurd hm (by omega)
  | succ m ih =>
    intro k t g hm hk ht
    rw [p4_l3,lenI_mk]
    by_cases hlt:k < l.length
    · rw [ifDT (by omega),idxE hlt,Option.bind_some,good_eq (by omega) l[k] (hl.2 _ (List.getElem_mem hlt)) g]
      have h4:=p4_l4_eq n l k hk (by omega) l[k] n 0 t (by omega) (by omega)
      rw [show ((0:Nat):Int) = 0 from rfl,List.drop_zero] at h4
      rw [h4,Option.bind_some,ckS (by omega) (by omega),Option.bind_some,castS,ih (k + 1) _ _ (by omega) (by omega),drop_cons hlt,Bool.and_assoc,← Bool.decide_and]
      · refine congrArg some (Prod.ext ?_ rfl)
        simp only
        rw [decide_eq_decide.2 AllS_cons.symm]
      · rw [ht,take_succ_eq hlt,List.map_append,Bool.eq_iff_iff,Bool.or_eq_true,Bool.not_eq_true',Bool.not_eq_true',decide_eq_false_iff_not,decide_eq_false_iff_not,List.any_eq_true,List.nodup_append,List.map_cons,List.map_nil]
        constructor
        · rintro (h | ⟨s,h1,h2⟩)
          · exact fun q=>h q.1
          · exact fun q=>q.2.2 _ (List.mem_map.2 ⟨s,h1,rfl⟩) _ (List.mem_singleton.2 rfl) (eq_of_beq h2)
        · intro h
          by_cases h1:((l.take k).map (·.1)).Nodup
          · refine .inr ?_
            by_cases h2:∃ s ∈ l.take k,(s.1 == l[k].1) = true
            · exact h2
            · refine absurd ⟨h1,by simp,fun a ha b hb=>?_⟩ h
              obtain ⟨s,hs,rfl⟩:=List.mem_map.1 ha
              rw [List.mem_singleton.1 hb]
              exact fun e=>h2 ⟨s,hs,by rw [beq_iff_eq];exact e⟩
          · exact .inl h1
    · have he:k = l.length:=by omega
      subst he
      rw [ifDF (by omega),List.drop_eq_nil_of_le (Nat.le_refl _),decide_eq_true (show AllS [] from fun s hs=>(List.not_mem_nil hs).elim),Bool.and_true,ht,List.take_length]
theorem sg_of {s:Slt} (F:Fine gt6 s):Sg s:=by
  obtain ⟨_,⟨h1,_,_,_,_,h2⟩,h3⟩:=F
  exact ⟨(inR_u8.1 h1).1,(inR_u8.1 h2).1,(inR_i64.1 h3).2⟩
theorem lrP {α β:Type} (p:Prop) [Decidable p] (a:α) (b:β):(if p then some a else some a) = some a:=by split <;> rfl
theorem p4_law {x0:Sl Slt} {x1:Int} {x2:Slt} (F0:Fine (.sl gt6) x0) (G1:InR .u16 x1) (F2:Fine gt6 x2):p4 6000 x0 x1 x2 = some true:=by
  unfold p4
  rw [len_def]
  by_cases h12:(x0.xs.length:Int) > 12
  · rw [ifDT h12,p15_ok,Option.bind_some]
  · rw [ifDF h12]
    have hs2:=sg_of F2
    obtain ⟨l,h1,hl⟩:=p4_l1_eq (n:=6000) (by decide) x0 (fun s hs=>sg_of (F0.2.2 s hs)) (by omega) x1 (inR_u16.1 G1) 6000 0 [] (by omega) (by omega) ⟨by decide,fun s hs=>(List.not_mem_nil hs).elim⟩
    rw [show ((0:Nat):Int) = 0 from rfl] at h1
    have h3:=p4_l3_eq (n:=6000) (by decide) l hl 6000 0 false true (by have:=hl.1;omega) (by omega) (by simp)
    rw [show ((0:Nat):Int) = 0 from rfl,List.drop_zero,Bool.true_and] at h3
    have hll:=hl.1
    have hg:∀ s ∈ l,0 ≤ s.2.1.1:=fun s hs=>(hl.2 s hs).1
    rw [h1,Option.bind_some,h3,Option.bind_some]
    simp only
    have hchk:(if decide (lenI (⟨l,.none⟩:Sl Slt) > 256) = true then some (3:Int) else (if (!decide (AllS l)) = true then some 1 else (if (!decide ((l.map (·.1)).Nodup)) = true then some 8 else (p17 6000 (⟨l,.none⟩:Sl Slt)).bind fun t_423=>(if (!t_423) = true then some 14 else some 0).bind fun j_428=>some j_428).bind fun j_419=>some j_419).bind fun j_407=>some j_407) = some (chk l):=by
      unfold chk
      rw [lenI_mk]
      by_cases c1:l.length > 256
      · rw [ifDT (by omega),if_pos c1]
      · rw [ifDF (by omega),if_neg c1]
        by_cases c2:AllS l
        · rw [decide_eq_true c2,if_neg (by decide),if_neg (show ¬ ¬ ∀ s ∈ l,VS s from fun q=>q c2)]
          by_cases c3:(l.map (·.1)).Nodup
          · rw [decide_eq_true c3,if_neg (by decide),if_neg (fun q=>q c3),p17_eq (by decide) ⟨l,.none⟩ (fun s hs=>⟨hg s hs,c2 s hs⟩) (by simp only;omega),Option.bind_some]
            by_cases c4:RoomA l l
            · rw [decide_eq_true c4,if_neg (by decide),if_neg (show ¬ ¬ ∀ s ∈ l,RoomT l ∧ RoomF l s.2.1.2.2.2.2.2 from fun q=>q c4)];rfl
            · rw [decide_eq_false c4,if_pos (show (!false) = true from rfl),if_pos (show ¬ ∀ s ∈ l,RoomT l ∧ RoomF l s.2.1.2.2.2.2.2 from c4)];rfl
          · rw [decide_eq_false c3,if_pos (show (!false) = true from rfl),if_pos c3];rfl
        · rw [decide_eq_false c2,if_pos (show (!false) = true from rfl),if_pos (show ¬ ∀ s ∈ l,VS s from c2)];rfl
    rw [hchk,Option.bind_some,p18_eq (by decide) ⟨l,.none⟩ hg (by simp only;omega),Option.bind_some,if_neg (by simp)]
    obtain ⟨s,hs⟩:=p19_eq (n:=6000) (by decide) (⟨l,.none⟩:Sl Slt) x2.1 (by simp only;omega)
    rw [hs,Option.bind_some,p11_eq (by decide) ⟨l,.none⟩ hg (by simp only;omega) x2.1 x2.2.1 hs2.1,Option.bind_some,p16_eq (by decide) x2.2.1 hs2.1 hs2.2.1,Option.bind_some,orS,Option.bind_some,lenI_mk]
    simp only
    unfold addR
    by_cases c0:chk l = 0
    · rw [if_pos (show (chk l == 0) = true by simpa using c0),if_neg (show ¬ chk l ≠ 0 from fun k=>k c0)]
      by_cases c1:x2.1 < 0 ∨ ¬ VN x2.2.1
      · rw [if_pos c1,if_pos (by rcases c1 with h | h;rw [decide_eq_true h,Bool.true_or];rw [decide_eq_false h,Bool.not_false,Bool.or_true]),Option.bind_some,Option.bind_some]
        simp only
        rw [if_pos (by decide),show ((1:Int) == 1) = true from rfl,if_pos rfl,show (lenI nilS == 0) = true from rfl,Option.bind_some,if_pos rfl,p15_ok,Option.bind_some,Option.bind_some]
      · rw [if_neg c1,if_neg (by rw [decide_eq_false (fun h=>c1 (.inl h)),decide_eq_true (Decidable.not_not.1 fun h=>c1 (.inr h))];decide)]
        by_cases c2:hasId l x2.1 = true
        · rw [if_pos c2,if_pos c2,Option.bind_some,Option.bind_some,Option.bind_some]
          simp only
          rw [if_pos (by decide),show ((8:Int) == 8) = true from rfl,if_pos rfl,show (lenI nilS == 0) = true from rfl,Option.bind_some,if_pos rfl,p15_ok,Option.bind_some,Option.bind_some]
        · rw [if_neg c2,if_neg c2]
          by_cases c3:l.length = 256
          · rw [if_pos c3,if_pos (show ((l.length:Int) == 256) = true by rw [beq_iff_eq];omega),Option.bind_some,Option.bind_some,Option.bind_some,Option.bind_some]
            simp only
            rw [if_pos (by decide),show ((3:Int) == 3) = true from rfl,if_pos rfl,show (lenI nilS == 0) = true from rfl,Option.bind_some,if_pos rfl,p15_ok,Option.bind_some,Option.bind_some]
          · rw [if_neg c3,if_neg (show ¬ ((l.length:Int) == 256) = true by rw [beq_iff_eq];omega),Option.bind_some,Option.bind_some,Option.bind_some,Option.bind_some,c0,if_neg (by decide)]
            cases fstPh l x2.2.1 0 with
            | some q =>
              simp only
              rw [show ((0:Int) == 0) = true from rfl,if_neg (by decide),Option.bind_some,if_pos rfl,p15_ok,Option.bind_some,Option.bind_some]
            | none =>
              simp only
              rw [show ((14:Int) == 0) = false from rfl,if_pos rfl,show ((14:Int) == 14) = true from rfl,Option.bind_some,if_pos rfl,p15_ok,Option.bind_some,Option.bind_some]
    · rw [if_neg (show ¬ (chk l == 0) = true by simpa using c0),if_pos c0,Option.bind_some]
      simp only
      rw [if_pos (show (chk l != 0) = true by simpa using c0),show (chk l == chk l) = true by simp,if_pos rfl,show (lenI nilS == 0) = true from rfl,Option.bind_some,if_pos rfl,p15_ok,Option.bind_some,Option.bind_some]
end Go.Proofs.Ytaekmgpcdgmlgaa
