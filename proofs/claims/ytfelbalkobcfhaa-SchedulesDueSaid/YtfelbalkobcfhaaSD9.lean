/- Plain theorems for the laws: what the plain functions say. No condition. -/
import Derived.Test.YtfelbalkobcfhaaP6
import Derived.Test.YtfelbalkobcfhaaLB1
set_option linter.unusedVariables false
set_option linter.unusedSimpArgs false
namespace Go.Proofs.Ytfelbalkobcfhaa
open Go.RowKit
theorem o_s {α β : Type} {a : α} {f : α→Option β} : (some a).bind f = f a := rfl
section
set_option maxRecDepth 100000
theorem p8_ok:p8 6000 = some true:=by kernel_rfl
end
theorem e_u {α:Type} {xs:List α} {i:Nat} (h:i < xs.length):idx xs (i:Int) = some xs[i]:=by
  rw [d_0,List.getElem?_eq_getElem h]
theorem a_9 {α:Type} (l:List α) (c:Option Nat):a_h (⟨l,c⟩:Sl α) = (l.length:Int):=rfl
theorem b_m {α:Type} (s:Sl α):a_h s = (s.xs.length:Int):=rfl
theorem b_O (k:Nat):((k:Int) + 1) = ((k + 1:Nat):Int):=by simp
theorem b_p {α:Type} {l:List α} {i:Nat} (h:i < l.length):l.drop i = l[i] :: l.drop (i + 1):=List.drop_eq_getElem_cons h
theorem c_a {α:Type} {l:List α} {k:Nat} (h:k < l.length):l.take (k + 1) = l.take k ++ [l[k]]:=by rw [List.take_add_one,List.getElem?_eq_getElem h];rfl
theorem sl3I_all {α:Type} (l:List α) (cp:Option Nat):sl3I (⟨l,cp⟩:Sl α) 0 (a_h (⟨l,cp⟩:Sl α)) (a_h (⟨l,cp⟩:Sl α)) = some ⟨l,some l.length⟩:=by
  unfold sl3I
  rw [a_9,if_pos (show (0:Int)≤0∧(0:Int)≤(l.length:Int)∧(l.length:Int)≤(l.length:Int)∧(l.length:Int)≤(l.length:Int) by omega)]
  simp
theorem c_i {α:Type} {p:Prop} [Decidable p] {a b:α} (h:p):(if decide p = true then a else b) = a:=by rw [decide_eq_true h];rfl
theorem c_b {α:Type} {p:Prop} [Decidable p] {a b:α} (h:¬ p):(if decide p = true then a else b) = b:=by rw [decide_eq_false h];rfl
theorem e_4 {α:Type} {x:Sl α} {i:Nat} (hi:i≤x.xs.length):∃ c,slI x 0 (i:Int) = some ⟨x.xs.take i,c⟩:=by
  unfold slI
  rw [if_pos (show (0:Int)≤0∧(0:Int)≤(i:Int)∧(i:Int)≤(x.xs.length:Int) by omega)]
  exact ⟨x.cap.map fun k=>k - (0:Int).toNat,by simp⟩
theorem e_5 {α:Type} {x:Sl α} {i:Nat} (hi:i≤x.xs.length):∃ c,slI x (i:Int) (a_h x) = some ⟨x.xs.drop i,c⟩:=by
  unfold slI
  rw [b_m,if_pos (show (0:Int)≤(i:Int)∧(i:Int)≤(x.xs.length:Int)∧(x.xs.length:Int)≤(x.xs.length:Int) by omega)]
  exact ⟨x.cap.map fun k=>k - (i:Int).toNat,by simp⟩
def at_ (o:Option Nat) (a:Int):Int:=match o with | some i=>(i:Int) | none=>a
abbrev Trn:=(Int × Int) × Int × Int
def TOk (x:Trn):Prop:=(0≤x.2.1∧x.2.1≤2)∧(0≤x.2.2∧x.2.2≤1000)
abbrev Nd:=Int × Int × Bool × Int × Int × Int
abbrev Slt:=Int × Nd × Int
def isP (p:Int):Bool:=p == 1 || p == 2 || p == 4 || p == 8 || p == 16 || p == 32 || p == 64 || p == 128 || p == 256
theorem c_E {p:Int} (h:isP p = true):p = 1∨p = 2∨p = 4∨p = 8∨p = 16∨p = 32∨p = 64∨p = 128∨p = 256:=by
  simp only [isP,Bool.or_eq_true,beq_iff_eq] at h
  omega
theorem a_Y {p:Int} (h:isP p = true):1≤p∧p≤256:=by have:=c_E h;omega
theorem isP_all:((List.range 257).all fun k=>Nat.beq k 0 || ((c_5 .and .i64 (k:Int) ((k:Int) - 1) == 0) == isP (k:Int))) = true:=by kernel_rfl
theorem and_isP {p:Int} (h1:1≤p) (h2:p≤256):(c_5 .and .i64 p (p - 1) == 0) = isP p:=by
  obtain ⟨k,rfl⟩:=Int.eq_ofNat_of_zero_le (by omega:0≤p)
  have:=List.all_eq_true.1 isP_all k (List.mem_range.2 (by omega))
  rw [Bool.or_eq_true] at this
  rcases this with h | h
  · have:=Nat.eq_of_beq_eq_true h;omega
  · simpa using h
def f_m (k sp:Int):Int:=if k = 1 then (if sp = 0 then 0 else if sp = 1 then 1023 else 1024) else (if sp = 0 then 8 else if sp = 1 then 64 else 1024)
theorem e_f (k sp:Int):f_m k sp≤1024:=by unfold f_m;repeat' split <;> omega
def VN (x:Nd):Prop:=(x.2.1 = 3∨x.2.1 = 1)∧x.1≤2∧1≤x.2.2.2.1∧x.2.2.2.1≤f_m x.2.1 x.1∧x.2.2.2.2.2≤127∧isP x.2.2.2.2.1 = true∧(x.1 = 2→x.2.2.2.2.2 = 0)∧(x.1≠2→8≤x.2.2.2.2.1)
instance (x:Nd):Decidable (VN x):=by unfold VN;infer_instance
theorem p53_eq (n:Nat) (i:Bool) (k mx sp:Int) (hk:k = 3∨k = 1) (h0:0≤sp) (h2:sp≤2) (hm0:0≤mx) (hm:mx≤1024):p53 n (1,i,k,IntKind.wrap .u16 mx,1) sp = some (decide (1≤mx∧mx≤f_m k sp)):=by
  rw [wrap_u16,Int.emod_eq_of_lt hm0 (by omega)]
  have h49:p63 n (1,i,k,mx,1) = some (decide (1≤mx)):=by
    unfold p63
    simp only
    rw [orS,o_s,orS,o_s,orS,o_s]
    by_cases h1:1≤mx
    · rw [decide_eq_true h1,decide_eq_false (show ¬ (1:Int) < 1 by omega),decide_eq_false (show ¬ (1:Int) > 15 by omega),decide_eq_false (show ¬ mx < 1 by omega),decide_eq_false (show ¬ mx > 1024 by omega)]
      rcases hk with rfl | rfl <;> rfl
    · rw [decide_eq_false h1,decide_eq_true (show mx < 1 by omega)]
      simp
  unfold p53
  rw [h49,o_s,orS,o_s,decide_eq_false (show ¬ sp > 2 by omega),Bool.or_false]
  by_cases h1:1≤mx
  · rw [decide_eq_true h1]
    have h50:∀ a b c:Int,p64 n a b c (1,i,k,mx,1) sp = some (decide (mx≤if sp = 0 then a else if sp = 1 then b else c)):=by
      intro a b c
      unfold p64
      have hsp:sp = 0∨sp = 1∨sp = 2:=by omega
      rcases hsp with rfl | rfl | rfl <;> rfl
    rcases hk with rfl | rfl
    · simp only [h50]
      rw [show (!true) = false from rfl,if_neg (by decide),show ((3:Int) == 1) = false from rfl,if_neg (by decide),show ((3:Int) == 3) = true from rfl,if_pos rfl,o_s,Option.bind_eq_some_iff]
      refine ⟨_,?_,rfl⟩
      have e:(1≤mx∧mx≤f_m 3 sp)↔mx≤if sp = 0 then 8 else if sp = 1 then 64 else 1024:=by simp [f_m,h1]
      rw [decide_eq_decide.2 e]
      by_cases hh:mx≤if sp = 0 then 8 else if sp = 1 then 64 else 1024
      · rw [decide_eq_true hh,if_pos rfl]
        by_cases hs:sp = 2
        · subst hs;rfl
        · rw [if_neg (by simpa using hs)];rfl
      · rw [decide_eq_false hh,if_neg (by decide)]
    · simp only [h50]
      rw [show (!true) = false from rfl,if_neg (by decide),show ((1:Int) == 1) = true from rfl,if_pos rfl,o_s]
      have e:(1≤mx∧mx≤f_m 1 sp)↔mx≤if sp = 0 then 0 else if sp = 1 then 1023 else 1024:=by simp [f_m,h1]
      rw [decide_eq_decide.2 e]
  · rw [decide_eq_false h1,show (!false) = true from rfl,if_pos rfl,decide_eq_false (fun h=>h1 h.1)]
theorem p37_eq (n:Nat) (x:Nd) (h0:0≤x.1):p37 n x = some (decide (VN x)):=by
  obtain ⟨sp,k,i,mx,per,hub⟩:=x
  unfold p37
  simp only at h0 ⊢
  rw [andS,o_s,orS,o_s,orS,o_s,orS,o_s,orS,o_s]
  by_cases hq:(k = 3∨k = 1)∧sp≤2∧0≤mx∧mx≤1024∧hub≤127
  · obtain ⟨hk,hsp,hm0,hm1,hh⟩:=hq
    have e1:(k != 3 && k != 1) = false:=by rcases hk with rfl | rfl <;> rfl
    rw [e1,decide_eq_false (show ¬ sp > 2 by omega),decide_eq_false (show ¬ mx < 0 by omega),decide_eq_false (show ¬ mx > 1024 by omega),decide_eq_false (show ¬ hub > 127 by omega)]
    rw [show (false || false || false || false || false) = false from rfl,if_neg (by decide),p53_eq n i k mx sp hk h0 hsp hm0 hm1,o_s]
    by_cases hf:1≤mx∧mx≤f_m k sp
    · rw [decide_eq_true hf,show (!true) = false from rfl,if_neg (by decide),orS,o_s]
      by_cases hp:1≤per∧per≤256
      · rw [decide_eq_false (show ¬ per < 1 by omega),decide_eq_false (show ¬ per > 256 by omega),show (false || false) = false from rfl,if_pos rfl,ckS (by omega) (by omega),o_s,o_s]
        have hb:((c_5 .and .i64 per (per - 1)) != 0) = !isP per:=by rw [← and_isP hp.1 hp.2];rfl
        rw [hb]
        by_cases hi:isP per = true
        · rw [hi,show (!true) = false from rfl,if_neg (by decide)]
          by_cases h2:sp = 2
          · subst h2
            rw [show ((2:Int) == 2) = true from rfl,if_pos rfl]
            congr 1
            exact decide_eq_decide.2 ⟨fun e=>⟨hk,hsp,hf.1,hf.2,hh,hi,fun _=>e,fun c=>absurd rfl c⟩,fun h=>h.2.2.2.2.2.2.1 rfl⟩
          · rw [if_neg (by simpa using h2)]
            congr 1
            exact decide_eq_decide.2 ⟨fun e=>⟨hk,hsp,hf.1,hf.2,hh,hi,fun c=>absurd c h2,fun _=>e⟩,fun h=>h.2.2.2.2.2.2.2 h2⟩
        · have hV:¬ VN (sp,k,i,mx,per,hub):=fun h=>hi h.2.2.2.2.2.1
          rw [Bool.eq_false_iff.2 hi,show (!false) = true from rfl,if_pos rfl,decide_eq_false hV]
      · have hb:(decide (per < 1) || decide (per > 256)) = true:=by simp;omega
        have hV:¬ VN (sp,k,i,mx,per,hub):=fun h=>hp (a_Y h.2.2.2.2.2.1)
        rw [hb,if_neg (by decide),o_s,if_pos rfl,decide_eq_false hV]
    · have hV:¬ VN (sp,k,i,mx,per,hub):=fun h=>hf ⟨h.2.2.1,h.2.2.2.1⟩
      rw [decide_eq_false hf,show (!false) = true from rfl,if_pos rfl,decide_eq_false hV]
  · have hb:(k != 3 && k != 1 || decide (sp > 2) || decide (mx < 0) || decide (mx > 1024) || decide (hub > 127)) = true:=by
      rw [← Bool.not_eq_false]
      intro h
      simp only [Bool.or_eq_false_iff,Bool.and_eq_false_iff,bne_eq_false_iff_eq,decide_eq_false_iff_not] at h
      exact hq ⟨h.1.1.1.1,by omega,by omega,by omega,by omega⟩
    have hV:¬ VN (sp,k,i,mx,per,hub):=fun h=>by
      have h1:=e_f k sp
      have h2:1≤mx:=h.2.2.1
      have h3:mx≤f_m k sp:=h.2.2.2.1
      exact hq ⟨h.1,h.2.1,by omega,by omega,h.2.2.2.2.1⟩
    rw [hb,if_pos rfl,decide_eq_false hV]
def okPh (sp ph:Int):Prop:=sp = 2∨ph % 8≤3
instance (sp ph:Int):Decidable (okPh sp ph):=by unfold okPh;infer_instance
def VS (s:Slt):Prop:=0≤s.1∧VN s.2.1∧0≤s.2.2∧s.2.2 < s.2.1.2.2.2.2.1∧okPh s.2.1.1 s.2.2
instance (s:Slt):Decidable (VS s):=by unfold VS;infer_instance
theorem p20_eq (n:Nat) (s:Slt) (h0:0≤s.2.1.1):p20 n s = some (decide (VS s)):=by
  obtain ⟨id,x,ph⟩:=s
  unfold p20
  simp only at h0 ⊢
  rw [p37_eq n x h0,o_s]
  rw [orS,o_s,orS,o_s,orS,o_s]
  by_cases hq:0≤id∧VN x∧0≤ph∧ph < x.2.2.2.2.1
  · obtain ⟨h1,h2,h3,h4⟩:=hq
    have hp:=a_Y h2.2.2.2.2.2.1
    rw [decide_eq_false (show ¬ id < 0 by omega),decide_eq_true h2,decide_eq_false (show ¬ ph < 0 by omega),decide_eq_false (show ¬ ph ≥ x.2.2.2.2.1 by omega),show (false || !true || false || false) = false from rfl,if_neg (by decide),remS h3 (by decide) (by omega),o_s,orS,o_s]
    have e:((x.1 == 2) || decide (ph % 8≤3)) = decide (okPh x.1 ph):=by
      rw [Bool.eq_iff_iff,Bool.or_eq_true,beq_iff_eq,decide_eq_true_eq,decide_eq_true_eq];exact Iff.rfl
    rw [e]
    congr 1
    exact decide_eq_decide.2 ⟨fun h=>⟨h1,h2,h3,h4,h⟩,fun h=>h.2.2.2.2⟩
  · have hb:(decide (id < 0) || !decide (VN x) || decide (ph < 0) || decide (ph ≥ x.2.2.2.2.1)) = true:=by
      rw [← Bool.not_eq_false]
      intro h
      simp only [Bool.or_eq_false_iff,decide_eq_false_iff_not,Bool.not_eq_false',decide_eq_true_eq] at h
      exact hq ⟨by omega,h.1.1.2,by omega,by omega⟩
    have hV:¬ VS (id,x,ph):=fun h=>hq ⟨h.1,h.2.1,h.2.2.1,h.2.2.2.1⟩
    rw [hb,if_pos rfl,decide_eq_false hV]
def wst (n:Int):Int:=8 + 8 * n + (8 * n + 1) / 6 + 3
theorem p74_eq (n:Nat) (x:Int) (h0:0≤x) (h1:x≤2000):p74 n x = some (wst x):=by
  unfold p74
  rw [ckS (by omega) (by omega),o_s,ckS (by omega) (by omega),o_s,o_s,ckS (by omega) (by omega),o_s,quoS (by omega) (by decide) (by omega),o_s,ckS (by omega) (by omega),o_s,ckS (by omega) (by omega),o_s]
  rfl
theorem d_z {x:Int} (h0:0≤x) (h1:x≤2000):11≤wst x∧wst x≤20000:=by unfold wst;omega
def lst (l:List Int):Int:=(l.map fun x=>wst x + 8).sum
theorem p67_l1_eq (n:Nat) (s:Sl Int) (hs:s.xs.length≤10) (hr:∀ x ∈ s.xs,0≤x∧x≤2000):∀ (m k:Nat) (a:Int),k≤s.xs.length→s.xs.length - k < m→0≤a→a + 20008 * ((s.xs.length:Int) - k)≤9223372036854775807→p67_l1 n s m k a = some (a + lst (s.xs.drop k)):=by
  intro m
  induction m with
  | zero=>intro k a _ h;exact absurd h (by omega)
  | succ m ih =>
    intro k a hk hm ha hb
    unfold p67_l1
    rw [b_m]
    by_cases hlt:k < s.xs.length
    · have hx:=hr s.xs[k] (List.getElem_mem hlt)
      have hw:=d_z hx.1 hx.2
      rw [c_i (show (k:Int) < (s.xs.length:Int) by omega),e_u hlt,o_s,p74_eq n _ hx.1 hx.2,o_s,ckS (by omega) (by omega),o_s,ckS (by omega) (by omega),o_s,ckS (by omega) (by omega),o_s,b_O,ih (k + 1) _ (by omega) (by omega) (by omega) (by omega),b_p hlt]
      congr 1
      simp only [lst,List.map_cons,List.sum_cons]
      omega
    · rw [c_b (by omega),List.drop_eq_nil_of_le (by omega)]
      simp [lst]
theorem p67_eq {n:Nat} (hn:20≤n) (s:Sl Int) (hs:s.xs.length≤10) (hr:∀ x ∈ s.xs,0≤x∧x≤2000):p67 n s = some (lst s.xs):=by
  unfold p67
  rw [show (0:Int) = ((0:Nat):Int) from rfl,p67_l1_eq n s hs hr n 0 _ (by omega) (by omega) (by simp) (by simp;omega),o_s]
  simp
theorem p66_eq (n:Nat) (k mx:Int) (hk:k = 3∨k = 1) (h0:0≤mx) (h1:mx≤1024):p66 n k mx = some true:=by
  unfold p66
  rw [andS,o_s,andS,o_s,decide_eq_true (show k≤3 by omega),decide_eq_true (show mx ≥ 0 by omega),decide_eq_true h1];rfl
def c0 (sp k mx:Int):Int :=
  let a:=lst [3,mx + 3] + (if k = 1 then 0 else lst [1])
  if sp = 0 then a * 8 else a
def cS (k:Int) (i:Bool) (mx:Int):Int:=lst (if i then [4,3] else [4,3,mx + 3])
def cC (k:Int) (i:Bool) (mx:Int):Int:=if k = 1∧i = false then 0 else lst ([4,3] ++ (if i then [mx + 3] else []) ++ (if k = 1 then [] else [1]))
theorem p54_eq {n:Nat} (hn:20≤n) (sp k mx:Int) (hk:k = 3∨k = 1) (hs0:0≤sp) (hs:sp≤2) (h0:0≤mx) (h1:mx≤1024):p54 n sp k mx = some (c0 sp k mx,0):=by
  have w1:=d_z (x:=mx + 3) (by omega) (by omega)
  have e1:lst [3,mx + 3] = 47 + (wst (mx + 3) + 8):=by simp [lst];unfold wst;omega
  have e2:lst [1] = 28:=by decide
  unfold p54
  rw [p66_eq n k mx hk h0 h1,o_s,orS,o_s,decide_eq_false (show ¬ sp > 2 by omega),show (false || !true) = false from rfl,if_neg (by decide),ckS (by omega) (by omega),o_s,p67_eq hn _ (by simp) (by simp;omega),o_s]
  rw [p67_eq hn ⟨[1],some 1⟩ (by simp) (by simp),o_s]
  rw [e1,e2,ckS (by omega) (by omega),o_s]
  have hj:(if (k != 1) = true then some (47 + (wst (mx + 3) + 8) + 28) else some (47 + (wst (mx + 3) + 8))) = some (47 + (wst (mx + 3) + 8) + if k = 1 then 0 else 28):=by
    rcases hk with rfl | rfl <;> simp
  rw [hj,o_s]
  unfold c0
  rw [e1,e2]
  by_cases hz:sp = 0
  · subst hz
    rw [if_pos rfl,ckS (by split <;> omega) (by split <;> omega)]
    rfl
  · rw [if_neg (by simpa using hz)]
    simp only [if_neg hz]
    rfl
theorem p55_eq {n:Nat} (hn:20≤n) (k:Int) (i:Bool) (mx:Int) (hk:k = 3∨k = 1) (h0:0≤mx) (h1:mx≤1024):p55 n k i mx = some (cS k i mx,0):=by
  unfold p55
  rw [p66_eq n k mx hk h0 h1,o_s,show (!true) = false from rfl,if_neg (by decide)]
  unfold p68_69 p69_75 p75
  have hk0:(k == 0) = false:=by rcases hk with rfl | rfl <;> rfl
  have hk2:(k == 2) = false:=by rcases hk with rfl | rfl <;> rfl
  rw [ckS (by omega) (by omega)]
  cases i
  · rw [show (!false) = true from rfl,if_pos rfl,o_s,a_1 (by simp),o_s,o_s,o_s,orS,o_s,hk0,hk2,if_neg (by decide),o_s,o_s,p67_eq hn _ (by simp) (by simp;omega)]
    rfl
  · rw [show (!true) = false from rfl,if_neg (by decide),o_s,orS,o_s,hk0,hk2,if_neg (by decide),o_s,o_s,p67_eq hn _ (by simp) (by simp)]
    rfl
theorem p56_eq {n:Nat} (hn:20≤n) (k:Int) (i:Bool) (mx:Int) (hk:k = 3∨k = 1) (h0:0≤mx) (h1:mx≤1024):(p56 n k i mx).map (·.1) = some (cC k i mx):=by
  unfold p56
  rw [p66_eq n k mx hk h0 h1,o_s]
  unfold p68_70 p70_75 p75
  rw [ckS (by omega) (by omega)]
  rcases hk with rfl | rfl <;> cases i
  · simp only [show (!true) = false from rfl,show ((3:Int) == 1) = false from rfl,Bool.false_eq_true,if_false,if_true,o_s,show ((3:Int) != 1) = true from rfl]
    rw [a_1 (by simp)];simp only [o_s];rw [p67_eq hn _ (by simp) (by simp)]
    rfl
  · simp only [show (!true) = false from rfl,show ((3:Int) == 1) = false from rfl,Bool.false_eq_true,if_false,if_true,o_s,show ((3:Int) != 1) = true from rfl]
    rw [a_1 (by simp)];simp only [o_s];rw [a_1 (by simp)];simp only [o_s];rw [p67_eq hn _ (by simp) (by simp;omega)]
    rfl
  · rfl
  · simp only [show (!true) = false from rfl,show ((1:Int) == 1) = true from rfl,Bool.false_eq_true,if_false,if_true,o_s,show ((1:Int) != 1) = false from rfl]
    rw [a_1 (by simp)];simp only [o_s];rw [p67_eq hn _ (by simp) (by simp;omega)]
    rfl
def cst (x:Nd):Int × Int × Int:=if x.1 = 2 then (c0 2 x.2.1 x.2.2.2.1,0,0) else (cS x.2.1 x.2.2.1 x.2.2.2.1,cC x.2.1 x.2.2.1 x.2.2.2.1,c0 x.1 x.2.1 x.2.2.2.1)
theorem e_g (x:Int) (l:List Int):lst (x :: l) = wst x + 8 + lst l:=rfl
theorem e_Q:lst [] = 0:=rfl
theorem b_P {x:Nd} (h0:0≤x.1) (h:VN x):(0≤(cst x).1∧(cst x).1≤40000)∧(0≤(cst x).2.1∧(cst x).2.1≤40000)∧(0≤(cst x).2.2∧(cst x).2.2≤40000):=by
  obtain ⟨sp,k,i,mx,per,hub⟩:=x
  obtain ⟨hk,hs,h1,h2,_⟩:=h
  simp only at hk hs h1 h2 h0
  have hc:=e_f k sp
  have w1:=d_z (x:=mx + 3) (by omega) (by omega)
  have w2:wst 3 = 39:=by decide
  have w3:wst 4 = 48:=by decide
  have w4:wst 1 = 20:=by decide
  have w5:sp = 0→wst (mx + 3)≤200:=by
    intro e
    subst e
    have:mx≤8:=by rcases hk with rfl | rfl <;> simp [f_m] at h2 <;> omega
    unfold wst;omega
  unfold cst c0 cS cC
  simp only [e_g,e_Q]
  rcases hk with rfl | rfl <;> cases i <;> by_cases e0:sp = 0 <;> by_cases e2:sp = 2 <;> simp only [e0,e2,if_true,if_false,e_g,e_Q,List.cons_append,List.nil_append,List.append_nil] <;> simp [e_g,e_Q] <;> (try have:=w5 e0) <;> omega
theorem p38_eq {n:Nat} (hn:20≤n) (x:Nd) (h0:0≤x.1) (h:VN x):p38 n x = some (cst x):=by
  obtain ⟨sp,k,i,mx,per,hub⟩:=x
  obtain ⟨hk,hs,h1,h2,_⟩:=h
  simp only at hk hs h1 h2 h0
  have hc:=e_f k sp
  unfold p38 cst
  simp only
  rw [p54_eq hn sp k mx hk h0 hs (by omega) (by omega),o_s]
  by_cases e:sp = 2
  · subst e;rfl
  · rw [if_neg (by simpa using e),if_neg e,p55_eq hn k i mx hk (by omega) (by omega),o_s]
    have:=p56_eq hn k i mx hk (by omega) (by omega)
    cases hp:p56 n k i mx with
    | none=>rw [hp] at this;cases this
    | some r =>
      rw [hp] at this
      have e2:r.1 = cC k i mx:=Option.some.inj this
      rw [o_s,e2]
def due (per ph t:Int):Bool:=decide (0≤t∧t % per = ph)
theorem p58_eq (n:Nat) (per ph:Int):p58 n per ph = some (decide (isP per = true∧0≤ph∧ph < per)):=by
  unfold p58
  rw [andS,o_s]
  by_cases hp:1≤per∧per≤256
  · rw [decide_eq_true (show per ≥ 1 from hp.1),decide_eq_true hp.2,show (true && true) = true from rfl,if_pos rfl,ckS (by omega) (by omega),o_s,o_s,and_isP hp.1 hp.2,andS,o_s,andS,o_s]
    congr 1
    rw [Bool.eq_iff_iff]
    simp only [Bool.and_eq_true,decide_eq_true_eq]
    constructor
    · rintro ⟨⟨a,b⟩,c⟩;exact ⟨a,b,c⟩
    · rintro ⟨a,b,c⟩;exact ⟨⟨a,b⟩,c⟩
  · have hb:(decide (per ≥ 1) && decide (per≤256)) = false:=by rw [Bool.and_eq_false_iff,decide_eq_false_iff_not,decide_eq_false_iff_not];omega
    have hV:¬ (isP per = true∧0≤ph∧ph < per):=fun h=>hp (a_Y h.1)
    rw [hb,if_neg (by decide),o_s,if_neg (by decide),o_s,if_neg (by decide),o_s,decide_eq_false hV]
theorem p44_eq (n:Nat) (per ph t:Int) (hp:isP per = true) (h0:0≤ph) (h1:ph < per) (ht:t≤9223372036854775807):p44 n per ph t = some (due per ph t):=by
  have hr:=a_Y hp
  unfold p44
  rw [p58_eq,o_s,decide_eq_true (⟨hp,h0,h1⟩:isP per = true∧0≤ph∧ph < per),if_pos rfl,o_s]
  by_cases h:0≤t
  · rw [decide_eq_true (show t ≥ 0 from h),if_pos rfl,remS h (by omega) ht,o_s,o_s]
    congr 1
    exact decide_eq_decide.2 ⟨fun e=>⟨h,e⟩,fun e=>e.2⟩
  · rw [decide_eq_false (show ¬ t ≥ 0 from h),if_neg (by decide),o_s]
    congr 1
    exact (decide_eq_false (fun e=>h e.1)).symm
def ld (s:Slt) (t:Int):Int:=(if due s.2.1.2.2.2.2.1 s.2.2 t = true then (cst s.2.1).1 else 0) + (if due s.2.1.2.2.2.2.1 s.2.2 (t - 2) = true then (cst s.2.1).2.1 else 0)
def us (s:Slt) (h f:Int):Bool:=decide (s.2.1.1≠2∧s.2.1.2.2.2.2.2 = h∧due s.2.1.2.2.2.2.1 s.2.2 (f * 8 + s.2.2 % 8) = true)
def fr (s:Slt) (h f:Int):Int:=if us s h f = true then (cst s.2.1).2.2 else 0
theorem e_6 {s:Slt} (h0:0≤s.2.1.1) (h:VN s.2.1) (t:Int):0≤ld s t∧ld s t≤80000:=by
  have:=b_P h0 h
  unfold ld
  split <;> split <;> omega
theorem fr_range {s:Slt} (h0:0≤s.2.1.1) (h:VN s.2.1) (g f:Int):0≤fr s g f∧fr s g f≤80000:=by
  have:=b_P h0 h
  unfold fr
  split <;> omega
theorem p39_eq (n:Nat) (s:Slt) (h0:0≤s.2.1.1) (h:VS s) (t:Int) (h1:-1000≤t) (h2:t≤10000000):p39 n s (cst s.2.1) t = some (ld s t):=by
  obtain ⟨hid,hv,hp0,hp1,_⟩:=h
  have hp:=hv.2.2.2.2.2.1
  have hc:=b_P h0 hv
  unfold p39 ld
  rw [p44_eq n _ _ t hp hp0 hp1 (by omega),o_s]
  have e1:(if due s.2.1.2.2.2.2.1 s.2.2 t = true then (ckI .i64 (0 + (cst s.2.1).1)).bind fun x_25=>some x_25 else some 0) = some (if due s.2.1.2.2.2.2.1 s.2.2 t = true then (cst s.2.1).1 else 0):=by
    split
    · rw [ckS (by omega) (by omega),o_s,Int.zero_add]
    · rfl
  rw [e1,o_s]
  have e2:(if decide (t ≥ 2) = true then (ckI .i64 (t - 2)).bind fun x_32=>(p44 n s.2.1.2.2.2.2.1 s.2.2 x_32).bind fun t_33=>some t_33 else some false) = some (due s.2.1.2.2.2.2.1 s.2.2 (t - 2)):=by
    by_cases h:2≤t
    · rw [c_i h,ckS (by omega) (by omega),o_s,p44_eq n _ _ _ hp hp0 hp1 (by omega),o_s]
    · rw [c_b h]
      congr 1
      exact (decide_eq_false (fun e=>by omega)).symm
  rw [e2,o_s]
  split
  · rw [ckS (by split <;> omega) (by split <;> omega),o_s]
    rfl
  · rw [o_s,Int.add_zero]
theorem p40_eq (n:Nat) (s:Slt) (h0:0≤s.2.1.1) (h:VS s) (g f:Int) (h1:-1000≤f) (h2:f≤10000000):p40 n s g f = some (us s g f):=by
  obtain ⟨hid,hv,hp0,hp1,_⟩:=h
  have hp:=hv.2.2.2.2.2.1
  have hr:=a_Y hp
  unfold p40 us
  rw [andS,o_s]
  by_cases hq:s.2.1.1≠2∧s.2.1.2.2.2.2.2 = g
  · have hb:(s.2.1.1 != 2 && s.2.1.2.2.2.2.2 == g) = true:=by simp [hq.1,hq.2]
    rw [hb,if_pos rfl,ckS (by omega) (by omega),o_s,remS hp0 (by decide) (by omega),o_s,ckS (by omega) (by omega),o_s,p44_eq n _ _ _ hp hp0 hp1 (by omega),o_s,o_s]
    congr 1
    rw [Bool.eq_iff_iff,decide_eq_true_eq]
    exact ⟨fun h=>⟨hq.1,hq.2,h⟩,fun h=>h.2.2⟩
  · have hb:(s.2.1.1 != 2 && s.2.1.2.2.2.2.2 == g) = false:=by
      rw [Bool.and_eq_false_iff,bne_eq_false_iff_eq,beq_eq_false_iff_ne]
      by_cases h:s.2.1.1 = 2
      · exact .inl h
      · exact .inr fun e=>hq ⟨h,e⟩
    rw [hb,if_neg (by decide),o_s,decide_eq_false (fun h=>hq ⟨h.1,h.2.1⟩)]
def TL (l:List Slt) (t:Int):Int:=(l.map (ld · t)).sum
def FL (l:List Slt) (h f:Int):Int:=(l.map (fr · h f)).sum
theorem e_v (a b:List Slt) (t:Int):TL (a ++ b) t = TL a t + TL b t:=by simp [TL]
theorem e_w (a b:List Slt) (h t:Int):FL (a ++ b) h t = FL a h t + FL b h t:=by simp [FL]
theorem TL_one (s:Slt) (t:Int):TL [s] t = ld s t:=by simp [TL]
theorem FL_one (s:Slt) (h t:Int):FL [s] h t = fr s h t:=by simp [FL]
theorem TL_cons (s:Slt) (l:List Slt) (t:Int):TL (s :: l) t = ld s t + TL l t:=by simp [TL]
theorem FL_cons (s:Slt) (l:List Slt) (h t:Int):FL (s :: l) h t = fr s h t + FL l h t:=by simp [FL]
def AllV (l:List Slt):Prop:=∀ s ∈ l,0≤s.2.1.1∧VS s
theorem e_h {l:List Slt} (h:AllV l) (t:Int):0≤TL l t∧TL l t≤80000 * (l.length:Int):=by
  induction l with
  | nil=>simp [TL]
  | cons s l ih =>
    have h1:=ih fun x hx=>h x (by simp [hx])
    have h2:=e_6 (h s (by simp)).1 (h s (by simp)).2.2.1 t
    rw [TL_cons,List.length_cons]
    omega
theorem e_7 {l:List Slt} (h:AllV l) (g t:Int):0≤FL l g t∧FL l g t≤80000 * (l.length:Int):=by
  induction l with
  | nil=>simp [FL]
  | cons s l ih =>
    have h1:=ih fun x hx=>h x (by simp [hx])
    have h2:=fr_range (h s (by simp)).1 (h s (by simp)).2.2.1 g t
    rw [FL_cons,List.length_cons]
    omega
def b_A (f:Nat→Int) (k:Nat) (xs:List Int):List Int:=xs.mapIdx fun i x=>if k≤i then x + f i else x
theorem b_X (f:Nat→Int) (k:Nat) (xs:List Int) (i:Nat):(b_A f k xs)[i]? = (xs[i]?).map fun x=>if k≤i then x + f i else x:=by
  unfold b_A;rw [List.getElem?_mapIdx]
theorem d_A (f:Nat→Int) {k:Nat} {xs:List Int} (h:xs.length≤k):b_A f k xs = xs:=by
  refine List.ext_getElem? fun i=>?_
  rw [b_X]
  cases hx:xs[i]? with
  | none=>rfl
  | some x =>
    have:i < xs.length:=by rcases Nat.lt_or_ge i xs.length with h | h;exact h;rw [List.getElem?_eq_none h] at hx;cases hx
    rw [Option.map_some,if_neg (by omega)]
theorem c_4 (f:Nat→Int) {k:Nat} {xs:List Int} (h:k < xs.length):b_A f (k + 1) (xs.set k (xs[k] + f k)) = b_A f k xs:=by
  refine List.ext_getElem? fun i=>?_
  rw [b_X,b_X,List.getElem?_set]
  by_cases hik:k = i
  · subst hik
    rw [if_pos rfl,if_pos h,List.getElem?_eq_getElem h,Option.map_some,Option.map_some,if_neg (by omega),if_pos (Nat.le_refl _)]
  · rw [if_neg hik]
    cases xs[i]? with
    | none=>rfl
    | some x =>
      simp only [Option.map_some]
      by_cases h2:k≤i
      · rw [if_pos (by omega),if_pos h2]
      · rw [if_neg (by omega),if_neg h2]
theorem c_F (f g:Nat→Int) (n:Nat):b_A f 0 ((List.range n).map g) = (List.range n).map fun i=>g i + f i:=by
  refine List.ext_getElem? fun i=>?_
  rw [b_X,List.getElem?_map,List.getElem?_map]
  rcases Nat.lt_or_ge i n with h | h
  · rw [List.getElem?_range h];simp
  · rw [List.getElem?_eq_none (by simpa using h)];rfl
def InB (k:Nat) (xs:List Int):Prop:=∀ i x,k≤i→xs[i]? = some x→0≤x∧x≤1000000000
theorem InB.set {k:Nat} {xs:List Int} (h:InB k xs) (y:Int):InB (k + 1) (xs.set k y):=fun i x hi hx=>by
  rw [List.getElem?_set,if_neg (by omega)] at hx
  exact h i x (by omega) hx
theorem InB.at_ {k:Nat} {xs:List Int} (h:InB k xs) (hk:k < xs.length):0≤xs[k]∧xs[k]≤1000000000:=h k _ (Nat.le_refl _) (List.getElem?_eq_getElem hk)
theorem p21_l2_eq (n:Nat) (s:Slt) (h0:0≤s.2.1.1) (h:VS s) (fs:List Int):∀ (m k:Nat) (xs:List Int),xs.length = 256→InB k xs→256 - k < m→k≤256 →
    p21_l2 n s (cst s.2.1) m k (xs,fs) = some (b_A (fun i=>ld s i) k xs,fs):=by
  intro m
  induction m with
  | zero=>intro k xs _ _ hm;exact absurd hm (by omega)
  | succ m ih =>
    intro k xs hl hx hm hk
    unfold p21_l2
    by_cases hlt:k < 256
    · have hkl:k < xs.length:=by omega
      have hr:=e_6 h0 h.2.1 (k:Int)
      have hb:=hx.at_ hkl
      rw [c_i (show (k:Int) < 256 by omega)]
      simp only
      rw [e_u hkl,o_s,p39_eq n s h0 h (k:Int) (by omega) (by omega),o_s,ckS (by omega) (by omega),o_s,o_s,ckS (by omega) (by omega),o_s,b_O,Int.toNat_natCast]
      rw [ih (k + 1) _ (by rw [List.length_set];exact hl) (hx.set _) (by omega) (by omega),c_4 (fun i=>ld s i) hkl]
    · rw [c_b (by omega),d_A _ (by omega)]
theorem p21_l3_eq (n:Nat) (s:Slt) (h0:0≤s.2.1.1) (h:VS s) (g:Int) (ts:List Int):∀ (m k:Nat) (xs:List Int),xs.length = 32→InB k xs→32 - k < m→k≤32 →
    p21_l3 n g s (cst s.2.1) m k (ts,xs) = some (ts,b_A (fun i=>fr s g i) k xs):=by
  intro m
  induction m with
  | zero=>intro k xs _ _ hm;exact absurd hm (by omega)
  | succ m ih =>
    intro k xs hl hx hm hk
    unfold p21_l3
    by_cases hlt:k < 32
    · have hkl:k < xs.length:=by omega
      have hc:=(b_P h0 h.2.1).2.2
      have hb:=hx.at_ hkl
      rw [c_i (show (k:Int) < 32 by omega),p40_eq n s h0 h g (k:Int) (by omega) (by omega),o_s]
      have e:(if us s g k = true then (idx (ts,xs).2 (k:Int)).bind fun y_178=>(ckI .i64 (y_178 + (cst s.2.1).2.2)).bind fun x_183=>(idx (ts,xs).2 (k:Int)).bind fun y_218=>some ((ts,xs).1,((ts,xs).2.set (k:Int).toNat x_183)) else some (ts,xs)) = some (ts,xs.set k (xs[k] + fr s g k)):=by
        simp only [fr]
        split
        · rw [e_u hkl,o_s,ckS (by omega) (by omega),o_s,o_s,Int.toNat_natCast]
        · rw [Int.add_zero];simp
      rw [e,o_s,ckS (by omega) (by omega),o_s,b_O,ih (k + 1) _ (by rw [List.length_set];exact hl) (hx.set _) (by omega) (by omega),c_4 (fun i=>fr s g i) hkl]
    · rw [c_b (by omega),d_A _ (by omega)]
def TR (l:List Slt):List Int:=(List.range 256).map fun i:Nat=>TL l (i:Int)
def FR (l:List Slt) (h:Int):List Int:=(List.range 32).map fun i:Nat=>FL l h (i:Int)
theorem TR_in {l:List Slt} (h:AllV l) (hl:l.length≤400):InB 0 (TR l):=fun i x _ hx=>by
  unfold TR at hx
  obtain ⟨j,_,rfl⟩:=List.mem_map.1 (List.mem_of_getElem? hx)
  have:=e_h h (j:Int)
  omega
theorem FR_in {l:List Slt} (h:AllV l) (hl:l.length≤400) (g:Int):InB 0 (FR l g):=fun i x _ hx=>by
  unfold FR at hx
  obtain ⟨j,_,rfl⟩:=List.mem_map.1 (List.mem_of_getElem? hx)
  have:=e_7 h g (j:Int)
  omega
theorem AllV.take {l:List Slt} (h:AllV l) (k:Nat):AllV (l.take k):=fun s hs=>h s (List.mem_of_mem_take hs)
theorem p21_l1_eq {n:Nat} (hn:300≤n) (x:Sl Slt) (hx:AllV x.xs) (hl:x.xs.length≤300) (g:Int):∀ (m k:Nat),x.xs.length - k < m→k≤x.xs.length →
    p21_l1 n x g m k (TR (x.xs.take k),FR (x.xs.take k) g) = some (TR x.xs,FR x.xs g):=by
  intro m
  induction m with
  | zero=>intro k hm;exact absurd hm (by omega)
  | succ m ih =>
    intro k hm hk
    unfold p21_l1
    rw [b_m]
    by_cases hlt:k < x.xs.length
    · have hv:=hx x.xs[k] (List.getElem_mem hlt)
      rw [c_i (show (k:Int) < (x.xs.length:Int) by omega),e_u hlt,o_s,p38_eq (by omega) _ hv.1 hv.2.2.1,o_s]
      have hlk:(x.xs.take k).length≤400:=by rw [List.length_take];omega
      have h1:=p21_l2_eq n x.xs[k] hv.1 hv.2 (FR (x.xs.take k) g) n 0 (TR (x.xs.take k)) (by simp [TR]) (TR_in (hx.take k) hlk) (by omega) (by omega)
      have h2:=p21_l3_eq n x.xs[k] hv.1 hv.2 g (b_A (fun i=>ld x.xs[k] i) 0 (TR (x.xs.take k))) n 0 (FR (x.xs.take k) g) (by simp [FR]) (FR_in (hx.take k) hlk g) (by omega) (by omega)
      rw [show ((0:Nat):Int) = 0 from rfl] at h1 h2
      rw [h1,o_s,h2,o_s,ckS (by omega) (by omega),o_s,b_O]
      have e1:b_A (fun i=>ld x.xs[k] i) 0 (TR (x.xs.take k)) = TR (x.xs.take (k + 1)):=by
        unfold TR
        rw [c_F (fun i=>ld x.xs[k] (i:Int)) (fun i=>TL (x.xs.take k) (i:Int)),c_a hlt]
        simp only [e_v,TL_one]
      have e2:b_A (fun i=>fr x.xs[k] g i) 0 (FR (x.xs.take k) g) = FR (x.xs.take (k + 1)) g:=by
        unfold FR
        rw [c_F (fun i=>fr x.xs[k] g (i:Int)) (fun i=>FL (x.xs.take k) g (i:Int)),c_a hlt]
        simp only [e_w,FL_one]
      rw [e1,e2]
      exact ih (k + 1) (by omega) (by omega)
    · rw [c_b (by omega),List.take_of_length_le (by omega)]
theorem p21_eq {n:Nat} (hn:320≤n) (x:Sl Slt) (hx:AllV x.xs) (hl:x.xs.length≤300) (g:Int):p21 n x g = some (TR x.xs,FR x.xs g):=by
  unfold p21
  have h:=p21_l1_eq (n:=n) (by omega) x hx hl g n 0 (by omega) (by omega)
  rw [List.take_zero,show ((0:Nat):Int) = 0 from rfl] at h
  have e1:TR [] = List.replicate 256 (0:Int):=by rw [List.eq_replicate_iff];simp [TR,TL]
  have e2:FR [] g = List.replicate 32 (0:Int):=by rw [List.eq_replicate_iff];simp [FR,FL]
  rw [e1,e2] at h
  rw [h,o_s]
def InA (b:Int) (xs:List Int):Prop:=∀ x ∈ xs,0≤x∧x≤b
theorem InA.at_ {b:Int} {xs:List Int} (h:InA b xs) {k:Nat} (hk:k < xs.length):0≤xs[k]∧xs[k]≤b:=h _ (List.getElem_mem hk)
theorem InA.set {b c:Int} {xs:List Int} (h:InA b xs) (hbc:b≤c) (k:Nat) {y:Int} (hy:0≤y∧y≤c):InA c (xs.set k y):=fun x hx=>by
  rcases List.mem_or_eq_of_mem_set hx with hx | rfl
  · have:=h x hx;omega
  · exact hy
theorem due_step {per ph t i:Int} (hp:isP per = true) (ht:due per ph t = true):(due per ph i = true∧t≤i)↔(i = t∨(due per ph i = true∧t + per≤i)):=by
  unfold due at *
  rw [decide_eq_true_eq] at *
  rcases c_E hp with rfl | rfl | rfl | rfl | rfl | rfl | rfl | rfl | rfl <;> omega
theorem p41_l1_eq (n:Nat) (s:Sl Int) (hs:s.xs.length≤1000):∀ (m k:Nat) (a:Int),s.xs.length - k < m→k≤s.xs.length→∃ M,p41_l1 n s m k a = some M∧∀ b,(M≤b↔a≤b∧∀ x ∈ s.xs.drop k,x≤b):=by
  intro m
  induction m with
  | zero=>intro k a h;exact absurd h (by omega)
  | succ m ih =>
    intro k a hm hk
    unfold p41_l1
    rw [b_m]
    by_cases hlt:k < s.xs.length
    · rw [c_i (show (k:Int) < (s.xs.length:Int) by omega),e_u hlt,o_s,ckS (by omega) (by omega),o_s,b_O]
      obtain ⟨M,h1,h2⟩:=ih (k + 1) (if s.xs[k] > a then s.xs[k] else a) (by omega) (by omega)
      refine ⟨M,h1,fun b=>?_⟩
      rw [h2,b_p hlt]
      constructor
      · rintro ⟨h3,h4⟩
        split at h3
        · exact ⟨by omega,fun x hx=>by rcases List.mem_cons.1 hx with rfl | hx;exact h3;exact h4 x hx⟩
        · exact ⟨h3,fun x hx=>by rcases List.mem_cons.1 hx with rfl | hx;omega;exact h4 x hx⟩
      · rintro ⟨h3,h4⟩
        refine ⟨?_,fun x hx=>h4 x (List.mem_cons_of_mem _ hx)⟩
        have:=h4 s.xs[k] List.mem_cons_self
        split <;> omega
    · rw [c_b (by omega)]
      refine ⟨a,rfl,fun b=>?_⟩
      rw [List.drop_eq_nil_of_le (by omega)]
      simp
theorem p41_eq {n:Nat} (hn:1001≤n) (s:Sl Int) (hs:s.xs.length≤1000) (h0:0 < s.xs.length):∃ M,p41 n s = some M∧∀ b,(M≤b↔∀ x ∈ s.xs,x≤b):=by
  unfold p41
  rw [b_m,c_b (by omega),show (0:Int) = ((0:Nat):Int) from rfl,e_u h0,o_s]
  obtain ⟨M,h1,h2⟩:=p41_l1_eq n s hs n 1 s.xs[0] (by omega) (by omega)
  rw [show (1:Int) = ((1:Nat):Int) from rfl,h1,o_s]
  refine ⟨M,rfl,fun b=>?_⟩
  rw [h2]
  have e:s.xs = s.xs[0] :: s.xs.drop 1:=by rw [← b_p h0,List.drop_zero]
  constructor
  · rintro ⟨h3,h4⟩ x hx
    rw [e] at hx
    rcases List.mem_cons.1 hx with rfl | hx
    · exact h3
    · exact h4 x hx
  · intro h3
    exact ⟨h3 _ (List.getElem_mem h0),fun x hx=>h3 x (List.mem_of_mem_drop hx)⟩
theorem p42_2 (n:Nat):p42 n 2 = some 48000:=by rfl
theorem p42_1 (n:Nat):p42 n 1 = some 10800:=by rfl
def c_G (l:List Slt):Prop:=∀ t:Nat,t < 256→TL l (t:Int)≤48000
def c_H (l:List Slt) (g:Int):Prop:=∀ f:Nat,f < 32→FL l g (f:Int)≤10800
instance (l:List Slt):Decidable (c_G l):=by unfold c_G;infer_instance
instance (l:List Slt) (g:Int):Decidable (c_H l g):=by unfold c_H;infer_instance
theorem p22_eq {n:Nat} (hn:1001≤n) (l:List Slt) (g:Int):p22 n (TR l,FR l g) = some (decide (c_G l∧c_H l g)):=by
  unfold p22
  obtain ⟨M,h1,h2⟩:=p41_eq hn (⟨TR l,some 256⟩:Sl Int) (by simp [TR]) (by simp [TR])
  obtain ⟨M',h3,h4⟩:=p41_eq hn (⟨FR l g,some 32⟩:Sl Int) (by simp [FR]) (by simp [FR])
  simp only
  rw [h1,o_s,p42_2,o_s,h3,o_s,p42_1,o_s]
  rw [andS,o_s]
  refine congrArg some ?_
  rw [Bool.eq_iff_iff,Bool.and_eq_true,decide_eq_true_eq,decide_eq_true_eq,decide_eq_true_eq,h2,h4]
  refine and_congr ⟨fun h t ht=>h _ (List.mem_map.2 ⟨t,List.mem_range.2 ht,rfl⟩),fun h x hx=>?_⟩ ⟨fun h t ht=>h _ (List.mem_map.2 ⟨t,List.mem_range.2 ht,rfl⟩),fun h x hx=>?_⟩
  · obtain ⟨t,ht,rfl⟩:=List.mem_map.1 hx
    exact h t (List.mem_range.1 ht)
  · obtain ⟨t,ht,rfl⟩:=List.mem_map.1 hx
    exact h t (List.mem_range.1 ht)
def b_q (a:List Int) (zs:List Int):List Int:=zs.foldl (fun a z=>d_c z a) a
theorem insK_mem {z y:Int} {a:List Int}:y ∈ d_c z a↔y ∈ a∨y = z:=by
  unfold d_c
  split
  · rename_i h
    exact ⟨fun k=>.inl k,fun k=>by rcases k with k | rfl;exact k;exact h⟩
  · simp
theorem insAll_mem {y:Int}:∀ {zs a:List Int},y ∈ b_q a zs↔y ∈ a∨y ∈ zs
  | [],a=>by simp [b_q]
  | z :: zs,a=>by
    have:=insAll_mem (y:=y) (zs:=zs) (a:=d_c z a)
    unfold b_q at this ⊢
    rw [List.foldl_cons,this,insK_mem,List.mem_cons]
    constructor
    · rintro ((h | h) | h)
      · exact .inl h
      · exact .inr (.inl h)
      · exact .inr (.inr h)
    · rintro (h | h | h)
      · exact .inl (.inl h)
      · exact .inl (.inr h)
      · exact .inr h
theorem c_W:∀ (zs a:List Int),a.Nodup→(b_q a zs).length≤a.length + zs.length∧((b_q a zs).length = a.length + zs.length↔zs.Nodup∧∀ z ∈ zs,z ∉ a)
  | [],a,_=>by simp [b_q]
  | z :: zs,a,ha=>by
    by_cases h:z ∈ a
    · have hi:=c_W zs a ha
      have e:b_q a (z :: zs) = b_q a zs:=by unfold b_q;rw [List.foldl_cons,d_c,if_pos h]
      rw [e,List.length_cons]
      refine ⟨by omega,⟨fun k=>by omega,fun k=>absurd h (k.2 z (by simp))⟩⟩
    · have ha':(a ++ [z]).Nodup:=List.nodup_append.2 ⟨ha,by simp,fun x hx y hy=>by rw [List.mem_singleton.1 hy];exact fun e=>h (e ▸ hx)⟩
      have hi:=c_W zs (a ++ [z]) ha'
      have e:b_q a (z :: zs) = b_q (a ++ [z]) zs:=by unfold b_q;rw [List.foldl_cons,d_c,if_neg h]
      rw [e,List.length_cons]
      rw [List.length_append,List.length_singleton] at hi
      refine ⟨by omega,?_⟩
      rw [show a.length + (zs.length + 1) = a.length + 1 + zs.length by omega,hi.2,List.nodup_cons]
      constructor
      · rintro ⟨h1,h2⟩
        refine ⟨⟨fun hz=>h2 z hz (by simp),h1⟩,fun y hy=>?_⟩
        rcases List.mem_cons.1 hy with rfl | hy
        · exact h
        · exact fun k=>h2 y hy (by simp [k])
      · rintro ⟨⟨h1,h2⟩,h3⟩
        refine ⟨h2,fun y hy k=>?_⟩
        rcases List.mem_append.1 k with k | k
        · exact h3 y (by simp [hy]) k
        · rw [List.mem_singleton.1 k] at hy;exact h1 hy
theorem e_x {f:Int→Option (Unit ⊕ Int)} {r:Int} {p:Int→Prop} [DecidablePred p]:∀ (xs:List Int),(∀ x ∈ xs,f x = some (if p x then .inl () else .inr r))→c_A f xs = some (if ∀ x ∈ xs,p x then .inl () else .inr r)
  | [],_=>by simp [c_A]
  | x :: xs,h=>by
    have ih:=e_x xs fun y hy=>h y (by simp [hy])
    unfold c_A
    rw [h x (by simp),o_s,ih,o_s]
    by_cases h1:p x
    · rw [if_pos h1]
      simp only
      by_cases h2:∀ y ∈ xs,p y
      · rw [if_pos h2,if_pos (show ∀ y ∈ x :: xs,p y from fun y hy=>by rcases List.mem_cons.1 hy with rfl | hy;exact h1;exact h2 y hy)]
      · rw [if_neg h2,if_neg (show ¬ ∀ y ∈ x :: xs,p y from fun k=>h2 fun y hy=>k y (by simp [hy]))]
    · rw [if_neg h1,if_neg (show ¬ ∀ y ∈ x :: xs,p y from fun k=>h1 (k x (by simp)))]
      by_cases h2:∀ y ∈ xs,p y
      · rw [if_pos h2]
      · rw [if_neg h2];simp
def chk (l:List Slt):Int:=if l.length > 256 then 3 else if ¬ (∀ s ∈ l,VS s) then 1 else if ¬ (l.map (·.1)).Nodup then 8 else if ¬ (∀ s ∈ l,c_G l∧c_H l s.2.1.2.2.2.2.2) then 14 else 0
theorem p9_l1_eq (n:Nat) (x:Sl Slt) (hg:∀ s ∈ x.xs,0≤s.2.1.1) (hl:x.xs.length≤300):∀ (m k:Nat) (a b:List Int),x.xs.length - k < m→k≤x.xs.length →
    p9_l1 n x m k a b = some (if ∀ s ∈ x.xs.drop k,VS s then .inl (b_q a ((x.xs.drop k).map (·.1)),b_q b ((x.xs.drop k).map fun s=>s.2.1.2.2.2.2.2)) else .inr 1):=by
  intro m
  induction m with
  | zero=>intro k a b h;exact absurd h (by omega)
  | succ m ih =>
    intro k a b hm hk
    unfold p9_l1
    rw [b_m]
    by_cases hlt:k < x.xs.length
    · rw [c_i (show (k:Int) < (x.xs.length:Int) by omega),e_u hlt,o_s,p20_eq n _ (hg _ (List.getElem_mem hlt)),o_s,b_p hlt]
      by_cases hv:VS x.xs[k]
      · rw [decide_eq_true hv,show (!true) = false from rfl,if_neg (by decide),o_s,ckS (by omega) (by omega),o_s,b_O,ih (k + 1) _ _ (by omega) (by omega)]
        refine congrArg some ?_
        by_cases h2:∀ s ∈ x.xs.drop (k + 1),VS s
        · rw [if_pos h2,if_pos (show ∀ s ∈ x.xs[k] :: x.xs.drop (k + 1),VS s from fun s hs=>by rcases List.mem_cons.1 hs with rfl | hs;exact hv;exact h2 s hs)]
          rfl
        · rw [if_neg h2,if_neg (show ¬ ∀ s ∈ x.xs[k] :: x.xs.drop (k + 1),VS s from fun q=>h2 fun s hs=>q s (List.mem_cons_of_mem _ hs))]
      · rw [decide_eq_false hv,show (!false) = true from rfl,if_pos rfl,if_neg (show ¬ ∀ s ∈ x.xs[k] :: x.xs.drop (k + 1),VS s from fun q=>hv (q _ List.mem_cons_self))]
    · rw [c_b (by omega),List.drop_eq_nil_of_le (by omega),if_pos (by simp)]
      rfl
theorem p9_eq {n:Nat} (hn:1100≤n) (x:Sl Slt) (hg:∀ s ∈ x.xs,0≤s.2.1.1) (hl:x.xs.length≤300):p9 n x = some (chk x.xs):=by
  unfold p9 chk
  rw [b_m]
  by_cases h1:x.xs.length > 256
  · rw [c_i (by omega),if_pos h1]
  · rw [c_b (by omega),if_neg h1,show (0:Int) = ((0:Nat):Int) from rfl,p9_l1_eq n x hg hl n 0 [] [] (by omega) (by omega),List.drop_zero,o_s]
    by_cases h2:∀ s ∈ x.xs,VS s
    · rw [if_pos h2,if_neg (fun q=>q h2),lrKl]
      simp only
      have hlen:=c_W (x.xs.map (·.1)) [] List.nodup_nil
      rw [List.length_nil,List.length_map,Nat.zero_add] at hlen
      rw [ckS (by omega) (by omega),o_s]
      by_cases h3:(x.xs.map (·.1)).Nodup
      · rw [c_b (by have:=hlen.2.2 ⟨h3,by simp⟩;omega),if_neg (fun q=>q h3)]
        have hm:=e_x (f:=p9_l2_b n x) (r:=14) (p:=fun g=>c_G x.xs∧c_H x.xs g) (b_q [] (x.xs.map fun s=>s.2.1.2.2.2.2.2)) fun g _=>by
          unfold p9_l2_b
          rw [p21_eq (by omega) x (fun s hs=>⟨hg s hs,h2 s hs⟩) hl g,o_s,p22_eq (by omega),o_s]
          by_cases h:c_G x.xs∧c_H x.xs g
          · rw [decide_eq_true h,if_pos h];rfl
          · rw [decide_eq_false h,if_neg h];rfl
        rw [hm,o_s]
        have e:(∀ g ∈ b_q [] (x.xs.map fun s=>s.2.1.2.2.2.2.2),c_G x.xs∧c_H x.xs g)↔∀ s ∈ x.xs,c_G x.xs∧c_H x.xs s.2.1.2.2.2.2.2:=by
          constructor
          · intro h s hs
            exact h _ (insAll_mem.2 (.inr (List.mem_map.2 ⟨s,hs,rfl⟩)))
          · intro h g hg
            rcases insAll_mem.1 hg with hg | hg
            · cases hg
            · obtain ⟨s,hs,rfl⟩:=List.mem_map.1 hg
              exact h s hs
        by_cases h4:∀ s ∈ x.xs,c_G x.xs∧c_H x.xs s.2.1.2.2.2.2.2
        · rw [if_pos (e.2 h4),if_neg (fun q=>q h4),lrKl]
        · rw [if_neg (fun q=>h4 (e.1 q)),if_pos h4,lrKr]
      · rw [c_i (by
          have:¬ (b_q [] (x.xs.map (·.1))).length = x.xs.length:=fun q=>h3 (hlen.2.1 q).1
          omega),if_pos h3]
    · rw [if_neg h2,if_pos h2,lrKr]
theorem d_d {l:List Slt} (h:chk l = 0):l.length≤256∧(∀ s ∈ l,VS s)∧(l.map (·.1)).Nodup∧∀ s ∈ l,c_G l∧c_H l s.2.1.2.2.2.2.2:=by
  unfold chk at h
  split at h
  · cases h
  · split at h
    · cases h
    · split at h
      · cases h
      · split at h
        · cases h
        · rename_i h1 h2 h3 h4
          exact ⟨by omega,by simpa using h2,by simpa using h3,Decidable.not_not.1 h4⟩
theorem chk_of {l:List Slt} (h1:l.length≤256) (h2:∀ s ∈ l,VS s) (h3:(l.map (·.1)).Nodup) (h4:∀ s ∈ l,c_G l∧c_H l s.2.1.2.2.2.2.2):chk l = 0:=by
  unfold chk
  rw [if_neg (by omega),if_neg (fun q=>q h2),if_neg (fun q=>q h3),if_neg (fun q=>q h4)]
theorem p72_eq (n:Nat) (x:Sl Slt) (id:Int) (hl:x.xs.length≤300):∀ (m k:Nat),x.xs.length - k < m→k≤x.xs.length→p72_73_l1 n x id m k = some (match (x.xs.drop k).findIdx? (fun s=>s.1 == id) with | some i=>.inr ((k + i:Nat):Int) | none=>.inl ()):=by
  intro m
  induction m with
  | zero=>intro k h;exact absurd h (by omega)
  | succ m ih =>
    intro k hm hk
    unfold p72_73_l1
    rw [b_m]
    by_cases hlt:k < x.xs.length
    · rw [c_i (show (k:Int) < (x.xs.length:Int) by omega),e_u hlt,o_s,p73,o_s,b_p hlt,List.findIdx?_cons]
      by_cases he:(x.xs[k].1 == id) = true
      · rw [if_pos he,if_pos he];rfl
      · rw [if_neg he,if_neg he,ckS (by omega) (by omega),o_s,b_O,ih (k + 1) (by omega) (by omega)]
        cases (x.xs.drop (k + 1)).findIdx? (fun s=>s.1 == id) with
        | none=>rfl
        | some i=>simp;omega
    · rw [c_b (by omega),List.drop_eq_nil_of_le (by omega)]
      rfl
theorem p61_eq {n:Nat} (hn:400≤n) (x:Sl Slt) (id:Int) (hl:x.xs.length≤300):p61 n x id = some (match x.xs.findIdx? (fun s=>s.1 == id) with | some i=>(i:Int) | none=>-1):=by
  unfold p61 p72_73
  rw [show (0:Int) = ((0:Nat):Int) from rfl,p72_eq n x id hl n 0 (by omega) (by omega),List.drop_zero,o_s]
  cases x.xs.findIdx? (fun s=>s.1 == id) with
  | none=>rfl
  | some i=>simp [lrK]
def c_c (l:List Slt) (id:Int):Bool:=l.any fun s=>s.1 == id
theorem hasId_iff {l:List Slt} {id:Int}:c_c l id = true↔id ∈ l.map (·.1):=by
  unfold c_c
  simp only [List.any_eq_true,beq_iff_eq,List.mem_map]
theorem e_y {l:List Slt} {id:Int} (h:c_c l id = false):l.findIdx? (fun s=>s.1 == id) = none:=by
  rw [List.findIdx?_eq_none_iff]
  intro s hs
  unfold c_c at h
  rw [List.any_eq_false] at h
  simpa using h s hs
theorem e_z {l:List Slt} {id:Int} (h:c_c l id = true):∃ i,∃ hi:i < l.length,l.findIdx? (fun s=>s.1 == id) = some i∧l[i].1 = id:=by
  cases hf:l.findIdx? (fun s=>s.1 == id) with
  | none =>
    rw [List.findIdx?_eq_none_iff] at hf
    obtain ⟨s,hs,he⟩:=List.any_eq_true.1 h
    rw [hf s hs] at he;cases he
  | some i =>
    rw [List.findIdx?_eq_some_iff_getElem] at hf
    obtain ⟨hi,h1,_⟩:=hf
    exact ⟨i,hi,rfl,by simpa using h1⟩
theorem p48_no {n:Nat} (hn:400≤n) (x:Sl Slt) (id:Int) (hl:x.xs.length≤300) (h:c_c x.xs id = false):p48 n x id = some ((0,(0,0,false,0,0,0),0),false):=by
  unfold p48
  rw [p61_eq hn x id hl,e_y h,o_s]
  rfl
theorem p48_yes {n:Nat} (hn:400≤n) (x:Sl Slt) (id:Int) (hl:x.xs.length≤300) {i:Nat} (hi:i < x.xs.length) (h:x.xs.findIdx? (fun s=>s.1 == id) = some i):p48 n x id = some (x.xs[i],true):=by
  unfold p48
  rw [p61_eq hn x id hl,h,o_s]
  simp only
  rw [c_b (by omega),e_u hi,o_s]
theorem p48_eq {n:Nat} (hn:400≤n) (x:Sl Slt) (id:Int) (hl:x.xs.length≤300):∃ s,p48 n x id = some (s,c_c x.xs id):=by
  cases h:c_c x.xs id with
  | false=>exact ⟨_,p48_no hn x id hl h⟩
  | true =>
    obtain ⟨i,hi,hf,_⟩:=e_z h
    exact ⟨_,p48_yes hn x id hl hi hf⟩
def okT (l:List Slt) (x:Nd) (t:Nat):Prop:=TL l (t:Int) + (cst x).1≤48000∧(x.1≠2→TL l ((t:Int) + 2) + (cst x).2.1≤48000∧FL l x.2.2.2.2.2 ((t:Int) / 8) + (cst x).2.2≤10800)
instance (l:List Slt) (x:Nd) (t:Nat):Decidable (okT l x t):=by unfold okT;infer_instance
def Fit (l:List Slt) (x:Nd) (ph:Int):Prop:=∀ t:Nat,t < 256→due x.2.2.2.2.1 ph (t:Int) = true→okT l x t
instance (l:List Slt) (x:Nd) (ph:Int):Decidable (Fit l x ph):=by unfold Fit;infer_instance
def f_n (l:List Slt) (x:Nd) (ph:Int) (u:Nat):Prop:=∀ t:Nat,t < 256→u≤t→due x.2.2.2.2.1 ph (t:Int) = true→okT l x t
instance (l:List Slt) (x:Nd) (ph:Int) (u:Nat):Decidable (f_n l x ph u):=by unfold f_n;infer_instance
theorem FitF_step {l:List Slt} {x:Nd} {ph:Int} (hp:isP x.2.2.2.2.1 = true) {u q:Nat} (hq:x.2.2.2.2.1 = (q:Int)) (hd:due x.2.2.2.2.1 ph (u:Int) = true) (hu:u < 256):f_n l x ph u↔okT l x u∧f_n l x ph (u + q):=by
  constructor
  · intro h
    exact ⟨h u hu (Nat.le_refl _) hd,fun t h1 h2 h3=>h t h1 (by omega) h3⟩
  · rintro ⟨h1,h2⟩ t h3 h4 h5
    rcases (due_step (i:=(t:Int)) hp hd).1 ⟨h5,by omega⟩ with e | e
    · have:t = u:=by omega
      rw [this];exact h1
    · exact h2 t h3 (by omega) h5
theorem FitF_end {l:List Slt} {x:Nd} {ph:Int} {u:Nat} (hu:256≤u):f_n l x ph u:=fun t h1 h2 _=>absurd h1 (by omega)
theorem due_le {x:Nd} {ph t:Int} (hp:isP x.2.2.2.2.1 = true) (h1:ph < x.2.2.2.2.1) (h:due x.2.2.2.2.1 ph t = true):ph≤t:=by
  unfold due at h
  rw [decide_eq_true_eq] at h
  rcases c_E hp with e | e | e | e | e | e | e | e | e <;> rw [e] at h h1 <;> omega
theorem f_o {l:List Slt} {x:Nd} {q:Nat} (hp:isP x.2.2.2.2.1 = true) (h1:(q:Int) < x.2.2.2.2.1):f_n l x (q:Int) q↔Fit l x (q:Int) :=
  ⟨fun h t ht hd=>h t ht (by have:=due_le hp h1 hd;omega) hd,fun h t ht _ hd=>h t ht hd⟩
theorem due_first {per ph:Int} (h0:0≤ph) (h1:ph < per):due per ph ph = true:=by
  unfold due
  rw [decide_eq_true_eq]
  exact ⟨h0,Int.emod_eq_of_lt h0 h1⟩
theorem due_next {per ph t:Int} (hp:0 < per) (h:due per ph t = true):due per ph (t + per) = true:=by
  unfold due at *
  rw [decide_eq_true_eq] at *
  exact ⟨by omega,by simpa using h.2⟩
theorem d_e {x:Nd} {ph t:Int} (hv:VN x) (hs:x.1≠2) (h:due x.2.2.2.2.1 ph t = true):t % 8 = ph % 8:=by
  have h8:=hv.2.2.2.2.2.2.2 hs
  unfold due at h
  rw [decide_eq_true_eq] at h
  rcases c_E hv.2.2.2.2.2.1 with e | e | e | e | e | e | e | e | e <;> rw [e] at h h8 <;> omega
theorem idxTR (l:List Slt) (t:Nat) (h:t < 256):idx (TR l) (t:Int) = some (TL l (t:Int)):=by
  rw [d_0];unfold TR;rw [List.getElem?_map,List.getElem?_range h];rfl
theorem idxFR (l:List Slt) (g:Int) (t:Nat) (h:t < 32):idx (FR l g) (t:Int) = some (FL l g (t:Int)):=by
  rw [d_0];unfold FR;rw [List.getElem?_map,List.getElem?_range h];rfl
theorem p50_l1_eq (n:Nat) (l:List Slt) (hl:AllV l) (hll:l.length≤300) (id:Int) (x:Nd) (h0:0≤x.1) (hv:VN x) (ph:Int) (hok:okPh x.1 ph):∀ (m u:Nat),256 - u < m→u≤600→due x.2.2.2.2.1 ph (u:Int) = true →
    p50_l1 n (TR l,FR l x.2.2.2.2.2) (id,x,ph) (cst x) m u = some (if f_n l x ph u then .inl () else .inr false):=by
  have hp:=hv.2.2.2.2.2.1
  have hr:=a_Y hp
  have hc:=b_P h0 hv
  obtain ⟨q,hq⟩:=Int.eq_ofNat_of_zero_le (show 0≤x.2.2.2.2.1 by omega)
  intro m
  induction m with
  | zero=>intro u h;exact absurd h (by omega)
  | succ m ih =>
    intro u hm hu hd
    unfold p50_l1
    by_cases hlt:u < 256
    · have b1:=e_h hl (u:Int)
      rw [c_i (show (u:Int) < 256 by omega)]
      simp only
      rw [idxTR l u hlt,o_s,ckS (by omega) (by omega),o_s,p42_2,o_s]
      have hst:=FitF_step (l:=l) hp hq hd hlt
      have hdn:=due_next (by omega) hd
      rw [hq] at hdn
      have ih':=ih (u + q) (by omega) (by omega) (by rw [hq];simpa using hdn)
      by_cases h1:TL l (u:Int) + (cst x).1 > 48000
      · rw [c_i h1,if_neg (fun k=>by have:=(hst.1 k).1.1;omega)]
      · rw [c_b h1]
        by_cases hs:x.1 = 2
        · rw [if_pos (by simpa using hs),ckS (by omega) (by omega),o_s,hq,show ((u:Int) + (q:Int)) = ((u + q:Nat):Int) by simp,ih']
          refine congrArg some ?_
          have e:f_n l x ph u↔f_n l x ph (u + q):=by rw [hst];exact ⟨fun h=>h.2,fun h=>⟨⟨by omega,fun c=>absurd hs c⟩,h⟩⟩
          by_cases h2:f_n l x ph (u + q)
          · rw [if_pos h2,if_pos (e.2 h2)]
          · rw [if_neg h2,if_neg (fun k=>h2 (e.1 k))]
        · have h8:=d_e hv hs hd
          have hph:ph % 8≤3:=by rcases hok with h | h;exact absurd h hs;exact h
          have b2:=e_h hl ((u:Int) + 2)
          have b3:=e_7 hl x.2.2.2.2.2 ((u:Int) / 8)
          rw [if_neg (by simpa using hs),ckS (by omega) (by omega),o_s,show ((u:Int) + 2) = ((u + 2:Nat):Int) by simp,idxTR l (u + 2) (by omega),o_s,show (((u + 2:Nat):Int)) = (u:Int) + 2 by simp,ckS (by omega) (by omega),o_s,o_s]
          rw [quoS (by omega) (by decide) (by omega),o_s,show ((u:Int) / 8) = ((u / 8:Nat):Int) by simp,idxFR l _ (u / 8) (by omega),o_s,show (((u / 8:Nat):Int)) = (u:Int) / 8 by simp,ckS (by omega) (by omega),o_s,p42_1,o_s,orS,o_s]
          by_cases h2:TL l ((u:Int) + 2) + (cst x).2.1 > 48000∨FL l x.2.2.2.2.2 ((u:Int) / 8) + (cst x).2.2 > 10800
          · have hb:(decide (TL l ((u:Int) + 2) + (cst x).2.1 > 48000) || decide (FL l x.2.2.2.2.2 ((u:Int) / 8) + (cst x).2.2 > 10800)) = true:=by
              rw [Bool.or_eq_true,decide_eq_true_eq,decide_eq_true_eq];exact h2
            rw [hb,if_pos rfl,if_neg (fun k=>by have:=(hst.1 k).1.2 hs;omega)]
          · have hb:(decide (TL l ((u:Int) + 2) + (cst x).2.1 > 48000) || decide (FL l x.2.2.2.2.2 ((u:Int) / 8) + (cst x).2.2 > 10800)) = false:=by
              rw [Bool.or_eq_false_iff,decide_eq_false_iff_not,decide_eq_false_iff_not];omega
            rw [hb,if_neg (by decide),ckS (by omega) (by omega),o_s,hq,show ((u:Int) + (q:Int)) = ((u + q:Nat):Int) by simp,ih']
            refine congrArg some ?_
            have e:f_n l x ph u↔f_n l x ph (u + q):=by rw [hst];exact ⟨fun h=>h.2,fun h=>⟨⟨by omega,fun _=>by omega⟩,h⟩⟩
            by_cases h2:f_n l x ph (u + q)
            · rw [if_pos h2,if_pos (e.2 h2)]
            · rw [if_neg h2,if_neg (fun k=>h2 (e.1 k))]
    · rw [c_b (by omega),if_pos (FitF_end (by omega))]
theorem p50_eq {n:Nat} (hn:300≤n) (l:List Slt) (hl:AllV l) (hll:l.length≤300) (id:Int) (x:Nd) (h0:0≤x.1) (hv:VN x) (q:Nat) (h1:(q:Int) < x.2.2.2.2.1) (hok:okPh x.1 (q:Int)):p50 n (TR l,FR l x.2.2.2.2.2) (id,x,(q:Int)) = some (decide (Fit l x (q:Int))):=by
  have hr:=a_Y hv.2.2.2.2.2.1
  unfold p50
  simp only
  rw [p38_eq (by omega) x h0 hv,o_s,p50_l1_eq n l hl hll id x h0 hv (q:Int) hok n q (by omega) (by omega) (due_first (by omega) h1),o_s]
  have e:=f_o (l:=l) (x:=x) (q:=q) hv.2.2.2.2.2.1 h1
  by_cases h:Fit l x (q:Int)
  · rw [if_pos (e.2 h),decide_eq_true h,lrKl]
  · rw [if_neg (fun k=>h (e.1 k)),decide_eq_false h,lrKr]
def f_p (l:List Slt) (x:Nd) (q:Nat):Prop:=okPh x.1 (q:Int)∧Fit l x (q:Int)
instance (l:List Slt) (x:Nd) (q:Nat):Decidable (f_p l x q):=by unfold f_p;infer_instance
def c_I (l:List Slt) (x:Nd) (u:Nat):Option Nat:=(List.range' u (x.2.2.2.2.1.toNat - u)).find? fun q=>decide (f_p l x q)
theorem d_R {l:List Slt} {x:Nd} {u:Nat} (h:u < x.2.2.2.2.1.toNat):c_I l x u = if f_p l x u then some u else c_I l x (u + 1):=by
  unfold c_I
  obtain ⟨k,hk⟩:∃ k,x.2.2.2.2.1.toNat - u = k + 1:=⟨x.2.2.2.2.1.toNat - u - 1,by omega⟩
  rw [hk,List.range'_succ,List.find?_cons,show x.2.2.2.2.1.toNat - (u + 1) = k by omega]
  by_cases h1:f_p l x u
  · rw [decide_eq_true h1,if_pos h1]
  · rw [decide_eq_false h1,if_neg h1]
theorem e_A {l:List Slt} {x:Nd} {u:Nat} (h:x.2.2.2.2.1.toNat≤u):c_I l x u = none:=by
  unfold c_I
  rw [show x.2.2.2.2.1.toNat - u = 0 by omega]
  rfl
theorem f_q {l:List Slt} {x:Nd} {q:Nat} (h:c_I l x 0 = some q):q < x.2.2.2.2.1.toNat∧f_p l x q∧∀ r,r < q→¬ f_p l x r:=by
  have key:∀ (k u:Nat),x.2.2.2.2.1.toNat - u = k→c_I l x u = some q→u≤q∧q < x.2.2.2.2.1.toNat∧f_p l x q∧∀ r,u≤r→r < q→¬ f_p l x r:=by
    intro k
    induction k with
    | zero=>intro u hk h;rw [e_A (by omega)] at h;cases h
    | succ k ih =>
      intro u hk h
      rw [d_R (by omega)] at h
      by_cases h1:f_p l x u
      · rw [if_pos h1] at h
        obtain rfl:=Option.some.inj h
        exact ⟨Nat.le_refl _,by omega,h1,fun r _ _=>by omega⟩
      · rw [if_neg h1] at h
        obtain ⟨a,b,c,d⟩:=ih (u + 1) (by omega) h
        exact ⟨by omega,b,c,fun r h2 h3=>by
          by_cases e:r = u
          · rw [e];exact h1
          · exact d r (by omega) h3⟩
  obtain ⟨_,b,c,d⟩:=key _ 0 rfl h
  exact ⟨b,c,fun r hr=>d r (Nat.zero_le _) hr⟩
def nilS:Sl Slt:=⟨[],some 0⟩
def addR (l:List Slt) (id:Int) (x:Nd):Sl Slt × Int :=
  if chk l≠0 then (nilS,chk l) else if id < 0∨¬ VN x then (nilS,1) else if c_c l id = true then (nilS,8) else if l.length = 256 then (nilS,3) else
  match c_I l x 0 with
  | some q=>(⟨l ++ [(id,x,(q:Int))],some (l.length + 1)⟩,0)
  | none=>(nilS,14)
theorem p52_eq (n:Nat) (x:Sl Slt) (hl:x.xs.length≤300):∃ c,p52 n x = some ⟨x.xs,c⟩:=by
  unfold p52
  rw [a_1 (by simp;omega),o_s,List.nil_append]
  exact ⟨_,rfl⟩
theorem p51_eq (n:Nat) (x:Sl Slt):p51 n x = some ⟨x.xs,some x.xs.length⟩:=by
  obtain ⟨l,c⟩:=x
  unfold p51
  rw [sl3I_all,o_s]
theorem p35_r1_eq {n:Nat} (hn:300≤n) (x:Sl Slt) (hl:AllV x.xs) (hll:x.xs.length≤300) (id:Int) (y:Nd) (h0:0≤y.1) (hv:VN y) (q:Nat) (h1:(q:Int) < y.2.2.2.2.1) (hok:okPh y.1 (q:Int)) (s:Sl Slt) :
    p35_r1 n x id y (TR x.xs,FR x.xs y.2.2.2.2.2) s (q:Int) = some (if Fit x.xs y (q:Int) then (1,⟨x.xs ++ [(id,y,(q:Int))],some (x.xs.length + 1)⟩) else (0,s)):=by
  unfold p35_r1
  rw [p50_eq hn x.xs hl hll id y h0 hv q h1 hok,o_s]
  by_cases h:Fit x.xs y (q:Int)
  · obtain ⟨c,hc⟩:=p52_eq n x hll
    rw [c_i h,if_pos h,hc,o_s,a_1 (by simp;omega),o_s,p51_eq,o_s,o_s]
    simp
  · rw [c_b h,if_neg h]
theorem rnd_0 {σ α:Type} (b:σ→α→Option (Nat × σ)) (s:σ) (x:α):rnd b (0,s) x = (b s x).map fun r=>(Nat.beq r.1 0,r):=rfl
theorem p62_l1_eq (n n2:Nat) (hn:300≤n2) (x:Sl Slt) (hl:AllV x.xs) (hll:x.xs.length≤300) (id:Int) (y:Nd) (h0:0≤y.1) (hv:VN y) (s:Sl Slt):∀ (m u:Nat),y.2.2.2.2.1.toNat - u < m→u≤y.2.2.2.2.1.toNat →
    p62_l1 n (Nat × Sl Slt) y (rnd (p35_r1 n2 x id y (TR x.xs,FR x.xs y.2.2.2.2.2))) m u (0,s) = some (match c_I x.xs y u with | some q=>.inr (1,⟨x.xs ++ [(id,y,(q:Int))],some (x.xs.length + 1)⟩) | none=>.inl (0,s)):=by
  have hr:=a_Y hv.2.2.2.2.2.1
  intro m
  induction m with
  | zero=>intro u h;exact absurd h (by omega)
  | succ m ih =>
    intro u hm hu
    unfold p62_l1
    by_cases hlt:u < y.2.2.2.2.1.toNat
    · rw [c_i (show (u:Int) < y.2.2.2.2.1 by omega),remS (by omega) (by decide) (by omega),o_s,orS,o_s,d_R hlt]
      have e:((y.1 == 2) || decide ((u:Int) % 8≤3)) = decide (okPh y.1 (u:Int)):=by
        rw [Bool.eq_iff_iff,Bool.or_eq_true,beq_iff_eq,decide_eq_true_eq,decide_eq_true_eq];exact Iff.rfl
      rw [e]
      by_cases hok:okPh y.1 (u:Int)
      · rw [c_i hok]
        rw [rnd_0,p35_r1_eq hn x hl hll id y h0 hv u (by omega) hok s,Option.map_some,o_s,o_s]
        by_cases hf:Fit x.xs y (u:Int)
        · rw [if_pos hf,if_pos (show f_p x.xs y u from ⟨hok,hf⟩)]
          rfl
        · rw [if_neg hf,if_neg (show ¬ f_p x.xs y u from fun k=>hf k.2)]
          rw [show (!Nat.beq (0,s).1 0) = false from rfl,if_neg Bool.false_ne_true,ckS (by omega) (by omega),o_s,b_O]
          exact ih (u + 1) (by omega) (by omega)
      · rw [c_b hok,o_s,if_neg Bool.false_ne_true,ckS (by omega) (by omega),o_s,b_O,if_neg (show ¬ f_p x.xs y u from fun k=>hok k.1)]
        exact ih (u + 1) (by omega) (by omega)
    · rw [c_b (by omega),e_A (by omega)]
theorem p35_eq {n:Nat} (hn:1100≤n) (x:Sl Slt) (hg:∀ s ∈ x.xs,0≤s.2.1.1) (hll:x.xs.length≤300) (id:Int) (y:Nd) (h0:0≤y.1):p35 n x id y = some (addR x.xs id y):=by
  unfold p35 addR
  rw [p9_eq hn x hg hll,o_s]
  by_cases h1:chk x.xs = 0
  · rw [if_neg (show ¬ (chk x.xs != 0) = true by simpa using h1),if_neg (show ¬ chk x.xs≠0 from fun k=>k h1)]
    obtain ⟨s,hs⟩:=p48_eq (n:=n) (by omega) x id hll
    obtain ⟨c1,c2,c3,c4⟩:=d_d h1
    rw [hs,o_s,p37_eq n y h0,o_s,orS,o_s]
    by_cases h2:id < 0∨¬ VN y
    · have hb:(decide (id < 0) || !decide (VN y)) = true:=by rw [Bool.or_eq_true,decide_eq_true_eq];rcases h2 with h | h;exact .inl h;exact .inr (by rw [decide_eq_false h];rfl)
      rw [hb,if_pos rfl,if_pos h2];rfl
    · have hb:(decide (id < 0) || !decide (VN y)) = false:=by
        rw [Bool.or_eq_false_iff,decide_eq_false_iff_not]
        have hv:VN y:=Decidable.not_not.1 fun k=>h2 (.inr k)
        exact ⟨fun k=>h2 (.inl k),by rw [decide_eq_true hv];rfl⟩
      have hv:VN y:=Decidable.not_not.1 fun k=>h2 (.inr k)
      have hr:=a_Y hv.2.2.2.2.2.1
      rw [hb,if_neg (by decide),if_neg h2]
      simp only
      by_cases h3:c_c x.xs id = true
      · rw [if_pos h3,if_pos h3];rfl
      · rw [if_neg h3,if_neg h3,b_m]
        by_cases h4:x.xs.length = 256
        · rw [if_pos (by rw [h4];rfl),if_pos h4];rfl
        · have hA:AllV x.xs:=fun s hs=>⟨hg s hs,c2 s hs⟩
          rw [if_neg (by simp;omega),if_neg h4,p21_eq (by omega) x hA hll,o_s,p49,o_s]
          unfold p62
          rw [show (0:Int) = ((0:Nat):Int) from rfl]
          have:=p62_l1_eq n n (by omega) x hA hll id y h0 hv ⟨[],some 0⟩ n 0 (by omega) (by omega)
          rw [this,o_s]
          cases c_I x.xs y 0 with
          | none=>rfl
          | some q=>rfl
  · rw [if_pos (show (chk x.xs != 0) = true by simpa using h1),if_pos h1]
    rfl
theorem due_2 {x:Nd} (hv:VN x) (hs:x.1≠2) {ph t:Int} (h:due x.2.2.2.2.1 ph t = true):due x.2.2.2.2.1 ph (t - 2) = false:=by
  cases hc:due x.2.2.2.2.1 ph (t - 2) with
  | false=>rfl
  | true =>
    have h1:=d_e hv hs h
    have h2:=d_e hv hs hc
    omega
theorem room_add {l:List Slt} (hA:AllV l) (h:∀ s ∈ l,c_G l∧c_H l s.2.1.2.2.2.2.2) {id:Int} {x:Nd} (h0:0≤x.1) (hv:VN x) {q:Nat} (hq:(q:Int) < x.2.2.2.2.1) (hok:okPh x.1 (q:Int)) (hf:Fit l x (q:Int)) :
    ∀ s ∈ l ++ [(id,x,(q:Int))],c_G (l ++ [(id,x,(q:Int))])∧c_H (l ++ [(id,x,(q:Int))]) s.2.1.2.2.2.2.2:=by
  have hT:c_G l:=by
    cases l with
    | nil=>intro t _;simp [TL]
    | cons s l=>exact (h s (by simp)).1
  have hF:∀ g,(∃ s ∈ l ++ [(id,x,(q:Int))],s.2.1.2.2.2.2.2 = g)→c_H l g∨∀ f,FL l g f = 0:=by
    intro g _
    by_cases hg:∃ s ∈ l,s.2.1.2.2.2.2.2 = g
    · obtain ⟨s,hs,rfl⟩:=hg
      exact .inl (h s hs).2
    · refine .inr fun f=>?_
      unfold FL
      have:∀ y ∈ l.map (fr · g f),y = 0:=by
        intro y hy
        obtain ⟨s,hs,rfl⟩:=List.mem_map.1 hy
        unfold fr
        rw [if_neg]
        unfold us
        rw [decide_eq_true_eq]
        exact fun k=>hg ⟨s,hs,k.2.1⟩
      generalize l.map (fr · g f) = zs at this
      induction zs with
      | nil=>rfl
      | cons z zs ih=>rw [List.sum_cons,this z (by simp),ih fun y hy=>this y (by simp [hy])];rfl
  have hc:=b_P h0 hv
  intro s hs
  refine ⟨fun t ht=>?_,fun f hf2=>?_⟩
  · rw [e_v,TL_one]
    have b:=hT t ht
    unfold ld
    simp only
    by_cases d1:due x.2.2.2.2.1 (q:Int) (t:Int) = true
    · rw [if_pos d1]
      have k:=hf t ht d1
      by_cases hs2:x.1 = 2
      · have:(cst x).2.1 = 0:=by unfold cst;rw [if_pos hs2]
        rw [this]
        have:=k.1
        split <;> omega
      · rw [due_2 hv hs2 d1,if_neg (by decide)]
        have:=k.1
        omega
    · rw [if_neg d1]
      by_cases d2:due x.2.2.2.2.1 (q:Int) ((t:Int) - 2) = true
      · rw [if_pos d2]
        by_cases hs2:x.1 = 2
        · have:(cst x).2.1 = 0:=by unfold cst;rw [if_pos hs2]
          omega
        · have h2:2≤t:=by
            have:0≤(t:Int) - 2:=by unfold due at d2;rw [decide_eq_true_eq] at d2;exact d2.1
            omega
          have e:((t - 2:Nat):Int) = (t:Int) - 2:=by omega
          have k:=(hf (t - 2) (by omega) (by rw [e];exact d2)).2 hs2
          rw [e,show (t:Int) - 2 + 2 = (t:Int) by omega] at k
          omega
      · rw [if_neg d2];omega
  · rw [e_w,FL_one]
    have hz:=hF _ ⟨s,hs,rfl⟩
    have b:FL l s.2.1.2.2.2.2.2 (f:Int)≤10800:=by
      rcases hz with hz | hz
      · exact hz f hf2
      · rw [hz];decide
    unfold fr
    by_cases hu:us (id,x,(q:Int)) s.2.1.2.2.2.2.2 (f:Int) = true
    · rw [if_pos hu]
      unfold us at hu
      rw [decide_eq_true_eq] at hu
      simp only at hu ⊢
      obtain ⟨u1,u2,u3⟩:=hu
      have hp8:(q:Int) % 8≤3:=by rcases hok with h | h;exact absurd h u1;exact h
      obtain ⟨t,ht⟩:=Int.eq_ofNat_of_zero_le (show 0≤(f:Int) * 8 + (q:Int) % 8 by omega)
      have k:=(hf t (by omega) (by rw [← ht];exact u3)).2 u1
      have e:(t:Int) / 8 = (f:Int):=by omega
      rw [e,u2] at k
      exact k.2
    · rw [if_neg hu];omega
theorem chk_add {l:List Slt} (hg:∀ s ∈ l,0≤s.2.1.1) (hc:chk l = 0) {id:Int} {x:Nd} (h0:0≤x.1) (hid:0≤id) (hv:VN x) (hni:c_c l id = false) (hl:l.length≠256) {q:Nat} (hq:c_I l x 0 = some q):chk (l ++ [(id,x,(q:Int))]) = 0:=by
  obtain ⟨c1,c2,c3,c4⟩:=d_d hc
  obtain ⟨f1,f2,_⟩:=f_q hq
  have hr:=a_Y hv.2.2.2.2.2.1
  have hqp:(q:Int) < x.2.2.2.2.1:=by omega
  refine chk_of (by simp;omega) (fun s hs=>?_) ?_ (room_add (fun s hs=>⟨hg s hs,c2 s hs⟩) c4 h0 hv hqp f2.1 f2.2)
  · rcases List.mem_append.1 hs with hs | hs
    · exact c2 s hs
    · rw [List.mem_singleton.1 hs]
      exact ⟨hid,hv,(show (0:Int)≤(q:Int) by omega),hqp,f2.1⟩
  · rw [List.map_append,List.nodup_append]
    refine ⟨c3,by simp,fun a ha b hb=>?_⟩
    have:b = id:=by simpa using hb
    rw [this]
    intro e
    rw [e] at ha
    rw [hasId_iff.2 ha] at hni
    cases hni
section
set_option maxRecDepth 100000
instance decNd:DecidableEq Nd:=inferInstanceAs (DecidableEq (Int × Int × Bool × Int × Int × Int))
instance decSlt:DecidableEq Slt:=inferInstanceAs (DecidableEq (Int × Nd × Int))
instance decSlts:DecidableEq (List Slt):=inferInstanceAs (DecidableEq (List Slt))
theorem p36_ok (n:Nat) (x:Int × Bool × Bool × Int × Int × Int) (h1:0≤x.1∧x.1≤255) (h2:0≤x.2.2.2.1∧x.2.2.2.1≤65535) (h3:0≤x.2.2.2.2.1∧x.2.2.2.2.1≤255) (h4:0≤x.2.2.2.2.2∧x.2.2.2.2.2≤255) :
    ∃ y,p36 n x = some y∧VN y∧0≤y.1∧0≤y.2.2.2.2.2∧y.2.2.2.2.2≤2:=by
  obtain ⟨sp,iso,i,mx,per,hub⟩:=x
  simp only at h1 h2 h3 h4
  unfold p36
  simp only
  have r8:∀ {a b:Int},0≤a→a≤255→0 < b→b≤255→c_6 .u8 a b = some (a % b):=fun {a b} q1 q2 q3 q4=>remI_ok q1 q3 (inR_u8.2 ⟨Int.emod_nonneg a (by omega),by have:=Int.emod_lt_of_pos a q3;omega⟩)
  have hM:∀ most:Int,0 < most→most≤1024→(c_6 .i64 mx most).bind (fun x_81=>(ckI .i64 (1 + x_81)).bind fun x_82=>some x_82) = some (1 + mx % most)∧1≤1 + mx % most∧1 + mx % most≤most:=by
    intro most q1 q2
    have a1:=Int.emod_nonneg mx (show most≠0 by omega)
    have a2:=Int.emod_lt_of_pos mx q1
    rw [remS h2.1 q1 (by omega),o_s,ckS (by omega) (by omega),o_s]
    exact ⟨rfl,by omega,by omega⟩
  rw [r8 h1.1 h1.2 (by decide) (by decide),o_s,r8 h3.1 h3.2 (by decide) (by decide),o_s]
  have hs:sp % 3 = 0∨sp % 3 = 1∨sp % 3 = 2:=by omega
  have hp9:∃ q,shlI .i64 1 (per % 9) = some q∧isP q = true:=by
    have:per % 9 = 0∨per % 9 = 1∨per % 9 = 2∨per % 9 = 3∨per % 9 = 4∨per % 9 = 5∨per % 9 = 6∨per % 9 = 7∨per % 9 = 8:=by omega
    rcases this with e | e | e | e | e | e | e | e | e <;> rw [e] <;> exact ⟨_,rfl,rfl⟩
  have hp6:∃ q,shlI .i64 8 (per % 6) = some q∧isP q = true∧8≤q:=by
    have:per % 6 = 0∨per % 6 = 1∨per % 6 = 2∨per % 6 = 3∨per % 6 = 4∨per % 6 = 5:=by omega
    rcases this with e | e | e | e | e | e <;> rw [e] <;> exact ⟨_,rfl,rfl,by decide⟩
  obtain ⟨q9,e9,i9⟩:=hp9
  obtain ⟨q6,e6,i6,l6⟩:=hp6
  rw [e9,o_s]
  have fin:∀ (k most:Int),(k = 3∨k = 1)→0 < most→most≤f_m k (sp % 3)→sp % 3≠2 →
      ∃ y,((c_6 .u8 per 6).bind fun x_69=>(shlI .i64 8 x_69).bind fun x_70=>(c_6 .u8 hub 3).bind fun x_75=>some ((most,(sp % 3,k,i,0,x_70,x_75)):Int × Nd)).bind (fun j_65=>(c_6 .i64 mx j_65.1).bind fun x_81=>(ckI .i64 (1 + x_81)).bind fun x_82=>some ((j_65.2.1,j_65.2.2.1,j_65.2.2.2.1,x_82,j_65.2.2.2.2.2.1,j_65.2.2.2.2.2.2):Nd)) = some y∧VN y∧0≤y.1∧0≤y.2.2.2.2.2∧y.2.2.2.2.2≤2:=by
    intro k most q1 q2 q3 q4
    have hc:=e_f k (sp % 3)
    have a1:=Int.emod_nonneg mx (show most≠0 by omega)
    have a2:=Int.emod_lt_of_pos mx q2
    rw [r8 h3.1 h3.2 (by decide) (by decide),o_s,e6,o_s,r8 h4.1 h4.2 (by decide) (by decide),o_s,o_s]
    simp only
    rw [remS h2.1 q2 (by omega),o_s,ckS (by omega) (by omega),o_s]
    refine ⟨_,rfl,⟨q1,?_,?_,?_,?_,i6,fun c=>absurd c q4,fun _=>l6⟩,?_,?_,?_⟩ <;> simp only <;> omega
  have fin2:∀ (k:Int),(k = 3∨k = 1)→sp % 3 = 2 →
      ∃ y,(some ((1024,(sp % 3,k,i,0,q9,0)):Int × Nd)).bind (fun j_65=>(c_6 .i64 mx j_65.1).bind fun x_81=>(ckI .i64 (1 + x_81)).bind fun x_82=>some ((j_65.2.1,j_65.2.2.1,j_65.2.2.2.1,x_82,j_65.2.2.2.2.2.1,j_65.2.2.2.2.2.2):Nd)) = some y∧VN y∧0≤y.1∧0≤y.2.2.2.2.2∧y.2.2.2.2.2≤2:=by
    intro k q1 q4
    have a1:=Int.emod_nonneg mx (show (1024:Int)≠0 by decide)
    have a2:=Int.emod_lt_of_pos mx (show (0:Int) < 1024 by decide)
    have hc:f_m k (sp % 3) = 1024:=by rw [q4];rcases q1 with rfl | rfl <;> rfl
    rw [o_s]
    simp only
    rw [remS h2.1 (by decide) (by omega),o_s,ckS (by omega) (by omega),o_s]
    refine ⟨_,rfl,⟨q1,?_,?_,?_,?_,i9,fun _=>rfl,fun c=>absurd q4 c⟩,?_,?_,?_⟩ <;> simp only <;> omega
  rcases hs with e | e | e
  · have hi:(if iso = true then some (sp % 3 != 0) else some false) = some false:=by rw [e];cases iso <;> rfl
    rw [hi,o_s,if_neg (by decide),o_s]
    simp only
    rw [if_neg (show ¬ (sp % 3 == 1) = true by rw [e];decide),o_s,if_neg (show ¬ (sp % 3 == 2) = true by rw [e];decide)]
    exact fin 3 8 (.inl rfl) (by decide) (by rw [e];decide) (by omega)
  · cases iso
    · rw [show (if false = true then some (sp % 3 != 0) else some false) = some false from rfl,o_s,if_neg (by decide),o_s]
      simp only
      rw [if_pos (show (sp % 3 == 1) = true by rw [e];rfl),if_neg (show ¬ ((3:Int) == 1) = true by decide),o_s,o_s,if_neg (show ¬ (sp % 3 == 2) = true by rw [e];decide)]
      exact fin 3 64 (.inl rfl) (by decide) (by rw [e];decide) (by omega)
    · rw [show (if true = true then some (sp % 3 != 0) else some false) = some true by rw [e];rfl,o_s,if_pos rfl,o_s]
      simp only
      rw [if_pos (show (sp % 3 == 1) = true by rw [e];rfl),if_pos (show ((1:Int) == 1) = true from rfl),o_s,o_s,if_neg (show ¬ (sp % 3 == 2) = true by rw [e];decide)]
      exact fin 1 1023 (.inr rfl) (by decide) (by rw [e];decide) (by omega)
  · cases iso
    · rw [show (if false = true then some (sp % 3 != 0) else some false) = some false from rfl,o_s,if_neg (by decide),o_s]
      simp only
      rw [if_neg (show ¬ (sp % 3 == 1) = true by rw [e];decide),o_s,if_pos (show (sp % 3 == 2) = true by rw [e];rfl)]
      exact fin2 3 (.inl rfl) e
    · rw [show (if true = true then some (sp % 3 != 0) else some false) = some true by rw [e];rfl,o_s,if_pos rfl,o_s]
      simp only
      rw [if_neg (show ¬ (sp % 3 == 1) = true by rw [e];decide),o_s,if_pos (show (sp % 3 == 2) = true by rw [e];rfl)]
      exact fin2 1 (.inr rfl) e
structure GP (p:Sl Slt) (b:Int):Prop where
  chk:chk p.xs = 0
  sp:∀ s ∈ p.xs,0≤s.2.1.1
  id:∀ s ∈ p.xs,0≤s.1∧s.1 < b
  cap:p.cap = some p.xs.length
theorem GP.nil (b:Int):GP ⟨[],some 0⟩ b:=⟨by decide,fun _ h=>(List.not_mem_nil h).elim,fun _ h=>(List.not_mem_nil h).elim,rfl⟩
theorem GP.allV {p:Sl Slt} {b:Int} (h:GP p b):AllV p.xs:=fun s hs=>⟨h.sp s hs,(d_d h.chk).2.1 s hs⟩
theorem GP.no {p:Sl Slt} {b:Int} (h:GP p b) {i:Int} (hi:b≤i):c_c p.xs i = false:=by
  cases hc:c_c p.xs i with
  | false=>rfl
  | true =>
    obtain ⟨s,hs,e⟩:=List.mem_map.1 (hasId_iff.1 hc)
    have:=(h.id s hs).2
    omega
theorem GP.len {p:Sl Slt} {b:Nat} (h:GP p b):p.xs.length≤b:=by
  have hn:=(d_d h.chk).2.2.1
  have h1:(p.xs.map fun s=>s.1.toNat).Nodup:=by
    refine List.Pairwise.map _ (fun a c hac=>?_) (List.pairwise_map.1 hn |>.imp_of_mem (S:=fun a c=>a.1≠c.1∧0≤a.1∧0≤c.1) fun {a c} ha hc hne=>⟨hne,(h.id a ha).1,(h.id c hc).1⟩)
    omega
  have:=d_w b h1 fun k hk=>by
    obtain ⟨s,hs,rfl⟩:=List.mem_map.1 hk
    have:=h.id s hs
    omega
  simpa using this
theorem GP.add {p:Sl Slt} {b c:Int} (h:GP p b) {id:Int} {x:Nd} (h0:0≤x.1) (hv:VN x) (hid:0≤id) (hic:id < c) (hbc:b≤c) (hl:p.xs.length < 256) :
    (c_c p.xs id = true∧addR p.xs id x = (nilS,8))∨(c_c p.xs id = false∧c_I p.xs x 0 = none∧addR p.xs id x = (nilS,14)) ∨
    ∃ q,c_c p.xs id = false∧c_I p.xs x 0 = some q∧addR p.xs id x = (⟨p.xs ++ [(id,x,(q:Int))],some (p.xs.length + 1)⟩,0)∧GP ⟨p.xs ++ [(id,x,(q:Int))],some (p.xs.length + 1)⟩ c:=by
  unfold addR
  rw [if_neg (fun k=>k h.chk),if_neg (by rintro (k | k);omega;exact k hv)]
  cases hi:c_c p.xs id with
  | true=>exact .inl ⟨rfl,by rw [if_pos rfl]⟩
  | false =>
    rw [if_neg (by decide),if_neg (by omega)]
    cases hf:c_I p.xs x 0 with
    | none=>exact .inr (.inl ⟨rfl,rfl,rfl⟩)
    | some q =>
      refine .inr (.inr ⟨q,rfl,rfl,rfl,chk_add h.sp h.chk h0 hid hv hi (by omega) hf,fun s hs=>?_,fun s hs=>?_,by simp⟩)
      · rcases List.mem_append.1 hs with hs | hs
        · exact h.sp s hs
        · rw [List.mem_singleton.1 hs];exact h0
      · rcases List.mem_append.1 hs with hs | hs
        · have:=h.id s hs;omega
        · rw [List.mem_singleton.1 hs];exact ⟨hid,hic⟩
def GoodL (x:Int × Bool × Bool × Int × Int × Int):Prop:=(0≤x.1∧x.1≤255)∧(0≤x.2.2.2.1∧x.2.2.2.1≤65535)∧(0≤x.2.2.2.2.1∧x.2.2.2.2.1≤255)∧(0≤x.2.2.2.2.2∧x.2.2.2.2.2≤255)
theorem p19_l1_eq {n:Nat} (hn:1100≤n) (x:Sl (Int × Bool × Bool × Int × Int × Int)) (hx:∀ y ∈ x.xs,GoodL y):∀ (m k:Nat) (c:Int) (p:Sl Slt),20 - k < m→k≤20→0≤c→c≤(k:Int)→GP p k →
    ∃ c' p',p19_l1 n x m k c p = some (c',p')∧GP p' 20:=by
  intro m
  induction m with
  | zero=>intro k c p h;exact absurd h (by omega)
  | succ m ih =>
    intro k c p hm hk hc0 hc hp
    have hl:=hp.len
    unfold p19_l1
    rw [b_m,andS,o_s]
    by_cases hq:k < x.xs.length∧k < 20
    · have hb:(decide ((k:Int) < (x.xs.length:Int)) && decide ((k:Int) < 20)) = true:=by rw [Bool.and_eq_true,decide_eq_true_eq,decide_eq_true_eq];omega
      obtain ⟨g1,g2,g3,g4⟩:=hx x.xs[k] (List.getElem_mem hq.1)
      obtain ⟨y,hy,hv,h0,_,_⟩:=p36_ok n x.xs[k] g1 g2 g3 g4
      rw [hb,if_pos rfl,e_u hq.1,o_s,hy,o_s,p35_eq hn p hp.sp (by omega) k y h0,o_s]
      rcases hp.add (c:=((k + 1:Nat):Int)) (id:=(k:Int)) h0 hv (by omega) (by omega) (by omega) (by omega) with ⟨h1,h2⟩ | ⟨h1,h2,h3⟩ | ⟨q,h1,h2,h3,h4⟩
      · rw [hp.no (Int.le_refl _)] at h1;cases h1
      · rw [h3,if_neg (by decide),ckS (by omega) (by omega),o_s,o_s,ckS (by omega) (by omega),o_s,b_O]
        exact ih (k + 1) _ _ (by omega) (by omega) (by omega) (by omega) ⟨hp.chk,hp.sp,fun s hs=>by have:=hp.id s hs;omega,hp.cap⟩
      · rw [h3,if_pos (show ((0:Int) == 0) = true from rfl),o_s,ckS (by omega) (by omega),o_s,b_O]
        exact ih (k + 1) _ _ (by omega) (by omega) (by omega) (by omega) h4
    · have hb:(decide ((k:Int) < (x.xs.length:Int)) && decide ((k:Int) < 20)) = false:=by rw [Bool.and_eq_false_iff,decide_eq_false_iff_not,decide_eq_false_iff_not];omega
      rw [hb,if_neg (by decide)]
      exact ⟨c,p,rfl,hp.chk,hp.sp,fun s hs=>by have:=hp.id s hs;omega,hp.cap⟩
theorem p19_ok {n:Nat} (hn:1100≤n) (x:Sl (Int × Bool × Bool × Int × Int × Int)) (hx:∀ y ∈ x.xs,GoodL y):∃ c p,p19 n x = some (p,c)∧GP p 20:=by
  unfold p19
  obtain ⟨c,p,h1,h2⟩:=p19_l1_eq hn x hx n 0 0 ⟨[],some 0⟩ (by omega) (by omega) (by omega) (by omega) (GP.nil _)
  rw [show ((0:Nat):Int) = 0 from rfl] at h1
  exact ⟨c,p,by rw [h1,o_s],h2⟩
end
def asks (s:Slt):Bool:=decide (s.2.1.2.1≠1∨s.2.1.2.2.1 = true)
def b_x (s:Slt) (t:Int):Bool:=due s.2.1.2.2.2.2.1 s.2.2 t
def mk (s:Slt) (w g:Int):Trn:=((s.1,w),g,s.2.1.2.2.2.2.1)
def tv (s:Slt) (T:Int):List Trn :=
  if s.2.1.1 = 2 then (if b_x s T = true then [mk s 1 1] else [])
  else if b_x s T = true then [mk s 2 1]
  else if asks s = true then (if b_x s (T - 2) = true then [mk s 3 0] else if b_x s (T - 3) = true then [mk s 4 2] else if b_x s (T - 4) = true then [mk s 4 2] else [])
  else []
theorem appF_nil {x:Trn}:appF (⟨[],some 0⟩:Sl Trn) [x] = some [x]:=by
  unfold appF
  rw [if_pos ⟨rfl,by simp,by simp⟩];rfl
theorem d_B {s:Slt} (hv:VN s.2.1) (hs:s.2.1.1≠2) {t:Int} (h:b_x s t = true):t % 8 = s.2.2 % 8:=d_e hv hs h
theorem tv_ok {s:Slt} (hv:VS s) (T:Int):(tv s T).length≤1∧∀ x ∈ tv s T,TOk x:=by
  have hr:=a_Y hv.2.1.2.2.2.2.2.1
  have hm:∀ w g:Int,0≤g∧g≤2→TOk (mk s w g):=fun w g hg=>⟨hg,by unfold mk;simp only;omega⟩
  have h1:∀ w g:Int,0≤g∧g≤2→([mk s w g]:List Trn).length≤1∧∀ x ∈ [mk s w g],TOk x:=fun w g hg=>⟨by simp,fun x hx=>by rw [List.mem_singleton.1 hx];exact hm w g hg⟩
  have h0:([]:List Trn).length≤1∧∀ x ∈ ([]:List Trn),TOk x:=⟨by simp,fun x hx=>(List.not_mem_nil hx).elim⟩
  unfold tv
  repeat' split
  all_goals first | exact h0 | exact h1 _ _ (by decide)
def klt (x y:Trn):Prop:=x.2.1 < y.2.1∨(x.2.1 = y.2.1∧(x.2.2 < y.2.2∨(x.2.2 = y.2.2∧x.1.1 < y.1.1)))
instance (x y:Trn):Decidable (klt x y):=by unfold klt;infer_instance
theorem p28_eq (m:Nat) (a b:Int):∃ r,p28 m a b = some r∧(r < 0↔a < b):=by
  unfold p28 p46
  rw [o_s,o_s]
  by_cases h1:a < b
  · by_cases h2:a > b
    · omega
    · simp [h1]
  · by_cases h2:a > b
    · simp [h1,h2]
    · simp [h1,h2]
theorem p27_eq (m:Nat) (a b c:Int):p27 (m + 10) (⟨[a,b,c],some 3⟩:Sl Int) = some (if a≠0 then a else if b≠0 then b else c):=by
  unfold p27
  rw [p27_l1,c_i (show (0:Int) < a_h (⟨[a,b,c],some 3⟩:Sl Int) from (by decide:(0:Int) < 3)),show idx (⟨[a,b,c],some 3⟩:Sl Int).xs 0 = some a from rfl,o_s]
  by_cases h1:a = 0
  · rw [if_neg (by simpa using h1),ckS (by omega) (by omega),o_s,if_neg (fun h=>h h1)]
    rw [p27_l1,c_i (show (0:Int) + 1 < a_h (⟨[a,b,c],some 3⟩:Sl Int) from (by decide:(0:Int) + 1 < 3)),show idx (⟨[a,b,c],some 3⟩:Sl Int).xs (0 + 1) = some b from rfl,o_s]
    by_cases h2:b = 0
    · rw [if_neg (by simpa using h2),ckS (by omega) (by omega),o_s,if_neg (fun h=>h h2)]
      rw [p27_l1,c_i (show (0:Int) + 1 + 1 < a_h (⟨[a,b,c],some 3⟩:Sl Int) from (by decide:(0:Int) + 1 + 1 < 3)),show idx (⟨[a,b,c],some 3⟩:Sl Int).xs (0 + 1 + 1) = some c from rfl,o_s]
      by_cases h3:c = 0
      · rw [if_neg (by simpa using h3),ckS (by omega) (by omega),o_s]
        rw [p27_l1,c_b (show ¬ (0:Int) + 1 + 1 + 1 < a_h (⟨[a,b,c],some 3⟩:Sl Int) from (by decide:¬ (0:Int) + 1 + 1 + 1 < 3)),o_s,lrKl,h3]
      · rw [if_pos (by simpa using h3),o_s,lrKr]
    · rw [if_pos (by simpa using h2),o_s,lrKr,if_pos h2]
  · rw [if_pos (by simpa using h1),o_s,lrKr,if_pos h1]
theorem p26_eq {n:Nat} (hn:10≤n) (x y:Trn) (hx:TOk x) (hy:TOk y):∃ r,p26 n x y = some r∧(r < 0↔klt x y):=by
  obtain ⟨m,rfl⟩:∃ m,n = m + 10:=⟨n - 10,by omega⟩
  obtain ⟨⟨a1,a2⟩,a3,a4⟩:=hx
  obtain ⟨⟨b1,b2⟩,b3,b4⟩:=hy
  unfold p26
  rw [ckS (by omega) (by omega),o_s,ckS (by omega) (by omega),o_s]
  obtain ⟨r,hr,hr0⟩:=p28_eq (m + 10) x.1.1 y.1.1
  rw [hr,o_s,p27_eq,o_s]
  refine ⟨_,rfl,?_⟩
  unfold klt
  by_cases h1:x.2.1 - y.2.1 = 0
  · rw [if_neg (fun h=>h h1)]
    by_cases h2:x.2.2 - y.2.2 = 0
    · rw [if_neg (fun h=>h h2),hr0]
      constructor
      · intro h;exact .inr ⟨by omega,.inr ⟨by omega,h⟩⟩
      · rintro (h | ⟨_,h | ⟨_,h⟩⟩)
        · omega
        · omega
        · exact h
    · rw [if_pos h2]
      constructor
      · intro h;exact .inr ⟨by omega,.inl (by omega)⟩
      · rintro (h | ⟨_,h | ⟨h,_⟩⟩) <;> omega
  · rw [if_pos h1]
    constructor
    · intro h;exact .inl (by omega)
    · rintro (h | ⟨h,_⟩) <;> omega
def c_r (x:Trn):List Trn→List Trn
  | []=>[x]
  | y :: r=>if klt x y then y :: c_r x r else x :: y :: r
theorem insR_pos {x y:Trn} (h:klt x y) (r:List Trn):c_r x (y :: r) = y :: c_r x r:=by rw [c_r,if_pos h]
theorem insR_neg {x y:Trn} (h:¬ klt x y) (r:List Trn):c_r x (y :: r) = x :: y :: r:=by rw [c_r,if_neg h]
def b_c (l r:List Trn):List Trn:=l.foldl (fun r x=>c_r x r) r
theorem insR_mem {x z:Trn}:∀ {r:List Trn},z ∈ c_r x r↔z = x∨z ∈ r
  | []=>by simp [c_r]
  | y :: r=>by
    unfold c_r
    split
    · rw [List.mem_cons,insR_mem,List.mem_cons]
      constructor
      · rintro (h | h | h) <;> simp [h]
      · rintro (h | h | h) <;> simp [h]
    · rw [List.mem_cons]
theorem c_J (x:Trn):∀ r:List Trn,(c_r x r).length = r.length + 1
  | []=>rfl
  | y :: r=>by
    unfold c_r
    split
    · rw [List.length_cons,c_J x r,List.length_cons]
    · rfl
theorem c_d:∀ (l r:List Trn),(b_c l r).length = l.length + r.length
  | [],r=>by simp [b_c]
  | x :: l,r=>by
    have:=c_d l (c_r x r)
    rw [c_J] at this
    show (b_c l (c_r x r)).length = _
    rw [this,List.length_cons];omega
theorem e_i {α:Type} (a:List α) (x:α) (b:List α):idx (a ++ x :: b) (a.length:Int) = some x:=by
  rw [d_0,List.getElem?_append_right (Nat.le_refl _),Nat.sub_self];rfl
theorem set_mid {α:Type} (a:List α) (x y:α) (b:List α):(a ++ x :: b).set a.length y = a ++ y :: b:=by
  rw [List.set_append_right _ _ (Nat.le_refl _),Nat.sub_self];rfl
theorem p59_l2_eq {n:Nat} (hn:10≤n) (x:Trn) (hx:TOk x):∀ (m:Nat) (r post:List Trn),r.length < m→r.length≤1000→(∀ y ∈ r,TOk y)→p59_26_l2 n 0 m (r.length:Int) (r.reverse ++ x :: post) = some ((c_r x r).reverse ++ post):=by
  intro m
  induction m with
  | zero=>intro r post hm;exact absurd hm (by omega)
  | succ m ih =>
    intro r post hm hl hT
    rw [p59_26_l2]
    cases r with
    | nil =>
      rw [show (decide ((([]:List Trn).length:Int) > 0)) = false from rfl,if_neg (by decide),o_s,if_neg (by decide)]
      rfl
    | cons y r =>
      obtain ⟨q,hq,hq0⟩:=p26_eq hn x y hx (hT y (by simp))
      have hk1:(((y :: r).length:Nat):Int) - 1 = (r.length:Int):=by rw [List.length_cons];omega
      have i1:idx ((y :: r).reverse ++ x :: post) ((y :: r).length:Int) = some x:=by
        have:=e_i (y :: r).reverse x post
        rw [List.length_reverse] at this
        exact this
      have i2:idx ((y :: r).reverse ++ x :: post) (r.length:Int) = some y:=by
        have:=e_i r.reverse y (x :: post)
        rw [List.length_reverse] at this
        rw [List.reverse_cons,List.append_assoc]
        exact this
      rw [List.length_cons] at hm hl
      rw [decide_eq_true (show (((y :: r).length:Nat):Int) > 0 by rw [List.length_cons];omega),if_pos rfl,i1,o_s,ckS (by rw [hk1];omega) (by rw [hk1];omega),o_s,hk1,i2,o_s,hq,o_s,o_s]
      by_cases h:klt x y
      · have hs:((y :: r).reverse ++ x :: post).set (((y :: r).length:Nat):Int).toNat y = r.reverse ++ y :: y :: post:=by
          have:=set_mid (y :: r).reverse x y post
          rw [List.length_reverse] at this
          rw [show (((y :: r).length:Nat):Int).toNat = (y :: r).length by omega,this,List.reverse_cons,List.append_assoc];rfl
        have i3:idx (r.reverse ++ y :: y :: post) (r.length:Int) = some y:=by
          have:=e_i r.reverse y (y :: post)
          rw [List.length_reverse] at this
          exact this
        have s3:(r.reverse ++ y :: y :: post).set r.length x = r.reverse ++ x :: y :: post:=by
          have:=set_mid r.reverse y x (y :: post)
          rw [List.length_reverse] at this
          exact this
        rw [c_i (hq0.2 h),o_s,o_s,i2,o_s,o_s,o_s,hs,i3,o_s,show ((r.length:Nat):Int).toNat = r.length by omega,s3,o_s,ih r (y :: post) (by omega) (by omega) (fun z hz=>hT z (by simp [hz]))]
        rw [insR_pos h];simp
      · rw [c_b (fun q=>h (hq0.1 q))]
        rw [insR_neg h];simp
theorem p59_l1_eq {n:Nat} (hn:1010≤n) (L:Nat) (hL:L≤1000):∀ (m:Nat) (r l:List Trn),l.length < m→r.length + l.length = L→(∀ x ∈ r,TOk x)→(∀ x ∈ l,TOk x)→p59_26_l1 n 0 (L:Int) m (r.length:Int) (r.reverse ++ l) = some (b_c l r).reverse:=by
  intro m
  induction m with
  | zero=>intro r l hm;exact absurd hm (by omega)
  | succ m ih =>
    intro r l hm he hr hl
    rw [p59_26_l1]
    cases l with
    | nil =>
      rw [List.length_nil] at he
      rw [c_b (by omega),List.append_nil];rfl
    | cons x l =>
      rw [List.length_cons] at he hm
      have h1:=p59_l2_eq (n:=n) (by omega) x (hl x (by simp)) n r l (by omega) (by omega) hr
      rw [c_i (by omega),h1,o_s,ckS (by omega) (by omega),o_s,b_O]
      have h2:=ih (c_r x r) l (by omega) (by rw [c_J];omega) (fun z hz=>by
        rcases insR_mem.1 hz with rfl | hz
        · exact hl z (by simp)
        · exact hr z hz) (fun z hz=>hl z (by simp [hz]))
      rw [c_J] at h2
      rw [h2];rfl
theorem p25_eq {n:Nat} (hn:1100≤n) (l:List Trn) (c:Option Nat) (hl:l.length≤20) (hT:∀ x ∈ l,TOk x):p25_26 n ⟨l,c⟩ = some (b_c l []).reverse:=by
  obtain ⟨m,rfl⟩:∃ m,n = m + 1100:=⟨n - 1100,by omega⟩
  have ins0:∀ c,p59_26 (m + 1100) ⟨l,c⟩ 0 (l.length:Int) = some (b_c l []).reverse:=by
    intro c
    unfold p59_26
    rw [ckS (by omega) (by omega),o_s]
    cases l with
    | nil =>
      show (p59_26_l1 (m + 1100) 0 0 (m + 1100) ((0:Int) + 1) []).bind _ = _
      rw [p59_26_l1,c_b (by decide),o_s];rfl
    | cons x l =>
      have h1:=p59_l1_eq (n:=m + 1100) (by omega) (x :: l).length (by omega) (m + 1100) [x] l (by rw [List.length_cons] at hl;omega) (by rw [List.length_cons,List.length_cons,List.length_nil];omega) (fun z hz=>hT z (by rw [List.mem_singleton.1 hz];simp)) (fun z hz=>hT z (by simp [hz]))
      show (p59_26_l1 (m + 1100) 0 _ (m + 1100) (([x].length:Nat):Int) ([x].reverse ++ l)).bind _ = _
      rw [h1,o_s];rfl
  have ins1:∀ (q:List Trn) c,q.length = l.length→p59_26 (m + 1100) ⟨q,c⟩ (q.length:Int) (q.length:Int) = some q:=by
    intro q c hq
    unfold p59_26
    rw [ckS (by omega) (by omega),o_s]
    show (p59_26_l1 (m + 1100) _ (q.length:Int) (m + 1100) _ q).bind _ = _
    rw [p59_26_l1,c_b (by omega),o_s]
  unfold p25_26 p45_26
  simp only
  rw [a_9]
  have l2:∀ q:List Trn,p45_26_l2 (m + 1100) (⟨l,c⟩:Sl Trn) (l.length:Int) (m + 1100) q 20 = some q:=by
    intro q
    rw [p45_26_l2,c_b (by omega)]
  have hsl:(b_c l []).reverse.length = l.length:=by rw [List.length_reverse,c_d,List.length_nil];omega
  by_cases h20:l.length = 20
  · have h1:=ins0 c
    have h3:=ins1 (b_c l []).reverse c hsl
    rw [hsl,show ((l.length:Nat):Int) = 20 by omega] at h3
    rw [show ((l.length:Nat):Int) = 20 by omega] at h1
    rw [show ((l.length:Nat):Int) = 20 by omega] at l2 ⊢
    rw [p45_26_l1,c_i (by decide),h1,o_s,ckS (by omega) (by omega),o_s,p45_26_l1,c_b (by decide),o_s]
    simp only
    rw [h3,o_s,l2,o_s,o_s]
  · rw [p45_26_l1,c_b (by omega),o_s]
    simp only
    rw [ins0,o_s,l2,o_s,o_s]
theorem c_K {x:Trn}:∀ {a b:List Trn},(∀ y ∈ a,klt x y)→c_r x (a ++ b) = a ++ c_r x b
  | [],b,_=>rfl
  | y :: a,b,h=>by
    rw [List.cons_append,c_r,if_pos (h y (by simp)),c_K fun z hz=>h z (by simp [hz])];rfl
theorem c_X {x:Trn}:∀ {a b:List Trn},(∀ y ∈ b,¬ klt x y)→c_r x (a ++ b) = c_r x a ++ b
  | [],[],_=>rfl
  | [],y :: b,h=>by
    show (if klt x y then y :: c_r x b else x :: y :: b) = x :: y :: b
    rw [if_neg (h y (by simp))]
  | y :: a,b,h=>by
    rw [List.cons_append,c_r,c_r]
    by_cases hk:klt x y
    · rw [if_pos hk,if_pos hk,c_X h];rfl
    · rw [if_neg hk,if_neg hk];rfl
def grp (g:Int) (l:List Trn):List Trn:=l.filter fun x=>x.2.1 == g
def Of (g:Int) (r:List Trn):Prop:=∀ y ∈ r,y.2.1 = g
theorem Of.ins {g:Int} {r:List Trn} {x:Trn} (h:Of g r) (hx:x.2.1 = g):Of g (c_r x r):=fun y hy=>by
  rcases insR_mem.1 hy with rfl | hy
  · exact hx
  · exact h y hy
theorem c_L:∀ (l r0 r1 r2:List Trn),(∀ x ∈ l,TOk x)→Of 0 r0→Of 1 r1→Of 2 r2 →
    b_c l (r2 ++ (r1 ++ r0)) = b_c (grp 2 l) r2 ++ (b_c (grp 1 l) r1 ++ b_c (grp 0 l) r0)
  | [],r0,r1,r2,_,_,_,_=>rfl
  | x :: l,r0,r1,r2,ho,h0,h1,h2=>by
    have hl:∀ z ∈ l,TOk z:=fun z hz=>ho z (by simp [hz])
    have hx:=(ho x (by simp)).1
    have lt:∀ {y:Trn},x.2.1 < y.2.1→klt x y:=fun h=>.inl h
    have nlt:∀ {y:Trn},y.2.1 < x.2.1→¬ klt x y:=fun h q=>by
      rcases q with q | ⟨q,_⟩ <;> omega
    show b_c l (c_r x (r2 ++ (r1 ++ r0))) = _
    have hg:∀ g:Int,grp g (x :: l) = if x.2.1 = g then x :: grp g l else grp g l:=fun g=>by
      unfold grp
      rw [List.filter_cons]
      by_cases h:x.2.1 = g
      · rw [if_pos (by simpa using h),if_pos h]
      · rw [if_neg (by simpa using h),if_neg h]
    rcases (show x.2.1 = 0∨x.2.1 = 1∨x.2.1 = 2 by omega) with h | h | h
    · rw [c_K fun y hy=>lt (by rw [h,h2 y hy];decide),c_K fun y hy=>lt (by rw [h,h1 y hy];decide),c_L l _ _ _ hl (h0.ins h) h1 h2,hg 2,hg 1,hg 0,if_neg (by omega),if_neg (by omega),if_pos h]
      rfl
    · rw [c_K fun y hy=>lt (by rw [h,h2 y hy];decide),c_X fun y hy=>nlt (by rw [h,h0 y hy];decide),c_L l _ _ _ hl h0 (h1.ins h) h2,hg 2,hg 1,hg 0,if_neg (by omega),if_pos h,if_neg (by omega)]
      rfl
    · rw [c_X fun y hy=>nlt (by
        rcases List.mem_append.1 hy with q | q
        · rw [h,h1 y q];decide
        · rw [h,h0 y q];decide),c_L l _ _ _ hl h0 h1 (h2.ins h),hg 2,hg 1,hg 0,if_pos h,if_neg (by omega),if_neg (by omega)]
      rfl
theorem p43_eq0 (n:Nat) (s:Slt) (hv:VS s) (b g w:Int) (T:Int) (hb:0≤b∧b≤4) (hT:0≤T∧T≤1048576):∀ y:Sl Trn,(b_x s (T - b) = true→y = ⟨[],some 0⟩) →
    p43 n b g w T s y = some (if b_x s (T - b) = true then ⟨[mk s w g],.none⟩ else y):=by
  intro y hy
  unfold p43
  by_cases hTb:T ≥ b
  · rw [decide_eq_true hTb,if_pos rfl,ckS (by omega) (by omega),o_s,p44_eq n _ _ _ hv.2.1.2.2.2.2.2.1 hv.2.2.1 hv.2.2.2.1 (by omega),o_s,o_s]
    by_cases h:b_x s (T - b) = true
    · rw [hy h]
      unfold b_x at h
      rw [if_pos h]
      show ((appF (⟨[],some 0⟩:Sl Trn) [mk s w g]).bind fun l_55=>some (⟨l_55,.none⟩:Sl Trn)).bind _ = _
      rw [appF_nil,o_s,o_s]
      unfold b_x
      rw [if_pos h]
    · rw [if_neg h]
      unfold b_x at h
      rw [if_neg h,o_s]
  · have h:¬ b_x s (T - b) = true:=by
      unfold b_x due
      rw [decide_eq_true_eq]
      omega
    rw [decide_eq_false hTb,if_neg (by decide),o_s,if_neg (by decide),o_s,if_neg h]
theorem p24_eq0 (n:Nat) (s:Slt) (hv:VS s) (T:Int) (hT:0≤T∧T≤1048576):∃ c,p24 n s T = some ⟨tv s T,c⟩:=by
  unfold p24 tv
  by_cases h2:s.2.1.1 = 2
  · rw [if_pos (by simpa using h2),p43_eq0 n s hv 0 1 1 T (by omega) hT _ (fun _=>rfl),o_s,if_pos h2,Int.sub_zero]
    by_cases h:b_x s T = true
    · rw [if_pos h,if_pos h];exact ⟨_,rfl⟩
    · rw [if_neg h,if_neg h];exact ⟨_,rfl⟩
  · have m0:=fun h=>d_B hv.2.1 h2 (t:=T) h
    have m2:=fun h=>d_B hv.2.1 h2 (t:=T - 2) h
    have m3:=fun h=>d_B hv.2.1 h2 (t:=T - 3) h
    have m4:=fun h=>d_B hv.2.1 h2 (t:=T - 4) h
    rw [if_neg (by simpa using h2),p43_eq0 n s hv 0 1 2 T (by omega) hT _ (fun _=>rfl),o_s,if_neg h2,Int.sub_zero]
    have hask:(if (s.2.1.2.1 != 1) = false then some s.2.1.2.2.1 else some true) = some (asks s):=by
      unfold asks
      by_cases h:s.2.1.2.1 = 1
      · rw [if_pos (by simpa using h)]
        cases s.2.1.2.2.1 <;> simp [h]
      · rw [if_neg (by simpa using h),decide_eq_true (.inl h)]
    rw [hask,o_s]
    by_cases h:b_x s T = true
    · have h0:=m0 h
      have n2:¬ b_x s (T - 2) = true:=fun q=>by have:=m2 q;omega
      have n3:¬ b_x s (T - 3) = true:=fun q=>by have:=m3 q;omega
      have n4:¬ b_x s (T - 4) = true:=fun q=>by have:=m4 q;omega
      rw [if_pos h,if_pos h]
      by_cases ha:asks s = true
      · rw [if_pos ha,p43_eq0 n s hv 2 0 3 T (by omega) hT _ (fun q=>absurd q n2),if_neg n2,o_s,p43_eq0 n s hv 3 2 4 T (by omega) hT _ (fun q=>absurd q n3),if_neg n3,o_s,p43_eq0 n s hv 4 2 4 T (by omega) hT _ (fun q=>absurd q n4),if_neg n4,o_s,o_s]
        exact ⟨_,rfl⟩
      · rw [if_neg ha,o_s];exact ⟨_,rfl⟩
    · rw [if_neg h,if_neg h]
      by_cases ha:asks s = true
      · rw [if_pos ha,if_pos ha,p43_eq0 n s hv 2 0 3 T (by omega) hT _ (fun q=>rfl),o_s]
        by_cases g2:b_x s (T - 2) = true
        · have h0:=m2 g2
          have n3:¬ b_x s (T - 3) = true:=fun q=>by have:=m3 q;omega
          have n4:¬ b_x s (T - 4) = true:=fun q=>by have:=m4 q;omega
          rw [if_pos g2,if_pos g2,p43_eq0 n s hv 3 2 4 T (by omega) hT _ (fun q=>absurd q n3),if_neg n3,o_s,p43_eq0 n s hv 4 2 4 T (by omega) hT _ (fun q=>absurd q n4),if_neg n4,o_s,o_s]
          exact ⟨_,rfl⟩
        · rw [if_neg g2,if_neg g2,p43_eq0 n s hv 3 2 4 T (by omega) hT _ (fun q=>rfl),o_s]
          by_cases g3:b_x s (T - 3) = true
          · have h0:=m3 g3
            have n4:¬ b_x s (T - 4) = true:=fun q=>by have:=m4 q;omega
            rw [if_pos g3,if_pos g3,p43_eq0 n s hv 4 2 4 T (by omega) hT _ (fun q=>absurd q n4),if_neg n4,o_s,o_s]
            exact ⟨_,rfl⟩
          · rw [if_neg g3,if_neg g3,p43_eq0 n s hv 4 2 4 T (by omega) hT _ (fun q=>rfl),o_s,o_s]
            by_cases g4:b_x s (T - 4) = true
            · rw [if_pos g4,if_pos g4];exact ⟨_,rfl⟩
            · rw [if_neg g4,if_neg g4];exact ⟨_,rfl⟩
      · rw [if_neg ha,if_neg ha,o_s];exact ⟨_,rfl⟩
theorem e_8 {s:Slt} (hv:VS s):chk [s]≠1:=by
  unfold chk
  rw [if_neg (show ¬ [s].length > 256 by simp),if_neg (show ¬ ¬ ∀ x ∈ [s],VS x from fun q=>q fun x hx=>by rw [List.mem_singleton.1 hx];exact hv)]
  split
  · decide
  · split <;> decide
theorem e_9 {s:Slt} (hv:¬ VS s):chk [s] = 1:=by
  unfold chk
  rw [if_neg (show ¬ [s].length > 256 by simp),if_pos (show ¬ ∀ x ∈ [s],VS x from fun q=>hv (q s (by simp)))]
def b_Q (l:List Slt):List Slt:=l.filter fun s=>decide (VS s)
def tvG (l:List Slt) (T:Int):List Trn:=(b_Q l).flatMap fun s=>tv s T
theorem d_S (s:Slt) (l:List Slt):b_Q (s :: l) = if VS s then s :: b_Q l else b_Q l:=by
  unfold b_Q
  rw [List.filter_cons]
  by_cases h:VS s
  · rw [if_pos (by simpa using h),if_pos h]
  · rw [if_neg (by simpa using h),if_neg h]
theorem f_a (s:Slt) (l:List Slt) (T:Int):tvG (s :: l) T = (if VS s then tv s T else []) ++ tvG l T:=by
  unfold tvG
  rw [d_S]
  by_cases h:VS s
  · rw [if_pos h,if_pos h,List.flatMap_cons]
  · rw [if_neg h,if_neg h,List.nil_append]
theorem e_B {l:List Slt} (h:∀ s ∈ l,VS s):b_Q l = l:=by
  unfold b_Q
  rw [List.filter_eq_self]
  exact fun s hs=>decide_eq_true (h s hs)
theorem tvG_ok (l:List Slt) (T:Int):(tvG l T).length≤l.length∧∀ x ∈ tvG l T,TOk x:=by
  induction l with
  | nil=>exact ⟨by simp [tvG,b_Q],fun x hx=>by simp [tvG,b_Q] at hx⟩
  | cons s l ih =>
    rw [f_a]
    by_cases h:VS s
    · have h2:=tv_ok h T
      rw [if_pos h]
      refine ⟨by rw [List.length_append,List.length_cons];omega,fun x hx=>?_⟩
      rcases List.mem_append.1 hx with q | q
      · exact h2.2 x q
      · exact ih.2 x q
    · rw [if_neg h,List.nil_append]
      exact ⟨by rw [List.length_cons];omega,ih.2⟩
theorem p11_l1_eq0 {n:Nat} (hn:1100≤n) (x:Sl Slt) (hx:∀ s ∈ x.xs,0≤s.2.1.1) (hl:x.xs.length≤300) (T:Int) (hT:0≤T∧T≤1048576):∀ (m k:Nat) (a:List Trn),x.xs.length - k < m→k≤x.xs.length→a.length≤k →
    p11_l1 n x T m k a = some (a ++ tvG (x.xs.drop k) T):=by
  intro m
  induction m with
  | zero=>intro k a hm;exact absurd hm (by omega)
  | succ m ih =>
    intro k a hm hk ha
    rw [p11_l1,b_m]
    by_cases hlt:k < x.xs.length
    · have h0:=hx x.xs[k] (List.getElem_mem hlt)
      rw [c_i (by omega),e_u hlt,o_s,p9_eq hn (⟨[x.xs[k]],some 1⟩:Sl Slt) (fun s hs=>by rw [List.mem_singleton.1 hs];exact h0) (by simp),o_s,b_p hlt,f_a]
      by_cases hv:VS x.xs[k]
      · obtain ⟨c,hc⟩:=p24_eq0 n x.xs[k] hv T hT
        have ht:=tv_ok hv T
        rw [if_pos hv,if_pos (by simpa using e_8 hv),hc,o_s,a_1 (by simp only;omega),o_s,o_s,ckS (by omega) (by omega),o_s,b_O,ih (k + 1) _ (by omega) (by omega) (by rw [List.length_append];simp only;omega),List.append_assoc]
      · rw [if_neg hv,if_neg (by simpa using e_9 hv),o_s,ckS (by omega) (by omega),o_s,b_O,ih (k + 1) _ (by omega) (by omega) (by omega),List.nil_append]
    · rw [c_b (by omega),List.drop_eq_nil_of_le (by omega)]
      simp [tvG,b_Q]
theorem p11_l2_eq0 (n:Nat) (l:List Trn) (hl:l.length≤300):∀ (m k:Nat) (a:List (Int × Int)),l.length - k < m→k≤l.length→a.length = l.length→(∀ i,i < k→a[i]? = (l.map (·.1))[i]?)→p11_l2 n l m k a = some (l.map (·.1)):=by
  intro m
  induction m with
  | zero=>intro k a hm;exact absurd hm (by omega)
  | succ m ih =>
    intro k a hm hk ha hi
    rw [p11_l2,a_9]
    by_cases hlt:k < l.length
    · rw [c_i (by omega),e_u hlt,o_s,e_u (show k < a.length by omega),o_s,ckS (by omega) (by omega),o_s,b_O,show ((k:Nat):Int).toNat = k by omega]
      refine ih (k + 1) _ (by omega) (by omega) (by simp [ha]) fun i h=>?_
      rw [List.getElem?_set]
      by_cases he:k = i
      · subst he
        rw [if_pos rfl,if_pos (by omega),List.getElem?_map,List.getElem?_eq_getElem hlt];rfl
      · rw [if_neg he];exact hi i (by omega)
    · rw [c_b (by omega)]
      refine congrArg some (List.ext_getElem? fun i=>?_)
      by_cases h:i < k
      · exact hi i h
      · rw [List.getElem?_eq_none (by omega),List.getElem?_eq_none (by rw [List.length_map];omega)]
def e_C (l:List Slt) (T:Int):List (Int × Int):=((b_c (tvG l T) []).reverse).map (·.1)
theorem f_c (l:List Slt) (T:Int):(e_C l T).length≤l.length:=by
  unfold e_C
  rw [List.length_map,List.length_reverse,c_d,List.length_nil]
  exact (tvG_ok l T).1
theorem p11_eq0 {n:Nat} (hn:1100≤n) (x:Sl Slt) (hx:∀ s ∈ x.xs,0≤s.2.1.1) (hl:x.xs.length≤20) (T:Int) (hT:0≤T∧T≤1048576):p11 n x T = some ⟨e_C x.xs T,some (e_C x.xs T).length⟩:=by
  have ho:=tvG_ok x.xs T
  have h1:=p11_l1_eq0 hn x hx (by omega) T hT n 0 [] (by omega) (by omega) (by simp)
  rw [show ((0:Nat):Int) = 0 from rfl,List.drop_zero,List.nil_append] at h1
  have h2:=p25_eq hn (tvG x.xs T) .none (by omega) ho.2
  have hlen:(b_c (tvG x.xs T) []).reverse.length = (tvG x.xs T).length:=by rw [List.length_reverse,c_d,List.length_nil];omega
  have h4:=p11_l2_eq0 n (b_c (tvG x.xs T) []).reverse (by omega) n 0 (List.replicate (b_c (tvG x.xs T) []).reverse.length (0,0)) (by omega) (by omega) (by simp) (fun i h=>absurd h (by omega))
  rw [show ((0:Nat):Int) = 0 from rfl] at h4
  unfold p11
  rw [decide_eq_false (show ¬ T < 0 by omega),decide_eq_false (show ¬ T > 1048576 by omega),if_pos rfl,o_s,if_neg (by decide),h1,o_s,h2,o_s,a_9]
  have hm:mkI ((b_c (tvG x.xs T) []).reverse.length:Int) ((b_c (tvG x.xs T) []).reverse.length:Int) = some ((b_c (tvG x.xs T) []).reverse.length,(b_c (tvG x.xs T) []).reverse.length):=by
    unfold mkI
    rw [if_pos (by omega)]
    simp
  rw [hm,o_s]
  simp only
  rw [h4,o_s]
  unfold e_C
  rw [List.length_map]
theorem p11_out (n:Nat) (x:Sl Slt) (T:Int) (h:¬ (0≤T∧T≤1048576)):p11 n x T = some ⟨[],some 0⟩:=by
  unfold p11
  by_cases h1:T < 0
  · rw [decide_eq_true h1,if_neg (by decide),o_s,if_pos rfl]
  · rw [decide_eq_false h1,if_pos rfl,o_s,if_pos (decide_eq_true (by omega))]
theorem p23_eq0 (n:Nat) (s:Slt) (hv:VS s) (t:Int) (h0:-100≤t) (h1:t≤1048576):p23 n s t = some (b_x s t):=by
  have hp:=a_Y hv.2.1.2.2.2.2.2.1
  have q0:=hv.2.2.1
  have q1:=hv.2.2.2.1
  unfold p23 b_x due
  by_cases h:t ≥ s.2.2
  · rw [decide_eq_true h,if_pos rfl,ckS (by omega) (by omega),o_s,remS (by omega) (by omega) (by omega),o_s,o_s]
    refine congrArg some ?_
    have e:((t - s.2.2) % s.2.1.2.2.2.2.1 == 0) = true↔(0≤t∧t % s.2.1.2.2.2.2.1 = s.2.2):=by
      rw [beq_iff_eq,← Int.emod_eq_emod_iff_emod_sub_eq_zero,Int.emod_eq_of_lt q0 q1]
      exact ⟨fun k=>⟨by omega,k⟩,fun k=>k.2⟩
    by_cases k:(0≤t∧t % s.2.1.2.2.2.2.1 = s.2.2)
    · rw [decide_eq_true k,e.2 k]
    · rw [decide_eq_false k,Bool.eq_false_iff]
      exact fun z=>k (e.1 z)
  · have k:¬ (0≤t∧t % s.2.1.2.2.2.2.1 = s.2.2):=by
      rintro ⟨a,b⟩
      rw [Int.emod_eq_of_lt a (by omega)] at b
      omega
    rw [decide_eq_false h,if_neg (by decide),o_s,decide_eq_false k]
def d_T (x:Trn):List Trn→Nat
  | []=>0
  | y :: r=>if klt x y then d_T x r else r.length + 1
theorem e_R (x:Trn):∀ r:List Trn,d_T x r≤r.length
  | []=>Nat.le_refl _
  | y :: r=>by
    unfold d_T
    have:=e_R x r
    split
    · rw [List.length_cons];omega
    · rw [List.length_cons];omega
theorem f_d (x:Trn):∀ r:List Trn,(c_r x r).reverse = r.reverse.take (d_T x r) ++ x :: r.reverse.drop (d_T x r)
  | []=>rfl
  | y :: r=>by
    unfold c_r d_T
    by_cases h:klt x y
    · have hk:=e_R x r
      rw [if_pos h,if_pos h,List.reverse_cons,f_d x r,List.reverse_cons,List.take_append_of_le_length (by rw [List.length_reverse];omega),List.drop_append_of_le_length (by rw [List.length_reverse];omega),List.append_assoc]
      rfl
    · have hl:(y :: r).reverse.length = r.length + 1:=by rw [List.length_reverse,List.length_cons]
      rw [if_neg h,if_neg h,List.take_of_length_le (by omega),List.drop_eq_nil_of_le (by omega),List.reverse_cons]
theorem p10_l3_eq (n:Nat) (s:Slt) (w g:Int):∀ (m:Nat) (r post:List Trn),r.length < m→r.length≤1000→Of g r →
    p10_l3 n ((r.reverse ++ post).map (·.2.2)) ((r.reverse ++ post).map (·.1)) s m (r.length:Int) = some ((d_T (mk s w g) r:Nat):Int):=by
  intro m
  induction m with
  | zero=>intro r post hm;exact absurd hm (by omega)
  | succ m ih =>
    intro r post hm hl hg
    rw [p10_l3]
    cases r with
    | nil =>
      rw [show (decide ((([]:List Trn).length:Int) > 0)) = false from rfl,if_neg (by decide),o_s,if_neg (by decide)]
      rfl
    | cons y r =>
      have hgr:Of g r:=fun z hz=>hg z (by simp [hz])
      have hgy:=hg y (by simp)
      have hk1:(((y :: r).length:Nat):Int) - 1 = (r.length:Int):=by rw [List.length_cons];omega
      have ix:∀ {β:Type} (f:Trn→β),idx (((y :: r).reverse ++ post).map f) (r.length:Int) = some (f y):=by
        intro β f
        have:=e_i (r.reverse.map f) (f y) (post.map f)
        rw [List.length_map,List.length_reverse] at this
        rw [List.reverse_cons,List.append_assoc,List.map_append]
        exact this
      rw [List.length_cons] at hm hl
      have hc1:ckI .i64 ((((y :: r).length:Nat):Int) - 1) = some (r.length:Int):=by rw [hk1];exact ckS (by omega) (by omega)
      rw [decide_eq_true (show (((y :: r).length:Nat):Int) > 0 by rw [List.length_cons];omega),if_pos rfl,hc1,o_s,ix,o_s]
      have hK:klt (mk s w g) y↔(s.2.1.2.2.2.2.1 < y.2.2∨(s.2.1.2.2.2.2.1 = y.2.2∧s.1 < y.1.1)):=by
        unfold klt mk
        simp only
        rw [hgy]
        omega
      have hP:d_T (mk s w g) (y :: r) = if klt (mk s w g) y then d_T (mk s w g) r else r.length + 1:=rfl
      have fin:∀ b:Bool,(b = true↔klt (mk s w g) y)→((some b).bind fun q_210=>some q_210).bind (fun q_200=>if q_200 = true then ((some (r.length:Int)).bind fun x_230=>p10_l3 n (((y :: r).reverse ++ post).map (·.2.2)) (((y :: r).reverse ++ post).map (·.1)) s m x_230) else some (((y :: r).length:Nat):Int)) = some ((d_T (mk s w g) (y :: r):Nat):Int):=by
        intro b hb
        rw [o_s,o_s]
        by_cases h:klt (mk s w g) y
        · have e:(y :: r).reverse ++ post = r.reverse ++ y :: post:=by rw [List.reverse_cons,List.append_assoc];rfl
          rw [if_pos (hb.2 h),o_s,e,ih r (y :: post) (by omega) (by omega) hgr]
          rw [hP,if_pos h]
        · rw [if_neg (fun z=>h (hb.1 z)),hP,if_neg h,List.length_cons]
      by_cases h1:y.2.2 > s.2.1.2.2.2.2.1
      · rw [decide_eq_true h1,if_neg (by decide)]
        exact fin true ⟨fun _=>hK.2 (.inl h1),fun _=>rfl⟩
      · rw [decide_eq_false h1,if_pos rfl,o_s,ix,o_s]
        by_cases h2:y.2.2 = s.2.1.2.2.2.2.1
        · rw [if_pos (by simpa using h2),o_s,ix,o_s,o_s]
          refine fin _ ?_
          rw [decide_eq_true_eq,hK]
          omega
        · rw [if_neg (by simpa using h2),o_s]
          exact fin false ⟨fun z=>absurd z (by decide),fun z=>absurd (hK.1 z) (by omega)⟩
def slw (s:Slt):Bool:=decide (s.2.1.1≠2) && asks s
def k1 (s:Slt) (T g:Int):Bool:=(decide (g = 0) && slw s) && b_x s (T - 2)
def k2 (s:Slt) (T g:Int):Bool:=(decide (g = 1) && decide (s.2.1.1≠2)) && b_x s T
def k3 (s:Slt) (T g:Int):Bool:=(decide (g = 1) && decide (s.2.1.1 = 2)) && b_x s T
def k4 (s:Slt) (T g:Int):Bool:=(decide (g = 2) && slw s) && (b_x s (T - 3) || b_x s (T - 4))
theorem e_S (g:Int):grp g [] = []:=rfl
theorem d_C (g:Int) (x:Trn):grp g [x] = if x.2.1 = g then [x] else []:=by
  unfold grp
  by_cases h:x.2.1 = g
  · rw [if_pos h,List.filter_cons_of_pos (by simpa using h)];rfl
  · rw [if_neg h,List.filter_cons_of_neg (by simpa using h)];rfl
theorem grp_tv {s:Slt} (hv:VS s) (T g:Int) (hg:g = 0∨g = 1∨g = 2):grp g (tv s T) =
    if k1 s T g = true then [mk s 3 g] else if k2 s T g = true then [mk s 2 g] else if k3 s T g = true then [mk s 1 g] else if k4 s T g = true then [mk s 4 g] else []:=by
  have m:∀ (h:s.2.1.1≠2) {t:Int},b_x s t = true→t % 8 = s.2.2 % 8:=fun h _ q=>d_B hv.2.1 h q
  unfold tv k1 k2 k3 k4 slw
  by_cases h2:s.2.1.1 = 2
  · rw [if_pos h2]
    by_cases h:b_x s T = true
    · rw [if_pos h,d_C]
      rcases hg with rfl | rfl | rfl <;> simp [mk,h2,h]
    · rw [if_neg h,e_S]
      rcases hg with rfl | rfl | rfl <;> simp [mk,h2,h]
  · have m0:=fun q=>m h2 (t:=T) q
    have m2:=fun q=>m h2 (t:=T - 2) q
    have m3:=fun q=>m h2 (t:=T - 3) q
    have m4:=fun q=>m h2 (t:=T - 4) q
    rw [if_neg h2]
    by_cases h:b_x s T = true
    · have h0:=m0 h
      have n2:¬ b_x s (T - 2) = true:=fun q=>by have:=m2 q;omega
      have n3:¬ b_x s (T - 3) = true:=fun q=>by have:=m3 q;omega
      have n4:¬ b_x s (T - 4) = true:=fun q=>by have:=m4 q;omega
      rw [if_pos h,d_C]
      rcases hg with rfl | rfl | rfl <;> simp [mk,h2,h,n2,n3,n4]
    · rw [if_neg h]
      by_cases ha:asks s = true
      · rw [if_pos ha]
        by_cases g2:b_x s (T - 2) = true
        · have h0:=m2 g2
          have n3:¬ b_x s (T - 3) = true:=fun q=>by have:=m3 q;omega
          have n4:¬ b_x s (T - 4) = true:=fun q=>by have:=m4 q;omega
          rw [if_pos g2,d_C]
          rcases hg with rfl | rfl | rfl <;> simp [mk,h2,h,ha,g2,n3,n4]
        · rw [if_neg g2]
          by_cases g3:b_x s (T - 3) = true
          · rw [if_pos g3,d_C]
            rcases hg with rfl | rfl | rfl <;> simp [mk,h2,h,ha,g2,g3]
          · rw [if_neg g3]
            by_cases g4:b_x s (T - 4) = true
            · rw [if_pos g4,d_C]
              rcases hg with rfl | rfl | rfl <;> simp [mk,h2,h,ha,g2,g3,g4]
            · rw [if_neg g4,e_S]
              rcases hg with rfl | rfl | rfl <;> simp [mk,h2,h,ha,g2,g3,g4]
      · rw [if_neg ha,e_S]
        rcases hg with rfl | rfl | rfl <;> simp [mk,h2,h,ha]
def tvA (l:List Slt) (T:Int):List Trn:=l.flatMap fun s=>tv s T
theorem tvA_cons (s:Slt) (l:List Slt) (T:Int):tvA (s :: l) T = tv s T ++ tvA l T:=by unfold tvA;rw [List.flatMap_cons]
theorem grp_app (g:Int) (a b:List Trn):grp g (a ++ b) = grp g a ++ grp g b:=by unfold grp;rw [List.filter_append]
theorem sortR_app (a b r:List Trn):b_c (a ++ b) r = b_c b (b_c a r):=by unfold b_c;rw [List.foldl_append]
theorem p10_l2_eq {n:Nat} (hn:1100≤n) (x:Sl Slt) (hx:∀ s ∈ x.xs,VS s) (hl:x.xs.length≤300) (T:Int) (hT:0≤T∧T≤1048576) (g:Int) (hg:g = 0∨g = 1∨g = 2):∀ (m k:Nat) (r:List Trn),x.xs.length - k < m→k≤x.xs.length→r.length≤k→Of g r →
    p10_l2 n x T g m k (r.reverse.map (·.2.2)) (r.reverse.map (·.1)) = some ((b_c (grp g (tvA (x.xs.drop k) T)) r).reverse.map (·.1)):=by
  intro m
  induction m with
  | zero=>intro k r hm;exact absurd hm (by omega)
  | succ m ih =>
    intro k r hm hk hr hgr
    rw [p10_l2,b_m]
    by_cases hlt:k < x.xs.length
    · have hv:=hx x.xs[k] (List.getElem_mem hlt)
      rw [c_i (by omega),e_u hlt,o_s,b_p hlt,tvA_cons,grp_app,sortR_app]
      generalize x.xs[k] = s at hv ⊢
      have e1:(if (s.2.1.1 != 2) = true then (if (s.2.1.2.1 != 1) = false then some s.2.1.2.2.1 else some true).bind fun q_60=>some q_60 else some false) = some (slw s):=by
        unfold slw asks
        by_cases h:s.2.1.1 = 2
        · simp [h]
        · by_cases h':s.2.1.2.1 = 1
          · cases s.2.1.2.2.1 <;> simp [h,h']
          · simp [h,h']
      have e2:∀ q:Bool,(if (g == 0) = true then some q else some false) = some (decide (g = 0) && q):=fun q=>by
        by_cases h:g = 0 <;> simp [h]
      have e3:∀ q:Bool,(if (g == 1) = true then some q else some false) = some (decide (g = 1) && q):=fun q=>by
        by_cases h:g = 1 <;> simp [h]
      have e4:∀ q:Bool,(if (g == 2) = true then some q else some false) = some (decide (g = 2) && q):=fun q=>by
        by_cases h:g = 2 <;> simp [h]
      have d2:∀ q:Bool,(if q = true then (ckI .i64 (T - 2)).bind fun x_77=>(p23 n s x_77).bind fun t_78=>some t_78 else some false) = some (q && b_x s (T - 2)):=fun q=>by
        cases q
        · rfl
        · rw [if_pos rfl,ckS (by omega) (by omega),o_s,p23_eq0 n s hv _ (by omega) (by omega)];rfl
      have d0:∀ q:Bool,(if q = true then (p23 n s T).bind fun t_142=>some t_142 else some false) = some (q && b_x s T):=fun q=>by
        cases q
        · rfl
        · rw [if_pos rfl,p23_eq0 n s hv _ (by omega) (by omega)];rfl
      have d3:∀ q:Bool,(if q = true then (ckI .i64 (T - 3)).bind fun x_166=>(p23 n s x_166).bind fun t_167=>(if t_167 = false then (ckI .i64 (T - 4)).bind fun x_175=>(p23 n s x_175).bind fun t_176=>some t_176 else some true).bind fun q_172=>some q_172 else some false) = some (q && (b_x s (T - 3) || b_x s (T - 4))):=fun q=>by
        cases q
        · rfl
        · rw [if_pos rfl,ckS (by omega) (by omega),o_s,p23_eq0 n s hv _ (by omega) (by omega),o_s,ckS (by omega) (by omega),o_s,p23_eq0 n s hv _ (by omega) (by omega)]
          cases b_x s (T - 3) <;> rfl
      have c2:(s.2.1.1 != 2) = decide (s.2.1.1≠2):=by
        by_cases h:s.2.1.1 = 2 <;> simp [h]
      have c3:(!(s.2.1.1 != 2)) = decide (s.2.1.1 = 2):=by
        by_cases h:s.2.1.1 = 2 <;> simp [h]
      have hlr:a_h (⟨r.reverse.map (·.1),.none⟩:Sl (Int × Int)) = (r.length:Int):=by rw [a_9,List.length_map,List.length_reverse]
      have hlp:a_h (⟨r.reverse.map (·.2.2),.none⟩:Sl Int) = (r.length:Int):=by rw [a_9,List.length_map,List.length_reverse]
      have stop:((some (.inr ()):Option ((Int × Int) ⊕ Unit)).bind fun j_133=>lrK j_133 (fun (s_135:Unit)=>(ckI .i64 ((k:Int) + 1)).bind fun x_187=>p10_l2 n x T g m x_187 (r.reverse.map (·.2.2)) (r.reverse.map (·.1))) fun (s_134:(Int × Int))=>(p10_l3 n (r.reverse.map (·.2.2)) (r.reverse.map (·.1)) s n (a_h (⟨r.reverse.map (·.1),.none⟩:Sl (Int × Int)))).bind fun (y_193:(Int))=>((slI (⟨r.reverse.map (·.1),.none⟩:Sl (Int × Int)) 0 y_193).bind fun s_244=>(c_k ([]:List (Int × Int)) s_244.xs).bind fun l_245=>(c_k l_245 ([s_134])).bind fun l_256=>(slI (⟨r.reverse.map (·.1),.none⟩:Sl (Int × Int)) y_193 (a_h (⟨r.reverse.map (·.1),.none⟩:Sl (Int × Int)))).bind fun s_263=>(c_k l_256 s_263.xs).bind fun l_264=>some l_264).bind fun (j_233:(List (Int × Int)))=>((slI (⟨r.reverse.map (·.2.2),.none⟩:Sl (Int)) 0 y_193).bind fun s_355=>(c_k ([]:List (Int)) s_355.xs).bind fun l_356=>(c_k l_356 ([s.2.1.2.2.2.2.1])).bind fun l_367=>(slI (⟨r.reverse.map (·.2.2),.none⟩:Sl (Int)) y_193 (a_h (⟨r.reverse.map (·.2.2),.none⟩:Sl (Int)))).bind fun s_374=>(c_k l_367 s_374.xs).bind fun l_375=>some l_375).bind fun (j_344:(List (Int)))=>(ckI .i64 ((k:Int) + 1)).bind fun x_454=>p10_l2 n x T g m x_454 j_344 j_233) = some ((b_c (grp g (tvA (x.xs.drop (k + 1)) T)) (b_c [] r)).reverse.map (·.1)):=by
        rw [o_s,lrKr,ckS (by omega) (by omega),o_s,b_O]
        exact ih (k + 1) r (by omega) (by omega) (by omega) hgr
      have go:∀ w:Int,((some (.inl (s.1,w)):Option ((Int × Int) ⊕ Unit)).bind fun j_133=>lrK j_133 (fun (s_135:Unit)=>(ckI .i64 ((k:Int) + 1)).bind fun x_187=>p10_l2 n x T g m x_187 (r.reverse.map (·.2.2)) (r.reverse.map (·.1))) fun (s_134:(Int × Int))=>(p10_l3 n (r.reverse.map (·.2.2)) (r.reverse.map (·.1)) s n (a_h (⟨r.reverse.map (·.1),.none⟩:Sl (Int × Int)))).bind fun (y_193:(Int))=>((slI (⟨r.reverse.map (·.1),.none⟩:Sl (Int × Int)) 0 y_193).bind fun s_244=>(c_k ([]:List (Int × Int)) s_244.xs).bind fun l_245=>(c_k l_245 ([s_134])).bind fun l_256=>(slI (⟨r.reverse.map (·.1),.none⟩:Sl (Int × Int)) y_193 (a_h (⟨r.reverse.map (·.1),.none⟩:Sl (Int × Int)))).bind fun s_263=>(c_k l_256 s_263.xs).bind fun l_264=>some l_264).bind fun (j_233:(List (Int × Int)))=>((slI (⟨r.reverse.map (·.2.2),.none⟩:Sl (Int)) 0 y_193).bind fun s_355=>(c_k ([]:List (Int)) s_355.xs).bind fun l_356=>(c_k l_356 ([s.2.1.2.2.2.2.1])).bind fun l_367=>(slI (⟨r.reverse.map (·.2.2),.none⟩:Sl (Int)) y_193 (a_h (⟨r.reverse.map (·.2.2),.none⟩:Sl (Int)))).bind fun s_374=>(c_k l_367 s_374.xs).bind fun l_375=>some l_375).bind fun (j_344:(List (Int)))=>(ckI .i64 ((k:Int) + 1)).bind fun x_454=>p10_l2 n x T g m x_454 j_344 j_233) = some ((b_c (grp g (tvA (x.xs.drop (k + 1)) T)) (b_c [mk s w g] r)).reverse.map (·.1)):=by
        intro w
        have h3:=p10_l3_eq n s w g n r [] (by omega) (by omega) hgr
        rw [List.append_nil] at h3
        have hkl:=e_R (mk s w g) r
        obtain ⟨ca,ha⟩:=e_4 (x:=(⟨r.reverse.map (·.1),.none⟩:Sl (Int × Int))) (i:=d_T (mk s w g) r) (by simp only [List.length_map,List.length_reverse];exact hkl)
        obtain ⟨cb,hb⟩:=e_5 (x:=(⟨r.reverse.map (·.1),.none⟩:Sl (Int × Int))) (i:=d_T (mk s w g) r) (by simp only [List.length_map,List.length_reverse];exact hkl)
        obtain ⟨cc,hc⟩:=e_4 (x:=(⟨r.reverse.map (·.2.2),.none⟩:Sl Int)) (i:=d_T (mk s w g) r) (by simp only [List.length_map,List.length_reverse];exact hkl)
        obtain ⟨cd,hd⟩:=e_5 (x:=(⟨r.reverse.map (·.2.2),.none⟩:Sl Int)) (i:=d_T (mk s w g) r) (by simp only [List.length_map,List.length_reverse];exact hkl)
        simp only at ha hb hc hd
        have em:∀ {β:Type} (f:Trn→β),(r.reverse.map f).take (d_T (mk s w g) r) ++ f (mk s w g) :: (r.reverse.map f).drop (d_T (mk s w g) r) = ((c_r (mk s w g) r).reverse).map f:=by
          intro β f
          rw [f_d,List.map_append,List.map_cons,List.map_take,List.map_drop]
        have e1:=em (·.1)
        have e2:=em (·.2.2)
        rw [o_s,lrKl,hlr,h3,o_s,ha,o_s,a_1 (by simp;omega),o_s,List.nil_append,a_1 (by simp;omega),o_s]
        rw [hlr] at hb
        rw [hb,o_s,a_1 (by simp;omega),o_s,o_s,hc,o_s,a_1 (by simp;omega),o_s,List.nil_append,a_1 (by simp;omega),o_s,hd,o_s,a_1 (by simp;omega),o_s,o_s,ckS (by omega) (by omega),o_s,b_O]
        rw [List.append_assoc,List.append_assoc]
        rw [show [(s.1,w)] ++ (r.reverse.map (·.1)).drop (d_T (mk s w g) r) = (mk s w g).1 :: (r.reverse.map (·.1)).drop (d_T (mk s w g) r) from rfl,show [s.2.1.2.2.2.2.1] ++ (r.reverse.map (·.2.2)).drop (d_T (mk s w g) r) = (mk s w g).2.2 :: (r.reverse.map (·.2.2)).drop (d_T (mk s w g) r) from rfl,e1,e2]
        exact ih (k + 1) (c_r (mk s w g) r) (by omega) (by omega) (by rw [c_J];omega) (hgr.ins rfl)
      rw [e1,o_s,e2,o_s,d2,o_s,c2,e3,o_s,d0,o_s]
      rw [show (!decide (s.2.1.1≠2)) = decide (s.2.1.1 = 2) by rw [← c3,c2],e3,o_s,d0,o_s,e4,o_s,d3,o_s]
      rw [grp_tv hv T g hg]
      change ((if k1 s T g = true then some (.inl (s.1,3)) else if k2 s T g = true then some (.inl (s.1,2)) else if k3 s T g = true then some (.inl (s.1,1)) else if k4 s T g = true then some (.inl (s.1,4)) else some (.inr ())):Option ((Int × Int) ⊕ Unit)).bind _ = _
      by_cases h1:k1 s T g = true
      · rw [if_pos h1,if_pos h1];exact go 3
      · rw [if_neg h1,if_neg h1]
        by_cases h2:k2 s T g = true
        · rw [if_pos h2,if_pos h2];exact go 2
        · rw [if_neg h2,if_neg h2]
          by_cases h3:k3 s T g = true
          · rw [if_pos h3,if_pos h3];exact go 1
          · rw [if_neg h3,if_neg h3]
            by_cases h4:k4 s T g = true
            · rw [if_pos h4,if_pos h4];exact go 4
            · rw [if_neg h4,if_neg h4];exact stop
    · rw [c_b (by omega),List.drop_eq_nil_of_le (by omega)]
      rfl
theorem p10_eq {n:Nat} (hn:1100≤n) (x:Sl Slt) (hx:∀ s ∈ x.xs,VS s) (hl:x.xs.length≤300) (T:Int) (hT:0≤T∧T≤1048576):p10 n x T = some ⟨e_C x.xs T,.none⟩:=by
  obtain ⟨m,rfl⟩:∃ m,n = m + 4:=⟨n - 4,by omega⟩
  have hA:tvG x.xs T = tvA x.xs T:=by
    unfold tvG tvA
    rw [e_B hx]
  have ho:=tvG_ok x.xs T
  have hs:=c_L (tvG x.xs T) [] [] [] ho.2 (fun _ h=>absurd h List.not_mem_nil) (fun _ h=>absurd h List.not_mem_nil) (fun _ h=>absurd h List.not_mem_nil)
  have h2:∀ g:Int,(g = 0∨g = 1∨g = 2)→p10_l2 (m + 4) x T g (m + 4) 0 [] [] = some ((b_c (grp g (tvG x.xs T)) []).reverse.map (·.1)):=by
    intro g hg
    have:=p10_l2_eq (n:=m + 4) hn x hx hl T hT g hg (m + 4) 0 [] (by omega) (by omega) (by simp) (fun _ h=>absurd h List.not_mem_nil)
    rw [List.drop_zero,← hA] at this
    exact this
  have hlen:∀ g:Int,((b_c (grp g (tvG x.xs T)) []).reverse.map (·.1)).length≤300:=by
    intro g
    rw [List.length_map,List.length_reverse,c_d,List.length_nil]
    have:(grp g (tvG x.xs T)).length≤(tvG x.xs T).length:=List.length_filter_le _ _
    omega
  unfold p10
  rw [p10_l1,c_i (by decide),h2 0 (by decide),o_s,a_1 (by have:=hlen 0;simp only [List.length_nil];omega),o_s,List.nil_append,ckS (by omega) (by omega),o_s]
  rw [p10_l1,c_i (by decide),h2 (0 + 1) (by decide),o_s,a_1 (by have:=hlen 0;have:=hlen (0 + 1);omega),o_s,ckS (by omega) (by omega),o_s]
  rw [p10_l1,c_i (by decide),h2 (0 + 1 + 1) (by decide),o_s,a_1 (by have:=hlen 0;have:=hlen (0 + 1);have:=hlen (0 + 1 + 1);rw [List.length_append];omega),o_s,ckS (by omega) (by omega),o_s]
  rw [p10_l1,c_b (by decide),o_s]
  unfold e_C
  rw [List.nil_append,List.nil_append] at hs
  rw [hs,List.reverse_append,List.reverse_append,List.map_append,List.map_append]
  rfl
end Go.Proofs.Ytfelbalkobcfhaa
