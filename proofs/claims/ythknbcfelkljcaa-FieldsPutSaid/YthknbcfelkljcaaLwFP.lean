/- FieldsPut in plain words. Plain theorems, no condition. -/
import Derived.Test.YthknbcfelkljcaaFD9
import Derived.Test.YthknbcfelkljcaaLB2
import Derived.Test.YthknbcfelkljcaaPp1
set_option linter.unusedVariables false
set_option linter.unusedSimpArgs false
namespace Go.Proofs.Ythknbcfelkljcaa
open Go.RowKit
def fAt (m:Mpt) (i:Int):Option Fd:=if 0 ≤ i then m.1.xs[i.toNat]? else .none
def wantE (m:Mpt) (b:List Int) (i j:Int):Int :=
  if ¬ Ppr m then 1 else match fAt m i with
    | none=>7
    | some f=>if j < 0 ∨ j ≥ fC f then 7 else if (b.length:Int) ≠ c_Q m f.1 f.2.1 then 5 else if m.2.2 = true ∧ byt b 0 ≠ f.2.1 then 1 else 0
theorem fAt_none {m:Mpt} {i:Int} (h:fAt m i = .none) (hl:m.1.xs.length ≤ 1000):(if decide (i < 0) = false then some (decide (i ≥ a_m m.1)) else some true) = some true:=by
  unfold fAt at h
  by_cases h0:0 ≤ i
  · rw [if_pos h0,List.getElem?_eq_none_iff] at h
    rw [decide_eq_false (by omega),if_pos rfl,a_W,decide_eq_true (by omega)]
  · rw [decide_eq_true (by omega),if_neg (by decide)]
theorem fAt_some {m:Mpt} {i:Int} {f:Fd} (h:fAt m i = some f):∃ k:Nat,i = (k:Int) ∧ k < m.1.xs.length ∧ f ∈ m.1.xs ∧ idx m.1.xs i = some f ∧ (if decide (i < 0) = false then some (decide (i ≥ a_m m.1)) else some true) = some false:=by
  unfold fAt at h
  by_cases h0:0 ≤ i
  · obtain ⟨k,rfl⟩:=Int.eq_ofNat_of_zero_le h0
    rw [if_pos h0,show ((k:Nat):Int).toNat = k by omega] at h
    obtain ⟨hk,e⟩:=List.getElem?_eq_some_iff.1 h
    refine ⟨k,rfl,hk,List.mem_of_getElem? h,by rw [idx_nat];exact h,?_⟩
    rw [decide_eq_false (by omega),if_pos rfl,a_W,decide_eq_false (by omega)]
  · rw [if_neg h0] at h;cases h
theorem lenR_pos {m:Mpt} {f:Fd} (hf:f ∈ m.1.xs) (hn:m.2.2 = true):1 ≤ c_Q m f.1 f.2.1:=by
  have hr:=b_D m.1.xs f.1 f.2.1
  unfold c_Q
  rw [b_1 hf,hn]
  show 1 ≤ (c_I m.1.xs f.1 f.2.1 + 7) / 8 + 1
  omega
theorem num1 {m:Mpt} {b:Sl Int} {f:Fd} (hf:f ∈ m.1.xs) (hlen:(b.xs.length:Int) = c_Q m f.1 f.2.1):(if m.2.2 = true then (idx b.xs 0).bind fun y_57=>some (y_57 != f.2.1) else some false) = some (decide (m.2.2 = true ∧ byt b.xs 0 ≠ f.2.1)):=by
  by_cases hn:m.2.2 = true
  · have:=lenR_pos hf hn
    have hi:=byt_of (b:=b.xs) (i:=0) (by omega)
    rw [show ((0:Nat):Int) = 0 from rfl] at hi
    rw [if_pos hn,hi,Option.bind_some]
    refine congrArg some ?_
    by_cases he:byt b.xs 0 = f.2.1
    · rw [decide_eq_false (fun q=>q.2 he),he,bne_self_eq_false]
    · rw [decide_eq_true ⟨hn,he⟩,bne_iff_ne];exact he
  · rw [if_neg hn,decide_eq_false (fun q=>hn q.1)]
theorem p31_eq {n:Nat} (hn:1100 ≤ n) (x:Mpt) (hl:x.1.xs.length ≤ 1000) (b:Sl Int) (i j:Int):p31 n x b i j = some (wantE x b.xs i j):=by
  unfold p31 wantE
  rw [p15_eq hn x hl,Option.bind_some]
  by_cases hp:Ppr x
  · rw [decide_eq_true hp,if_neg (by decide),if_neg (not_not_intro hp)]
    cases hf:fAt x i with
    | none =>
      rw [fAt_none hf hl,Option.bind_some,if_neg (by decide),Option.bind_some,if_neg (by decide),Option.bind_some,if_pos rfl]
    | some f =>
      obtain ⟨k,rfl,hk,hm,hi,hq⟩:=fAt_some hf
      rw [hq,Option.bind_some,if_pos rfl,Option.bind_some,hi,Option.bind_some]
      simp only
      have e:(if decide (j < 0) = false then some (decide (j ≥ f.2.2.2.2.2.2.2.1)) else some true) = some (decide (j < 0 ∨ j ≥ fC f)):=by
        rw [orO fun _=>rfl,Bool.decide_or]
      rw [e,Option.bind_some]
      by_cases hj:j < 0 ∨ j ≥ fC f
      · rw [c_8 hj,if_pos hj]
      · rw [c_9 hj,if_neg hj,Option.bind_some,p22_eq hn x _ _ hl,Option.bind_some,a_W]
        by_cases hlen:(b.xs.length:Int) = c_Q x f.1 f.2.1
        · rw [if_neg (by rw [hlen,bne_self_eq_false];decide),if_neg (not_not_intro hlen),num1 hm hlen,Option.bind_some]
          by_cases h1:x.2.2 = true ∧ byt b.xs 0 ≠ f.2.1
          · rw [c_8 h1,if_pos h1]
          · rw [c_9 h1,if_neg h1]
        · rw [if_pos (by rw [bne_iff_ne];exact hlen),if_pos hlen]
  · rw [decide_eq_false hp,if_pos (show (!false) = true from rfl),if_pos hp]
theorem wantE_zero {m:Mpt} {b:List Int} {i j:Int} (h:wantE m b i j = 0):∃ (k q:Nat) (f:Fd),i = (k:Int) ∧ j = (q:Int) ∧ k < m.1.xs.length ∧ f ∈ m.1.xs ∧ idx m.1.xs i = some f ∧ Ppr m ∧ (q:Int) < fC f ∧ (b.length:Int) = c_Q m f.1 f.2.1 ∧ (m.2.2 = true → byt b 0 = f.2.1):=by
  unfold wantE at h
  by_cases hp:Ppr m
  · rw [if_neg (not_not_intro hp)] at h
    cases hf:fAt m i with
    | none=>rw [hf] at h;cases h
    | some f =>
      rw [hf] at h
      simp only at h
      by_cases hj:j < 0 ∨ j ≥ fC f
      · rw [if_pos hj] at h;cases h
      · rw [if_neg hj] at h
        by_cases hlen:(b.length:Int) = c_Q m f.1 f.2.1
        · rw [if_neg (not_not_intro hlen)] at h
          by_cases h1:m.2.2 = true ∧ byt b 0 ≠ f.2.1
          · rw [if_pos h1] at h;cases h
          · obtain ⟨k,e,hk,hm,hi,_⟩:=fAt_some hf
            obtain ⟨q,hq⟩:=Int.eq_ofNat_of_zero_le (show 0 ≤ j by omega)
            exact ⟨k,q,f,e,hq,hk,hm,hi,hp,by omega,hlen,fun hn=>Decidable.not_not.1 fun he=>h1 ⟨hn,he⟩⟩
        · rw [if_pos hlen] at h;cases h
  · rw [if_pos hp] at h;cases h
theorem p11_err {n:Nat} (hn:1100 ≤ n) (x:Mpt) (hl:x.1.xs.length ≤ 1000) (b:Sl Int) (i j:Int) (h:wantE x b.xs i j ≠ 0):p11 n x b i j = some (0,wantE x b.xs i j):=by
  unfold p11
  rw [p31_eq hn x hl,Option.bind_some,if_pos (by rw [bne_iff_ne];exact h)]
theorem p11_ok {n:Nat} (hn:1100 ≤ n) (x:Mpt) (hl:x.1.xs.length ≤ 1000) (b:Sl Int) (hb:Byts b.xs) (i:Int) (q:Nat) (f:Fd) (h:wantE x b.xs i (q:Int) = 0) (hi:idx x.1.xs i = some f) (hE:Elm x b.xs f q):p11 n x b i q = some (d_K x b.xs f q,0):=by
  unfold p11
  rw [p31_eq hn x hl,Option.bind_some,h,if_neg (by decide),hi,Option.bind_some,p29_eq (by omega) x f b q hb hE,Option.bind_some]
theorem cpyI_all (b:List Int):d_Y (List.replicate b.length (0:Int)) b = b:=by
  unfold d_Y
  simp
theorem mkI_len {k:Nat} (h:k ≤ 1000000):mkI ((k:Nat):Int) ((k:Nat):Int) = some (k,k):=by
  unfold mkI
  rw [if_pos (by omega)]
  simp
theorem p12_err {n:Nat} (hn:1100 ≤ n) (x:Mpt) (hl:x.1.xs.length ≤ 1000) (b:Sl Int) (i j v:Int) (h:wantE x b.xs i j ≠ 0):p12 n x b i j v = some (⟨[],some 0⟩,wantE x b.xs i j):=by
  unfold p12
  rw [p31_eq hn x hl,Option.bind_some,if_pos (by rw [bne_iff_ne];exact h)]
theorem p12_unfit {n:Nat} (hn:1100 ≤ n) (x:Mpt) (hl:x.1.xs.length ≤ 1000) (b:Sl Int) (i j v:Int) (f:Fd) (h:wantE x b.xs i j = 0) (hi:idx x.1.xs i = some f) (hs:1 ≤ fS f ∧ fS f ≤ 32) (hv:c_J f v = false):p12 n x b i j v = some (⟨[],some 0⟩,1):=by
  unfold p12
  rw [p31_eq hn x hl,Option.bind_some,h,if_neg (by decide),hi,Option.bind_some,p32_eq n f v hs,Option.bind_some,hv,if_pos (show (!false) = true from rfl)]
theorem p12_ok {n:Nat} (hn:1100 ≤ n) (x:Mpt) (hl:x.1.xs.length ≤ 1000) (b:Sl Int) (hb:Byts b.xs) (hbl:b.xs.length ≤ 1000000) (i:Int) (q:Nat) (v:Int) (f:Fd) (h:wantE x b.xs i (q:Int) = 0) (hi:idx x.1.xs i = some f) (hE:Elm x b.xs f q) (hv:c_J f v = true):p12 n x b i q v = some (⟨wrB x.2.2 b.xs (off f q) v (fS f).toNat,some b.xs.length⟩,0):=by
  unfold p12
  rw [p31_eq hn x hl,Option.bind_some,h,if_neg (by decide),hi,Option.bind_some,p32_eq n f v hE.ok.1,Option.bind_some,hv,if_neg (by decide),a_W,mkI_len hbl,Option.bind_some,Option.bind_some]
  simp only
  rw [cpyI_all,p33_eq (by omega) x f (⟨b.xs,some b.xs.length⟩:Sl Int) q v hb hE,Option.bind_some,Option.bind_some]
theorem want4 {n:Nat} (hn:1100 ≤ n) (x0:Mpt) (hl:x0.1.xs.length ≤ 1000) (x1:Sl Int) (x2:Int × Int × Int):(if (!(decide (Ppr x0))) = true then (some 1) else (if (decide (x2.1 < 0)) = false then some (decide (x2.1 ≥ (a_m x0.1))) else some true).bind fun q_371=>(if q_371 = false then some (decide (x2.2.1 < 0)) else some true).bind fun q_377=>(if q_377 = false then (idx x0.1.xs x2.1).bind fun y_387=>some (decide (x2.2.1 ≥ y_387.2.2.2.2.2.2.2.1)) else some true).bind fun q_380=>(if q_380 then (some 7) else (idx x0.1.xs x2.1).bind fun y_541=>(p14 n x0 y_541).bind fun t_547=>(if ((a_m x1) != t_547) then (some 5) else (if x0.2.2 = true then (idx x1.xs 0).bind fun y_653=>(idx x0.1.xs x2.1).bind fun y_663=>some (y_653 != y_663.2.1) else some false).bind fun q_652=>(if q_652 then (some 1) else some 0).bind fun (j_669:(Int))=>some j_669).bind fun (j_646:(Int))=>some j_646).bind fun (j_532:(Int))=>some j_532) = some (wantE x0 x1.xs x2.1 x2.2.1):=by
  unfold wantE
  by_cases hp:Ppr x0
  · rw [decide_eq_true hp,if_neg (by decide),if_neg (not_not_intro hp)]
    cases hf:fAt x0 x2.1 with
    | none =>
      rw [fAt_none hf hl,Option.bind_some,if_neg (by decide),Option.bind_some,if_neg (by decide),Option.bind_some,if_pos rfl]
      rfl
    | some f =>
      obtain ⟨k,_,hk,hm,hi,hq⟩:=fAt_some hf
      rw [hq,Option.bind_some,if_pos rfl,Option.bind_some,hi,Option.bind_some]
      simp only
      have e:(if decide (x2.2.1 < 0) = false then some (decide (x2.2.1 ≥ f.2.2.2.2.2.2.2.1)) else some true) = some (decide (x2.2.1 < 0 ∨ x2.2.1 ≥ fC f)):=by
        rw [orO fun _=>rfl,Bool.decide_or]
      rw [e,Option.bind_some]
      by_cases hj:x2.2.1 < 0 ∨ x2.2.1 ≥ fC f
      · rw [c_8 hj,if_pos hj];rfl
      · rw [c_9 hj,if_neg hj,Option.bind_some,p14_eq hn x0 f hl (fun g hg=>(hp g hg).1) hm,Option.bind_some,a_W]
        by_cases hlen:(x1.xs.length:Int) = c_Q x0 f.1 f.2.1
        · have e1:(if x0.2.2 = true then (idx x1.xs 0).bind fun y_653=>(some f).bind fun y_663=>some (y_653 != y_663.2.1) else some false) = some (decide (x0.2.2 = true ∧ byt x1.xs 0 ≠ f.2.1)):=num1 hm hlen
          rw [if_neg (by rw [hlen,bne_self_eq_false];decide),if_neg (not_not_intro hlen),e1,Option.bind_some]
          by_cases h1:x0.2.2 = true ∧ byt x1.xs 0 ≠ f.2.1
          · rw [c_8 h1,if_pos h1];rfl
          · rw [c_9 h1,if_neg h1];rfl
        · rw [if_pos (by rw [bne_iff_ne];exact hlen),if_pos hlen];rfl
  · rw [decide_eq_false hp,if_pos (show (!false) = true from rfl),if_pos hp]
theorem p4_l1_eq {n:Nat} (hn:1100 ≤ n) (x:Mpt) (hl:x.1.xs.length ≤ 1000) (hp:Ppr x) (b:Sl Int) (hb:Byts b.xs) (x2:Int × Int × Int) (q:Nat) (hq:x2.2.1 = (q:Int)) (f:Fd) (hf:f ∈ x.1.xs) (hqC:(q:Int) < fC f) (hlen:(b.xs.length:Int) = c_Q x f.1 f.2.1) (v:Int) (c:Option Nat) (e:Int) (hL:b.xs.length ≤ 10000):∀ (m i:Nat),((c_I x.1.xs f.1 f.2.1 + 7) / 8 * 8).toNat - i < m → i ≤ ((c_I x.1.xs f.1 f.2.1 + 7) / 8 * 8).toNat →
    p4_l1 n x b x2 (⟨wrB x.2.2 b.xs (off f q) v (fS f).toNat,c⟩,e) f m i = some (.inl ()):=by
  have hr:=b_D x.1.xs f.1 f.2.1
  have hE:=Elm.of (b:=b.xs) hp hf hlen hqC
  have hm:=hE.mul
  have hs:=hE.ok.1
  have hs':1 ≤ f.2.2.2.2.2.2.1 ∧ f.2.2.2.2.2.2.1 ≤ 32:=hs
  have hlen2:(b.xs.length:Int) = (c_I x.1.xs f.1 f.2.1 + 7) / 8 + (skp x.2.2:Nat):=by
    unfold c_Q at hlen
    rw [b_1 hf,Bool.true_and] at hlen
    rw [hlen]
    unfold skp
    split <;> rfl
  intro m
  induction m with
  | zero=>intro i hm;exact absurd hm (by omega)
  | succ m ih =>
    intro i hi1 hi2
    rw [p4_l1,p18_eq hn x f hl (fun g hg=>(hp g hg).1),Option.bind_some]
    by_cases hlt:(i:Int) < (c_I x.1.xs f.1 f.2.1 + 7) / 8 * 8
    · have hi8:i / 8 + skp x.2.2 < b.xs.length:=by omega
      have e1:x2.2.1 * f.2.2.2.2.2.2.1 = (q:Int) * f.2.2.2.2.2.2.1:=by rw [hq]
      have hq1:(q:Int) + 1 = ((q + 1:Nat):Int):=by simp
      have e2:((q:Int) + 1) * f.2.2.2.2.2.2.1 = (q:Int) * f.2.2.2.2.2.2.1 + f.2.2.2.2.2.2.1:=by rw [Int.add_mul,Int.one_mul]
      have hq0:(q:Int) ≤ 256:=by have:=hE.ok.2.2;omega
      have eI:(if decide ((i:Int) ≥ ((off f q:Nat):Int)) = true then (ckI .i64 (x2.2.1 + 1)).bind fun x_1368=>(ckI .i64 (x_1368 * f.2.2.2.2.2.2.1)).bind fun x_1371=>(ckI .i64 (f.2.2.2.2.2.2.2.2.1 + x_1371)).bind fun x_1372=>some (decide ((i:Int) < x_1372)) else some false) = some (decide (off f q ≤ i ∧ i < off f q + (fS f).toNat)):=by
        rw [hq]
        by_cases h1:(i:Int) ≥ ((off f q:Nat):Int)
        · rw [c_8 h1,ckS (by omega) (by omega),Option.bind_some,e2,ckS (by omega) (by omega),Option.bind_some,ckS (by omega) (by omega),Option.bind_some]
          refine congrArg some (decide_eq_decide.2 ?_)
          have hSn:(((fS f).toNat:Nat):Int) = f.2.2.2.2.2.2.1:=by
            have:(((fS f).toNat:Nat):Int) = fS f:=by omega
            exact this
          omega
        · rw [c_9 h1,decide_eq_false (by omega)]
      rw [c_8 hlt,e1,ckS (by omega) (by omega),Option.bind_some,ckS (by omega) (by omega),Option.bind_some,← hm.2.1,eI,Option.bind_some]
      have hbt:=wrB_bt (nb:=x.2.2) (b:=b.xs) (off:=off f q) (v:=v) hb (fS f).toNat hE.len i
      have e3:(if (!decide (off f q ≤ i ∧ i < off f q + (fS f).toNat)) = true then (p19 n x (⟨wrB x.2.2 b.xs (off f q) v (fS f).toNat,c⟩:Sl Int) (i:Int)).bind fun t_1377=>(p19 n x b (i:Int)).bind fun t_1384=>some (t_1377 != t_1384) else some false) = some false:=by
        by_cases hin:off f q ≤ i ∧ i < off f q + (fS f).toNat
        · rw [decide_eq_true hin,if_neg (by decide)]
        · rw [decide_eq_false hin,if_pos (show (!false) = true from rfl),p19_eq n x (⟨wrB x.2.2 b.xs (off f q) v (fS f).toNat,c⟩:Sl Int) i (by omega) (b_3 _ _ hb _) (by rw [c_G];exact hi8),Option.bind_some,p19_eq n x b i (by omega) hb hi8,Option.bind_some]
          simp only
          rw [hbt,if_neg hin,bne_self_eq_false]
      rw [e3,Option.bind_some,if_neg (by decide),ckS (by omega) (by omega),Option.bind_some,b_8]
      exact ih (i + 1) (by omega) (by omega)
    · rw [c_9 hlt]
theorem p4_main {x0:Mpt} {x1:Sl Int} {x2:Int × Int × Int} (hb:Byts x1.xs):p4 6000 x0 x1 x2 = some true:=by
  have h8:p8 6000 = some true:=p8_ok
  obtain ⟨c,h7,hc⟩:=p7_eq (n:=6000) (by decide) x0
  unfold p4
  rw [h7,Option.bind_some]
  cases c with
  | false=>rw [if_neg (by decide),Option.bind_some,if_pos rfl,h8,Option.bind_some]
  | true =>
    have hl:x0.1.xs.length ≤ 1000:=by have:=hc rfl;omega
    have hl8:=hc rfl
    rw [if_pos (show (!true) = false from rfl),Option.bind_some]
    by_cases h600:a_m x1 > 600
    · rw [c_8 h600,h8,Option.bind_some]
    · have h600':¬ ((x1.xs.length:Nat):Int) > 600:=h600
      rw [c_9 h600]
      by_cases he:wantE x0 x1.xs x2.1 x2.2.1 = 0
      · obtain ⟨k,q,f,hk,hq,hkl,hf,hi,hp,hqC,hlen,hnum⟩:=wantE_zero he
        have hE:=Elm.of (b:=x1.xs) hp hf hlen hqC
        have hs:=hE.ok.1
        have he':wantE x0 x1.xs x2.1 (q:Int) = 0:=by rw [← hq];exact he
        have hw:=want4 (n:=6000) (by decide) x0 hl x1 x2
        have h11:=p11_ok (n:=6000) (by decide) x0 hl x1 hb x2.1 q f he' hi hE
        have h17:=p17_eq 6000 f x2.2.2 hs
        have h16:=p16_eq (n:=6000) (by decide) x0 f x1 q hb hE
        by_cases hv:c_J f x2.2.2 = true
        · have h12:=p12_ok (n:=6000) (by decide) x0 hl x1 hb (by omega) x2.1 q x2.2.2 f he' hi hE hv
          have hob:Byts (wrB x0.2.2 x1.xs (off f q) x2.2.2 (fS f).toNat):=b_3 _ _ hb _
          have hol:(wrB x0.2.2 x1.xs (off f q) x2.2.2 (fS f).toNat).length = x1.xs.length:=c_G _ _ _ _ _
          have hlen':((wrB x0.2.2 x1.xs (off f q) x2.2.2 (fS f).toNat).length:Int) = c_Q x0 f.1 f.2.1:=by rw [hol];exact hlen
          have hE2:=Elm.of (b:=wrB x0.2.2 x1.xs (off f q) x2.2.2 (fS f).toNat) hp hf hlen' hqC
          have hb0:x0.2.2 = true → byt (wrB x0.2.2 x1.xs (off f q) x2.2.2 (fS f).toNat) 0 = byt x1.xs 0:=fun hn=>by rw [hn];exact wrB_0 _
          have hnumO:d_K x0 (wrB x0.2.2 x1.xs (off f q) x2.2.2 (fS f).toNat) f q = x2.2.2:=by
            unfold d_K
            rw [d_3 (v:=x2.2.2) (fS f).toNat fun i hi=>by
              rw [wrB_bt hb (fS f).toNat hE.len (off f q + i),if_pos (by omega),show off f q + i - off f q = i by omega]]
            exact sgn_fit hs.1 hv
          have he2:wantE x0 (wrB x0.2.2 x1.xs (off f q) x2.2.2 (fS f).toNat) x2.1 (q:Int) = 0:=by
            have h0:=he'
            unfold wantE at h0 ⊢
            rw [if_neg (not_not_intro hp)] at h0 ⊢
            cases hfa:fAt x0 x2.1 with
            | none=>rw [hfa] at h0;cases h0
            | some g =>
              rw [hfa] at h0
              simp only at h0 ⊢
              have hg:g = f:=by
                obtain ⟨_,_,_,_,hi2,_⟩:=fAt_some hfa
                rw [hi] at hi2
                exact (Option.some.inj hi2).symm
              subst hg
              rw [if_neg (show ¬ ((q:Int) < 0 ∨ (q:Int) ≥ fC g) by omega),if_neg (not_not_intro hlen'),if_neg (fun q2=>q2.2 ((hb0 q2.1).trans (hnum q2.1)))]
          have h16':=p16_eq (n:=6000) (by decide) x0 f (⟨wrB x0.2.2 x1.xs (off f q) x2.2.2 (fS f).toNat,some x1.xs.length⟩:Sl Int) q hob hE2
          have h11':=p11_ok (n:=6000) (by decide) x0 hl (⟨wrB x0.2.2 x1.xs (off f q) x2.2.2 (fS f).toNat,some x1.xs.length⟩:Sl Int) hob x2.1 q f he2 hi hE2
          have hr:=b_D x0.1.xs f.1 f.2.1
          have hL:=p4_l1_eq (n:=6000) (by decide) x0 hl hp x1 hb x2 q hq f hf hqC hlen x2.2.2 (some x1.xs.length) 0 (by omega) 6000 0 (by
            have:c_Q x0 f.1 f.2.1 ≤ 600:=by omega
            unfold c_Q at this
            split at this <;> omega) (by omega)
          rw [show ((0:Nat):Int) = 0 from rfl] at hL
          have hcap:capO (⟨wrB x0.2.2 x1.xs (off f q) x2.2.2 (fS f).toNat,some x1.xs.length⟩:Sl Int) = some ((x1.xs.length:Nat):Int):=rfl
          have hnb:(if x0.2.2 = true then (idx (wrB x0.2.2 x1.xs (off f q) x2.2.2 (fS f).toNat) 0).bind fun y_851=>(idx x1.xs 0).bind fun y_857=>some (y_851 != y_857) else some false) = some false:=by
            by_cases hn:x0.2.2 = true
            · have hpos:=lenR_pos hf hn
              have i1:=byt_of (b:=x1.xs) (i:=0) (by omega)
              have i2:=byt_of (b:=wrB x0.2.2 x1.xs (off f q) x2.2.2 (fS f).toNat) (i:=0) (by omega)
              rw [show ((0:Nat):Int) = 0 from rfl] at i1 i2
              rw [if_pos hn,i2,Option.bind_some,i1,Option.bind_some,hb0 hn,bne_self_eq_false]
            · rw [if_neg hn]
          rw [hq] at hw ⊢
          rw [h11,Option.bind_some,h12,Option.bind_some,p13_eq (by decide) x0 hl,Option.bind_some]
          rw [he'] at hw
          rw [hw,Option.bind_some,p15_eq (by decide) x0 hl,Option.bind_some,Option.bind_some]
          simp only
          rw [beq_self_eq_true,if_pos (show (!true) = false from rfl),Option.bind_some,if_neg (by decide),if_neg (by decide),hi,Option.bind_some,h16,Option.bind_some,if_neg (by rw [bne_self_eq_false];decide),h17,Option.bind_some,hv,if_neg (by decide),if_pos (by decide)]
          rw [Option.bind_some,lenI_mk,a_W,hol,bne_self_eq_false,if_pos rfl,hcap,Option.bind_some,Option.bind_some,bne_self_eq_false,if_pos rfl,h16',Option.bind_some,Option.bind_some,hnumO,bne_self_eq_false,if_pos rfl,hnb,Option.bind_some,Option.bind_some,if_neg (by decide),hL,Option.bind_some,lrKl,h11',Option.bind_some]
          simp only
          rw [hnumO,beq_self_eq_true,if_pos rfl,Option.bind_some,if_pos (by decide),h8,Option.bind_some,Option.bind_some]
        · have hv':c_J f x2.2.2 = false:=Bool.eq_false_iff.2 hv
          have h12:=p12_unfit (n:=6000) (by decide) x0 hl x1 x2.1 (q:Int) x2.2.2 f he' hi hs hv'
          rw [hq] at hw ⊢
          rw [h11,Option.bind_some,h12,Option.bind_some,p13_eq (by decide) x0 hl,Option.bind_some]
          rw [he'] at hw
          rw [hw,Option.bind_some,p15_eq (by decide) x0 hl,Option.bind_some,Option.bind_some]
          simp only
          rw [beq_self_eq_true,if_pos (show (!true) = false from rfl),Option.bind_some,if_neg (by decide),if_neg (by decide),hi,Option.bind_some,h16,Option.bind_some,if_neg (by rw [bne_self_eq_false];decide),h17,Option.bind_some,hv',if_pos (show (!false) = true from rfl),if_pos (by decide),Option.bind_some,if_pos (by rfl),h8,Option.bind_some,Option.bind_some]
      · have h11:=p11_err (n:=6000) (by decide) x0 hl x1 x2.1 x2.2.1 he
        have h12:=p12_err (n:=6000) (by decide) x0 hl x1 x2.1 x2.2.1 x2.2.2 he
        have hw:=want4 (n:=6000) (by decide) x0 hl x1 x2
        rw [h11,Option.bind_some,h12,Option.bind_some,p13_eq (by decide) x0 hl,Option.bind_some,hw,Option.bind_some,p15_eq (by decide) x0 hl,Option.bind_some,Option.bind_some]
        simp only
        rw [beq_self_eq_true,if_pos (show (!true) = false from rfl),bne_self_eq_false,Option.bind_some,if_neg (by decide),if_pos (by rw [bne_iff_ne];exact he),beq_self_eq_true,if_pos rfl,Option.bind_some,if_pos (by rfl),Option.bind_some,if_pos (by rfl),h8,Option.bind_some,Option.bind_some]
theorem bytF4 {x:Sl Int} (F:Fine (.sl (.int .u8)) x):Byts x.xs:=fun y hy=>inR_u8.1 (F.2.2 y hy)
theorem p4_law {x0:Mpt} {x1:Sl Int} {x2:Int × Int × Int} (F0:Fine gt8 x0) (F1:Fine (.sl (.int .u8)) x1) (F2:Fine gt1 x2):p4 6000 x0 x1 x2 = some true:=p4_main (bytF4 F1)
end Go.Proofs.Ythknbcfelkljcaa
