/- KeyboardsErrors, in plain words. -/
import Derived.Test.YtionknddmlmhlaaKL99
set_option linter.unusedVariables false
set_option linter.unusedSimpArgs false
namespace Go.Proofs.Ytionknddmlmhlaa
open Go.RowKit
theorem p6_l2_eq (n:Nat) (t:Mpt) (i:Int) (f:Fd) (hi:idx t.1.xs i = some f) (hL:(fU f).xs.length ≤ 1000000):∀ (m j:Nat) (c:Bool),(fU f).xs.length - j < m → j ≤ (fU f).xs.length →
    p6_l2 n t i m j c = some (c || (f.1 == 1 && !fCo f && ((fU f).xs.drop j).any isK)):=by
  intro m
  induction m with
  | zero=>intro j c hm;exact absurd hm (by omega)
  | succ m ih =>
    intro j c hm hj
    rw [p6_l2,hi,Option.bind_some,a_E]
    by_cases hlt:j < (fU f).xs.length
    · rw [b_Z (by show (j:Int) < ((fU f).xs.length:Int);omega),a_P hlt,List.any_cons]
      have hu:idx f.2.2.2.1.xs (j:Int) = some (fU f).xs[j]:=c_9 hlt
      have e:(if c = false then (some f).bind fun y_63=>(if (y_63.1 == 1) = true then (some f).bind fun y_72=>some (!y_72.2.2.2.2.2.2.2.2.2.1) else some false).bind fun q_69=>(if q_69 = true then (some f).bind fun y_81=>(idx y_81.2.2.2.1.xs (j:Int)).bind fun y_87=>some (decide (y_87 ≥ 458756)) else some false).bind fun q_78=>(if q_78 = true then (some f).bind fun y_96=>(idx y_96.2.2.2.1.xs (j:Int)).bind fun y_102=>some (decide (y_102 ≤ 459007)) else some false).bind fun q_93=>some q_93 else some true) = some (c || (f.1 == 1 && !fCo f && isK (fU f).xs[j])):=by
        rw [orO]
        intro _
        simp only [Option.bind_some]
        rw [b_0 (b:=f.1 == 1) (c:=!fCo f) (fun _=>rfl),Option.bind_some,b_0 (c:=decide ((fU f).xs[j] ≥ 458756)) (fun _=>by rw [hu];rfl),Option.bind_some,b_0 (c:=decide ((fU f).xs[j] ≤ 459007)) (fun _=>by rw [hu];rfl),Option.bind_some]
        unfold isK
        rw [Bool.and_assoc]
      rw [e,Option.bind_some,ckS (by omega) (by omega),Option.bind_some,a_U,ih (j + 1) _ (by omega) (by omega),Bool.or_assoc,← Bool.and_or_distrib_left]
    · rw [c_f (by show ¬ (j:Int) < ((fU f).xs.length:Int);omega),List.drop_eq_nil_of_le (by omega)]
      simp
theorem p6_l1_eq (n:Nat) (t:Mpt) (hl:t.1.xs.length ≤ 1000) (hU:∀ f ∈ t.1.xs,(fU f).xs.length < n ∧ (fU f).xs.length ≤ 1000000):∀ (m i:Nat) (c:Bool),t.1.xs.length - i < m → i ≤ t.1.xs.length →
    p6_l1 n t m i c = some (c || (t.1.xs.drop i).any keyF):=by
  intro m
  induction m with
  | zero=>intro i c hm;exact absurd hm (by omega)
  | succ m ih =>
    intro i c hm hi
    rw [p6_l1,a_E]
    by_cases hlt:i < t.1.xs.length
    · have h1:=hU _ (List.getElem_mem hlt)
      have e:=p6_l2_eq n t (i:Int) t.1.xs[i] (c_9 hlt) h1.2 n 0 c (by omega) (Nat.zero_le _)
      rw [show ((0:Nat):Int) = 0 from rfl,List.drop_zero] at e
      rw [b_Z (by omega),a_P hlt,List.any_cons,e,Option.bind_some,ckS (by omega) (by omega),Option.bind_some,a_U,ih (i + 1) _ (by omega) (by omega),Bool.or_assoc]
      rfl
    · rw [c_f (by omega),List.drop_eq_nil_of_le (by omega)]
      simp
def chkE (m:Mpt):Bool:=m.1.xs.all fun f=>decide (0 ≤ f.2.1) && decide (f.2.1 ≤ 2)
set_option maxRecDepth 100000 in
theorem chkE_all (kc:Int):(BB.all fun nb=>BB.all fun bits=>BB.all fun l0=>BB.all fun l1=>BB.all fun l2=>chkE (mapL nb kc bits l0 l1 l2)) = true:=by kernel_rfl
theorem allB' {p:Bool → Bool} (h:BB.all p = true) (b:Bool):p b = true:=List.all_eq_true.1 h b (by cases b <;> simp [BB])
theorem chkE_ok (nb:Bool) (kc:Int) (bits l0 l1 l2:Bool):∀ f ∈ (mapL nb kc bits l0 l1 l2).1.xs,0 ≤ f.2.1 ∧ f.2.1 ≤ 2:=fun f hf=>by
  have h:=List.all_eq_true.1 (allB' (allB' (allB' (allB' (allB' (chkE_all kc) nb) bits) l0) l1) l2) f hf
  simpa using h
theorem p10_bad {m:Mpt} (h:MOk m) {f:Fd} (hf:idx m.1.xs 0 = some f):p10 2000 (⟨m.1.xs.set (0:Int).toNat (f.1,f.2.1,f.2.2.1,f.2.2.2.1,f.2.2.2.2.1,f.2.2.2.2.2.1,0,f.2.2.2.2.2.2.2.1,f.2.2.2.2.2.2.2.2.1,f.2.2.2.2.2.2.2.2.2.1,f.2.2.2.2.2.2.2.2.2.2.1,f.2.2.2.2.2.2.2.2.2.2.2.1,f.2.2.2.2.2.2.2.2.2.2.2.2),m.1.cap⟩,m.2.1,m.2.2) = some (.none,1):=by
  have h0:0 < m.1.xs.length:=by
    rcases Nat.eq_zero_or_pos m.1.xs.length with q | q
    · rw [List.eq_nil_of_length_eq_zero q] at hf;cases hf
    · exact q
  have hm:f ∈ m.1.xs:=by
    rw [show (0:Int) = ((0:Nat):Int) from rfl,c_9 h0] at hf
    rw [← Option.some.inj hf];exact List.getElem_mem h0
  have hU:∀ g ∈ m.1.xs.set (0:Int).toNat (f.1,f.2.1,f.2.2.1,f.2.2.2.1,f.2.2.2.2.1,f.2.2.2.2.2.1,0,f.2.2.2.2.2.2.2.1,f.2.2.2.2.2.2.2.2.1,f.2.2.2.2.2.2.2.2.2.1,f.2.2.2.2.2.2.2.2.2.2.1,f.2.2.2.2.2.2.2.2.2.2.2.1,f.2.2.2.2.2.2.2.2.2.2.2.2),(fU g).xs.length ≤ 256:=fun g hg=>by
    rcases List.mem_or_eq_of_mem_set hg with hg | rfl
    · exact h.us g hg
    · exact h.us f hm
  rw [p10_eq' (by decide) _ (fun g hg=>Nat.lt_of_le_of_lt (hU g hg) (by decide)) (fun g hg=>Nat.le_trans (hU g hg) (by decide)) (by show (List.set _ _ _).length ≤ 1000;rw [List.length_set];exact Nat.le_trans h.len (by decide)),if_pos]
  intro hp
  have hz:=(hp (f.1,f.2.1,f.2.2.1,f.2.2.2.1,f.2.2.2.2.1,f.2.2.2.2.2.1,0,f.2.2.2.2.2.2.2.1,f.2.2.2.2.2.2.2.2.1,f.2.2.2.2.2.2.2.2.2.1,f.2.2.2.2.2.2.2.2.2.2.1,f.2.2.2.2.2.2.2.2.2.2.2.1,f.2.2.2.2.2.2.2.2.2.2.2.2) (List.mem_set h0 _)).1.1.1
  exact absurd hz (by show ¬ (1:Int) ≤ 0;decide)
theorem feed_any {m:Mpt} (h:MOk m) (hr:∀ f ∈ m.1.xs,0 ≤ f.2.1 ∧ f.2.1 ≤ 2) {x:Sl Int} (hx:Byts x.xs) {y:KBt} {c:List (Int × Sh)} {Y:Mdl} (I:Inv m y c Y 0) :
    ∃ l y2 c2,p23 2000 m 1 x = some (⟨(b_S m 1 x.xs).1,some (b_S m 1 x.xs).1.length⟩,(b_S m 1 x.xs).2) ∧ p12 2000 y c x = some (l,(b_S m 1 x.xs).2,y2,c2) ∧ ((b_S m 1 x.xs).2 ≠ 0 → l.xs = [] ∧ y2 = y):=by
  have e1:=p23_eq (by decide:1100 ≤ 2000) m h.cp.2.2.2 h.cp.2.1 1 x hx
  have e2:=p23_eq (by decide:1100 ≤ 2000) (cpM m) h.cp.2.2.1 h.cp.1 1 x hx
  rw [valR_cp] at e2
  have hlen:=valR_len m 1 x.xs
  have hl6:=h.len
  by_cases h0:(b_S m 1 x.xs).2 = 0
  · have hv:¬ (m.2.2 = true ∧ x.xs = []) ∧ c_c m.1.xs 1 (if m.2.2 = true then byt x.xs 0 else 0) = true ∧ (b_S m 1 x.xs).1 = rpV m x.xs 1 (if m.2.2 = true then byt x.xs 0 else 0) 0 m.1.xs:=by
      unfold b_S at h0 ⊢
      rw [if_neg (not_not_intro h.ppr)] at h0 ⊢
      by_cases q1:m.2.2 = true ∧ x.xs = []
      · rw [if_pos q1] at h0;cases h0
      · rw [if_neg q1] at h0 ⊢
        by_cases q2:c_c m.1.xs 1 (if m.2.2 = true then byt x.xs 0 else 0) = false
        · rw [if_pos q2] at h0;cases h0
        · rw [if_neg q2] at h0 ⊢
          by_cases q3:(x.xs.length:Int) ≠ b_1 m 1 (if m.2.2 = true then byt x.xs 0 else 0)
          · rw [if_pos q3] at h0;cases h0
          · rw [if_neg q3];exact ⟨q1,by simpa using q2,rfl⟩
    obtain ⟨v1,v2,v3⟩:=hv
    obtain ⟨g,hg,hg2⟩:=List.any_eq_true.1 v2
    have hz:=hr g hg
    rw [(mt_iff hg2).2] at hz
    obtain ⟨X,hX,_⟩:=I.rel.at_ (if m.2.2 = true then byt x.xs 0 else 0).toNat (by omega)
    have hnm:(if y.2.1.2.2 = true then ((idx x.xs 0).bind fun q=>some q) else some 0) = some (if m.2.2 = true then byt x.xs 0 else 0):=by
      rw [I.map]
      show (if m.2.2 = true then _ else _) = _
      by_cases hm:m.2.2 = true
      · have hp:0 < x.xs.length:=List.length_pos_iff.2 fun q=>v1 ⟨hm,q⟩
        have e:=byt_of (b:=x.xs) (i:=0) hp
        rw [show ((0:Nat):Int) = 0 from rfl] at e
        rw [if_pos hm,if_pos hm,e];rfl
      · rw [if_neg hm,if_neg hm]
    rw [h0] at e2
    obtain ⟨c',_,e3⟩:=p12_eq (by decide:1200 ≤ 2000) y c x ⟨(b_S m 1 x.xs).1,some (b_S m 1 x.xs).1.length⟩ (if m.2.2 = true then byt x.xs 0 else 0) I.rdy I.lk I.dok.1 (by rw [I.map];exact e2) (by show (b_S m 1 x.xs).1.length < 2000;omega) (by show (b_S m 1 x.xs).1.length ≤ 1000000;omega)
      (fun v hv=>by
        have hv:v ∈ (b_S m 1 x.xs).1:=hv
        rw [v3] at hv
        have:=e_v m x.xs 1 (if m.2.2 = true then byt x.xs 0 else 0) m.1.xs 0 v hv
        rw [I.map];show 0 ≤ v.1 ∧ v.1 < ((m.1.xs.map cpF).length:Int);rw [List.length_map];omega) hnm hz I.rel hX
    rw [h0]
    exact ⟨_,_,_,by rw [← h0];exact e1,e3,fun q=>absurd rfl q⟩
  · refine ⟨⟨[],some 0⟩,y,c,e1,?_,fun _=>⟨rfl,rfl⟩⟩
    have hb:((b_S m 1 x.xs).2 != 0) = true:=bne_iff_ne.2 h0
    unfold p12
    rw [I.rdy,if_neg (show ¬ ((!true) = true) by decide),I.map,e2,Option.bind_some,if_pos hb]
    have:(y.1,cpM m,true,y.2.2.2.1,y.2.2.2.2.1,y.2.2.2.2.2.1,y.2.2.2.2.2.2.1,y.2.2.2.2.2.2.2) = y:=by rw [← I.rdy,← I.map]
    rw [this]
set_option maxRecDepth 100000 in
theorem p6_main (x0:Bool × Sl Dy) (x1:Bool × Int × Bool × Int) (x2:Sl Int) (hd:∀ y ∈ x0.2.xs,Dok y) (hk:0 ≤ x1.2.1 ∧ x1.2.1 ≤ 255) (hl:0 ≤ x1.2.2.2 ∧ x1.2.2.2 ≤ 255) (hb:Byts x2.xs):p6 2000 x0 x1 x2 = some true:=by
  unfold p6
  by_cases hc:a_m x2 > 100
  · rw [b_Z hc,p8_ok];rfl
  · rw [c_f hc]
    obtain ⟨D,hD,d1,d2,d3,_⟩:=p28_ok (n:=2000) (by decide) x0 hd
    have hU:∀ f ∈ D.1.xs,(fU f).xs.length < 2000 ∧ (fU f).xs.length ≤ 1000000:=fun f hf=>by have:=(d2 f hf).U;omega
    have e1:=p6_l1_eq 2000 D (by omega) hU 2000 0 false (by omega) (Nat.zero_le _)
    rw [show ((0:Nat):Int) = 0 from rfl,List.drop_zero,Bool.false_or] at e1
    have e2:=p10_eq' (n:=2000) (by decide) D (fun f hf=>(hU f hf).1) (fun f hf=>(hU f hf).2) (by omega)
    rw [if_neg (not_not_intro (Cum.ppr d1 d2 d3))] at e2
    have hM:=MOk.of (chk_ok x1.1 (kc:=1 + x1.2.1 % 8) (by omega) x1.2.2.1 (c_I x1.2.2.2 0) (c_I x1.2.2.2 1) (c_I x1.2.2.2 2))
    have hR:=chkE_ok x1.1 (1 + x1.2.1 % 8) x1.2.2.1 (c_I x1.2.2.2 0) (c_I x1.2.2.2 1) (c_I x1.2.2.2 2)
    have e3:=p9_eq x1 hk hl
    have hf0:∃ f,idx (mapL x1.1 (1 + x1.2.1 % 8) x1.2.2.1 (c_I x1.2.2.2 0) (c_I x1.2.2.2 1) (c_I x1.2.2.2 2)).1.xs 0 = some f:=⟨_,rfl⟩
    generalize mapL x1.1 (1 + x1.2.1 % 8) x1.2.2.1 (c_I x1.2.2.2 0) (c_I x1.2.2.2 1) (c_I x1.2.2.2 2) = M at hM hR e3 hf0
    obtain ⟨f0,hf0⟩:=hf0
    have e4:=p10_bad hM hf0
    have e5:p10 2000 M = some (some (newK M),0):=p10_good (by decide) _ (fun f hf=>Nat.lt_of_le_of_lt (hM.us f hf) (by decide)) (fun f hf=>Nat.le_trans (hM.us f hf) (by decide)) (Nat.le_trans hM.len (by decide)) hM.ppr hM.key
    have e6:=p11_eq (n:=2000) (by decide) hM ⟨[9,5,6,7],some 4⟩ (fun y hy=>by simp at hy;omega)
    obtain ⟨vs,y1,c1,Y1,_,e7,_,I1⟩:=feed_inv (n:=2000) (by decide) hM (b:=[9,5,6,7]) (fun y hy=>by simp at hy;omega) (some (e_9 M [9,5,6,7])) (by omega) (Inv.new M)
    have e8:=p13_eq (n:=2000) (by decide) y1 I1.dok.1
    obtain ⟨l,y2,c2,e9,e10,e11⟩:=feed_any hM hR hb I1
    rw [hD,Option.bind_some,e1,Option.bind_some,e2,Option.bind_some]
    have hq:∃ o:Option KBt,∃ e:Int,(if D.1.xs.any keyF = true then ((some (newK D),0):Option KBt × Int) else (.none,7)) = (o,e) ∧ (!(D.1.xs.any keyF == (e == 0))) = false ∧ (if (e != 0) = true then if (e != 7) = true then .none else some o.isSome else some false) = some false:=by
      cases D.1.xs.any keyF with
      | true=>exact ⟨_,_,rfl,rfl,rfl⟩
      | false=>exact ⟨_,_,rfl,rfl,rfl⟩
    obtain ⟨o,e,q1,q2,q3⟩:=hq
    rw [q1]
    simp only
    rw [if_neg (by rw [q2];decide)]
    refine (congrArg (fun q=>Option.bind q _) q3).trans ?_
    rw [Option.bind_some,if_neg Bool.false_ne_true,e3,Option.bind_some,hf0,Option.bind_some]
    refine (congrArg (fun q=>Option.bind q _) e4).trans ?_
    rw [Option.bind_some,Option.bind_some]
    refine (congrArg (fun q=>Option.bind q _) e5).trans ?_
    rw [Option.bind_some]
    rw [show ∀ (a:Option Bool) (f:KBt → Option Bool),optK ((some (newK M):Option KBt),(0:Int)).1 a f = f (newK M) from fun _ _=>rfl,Option.bind_some]
    refine (congrArg (fun q=>Option.bind q _) e6).trans ?_
    rw [Option.bind_some]
    refine (congrArg (fun q=>Option.bind q _) e7).trans ?_
    rw [Option.bind_some]
    refine (congrArg (fun q=>Option.bind q _) e8).trans ?_
    rw [Option.bind_some,Option.bind_some]
    refine (congrArg (fun q=>Option.bind q _) e9).trans ?_
    rw [Option.bind_some]
    refine (congrArg (fun q=>Option.bind q _) e10).trans ?_
    rw [Option.bind_some]
    generalize hV:(b_S M 1 x2.xs).2 = V at e11
    refine (if_neg (show ¬ (((1:Int) != 1) = true) by decide)).trans ?_
    refine (if_neg (show ¬ (((0:Int) != 0) = true) by decide)).trans ?_
    refine (if_neg (show ¬ (((0:Int) != 0) = true) by decide)).trans ?_
    refine (if_neg (show ¬ ((V != V) = true) by rw [bne_self_eq_false];decide)).trans ?_
    have e12:∃ z:KBt,(if (V != 0) = true then if ((a_m l) != 0) = true then .none else (p13 2000 y2).bind fun t_292=>some (((a_m t_292.1) != (a_m (⟨f_c y1.1 0,.none⟩:Sl Int))),t_292.2) else some (false,y2)) = some (false,z):=by
      by_cases h0:V = 0
      · rw [h0];exact ⟨y2,rfl⟩
      · obtain ⟨g1,g2⟩:=e11 h0
        have hl0:((a_m l) != 0) = false:=by rw [a_E,g1];rfl
        rw [if_pos (bne_iff_ne.2 h0),hl0,if_neg Bool.false_ne_true,g2,e8,Option.bind_some,bne_self_eq_false]
        exact ⟨_,rfl⟩
    obtain ⟨z,e12⟩:=e12
    refine (congrArg (fun q=>Option.bind q _) e12).trans ?_
    rw [Option.bind_some,if_neg Bool.false_ne_true,p8_ok]
    kernel_rfl
theorem inR_i16' {x:Int}:InR .i16 x ↔ -32768 ≤ x ∧ x ≤ 32767:=by simp [InR,IntKind.min,IntKind.max,IntKind.signed,IntKind.bits]
theorem p6_law {x0:Bool × Sl Dy} {x1:Bool × Int × Bool × Int} {x2:Sl Int} (F0:Fine (.st (.pair .bool (.sl (.st (.pair (.int .u8) (.pair (.int .u8) (.pair (.int .u8) (.pair (.int .u8) (.pair (.int .i16) (.pair (.int .u16) (.pair (.int .u8) (.int .u8)))))))))))) x0) (F1:Fine (.st (.pair .bool (.pair (.int .u8) (.pair .bool (.int .u8))))) x1) (F2:Fine (.sl (.int .u8)) x2):p6 2000 x0 x1 x2 = some true:=by
  refine p6_main x0 x1 x2 (fun y hy=>?_) (inR_u8.1 F1.2.1) (inR_u8.1 F1.2.2.2) fun y hy=>inR_u8.1 (F2.2.2 y hy)
  obtain ⟨f1,f2,f3,f4,f5,f6,f7,f8⟩:=F0.2.2.2 y hy
  exact ⟨inR_u8.1 f1,inR_u8.1 f2,inR_u8.1 f4,inR_i16'.1 f5,inR_u16.1 f6,inR_u8.1 f7⟩
end Go.Proofs.Ytionknddmlmhlaa
