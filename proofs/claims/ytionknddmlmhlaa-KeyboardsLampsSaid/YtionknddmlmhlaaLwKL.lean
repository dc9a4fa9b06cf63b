/- KeyboardsLamps, in plain words. -/
import Derived.Test.YtionknddmlmhlaaKL99
set_option linter.unusedVariables false
set_option linter.unusedSimpArgs false
namespace Go.Proofs.Ytionknddmlmhlaa
open Go.RowKit
theorem mB (b:Bool):b ∈ BB:=by cases b <;> simp [BB]
theorem allB {p:Bool → Bool} (h:BB.all p = true) (b:Bool):p b = true:=List.all_eq_true.1 h b (mB b)
theorem bitL_or {lm:Int} (h0:0 ≤ lm) (h1:lm ≤ 255):(lm % 8 != 0) = (b_O lm 0 || b_O lm 1 || b_O lm 2):=by
  unfold b_O
  rw [Bool.eq_iff_iff]
  simp only [bne_iff_ne,ne_eq,Bool.or_eq_true,beq_iff_eq]
  have e0:(2:Int) ^ 0 = 1:=rfl
  have e1:(2:Int) ^ 1 = 2:=rfl
  have e2:(2:Int) ^ 2 = 4:=rfl
  rw [e0,e1,e2]
  omega
theorem repR_set {m:Mpt} {nb:Bool} (hnb:m.2.2 = nb) (hl:(oL nb:Int) < b_D m 1 (b_Y nb)) (v:Int):∃ b',b_o m b' = (b_o m []).set (oL nb) v ∧ (0 ≤ v ∧ v ≤ 255 → Byts b') ∧ oL nb < (b_o m []).length:=by
  cases nb with
  | true =>
    have hn:∀ b:List Int,b = [] ∨ b = [0,0,v] → b_7 m b = 1:=fun b hb=>by
      unfold b_7
      rw [hnb,if_pos rfl]
      rcases hb with rfl | rfl
      · rw [if_neg (by simp)]
      · rw [if_neg (by simp [byt])]
    obtain ⟨k,hk⟩:∃ k,(b_D m 1 1).toNat = k + 3:=⟨(b_D m 1 1).toNat - 3,by have:((oL true:Nat):Int) = 2:=rfl;have:b_Y true = 1:=rfl;rw [this] at hl;omega⟩
    have h1:d_b m [] = k + 3:=by unfold d_b;rw [hn [] (.inl rfl)];exact hk
    have h2:d_b m [0,0,v] = k + 3:=by unfold d_b;rw [hn _ (.inr rfl)];exact hk
    refine ⟨[0,0,v],?_,fun h y hy=>?_,?_⟩
    · unfold b_o
      rw [hnb,if_pos rfl,if_pos rfl,h1,h2,hn [] (.inl rfl),hn _ (.inr rfl)]
      simp [b_3,List.replicate_succ,oL]
    · simp at hy;rcases hy with rfl | rfl <;> first | decide | exact h
    · rw [c_K,h1];show 2 < k + 3;omega
  | false =>
    have hn:∀ b:List Int,b_7 m b = 0:=fun b=>by unfold b_7;rw [hnb];rfl
    obtain ⟨k,hk⟩:∃ k,(b_D m 1 0).toNat = k + 2:=⟨(b_D m 1 0).toNat - 2,by have:((oL false:Nat):Int) = 1:=rfl;have:b_Y false = 0:=rfl;rw [this] at hl;omega⟩
    have h1:d_b m [] = k + 2:=by unfold d_b;rw [hn []];exact hk
    have h2:d_b m [0,v] = k + 2:=by unfold d_b;rw [hn _];exact hk
    refine ⟨[0,v],?_,fun h y hy=>?_,?_⟩
    · unfold b_o
      rw [hnb,if_neg (by decide),if_neg (by decide),h1,h2]
      simp [b_3,List.replicate_succ,oL]
    · simp at hy;rcases hy with rfl | rfl <;> first | decide | exact h
    · rw [c_K,h1];show 1 < k + 2;omega
theorem wrap8 (x:Int):0 ≤ IntKind.wrap .u8 x ∧ IntKind.wrap .u8 x ≤ 255:=by rw [e_a];omega
theorem p5_l2_eq (x0:Bool × Int × Bool × Int) {m:Mpt} (h:MOk m) (hnb:m.2.2 = x0.1) (hl:(oL x0.1:Int) < b_D m 1 (b_Y x0.1)) (key:Int):∀ (mm i:Nat) (y:KBt) (c:List (Int × Sh)) (Y:Mdl),2 - i < mm → i ≤ 2 → Inv m y c Y 0 →
    ∃ y' c' Y',p5_l2 2000 x0 m key mm i y c = some (.inl (y',c')) ∧ Inv m y' c' Y' 0 ∧ y'.2.2.2.2.1 = y.2.2.2.2.1:=by
  intro mm
  induction mm with
  | zero=>intro i y c Y hm;exact absurd hm (by omega)
  | succ mm ih =>
    intro i y c Y hm hi I
    rw [p5_l2]
    by_cases hlt:i < 2
    · rw [c_w (by omega),p11_eq (by decide) h ⟨[],some 0⟩ (fun y hy=>by cases hy),Option.bind_some]
      have hj:(if x0.1 = true then (some (2:Int)) else some 1) = some ((oL x0.1:Nat):Int):=by cases x0.1 <;> rfl
      rw [hj,Option.bind_some]
      have hck:ckI .i64 (1 - (i:Int)) = some (1 - (i:Int)):=ckS (by omega) (by omega)
      obtain ⟨b',hb1,hb2,hb3⟩:=repR_set hnb hl (IntKind.wrap .u8 (key * IntKind.wrap .u8 (1 - (i:Int))))
      rw [a_A,c_x (by show ¬ (((b_o m []).length:Int) ≤ _);omega),hck,Option.bind_some]
      obtain ⟨vs,y',c',Y',_,g2,_,I',hlit⟩:=feed_lit (n:=2000) (by decide) h (hb2 (wrap8 _)) (some (d_b m [])) (by omega) I
      have hid:idx (b_o m []) ((oL x0.1:Nat):Int) = some (b_o m [])[oL x0.1]:=d_a hb3
      refine (congrArg (fun q=>∃ y' c' Y',Option.bind q _ = some (Sum.inl (y',c')) ∧ Inv m y' c' Y' 0 ∧ y'.2.2.2.2.1 = y.2.2.2.2.1) hid).mpr ?_
      rw [Option.bind_some,Int.toNat_natCast]
      have g2':p12 2000 (y.1,y.2.1,y.2.2.1,y.2.2.2.1,y.2.2.2.2.1,y.2.2.2.2.2.1,y.2.2.2.2.2.2.1,y.2.2.2.2.2.2.2) c ⟨(b_o m []).set (oL x0.1) (IntKind.wrap .u8 (key * IntKind.wrap .u8 (1 - (i:Int)))),some (d_b m [])⟩ = some (⟨d_B y.1 y'.1,some (d_B y.1 y'.1).length⟩,0,y',c'):=by rw [← hb1];exact g2
      refine (congrArg (fun q=>∃ y' c' Y',Option.bind q _ = some (Sum.inl (y',c')) ∧ Inv m y' c' Y' 0 ∧ y'.2.2.2.2.1 = y.2.2.2.2.1) g2').mpr ?_
      rw [Option.bind_some,if_neg (show ¬ (((0:Int) != 0) = true) by decide),ckS (by omega) (by omega),Option.bind_some,a_1]
      obtain ⟨y2,c2,Y2,r1,r2,r3⟩:=ih (i + 1) y' c' Y' (by omega) (by omega) I'
      exact ⟨y2,c2,Y2,r1,r2,r3.trans hlit⟩
    · rw [c_x (by omega)]
      exact ⟨y,c,Y,rfl,I,rfl⟩
theorem p5_l3_eq (n:Nat) (x0:Bool × Int × Bool × Int) (h0:0 ≤ x0.2.2.2) (h1:x0.2.2.2 ≤ 255) (m:Mpt) (t:(Sl Int) × Bool × KBt) (t2:Int × KBt) (hla:0 ≤ t2.1 ∧ t2.1 ≤ 7) (ht:t.2.1 = true)
    (H:∀ c:Nat,c < 3 → ∃ f v,p26 n m 2 (524289 + (c:Int)) = some f ∧ p27 n m t.1 f.1 f.2.1 = some v ∧ (b_O x0.2.2.2 c = true → f.2.2 = 0 ∧ v = (t2.1 / 2 ^ c % 2,0))):∀ (mm c:Nat),3 - c < mm → c ≤ 3 → p5_l3 n x0 m t t2 mm c = some (.inl ()):=by
  intro mm
  induction mm with
  | zero=>intro c hm;exact absurd hm (by omega)
  | succ mm ih =>
    intro c hm hi
    rw [p5_l3]
    by_cases hlt:c < 3
    · rw [decide_eq_true (show (c:Int) < 3 by omega),if_pos rfl,ht,Option.bind_some,if_pos rfl]
      obtain ⟨f,v,e1,e2,e3⟩:=H c hlt
      rw [show IntKind.wrap .u32 (524289 + IntKind.wrap .u32 (c:Int)) = 524289 + (c:Int) by rw [b_Q,b_Q];omega,e1,Option.bind_some,e2,Option.bind_some,e_G (by omega),Option.bind_some]
      have h2:0 ≤ x0.2.2.2 / 2 ^ c:=Int.ediv_nonneg h0 (Int.le_of_lt (b_B c))
      have h3:0 ≤ t2.1 / 2 ^ c:=Int.ediv_nonneg hla.1 (Int.le_of_lt (b_B c))
      rw [b_1 h2 (by decide) (u8R (by omega) (by omega)),Option.bind_some]
      have hq:(if (x0.2.2.2 / 2 ^ c % 2 == 1) = true then (if (f.2.2 != 0) = false then some (v.2 != 0) else some true).bind fun q_306=>(if q_306 = false then (b_8 t2.1 (c:Int) .u8).bind fun x_308=>(d_E .u8 x_308 2).bind fun x_309=>some (v.1 != x_309) else some true).bind fun q_307=>some q_307 else some false) = some false:=by
        cases hb:(x0.2.2.2 / 2 ^ c % 2 == 1) with
        | false=>rfl
        | true =>
          obtain ⟨e4,e5⟩:=e3 hb
          rw [if_pos rfl,e4,if_pos (show ((0:Int) != 0) = false from rfl),e5,Option.bind_some,if_pos (show ((0:Int) != 0) = false from rfl),e_G (by omega),Option.bind_some,b_1 h3 (by decide) (u8R (by omega) (by omega)),Option.bind_some,bne_self_eq_false]
          rfl
      refine (congrArg (fun q=>Option.bind q _) hq).trans ?_
      rw [Option.bind_some,if_neg Bool.false_ne_true,ckS (by omega) (by omega),Option.bind_some,a_1]
      exact ih (c + 1) (by omega) (by omega)
    · rw [decide_eq_false (show ¬ (c:Int) < 3 by omega),if_neg Bool.false_ne_true,Option.bind_some,if_neg Bool.false_ne_true]
structure LM (m:Mpt) (nb:Bool) (kc:Int) (bits l0 l1 l2:Bool):Prop where
  eq_:m = mapL nb kc bits l0 l1 l2
  ok:MOk m
  kc_:1 ≤ kc ∧ kc ≤ 8
theorem LM.out {m:Mpt} {nb bits l0 l1 l2:Bool} {kc:Int} (h:LM m nb kc bits l0 l1 l2) (ha:(l0 || l1 || l2) = true):OutM m nb ∧ OutM (cpM m) nb:=by
  have h1:=allB (allB (allB (allB (allB (chkO_all kc) nb) bits) l0) l1) l2
  rw [ha] at h1
  unfold chkO at h1
  simp only [Bool.not_true,Bool.false_or,Bool.and_eq_true,beq_iff_eq,List.all_eq_true] at h1
  rw [← h.eq_] at h1
  obtain ⟨⟨h2,h3⟩,h4⟩:=h1
  have ha:∀ f ∈ m.1.xs,f.1 = 2 → fAr f = false:=fun f hf hk=>by have:=h4 f hf;rw [hk] at this;simpa using this
  have hlen:m.1.xs.length ≤ 1000:=Nat.le_trans h.ok.len (by decide)
  have hnb:m.2.2 = nb:=by rw [h.eq_];rfl
  refine ⟨⟨h.ok.ppr,hlen,hnb,h2,h3,ha⟩,⟨(Ppr_cp m).2 h.ok.ppr,h.ok.cp.2.2.1,hnb,(lenR_cp m 2 _).trans h2,(e_q m.1.xs 2 _).trans h3,fun f hf hk=>?_⟩⟩
  obtain ⟨g,hg,rfl⟩:=List.mem_map.1 hf
  exact ha g hg hk
theorem LM.fnd {m x:Mpt} {nb bits l0 l1 l2:Bool} {kc:Int} (h:LM m nb kc bits l0 l1 l2) (hx:x = m ∨ x = cpM m) (u:Int):p26 2000 x 2 u = some (fndL 2 u x.1.xs 0):=by
  have hC:∀ f ∈ m.1.xs,0 ≤ fC f ∧ fC f ≤ 1000000:=fun f hf=>by have:=(h.ok.ppr f hf).1.2;omega
  have hU:∀ f ∈ m.1.xs,(fU f).xs.length < 2000 ∧ (fU f).xs.length ≤ 1000000:=fun f hf=>by have:=h.ok.us f hf;omega
  rcases hx with rfl | rfl
  · exact p26_eq (by decide) x 2 u (Nat.le_trans h.ok.len (by decide)) hU hC
  · refine p26_eq (by decide) (cpM m) 2 u h.ok.cp.2.2.1 (fun f hf=>?_) fun f hf=>?_
    · obtain ⟨g,hg,rfl⟩:=List.mem_map.1 hf
      exact hU g hg
    · obtain ⟨g,hg,rfl⟩:=List.mem_map.1 hf
      exact hC g hg
theorem p27_else {m:Mpt} {nb:Bool} (h:OutM m nb) (hk:(m.1.xs[0]?.map fun f=>(f.1,f.2.1)) = some (1,b_Y nb)) (hc:∀ f ∈ m.1.xs,1 ≤ fC f) (hl:(oL nb:Int) < b_D m 1 (b_Y nb)) {b:Sl Int} (hb:b.xs.length = oL nb):p27 2000 m b 0 0 = some (0,5):=by
  have h0:0 < m.1.xs.length:=by
    cases hx:m.1.xs with
    | nil=>rw [hx] at hk;cases hk
    | cons a l=>simp
  rw [List.getElem?_eq_getElem h0,Option.map_some] at hk
  have hk:=Option.some.inj hk
  have hf:idx m.1.xs 0 = some m.1.xs[0]:=d_a (i:=0) h0
  have hc0:1 ≤ m.1.xs[0].2.2.2.2.2.2.2.1:=hc _ (List.getElem_mem h0)
  generalize m.1.xs[0] = f at hk hf hc0
  obtain ⟨k1,k2⟩:=Prod.mk.injEq .. ▸ hk
  have e:p43 2000 m b 0 0 = some 5:=by
    unfold p43
    rw [p30_eq (by decide) m h.len,Option.bind_some,decide_eq_true h.ppr,if_neg (show ¬ ((!true) = true) by decide),decide_eq_false (show ¬ (0:Int) < 0 by decide),a_A,decide_eq_false (show ¬ (0:Int) ≥ (m.1.xs.length:Int) by omega),if_pos rfl,Option.bind_some,if_pos rfl,Option.bind_some,if_pos rfl,hf,Option.bind_some,decide_eq_false (show ¬ (0:Int) ≥ f.2.2.2.2.2.2.2.1 by omega),Option.bind_some,if_neg Bool.false_ne_true,Option.bind_some,k1,k2,p32_eq (by decide) m 1 _ h.len,Option.bind_some,a_A,hb,if_pos (bne_iff_ne.2 (by omega))]
  unfold p27
  rw [e,Option.bind_some,if_pos (show ((5:Int) != 0) = true from rfl)]
theorem LM.len1 {m:Mpt} {nb bits l0 l1 l2:Bool} {kc:Int} (h:LM m nb kc bits l0 l1 l2):(oL nb:Int) < b_D m 1 (b_Y nb):=by
  have mK:kc ∈ KC:=by have:=h.kc_;unfold KC;simp;omega
  have h1:=allB (allB (allB (allB (List.all_eq_true.1 (allB chkI_all nb) kc mK) bits) l0) l1) l2
  rw [h.eq_]
  exact of_decide_eq_true h1
theorem LM.hd {m:Mpt} {nb bits l0 l1 l2:Bool} {kc:Int} (h:LM m nb kc bits l0 l1 l2):(m.1.xs[0]?.map fun f=>(f.1,f.2.1)) = some (1,b_Y nb):=by rw [h.eq_];rfl
theorem LM.lamp {m:Mpt} {nb bits l0 l1 l2:Bool} {kc:Int} (h:LM m nb kc bits l0 l1 l2) (ha:(l0 || l1 || l2) = true) {o:Sl Int} {la:Int} {c:Nat} {l:Bool} (hk:chkL nb m o la c l = true) :
    ∃ f v,p26 2000 m 2 (524289 + (c:Int)) = some f ∧ p27 2000 m o f.1 f.2.1 = some v ∧ (l = true → f.2.2 = 0 ∧ v = (la / 2 ^ c % 2,0)):=by
  have hO:=(h.out ha).1
  have hC:∀ f ∈ m.1.xs,1 ≤ fC f:=fun f hf=>(h.ok.ppr f hf).1.2.1
  unfold chkL at hk
  cases l with
  | true =>
    simp only [if_true,Bool.and_eq_true,beq_iff_eq] at hk
    exact ⟨_,_,h.fnd (.inl rfl) _,getO_le hO _ _ _ _ hk.2,fun _=>⟨hk.1,rfl⟩⟩
  | false =>
    simp only [Bool.false_eq_true,if_false,Bool.and_eq_true,beq_iff_eq] at hk
    refine ⟨_,(0,5),h.fnd (.inl rfl) _,?_,fun h=>by cases h⟩
    rw [hk.1.1,hk.1.2]
    exact p27_else hO h.hd hC h.len1 hk.2
theorem rep_step {m:Mpt} {nb bits l0 l1 l2:Bool} {kc:Int} (h:LM m nb kc bits l0 l1 l2) {y:KBt} {c:List (Int × Sh)} {Y:Mdl} (I:Inv m y c Y 0) :
    ∃ o is,p25 2000 y = some (o,is,(y.1,y.2.1,y.2.2.1,y.2.2.2.1,y.2.2.2.1,y.2.2.2.2.2)) ∧ is = ((l0 || l1 || l2) && y.2.2.2.1 != y.2.2.2.2.1) ∧ (is != (o.xs.length == 0)) = true ∧
      (is = true → ∀ c:Nat,c < 3 → ∃ f v,p26 2000 m 2 (524289 + (c:Int)) = some f ∧ p27 2000 m o f.1 f.2.1 = some v ∧ ((if c = 0 then l0 else if c = 1 then l1 else l2) = true → f.2.2 = 0 ∧ v = (y.2.2.2.1 / 2 ^ c % 2,0))):=by
  have h1:=I.map
  have h2:=I.rdy
  have h3:=I.la
  have h4:=I.lamps
  obtain ⟨d,m',r,la,lit,hh,tt,lk⟩:=y
  simp only at h1 h2 h4
  subst h1 h2
  simp only
  rw [← h4] at h3
  by_cases he:la = lit
  · subst he
    exact ⟨_,_,p25_same 2000 d (cpM m) la hh tt lk,by simp,by simp,fun h=>by cases h⟩
  · have mL:la ∈ LA:=by unfold LA;simp;omega
    have hk:=List.all_eq_true.1 (allB (allB (allB (allB (allB (chkR_all kc) nb) bits) l0) l1) l2) la mL
    unfold chkR at hk
    simp only [← h.eq_] at hk
    cases hx:p25F (fun u=>some (fndL 2 u (cpM m).1.xs 0)) (blkO (l0 || l1 || l2) nb) (putO (l0 || l1 || l2) nb (cpM m)) ([],cpM m,true,la,0,0,0,[]) with
    | none=>rw [hx] at hk;cases hk
    | some x =>
      rw [hx] at hk
      simp only [Bool.and_eq_true,beq_iff_eq] at hk
      obtain ⟨⟨⟨k1,k2⟩,k3⟩,k4⟩:=hk
      have e:=p25_le 2000 d hh tt lk he (fun u=>fun r e=>by rw [h.fnd (.inr rfl) u];exact e) (blkO_le fun ha=>(h.out ha).2) (putO_le fun ha=>(h.out ha).2) hx
      refine ⟨x.1,x.2.1,?_,?_,k2,fun hi c hc=>?_⟩
      · rw [e,putR,k3]
      · rw [k1,bne_iff_ne.2 he,Bool.and_true]
      · rw [hi] at k4 k1
        simp only [Bool.not_true,Bool.false_or,Bool.and_eq_true] at k4
        match c,hc with
        | 0,_=>exact h.lamp k1.symm k4.1.1
        | 1,_=>exact h.lamp k1.symm k4.1.2
        | 2,_=>exact h.lamp k1.symm k4.2
theorem p5_l1_eq (x0:Bool × Int × Bool × Int) (h0:0 ≤ x0.2.2.2) (h1:x0.2.2.2 ≤ 255) (x1:Sl Int) (hx:Byts x1.xs) (hl:x1.xs.length ≤ 20) {m:Mpt} {kc:Int} (h:LM m x0.1 kc x0.2.2.1 (b_O x0.2.2.2 0) (b_O x0.2.2.2 1) (b_O x0.2.2.2 2)) :
    ∀ (mm i:Nat) (y:KBt) (c:List (Int × Sh)) (Y:Mdl),x1.xs.length - i < mm → i ≤ x1.xs.length → Inv m y c Y 0 → ∃ s,p5_l1 2000 x0 x1 m mm i y.2.2.2.2.1 y c = some (.inl s):=by
  intro mm
  induction mm with
  | zero=>intro i y c Y hm;exact absurd hm (by omega)
  | succ mm ih =>
    intro i y c Y hm hi I
    rw [p5_l1,a_A]
    by_cases hlt:i < x1.xs.length
    · have hb:=hx _ (List.getElem_mem hlt)
      rw [c_w (by omega),d_a hlt,Option.bind_some,Option.bind_some]
      generalize x1.xs[i] = k at hb
      rw [b_1 hb.1 (by decide) (u8R (by omega) (by omega)),Option.bind_some]
      obtain ⟨key,hkey⟩:∃ key,idx (⟨[83,57,71,4,k],some 5⟩:Sl Int).xs (k % 5) = some key:=⟨_,idx_of (by omega) (by show k % 5 < ((5:Nat):Int);omega)⟩
      rw [hkey,Option.bind_some]
      have hnb:m.2.2 = x0.1:=by rw [h.eq_];rfl
      obtain ⟨y1,c1,Y1,e1,I1,l1⟩:=p5_l2_eq x0 h.ok hnb h.len1 key 2000 0 y c Y (by decide) (by decide) I
      refine (congrArg (fun q=>∃ s,Option.bind q _ = some (Sum.inl s)) e1).mpr ?_
      rw [Option.bind_some,lrKl]
      obtain ⟨o,is,e2,e3,e4,e5⟩:=rep_step h I1
      refine (congrArg (fun q=>∃ s,Option.bind q _ = some (Sum.inl s)) e2).mpr ?_
      rw [Option.bind_some,b_1 h0 (by decide) (u8R (by omega) (by omega)),Option.bind_some]
      have I2:Inv m (y1.1,y1.2.1,y1.2.2.1,y1.2.2.2.1,y1.2.2.2.1,y1.2.2.2.2.2) c1 Y1 0:=⟨I1.map,I1.rdy,I1.lk,I1.dn,I1.dok,I1.lamps,I1.la,I1.held,I1.h0,I1.time,I1.tb,I1.rel⟩
      have e6:(if (x0.2.2.2 % 8 != 0) = true then (p15 2000 (y1.1,y1.2.1,y1.2.2.1,y1.2.2.2.1,y1.2.2.2.1,y1.2.2.2.2.2)).bind fun t_256=>some ((t_256.1 != y.2.2.2.2.1),t_256.2) else some (false,(y1.1,y1.2.1,y1.2.2.1,y1.2.2.2.1,y1.2.2.2.1,y1.2.2.2.2.2))) = some (is,(y1.1,y1.2.1,y1.2.2.1,y1.2.2.2.1,y1.2.2.2.1,y1.2.2.2.2.2)):=by
        rw [bitL_or h0 h1,e3,← l1]
        cases (b_O x0.2.2.2 0 || b_O x0.2.2.2 1 || b_O x0.2.2.2 2) with
        | false=>rfl
        | true=>rfl
      refine (congrArg (fun q=>∃ s,Option.bind q _ = some (Sum.inl s)) e6).mpr ?_
      rw [Option.bind_some]
      have e7:(if (!(is == is)) = false then some (is == ((a_l o) == 0)) else some true) = some false:=by
        rw [beq_self_eq_true,if_pos (show (!true) = false from rfl),a_A]
        refine congrArg some ?_
        have:(((o.xs.length:Int) == 0)) = (o.xs.length == 0):=by rw [Bool.eq_iff_iff];simp
        rw [this]
        cases is <;> cases hz:(o.xs.length == 0) <;> rw [hz] at e4 <;> first | rfl | cases e4
      refine (congrArg (fun q=>∃ s,Option.bind q _ = some (Sum.inl s)) e7).mpr ?_
      rw [Option.bind_some,if_neg Bool.false_ne_true]
      have hla:0 ≤ y1.2.2.2.1 ∧ y1.2.2.2.1 ≤ 7:=by rw [I1.lamps];exact I1.la
      have e8:p5_l3 2000 x0 m (o,is,(y1.1,y1.2.1,y1.2.2.1,y1.2.2.2.1,y1.2.2.2.1,y1.2.2.2.2.2)) (y1.2.2.2.1,(y1.1,y1.2.1,y1.2.2.1,y1.2.2.2.1,y1.2.2.2.1,y1.2.2.2.2.2)) 2000 0 = some (.inl ()):=by
        cases hi2:is with
        | true =>
          refine p5_l3_eq 2000 x0 h0 h1 m _ _ hla rfl (fun c hc=>?_) 2000 0 (by decide) (by decide)
          obtain ⟨f,v,g1,g2,g3⟩:=e5 hi2 c hc
          refine ⟨f,v,g1,g2,fun hb=>g3 ?_⟩
          match c,hc with
          | 0,_=>exact hb
          | 1,_=>exact hb
          | 2,_=>exact hb
        | false=>rw [show (2000:Nat) = 1999 + 1 from rfl,p5_l3];rfl
      have e9:p25 2000 (y1.1,y1.2.1,y1.2.2.1,y1.2.2.2.1,y1.2.2.2.1,y1.2.2.2.2.2) = some (⟨[],some 0⟩,false,(y1.1,y1.2.1,y1.2.2.1,y1.2.2.2.1,y1.2.2.2.1,y1.2.2.2.2.2)):=by
        rw [I1.rdy]
        exact p25_same 2000 _ _ _ _ _ _
      refine (congrArg (fun q=>∃ s,Option.bind q _ = some (Sum.inl s)) (show p15 2000 (y1.1,y1.2.1,y1.2.2.1,y1.2.2.2.1,y1.2.2.2.1,y1.2.2.2.2.2) = some (y1.2.2.2.1,(y1.1,y1.2.1,y1.2.2.1,y1.2.2.2.1,y1.2.2.2.1,y1.2.2.2.2.2)) from rfl)).mpr ?_
      rw [Option.bind_some]
      refine (congrArg (fun q=>∃ s,Option.bind q _ = some (Sum.inl s)) e8).mpr ?_
      rw [Option.bind_some,lrKl]
      refine (congrArg (fun q=>∃ s,Option.bind q _ = some (Sum.inl s)) e9).mpr ?_
      rw [Option.bind_some,if_neg Bool.false_ne_true,ckS (by omega) (by omega),Option.bind_some,a_1]
      exact ih (i + 1) (y1.1,y1.2.1,y1.2.2.1,y1.2.2.2.1,y1.2.2.2.1,y1.2.2.2.2.2) c1 Y1 (by omega) (by omega) I2
    · rw [c_x (by omega)]
      exact ⟨_,rfl⟩
theorem p5_law {x0:Bool × Int × Bool × Int} {x1:Sl Int} (F0:Fine (.st (.pair .bool (.pair (.int .u8) (.pair .bool (.int .u8))))) x0) (F1:Fine (.sl (.int .u8)) x1):p5 2000 x0 x1 = some true:=by
  have hk:=inR_u8.1 F0.2.1
  have hl:=inR_u8.1 F0.2.2.2
  have hb:Byts x1.xs:=fun y hy=>inR_u8.1 (F1.2.2 y hy)
  unfold p5
  by_cases hc:a_l x1 > 20
  · rw [c_w hc,p8_ok];rfl
  · rw [c_x hc]
    rw [a_A] at hc
    have hM:=MOk.of (chk_ok x0.1 (kc:=1 + x0.2.1 % 8) (by omega) x0.2.2.1 (b_O x0.2.2.2 0) (b_O x0.2.2.2 1) (b_O x0.2.2.2 2))
    have e1:=p9_eq x0 hk hl
    have h:LM (mapL x0.1 (1 + x0.2.1 % 8) x0.2.2.1 (b_O x0.2.2.2 0) (b_O x0.2.2.2 1) (b_O x0.2.2.2 2)) x0.1 (1 + x0.2.1 % 8) x0.2.2.1 (b_O x0.2.2.2 0) (b_O x0.2.2.2 1) (b_O x0.2.2.2 2):=⟨rfl,hM,by omega⟩
    generalize mapL x0.1 (1 + x0.2.1 % 8) x0.2.2.1 (b_O x0.2.2.2 0) (b_O x0.2.2.2 1) (b_O x0.2.2.2 2) = m at e1 h
    have e2:p10 2000 m = some (some (newK m),0):=p10_good (by decide) _ (fun f hf=>Nat.lt_of_le_of_lt (h.ok.us f hf) (by decide)) (fun f hf=>Nat.le_trans (h.ok.us f hf) (by decide)) (Nat.le_trans h.ok.len (by decide)) h.ok.ppr h.ok.key
    obtain ⟨s,e3⟩:=p5_l1_eq x0 hl.1 hl.2 x1 hb (by omega) h 2000 0 (newK m) [] ([Z2,Z2,Z2],Zs,0,0,0) (by omega) (Nat.zero_le _) (Inv.new m)
    rw [e1,Option.bind_some,e2,Option.bind_some]
    show ((p5_l1 2000 x0 x1 m 2000 0 0 (newK m) []).bind _) = _
    refine (congrArg (fun q=>Option.bind q _) e3).trans ?_
    rw [Option.bind_some,lrKl,p8_ok]
    rfl
end Go.Proofs.Ytionknddmlmhlaa
