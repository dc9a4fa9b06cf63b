/- Networks: the law of reading any bytes. Plain theorems, no condition. -/
import Derived.Test.YtlgalcekkffhnaaPN9
import Derived.Test.YtlgalcekkffhnaaPd1
import Derived.Test.YtlgalcekkffhnaaLB2
import Derived.Test.YtlgalcekkffhnaaLB1
set_option linter.unusedVariables false
set_option linter.unusedSimpArgs false
namespace Go.Proofs.Ytlgalcekkffhnaa
open Go.RowKit
theorem lrK_inlD {α β γ:Type} (a:α) (g:β → Option γ) (f:α → Option γ):lrK (.inl a) g f = f a:=rfl
theorem p13_l1_eqD (n:Nat) (x y:Sl (Sl Int)) (hr:a_r x.xs = a_r y.xs) (hL:x.xs.length ≤ 1000000):∀ (m k:Nat),x.xs.length < k + m → k ≤ x.xs.length → p13_l1 n x y m k = some (.inl ())
  | 0,k,h,hk=>by omega
  | m + 1,k,h,hk=>by
    have hl:x.xs.length = y.xs.length:=by have:=congrArg List.length hr;simpa [a_r] using this
    unfold p13_l1
    by_cases hlt:k < x.xs.length
    · have hy:k < y.xs.length:=by omega
      have e:x.xs[k].xs = y.xs[k].xs:=by
        have:=congrArg (fun l:List (List Int)=>l[k]?) hr
        simpa [a_r,List.getElem?_eq_getElem hlt,List.getElem?_eq_getElem hy] using this
      rw [if_pos (by simp [a_d];omega),a_I,a_I,List.getElem?_eq_getElem hlt,List.getElem?_eq_getElem hy,Option.bind_some,Option.bind_some,if_neg (by simp [e]),a_o (by omega),Option.bind_some,
        show ((k:Int) + 1) = ((k + 1:Nat):Int) by simp,p13_l1_eqD n x y hr hL m (k + 1) (by omega) (by omega)]
    · rw [if_neg (by simp [a_d];omega)]
theorem p13_eqD (n:Nat) (x y:Sl (Sl Int)) (hr:a_r x.xs = a_r y.xs) (hL:x.xs.length < n) (hL':x.xs.length ≤ 1000000):p13 n x y = some true:=by
  have hl:x.xs.length = y.xs.length:=by have:=congrArg List.length hr;simpa [a_r] using this
  have e:p13_l1 n x y n 0 = some (.inl ()):=p13_l1_eqD n x y hr hL' n 0 (by omega) (by omega)
  unfold p13
  rw [if_neg (by simp [a_d,hl]),e,Option.bind_some]
  rfl
set_option maxRecDepth 1000000 in
theorem livesD:p8 20000 = some true:=by kernel_rfl
theorem byteL_set {xs:List Int} (h:byteL xs) (i:Nat) {y:Int} (hy:0 ≤ y ∧ y ≤ 255):byteL (xs.set i y):=fun z hz=>by
  rcases List.mem_or_eq_of_mem_set hz with hz | rfl
  · exact h z hz
  · exact hy
theorem idxI {α:Type} {xs:List α} {i:Int} (h0:0 ≤ i) (h:i < xs.length):∃ y,idx xs i = some y:=by
  obtain ⟨k,rfl⟩:=Int.eq_ofNat_of_zero_le h0
  exact ⟨_,(a_I xs k).trans (List.getElem?_eq_getElem (by omega))⟩
theorem p4_l1_ok (n:Nat) (x2:Sl (List Int)) (hF:∀ y ∈ x2.xs,y.length = 2 ∧ ∀ z ∈ y,0 ≤ z ∧ z ≤ 65535) (hL:x2.xs.length ≤ 6):∀ (m k:Nat) (acc:List Int),x2.xs.length < k + m → k ≤ x2.xs.length → byteL acc → acc.length ≤ 20000 → (acc.length = 0 ∨ 24 ≤ acc.length) →
    ∃ b,p4_l1 n x2 m k acc = some b ∧ byteL b ∧ b.length ≤ 20000:=by
  intro m
  induction m with
  | zero=>intro k acc h hk _ _ _;omega
  | succ m IH =>
    intro k acc h hk hb ha h24
    unfold p4_l1
    by_cases hlt:k < x2.xs.length
    · by_cases h0:acc.length = 0
      · refine ⟨acc,?_,hb,ha⟩
        rw [if_pos (decide_eq_true (show (k:Int) < a_d x2 by unfold a_d;omega)),Option.bind_some,b_g,if_neg (by rw [decide_eq_true_eq];omega)]
      · obtain ⟨hy,hz⟩:=hF _ (List.getElem_mem hlt)
        obtain ⟨u,v,huv⟩:∃ u v,x2.xs[k] = [u,v]:=by
          match hq:x2.xs[k],hy with
          | [u,v],_=>exact ⟨u,v,rfl⟩
        rw [huv] at hz
        have hu:=hz u (by simp)
        have hv:=hz v (by simp)
        have i0:idx x2.xs (k:Int) = some [u,v]:=by rw [a_I,List.getElem?_eq_getElem hlt,huv]
        have i1:idx [u,v] (0:Int) = some u:=rfl
        have i2:idx [u,v] (1:Int) = some v:=rfl
        have hp:0 < (acc.length:Int):=by omega
        have e1:b_D .i64 u (acc.length:Int) = some (u % (acc.length:Int)):=remS hu.1 hp (by omega)
        have e2:b_D .u16 u 3 = some (u % 3):=a_S hu.1 (by decide) (inR_u16.2 (by omega))
        have e3:b_D .i64 u 12 = some (u % 12):=remS hu.1 (by decide) (by omega)
        have e4:quoI .u16 u 3 = some (u / 3):=quoI_ok hu.1 (by decide) (inR_u16.2 (by omega))
        have hM:0 < (if (40:Int) < (acc.length:Int) then 40 else (acc.length:Int)) ∧ (if (40:Int) < (acc.length:Int) then 40 else (acc.length:Int)) ≤ (acc.length:Int):=by split <;> omega
        have hq1:=Int.emod_nonneg u (by omega:(acc.length:Int) ≠ 0)
        have hq2:=Int.emod_lt_of_pos u hp
        have hj:∃ j:Int,(0 ≤ j ∧ j < acc.length) ∧ (if (u % 3 == 0) then ((idx x2.xs (k:Int)).bind fun y_63=>(idx y_63 0).bind fun y_67=>(b_D .i64 y_67 12).bind fun x_70=>some x_70) else some (u % (acc.length:Int))) = some j:=by
          by_cases hc:u % 3 == 0
          · exact ⟨u % 12,by omega,by rw [if_pos hc,i0,Option.bind_some,i1,Option.bind_some,e3,Option.bind_some]⟩
          · exact ⟨_,⟨hq1,hq2⟩,by rw [if_neg hc]⟩
        obtain ⟨j1,hj1,ej1⟩:=hj
        have e5:b_D .i64 (u / 3) (if (40:Int) < (acc.length:Int) then 40 else (acc.length:Int)) = some ((u / 3) % (if (40:Int) < (acc.length:Int) then 40 else (acc.length:Int))):=remS (by omega) hM.1 (by omega)
        have hr1:=Int.emod_nonneg (u / 3) (by omega:(if (40:Int) < (acc.length:Int) then 40 else (acc.length:Int)) ≠ 0)
        have hr2:=Int.emod_lt_of_pos (u / 3) hM.1
        have e6:ckI .i64 ((acc.length:Int) - 1) = some ((acc.length:Int) - 1):=ckS (by omega) (by omega)
        have e7:ckI .i64 ((acc.length:Int) - 1 - (u / 3) % (if (40:Int) < (acc.length:Int) then 40 else (acc.length:Int))) = some ((acc.length:Int) - 1 - (u / 3) % (if (40:Int) < (acc.length:Int) then 40 else (acc.length:Int))):=ckS (by omega) (by omega)
        obtain ⟨j2,hj2,ej2⟩:∃ j:Int,(0 ≤ j ∧ j < acc.length) ∧ (if (u % 3 == 1) then ((ckI .i64 ((acc.length:Int) - 1)).bind fun x_83=>(idx x2.xs (k:Int)).bind fun y_84=>(idx y_84 0).bind fun y_88=>(quoI .u16 y_88 3).bind fun x_91=>(b_D .i64 x_91 (if 40 < (acc.length:Int) then 40 else (acc.length:Int))).bind fun x_93=>(ckI .i64 (x_83 - x_93)).bind fun x_94=>some x_94) else some j1) = some j:=by
          by_cases hc:u % 3 == 1
          · exact ⟨(acc.length:Int) - 1 - (u / 3) % (if (40:Int) < (acc.length:Int) then 40 else (acc.length:Int)),by omega,by rw [if_pos hc,e6,Option.bind_some,i0,Option.bind_some,i1,Option.bind_some,e4,Option.bind_some,e5,Option.bind_some,e7,Option.bind_some]⟩
          · exact ⟨j1,hj1,by rw [if_neg hc]⟩
        obtain ⟨z,ez⟩:=idxI hj2.1 hj2.2
        rw [if_pos (decide_eq_true (show (k:Int) < a_d x2 by unfold a_d;omega)),Option.bind_some,b_g,if_pos (by rw [decide_eq_true_eq];omega),i0]
        rw [i0] at ej1 ej2
        rw [Option.bind_some,i1,Option.bind_some,e1,Option.bind_some,Option.bind_some,i1,Option.bind_some,e2,Option.bind_some,ej1,Option.bind_some,Option.bind_some,i1,Option.bind_some,e2,Option.bind_some,ej2,Option.bind_some,Option.bind_some,i2,Option.bind_some]
        rw [ez,Option.bind_some,ckS (by omega) (by omega),Option.bind_some,show ((k:Int) + 1) = ((k + 1:Nat):Int) by omega]
        exact IH (k + 1) _ (by omega) (by omega) (byteL_set hb _ (inR_u8.1 (a_Q _ _))) (by rw [List.length_set];exact ha) (by rw [List.length_set];exact h24)
    · refine ⟨acc,?_,hb,ha⟩
      rw [if_neg (by rw [decide_eq_true_eq];unfold a_d;omega),Option.bind_some,if_neg (by decide)]
theorem p4_one (n:Nat) (hn:20000 ≤ n) {xs:List Int} {c:Option Nat} (hb:byteL xs) {α:Type} (g:Option α) (f:Option α) :
    ((p15 n ⟨xs,c⟩).bind fun t_139=>(p12 n ⟨xs,c⟩).bind fun t_146=>(if (t_139.2 != t_146.2) = false then (p13 n t_146.1.2 (⟨t_139.1.xs,t_139.1.cap⟩:Sl (Sl (Int)))).bind fun t_163=>some (!t_163) else some true).bind fun q_159=>(if q_159 = false then (if (t_139.2 != 0) = true then some (t_146.1.1 != 0) else some false).bind fun q_170=>some q_170 else some true).bind fun q_168=>(if q_168 = false then (if (t_139.2 == 0) = true then (p14 n ⟨xs,c⟩ 6).bind fun t_180=>some (t_146.1.1 != t_180) else some false).bind fun q_176=>some q_176 else some true).bind fun q_174=>if q_174 then f else g) = g:=by
  obtain ⟨W,G,e,h1,h2,h3,h4,h5,h6⟩:=dec_same (n:=n) (c:=c) hn hb
  rw [h1,Option.bind_some,h2,Option.bind_some]
  have e13:p13 n G.2 (⟨W.xs,W.cap⟩:Sl (Sl Int)) = some true:=p13_eqD n _ _ h3 (by omega) (by omega)
  rw [if_pos (by simp),e13,Option.bind_some,Option.bind_some,if_pos (by rfl)]
  by_cases he:e = 0
  · obtain ⟨g1,g2,g3⟩:=h5 he
    have e14:p14 n ⟨xs,c⟩ ((6:Nat):Int) = some (rd xs 6):=p14_rd hb (by omega) (by omega)
    rw [if_neg (by simp [he]),Option.bind_some,Option.bind_some,if_pos rfl,if_pos (by simp [he])]
    have e14':p14 n ⟨xs,c⟩ 6 = some (rd xs 6):=e14
    rw [e14',Option.bind_some,Option.bind_some,Option.bind_some,if_neg (by simp [g3])]
  · rw [if_pos (by simpa using he),Option.bind_some,Option.bind_some,h4 he,if_pos (by rfl),if_neg (by simpa using he),Option.bind_some,Option.bind_some,if_neg (by decide)]
theorem p4_l2_ok (n:Nat) (hn:20000 ≤ n) (x0:Sl Int) (h0:byteL x0.xs) (b:Sl Int) (hb:byteL b.xs):p4_l2 n x0 n 0 b = some (.inl ()):=by
  obtain ⟨m,rfl⟩:∃ m,n = m + 3:=⟨n - 3,by omega⟩
  have s0:∀ k,p4_l2 (m + 3) x0 (k + 1) 0 b = p4_l2 (m + 3) x0 k 1 b:=fun k=>by
    rw [p4_l2,if_pos (by decide),show idx (⟨[x0,b],some 2⟩:Sl (Sl Int)).xs 0 = some x0 from rfl,Option.bind_some,show ckI .i64 ((0:Int) + 1) = some 1 from rfl]
    exact p4_one (m + 3) hn (xs:=x0.xs) (c:=x0.cap) h0 _ _
  have s1:∀ k,p4_l2 (m + 3) x0 (k + 1) 1 b = p4_l2 (m + 3) x0 k 2 b:=fun k=>by
    rw [p4_l2,if_pos (by decide),show idx (⟨[x0,b],some 2⟩:Sl (Sl Int)).xs 1 = some b from rfl,Option.bind_some,show ckI .i64 ((1:Int) + 1) = some 2 from rfl]
    exact p4_one (m + 3) hn (xs:=b.xs) (c:=b.cap) hb _ _
  rw [s0 (m + 2),s1 (m + 1),p4_l2,if_neg (by decide)]
theorem byteL_app {a b:List Int} (ha:byteL a) (hb:byteL b):byteL (a ++ b):=fun y hy=>by
  rcases List.mem_append.1 hy with h | h
  · exact ha y h
  · exact hb y h
theorem byteL_two {x:Int} (h:0 ≤ x ∧ x ≤ 65535):byteL (d_w x):=fun y hy=>by
  simp only [d_w,List.mem_cons,List.not_mem_nil,or_false] at hy
  rcases hy with rfl | rfl <;> omega
theorem byteL_lit {l:List Int} (h:l.all (fun y=>decide (0 ≤ y) && decide (y ≤ 255)) = true):byteL l:=fun y hy=>by
  have:=List.all_eq_true.1 h y hy
  simpa using this
theorem byteL_body:∀ {fs:List (List Int)},(∀ f ∈ fs,byteL f) → byteL (body fs)
  | [],_=>fun y hy=>by cases hy
  | f :: fs,h=>byteL_app (h f (by simp)) (byteL_app (fun y hy=>by rw [List.eq_of_mem_replicate hy];omega) (byteL_body fun g hg=>h g (by simp [hg])))
theorem byteL_ents:∀ {fs:List (List Int)} {a:Nat},okF fs → a + (body fs).length ≤ 20000 → byteL (d_K a fs)
  | [],_,_,_=>fun y hy=>by cases hy
  | f :: fs,a,ho,h=>by
    obtain ⟨hf,ho⟩:=okF_cons.1 ho
    rw [a_D] at h
    exact byteL_app (byteL_two (by omega)) (byteL_app (byteL_two (by omega)) (byteL_ents ho (by omega)))
theorem encB_byte {fs:List (List Int)} (hf:∀ f ∈ fs,byteL f) (ho:okF fs) (ht:a_J fs ≤ 16384):byteL (b_m 0 fs):=by
  have h1:a_J fs = 24 + 4 * fs.length + (body fs).length:=rfl
  unfold b_m
  exact byteL_app (byteL_lit rfl) (byteL_app (byteL_two (by omega)) (byteL_app (byteL_two (by omega)) (byteL_app (byteL_two (by omega)) (byteL_app (byteL_two (by omega)) (byteL_app (byteL_body hf) (byteL_app (byteL_lit rfl) (byteL_app (byteL_two (by omega)) (byteL_app (byteL_two (by omega)) (byteL_app (byteL_ents ho (by omega)) (byteL_lit rfl))))))))))
theorem p4_law {x0:Sl Int} {x1:Sl (Sl Int)} {x2:Sl (List Int)} (F0:d_1 (.sl (.int .u8)) x0) (F1:d_1 (.sl (.sl (.int .u8))) x1) (F2:d_1 (.sl (.arr 2 (.int .u16))) x2):p4 20000 x0 x1 x2 = some true:=by
  have b0:byteL x0.xs:=fun y hy=>inR_u8.1 (F0.2.2 y hy)
  have b1:∀ f ∈ a_r x1.xs,byteL f:=fun f hf=>by
    obtain ⟨s,hs,rfl⟩:=List.mem_map.1 hf
    exact fun y hy=>inR_u8.1 ((F1.2.2 s hs).2.2 y hy)
  unfold p4
  rw [orS,Option.bind_some,orS,Option.bind_some]
  by_cases hq:(decide (a_d x0 > 600) || decide (a_d x1 > 20) || decide (a_d x2 > 6)) = true
  · rw [if_pos hq,livesD,Option.bind_some]
  · rw [if_neg hq]
    simp only [Bool.or_eq_true,decide_eq_true_eq,not_or] at hq
    obtain ⟨⟨q0,q1⟩,q2⟩:=hq
    unfold a_d at q0 q1 q2
    have hl:(a_r x1.xs).length = x1.xs.length:=by simp [a_r]
    rw [p11_eq 20000 0 x1 (by omega) (by omega) (by omega) (by omega),Option.bind_some]
    have key:∀ b:List Int,byteL b → b.length ≤ 20000 → (b.length = 0 ∨ 24 ≤ b.length) → ((p4_l1 20000 x2 20000 0 b).bind fun (y_35:(List (Int)))=>(p4_l2 20000 x0 20000 0 (⟨y_35,some y_35.length⟩:Sl (Int))).bind fun (y_123:(Unit) ⊕ ((Bool)))=>lrK y_123 some fun (s_124:Unit)=>(p8 20000).bind fun t_569=>some t_569) = some true:=by
      intro b hb hlen h24
      obtain ⟨b',e1,hb',_⟩:=p4_l1_ok 20000 x2 (fun y hy=>⟨(F2.2.2 y hy).1,fun z hz=>inR_u16.1 ((F2.2.2 y hy).2 z hz)⟩) (by omega) 20000 0 b (by omega) (by omega) hb hlen h24
      have e1':p4_l1 20000 x2 20000 0 b = some b':=e1
      rw [e1',Option.bind_some,p4_l2_ok 20000 (by omega) x0 b0 _ hb',Option.bind_some,lrK_inlD,livesD,Option.bind_some]
    by_cases hr:(a_K (a_r x1.xs)).2 = 0
    · have hok:okF (a_r x1.xs) ∧ a_J (a_r x1.xs) ≤ 16384:=by
        unfold a_K at hr
        split at hr
        · rename_i h1
          split at hr
          · cases hr
          · exact ⟨h1,by omega⟩
        · cases hr
      have hle:(b_m 0 (a_r x1.xs)).length = a_J (a_r x1.xs):=b_O _ _
      rw [if_pos hr,if_neg (by simp),Option.bind_some]
      exact key _ (encB_byte b1 hok.1 hok.2) (by show (b_m 0 (a_r x1.xs)).length ≤ 20000;omega) (.inr (by show 24 ≤ (b_m 0 (a_r x1.xs)).length;unfold a_J at hle;omega))
    · rw [if_neg hr,if_pos (by simpa using hr),Option.bind_some]
      exact key [] (fun y hy=>by cases hy) (by simp) (.inl rfl)
end Go.Proofs.Ytlgalcekkffhnaa
