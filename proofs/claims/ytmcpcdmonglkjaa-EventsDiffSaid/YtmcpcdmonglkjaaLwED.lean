/- EventsDiff in plain words: every two trees. -/
import Derived.Test.YtmcpcdmonglkjaaEV99
import Derived.Test.YtmcpcdmonglkjaaLB2
set_option linter.unusedVariables false
set_option linter.unusedSimpArgs false
namespace Go.Proofs.Ytmcpcdmonglkjaa
open Go.RowKit
theorem split_facts {A B:List N} (hA:V A):(∀ x,x ∈ (a_p B A [] []).1 ∨ x ∈ (a_p B A [] []).2 ↔ x ∈ A) ∧ (a_p B A [] []).1.Sublist A ∧ (a_p B A [] []).2.Sublist A ∧ (∀ y ∈ (a_p B A [] []).2,∀ x ∈ (a_p B A [] []).1,y.1 ≠ x.1) ∧ (∀ y ∈ (a_p B A [] []).2,b_y y B = true):=by
  obtain ⟨a1,a2,a3,a4,a5⟩:=d_d B A [] [] (by simpa using hA.ord) (by simpa using hA.ord) (fun y hy=>by cases hy) (fun x hx=>by cases hx) (fun x hx=>by cases hx)
  rw [List.nil_append] at a2 a3
  refine ⟨fun x=>?_,a2,a3,fun y hy x hx e=>?_,fun y hy=>(a4 y hy).1⟩
  · have:=a1 x
    simpa using this
  · have hxy:y = x:=hA.inj (a3.subset hy) (a2.subset hx) e
    subst hxy
    have h1:=a4 y hy
    rcases a5 y hx with h | ⟨z,hz,h⟩
    · rw [h1.1] at h;cases h
    · rw [h1.2 z hz] at h;cases h
theorem gp_all (A B:List N):gp B A A.length = (a_p B A [] []).1:=by unfold gp;rw [List.take_length]
theorem old_of {A B:List N} (hA:V A) (p:List Int):(match fnd A p with | some k=>(if Kp B A k = true then (A[k]?).map (·.2.1) else none) | none=>none) = c_b (a_p B A [] []).2 p:=by
  obtain ⟨a1,a2,a3,a4,a5⟩:=split_facts (B:=B) hA
  cases hf:fnd A p with
  | none =>
    cases ho:c_b (a_p B A [] []).2 p with
    | none=>rfl
    | some w =>
      obtain ⟨l,hl,e,_⟩:=b_z ho
      exact absurd e (c_l hf l (a3.subset hl))
  | some k =>
    obtain ⟨hk,e⟩:=b_x hf
    simp only
    by_cases hK:Kp B A k = true
    · rw [if_pos hK,List.getElem?_eq_getElem hk]
      have hnG:A[k] ∉ (a_p B A [] []).1:=by
        rw [← gp_all,e_i (Nat.le_refl _)]
        rintro ⟨j,hj,_,e2,hKj⟩
        have:j = k:=c_Z hA.ord hj hk (by rw [e2])
        subst this
        rw [hK] at hKj;cases hKj
      have hL:A[k] ∈ (a_p B A [] []).2:=((a1 _).2 (List.getElem_mem hk)).resolve_left hnG
      cases ho:c_b (a_p B A [] []).2 p with
      | none=>exact absurd e (c_m ho _ hL)
      | some w =>
        obtain ⟨l,hl,e1,e2⟩:=b_z ho
        have:l = A[k]:=hA.inj (a3.subset hl) (List.getElem_mem hk) (by rw [e1,e])
        rw [← e2,this];rfl
    · rw [if_neg hK]
      have hG:A[k] ∈ (a_p B A [] []).1:=by
        rw [← gp_all,e_i (Nat.le_refl _)]
        exact ⟨k,hk,hk,rfl,by simpa using hK⟩
      cases ho:c_b (a_p B A [] []).2 p with
      | none=>rfl
      | some w =>
        obtain ⟨l,hl,e1,_⟩:=b_z ho
        exact absurd (by rw [e1,e]) (a4 l hl _ hG)
theorem p7_l1_eq {n:Nat} (hn:1000 < n) {A B:Sl Nd} (hA:V (A.xs.map nd)) (hB:V (B.xs.map nd)) (hAl:A.xs.length ≤ 40):∀ (m i c:Nat) (L:List Bool),A.xs.length < i + m → i ≤ A.xs.length → L.length = 40 → (∀ q,q < i → L[q]? = some (Kp (B.xs.map nd) (A.xs.map nd) q)) → c = (gp (B.xs.map nd) (A.xs.map nd) i).length → c ≤ i →
    ∃ R:List Bool,p7_l1 n A B m i c L = some (((gp (B.xs.map nd) (A.xs.map nd) A.xs.length).length:Int),R) ∧ R.length = 40 ∧ ∀ q,q < A.xs.length → R[q]? = some (Kp (B.xs.map nd) (A.xs.map nd) q):=by
  intro m
  induction m with
  | zero=>intro i c L h hi;omega
  | succ m IH =>
    intro i c L him hi hL hq hc hci
    rw [p7_l1]
    by_cases hlt:i < A.xs.length
    · have s1:=(hA.bd hn).short _ (List.getElem_mem hlt)
      have hil:i < L.length:=by omega
      have hiA:i < (A.xs.map nd).length:=by simpa using hlt
      have hAi:(A.xs.map nd)[i] = nd A.xs[i]:=List.getElem_map _
      rw [if_pos (decide_eq_true (show (i:Int) < a_i A by unfold a_i;omega)),ixN hlt,Option.bind_some,p26_fnd (hB.bd hn) _ (by omega),Option.bind_some]
      have hset:((if (decide (ixO (fnd (B.xs.map nd) A.xs[i].1.xs) ≥ 0)) = true then ((some A.xs[i]).bind fun y_67=>(if (y_67.2.1 == 1) = true then ((idx L (i:Int)).bind fun y_74=>some (L.set (i:Int).toNat true)) else ((some A.xs[i]).bind fun y_84=>(idx B.xs (ixO (fnd (B.xs.map nd) A.xs[i].1.xs))).bind fun y_90=>(if (y_84.2.1 == y_90.2.1) = true then ((some A.xs[i]).bind fun y_97=>(idx B.xs (ixO (fnd (B.xs.map nd) A.xs[i].1.xs))).bind fun y_103=>(idx L (i:Int)).bind fun y_109=>some (L.set (i:Int).toNat (y_97.2.2 == y_103.2.2))) else ((idx L (i:Int)).bind fun y_167=>some (L.set (i:Int).toNat false))))))
          else ((idx L (i:Int)).bind fun y_193=>some (L.set (i:Int).toNat false)))) = some (L.set i (b_y (nd A.xs[i]) (B.xs.map nd))):=by
        rw [d_Q hB,ixN hil,d_O]
        cases hf:fnd (B.xs.map nd) (nd A.xs[i]).1 with
        | none =>
          have hf':fnd (B.xs.map nd) A.xs[i].1.xs = none:=hf
          rw [hf'];rfl
        | some k =>
          have hf':fnd (B.xs.map nd) A.xs[i].1.xs = some k:=hf
          obtain ⟨hk,e⟩:=b_x hf
          have hk2:k < B.xs.length:=by simpa using hk
          have hix:idx B.xs (ixO (some k)) = some B.xs[k]:=ixN hk2
          rw [hf',hix]
          simp only [Option.isSome_some,if_true,List.getElem?_eq_getElem hk,List.getElem_map]
          rw [Option.bind_some]
          by_cases h1:A.xs[i].2.1 = 1
          · rw [if_pos (by simp [h1]),show decide ((nd A.xs[i]).2.1 = 1) = true from decide_eq_true h1]
            rfl
          · rw [if_neg (by simp [h1]),Option.bind_some,Option.bind_some,show decide ((nd A.xs[i]).2.1 = 1) = false from decide_eq_false h1,Bool.false_or]
            by_cases h2:A.xs[i].2.1 = B.xs[k].2.1
            · rw [if_pos (by simp [h2]),show decide ((nd A.xs[i]).2.1 = (nd B.xs[k]).2.1) = true from decide_eq_true h2,Bool.true_and,Option.bind_some,Option.bind_some,Option.bind_some,eqI]
              rfl
            · rw [if_neg (by simp [h2]),show decide ((nd A.xs[i]).2.1 = (nd B.xs[k]).2.1) = false from decide_eq_false h2,Bool.false_and]
              rfl
      rw [hset,Option.bind_some]
      have hl2:=p7_l2_eq hn (B:=B.xs.map nd) hA hAl hlt n 0 (L.set i (b_y (nd A.xs[i]) (B.xs.map nd))) _ (by omega) (by omega) (by rw [List.length_set];exact hL) (setD hil _) (fun q h=>by rw [List.getElem?_set,if_neg (by omega)];exact hq q h)
      have hKi:(b_y (nd A.xs[i]) (B.xs.map nd) && af (fun q=>Kp (B.xs.map nd) (A.xs.map nd) q || !(match (A.xs.map nd)[q]? with | some a=>thr (nd A.xs[i]).1 a.1 | none=>false)) (i - 0) 0) = Kp (B.xs.map nd) (A.xs.map nd) i:=by
        rw [Kp_eq hiA,hAi];rfl
      have hl2':p7_l2 n A (i:Int) n 0 (L.set i (b_y (nd A.xs[i]) (B.xs.map nd))) = some (L.set i (Kp (B.xs.map nd) (A.xs.map nd) i)):=by
        rw [List.set_set] at hl2;rw [← hKi];exact hl2
      have hget:idx (L.set i (Kp (B.xs.map nd) (A.xs.map nd) i)) (i:Int) = some (Kp (B.xs.map nd) (A.xs.map nd) i):=by rw [b_W];exact setD hil _
      rw [hl2',Option.bind_some,hget,Option.bind_some]
      have hcnt:(if (!Kp (B.xs.map nd) (A.xs.map nd) i) = true then ((ckI .i64 ((c:Int) + 1)).bind fun x_295=>some x_295) else some (c:Int)) = some (((gp (B.xs.map nd) (A.xs.map nd) (i + 1)).length:Nat):Int):=by
        rw [d_5 hiA]
        cases Kp (B.xs.map nd) (A.xs.map nd) i with
        | true=>rw [if_neg (by decide),if_pos rfl,hc]
        | false=>rw [if_pos (by decide),if_neg (by decide),ckS (by omega) (by omega),Option.bind_some,hc,List.length_append];rfl
      rw [hcnt,Option.bind_some,ckS (by omega) (by omega),Option.bind_some,b_k]
      refine IH (i + 1) _ _ (by omega) (by omega) (by rw [List.length_set];exact hL) (fun q hq1=>?_) rfl ?_
      · by_cases h:q = i
        · subst h;exact setD hil _
        · rw [List.getElem?_set,if_neg (by omega)];exact hq q (by omega)
      · rw [d_5 hiA]
        split
        · omega
        · rw [List.length_append];simp only [List.length_cons,List.length_nil];omega
    · rw [if_neg (by rw [decide_eq_true_eq];unfold a_i;omega)]
      have:i = A.xs.length:=by omega
      subst this
      exact ⟨L,by rw [hc],hL,hq⟩
theorem p7_l3_eq {n:Nat} (hn:1000 < n) {A B:Sl Nd} (hA:V (A.xs.map nd)) (hB:V (B.xs.map nd)) (hAl:A.xs.length ≤ 40) (hBl:B.xs.length ≤ 40) (y:Int × List Bool) (hy:∀ q,q < A.xs.length → y.2[q]? = some (Kp (B.xs.map nd) (A.xs.map nd) q)):∀ (m i c:Nat),B.xs.length < i + m → i ≤ B.xs.length → c ≤ 2 * i →
    p7_l3 n A B y m i c = some ((c + (c_n (a_p (B.xs.map nd) (A.xs.map nd) [] []).2 ((B.xs.map nd).drop i)).length:Nat):Int):=by
  obtain ⟨a1,a2,a3,a4,a5⟩:=split_facts (B:=B.xs.map nd) hA
  intro m
  induction m with
  | zero=>intro i c h hi;omega
  | succ m IH =>
    intro i c him hi hc
    rw [p7_l3]
    by_cases hlt:i < B.xs.length
    · have s1:=(hB.bd hn).short _ (List.getElem_mem hlt)
      have hd:(B.xs.map nd).drop i = nd B.xs[i] :: (B.xs.map nd).drop (i + 1):=by rw [List.drop_eq_getElem_cons (by simpa using hlt),List.getElem_map]
      rw [if_pos (decide_eq_true (show (i:Int) < a_i B by unfold a_i;omega)),ixN hlt,Option.bind_some,p26_fnd (hA.bd hn) _ (by omega),Option.bind_some,hd]
      have ho:=old_of (B:=B.xs.map nd) hA (nd B.xs[i]).1
      have key:∃ (q:Bool) (o:Int),(if (decide (ixO (fnd (A.xs.map nd) B.xs[i].1.xs) ≥ 0)) = true then (idx y.2 (ixO (fnd (A.xs.map nd) B.xs[i].1.xs))).bind fun y_325=>some y_325 else some false) = some q ∧ (c_b (a_p (B.xs.map nd) (A.xs.map nd) [] []).2 (nd B.xs[i]).1).isSome = q ∧ (q = true → ∃ a:Nd,idx A.xs (ixO (fnd (A.xs.map nd) B.xs[i].1.xs)) = some a ∧ c_b (a_p (B.xs.map nd) (A.xs.map nd) [] []).2 (nd B.xs[i]).1 = some a.2.1 ∧ (a.2.1 = 1 ∨ a.2.1 = B.xs[i].2.1)):=by
        rw [d_O]
        cases hf:fnd (A.xs.map nd) (nd B.xs[i]).1 with
        | none =>
          have hf':fnd (A.xs.map nd) B.xs[i].1.xs = none:=hf
          rw [hf] at ho
          rw [hf']
          exact ⟨false,0,rfl,by rw [← ho];rfl,fun h=>by cases h⟩
        | some k =>
          have hf':fnd (A.xs.map nd) B.xs[i].1.xs = some k:=hf
          obtain ⟨hk,e⟩:=b_x hf
          have hk2:k < A.xs.length:=by simpa using hk
          rw [hf] at ho
          simp only at ho
          have hyk:idx y.2 (ixO (some k)) = some (Kp (B.xs.map nd) (A.xs.map nd) k):=by show idx y.2 (k:Int) = _;rw [b_W];exact hy k hk2
          rw [hf',hyk]
          refine ⟨Kp (B.xs.map nd) (A.xs.map nd) k,0,rfl,?_,fun hK=>?_⟩
          · rw [← ho]
            cases Kp (B.xs.map nd) (A.xs.map nd) k with
            | true=>rw [if_pos rfl,List.getElem?_eq_getElem hk];rfl
            | false=>rfl
          · rw [if_pos hK,List.getElem?_eq_getElem hk,List.getElem_map,Option.map_some] at ho
            refine ⟨A.xs[k],ixN hk2,ho.symm,?_⟩
            obtain ⟨l,hl,e1,e2⟩:=b_z ho.symm
            obtain ⟨z,hz,f1,f2⟩:=stays_iff.1 (a5 l hl)
            have:z = nd B.xs[i]:=hB.inj hz (List.mem_map_of_mem (List.getElem_mem hlt)) (by rw [f1,e1])
            subst this
            rcases f2 with f2 | ⟨f2,_⟩
            · exact .inl (by have:(nd A.xs[k]).2.1 = 1:=by rw [← e2];exact f2
                             exact this)
            · exact .inr (by have:(nd A.xs[k]).2.1 = (nd B.xs[i]).2.1:=by rw [← e2];exact f2
                             exact this)
      obtain ⟨q,_,eq,hq,hqt⟩:=key
      rw [eq,Option.bind_some]
      have hn1:(b_P (a_p (B.xs.map nd) (A.xs.map nd) [] []).2 (nd B.xs[i])).length = (if q = true then 0 else 1) + (if B.xs[i].2.1 = (c_b (a_p (B.xs.map nd) (A.xs.map nd) [] []).2 (nd B.xs[i]).1).getD 1 then 0 else 1):=by
        unfold b_P
        rw [List.length_append,hq]
        congr 1
        · cases q <;> rfl
        · by_cases h:(nd B.xs[i]).2.1 = (c_b (a_p (B.xs.map nd) (A.xs.map nd) [] []).2 (nd B.xs[i]).1).getD 1
          · rw [if_pos h];exact (if_pos h).symm
          · rw [if_neg h];exact (if_neg h).symm
      have hc1:(if (!q) = true then ((ckI .i64 ((c:Int) + 1)).bind fun x_331=>some x_331) else some (c:Int)) = some ((c + (if q = true then 0 else 1):Nat):Int):=by
        cases q with
        | true=>rfl
        | false=>rw [if_pos (by decide),ckS (by omega) (by omega),Option.bind_some];rfl
      have hc2:(if (B.xs[i].2.1 != 1) = true then (if (!q) = false then (idx A.xs (ixO (fnd (A.xs.map nd) B.xs[i].1.xs))).bind fun y_341=>some (y_341.2.1 == 1) else some true).bind fun q_340=>some q_340 else some false) = some (!decide (B.xs[i].2.1 = (c_b (a_p (B.xs.map nd) (A.xs.map nd) [] []).2 (nd B.xs[i]).1).getD 1)):=by
        cases q with
        | false =>
          have hno:c_b (a_p (B.xs.map nd) (A.xs.map nd) [] []).2 (nd B.xs[i]).1 = none:=by simpa using hq
          rw [hno,Option.getD_none]
          by_cases h:B.xs[i].2.1 = 1
          · rw [if_neg (by simp [h]),decide_eq_true h];rfl
          · rw [if_pos (by simpa using h),decide_eq_false h];rfl
        | true =>
          obtain ⟨a,ea,eo,hor⟩:=hqt rfl
          rw [ea,eo,Option.getD_some]
          by_cases h:B.xs[i].2.1 = 1
          · rw [if_neg (by simp [h])]
            have:a.2.1 = 1:=by rcases hor with h2 | h2 <;> omega
            rw [decide_eq_true (by omega)];rfl
          · rw [if_pos (by simpa using h),if_pos (by decide),Option.bind_some,Option.bind_some]
            by_cases h2:a.2.1 = 1
            · rw [decide_eq_false (by omega),show (a.2.1 == 1) = true by simp [h2]];rfl
            · have:a.2.1 = B.xs[i].2.1:=hor.resolve_left h2
              rw [decide_eq_true (by omega),show (a.2.1 == 1) = false by simp [h2]];rfl
      rw [hc1,Option.bind_some,Option.bind_some,hc2,Option.bind_some]
      have hc3:(if (!decide (B.xs[i].2.1 = (c_b (a_p (B.xs.map nd) (A.xs.map nd) [] []).2 (nd B.xs[i]).1).getD 1)) = true then ((ckI .i64 (((c + (if q = true then 0 else 1):Nat):Int) + 1)).bind fun x_350=>some x_350) else some ((c + (if q = true then 0 else 1):Nat):Int)) = some ((c + (b_P (a_p (B.xs.map nd) (A.xs.map nd) [] []).2 (nd B.xs[i])).length:Nat):Int):=by
        rw [hn1]
        by_cases h:B.xs[i].2.1 = (c_b (a_p (B.xs.map nd) (A.xs.map nd) [] []).2 (nd B.xs[i]).1).getD 1
        · rw [decide_eq_true h,if_neg (by decide),if_pos h];rfl
        · rw [decide_eq_false h,if_pos (by decide),if_neg h,ckS (by omega) (by split <;> omega),Option.bind_some]
          congr 1
      rw [hc3,Option.bind_some,ckS (by omega) (by omega),Option.bind_some,b_k]
      have hle:(b_P (a_p (B.xs.map nd) (A.xs.map nd) [] []).2 (nd B.xs[i])).length ≤ 2:=by rw [hn1];split <;> split <;> omega
      rw [IH (i + 1) _ (by omega) (by omega) (by omega),show ∀ b R,c_n (a_p (B.xs.map nd) (A.xs.map nd) [] []).2 (b :: R) = b_P (a_p (B.xs.map nd) (A.xs.map nd) [] []).2 b ++ c_n (a_p (B.xs.map nd) (A.xs.map nd) [] []).2 R from fun _ _=>rfl,List.length_append,Nat.add_assoc]
    · rw [if_neg (by rw [decide_eq_true_eq];unfold a_i;omega),List.drop_eq_nil_of_le (by simp;omega)]
      rfl
theorem p7_l4_eq {n:Nat} (hn:1000 < n) (f:Int) (l:List Ev2) (es:List E3) (hE:Evs f l es) (hl:es.length ≤ 100000) (c2:Option Nat) (e0:Int) (g:Nat) (K:List Bool) (hok:∀ e ∈ es,okE e)
    (H1:∀ c (h:c < es.length),(es[c].1 = 4 ↔ c < g)) (H2:∀ c (h:c < es.length),0 < c → c < g → bef es[c].2.1 es[c - 1].2.1 = true) (H3:∀ c (h:c < es.length),g < c → bef es[c].2.1 es[c - 1].2.1 = false) (Bf:List N) :
    ∀ (m c:Nat) (T:Sl Nd),es.length < c + m → c ≤ es.length → V (T.xs.map nd) → b_R (T.xs.map nd) (es.drop c) = some Bf → ∃ T':Sl Nd,p7_l4 n f (⟨l,c2⟩,e0) ((g:Int),K) m c T = some (.inl T') ∧ T'.xs.map nd = Bf ∧ V (T'.xs.map nd):=by
  have hll:l.length = es.length:=by rw [← hE.1,List.length_map]
  intro m
  induction m with
  | zero=>intro c T h hc;omega
  | succ m IH =>
    intro c T hcm hc hV hp
    rw [p7_l4]
    by_cases hlt:c < es.length
    · have hcl:c < l.length:=by omega
      have hec:e3 l[c] = es[c]:=by
        have:=congrArg (fun q:List E3=>q[c]?) hE.1
        simpa [List.getElem?_eq_getElem hcl,List.getElem?_eq_getElem hlt] using this
      have hfr:l[c].1 = f:=hE.2 _ (List.getElem_mem hcl)
      have hoke:=hok es[c] (List.getElem_mem hlt)
      have hw:l[c].2.1 = es[c].1:=congrArg Prod.fst hec
      have hpa:l[c].2.2.1.xs = es[c].2.1:=congrArg (fun q:E3=>q.2.1) hec
      have hpl:∀ (i:Nat) (h:i < es.length),es[i].2.1.length ≤ 6:=fun i h=>(plcd_iff.1 (hok es[i] (List.getElem_mem h)).2.1).1.2
      have hgd:((l[c].2.1 == 4) == decide ((c:Int) < (g:Int))) = true:=by
        rw [hw]
        have:=H1 c hlt
        by_cases h:c < g
        · rw [decide_eq_true (by omega),this.2 h];rfl
        · have h4:es[c].1 ≠ 4:=fun e=>h (this.1 e)
          rw [decide_eq_false (by omega),show (es[c].1 == 4) = false by simpa using h4];rfl
      have hok2:EvOk l[c]:=by
        have:okE (e3 l[c]):=by rw [hec];exact hoke
        exact this
      obtain ⟨W,hW,hOW,hOwn⟩:=p9_eq hn hV hok2
      have hd:es.drop c = es[c] :: es.drop (c + 1):=List.drop_eq_getElem_cons hlt
      rw [hd] at hp
      obtain ⟨hp0,hp1⟩:=e_s hp
      have hs:a_G (T.xs.map nd) l[c].2.1 l[c].2.2.1.xs l[c].2.2.2 = a_G (T.xs.map nd) es[c].1 es[c].2.1 es[c].2.2:=by rw [← hec];rfl
      rw [hs] at hW hOW
      rw [hp0] at hW
      have hVW:V (W.xs.map nd):=by rw [hOW.1];exact V.step hV hoke.1 hoke.2.1 hoke.2.2
      simp only
      rw [if_pos (decide_eq_true (show (c:Int) < a_i (⟨l,c2⟩:Sl Ev2) by unfold a_i;simp only;omega)),ixN hcl,Option.bind_some,if_pos (by simp [hfr]),Option.bind_some,hgd,Option.bind_some,if_neg (by decide)]
      have prev:∀ (h0:0 < c),(ckI .i64 ((c:Int) - 1)) = some ((c - 1:Nat):Int) ∧ (idx l ((c - 1:Nat):Int)) = some (l[c - 1]'(by omega)) ∧ p28 n l[c].2.2.1 (l[c - 1]'(by omega)).2.2.1 = some (bef es[c].2.1 (es[c - 1]'(by omega)).2.1):=by
        intro h0
        have hcl1:c - 1 < l.length:=by omega
        have hec1:e3 l[c - 1] = es[c - 1]:=by
          have:=congrArg (fun q:List E3=>q[c - 1]?) hE.1
          simpa [List.getElem?_eq_getElem hcl1,List.getElem?_eq_getElem (show c - 1 < es.length by omega)] using this
        have hp2:l[c - 1].2.2.1.xs = es[c - 1].2.1:=congrArg (fun q:E3=>q.2.1) hec1
        have h6:=hpl c hlt
        exact ⟨(ckS (by omega) (by omega)).trans (by congr 1;omega),ixN hcl1,by rw [p28_eq n _ _ (by rw [hpa];omega) (by rw [hpa];omega),hpa,hp2]⟩
      have q1:((if (decide ((c:Int) > 0)) = true then some (decide ((c:Int) < (g:Int))) else some false).bind fun q_387=>(if q_387 = true then (some l[c]).bind fun y_391=>(ckI .i64 ((c:Int) - 1)).bind fun x_397=>(idx l x_397).bind fun y_398=>(p28 n y_391.2.2.1 y_398.2.2.1).bind fun t_404=>some (!t_404) else some false)) = some false:=by
        by_cases h0:0 < c
        · obtain ⟨p1,p2,p3⟩:=prev h0
          rw [if_pos (decide_eq_true (by omega)),Option.bind_some]
          by_cases hg:c < g
          · rw [if_pos (decide_eq_true (by omega)),Option.bind_some,p1,Option.bind_some,p2,Option.bind_some,p3,Option.bind_some,H2 c hlt h0 hg];rfl
          · rw [if_neg (by rw [decide_eq_true_eq];omega)]
        · rw [if_neg (by rw [decide_eq_true_eq];omega),Option.bind_some,if_neg (by decide)]
      have q2:(if (decide ((c:Int) > (g:Int))) = true then (some l[c]).bind fun y_413=>(ckI .i64 ((c:Int) - 1)).bind fun x_419=>(idx l x_419).bind fun y_420=>(p28 n y_413.2.2.1 y_420.2.2.1).bind fun t_426=>some t_426 else some false) = some false:=by
        by_cases hg:g < c
        · obtain ⟨p1,p2,p3⟩:=prev (by omega)
          rw [if_pos (decide_eq_true (by omega)),Option.bind_some,p1,Option.bind_some,p2,Option.bind_some,p3,Option.bind_some,H3 c hlt hg]
        · rw [if_neg (by rw [decide_eq_true_eq];omega)]
      have q3:∀ {α:Type} (F:Bool → Option α),((if (decide ((c:Int) > 0)) = true then some (decide ((c:Int) < (g:Int))) else some false).bind fun q_387=>(if q_387 = true then (some l[c]).bind fun y_391=>(ckI .i64 ((c:Int) - 1)).bind fun x_397=>(idx l x_397).bind fun y_398=>(p28 n y_391.2.2.1 y_398.2.2.1).bind fun t_404=>some (!t_404) else some false).bind F) = F false:=by
        intro α F
        rw [← Option.bind_assoc,q1];rfl
      rw [q3,if_pos rfl,q2,Option.bind_some,Option.bind_some,if_neg (by decide),Option.bind_some,hW,Option.bind_some,if_neg (by simp),ckS (by omega) (by omega),Option.bind_some,b_k]
      refine IH (c + 1) W (by omega) (by omega) hVW ?_
      rw [hOW.1];exact hp1
    · rw [if_neg (by rw [decide_eq_true_eq];unfold a_i;simp only;omega)]
      rw [List.drop_eq_nil_of_le (by omega)] at hp
      exact ⟨T,rfl,Option.some.inj hp,hV⟩
theorem split_self {A:List N} (h:V A):a_p A A [] [] = ([],A):=by
  have key:∀ r l,(∀ y ∈ r,y ∈ A) → a_p A r [] l = ([],l ++ r):=by
    intro r
    induction r with
    | nil=>intro l _;simp [a_p]
    | cons n r IH =>
      intro l hr
      have hs:b_y n A = true:=stays_iff.2 ⟨n,hr n (by simp),rfl,.inr ⟨rfl,rfl⟩⟩
      rw [a_p,if_neg (by unfold e_g;rw [hs];simp),IH _ (fun y hy=>hr y (by simp [hy]))]
      simp
  simpa using key A [] fun y hy=>hy
theorem adds_self {A:List N} (h:V A):c_n A A = []:=by
  unfold c_n
  rw [List.flatMap_eq_nil_iff]
  intro b hb
  have ho:c_b A b.1 = some b.2.1:=by
    cases ho:c_b A b.1 with
    | none=>exact absurd rfl (c_m ho b hb)
    | some w =>
      obtain ⟨l,hl,e1,e2⟩:=b_z ho
      rw [← e2,h.inj hl hb e1]
  unfold b_P
  rw [ho]
  simp
set_option maxRecDepth 1000000 in
theorem livesE:p11 6000 = some true:=by kernel_rfl
theorem p7_law {x0 x1:Sl Ac} {x2:Int} (F0:Fine (.sl gt1) x0) (F1:Fine (.sl gt1) x1) (G2:InR .i64 x2):p7 6000 x0 x1 x2 = some true:=by
  have hn:1000 < 6000:=by omega
  have ok:∀ x:Ac,Fine gt1 x → AcOk x:=fun x h=>⟨inR_u8.1 h.1,inR_u8.1 h.2.1,inR_u8.1 h.2.2.1,inR_u8.1 h.2.2.2⟩
  obtain ⟨A,hA,hVA,hAl⟩:=p12_len hn (fun x hx=>ok x (F0.2.2 x hx))
  obtain ⟨B,hB,hVB,hBl⟩:=p12_len hn (fun x hx=>ok x (F1.2.2 x hx))
  obtain ⟨l,hl,hE⟩:=p25_eq (n:=6000) (by omega) x2 hVA hVB hAl hBl
  obtain ⟨l0,hl0,hE0⟩:=p25_eq (n:=6000) (by omega) x2 hVA hVA hAl hAl
  rw [split_self hVA,adds_self hVA] at hE0
  have hl00:l0 = []:=by
    have:=hE0.1
    simpa [d_R] using this
  subst hl00
  obtain ⟨R,e1,hRl,hR⟩:=p7_l1_eq hn hVA hVB hAl 6000 0 0 (List.replicate 40 false) (by omega) (by omega) (by simp) (fun q h=>by omega) (by simp [gp,a_p]) (by omega)
  have e1':p7_l1 6000 A B 6000 0 0 (List.replicate 40 false) = some (((gp (B.xs.map nd) (A.xs.map nd) A.xs.length).length:Int),R):=e1
  have hgl:(gp (B.xs.map nd) (A.xs.map nd) A.xs.length) = (a_p (B.xs.map nd) (A.xs.map nd) [] []).1:=by rw [← gp_all,List.length_map]
  rw [hgl] at e1'
  have e3:=p7_l3_eq hn hVA hVB hAl hBl ((((a_p (B.xs.map nd) (A.xs.map nd) [] []).1.length:Nat):Int),R) hR 6000 0 0 (by omega) (by omega) (by omega)
  have e3':p7_l3 6000 A B ((((a_p (B.xs.map nd) (A.xs.map nd) [] []).1.length:Nat):Int),R) 6000 0 0 = some (((0 + (c_n (a_p (B.xs.map nd) (A.xs.map nd) [] []).2 ((B.xs.map nd).drop 0)).length:Nat):Nat):Int):=e3
  rw [List.drop_zero,Nat.zero_add] at e3'
  obtain ⟨a1,a2,a3,a4,a5⟩:=split_facts (B:=B.xs.map nd) hVA
  obtain ⟨hplay,_⟩:=e_h hVA hVB (by simpa using hAl) (by simpa using hBl)
  have hdl:∀ G:List N,(d_R G).length = G.length:=fun G=>by unfold d_R;simp
  have hGl:(a_p (B.xs.map nd) (A.xs.map nd) [] []).1.length ≤ 40:=by have:=a2.length_le;simp only [List.length_map] at this;omega
  have hal:(c_n (a_p (B.xs.map nd) (A.xs.map nd) [] []).2 (B.xs.map nd)).length ≤ 80:=by
    unfold c_n
    rw [List.length_flatMap]
    have:∀ q:List N,(q.map fun b=>(b_P (a_p (B.xs.map nd) (A.xs.map nd) [] []).2 b).length).sum ≤ 2 * q.length:=by
      intro q
      induction q with
      | nil=>simp
      | cons b q ih =>
        have:(b_P (a_p (B.xs.map nd) (A.xs.map nd) [] []).2 b).length ≤ 2:=by
          unfold b_P
          rw [List.length_append]
          split <;> split <;> simp
        simp only [List.map_cons,List.sum_cons,List.length_cons]
        omega
    have:=this (B.xs.map nd)
    simp only [List.length_map] at this
    omega
  have hlen:l.length = (a_p (B.xs.map nd) (A.xs.map nd) [] []).1.length + (c_n (a_p (B.xs.map nd) (A.xs.map nd) [] []).2 (B.xs.map nd)).length:=by
    have:=congrArg List.length hE.1
    rw [List.length_map,List.length_append,hdl] at this
    exact this
  have hG:(a_p (B.xs.map nd) (A.xs.map nd) [] []).1.Pairwise c_Y:=hVA.ord.sublist a2
  have hmem1:∀ e ∈ d_R (a_p (B.xs.map nd) (A.xs.map nd) [] []).1,∃ g ∈ A.xs.map nd,e = (4,g.1,0):=by
    intro e he
    unfold d_R at he
    obtain ⟨g,hg,rfl⟩:=List.mem_map.1 he
    exact ⟨g,a2.subset (List.mem_reverse.1 hg),rfl⟩
  have hadd:∀ b ∈ B.xs.map nd,∀ e ∈ b_P (a_p (B.xs.map nd) (A.xs.map nd) [] []).2 b,e.2.1 = b.1 ∧ (e = (1,b.1,0) ∨ e = (b.2.1,b.1,b.2.2)):=by
    intro b hb e he
    unfold b_P at he
    rcases List.mem_append.1 he with he | he
    · split at he
      · cases he
      · rw [List.mem_singleton.1 he];exact ⟨rfl,.inl rfl⟩
    · split at he
      · cases he
      · rw [List.mem_singleton.1 he];exact ⟨rfl,.inr rfl⟩
  have hmem2:∀ e ∈ c_n (a_p (B.xs.map nd) (A.xs.map nd) [] []).2 (B.xs.map nd),∃ b ∈ B.xs.map nd,e = (1,b.1,0) ∨ e = (b.2.1,b.1,b.2.2):=by
    intro e he
    unfold c_n at he
    obtain ⟨b,hb,h⟩:=List.mem_flatMap.1 he
    exact ⟨b,hb,(hadd b hb e h).2⟩
  have hok:∀ e ∈ d_R (a_p (B.xs.map nd) (A.xs.map nd) [] []).1 ++ c_n (a_p (B.xs.map nd) (A.xs.map nd) [] []).2 (B.xs.map nd),okE e:=by
    intro e he
    rcases List.mem_append.1 he with h | h
    · obtain ⟨g,hg,rfl⟩:=hmem1 e h
      exact ⟨by show (1:Int) ≤ 4 ∧ (4:Int) ≤ 4;decide,(hVA.nodes g hg).1,by simp [adr]⟩
    · obtain ⟨b,hb,h | h⟩:=hmem2 e h
      · subst h;exact ⟨by show (1:Int) ≤ 1 ∧ (1:Int) ≤ 4;decide,(hVB.nodes b hb).1,by simp [adr]⟩
      · subst h
        have:=hVB.nodes b hb
        exact ⟨⟨this.2.1.1,by have:=this.2.1.2;simp only;omega⟩,this.1,this.2.2⟩
  have hpd:(d_R (a_p (B.xs.map nd) (A.xs.map nd) [] []).1).Pairwise fun a b=>bef b.2.1 a.2.1 = true:=by
    unfold d_R
    rw [List.pairwise_map,List.pairwise_reverse]
    exact hG
  have hpa:(c_n (a_p (B.xs.map nd) (A.xs.map nd) [] []).2 (B.xs.map nd)).Pairwise fun a b=>bef b.2.1 a.2.1 = false:=by
    unfold c_n
    rw [List.pairwise_flatMap]
    refine ⟨fun b hb=>?_,hVB.ord.imp_of_mem fun {a b} ha hb hab x hx y hy=>?_⟩
    · rw [List.pairwise_iff_getElem]
      intro i j hi hj _
      rw [(hadd b hb _ (List.getElem_mem hi)).1,(hadd b hb _ (List.getElem_mem hj)).1];exact b_O _
    · rw [(hadd a ha x hx).1,(hadd b hb y hy).1];exact b_K _ _ hab
  have hD:=hdl (a_p (B.xs.map nd) (A.xs.map nd) [] []).1
  obtain ⟨T',e4,hT',hVT⟩:=p7_l4_eq (n:=6000) hn x2 l _ hE (by rw [List.length_append,hD];omega) (some l.length) 0 (a_p (B.xs.map nd) (A.xs.map nd) [] []).1.length R hok
    (fun c h=>by
      rw [List.getElem_append]
      split
      · rename_i hc
        obtain ⟨g,hg,e⟩:=hmem1 _ (List.getElem_mem hc)
        rw [e]
        exact ⟨fun _=>by omega,fun _=>rfl⟩
      · rename_i hc
        obtain ⟨b,hb,e⟩:=hmem2 _ (List.getElem_mem (show c - (d_R (a_p (B.xs.map nd) (A.xs.map nd) [] []).1).length < _ by rw [List.length_append] at h;omega))
        have h3:=(hVB.nodes b hb).2.1
        refine ⟨fun h4=>?_,fun h4=>by omega⟩
        rcases e with e | e
        · rw [e] at h4;simp at h4
        · rw [e] at h4;simp only at h4;omega)
    (fun c h h0 hc=>by
      rw [List.getElem_append_left (by omega),List.getElem_append_left (by omega)]
      exact List.pairwise_iff_getElem.1 hpd (c - 1) c (by omega) (by omega) (by omega))
    (fun c h hc=>by
      rw [List.length_append] at h
      rw [List.getElem_append_right (by omega),List.getElem_append_right (by omega)]
      exact List.pairwise_iff_getElem.1 hpa _ _ (by omega) (by omega) (by omega)) (B.xs.map nd) 6000 0 A (by rw [List.length_append,hD];omega) (by omega) hVA (by rw [List.drop_zero];exact hplay)
  have e4':p7_l4 6000 x2 (⟨l,some l.length⟩,0) (((a_p (B.xs.map nd) (A.xs.map nd) [] []).1.length:Int),R) 6000 0 A = some (.inl T'):=e4
  unfold p7
  rw [hA,Option.bind_some,hB,Option.bind_some,hl,Option.bind_some,hl0,Option.bind_some]
  simp only
  rw [if_pos (by decide),Option.bind_some,if_pos (by decide),Option.bind_some,if_pos (by simp [a_i]),show capO (⟨l,some l.length⟩:Sl Ev2) = some (l.length:Int) from rfl,Option.bind_some,Option.bind_some,if_neg (by simp [a_i]),e1',Option.bind_some,e3',Option.bind_some,ckS (by omega) (by omega),Option.bind_some,if_neg (by simp [a_i,hlen]),e4',Option.bind_some,lrl,p18_eq hT' (hVT.bd hn),Option.bind_some,if_pos rfl,livesE]
  rfl
end Go.Proofs.Ytmcpcdmonglkjaa
