/- Events: the law of a log. Plain theorems, no condition. -/
import Derived.Test.YtmcpcdmonglkjaaEV6
import Derived.Test.YtmcpcdmonglkjaaXE16
set_option linter.unusedVariables false
set_option linter.unusedSimpArgs false
namespace Go.Proofs.Ytmcpcdmonglkjaa
open Go.RowKit

abbrev Lg:Type:=Bool × Bool × Int × (Sl Nd)
def evD (e:Ev):Int × Int × List Int × Int:=(e.1,e.2.1,e.2.2.1.xs,e.2.2.2)
def stE (t:List N) (e:Ev):List N × Int:=stepN t e.2.1 e.2.2.1.xs e.2.2.2
def early (p:Option Int) (z:Int):Bool:=match p with | some q=>decide (z < q) | none=>false
def lastAt:List Ev → Option Int → Option Int
  | [],p=>p
  | e :: es,_=>lastAt es (some e.1)
def fwd:List Ev → Option Int → List N → Option (List N)
  | [],_,t=>some t
  | e :: es,p,t=>if early p e.1 = true then .none else if (stE t e).2 = 0 then fwd es (some e.1) (stE t e).1 else .none
theorem fwd_app:∀ (a b:List Ev) (p:Option Int) (t:List N),fwd (a ++ b) p t = (fwd a p t).bind (fwd b (lastAt a p))
  | [],b,p,t=>rfl
  | e :: a,b,p,t=>by
    rw [List.cons_append,fwd,fwd]
    cases early p e.1 with
    | true=>rfl
    | false =>
      rw [if_neg Bool.false_ne_true,if_neg Bool.false_ne_true]
      by_cases h:(stE t e).2 = 0
      · rw [if_pos h,if_pos h];exact fwd_app a b (some e.1) _
      · rw [if_neg h,if_neg h];rfl
theorem lastAt_app:∀ (a:List Ev) (e:Ev) (p:Option Int),lastAt (a ++ [e]) p = some e.1
  | [],e,p=>rfl
  | x :: a,e,p=>lastAt_app a e (some x.1)
theorem lastAt_last:∀ (a:List Ev) (p:Option Int) (h:0 < a.length),lastAt a p = some (a[a.length - 1]'(by omega)).1
  | [e],p,h=>rfl
  | e :: f :: a,p,h=>by
    have:=lastAt_last (f :: a) (some e.1) (by simp)
    show lastAt (f :: a) (some e.1) = _
    rw [this]
    congr 1
theorem p19_l1_fwd {n:Nat} (hn:1000 < n) (ys:List Ev) (hl:ys.length ≤ 40) (hok:∀ e ∈ ys,EvOk e) (c:Option Nat):∀ (m k:Nat) (p:Option Int) (T:Sl Nd) (r:List N),ys.length < k + m → k ≤ ys.length →
    (p = if h:0 < k ∧ k ≤ ys.length then some (ys[k - 1]'(by omega)).1 else .none) → Own T → V (T.xs.map nd) → fwd (ys.drop k) p (T.xs.map nd) = some r →
    ∃ S:Sl Nd,p19_l1 n ⟨ys,c⟩ m k T = some (.inl S) ∧ Own S ∧ S.xs.map nd = r ∧ V r:=by
  intro m
  induction m with
  | zero=>intro k p T r h;omega
  | succ m IH =>
    intro k p T r hkm hk hp ho hV hr
    rw [p19_l1]
    have hl0:(lenI (⟨ys,c⟩:Sl Ev)) = (ys.length:Int):=rfl
    by_cases hlt:k < ys.length
    · have he:=hok _ (List.getElem_mem hlt)
      obtain ⟨W,hW,hWo,hWn⟩:=p30_eq (hV.bd hn) ys[k] he.1 he.2.1 he.2.2
      rw [List.drop_eq_getElem_cons hlt,fwd] at hr
      have hq:(if (decide ((k:Int) > 0)) = true then (ckI .i64 ((k:Int) - 1)).bind fun x_35=>(idx (⟨ys,c⟩:Sl Ev).xs x_35).bind fun y_36=>some (decide (ys[k].1 < y_36.1)) else some false) = some (early p ys[k].1):=by
        by_cases h0:k = 0
        · rw [if_neg (by rw [decide_eq_true_eq];omega),hp,dif_neg (by omega)];rfl
        · have e1:ckI .i64 ((k:Int) - 1) = some ((k - 1:Nat):Int):=(ckS (by omega) (by omega)).trans (by congr 1;omega)
          rw [if_pos (decide_eq_true (by omega)),e1,Option.bind_some,ixN (show k - 1 < ys.length by omega),Option.bind_some,hp,dif_pos (by omega)]
          rfl
      rw [if_pos (decide_eq_true (show (k:Int) < lenI (⟨ys,c⟩:Sl Ev) by rw [hl0];omega)),show idx (⟨ys,c⟩:Sl Ev).xs (k:Int) = some ys[k] from ixN hlt,Option.bind_some,hq,Option.bind_some]
      cases hea:early p ys[k].1 with
      | true=>rw [hea,if_pos rfl] at hr;cases hr
      | false =>
        rw [hea,if_neg (by decide)] at hr
        by_cases h0:(stE (T.xs.map nd) ys[k]).2 = 0
        · rw [if_pos h0] at hr
          have h0':(stepN (T.xs.map nd) ys[k].2.1 ys[k].2.2.1.xs ys[k].2.2.2).2 = 0:=h0
          have hVs:=V.step hV (w:=ys[k].2.1) (p:=ys[k].2.2.1.xs) (ad:=ys[k].2.2.2) he.1 he.2.1 he.2.2
          rw [if_neg (by decide),hW,Option.bind_some,h0',if_neg (show ¬ (((0:Int) != 0) = true) by decide),ckS (by omega) (by omega),Option.bind_some,succI]
          refine IH (k + 1) (some ys[k].1) W r (by omega) (by omega) (by rw [dif_pos (by omega)];rfl) hWn (by rw [hWo.1];exact hVs) ?_
          rw [hWo.1];exact hr
        · rw [if_neg h0] at hr;cases hr
    · rw [List.drop_eq_nil_of_le (by omega)] at hr
      have e:T.xs.map nd = r:=Option.some.inj hr
      rw [if_neg (by rw [decide_eq_true_eq,hl0];omega)]
      exact ⟨T,rfl,ho,e,e ▸ hV⟩
/-! ### Take -/
def clE (e:Ev):Ev:=(e.1,e.2.1,⟨e.2.2.1.xs,some e.2.2.1.xs.length⟩,e.2.2.2)
theorem p22_l1_eq (n:Nat) (t:Sl Ev) (hL:t.xs.length ≤ 1000000):∀ (m k:Nat),t.xs.length < k + m → k ≤ t.xs.length →
    p22_l1 n t m k ((t.xs.take k).map clE ++ t.xs.drop k) = some (t.xs.map clE):=by
  intro m
  induction m with
  | zero=>intro k h hk;omega
  | succ m IH =>
    intro k hkm hk
    rw [p22_l1]
    by_cases hlt:k < t.xs.length
    · have hl:((t.xs.take k).map clE).length = k:=by simp;omega
      have hi:idx ((t.xs.take k).map clE ++ t.xs.drop k) (k:Int) = some t.xs[k]:=by
        rw [idx_nat,List.getElem?_append_right (by omega),hl,Nat.sub_self,List.drop_eq_getElem_cons hlt];rfl
      rw [if_pos (decide_eq_true (show (k:Int) < lenI (⟨t.xs,some t.xs.length⟩:Sl Ev) by unfold lenI;simp only;omega)),hi,Option.bind_some,p44_eq,Option.bind_some,Option.bind_some,ckS (by omega) (by omega),Option.bind_some,succI]
      have e:((t.xs.take k).map clE ++ t.xs.drop k).set ((k:Int)).toNat (t.xs[k].1,t.xs[k].2.1,⟨t.xs[k].2.2.1.xs,some t.xs[k].2.2.1.xs.length⟩,t.xs[k].2.2.2) = (t.xs.take (k + 1)).map clE ++ t.xs.drop (k + 1):=by
        rw [Int.toNat_natCast,List.set_append_right _ _ (by omega),hl,Nat.sub_self,List.drop_eq_getElem_cons hlt,List.set_cons_zero,List.take_succ_eq_append_getElem hlt,List.map_append,List.append_assoc]
        rfl
      rw [e]
      exact IH (k + 1) (by omega) (by omega)
    · rw [if_neg (by rw [decide_eq_true_eq];unfold lenI;simp only;omega),List.take_of_length_le (by omega),List.drop_eq_nil_of_le (by omega),List.append_nil]
theorem p22_eq {n:Nat} (bg:Bool) (ls:Int) (T:Sl Nd) (fr:List Ev) (hn:1000 < n) (hL:fr.length ≤ 900) :
    p22 n (true,bg,ls,T) fr = some (⟨fr.map clE,some fr.length⟩,(true,bg,ls,T),[]):=by
  have e43:p43 n (⟨fr,.none⟩:Sl Ev) = some ⟨fr,capA (some 0) fr.length⟩:=by
    unfold p43
    have ha:appI ([]:List Ev) fr = some fr:=appN (by simp;omega)
    rw [ha,Option.bind_some]
  have e42:∀ d,p42 n (⟨fr,d⟩:Sl Ev) = some ⟨fr,some fr.length⟩:=fun d=>by
    unfold p42
    have h3:sl3I (⟨fr,d⟩:Sl Ev) 0 (lenI (⟨fr,d⟩:Sl Ev)) (lenI (⟨fr,d⟩:Sl Ev)) = some ⟨fr,some fr.length⟩:=by
      unfold sl3I lenI
      rw [if_pos (by simp)]
      simp
    rw [h3,Option.bind_some]
  have el:=p22_l1_eq n ⟨fr,some fr.length⟩ (by show fr.length ≤ 1000000;omega) n 0 (by show fr.length < 0 + n;omega) (Nat.zero_le _)
  have el':p22_l1 n ⟨fr,some fr.length⟩ n 0 fr = some (fr.map clE):=el
  unfold p22 p40
  rw [Option.bind_some]
  dsimp only
  rw [if_neg (by decide),e43,Option.bind_some,e42,Option.bind_some,el',Option.bind_some]
  have hcut:cutI (fr.take 0 ++ List.replicate (fr.length - 0) ((0,0,⟨[],some 0⟩,0):Ev)) 0 = some []:=by
    unfold cutI
    rw [if_pos (by simp)]
    simp
  rw [hcut,Option.bind_some,List.length_map]
theorem p23_l1_eq {n:Nat} (hn:1000 < n) (a b:List Ev) (c d:Option Nat) (h:a.map evD = b.map evD) (hs:∀ e ∈ a,e.2.2.1.xs.length ≤ 900) (hL:a.length ≤ 900):∀ (m k:Nat),a.length < k + m → k ≤ a.length → p23_l1 n ⟨a.map clE,c⟩ ⟨b,d⟩ m k = some (.inl ()):=by
  have hl:a.length = b.length:=by have:=congrArg List.length h;simpa using this
  intro m
  induction m with
  | zero=>intro k h;omega
  | succ m IH =>
    intro k hkm hk
    rw [p23_l1]
    have hl0:(lenI (⟨a.map clE,c⟩:Sl Ev)) = (a.length:Int):=by simp [lenI]
    by_cases hlt:k < a.length
    · have hb:k < b.length:=by omega
      have e:evD a[k] = evD b[k]:=by
        have:=congrArg (fun l:List (Int × Int × List Int × Int)=>l[k]?) h
        simpa [List.getElem?_eq_getElem hlt,List.getElem?_eq_getElem hb] using this
      have e1:a[k].1 = b[k].1:=congrArg (fun z=>z.1) e
      have e2:a[k].2.1 = b[k].2.1:=congrArg (fun z=>z.2.1) e
      have e3:a[k].2.2.1.xs = b[k].2.2.1.xs:=congrArg (fun z=>z.2.2.1) e
      have e4:a[k].2.2.2 = b[k].2.2.2:=congrArg (fun z=>z.2.2.2) e
      have hs1:=hs _ (List.getElem_mem hlt)
      have ia:idx (⟨a.map clE,c⟩:Sl Ev).xs (k:Int) = some (clE a[k]):=by
        show idx (a.map clE) (k:Int) = _
        rw [ixN (by simpa using hlt),List.getElem_map]
      have ib:idx (⟨b,d⟩:Sl Ev).xs (k:Int) = some b[k]:=ixN hb
      have b1:((clE a[k]).1 != b[k].1) = false:=by rw [← e1];exact bne_self_eq_false _
      have b2:((clE a[k]).2.1 != b[k].2.1) = false:=by rw [← e2];exact bne_self_eq_false _
      have b4:((clE a[k]).2.2.2 != b[k].2.2.2) = false:=by rw [← e4];exact bne_self_eq_false _
      have e17:p17 n (clE a[k]).2.2.1 b[k].2.2.1 = some true:=by
        rw [p17_eq n _ _ (by show a[k].2.2.1.xs.length < n;omega) (by rw [← e3];omega) (by show a[k].2.2.1.xs.length ≤ 1000000;omega) (by rw [← e3];omega)]
        exact congrArg some (decide_eq_true e3)
      have hc:capO (clE a[k]).2.2.1 = some (a[k].2.2.1.xs.length:Int):=rfl
      have bc:((a[k].2.2.1.xs.length:Int) != lenI (clE a[k]).2.2.1) = false:=bne_self_eq_false _
      rw [if_pos (decide_eq_true (show (k:Int) < lenI (⟨a.map clE,c⟩:Sl Ev) by rw [hl0];omega)),ia,ib,Option.bind_some,Option.bind_some,b1,if_pos rfl,Option.bind_some,Option.bind_some,b2,Option.bind_some,if_pos rfl,Option.bind_some,Option.bind_some,b4,Option.bind_some,if_pos rfl,Option.bind_some,Option.bind_some,e17,Option.bind_some,Option.bind_some,if_pos (show (!true) = false from rfl),Option.bind_some,hc,Option.bind_some,Option.bind_some,bc,Option.bind_some,if_neg (by decide),ckS (by omega) (by omega),Option.bind_some,succI]
      exact IH (k + 1) (by omega) (by omega)
    · rw [if_neg (by rw [decide_eq_true_eq,hl0];omega)]
theorem p23_eq {n:Nat} (hn:1000 < n) (a b:List Ev) (d:Option Nat) (h:a.map evD = b.map evD) (hs:∀ e ∈ a,e.2.2.1.xs.length ≤ 900) (hL:a.length ≤ 900):p23 n ⟨a.map clE,some a.length⟩ ⟨b,d⟩ = some true:=by
  have hl:a.length = b.length:=by have:=congrArg List.length h;simpa using this
  have e:p23_l1 n ⟨a.map clE,some a.length⟩ ⟨b,d⟩ n 0 = some (.inl ()):=p23_l1_eq hn a b _ d h hs hL n 0 (by omega) (by omega)
  have hc:capO (⟨a.map clE,some a.length⟩:Sl Ev) = some (a.length:Int):=rfl
  have h1:(lenI (⟨a.map clE,some a.length⟩:Sl Ev) != lenI (⟨b,d⟩:Sl Ev)) = false:=by simp [lenI,hl]
  have h2:((a.length:Int) != lenI (⟨a.map clE,some a.length⟩:Sl Ev)) = false:=by simp [lenI]
  unfold p23
  rw [h1,if_pos rfl,hc,Option.bind_some,h2,Option.bind_some,if_neg (by decide),e,Option.bind_some,lrl]
/-! ### Add -/
def nowE (e:Ev) (d:Option Nat):Ev:=(e.1,e.2.1,⟨e.2.2.1.xs,d⟩,e.2.2.2)
theorem p21_eq {n:Nat} (hn:1000 < n) (bg:Bool) (ls:Int) (T:Sl Nd) (fr:List Ev) (e:Ev) (hV:V (T.xs.map nd)) (he:EvOk e) (hL:fr.length ≤ 900) :
    (early (if bg then some ls else .none) e.1 = true → p21 n (true,bg,ls,T) fr e = some (1,(true,bg,ls,T),fr)) ∧
    (early (if bg then some ls else .none) e.1 = false → (stE (T.xs.map nd) e).2 ≠ 0 → p21 n (true,bg,ls,T) fr e = some ((stE (T.xs.map nd) e).2,(true,bg,ls,T),fr)) ∧
    (early (if bg then some ls else .none) e.1 = false → (stE (T.xs.map nd) e).2 = 0 → ∃ (W:Sl Nd) (d:Option Nat),p21 n (true,bg,ls,T) fr e = some (0,(true,true,e.1,W),fr ++ [nowE e d]) ∧ W.xs.map nd = (stE (T.xs.map nd) e).1):=by
  obtain ⟨W,hW,hWo,hWn⟩:=p30_eq (hV.bd hn) e he.1 he.2.1 he.2.2
  obtain ⟨d,hd⟩:=p41_eq n e.2.2.1 (by have:=he.short.2;omega)
  have hW':p30 n T e = some (W,(stE (T.xs.map nd) e).2):=hW
  have hq:(if bg = true then some (decide (e.1 < ls)) else some false) = some (early (if bg then some ls else .none) e.1):=by cases bg <;> rfl
  have core:p21 n (true,bg,ls,T) fr e = if early (if bg then some ls else .none) e.1 = true then some (1,(true,bg,ls,T),fr) else if ((stE (T.xs.map nd) e).2 != 0) = true then some ((stE (T.xs.map nd) e).2,(true,bg,ls,T),fr) else some (0,(true,true,e.1,W),fr ++ [nowE e d]):=by
    unfold p21 p40
    rw [Option.bind_some]
    dsimp only
    rw [if_neg (by decide)]
    show ((if bg = true then some (decide (e.1 < ls)) else some false).bind _) = _
    rw [hq,Option.bind_some]
    by_cases h1:early (if bg then some ls else .none) e.1 = true
    · rw [if_pos h1,if_pos h1]
    · rw [if_neg h1,if_neg h1]
      show ((p30 n T e).bind _) = _
      rw [hW',Option.bind_some]
      by_cases h2:((stE (T.xs.map nd) e).2 != 0) = true
      · rw [if_pos h2,if_pos h2]
      · rw [if_neg h2,if_neg h2,hd,Option.bind_some,Option.bind_some,appN (by simp;omega),Option.bind_some,Option.bind_some]
        rfl
  rw [core]
  refine ⟨fun h=>if_pos h,fun h h0=>?_,fun h h0=>⟨W,d,?_,hWo.1⟩⟩
  · rw [h,if_neg (by decide),if_pos (by simpa using h0)]
  · rw [h,if_neg (by decide),if_neg (by simpa using h0)]
/-! ### The loop -/
structure LInv (k:Nat) (T2:Sl Nd) (fr2 all fr1:List Ev) (bg:Bool) (ls:Int) (T1:Sl Nd):Prop where
  lst:lastAt all .none = if bg then some ls else .none
  tr:T1.xs.map nd = T2.xs.map nd
  v:V (T2.xs.map nd)
  fw:fwd all .none [] = some (T2.xs.map nd)
  ok:∀ e ∈ all,EvOk e
  fr:fr1.map evD = fr2.map evD
  sh:∀ e ∈ fr1,e.2.2.1.xs.length ≤ 900
  l1:all.length ≤ k
  l2:fr1.length ≤ k
theorem shr_ok (x:Int) (h:InR .u64 x) (k:Nat):∃ z,shrI x (k:Int) .u64 = some z ∧ 0 ≤ z:=by
  have h0:=(inR_u64.1 h).1
  unfold shrI
  rw [if_pos (by omega)]
  exact ⟨_,rfl,Int.fdiv_nonneg h0 (by exact_mod_cast Nat.zero_le _)⟩
theorem p6_l1_ok {n:Nat} (hn:1000 < n) {x0:Sl Ac} {x1:Int} (hx:∀ x ∈ x0.xs,AcOk x) (h1:InR .u64 x1) (hl:x0.xs.length ≤ 40):∀ (m k:Nat) (c:Int) (T2:Sl Nd) (fr2 all fr1:List Ev) (bg:Bool) (ls:Int) (T1:Sl Nd),x0.xs.length < k + m → k ≤ x0.xs.length → (-100 - k ≤ c ∧ c ≤ 4 * k) → LInv k T2 fr2 all fr1 bg ls T1 →
    ∃ (T2':Sl Nd) (fr2' all' fr1':List Ev) (bg':Bool) (ls':Int) (T1':Sl Nd),p6_l1 n x0 x1 m k c T2 fr2 all fr1 (true,bg,ls,T1) = some (.inl (all',fr2',T2',fr1',(true,bg',ls',T1'))) ∧ LInv x0.xs.length T2' fr2' all' fr1' bg' ls' T1':=by
  intro m
  induction m with
  | zero=>intro k c T2 fr2 all fr1 bg ls T1 h;omega
  | succ m IH =>
    intro k c T2 fr2 all fr1 bg ls T1 hkm hk hc I
    rw [p6_l1]
    by_cases hlt:k < x0.xs.length
    · obtain ⟨a1,a2,a3,a4⟩:=hx _ (List.getElem_mem hlt)
      have r4:remI .u8 x0.xs[k].2.2.2 4 = some (x0.xs[k].2.2.2 % 4):=remI_ok a4.1 (by decide) (inR_u8.2 (by omega))
      obtain ⟨e,he,het,hok,hlo⟩:=p13_ok n _ (hx _ (List.getElem_mem hlt)) (c + x0.xs[k].2.2.2 % 4 - 1)
      obtain ⟨B,hB,hBo⟩:=p14_eq (I.v.bd hn) e hok.short.1 hok.short.2
      have hB':p14 n T2 e = some (B,(stE (T2.xs.map nd) e).2):=hB
      have hBo1:B.xs.map nd = (stE (T2.xs.map nd) e).1:=hBo.1
      have i1:=I.l1;have i2:=I.l2
      have hq:(if (decide ((lenI (⟨all,.none⟩:Sl Ev)) > 0)) = true then (ckI .i64 ((lenI (⟨all,.none⟩:Sl Ev)) - 1)).bind fun x_139=>(idx all x_139).bind fun y_140=>some (decide (c + x0.xs[k].2.2.2 % 4 - 1 < y_140.1)) else some false) = some (early (if bg then some ls else .none) e.1):=by
        have hl0:lenI (⟨all,.none⟩:Sl Ev) = (all.length:Int):=rfl
        rw [← I.lst,hl0]
        by_cases h0:all.length = 0
        · rw [if_neg (by rw [decide_eq_true_eq];omega),List.eq_nil_of_length_eq_zero h0];rfl
        · rw [if_pos (decide_eq_true (by omega)),show ckI .i64 ((all.length:Int) - 1) = some ((all.length - 1:Nat):Int) from (ckS (by omega) (by omega)).trans (by congr 1;omega),Option.bind_some,ixN (show all.length - 1 < all.length by omega),Option.bind_some,lastAt_last all _ (by omega),het]
          rfl
      obtain ⟨z,hz,hz0⟩:=shr_ok x1 h1 k
      have r2:remI .u64 z 2 = some (z % 2):=remI_ok hz0 (by decide) (inR_u64.2 (by omega))
      have hV1:V (T1.xs.map nd):=by rw [I.tr];exact I.v
      obtain ⟨A1,A2,A3⟩:=p21_eq hn bg ls T1 fr1 e hV1 hok (by omega)
      rw [I.tr] at A2 A3
      -- what is behind the event
      obtain ⟨j,bg',ls',T1',fr1',T2',fr2',all',hj1,hj2,hj3,I'⟩:∃ (j:Int) (bg':Bool) (ls':Int) (T1':Sl Nd) (fr1':List Ev) (T2':Sl Nd) (fr2' all':List Ev),(if early (if bg then some ls else .none) e.1 = true then some 1 else some (stE (T2.xs.map nd) e).2) = some j ∧ p21 n (true,bg,ls,T1) fr1 e = some (j,(true,bg',ls',T1'),fr1') ∧
          (if (j == 0) = true then ((appI all ([e])).bind fun l_194=>(appI fr2 ([e])).bind fun l_205=>some ((⟨B.xs,B.cap⟩:Sl Nd),l_205,l_194)) else some (T2,fr2,all)) = some (T2',fr2',all') ∧ LInv (k + 1) T2' fr2' all' fr1' bg' ls' T1':=by
        have J:LInv (k + 1) T2 fr2 all fr1 bg ls T1:=⟨I.lst,I.tr,I.v,I.fw,I.ok,I.fr,I.sh,by omega,by omega⟩
        cases hea:early (if bg then some ls else .none) e.1 with
        | true=>exact ⟨1,bg,ls,T1,fr1,T2,fr2,all,if_pos rfl,A1 hea,if_neg (by decide),J⟩
        | false =>
          by_cases h0:(stE (T2.xs.map nd) e).2 = 0
          · obtain ⟨W,d,hW,hW2⟩:=A3 hea h0
            have hfl:fr2.length = fr1.length:=by have:=congrArg List.length I.fr;simpa using this.symm
            refine ⟨0,true,e.1,W,fr1 ++ [nowE e d],⟨B.xs,B.cap⟩,fr2 ++ [e],all ++ [e],by rw [if_neg (by decide),h0],hW,?_,?_⟩
            · rw [if_pos (by decide),appN (by simp;omega),Option.bind_some,appN (by simp;omega),Option.bind_some]
            · have hVs:=V.step I.v (w:=e.2.1) (p:=e.2.2.1.xs) (ad:=e.2.2.2) hok.1 hok.2.1 hok.2.2
              refine ⟨by rw [lastAt_app];rfl,hW2.trans hBo1.symm,?_,?_,fun y hy=>?_,?_,fun y hy=>?_,by simp;omega,by simp;omega⟩
              · show V (B.xs.map nd);rw [hBo1];exact hVs
              · show _ = some (B.xs.map nd)
                rw [fwd_app,I.fw,Option.bind_some,I.lst,fwd,hea,if_neg (by decide),if_pos h0,fwd,hBo1]
              · rcases List.mem_append.1 hy with hy | hy
                · exact I.ok y hy
                · rw [List.mem_singleton.1 hy];exact hok
              · rw [List.map_append,List.map_append,I.fr];rfl
              · rcases List.mem_append.1 hy with hy | hy
                · exact I.sh y hy
                · rw [List.mem_singleton.1 hy];exact hok.short.2
          · exact ⟨_,bg,ls,T1,fr1,T2,fr2,all,if_neg (by decide),A2 hea h0,if_neg (by simpa using h0),J⟩
      rw [if_pos (decide_eq_true (show (k:Int) < lenI x0 by unfold lenI;omega)),ixN hlt,Option.bind_some,r4,Option.bind_some,ckS (by omega) (by omega),Option.bind_some,ckS (by omega) (by omega),Option.bind_some,Option.bind_some,he,Option.bind_some,hB',Option.bind_some,hq,Option.bind_some,hj1,Option.bind_some]
      have hj2':p21 n (((true,bg,ls,T1):Lg).1,((true,bg,ls,T1):Lg).2.1,((true,bg,ls,T1):Lg).2.2.1,((true,bg,ls,T1):Lg).2.2.2) fr1 e = some (j,(true,bg',ls',T1'),fr1'):=hj2
      have hne:(j != j) = false:=bne_self_eq_false _
      rw [hj2',Option.bind_some]
      dsimp only
      rw [hne,if_neg Bool.false_ne_true,hj3,Option.bind_some,hz,Option.bind_some,r2,Option.bind_some]
      dsimp only
      by_cases hz1:z % 2 = 1
      · have i2':=I'.l2
        rw [if_pos (by simp [hz1]),p22_eq bg' ls' T1' fr1' hn (by omega),Option.bind_some]
        dsimp only
        rw [p23_eq hn fr1' fr2' .none I'.fr I'.sh (by omega),Option.bind_some,if_neg (by decide),Option.bind_some,lrl,ckS (by omega) (by omega),Option.bind_some,succI]
        exact IH (k + 1) _ T2' [] all' [] bg' ls' T1' (by omega) (by omega) (by omega) ⟨I'.lst,I'.tr,I'.v,I'.fw,I'.ok,rfl,fun y hy=>(by cases hy),I'.l1,Nat.zero_le _⟩
      · rw [if_neg (by simpa using hz1),Option.bind_some,lrl,ckS (by omega) (by omega),Option.bind_some,succI]
        exact IH (k + 1) _ T2' fr2' all' fr1' bg' ls' T1' (by omega) (by omega) (by omega) I'
    · rw [if_neg (by rw [decide_eq_true_eq];unfold lenI;omega)]
      have hkk:k = x0.xs.length:=by omega
      exact ⟨T2,fr2,all,fr1,bg,ls,T1,rfl,hkk ▸ I⟩
theorem p24_eq {n:Nat} (bg:Bool) (ls:Int) (T:Sl Nd) (fr:Sl Ev) (h:Bd n T.xs):p24 n (true,bg,ls,T,fr) = some ⟨T.xs.map ownN,some T.xs.length⟩:=by
  have hf:=h.few;have hb:=h.big
  unfold p24 p40
  rw [Option.bind_some]
  dsimp only
  rw [if_neg (by decide)]
  rw [p45_eq n T (by omega) (by omega) (fun y hy=>by have:=h.short y hy;omega),Option.bind_some]
theorem p6_law {x0:Sl Ac} {x1:Int} (F0:Fine (.sl gt1) x0) (G1:InR .u64 x1):p6 6000 x0 x1 = some true:=by
  have hn:1000 < 6000:=by omega
  have ok:∀ x:Ac,Fine gt1 x → AcOk x:=fun x h=>⟨inR_u8.1 h.1,inR_u8.1 h.2.1,inR_u8.1 h.2.2.1,inR_u8.1 h.2.2.2⟩
  unfold p6
  by_cases h40:x0.xs.length ≤ 40
  · obtain ⟨T2,fr2,all,fr1,bg,ls,T1,hL,I⟩:=p6_l1_ok hn (fun x hx=>ok x (F0.2.2 x hx)) G1 h40 6000 0 (-50) ⟨[],some 0⟩ [] [] [] false 0 ⟨[],some 0⟩ (by omega) (by omega) (by omega) ⟨rfl,rfl,V.nil,rfl,fun e he=>(by cases he),rfl,fun e he=>(by cases he),Nat.le_refl _,Nat.le_refl _⟩
    have hL':p6_l1 6000 x0 x1 6000 0 (-50) ⟨[],some 0⟩ [] [] [] (true,false,0,⟨[],some 0⟩) = some (.inl (all,fr2,T2,fr1,(true,bg,ls,T1))):=hL
    have e20:p20 6000 = some (some (true,false,0,⟨[],some 0⟩)):=rfl
    have i1:=I.l1;have i2:=I.l2
    obtain ⟨S,hS,hSo,hSn,_⟩:=p19_l1_fwd hn all (by omega) I.ok .none 6000 0 .none ⟨[],some 0⟩ (T2.xs.map nd) (by omega) (by omega) (by rw [dif_neg (by omega)]) ⟨rfl,fun y hy=>(by cases hy)⟩ V.nil I.fw
    have h19:p19 6000 (⟨all,.none⟩:Sl Ev) = some (S,(all.length:Int),0):=by
      have hS':p19_l1 6000 ⟨all,.none⟩ 6000 0 ⟨[],some 0⟩ = some (.inl S):=hS
      unfold p19
      rw [hS',Option.bind_some,lrl]
      rfl
    have hV1:V (T1.xs.map nd):=by rw [I.tr];exact I.v
    have hVS:V (S.xs.map nd):=by rw [hSn];exact I.v
    have hOwn:Own ⟨T1.xs.map ownN,some T1.xs.length⟩:=⟨by simp,fun y hy=>by
      obtain ⟨z,_,rfl⟩:=List.mem_map.1 hy
      rfl⟩
    have hmap:(T1.xs.map ownN).map nd = T2.xs.map nd:=by
      rw [List.map_map,← I.tr]
      rfl
    have e15:p15 6000 (⟨T1.xs.map ownN,some T1.xs.length⟩:Sl Nd) T2 = some true:=p15_eq hmap (V.bd hn (by show V ((T1.xs.map ownN).map nd);rw [hmap];exact I.v)) hOwn
    have e15b:p15 6000 S T2 = some true:=p15_eq hSn (hVS.bd hn) hSo
    rw [if_neg (by rw [decide_eq_true_eq];unfold lenI;omega),e20,Option.bind_some]
    show ((p6_l1 6000 x0 x1 6000 0 (-50) ⟨[],some 0⟩ [] [] [] (true,false,0,⟨[],some 0⟩)).bind _) = _
    rw [hL',Option.bind_some,lrl]
    dsimp only
    rw [h19,Option.bind_some,p22_eq bg ls T1 fr1 hn (by omega),Option.bind_some]
    dsimp only
    rw [p23_eq hn fr1 fr2 .none I.fr I.sh (by omega),Option.bind_some,if_pos rfl,p22_eq bg ls T1 [] hn (by simp),Option.bind_some,Option.bind_some]
    dsimp only
    rw [if_pos (by rfl),p24_eq bg ls T1 _ (hV1.bd hn),Option.bind_some]
    dsimp only
    rw [e15,Option.bind_some,Option.bind_some]
    dsimp only
    rw [if_pos rfl,Option.bind_some,if_pos (by rfl),e15b,Option.bind_some,Option.bind_some,if_pos rfl,livesE]
    rfl
  · rw [if_pos (decide_eq_true (by unfold lenI;omega)),livesE,Option.bind_some]
end Go.Proofs.Ytmcpcdmonglkjaa
