/- Events: what an event leads to, in plain words. Plain theorems, no condition. -/
import Derived.Test.YtmcpcdmonglkjaaEV2
import Derived.Test.YtmcpcdmonglkjaaP4
set_option linter.unusedVariables false
set_option linter.unusedSimpArgs false
namespace Go.Proofs.Ytmcpcdmonglkjaa
open Go.RowKit

def fnd (t:List N) (p:List Int):Option Nat:=t.findIdx? (fun y=>decide (y.1 = p))
def hel (t:List N) (p:List Int):Bool:=decide (p.length = 1) || (match fnd t p.dropLast with | some k=>decide ((t[k]?).map (·.2.1) = some 2) | none=>false)
def posN (t:List N) (p:List Int):Nat:=(t.takeWhile (fun y=>bef y.1 p)).length
def stepN (t:List N) (w:Int) (p:List Int) (ad:Int):List N × Int :=
  match fnd t p with
  | some i=>if w = 1 then ([],8) else if w = 4 then (if t.any (fun y=>thr y.1 p) then ([],6) else (t.eraseIdx i,0))
      else if (t[i]?).map (·.2.1) = some 1 then (if w = 2 ∧ t.any (fun y=>y.2.2 == ad) = true then ([],8) else (t.set i (p,w,ad),0)) else ([],6)
  | none=>if w = 1 then (if hel t p then (if 127 ≤ t.length then ([],9) else (t.take (posN t p) ++ (p,1,0) :: t.drop (posN t p),0)) else ([],7)) else ([],7)
/-- What is asked of sizes. -/
structure Bd (n:Nat) (t:List Nd):Prop where
  big:1000 < n
  few:t.length ≤ 900
  short:∀ y ∈ t,y.1.xs.length ≤ 900
theorem Bd.all {n:Nat} {t:List Nd} (h:Bd n t):∀ y ∈ t,y.1.xs.length < n ∧ y.1.xs.length ≤ 1000000:=fun y hy=>by have:=h.short y hy;have:=h.big;omega
theorem fnd_nd (t:List Nd) (p:List Int):t.findIdx? (fun y=>decide (y.1.xs = p)) = fnd (t.map nd) p:=by
  unfold fnd
  rw [List.findIdx?_map]
  rfl
theorem p38_fnd {n:Nat} {t:Sl Nd} (h:Bd n t.xs) (p:Sl Int):p38 n t p = some (ixO (fnd (t.xs.map nd) p.xs)):=by
  rw [p38_eq n t p (by have:=h.big;have:=h.few;omega) (by have:=h.few;omega) h.all,fnd_nd]
theorem p26_fnd {n:Nat} {t:Sl Nd} (h:Bd n t.xs) (p:Sl Int) (hp:p.xs.length ≤ 900):p26 n t p = some (ixO (fnd (t.xs.map nd) p.xs)):=by
  have:=h.big;have:=h.few
  rw [p26_eq n t p (by omega) (by omega) ⟨⟨by omega,by omega⟩,h.all⟩,fnd_nd]
theorem fnd_lt {t:List N} {p:List Int} {k:Nat} (h:fnd t p = some k):∃ hk:k < t.length,(t[k]'hk).1 = p:=by
  unfold fnd at h
  rw [List.findIdx?_eq_some_iff_getElem] at h
  obtain ⟨hk,h1,_⟩:=h
  exact ⟨hk,by simpa using h1⟩
theorem fnd_none {t:List N} {p:List Int} (h:fnd t p = none):∀ y ∈ t,y.1 ≠ p:=fun y hy e=>by
  unfold fnd at h
  rw [List.findIdx?_eq_none_iff] at h
  have:=h y hy
  simp [e] at this
/-- What the node at a place is. -/
theorem ndAt {t:List Nd} {k:Nat} (h:k < t.length):(t.map nd)[k]? = some (nd t[k]):=by rw [List.getElem?_map,List.getElem?_eq_getElem h];rfl
theorem p57_eq (n:Nat) (p:Sl Int) (hp:p.xs ≠ []) (hL:p.xs.length ≤ 900):∃ z,p57 n p = some (⟨p.xs.dropLast,some p.xs.dropLast.length⟩,z):=by
  unfold p57
  have hpos:0 < p.xs.length:=List.length_pos_iff.2 hp
  obtain ⟨d,hd⟩:=slI_take (xs:=p.xs) (c:=p.cap) (k:=p.xs.length - 1) (by omega)
  have e1:ckI .i64 (lenI p - 1) = some ((p.xs.length - 1:Nat):Int):=(ckS (by unfold lenI;omega) (by unfold lenI;omega)).trans (by unfold lenI;congr 1;omega)
  rw [if_neg (by unfold lenI;simp;exact hp),e1,Option.bind_some]
  have hd':slI p 0 ((p.xs.length - 1:Nat):Int) = some ⟨p.xs.take (p.xs.length - 1),d⟩:=hd
  obtain ⟨d2,hd2⟩:=p41_eq n ⟨p.xs.take (p.xs.length - 1),d⟩ (by simp;omega)
  rw [hd',Option.bind_some,hd2,Option.bind_some,p44_eq,Option.bind_some,ixN (by omega),Option.bind_some]
  simp only [List.dropLast_eq_take]
  exact ⟨_,rfl⟩
theorem p34_eq {n:Nat} {t:Sl Nd} (h:Bd n t.xs) (p:Sl Int) (hp:p.xs ≠ []) (hL:p.xs.length ≤ 900):p34 n t p = some (hel (t.xs.map nd) p.xs):=by
  unfold p34 hel
  by_cases h1:p.xs.length = 1
  · rw [if_pos (by simp [lenI,h1]),decide_eq_true h1];rfl
  · obtain ⟨z,hz⟩:=p57_eq n p hp hL
    rw [if_neg (by simp [lenI];omega),hz,Option.bind_some,p38_fnd h,Option.bind_some,decide_eq_false h1]
    cases hf:fnd (t.xs.map nd) p.xs.dropLast with
    | none=>rfl
    | some k =>
      obtain ⟨hk,_⟩:=fnd_lt hf
      have hk':k < t.xs.length:=by simpa using hk
      rw [if_pos (by simp [ixO]),show ixO (some k) = (k:Int) from rfl,ixN hk',Option.bind_some,Option.bind_some]
      simp only [ndAt hk',Option.map_some,Bool.false_or]
      congr 1
      simp [nd]
      by_cases e:t.xs[k].2.1 = 2 <;> simp [e]
theorem p54_l1_eq (n:Nat) (x0:Sl Nd) (p:Sl Int) (hL:x0.xs.length ≤ 1000000) (hB:∀ y ∈ x0.xs,y.1.xs.length < n ∧ y.1.xs.length ≤ 1000000):∀ (m k:Nat),x0.xs.length < k + m → k ≤ x0.xs.length →
    p54_l1 n x0 p m k = some ((k + ((x0.xs.drop k).takeWhile (fun y=>bef y.1.xs p.xs)).length:Nat):Int):=by
  intro m
  induction m with
  | zero=>intro k h hk;omega
  | succ m IH =>
    intro k h hk
    rw [p54_l1]
    by_cases hlt:k < x0.xs.length
    · rw [if_pos (decide_eq_true (show (k:Int) < lenI x0 by unfold lenI;omega)),ixN hlt,Option.bind_some,p35_eq n _ p (hB _ (List.getElem_mem hlt)).1 (hB _ (List.getElem_mem hlt)).2,Option.bind_some,Option.bind_some,← bef_cmp,List.drop_eq_getElem_cons hlt,List.takeWhile_cons]
      cases hb:bef x0.xs[k].1.xs p.xs with
      | true =>
        rw [if_pos rfl,if_pos rfl,ckS (by omega) (by omega),Option.bind_some,succI,IH (k + 1) (by omega) (by omega),List.length_cons]
        congr 1;omega
      | false=>rw [if_neg (by decide),if_neg (by decide)];rfl
    · rw [if_neg (by rw [decide_eq_true_eq];unfold lenI;omega),Option.bind_some,if_neg (by decide),List.drop_eq_nil_of_le (by omega)]
      rfl
theorem p14_l1_eq (n:Nat) (x0:Sl Nd) (e:Int × Int × (Sl Int) × Int) (hL:x0.xs.length ≤ 1000000) (hB:∀ y ∈ x0.xs,y.1.xs.length < n ∧ y.1.xs.length ≤ 1000000):∀ (m k:Nat),x0.xs.length < k + m → k ≤ x0.xs.length →
    p14_l1 n x0 e m k = some ((k + ((x0.xs.drop k).takeWhile (fun y=>bef y.1.xs e.2.2.1.xs)).length:Nat):Int):=by
  intro m
  induction m with
  | zero=>intro k h hk;omega
  | succ m IH =>
    intro k h hk
    rw [p14_l1]
    by_cases hlt:k < x0.xs.length
    · rw [if_pos (decide_eq_true (show (k:Int) < lenI x0 by unfold lenI;omega)),ixN hlt,Option.bind_some,p28_eq n _ e.2.2.1 (hB _ (List.getElem_mem hlt)).1 (hB _ (List.getElem_mem hlt)).2,Option.bind_some,Option.bind_some,List.drop_eq_getElem_cons hlt,List.takeWhile_cons]
      cases hb:bef x0.xs[k].1.xs e.2.2.1.xs with
      | true =>
        rw [if_pos rfl,if_pos rfl,ckS (by omega) (by omega),Option.bind_some,succI,IH (k + 1) (by omega) (by omega),List.length_cons]
        congr 1;omega
      | false=>rw [if_neg (by decide),if_neg (by decide)];rfl
    · rw [if_neg (by rw [decide_eq_true_eq];unfold lenI;omega),Option.bind_some,if_neg (by decide),List.drop_eq_nil_of_le (by omega)]
      rfl
theorem pos_nd (t:List Nd) (p:List Int):(t.takeWhile (fun y=>bef y.1.xs p)).length = posN (t.map nd) p:=by
  unfold posN
  induction t with
  | nil=>rfl
  | cons y t ih =>
    rw [List.map_cons,List.takeWhile_cons,List.takeWhile_cons]
    show _ = (if bef y.1.xs p = true then _ else _:List N).length
    cases bef y.1.xs p with
    | true=>rw [if_pos rfl,if_pos rfl,List.length_cons,List.length_cons,ih]
    | false=>rw [if_neg (by decide),if_neg (by decide)];rfl
theorem posN_le (t:List N) (p:List Int):posN t p ≤ t.length:=(List.takeWhile_sublist _).length_le
/-! ### slices.Concat -/
def catS_ (l:List (Sl Nd)):List Nd:=(l.map Sl.xs).flatten
theorem p64_l1_eq (n:Nat) (x:Sl (Sl Nd)) (hL:x.xs.length ≤ 1000) (hs:∀ s ∈ x.xs,s.xs.length ≤ 100000):∀ (m k:Nat) (acc:Nat),x.xs.length < k + m → k ≤ x.xs.length → acc ≤ 100000 * k →
    ∃ z:Nat,p64_l1 n x m k acc = some (z:Int) ∧ z ≤ 100000 * x.xs.length:=by
  intro m
  induction m with
  | zero=>intro k acc h hk ha;omega
  | succ m IH =>
    intro k acc h hk ha
    rw [p64_l1]
    by_cases hlt:k < x.xs.length
    · have hk2:=hs _ (List.getElem_mem hlt)
      rw [if_pos (decide_eq_true (show (k:Int) < lenI x by unfold lenI;omega)),ixN hlt,Option.bind_some,show ckI .i64 ((acc:Int) + lenI x.xs[k]) = some ((acc + x.xs[k].xs.length:Nat):Int) from (ckS (by unfold lenI;omega) (by unfold lenI;omega)).trans (by unfold lenI;congr 1),Option.bind_some,if_neg (by rw [decide_eq_true_eq];omega),ckS (by omega) (by omega),Option.bind_some,succI]
      exact IH (k + 1) _ (by omega) (by omega) (by omega)
    · rw [if_neg (by rw [decide_eq_true_eq];unfold lenI;omega)]
      have hk2:k = x.xs.length:=by omega
      exact ⟨acc,rfl,by omega⟩
theorem p64_l2_eq (n:Nat) (x:Sl (Sl Nd)) (hL:x.xs.length ≤ 1000) (hs:∀ s ∈ x.xs,s.xs.length ≤ 100000):∀ (m k:Nat) (acc:List Nd),x.xs.length < k + m → k ≤ x.xs.length → acc.length ≤ 100000 * k →
    p64_l2 n x m k acc = some (acc ++ catS_ (x.xs.drop k)):=by
  intro m
  induction m with
  | zero=>intro k acc h hk ha;omega
  | succ m IH =>
    intro k acc h hk ha
    rw [p64_l2]
    by_cases hlt:k < x.xs.length
    · have hk2:=hs _ (List.getElem_mem hlt)
      have ea:appI acc x.xs[k].xs = some (acc ++ x.xs[k].xs):=by unfold appI;rw [if_pos (by omega)]
      rw [if_pos (decide_eq_true (show (k:Int) < lenI x by unfold lenI;omega)),ixN hlt,Option.bind_some,ea,Option.bind_some,ckS (by omega) (by omega),Option.bind_some,succI,IH (k + 1) _ (by omega) (by omega) (by rw [List.length_append];omega),List.drop_eq_getElem_cons hlt]
      show _ = some (acc ++ (x.xs[k].xs ++ catS_ (x.xs.drop (k + 1))))
      rw [List.append_assoc]
    · rw [if_neg (by rw [decide_eq_true_eq];unfold lenI;omega),List.drop_eq_nil_of_le (by omega)]
      simp [catS_]
theorem p68_eq (n:Nat) (z:Nat) (hz:z ≤ 1000000000):p68_nil n (z:Int) = some ⟨[],.none⟩:=by
  unfold p68_nil
  have e0:capO (⟨[],some 0⟩:Sl Nd) = some 0:=rfl
  have e1:ckI .i64 ((0:Int) - lenI (⟨[],some 0⟩:Sl Nd)) = some 0:=rfl
  rw [if_neg (by rw [decide_eq_true_eq];omega),e0,Option.bind_some,e1,Option.bind_some,show ckI .i64 ((z:Int) - 0) = some (z:Int) from (ckS (by omega) (by omega)).trans (by rw [Int.sub_zero]),Option.bind_some]
  by_cases h:0 < z
  · have e2:cutI ([]:List Nd) 0 = some []:=rfl
    have e3:appZ ([]:List Nd) (z:Int) (⟨[],some 0⟩,0,0) = some (List.replicate z (⟨[],some 0⟩,0,0)):=by
      unfold appZ
      rw [if_pos ⟨by omega,by simp;omega⟩]
      simp
    have e4:cutI (List.replicate z ((⟨[],some 0⟩,0,0):Nd)) (lenI (⟨[],some 0⟩:Sl Nd)) = some []:=by
      unfold cutI lenI
      rw [if_pos (by simp)]
      simp
    rw [if_pos (decide_eq_true (by omega)),Option.bind_some,e2,Option.bind_some,e3,Option.bind_some,e4,Option.bind_some,Option.bind_some]
  · rw [if_neg (by rw [decide_eq_true_eq];omega),Option.bind_some]
theorem p64_eq (n:Nat) (x:Sl (Sl Nd)) (hn:x.xs.length < n) (hL:x.xs.length ≤ 1000) (hs:∀ s ∈ x.xs,s.xs.length ≤ 100000):p64 n x = some ⟨catS_ x.xs,.none⟩:=by
  unfold p64
  obtain ⟨z,hz,hz2⟩:=p64_l1_eq n x hL hs n 0 0 (by omega) (by omega) (by omega)
  have hz':p64_l1 n x n 0 0 = some (z:Int):=hz
  have h2:=p64_l2_eq n x hL hs n 0 [] (by omega) (by omega) (by simp)
  have h2':p64_l2 n x n 0 [] = some (catS_ x.xs):=by simpa using h2
  rw [hz',Option.bind_some,p68_eq n z (by omega),Option.bind_some,h2',Option.bind_some]
/-! ### What an event leads to -/
section
variable {t:List N} {p:List Int} {ad w:Int} {k:Nat}
theorem sA1 (h:fnd t p = some k):stepN t 1 p ad = ([],8):=by simp [stepN,h]
theorem sA2 (h:fnd t p = none) (h2:hel t p = false):stepN t 1 p ad = ([],7):=by simp [stepN,h,h2]
theorem sA3 (h:fnd t p = none) (h2:hel t p = true) (h3:127 ≤ t.length):stepN t 1 p ad = ([],9):=by simp [stepN,h,h2,h3]
theorem sA4 (h:fnd t p = none) (h2:hel t p = true) (h3:¬ 127 ≤ t.length):stepN t 1 p ad = (t.take (posN t p) ++ (p,1,0) :: t.drop (posN t p),0):=by simp only [stepN,h,h2,if_true,if_neg h3]
theorem sD1 (h:fnd t p = none) (hw:w ≠ 1):stepN t w p ad = ([],7):=by simp [stepN,h,hw]
theorem sD2 (h:fnd t p = some k) (h2:(t.any fun y=>thr y.1 p) = true):stepN t 4 p ad = ([],6):=by simp only [stepN,h,h2,if_true,if_neg (show ¬ (4:Int) = 1 by decide)]
theorem sD3 (h:fnd t p = some k) (h2:(t.any fun y=>thr y.1 p) = false):stepN t 4 p ad = (t.eraseIdx k,0):=by simp only [stepN,h,h2,if_true,if_neg (show ¬ (4:Int) = 1 by decide),if_neg (show ¬ (false = true) by decide)]
theorem sS2 (h:fnd t p = some k) (h1:w ≠ 1) (h4:w ≠ 4) (h2:¬ (t[k]?).map (·.2.1) = some 1):stepN t w p ad = ([],6):=by simp only [stepN,h,if_neg h1,if_neg h4,if_neg h2]
theorem sS3 (h:fnd t p = some k) (h1:w ≠ 1) (h4:w ≠ 4) (h2:(t[k]?).map (·.2.1) = some 1) (h3:w = 2 ∧ (t.any fun y=>y.2.2 == ad) = true):stepN t w p ad = ([],8):=by simp only [stepN,h,if_neg h1,if_neg h4,if_pos h2,if_pos h3]
theorem sS4 (h:fnd t p = some k) (h1:w ≠ 1) (h4:w ≠ 4) (h2:(t[k]?).map (·.2.1) = some 1) (h3:¬ (w = 2 ∧ (t.any fun y=>y.2.2 == ad) = true)):stepN t w p ad = (t.set k (p,w,ad),0):=by simp only [stepN,h,if_neg h1,if_neg h4,if_pos h2,if_neg h3]
end
/-- A tree that stands for l. -/
def Out (T:Sl Nd) (r:List N):Prop:=T.xs.map nd = r ∧ T.xs.length ≤ 901 ∧ ∀ y ∈ T.xs,y.1.xs.length ≤ 900
theorem Out.nil {c:Option Nat}:Out ⟨[],c⟩ []:=⟨rfl,by simp,fun y hy=>by cases hy⟩
theorem appN {α:Type} {xs ys:List α} (h:xs.length + ys.length ≤ 1099511627776):appI xs ys = some (xs ++ ys):=by unfold appI;rw [if_pos h]
theorem any_nd (t:List Nd) (q:N → Bool):(t.map nd).any q = t.any (fun y=>q (nd y)):=by rw [List.any_map];rfl
theorem Out.ins {n:Nat} {t:Sl Nd} (h:Bd n t.xs) {p:Sl Int} (hL:p.xs.length ≤ 900) (k:Nat) {c:Option Nat}:Out ⟨t.xs.take k ++ (p,1,0) :: t.xs.drop k,c⟩ ((t.xs.map nd).take k ++ (p.xs,1,0) :: (t.xs.map nd).drop k):=by
  have hf:=h.few
  refine ⟨by simp [nd],by simp;omega,fun y hy=>?_⟩
  rcases List.mem_append.1 hy with hy | hy
  · exact h.short y (List.mem_of_mem_take hy)
  · rcases List.mem_cons.1 hy with rfl | hy
    · exact hL
    · exact h.short y (List.mem_of_mem_drop hy)
theorem Out.del {n:Nat} {t:Sl Nd} (h:Bd n t.xs) (k:Nat) {c:Option Nat}:Out ⟨t.xs.take k ++ t.xs.drop (k + 1),c⟩ ((t.xs.map nd).eraseIdx k):=by
  have hf:=h.few
  refine ⟨by simp [List.eraseIdx_eq_take_drop_succ],by simp;omega,fun y hy=>?_⟩
  rcases List.mem_append.1 hy with hy | hy
  · exact h.short y (List.mem_of_mem_take hy)
  · exact h.short y (List.mem_of_mem_drop hy)
theorem p54_eq {n:Nat} {t:Sl Nd} (h:Bd n t.xs) (p:Sl Int) (hp:p.xs ≠ []) (hL:p.xs.length ≤ 900) (ad:Int) :
    ∃ T:Sl Nd,p54 n t p = some (T,(stepN (t.xs.map nd) 1 p.xs ad).2) ∧ Out T (stepN (t.xs.map nd) 1 p.xs ad).1:=by
  have hb:=h.big;have hf:=h.few
  have tl:(t.xs.map nd).length = t.xs.length:=List.length_map _
  unfold p54
  rw [p38_fnd h,Option.bind_some]
  cases hq:fnd (t.xs.map nd) p.xs with
  | some k =>
    rw [if_pos (decide_eq_true (show ixO (some k) ≥ 0 by simp [ixO])),sA1 hq]
    exact ⟨_,rfl,Out.nil⟩
  | none =>
    rw [if_neg (by rw [decide_eq_true_eq];simp [ixO]),p34_eq h p hp hL,Option.bind_some]
    cases hh:hel (t.xs.map nd) p.xs with
    | false=>rw [if_pos (by rfl),sA2 hq hh];exact ⟨_,rfl,Out.nil⟩
    | true =>
      rw [if_neg (by decide)]
      by_cases h127:127 ≤ t.xs.length
      · rw [if_pos (decide_eq_true (show lenI t ≥ 127 by unfold lenI;omega)),sA3 hq hh (by omega)];exact ⟨_,rfl,Out.nil⟩
      · have hpos:posN (t.xs.map nd) p.xs ≤ t.xs.length:=by have:=posN_le (t.xs.map nd) p.xs;omega
        have e1:=p54_l1_eq n t p (by omega) h.all n 0 (by omega) (by omega)
        have e1':p54_l1 n t p n 0 = some ((posN (t.xs.map nd) p.xs:Nat):Int):=by simpa [pos_nd] using e1
        obtain ⟨d1,hd1⟩:=slI_take (xs:=t.xs) (c:=t.cap) hpos
        obtain ⟨d2,hd2⟩:=slI_drop (xs:=t.xs) (c:=t.cap) hpos
        have hd1':slI t 0 ((posN (t.xs.map nd) p.xs:Nat):Int) = some ⟨t.xs.take (posN (t.xs.map nd) p.xs),d1⟩:=hd1
        have hd2':slI t ((posN (t.xs.map nd) p.xs:Nat):Int) (lenI t) = some ⟨t.xs.drop (posN (t.xs.map nd) p.xs),d2⟩:=hd2
        rw [if_neg (by rw [decide_eq_true_eq];unfold lenI;omega),e1',Option.bind_some,hd1',Option.bind_some,hd2',Option.bind_some,p64_eq n _ (by simp;omega) (by simp) (by
          intro s hs
          simp only [List.mem_cons,List.not_mem_nil,or_false] at hs
          rcases hs with rfl | rfl | rfl <;> simp <;> omega),Option.bind_some,sA4 hq hh (by omega)]
        refine ⟨_,rfl,?_⟩
        have e:catS_ [(⟨t.xs.take (posN (t.xs.map nd) p.xs),d1⟩:Sl Nd),(⟨[(p,1,0)],some 1⟩:Sl Nd),(⟨t.xs.drop (posN (t.xs.map nd) p.xs),d2⟩:Sl Nd)] = t.xs.take (posN (t.xs.map nd) p.xs) ++ (p,1,0) :: t.xs.drop (posN (t.xs.map nd) p.xs):=by simp [catS_]
        show Out ⟨catS_ _,_⟩ _
        rw [e]
        exact Out.ins h hL _
theorem p55_eq {n:Nat} {t:Sl Nd} (h:Bd n t.xs) (p:Sl Int) (ad:Int) :
    ∃ T:Sl Nd,p55 n t p = some (T,(stepN (t.xs.map nd) 4 p.xs ad).2) ∧ Out T (stepN (t.xs.map nd) 4 p.xs ad).1:=by
  have hb:=h.big;have hf:=h.few
  unfold p55
  rw [p38_fnd h,Option.bind_some]
  cases hq:fnd (t.xs.map nd) p.xs with
  | none =>
    rw [if_pos (decide_eq_true (show ixO none < 0 by simp [ixO])),sD1 hq (by decide)]
    exact ⟨_,rfl,Out.nil⟩
  | some k =>
    obtain ⟨hk,_⟩:=fnd_lt hq
    have hk':k < t.xs.length:=by simpa using hk
    have hany:((t.xs.map nd).any fun y=>thr y.1 p.xs) = t.xs.any fun y=>thr y.1.xs p.xs:=any_nd _ _
    rw [if_neg (by rw [decide_eq_true_eq];simp [ixO]),p47_65_eq n t p (by omega) (by omega) h.all,Option.bind_some]
    cases ha:t.xs.any fun y=>thr y.1.xs p.xs with
    | true=>rw [if_pos rfl,sD2 hq (hany.trans ha)];exact ⟨_,rfl,Out.nil⟩
    | false =>
      obtain ⟨d1,hd1⟩:=slI_take (xs:=t.xs) (c:=t.cap) (show k ≤ t.xs.length by omega)
      obtain ⟨d2,hd2⟩:=slI_drop (xs:=t.xs) (c:=t.cap) (show k + 1 ≤ t.xs.length by omega)
      have hd1':slI t 0 (ixO (some k)) = some ⟨t.xs.take k,d1⟩:=hd1
      have hd2':slI t ((k + 1:Nat):Int) (lenI t) = some ⟨t.xs.drop (k + 1),d2⟩:=hd2
      rw [if_neg (by simp),hd1',Option.bind_some,show ckI .i64 (ixO (some k) + 1) = some ((k + 1:Nat):Int) from (ckS (by simp only [ixO];omega) (by simp only [ixO];omega)).trans (by simp only [ixO];congr 1),Option.bind_some,hd2',Option.bind_some,p64_eq n _ (by simp;omega) (by simp) (by
          intro s hs
          simp only [List.mem_cons,List.not_mem_nil,or_false] at hs
          rcases hs with rfl | rfl <;> simp <;> omega),Option.bind_some,sD3 hq (hany.trans ha)]
      refine ⟨_,rfl,?_⟩
      have e:catS_ [(⟨t.xs.take k,d1⟩:Sl Nd),(⟨t.xs.drop (k + 1),d2⟩:Sl Nd)] = t.xs.take k ++ t.xs.drop (k + 1):=by simp [catS_]
      show Out ⟨catS_ _,_⟩ _
      rw [e]
      exact Out.del h k
theorem nd_own (y:Nd):nd (ownN y) = nd y:=rfl
theorem Out.set {n:Nat} {l:List Nd} (h:Bd n l) {k:Nat} (hk:k < l.length) {w ad:Int} {c:Option Nat}:Out ⟨l.set k (l[k].1,w,ad),c⟩ ((l.map nd).set k (l[k].1.xs,w,ad)):=by
  have hf:=h.few
  refine ⟨by simp [nd,List.map_set],by simp;omega,fun y hy=>?_⟩
  rcases List.mem_or_eq_of_mem_set hy with hy | rfl
  · exact h.short y hy
  · exact h.short l[k] (List.getElem_mem hk)
theorem p56_eq {n:Nat} {t:Sl Nd} (h:Bd n t.xs) (e:Int × Int × (Sl Int) × Int) (h1:e.2.1 ≠ 1) (h4:e.2.1 ≠ 4) :
    ∃ T:Sl Nd,p56 n t e = some (T,(stepN (t.xs.map nd) e.2.1 e.2.2.1.xs e.2.2.2).2) ∧ Out T (stepN (t.xs.map nd) e.2.1 e.2.2.1.xs e.2.2.2).1:=by
  have hb:=h.big;have hf:=h.few
  unfold p56
  rw [p38_fnd h,Option.bind_some]
  cases hq:fnd (t.xs.map nd) e.2.2.1.xs with
  | none =>
    rw [if_pos (decide_eq_true (show ixO none < 0 by simp [ixO])),sD1 hq h1]
    exact ⟨_,rfl,Out.nil⟩
  | some k =>
    obtain ⟨hk,hkp⟩:=fnd_lt hq
    have hk':k < t.xs.length:=by simpa using hk
    have hp:t.xs[k].1.xs = e.2.2.1.xs:=by simpa [nd] using hkp
    have hat:=ndAt hk'
    rw [if_neg (by rw [decide_eq_true_eq];simp [ixO]),show ixO (some k) = (k:Int) from rfl,ixN hk',Option.bind_some]
    by_cases hw:t.xs[k].2.1 = 1
    · have hm:((t.xs.map nd)[k]?).map (·.2.1) = some 1:=by rw [hat];simp [nd,hw]
      have hany:((t.xs.map nd).any fun y=>y.2.2 == e.2.2.2) = t.xs.any fun y=>y.2.2 == e.2.2.2:=any_nd _ _
      rw [if_neg (by simp [hw])]
      have hcond:(if (e.2.1 == 2) = true then (p47_66 n t e).bind fun t_23=>some t_23 else some false) = some (decide (e.2.1 = 2 ∧ (t.xs.any fun y=>y.2.2 == e.2.2.2) = true)):=by
        by_cases h2:e.2.1 = 2
        · rw [if_pos (by simp [h2]),p47_66_eq n t e (by omega) (by omega),Option.bind_some];simp [h2]
        · rw [if_neg (by simp [h2])];simp [h2]
      rw [hcond,Option.bind_some]
      by_cases h3:e.2.1 = 2 ∧ (t.xs.any fun y=>y.2.2 == e.2.2.2) = true
      · rw [if_pos (decide_eq_true h3),sS3 hq h1 h4 hm ⟨h3.1,hany.trans h3.2⟩]
        exact ⟨_,rfl,Out.nil⟩
      · have hl:k < (t.xs.map ownN).length:=by simpa using hk'
        have hb2:Bd n (t.xs.map ownN):=⟨hb,by simpa using hf,fun y hy=>by
          obtain ⟨z,hz,rfl⟩:=List.mem_map.1 hy
          exact h.short z hz⟩
        have hg:(t.xs.map ownN)[k] = ownN t.xs[k]:=List.getElem_map _
        have hset:∀ z:Nd,((t.xs.map ownN).set k z)[k]? = some z:=fun z=>by simp [hk']
        rw [if_neg (by simpa using h3),p45_eq n t (by omega) (by omega) (fun y hy=>(h.all y hy).2),Option.bind_some,ixN hl,Option.bind_some]
        simp only [Int.toNat_natCast]
        rw [idx_nat,hset,Option.bind_some,sS4 hq h1 h4 hm (by rw [hany];exact h3),List.set_set]
        refine ⟨_,rfl,?_⟩
        have ho:=Out.set hb2 hl (w:=e.2.1) (ad:=e.2.2.2) (c:=some t.xs.length)
        have e1:(t.xs.map ownN).map nd = t.xs.map nd:=by rw [List.map_map];rfl
        rw [e1] at ho
        have e2:(t.xs.map ownN)[k].1.xs = e.2.2.1.xs:=by rw [hg];exact hp
        rw [e2] at ho
        exact ho
    · have hm:¬ ((t.xs.map nd)[k]?).map (·.2.1) = some 1:=by rw [hat];simp [nd,hw]
      rw [if_pos (by simpa using hw),sS2 hq h1 h4 hm]
      exact ⟨_,rfl,Out.nil⟩
end Go.Proofs.Ytmcpcdmonglkjaa
