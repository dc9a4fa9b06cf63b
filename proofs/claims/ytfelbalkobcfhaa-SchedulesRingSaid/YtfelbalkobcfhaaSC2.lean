/- Plain theorems for the laws: what the plain functions say. No condition. -/
import Derived.Test.YtfelbalkobcfhaaP4
import Derived.Test.YtfelbalkobcfhaaXP2
set_option linter.unusedVariables false
set_option linter.unusedSimpArgs false
namespace Go.Proofs.Ytfelbalkobcfhaa
open Go.RowKit
section
set_option maxRecDepth 100000
theorem p8_ok:p8 6000 = some true:=by kernel_rfl
end

theorem idxE {α:Type} {xs:List α} {i:Nat} (h:i < xs.length):idx xs (i:Int) = some xs[i]:=by
  rw [idx_nat,List.getElem?_eq_getElem h]
theorem lenI_mk {α:Type} (l:List α) (c:Option Nat):lenI (⟨l,c⟩:Sl α) = (l.length:Int):=rfl
theorem len_def {α:Type} (s:Sl α):lenI s = (s.xs.length:Int):=rfl
theorem castS (k:Nat):((k:Int) + 1) = ((k + 1:Nat):Int):=by simp
theorem drop_cons {α:Type} {l:List α} {i:Nat} (h:i < l.length):l.drop i = l[i] :: l.drop (i + 1):=List.drop_eq_getElem_cons h
theorem take_succ_eq {α:Type} {l:List α} {k:Nat} (h:k < l.length):l.take (k + 1) = l.take k ++ [l[k]]:=by rw [List.take_add_one,List.getElem?_eq_getElem h];rfl
theorem sl3I_all {α:Type} (l:List α) (cp:Option Nat):sl3I (⟨l,cp⟩:Sl α) 0 (lenI (⟨l,cp⟩:Sl α)) (lenI (⟨l,cp⟩:Sl α)) = some ⟨l,some l.length⟩:=by
  unfold sl3I
  rw [lenI_mk,if_pos (show (0:Int) ≤ 0 ∧ (0:Int) ≤ (l.length:Int) ∧ (l.length:Int) ≤ (l.length:Int) ∧ (l.length:Int) ≤ (l.length:Int) by omega)]
  simp
theorem ifDT {α:Type} {p:Prop} [Decidable p] {a b:α} (h:p):(if decide p = true then a else b) = a:=by rw [decide_eq_true h];rfl
theorem ifDF {α:Type} {p:Prop} [Decidable p] {a b:α} (h:¬ p):(if decide p = true then a else b) = b:=by rw [decide_eq_false h];rfl
theorem cutI_0 {α:Type} (l:List α):cutI l 0 = some []:=by unfold cutI;rw [if_pos (by omega)];simp
theorem slI_take {α:Type} {x:Sl α} {i:Nat} (hi:i ≤ x.xs.length):∃ c,slI x 0 (i:Int) = some ⟨x.xs.take i,c⟩:=by
  unfold slI
  rw [if_pos (show (0:Int) ≤ 0 ∧ (0:Int) ≤ (i:Int) ∧ (i:Int) ≤ (x.xs.length:Int) by omega)]
  exact ⟨x.cap.map fun k=>k - (0:Int).toNat,by simp⟩
theorem slI_drop {α:Type} {x:Sl α} {i:Nat} (hi:i ≤ x.xs.length):∃ c,slI x (i:Int) (lenI x) = some ⟨x.xs.drop i,c⟩:=by
  unfold slI
  rw [len_def,if_pos (show (0:Int) ≤ (i:Int) ∧ (i:Int) ≤ (x.xs.length:Int) ∧ (x.xs.length:Int) ≤ (x.xs.length:Int) by omega)]
  exact ⟨x.cap.map fun k=>k - (i:Int).toNat,by simp⟩

/-- The first place of a number, or -1. -/
def fnd (l:List Int) (v:Int):Option Nat:=l.findIdx? fun s=>s == v
def at_ (o:Option Nat) (a:Int):Int:=match o with | some i=>(i:Int) | none=>a
theorem fnd_snoc (l:List Int) (y v:Int):fnd (l ++ [y]) v = match fnd l v with | some i=>some i | none=>if y == v then some l.length else none:=by
  unfold fnd
  rw [List.findIdx?_append]
  cases l.findIdx? (fun s=>s == v) with
  | some i=>rfl
  | none =>
    by_cases h:(y == v) = true
    · simp [List.findIdx?_cons,h]
    · simp [List.findIdx?_cons,h]
theorem fnd_lt {l:List Int} {v:Int} {i:Nat} (h:fnd l v = some i):i < l.length:=by
  unfold fnd at h
  exact (List.findIdx?_eq_some_iff_getElem.1 h).1
theorem p29_l1_eq (n:Nat) (x:Sl Int) (v:Int) (hl:x.xs.length ≤ 1000):∀ (m k:Nat),x.xs.length - k < m → k ≤ x.xs.length → p29_l1 n x v m k = some (match (x.xs.drop k).findIdx? (fun s=>s == v) with | some i=>.inr ((k + i:Nat):Int) | none=>.inl ()):=by
  intro m
  induction m with
  | zero=>intro k h;exact absurd h (by omega)
  | succ m ih =>
    intro k h hk
    rw [p29_l1]
    by_cases hlt:k < x.xs.length
    · rw [len_def,ifDT (by omega),idxE hlt,Option.bind_some,drop_cons hlt,List.findIdx?_cons]
      by_cases he:v = x.xs[k]
      · rw [if_pos (by simpa using he),if_pos (by simpa using he.symm)];rfl
      · rw [if_neg (by simpa using he),if_neg (by simpa using fun q:x.xs[k] = v=>he q.symm),ckS (by omega) (by omega),Option.bind_some,castS,ih (k + 1) (by omega) (by omega)]
        cases (x.xs.drop (k + 1)).findIdx? (fun s=>s == v) with
        | some i=>simp only [Option.map_some];rw [show k + 1 + i = k + (i + 1) by omega]
        | none=>rfl
    · rw [len_def,ifDF (by omega),List.drop_eq_nil_of_le (by omega)];rfl
theorem p29_eq {n:Nat} (hn:1100 ≤ n) (x:Sl Int) (v:Int) (hl:x.xs.length ≤ 1000):p29 n x v = some (at_ (fnd x.xs v) (-1)):=by
  unfold p29
  have h:=p29_l1_eq n x v hl n 0 (by omega) (by omega)
  rw [show ((0:Nat):Int) = 0 from rfl,List.drop_zero] at h
  rw [h,Option.bind_some]
  unfold fnd
  cases x.xs.findIdx? (fun s=>s == v) with
  | some i=>simp only;rw [lrKr,Nat.zero_add];rfl
  | none=>rfl
theorem p33_eq (n:Nat) (x:Sl Int) (hl:x.xs.length ≤ 1000):∃ c,p33 n x = some ⟨x.xs,c⟩:=by
  unfold p33
  rw [appI_ok (by simp;omega),Option.bind_some,List.nil_append]
  exact ⟨_,rfl⟩
theorem p30_eq (n:Nat) (x:Sl Int):p30 n x = some ⟨x.xs,some x.xs.length⟩:=by
  obtain ⟨l,c⟩:=x
  unfold p30
  rw [sl3I_all,Option.bind_some]
theorem p47_nil_eq (n:Nat) (k:Nat) (hk:k ≤ 1000):p47_nil n (k:Int) = some ⟨[],.none⟩:=by
  unfold p47_nil
  rw [ifDF (by omega),show capO (⟨[],some 0⟩:Sl Int) = some 0 from rfl,Option.bind_some,lenI_mk,ckS (by simp) (by simp),Option.bind_some,show (0:Int) - (([]:List Int).length:Int) = 0 from rfl,ckS (by omega) (by omega),Option.bind_some,Option.bind_some]
  by_cases h:(k:Int) - 0 > 0
  · rw [ifDT h,cutI_0,Option.bind_some]
    unfold appZ
    rw [if_pos (by simp;omega),Option.bind_some,List.nil_append,show ((([]:List Int).length:Nat):Int) = 0 from rfl,cutI_0,Option.bind_some,Option.bind_some]
  · rw [ifDF h,Option.bind_some]
theorem p31_eq {n:Nat} (hn:10 ≤ n) (a b:Sl Int) (h1:a.xs.length ≤ 300) (h2:b.xs.length ≤ 300):p31 n (⟨[a,b],some 2⟩:Sl (Sl Int)) = some ⟨a.xs ++ b.xs,.none⟩:=by
  obtain ⟨m,rfl⟩:∃ m,n = m + 10:=⟨n - 10,by omega⟩
  unfold p31
  have e1:p31_l1 (m + 10) (⟨[a,b],some 2⟩:Sl (Sl Int)) (m + 10) 0 0 = some ((a.xs.length + b.xs.length:Nat):Int):=by
    rw [p31_l1,ifDT (show (0:Int) < lenI (⟨[a,b],some 2⟩:Sl (Sl Int)) from (by decide:(0:Int) < 2)),show idx (⟨[a,b],some 2⟩:Sl (Sl Int)).xs 0 = some a from rfl,Option.bind_some,len_def,ckS (by omega) (by omega),Option.bind_some,ifDF (by omega),ckS (by omega) (by omega),Option.bind_some]
    rw [p31_l1,ifDT (show (0:Int) + 1 < lenI (⟨[a,b],some 2⟩:Sl (Sl Int)) from (by decide:(0:Int) + 1 < 2)),show idx (⟨[a,b],some 2⟩:Sl (Sl Int)).xs (0 + 1) = some b from rfl,Option.bind_some,len_def,ckS (by omega) (by omega),Option.bind_some,ifDF (by omega),ckS (by omega) (by omega),Option.bind_some]
    rw [p31_l1,ifDF (show ¬ (0:Int) + 1 + 1 < lenI (⟨[a,b],some 2⟩:Sl (Sl Int)) from (by decide:¬ (0:Int) + 1 + 1 < 2))]
    rw [show (0:Int) + (a.xs.length:Int) + (b.xs.length:Int) = ((a.xs.length + b.xs.length:Nat):Int) by omega]
  have e2:p31_l2 (m + 10) (⟨[a,b],some 2⟩:Sl (Sl Int)) (m + 10) 0 [] = some (a.xs ++ b.xs):=by
    rw [p31_l2,ifDT (show (0:Int) < lenI (⟨[a,b],some 2⟩:Sl (Sl Int)) from (by decide:(0:Int) < 2)),show idx (⟨[a,b],some 2⟩:Sl (Sl Int)).xs 0 = some a from rfl,Option.bind_some,appI_ok (by simp;omega),Option.bind_some,ckS (by omega) (by omega),Option.bind_some]
    rw [p31_l2,ifDT (show (0:Int) + 1 < lenI (⟨[a,b],some 2⟩:Sl (Sl Int)) from (by decide:(0:Int) + 1 < 2)),show idx (⟨[a,b],some 2⟩:Sl (Sl Int)).xs (0 + 1) = some b from rfl,Option.bind_some,appI_ok (by simp;omega),Option.bind_some,ckS (by omega) (by omega),Option.bind_some]
    rw [p31_l2,ifDF (show ¬ (0:Int) + 1 + 1 < lenI (⟨[a,b],some 2⟩:Sl (Sl Int)) from (by decide:¬ (0:Int) + 1 + 1 < 2)),List.nil_append]
  rw [e1,Option.bind_some,p47_nil_eq _ _ (by omega),Option.bind_some]
  simp only
  rw [e2,Option.bind_some]
theorem p14_l1_eq (n:Nat) (a b:Sl Int) (hl:a.xs.length = b.xs.length) (h3:a.xs.length ≤ 300):∀ (m k:Nat),a.xs.length - k < m → k ≤ a.xs.length → p14_l1 n a b m k = some (if a.xs.drop k = b.xs.drop k then .inl () else .inr false):=by
  intro m
  induction m with
  | zero=>intro k h;exact absurd h (by omega)
  | succ m ih =>
    intro k h hk
    rw [p14_l1,len_def]
    by_cases hlt:k < a.xs.length
    · rw [ifDT (by omega),idxE hlt,Option.bind_some,idxE (show k < b.xs.length by omega),Option.bind_some,drop_cons hlt,drop_cons (show k < b.xs.length by omega)]
      by_cases he:a.xs[k] = b.xs[k]
      · rw [if_neg (by simpa using he),ckS (by omega) (by omega),Option.bind_some,castS,ih (k + 1) (by omega) (by omega)]
        by_cases h1:a.xs.drop (k + 1) = b.xs.drop (k + 1)
        · rw [if_pos h1,if_pos (by rw [he,h1])]
        · rw [if_neg h1,if_neg (fun q=>h1 (List.cons.inj q).2)]
      · rw [if_pos (by simpa using he),if_neg (fun q=>he (List.cons.inj q).1)]
    · rw [ifDF (by omega),List.drop_eq_nil_of_le (by omega),List.drop_eq_nil_of_le (by omega),if_pos rfl]
theorem p14_same {n:Nat} (hn:400 ≤ n) (a:List Int) (cb:Option Nat) (h3:a.length ≤ 300):p14 n ⟨a,some a.length⟩ ⟨a,cb⟩ = some true:=by
  unfold p14
  rw [lenI_mk,lenI_mk,if_pos (by simp),show capO (⟨a,some a.length⟩:Sl Int) = some (a.length:Int) from rfl,Option.bind_some,Option.bind_some,if_neg (by simp)]
  have h:=p14_l1_eq n ⟨a,some a.length⟩ ⟨a,cb⟩ rfl h3 n 0 (by simp;omega) (by simp)
  rw [show ((0:Nat):Int) = 0 from rfl,if_pos rfl] at h
  rw [h,Option.bind_some,lrKl]
def nilI:Sl Int:=⟨[],some 0⟩
theorem p12_no {n:Nat} (hn:1100 ≤ n) (x:Sl Int) (v:Int) (hl:x.xs.length ≤ 300) (h:fnd x.xs v = none):p12 n x v = some (nilI,7):=by
  unfold p12
  rw [p29_eq hn x v (by omega),h,Option.bind_some]
  rfl
theorem p12_yes {n:Nat} (hn:1100 ≤ n) (x:Sl Int) (v:Int) (hl:x.xs.length ≤ 300) {i:Nat} (h:fnd x.xs v = some i):p12 n x v = some (⟨x.xs.take i ++ x.xs.drop (i + 1),some (x.xs.take i ++ x.xs.drop (i + 1)).length⟩,0):=by
  have hi:=fnd_lt h
  unfold p12
  rw [p29_eq hn x v (by omega),h,Option.bind_some]
  obtain ⟨c1,e1⟩:=slI_take (x:=x) (i:=i) (by omega)
  obtain ⟨c2,e2⟩:=slI_drop (x:=x) (i:=i + 1) (by omega)
  show (if decide ((i:Int) < 0) = true then _ else _) = _
  rw [ifDF (by omega)]
  show (slI x 0 (i:Int)).bind _ = _
  rw [e1,Option.bind_some,show at_ (some i) (-1) = (i:Int) from rfl,ckS (by omega) (by omega),Option.bind_some,castS,e2,Option.bind_some,p31_eq (by omega) _ _ (by simp;omega) (by simp;omega),Option.bind_some,p30_eq,Option.bind_some]
theorem p13_eq {n:Nat} (hn:1100 ≤ n) (x:Sl Int) (v:Int) (hl:x.xs.length ≤ 300):p13 n x v = some (if v < 0 then (nilI,1) else if (fnd x.xs v).isSome = true then (nilI,8) else if 256 ≤ x.xs.length then (nilI,3) else (⟨x.xs ++ [v],some (x.xs ++ [v]).length⟩,0)):=by
  unfold p13
  by_cases h1:v < 0
  · rw [ifDT h1,if_pos h1];rfl
  · rw [ifDF h1,if_neg h1]
    unfold p32
    rw [p29_eq hn x v (by omega),Option.bind_some,Option.bind_some]
    cases hf:fnd x.xs v with
    | some i=>rw [ifDT (show at_ (some i) (-1) ≥ 0 by show (i:Int) ≥ 0;omega),if_pos (show (some i).isSome = true from rfl)];rfl
    | none =>
      rw [ifDF (show ¬ at_ none (-1) ≥ 0 by decide),if_neg (show ¬ (none:Option Nat).isSome = true by decide),len_def]
      by_cases h2:256 ≤ x.xs.length
      · rw [ifDT (by omega),if_pos h2];rfl
      · obtain ⟨c,e⟩:=p33_eq n x (by omega)
        rw [ifDF (by omega),if_neg h2,e,Option.bind_some,appI_ok (by simp;omega),Option.bind_some,p30_eq,Option.bind_some]
end Go.Proofs.Ytfelbalkobcfhaa
