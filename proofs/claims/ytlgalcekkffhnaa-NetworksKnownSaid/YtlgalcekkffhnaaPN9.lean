/- Plain theorems for the laws: what the plain functions say. No condition. -/
import Derived.Test.YtlgalcekkffhnaaLB1
import Derived.Test.YtlgalcekkffhnaaP3
set_option linter.unusedVariables false
set_option linter.unusedSimpArgs false
namespace Go.Proofs.Ytlgalcekkffhnaa
open Go.RowKit
theorem b_g {α:Type} (xs:List α) (c:Option Nat):a_d (⟨xs,c⟩:Sl α) = (xs.length:Int):=rfl
theorem p20_eq (n:Nat) {x:Int} (h:0 ≤ x ∧ x ≤ 1099511627776):p20 n x = some ((x + 3) / 4 * 4):=by
  unfold p20
  rw [a_o (by omega),Option.bind_some,quoI_ok (by omega) (by decide) (by simp;omega),Option.bind_some,a_o (by omega),Option.bind_some]
theorem p23_eq (n:Nat) {x:Int} (h:0 ≤ x ∧ x ≤ 65535):p23 n x = some ⟨[x % 256,x / 256],some 2⟩:=by
  unfold p23
  rw [shrI_8 (by decide) h.1,Option.bind_some,d_F,d_F,show x / 256 % 256 = x / 256 by omega]
theorem p28_eq (n:Nat) {k:Int} (h:0 ≤ k ∧ k ≤ 1099511627776):p28 n k = some ⟨[],.none⟩:=by
  unfold p28
  rw [if_neg (by simp;omega),show d_Y (⟨[],some 0⟩:Sl Int) = some 0 from rfl,Option.bind_some,show a_d (⟨[],some 0⟩:Sl Int) = 0 from rfl,a_o (by omega),Option.bind_some,a_o (by omega),Option.bind_some]
  by_cases hk:k > 0
  · have e1:k - (0 - 0) = k:=by omega
    rw [e1,if_pos (by simpa using hk),Option.bind_some,show cutI ([]:List Int) 0 = some [] from rfl,Option.bind_some]
    rw [show appZ ([]:List Int) k 0 = some (List.replicate k.toNat 0) by unfold appZ;rw [if_pos ⟨by omega,by simp;omega⟩];simp,Option.bind_some]
    rw [show cutI (List.replicate k.toNat (0:Int)) 0 = some [] by unfold cutI;rw [if_pos ⟨Int.le_refl 0,Int.natCast_nonneg _⟩];simp,Option.bind_some,Option.bind_some]
  · rw [if_neg (by simp;omega),Option.bind_some]
def cat:List (Sl Int) → List Int
  | []=>[]
  | s :: l=>s.xs ++ cat l
@[simp] theorem cat_nil:cat [] = []:=rfl
@[simp] theorem d_T (s:Sl Int) (l:List (Sl Int)):cat (s :: l) = s.xs ++ cat l:=rfl
theorem p22_l1_eq (n:Nat) (x:Sl (Sl Int)) (hL:x.xs.length ≤ 1000000):∀ (m k:Nat) (acc:Int),x.xs.length < k + m → k ≤ x.xs.length → 0 ≤ acc → acc + (cat (x.xs.drop k)).length ≤ 1099511627776 →
    p22_l1 n x m k acc = some (acc + (cat (x.xs.drop k)).length)
  | 0,k,acc,h,hk,_,_=>by omega
  | m + 1,k,acc,h,hk,h0,hs=>by
    unfold p22_l1
    by_cases hlt:k < x.xs.length
    · have ex:=List.drop_eq_getElem_cons hlt
      have e2:(cat (x.xs.drop k)).length = x.xs[k].xs.length + (cat (x.xs.drop (k + 1))).length:=by rw [ex,d_T,List.length_append]
      rw [if_pos (by simp [a_d];omega),a_I,List.getElem?_eq_getElem hlt,Option.bind_some,a_o (by simp only [a_d];omega),Option.bind_some,if_neg (by rw [decide_eq_true_eq];simp only [a_d];omega),a_o (by omega),Option.bind_some,
        show ((k:Int) + 1) = ((k + 1:Nat):Int) by simp,p22_l1_eq n x hL m (k + 1) _ (by omega) (by omega) (by simp only [a_d];omega) (by simp only [a_d];omega)]
      simp only [a_d]
      congr 1
      omega
    · rw [if_neg (by simp [a_d];omega),List.drop_eq_nil_of_le (by omega)]
      simp
theorem p22_l2_eq (n:Nat) (x:Sl (Sl Int)) (hL:x.xs.length ≤ 1000000):∀ (m k:Nat) (acc:List Int),x.xs.length < k + m → k ≤ x.xs.length → acc.length + (cat (x.xs.drop k)).length ≤ 1099511627776 →
    p22_l2 n x m k acc = some (acc ++ cat (x.xs.drop k))
  | 0,k,acc,h,hk,_=>by omega
  | m + 1,k,acc,h,hk,hs=>by
    unfold p22_l2
    by_cases hlt:k < x.xs.length
    · have ex:=List.drop_eq_getElem_cons hlt
      have e2:cat (x.xs.drop k) = x.xs[k].xs ++ cat (x.xs.drop (k + 1)):=by rw [ex,d_T]
      rw [e2,List.length_append] at hs
      rw [if_pos (by simp [a_d];omega),a_I,List.getElem?_eq_getElem hlt,Option.bind_some,b_i (by omega),Option.bind_some,a_o (by omega),Option.bind_some,
        show ((k:Int) + 1) = ((k + 1:Nat):Int) by simp,p22_l2_eq n x hL m (k + 1) _ (by omega) (by omega) (by rw [List.length_append];omega),e2,List.append_assoc]
    · rw [if_neg (by simp [a_d];omega),List.drop_eq_nil_of_le (by omega)]
      simp
theorem p22_eq (n:Nat) (x:Sl (Sl Int)) (hL:x.xs.length < n) (hL':x.xs.length ≤ 1000000) (hs:(cat x.xs).length ≤ 1099511627776):p22 n x = some ⟨cat x.xs,.none⟩:=by
  unfold p22
  have e:p22_l1 n x n 0 0 = some (0 + ((cat (x.xs.drop 0)).length:Int)):=p22_l1_eq n x hL' n 0 0 (by omega) (by omega) (by omega) (by rw [List.drop_zero];omega)
  have e2:p22_l2 n x n 0 [] = some ([] ++ cat (x.xs.drop 0)):=p22_l2_eq n x hL' n 0 [] (by omega) (by omega) (by rw [List.drop_zero];simpa using hs)
  rw [List.drop_zero] at e e2
  rw [e,Option.bind_some,p28_eq n (by omega),Option.bind_some,e2,Option.bind_some,List.nil_append]
theorem p24_eq (n:Nat) (x:Sl Int):p24 n x = some ⟨x.xs,some x.xs.length⟩:=by
  unfold p24 d_v
  rw [if_pos (by simp [a_d])]
  simp [a_d]
theorem p27_eq (n:Nat) (x:Sl (Sl Int)):p27 n x = some ⟨x.xs,some x.xs.length⟩:=by
  unfold p27 d_v
  rw [if_pos (by simp [a_d])]
  simp [a_d]
theorem p26_eq (n:Nat) (x:Sl Int) (h:x.xs.length ≤ 1000000):p26 n x = some ⟨x.xs,b_f (some 0) x.xs.length⟩:=by
  unfold p26
  rw [b_i (by simp;omega),Option.bind_some]
  simp
theorem or64I {a b:Int} (ha:0 ≤ a ∧ a ≤ 255) (hb:0 ≤ b ∧ b ≤ 255):c_D .or .i64 a (b * 256) = a + 256 * b:=by
  obtain ⟨m,rfl⟩:=Int.eq_ofNat_of_zero_le ha.1
  obtain ⟨n,rfl⟩:=Int.eq_ofNat_of_zero_le hb.1
  have h1:m < 2 ^ 8:=by omega
  have e:((n:Int) * 256) = ((n * 256:Nat):Int):=by simp
  rw [e]
  show IntKind.wrap .i64 ((BitVec.ofInt 64 (m:Int) ||| BitVec.ofInt 64 ((n * 256:Nat):Int)).toNat:Int) = _
  simp only [BitVec.toNat_or,BitVec.ofInt_natCast,BitVec.toNat_ofNat]
  rw [Nat.mod_eq_of_lt (by omega:m < 2 ^ 64),Nat.mod_eq_of_lt (by omega:n * 256 < 2 ^ 64),Nat.or_comm,show n * 256 = n <<< 8 by rw [Nat.shiftLeft_eq],← Nat.shiftLeft_add_eq_or_of_lt h1,Nat.shiftLeft_eq,IntKind.wrap_i64]
  omega
theorem shl64_8 {b:Int} (hb:0 ≤ b ∧ b ≤ 255):shlI .i64 b 8 = some (b * 256):=by
  unfold shlI
  rw [if_pos (by decide)]
  congr 1
  show IntKind.wrap .i64 (b * 2 ^ 8) = b * 256
  rw [IntKind.wrap_i64]
  omega
theorem p25_eq (n i:Nat) {x y:Int} (s:Sl Int) (h1:s.xs[i]? = some x) (h2:s.xs[i + 1]? = some y) (hi:i < 1000000) (hx:0 ≤ x ∧ x ≤ 255) (hy:0 ≤ y ∧ y ≤ 255):p25 n i s = some (x + 256 * y):=by
  unfold p25
  rw [a_I,h1,Option.bind_some,a_o (by omega),Option.bind_some,show ((i:Int) + 1) = ((i + 1:Nat):Int) by simp,a_I,h2,Option.bind_some,shl64_8 hy,Option.bind_some,or64I hx hy]
theorem p14_eq (n i:Nat) {x y:Int} (s:Sl Int) (h1:s.xs[i]? = some x) (h2:s.xs[i + 1]? = some y) (hi:i < 1000000) (hx:0 ≤ x ∧ x ≤ 255) (hy:0 ≤ y ∧ y ≤ 255):p14 n s i = some (x + 256 * y):=by
  unfold p14
  rw [a_I,h1,Option.bind_some,a_o (by omega),Option.bind_some,show ((i:Int) + 1) = ((i + 1:Nat):Int) by simp,a_I,h2,Option.bind_some,a_o (by omega),Option.bind_some,a_o (by omega),Option.bind_some]
def pad (k:Nat):Nat:=(k + 3) / 4 * 4
def body:List (List Int) → List Int
  | []=>[]
  | f :: fs=>f ++ (List.replicate (pad f.length - f.length) 0 ++ body fs)
def d_w (x:Int):List Int:=[x % 256,x / 256]
def d_K:Nat → List (List Int) → List Int
  | _,[]=>[]
  | off,f :: fs=>d_w off ++ (d_w f.length ++ d_K (off + pad f.length) fs)
def okF (fs:List (List Int)):Prop:=∀ f ∈ fs,1 ≤ f.length ∧ f.length ≤ 1514
instance (fs:List (List Int)):Decidable (okF fs):=inferInstanceAs (Decidable (∀ f ∈ fs,1 ≤ f.length ∧ f.length ≤ 1514))
def a_J (fs:List (List Int)):Nat:=24 + 4 * fs.length + (body fs).length
def a_K (fs:List (List Int)):Int × Int:=if okF fs then (if fs.length > 64 ∨ a_J fs > 16384 then (0,3) else ((a_J fs:Int),0)) else (0,1)
def a_P (fs:List (List Int)):List Int:=fs.map fun f=>(f.length:Int)
theorem a_D (f:List Int) (fs:List (List Int)):(body (f :: fs)).length = pad f.length + (body fs).length:=by
  simp only [body,List.length_append,List.length_replicate,pad]
  omega
theorem okF_cons {f:List Int} {fs:List (List Int)}:okF (f :: fs) ↔ (1 ≤ f.length ∧ f.length ≤ 1514) ∧ okF fs:=by
  simp [okF]
theorem body_4:∀ fs:List (List Int),(body fs).length % 4 = 0
  | []=>rfl
  | f :: fs=>by have:=body_4 fs;rw [a_D];unfold pad;omega
def cf:Nat → List (List Int) → Nat
  | a,[]=>a
  | a,f :: fs=>cf (pad (min a 16384 + f.length)) fs
theorem d_U:∀ (fs:List (List Int)) (a:Nat),a % 4 = 0 → a + (body fs).length ≤ 16384 → cf a fs = a + (body fs).length
  | [],a,_,_=>rfl
  | f :: fs,a,h,hs=>by
    rw [a_D] at hs ⊢
    unfold cf
    have e:pad (min a 16384 + f.length) = a + pad f.length:=by unfold pad at *;omega
    rw [e,d_U fs _ (by unfold pad;omega) (by omega)]
    omega
theorem cf_big:∀ (fs:List (List Int)) (a:Nat),a % 4 = 0 → okF fs → 16384 < a + (body fs).length → 16384 < cf a fs
  | [],a,_,_,hs=>by simpa [cf,body] using hs
  | f :: fs,a,h,hok,hs=>by
    rw [a_D] at hs
    obtain ⟨hf,hok⟩:=okF_cons.1 hok
    unfold cf
    refine cf_big fs _ (by unfold pad;omega) hok ?_
    unfold pad at *
    omega
theorem cf_le:∀ (fs:List (List Int)) (a:Nat),okF fs → a ≤ 20000 → cf a fs ≤ 20000
  | [],a,_,h=>h
  | f :: fs,a,hok,h=>by
    obtain ⟨hf,hok⟩:=okF_cons.1 hok
    unfold cf
    refine cf_le fs _ hok ?_
    unfold pad
    omega
theorem d_q (fs:List (List Int)) (k:Nat) (h:k < fs.length):(a_P fs)[k]? = some (fs[k].length:Int):=by
  simp [a_P,List.getElem?_eq_getElem h]
theorem p10_l1_eq (n:Nat) (fs:List (List Int)) (c:Option Nat) (hL:fs.length ≤ 1000000):∀ (m k a:Nat),fs.length < k + m → k ≤ fs.length → a ≤ 20000 →
    p10_l1 n ⟨a_P fs,c⟩ m k a = some (if okF (fs.drop k) then .inl ((cf a (fs.drop k):Nat):Int) else .inr (0,1))
  | 0,k,a,h,hk,_=>by omega
  | m + 1,k,a,h,hk,ha=>by
    unfold p10_l1
    by_cases hlt:k < fs.length
    · have ex:=List.drop_eq_getElem_cons hlt
      have hl:(a_P fs).length = fs.length:=by simp [a_P]
      rw [if_pos (by simp [a_d,hl];omega),a_I,d_q fs k hlt,Option.bind_some,orS,Option.bind_some,ex]
      by_cases hf:1 ≤ fs[k].length ∧ fs[k].length ≤ 1514
      · rw [if_neg (by simp;omega)]
        have e1:(if (16384:Int) < (a:Int) then (16384:Int) else (a:Int)) = ((min a 16384:Nat):Int):=by split <;> omega
        rw [e1,a_o (by omega),Option.bind_some,p20_eq n (by omega),Option.bind_some,a_o (by omega),Option.bind_some]
        have e2:((min a 16384:Nat):Int) + (fs[k].length:Int) + 3 = ((min a 16384 + fs[k].length + 3:Nat):Int):=by omega
        have e3:(((min a 16384:Nat):Int) + (fs[k].length:Int) + 3) / 4 * 4 = ((pad (min a 16384 + fs[k].length):Nat):Int):=by rw [e2];unfold pad;omega
        rw [e3,show ((k:Int) + 1) = ((k + 1:Nat):Int) by simp,p10_l1_eq n fs c hL m (k + 1) _ (by omega) (by omega) (by unfold pad;omega)]
        by_cases h2:okF (fs.drop (k + 1))
        · rw [if_pos h2,if_pos (okF_cons.2 ⟨hf,h2⟩)];rfl
        · rw [if_neg h2,if_neg (fun h=>h2 (okF_cons.1 h).2)]
      · rw [if_pos (by simp;omega),if_neg (fun h=>hf (okF_cons.1 h).1)]
    · have hl:(a_P fs).length = fs.length:=by simp [a_P]
      rw [if_neg (by simp [a_d,hl];omega),List.drop_eq_nil_of_le (by omega)]
      rfl
theorem p10_eq (n:Nat) (fs:List (List Int)) (c:Option Nat) (hL:fs.length < n) (hL':fs.length ≤ 1000000):p10 n ⟨a_P fs,c⟩ = some (a_K fs):=by
  unfold p10
  have hl:(a_P fs).length = fs.length:=by simp [a_P]
  have e:p10_l1 n ⟨a_P fs,c⟩ n 0 12 = some (if okF (fs.drop 0) then .inl ((cf 12 (fs.drop 0):Nat):Int) else .inr (0,1)):=p10_l1_eq n fs c hL' n 0 12 (by omega) (by omega) (by omega)
  rw [List.drop_zero] at e
  rw [e,Option.bind_some]
  unfold a_K
  by_cases hok:okF fs
  · rw [if_pos hok,if_pos hok]
    have hle:=cf_le fs 12 hok (by omega)
    simp only [lrK]
    rw [a_o (by simp only [a_d,hl];omega),Option.bind_some,a_o (by simp only [a_d,hl];omega),Option.bind_some,a_o (by simp only [a_d,hl];omega),Option.bind_some,orS,Option.bind_some]
    simp only [a_d,hl]
    by_cases hs:12 + (body fs).length ≤ 16384
    · have e2:=d_U fs 12 (by omega) hs
      rw [e2]
      by_cases hc:fs.length > 64 ∨ a_J fs > 16384
      · rw [if_pos (by simp only [Bool.or_eq_true,decide_eq_true_eq];unfold a_J at hc;omega),if_pos hc]
      · rw [if_neg (by simp only [Bool.or_eq_true,decide_eq_true_eq];unfold a_J at hc;omega),if_neg hc]
        unfold a_J
        congr 2
        omega
    · have e2:=cf_big fs 12 (by omega) hok (by omega)
      rw [if_pos (by simp only [Bool.or_eq_true,decide_eq_true_eq];omega),if_pos (.inr (by unfold a_J;omega))]
  · rw [if_neg hok,if_neg hok]
    rfl
theorem p9_l2_eq (n m:Nat) (c:Nat) (hc:c ≤ 1000000000):p9_l2 n (m + 4) c = some ((pad c:Nat):Int):=by
  have step:∀ (m c:Nat),c ≤ 2000000000 → p9_l2 n (m + 1) c = if c % 4 = 0 then some (c:Int) else p9_l2 n m ((c + 1:Nat):Int):=by
    intro m c hc
    rw [p9_l2,a_S (by omega) (by decide) (by simp;omega),Option.bind_some]
    by_cases h:c % 4 = 0
    · rw [if_neg (by simp;omega),if_pos h]
    · rw [if_pos (by simp;omega),if_neg h,a_o (by omega),Option.bind_some]
      rfl
  rw [step _ _ (by omega)]
  unfold pad
  split
  · congr 1;omega
  · rw [step _ _ (by omega)]
    split
    · congr 1;omega
    · rw [step _ _ (by omega)]
      split
      · congr 1;omega
      · rw [step _ _ (by omega),if_pos (by omega)]
        congr 1;omega
theorem p9_l1_eq (n:Nat) (fs:List (List Int)) (c:Option Nat) (hL:fs.length ≤ 1000) (hn:4 ≤ n):∀ (m k a:Nat),fs.length < k + m → k ≤ fs.length → a % 4 = 0 → a ≤ 24 + 2000 * k →
    p9_l1 n ⟨a_P fs,c⟩ m k a = some (if okF (fs.drop k) then .inl ((a + 4 * (fs.drop k).length + (body (fs.drop k)).length:Nat):Int) else .inr (0,1))
  | 0,k,a,h,hk,_,_=>by omega
  | m + 1,k,a,h,hk,h4,ha=>by
    unfold p9_l1
    have hl:(a_P fs).length = fs.length:=by simp [a_P]
    by_cases hlt:k < fs.length
    · have ex:=List.drop_eq_getElem_cons hlt
      rw [if_pos (by simp [a_d,hl];omega),a_I,d_q fs k hlt,Option.bind_some,Option.bind_some,orS,Option.bind_some,ex]
      by_cases hf:1 ≤ fs[k].length ∧ fs[k].length ≤ 1514
      · rw [if_neg (by simp;omega),a_o (by omega),Option.bind_some,Option.bind_some,a_o (by omega),Option.bind_some]
        obtain ⟨n',rfl⟩:∃ n',n = n' + 4:=⟨n - 4,by omega⟩
        rw [show (a:Int) + 4 + (fs[k].length:Int) = ((a + 4 + fs[k].length:Nat):Int) by omega,p9_l2_eq _ _ _ (by omega),Option.bind_some,a_o (by omega),Option.bind_some,show ((k:Int) + 1) = ((k + 1:Nat):Int) by simp]
        have e3:pad (a + 4 + fs[k].length) = a + 4 + pad fs[k].length:=by unfold pad;omega
        rw [e3,p9_l1_eq _ fs c hL hn m (k + 1) _ (by omega) (by omega) (by unfold pad;omega) (by unfold pad;omega),a_D,List.length_cons]
        by_cases h2:okF (fs.drop (k + 1))
        · rw [if_pos h2,if_pos (okF_cons.2 ⟨hf,h2⟩)];congr 3;omega
        · rw [if_neg h2,if_neg (fun h=>h2 (okF_cons.1 h).2)]
      · rw [if_pos (by simp;omega),if_neg (fun h=>hf (okF_cons.1 h).1)]
    · rw [if_neg (by simp [a_d,hl];omega),List.drop_eq_nil_of_le (by omega)]
      rfl
theorem p9_eq (n:Nat) (fs:List (List Int)) (c:Option Nat) (hL:fs.length < n) (hn:4 ≤ n) (hL':fs.length ≤ 1000):p9 n ⟨a_P fs,c⟩ = some (a_K fs):=by
  unfold p9
  have hl:(a_P fs).length = fs.length:=by simp [a_P]
  have e:p9_l1 n ⟨a_P fs,c⟩ n 0 24 = some (if okF (fs.drop 0) then .inl ((24 + 4 * (fs.drop 0).length + (body (fs.drop 0)).length:Nat):Int) else .inr (0,1)):=p9_l1_eq n fs c hL' hn n 0 24 (by omega) (by omega) (by omega) (by omega)
  rw [List.drop_zero] at e
  rw [e,Option.bind_some]
  unfold a_K
  by_cases hok:okF fs
  · rw [if_pos hok,if_pos hok]
    simp only [lrK]
    rw [orS,Option.bind_some]
    simp only [a_d,hl]
    by_cases hc:fs.length > 64 ∨ a_J fs > 16384
    · rw [if_pos (by simp only [Bool.or_eq_true,decide_eq_true_eq];unfold a_J at hc;omega),if_pos hc]
    · rw [if_neg (by simp only [Bool.or_eq_true,decide_eq_true_eq];unfold a_J at hc;omega),if_neg hc]
      rfl
  · rw [if_neg hok,if_neg hok]
    rfl
def a_r (l:List (Sl Int)):List (List Int):=l.map Sl.xs
theorem p21_l1_eq (n:Nat) (x:Sl (Sl Int)) (hL:x.xs.length ≤ 1000000):∀ (m k:Nat) (acc:List Int),x.xs.length < k + m → k ≤ x.xs.length → acc.length = k → p21_l1 n x m k acc = some (acc ++ a_P (a_r (x.xs.drop k)))
  | 0,k,acc,h,hk,_=>by omega
  | m + 1,k,acc,h,hk,ha=>by
    unfold p21_l1
    by_cases hlt:k < x.xs.length
    · have ex:=List.drop_eq_getElem_cons hlt
      rw [if_pos (by simp [a_d];omega),a_I,List.getElem?_eq_getElem hlt,Option.bind_some,b_i (by simp;omega),Option.bind_some,a_o (by omega),Option.bind_some,
        show ((k:Int) + 1) = ((k + 1:Nat):Int) by simp,p21_l1_eq n x hL m (k + 1) _ (by omega) (by omega) (by simp [ha]),show a_r (x.xs.drop k) = x.xs[k].xs :: a_r (x.xs.drop (k + 1)) by rw [ex];rfl]
      simp [a_P,a_d]
    · rw [if_neg (by simp [a_d];omega),List.drop_eq_nil_of_le (by omega)]
      simp [a_P,a_r]
theorem p21_eq (n:Nat) (x:Sl (Sl Int)) (hL:x.xs.length < n) (hL':x.xs.length ≤ 1000000):p21 n x = some ⟨a_P (a_r x.xs),.none⟩:=by
  unfold p21
  have e:p21_l1 n x n 0 [] = some ([] ++ a_P (a_r (x.xs.drop 0))):=p21_l1_eq n x hL' n 0 [] (by omega) (by omega) rfl
  rw [List.drop_zero,List.nil_append] at e
  rw [e,Option.bind_some]
theorem p11_l1_eq (n num:Nat) (x:Int × Sl (Sl Int)) (hL:x.2.xs.length ≤ 1000) (hn:4 ≤ n):∀ (m k:Nat) (en out:List Int),x.2.xs.length < k + m → k ≤ x.2.xs.length → out.length % 4 = 0 → okF (a_r (x.2.xs.drop k)) →
    out.length + (body (a_r (x.2.xs.drop k))).length ≤ 20000 → en.length ≤ 100 + 4 * k → p11_l1 n x m k en out = some (out ++ body (a_r (x.2.xs.drop k)),en ++ d_K out.length (a_r (x.2.xs.drop k)))
  | 0,k,en,out,h,hk,_,_,_,_=>by omega
  | m + 1,k,en,out,h,hk,h4,hok,hs,he=>by
    unfold p11_l1
    by_cases hlt:k < x.2.xs.length
    · have ex:=List.drop_eq_getElem_cons hlt
      have ex2:a_r (x.2.xs.drop k) = x.2.xs[k].xs :: a_r (x.2.xs.drop (k + 1)):=by rw [ex];rfl
      rw [ex2] at hok hs ⊢
      obtain ⟨hf,hok⟩:=okF_cons.1 hok
      rw [a_D] at hs
      have hp:pad x.2.xs[k].xs.length ≤ 1520 ∧ x.2.xs[k].xs.length ≤ pad x.2.xs[k].xs.length:=by unfold pad;omega
      rw [if_pos (by simp [a_d];omega),a_I,List.getElem?_eq_getElem hlt,Option.bind_some,b_g,p23_eq n (by omega),Option.bind_some,p23_eq n (by simp only [a_d];omega),Option.bind_some]
      rw [p22_eq n _ (by simp;omega) (by simp) (by simp;omega),Option.bind_some,b_i (by omega),Option.bind_some,b_g,p20_eq n (by rw [List.length_append];omega),Option.bind_some,a_o (by rw [List.length_append];omega),Option.bind_some]
      have e1:((out ++ x.2.xs[k].xs).length + 3:Int) / 4 * 4 - ((out ++ x.2.xs[k].xs).length:Int) = ((pad x.2.xs[k].xs.length - x.2.xs[k].xs.length:Nat):Int):=by
        rw [List.length_append]
        unfold pad
        omega
      rw [e1]
      have e2:appZ (out ++ x.2.xs[k].xs) ((pad x.2.xs[k].xs.length - x.2.xs[k].xs.length:Nat):Int) 0 = some (out ++ x.2.xs[k].xs ++ List.replicate (pad x.2.xs[k].xs.length - x.2.xs[k].xs.length) 0):=by
        unfold appZ
        rw [if_pos ⟨by omega,by rw [List.length_append];omega⟩]
        rfl
      rw [e2,Option.bind_some,a_o (by omega),Option.bind_some,show ((k:Int) + 1) = ((k + 1:Nat):Int) by simp]
      have e3:(out ++ x.2.xs[k].xs ++ List.replicate (pad x.2.xs[k].xs.length - x.2.xs[k].xs.length) (0:Int)).length = out.length + pad x.2.xs[k].xs.length:=by
        simp only [List.length_append,List.length_replicate]
        omega
      rw [p11_l1_eq n num x hL hn m (k + 1) _ _ (by omega) (by omega) (by rw [e3];unfold pad;omega) hok (by rw [e3];omega) (by simp;omega),e3]
      simp [body,d_K,d_w,a_d]
    · rw [if_neg (by simp [a_d];omega),List.drop_eq_nil_of_le (by omega)]
      simp [a_r,body,d_K]
def b_m (num:Int) (fs:List (List Int)):List Int :=
  [78,67,77,72] ++ (d_w 12 ++ (d_w num ++ (d_w (a_J fs) ++ (d_w ((12 + (body fs).length:Nat):Int) ++ (body fs ++ ([78,67,77,48] ++ (d_w ((12 + 4 * fs.length:Nat):Int) ++ (d_w 0 ++ (d_K 12 fs ++ [0,0,0,0])))))))))
theorem c_e:∀ (fs:List (List Int)) (a:Nat),(d_K a fs).length = 4 * fs.length
  | [],_=>rfl
  | f :: fs,a=>by simp only [d_K,List.length_append,c_e fs,List.length_cons,d_w,List.length_nil];omega
theorem b_O (num:Int) (fs:List (List Int)):(b_m num fs).length = a_J fs:=by
  simp only [b_m,List.length_append,c_e,d_w,List.length_cons,List.length_nil,a_J]
  omega
theorem p11_eq (n:Nat) (num:Int) (x:Sl (Sl Int)) (hnum:0 ≤ num ∧ num ≤ 65535) (hL:x.xs.length < n) (hn:8 ≤ n) (hL':x.xs.length ≤ 1000) :
    p11 n (num,x) = some (if (a_K (a_r x.xs)).2 = 0 then (⟨b_m num (a_r x.xs),some (a_J (a_r x.xs))⟩,0) else (⟨[],some 0⟩,(a_K (a_r x.xs)).2)):=by
  unfold p11
  have hl:(a_r x.xs).length = x.xs.length:=by simp [a_r]
  simp only
  rw [p21_eq n x hL (by omega),Option.bind_some,p10_eq n _ _ (by omega) (by omega),Option.bind_some]
  by_cases h0:(a_K (a_r x.xs)).2 = 0
  · rw [if_neg (by simp [h0]),if_pos h0]
    have hr:okF (a_r x.xs) ∧ ¬ ((a_r x.xs).length > 64 ∨ a_J (a_r x.xs) > 16384) ∧ a_K (a_r x.xs) = ((a_J (a_r x.xs):Int),0):=by
      unfold a_K at h0 ⊢
      split at h0
      · split at h0
        · cases h0
        · rename_i h1 h2
          exact ⟨h1,h2,by rw [if_pos h1,if_neg h2]⟩
      · cases h0
    obtain ⟨hok,hle,hres⟩:=hr
    rw [hres]
    have ht:a_J (a_r x.xs) ≤ 16384:=by omega
    have htd:a_J (a_r x.xs) = 24 + 4 * (a_r x.xs).length + (body (a_r x.xs)).length:=rfl
    have e1:(a_J (a_r x.xs):Int) - 12 - 4 * (x.xs.length:Int) = ((12 + (body (a_r x.xs)).length:Nat):Int):=by omega
    simp only [a_d]
    rw [a_o (by omega),Option.bind_some,a_o (by omega),Option.bind_some,a_o (by omega),Option.bind_some,p23_eq n (by omega),Option.bind_some,p23_eq n hnum,Option.bind_some,p23_eq n (by omega),Option.bind_some,e1,p23_eq n (by omega),Option.bind_some]
    rw [p22_eq n _ (by simp;omega) (by simp) (by simp),Option.bind_some,Option.bind_some,a_o (by omega),Option.bind_some,p23_eq n (by omega),Option.bind_some,p23_eq n (by omega),Option.bind_some]
    rw [p22_eq n _ (by simp;omega) (by simp) (by simp),Option.bind_some]
    have e2:=p11_l1_eq n 0 (num,x) hL' (by omega) n 0 (cat [(⟨[78,67,77,48],some 4⟩:Sl Int),⟨[(12 + 4 * (x.xs.length:Int)) % 256,(12 + 4 * (x.xs.length:Int)) / 256],some 2⟩,⟨[0 % 256,0 / 256],some 2⟩])
      (cat [(⟨[78,67,77,72],some 4⟩:Sl Int),⟨[12 % 256,12 / 256],some 2⟩,⟨[num % 256,num / 256],some 2⟩,⟨[(a_J (a_r x.xs):Int) % 256,(a_J (a_r x.xs):Int) / 256],some 2⟩,⟨[((12 + (body (a_r x.xs)).length:Nat):Int) % 256,((12 + (body (a_r x.xs)).length:Nat):Int) / 256],some 2⟩]) (by simp only;omega) (by simp) (by simp) (by rw [List.drop_zero];exact hok) (by rw [List.drop_zero];simp;omega) (by simp)
    rw [List.drop_zero] at e2
    rw [show ((0:Nat):Int) = 0 from rfl] at e2
    rw [e2,Option.bind_some,d_P (by decide) (by decide) (by decide),Option.bind_some]
    have hen:(d_K 12 (a_r x.xs)).length = 4 * (a_r x.xs).length:=c_e _ _
    rw [p22_eq n _ (by simp;omega) (by simp) (by simp [hen];omega),Option.bind_some,p24_eq,Option.bind_some]
    have e3:cat [(⟨cat [(⟨[78,67,77,72],some 4⟩:Sl Int),⟨[12 % 256,12 / 256],some 2⟩,⟨[num % 256,num / 256],some 2⟩,⟨[(a_J (a_r x.xs):Int) % 256,(a_J (a_r x.xs):Int) / 256],some 2⟩,⟨[((12 + (body (a_r x.xs)).length:Nat):Int) % 256,((12 + (body (a_r x.xs)).length:Nat):Int) / 256],some 2⟩] ++ body (a_r x.xs),.none⟩:Sl Int),⟨cat [(⟨[78,67,77,48],some 4⟩:Sl Int),⟨[(12 + 4 * (x.xs.length:Int)) % 256,(12 + 4 * (x.xs.length:Int)) / 256],some 2⟩,⟨[0 % 256,0 / 256],some 2⟩] ++ d_K 12 (a_r x.xs),.none⟩,⟨List.replicate (Int.toNat 4) 0,some (Int.toNat 4)⟩] = b_m num (a_r x.xs):=by
      simp [b_m,d_w,hl]
    have e4:(b_m num (a_r x.xs)).length = a_J (a_r x.xs):=b_O _ _
    exact (congrArg (fun z:List Int=>some ((⟨z,some z.length⟩:Sl Int),(0:Int))) e3).trans (by rw [e4])
  · rw [if_pos (by simpa using h0),if_neg h0]
def tl (fs:List (List Int)):List Int :=
  78 :: 67 :: 77 :: 48 :: (((12 + 4 * fs.length:Nat):Int) % 256) :: (((12 + 4 * fs.length:Nat):Int) / 256) :: 0 :: 0 :: (d_K 12 fs ++ [0,0,0,0])
def hd (num:Int) (fs:List (List Int)):List Int :=
  [78,67,77,72,12,0,num % 256,num / 256,(a_J fs:Int) % 256,(a_J fs:Int) / 256,((12 + (body fs).length:Nat):Int) % 256,((12 + (body fs).length:Nat):Int) / 256]
theorem c_O (num:Int) (fs:List (List Int)):b_m num fs = hd num fs ++ (body fs ++ tl fs):=by
  simp [b_m,hd,tl,d_w]
theorem b_e (num:Int) (fs:List (List Int)) (j:Nat):(b_m num fs)[12 + (body fs).length + j]? = (tl fs)[j]?:=by
  rw [c_O,List.getElem?_append_right (by simp [hd];omega),show 12 + (body fs).length + j - (hd num fs).length = (body fs).length + j by simp [hd];omega,List.getElem?_append_right (by omega)]
  congr 1
  omega
theorem b_C (num:Int) (fs:List (List Int)) (j:Nat) (hj:j < 12):(b_m num fs)[j]? = (hd num fs)[j]?:=by
  rw [c_O,List.getElem?_append_left (by simp [hd];omega)]
theorem c_p:∀ (fs:List (List Int)) (k:Nat),body fs = body (fs.take k) ++ body (fs.drop k)
  | [],k=>by simp [body]
  | f :: fs,0=>by simp [body]
  | f :: fs,k + 1=>by
    have:=c_p fs k
    simp only [List.take_succ_cons,List.drop_succ_cons,body,List.append_assoc]
    rw [← this]
theorem d_r:∀ (fs:List (List Int)) (a k:Nat),k ≤ fs.length → (d_K a fs).drop (4 * k) = d_K (a + (body (fs.take k)).length) (fs.drop k)
  | fs,a,0,_=>by simp [body]
  | f :: fs,a,k + 1,h=>by
    have:=d_r fs (a + pad f.length) k (by simpa using h)
    rw [List.take_succ_cons,List.drop_succ_cons,a_D,← Nat.add_assoc,← this]
    simp only [d_K,d_w,List.cons_append,List.nil_append]
    rw [show 4 * (k + 1) = 4 * k + 4 by omega]
    rfl
def off (fs:List (List Int)) (k:Nat):Nat:=12 + (body (fs.take k)).length
theorem d_c (fs:List (List Int)) (k:Nat) (h:k < fs.length):off fs (k + 1) = off fs k + pad fs[k].length:=by
  have key:∀ (fs:List (List Int)) (k:Nat) (h:k < fs.length),(body (fs.take (k + 1))).length = (body (fs.take k)).length + pad fs[k].length:=by
    intro fs
    induction fs with
    | nil=>intro k h;simp at h
    | cons f fs ih =>
      intro k h
      cases k with
      | zero=>rw [List.take_succ_cons,a_D];simp [body]
      | succ k =>
        have:=ih k (by simpa using h)
        rw [List.take_succ_cons,a_D,this,List.take_succ_cons,a_D]
        simp
        omega
  unfold off
  rw [key fs k h]
  omega
theorem off_end (fs:List (List Int)):off fs fs.length = 12 + (body fs).length:=by simp [off]
theorem d_s (fs:List (List Int)) (k:Nat):off fs k ≤ 12 + (body fs).length:=by
  unfold off
  have:=congrArg List.length (c_p fs k)
  rw [List.length_append] at this
  omega
theorem off_4 (fs:List (List Int)) (k:Nat):off fs k % 4 = 0:=by
  have:=body_4 (fs.take k)
  unfold off
  omega
theorem tl_ent (fs:List (List Int)) (k:Nat) (h:k < fs.length) :
    (tl fs)[8 + 4 * k]? = some ((off fs k:Int) % 256) ∧ (tl fs)[8 + 4 * k + 1]? = some ((off fs k:Int) / 256) ∧ (tl fs)[8 + 4 * k + 2]? = some ((fs[k].length:Int) % 256) ∧ (tl fs)[8 + 4 * k + 3]? = some ((fs[k].length:Int) / 256):=by
  have e:=d_r fs 12 k (by omega)
  have ex:=List.drop_eq_getElem_cons h
  rw [ex] at e
  have hl:=c_e fs 12
  have get:∀ j,j < 4 → (tl fs)[8 + 4 * k + j]? = ((d_K 12 fs).drop (4 * k))[j]?:=by
    intro j hj
    rw [List.getElem?_drop]
    unfold tl
    rw [show 8 + 4 * k + j = (4 * k + j) + 8 by omega]
    simp only [List.getElem?_cons_succ]
    rw [List.getElem?_append_left (by omega)]
  refine ⟨?_,?_,?_,?_⟩
  · rw [show 8 + 4 * k = 8 + 4 * k + 0 from rfl,get 0 (by omega),e];rfl
  · rw [get 1 (by omega),e];rfl
  · rw [get 2 (by omega),e];rfl
  · rw [get 3 (by omega),e];rfl
theorem tl_end (fs:List (List Int)):(tl fs)[8 + 4 * fs.length]? = some 0 ∧ (tl fs)[8 + 4 * fs.length + 1]? = some 0 ∧ (tl fs)[8 + 4 * fs.length + 2]? = some 0 ∧ (tl fs)[8 + 4 * fs.length + 3]? = some 0:=by
  have hl:=c_e fs 12
  have get:∀ j,(tl fs)[8 + 4 * fs.length + j]? = [(0:Int),0,0,0][j]?:=by
    intro j
    unfold tl
    rw [show 8 + 4 * fs.length + j = (4 * fs.length + j) + 8 by omega]
    simp only [List.getElem?_cons_succ]
    rw [List.getElem?_append_right (by omega)]
    congr 1
    omega
  exact ⟨get 0,get 1,get 2,get 3⟩
theorem c_0 (num:Int) (fs:List (List Int)) (k:Nat) (h:k < fs.length):∃ A C,b_m num fs = A ++ (fs[k] ++ (List.replicate (pad fs[k].length - fs[k].length) 0 ++ C)) ∧ A.length = off fs k:=by
  have ex:=List.drop_eq_getElem_cons h
  have e:=c_p fs k
  rw [ex] at e
  refine ⟨hd num fs ++ body (fs.take k),body (fs.drop (k + 1)) ++ tl fs,?_,by simp [hd,off];omega⟩
  rw [c_O,e]
  simp [body]
structure Good (num:Int) (fs:List (List Int)):Prop where
  num:0 ≤ num ∧ num ≤ 65535
  ok:okF fs
  few:fs.length ≤ 64
  small:a_J fs ≤ 16384
section
variable {num:Int} {fs:List (List Int)}
theorem Good.rd {n i:Nat} {c:Option Nat} (g:Good num fs) {x:Int} (hi:i < 100000) (h0:0 ≤ x ∧ x ≤ 65535) (h1:(b_m num fs)[i]? = some (x % 256)) (h2:(b_m num fs)[i + 1]? = some (x / 256)):p25 n i ⟨b_m num fs,c⟩ = some x ∧ p14 n ⟨b_m num fs,c⟩ i = some x:=by
  have e:x % 256 + 256 * (x / 256) = x:=by omega
  exact ⟨by rw [p25_eq n i _ h1 h2 (by omega) (by omega) (by omega),e],by rw [p14_eq n i _ h1 h2 (by omega) (by omega) (by omega),e]⟩
theorem Good.body_le (g:Good num fs):a_J fs = 24 + 4 * fs.length + (body fs).length ∧ (body fs).length ≤ 16360:=by
  have:=g.small
  unfold a_J at *
  omega
theorem Good.ent {n k:Nat} {c:Option Nat} (g:Good num fs) (h:k < fs.length) :
    (p25 n ((12 + (body fs).length + (8 + 4 * k):Nat):Int) ⟨b_m num fs,c⟩ = some (off fs k:Int) ∧ p14 n ⟨b_m num fs,c⟩ ((12 + (body fs).length + (8 + 4 * k):Nat):Int) = some (off fs k:Int)) ∧
    (p25 n ((12 + (body fs).length + (8 + 4 * k + 2):Nat):Int) ⟨b_m num fs,c⟩ = some (fs[k].length:Int) ∧ p14 n ⟨b_m num fs,c⟩ ((12 + (body fs).length + (8 + 4 * k + 2):Nat):Int) = some (fs[k].length:Int)):=by
  obtain ⟨h1,h2,h3,h4⟩:=tl_ent fs k h
  have hb:=g.body_le
  have hf:=g.few
  have ho:=d_s fs k
  have hk:=g.ok fs[k] (List.getElem_mem h)
  refine ⟨g.rd (by omega) (by omega) (by rw [b_e];exact h1) ?_,g.rd (by omega) (by omega) (by rw [b_e];exact h3) ?_⟩
  · rw [Nat.add_assoc (12 + (body fs).length) (8 + 4 * k) 1,b_e];exact h2
  · rw [Nat.add_assoc (12 + (body fs).length) (8 + 4 * k + 2) 1,b_e];exact h4
theorem c_f {A f C:List Int} {c:Option Nat} {o m:Nat} (hA:A.length = o) (hm:f.length = m):slI (⟨A ++ (f ++ C),c⟩:Sl Int) (o:Int) ((o + m:Nat):Int) = some ⟨f,c.map (· - o)⟩:=by
  unfold slI
  rw [if_pos ⟨by omega,by omega,by simp;omega⟩]
  congr 2
  subst hA
  subst hm
  simp only [Int.toNat_natCast]
  rw [← List.append_assoc,show A.length + f.length = (A ++ f).length by simp,List.take_left]
  exact List.drop_left
def b_X (fs:List (List Int)):List (Sl Int):=fs.map fun f=>⟨f,some f.length⟩
theorem p12_l1_eq (g:Good num fs) (n:Nat) (c:Option Nat):∀ (m k:Nat) (acc:List (Sl Int)),fs.length < k + m → k ≤ fs.length → acc.length = k →
    p12_l1 n ⟨b_m num fs,c⟩ ((12 + (body fs).length:Nat):Int) ((12 + 4 * fs.length:Nat):Int) m ((12 + (body fs).length + (8 + 4 * k):Nat):Int) acc = some (.inl (acc ++ b_X (fs.drop k)))
  | 0,k,acc,h,hk,ha=>by omega
  | m + 1,k,acc,h,hk,ha=>by
    have hb:=g.body_le
    have hfe:=g.few
    have hsm:=g.small
    unfold p12_l1
    rw [a_o (by omega),Option.bind_some,a_o (by omega),Option.bind_some]
    by_cases hlt:k < fs.length
    · have ex:=List.drop_eq_getElem_cons hlt
      obtain ⟨⟨r1,_⟩,⟨r2,_⟩⟩:=g.ent (n:=n) (c:=c) hlt
      have ho:=d_s fs k
      have ho2:off fs (k + 1) ≤ 12 + (body fs).length:=d_s fs (k + 1)
      rw [d_c fs k hlt] at ho2
      have h4:=off_4 fs k
      have hge:12 ≤ off fs k:=by unfold off;omega
      have hok:=g.ok fs[k] (List.getElem_mem hlt)
      have hpad:fs[k].length ≤ pad fs[k].length:=by unfold pad;omega
      obtain ⟨A,C,eB,hA⟩:=c_0 num fs k hlt
      rw [if_pos (by simp;omega),r1,Option.bind_some,a_o (by omega),Option.bind_some]
      rw [show (((12 + (body fs).length + (8 + 4 * k):Nat):Int) + 2) = ((12 + (body fs).length + (8 + 4 * k + 2):Nat):Int) by omega,r2,Option.bind_some]
      rw [if_neg (by simp;omega),Option.bind_some,if_neg (by decide),if_pos (by simp;omega),a_S (by omega) (by decide) (by simp;omega),Option.bind_some,Option.bind_some]
      rw [if_pos (by simp;omega),Option.bind_some,if_pos (by simp;omega),Option.bind_some,if_pos (by simp;omega),a_o (by omega),Option.bind_some,Option.bind_some,b_g,b_O]
      rw [if_neg (by simp;omega),a_o (by omega),Option.bind_some]
      rw [show ((off fs k:Int) + (fs[k].length:Int)) = ((off fs k + fs[k].length:Nat):Int) by simp,eB,c_f hA rfl,Option.bind_some,p26_eq n _ (by simp;omega),Option.bind_some,p24_eq,Option.bind_some,b_i (by simp;omega),Option.bind_some,Option.bind_some,← eB]
      rw [show (((12 + (body fs).length + (8 + 4 * k):Nat):Int) + 4) = ((12 + (body fs).length + (8 + 4 * (k + 1)):Nat):Int) by omega,p12_l1_eq g n c m (k + 1) _ (by omega) (by omega) (by simp [ha]),show b_X (fs.drop k) = ⟨fs[k],some fs[k].length⟩ :: b_X (fs.drop (k + 1)) by rw [ex];rfl,List.append_assoc]
      rfl
    · rw [if_neg (by simp;omega),List.drop_eq_nil_of_le (by omega)]
      simp [b_X]
theorem p12_eq (g:Good num fs) (n:Nat) (c:Option Nat) (hn:100 < n):p12 n ⟨b_m num fs,c⟩ = some ((num,⟨b_X fs,some fs.length⟩),0):=by
  have hb:=g.body_le
  have hfe:=g.few
  have hsm:=g.small
  have hnum:=g.num
  have h10:p25 n 10 ⟨b_m num fs,c⟩ = some ((12 + (body fs).length:Nat):Int):=(g.rd (n:=n) (i:=10) (c:=c) (by omega) (by omega) (by rw [b_C _ _ _ (by omega)];rfl) (by rw [b_C _ _ _ (by omega)];rfl)).1
  have h4:p25 n 4 ⟨b_m num fs,c⟩ = some 12:=(g.rd (n:=n) (i:=4) (c:=c) (x:=12) (by omega) (by omega) (by rw [b_C _ _ _ (by omega)];rfl) (by rw [b_C _ _ _ (by omega)];rfl)).1
  have h8:p25 n 8 ⟨b_m num fs,c⟩ = some (a_J fs:Int):=(g.rd (n:=n) (i:=8) (c:=c) (by omega) (by omega) (by rw [b_C _ _ _ (by omega)];rfl) (by rw [b_C _ _ _ (by omega)];rfl)).1
  have h6:p25 n 6 ⟨b_m num fs,c⟩ = some num:=(g.rd (n:=n) (i:=6) (c:=c) (by omega) (by omega) (by rw [b_C _ _ _ (by omega)];rfl) (by rw [b_C _ _ _ (by omega)];rfl)).1
  have hT4:p25 n ((12 + (body fs).length + 4:Nat):Int) ⟨b_m num fs,c⟩ = some ((12 + 4 * fs.length:Nat):Int):=(g.rd (n:=n) (c:=c) (by omega) (by omega) (by rw [b_e];rfl) (by rw [Nat.add_assoc (12 + (body fs).length),b_e];rfl)).1
  have hT6:p25 n ((12 + (body fs).length + 6:Nat):Int) ⟨b_m num fs,c⟩ = some 0:=(g.rd (n:=n) (c:=c) (x:=0) (by omega) (by omega) (by rw [b_e];rfl) (by rw [Nat.add_assoc (12 + (body fs).length),b_e];rfl)).1
  obtain ⟨z1,z2,z3,z4⟩:=tl_end fs
  have hE1:p25 n ((12 + (body fs).length + (8 + 4 * fs.length):Nat):Int) ⟨b_m num fs,c⟩ = some 0:=(g.rd (n:=n) (c:=c) (x:=0) (by omega) (by omega) (by rw [b_e];exact z1) (by rw [Nat.add_assoc (12 + (body fs).length),b_e];exact z2)).1
  have hE2:p25 n ((12 + (body fs).length + (8 + 4 * fs.length + 2):Nat):Int) ⟨b_m num fs,c⟩ = some 0:=(g.rd (n:=n) (c:=c) (x:=0) (by omega) (by omega) (by rw [b_e];exact z3) (by rw [Nat.add_assoc (12 + (body fs).length),b_e];exact z4)).1
  have s1:slI (⟨b_m num fs,c⟩:Sl Int) 0 4 = some ⟨[78,67,77,72],c.map (· - 0)⟩:=c_f (A:=[]) (f:=[78,67,77,72]) (o:=0) (m:=4) rfl rfl
  have s2:slI (⟨b_m num fs,c⟩:Sl Int) ((12 + (body fs).length:Nat):Int) ((12 + (body fs).length + 4:Nat):Int) = some ⟨[78,67,77,48],c.map (· - (12 + (body fs).length))⟩:=by
    rw [c_O,← List.append_assoc]
    exact c_f (A:=hd num fs ++ body fs) (f:=[78,67,77,48]) (by simp [hd];omega) rfl
  have b4:=body_4 fs
  unfold p12
  rw [b_g,b_O,orS,Option.bind_some,if_neg (by simp;omega),h10,Option.bind_some,s1,Option.bind_some]
  rw [if_pos (by simp),h4,Option.bind_some,Option.bind_some,if_pos (by simp),h8,Option.bind_some,Option.bind_some,if_pos (by simp),Option.bind_some,if_pos (by simp;omega),a_S (by omega) (by decide) (by simp;omega),Option.bind_some,Option.bind_some,if_pos (by simp;omega),a_o (by omega),Option.bind_some,Option.bind_some,if_neg (by simp;omega)]
  have k2:ckI .i64 (((12 + (body fs).length:Nat):Int) + 4) = some ((12 + (body fs).length + 4:Nat):Int):=a_o (by omega)
  have k3:ckI .i64 (((12 + (body fs).length:Nat):Int) + ((12 + 4 * fs.length:Nat):Int)) = some (((12 + (body fs).length:Nat):Int) + ((12 + 4 * fs.length:Nat):Int)):=a_o (by omega)
  have k4:ckI .i64 (((12 + (body fs).length:Nat):Int) + 6) = some ((12 + (body fs).length + 6:Nat):Int):=a_o (by omega)
  have k5:ckI .i64 (((12 + (body fs).length:Nat):Int) + ((12 + 4 * fs.length:Nat):Int) - 4) = some ((12 + (body fs).length + (8 + 4 * fs.length):Nat):Int):=(a_o (by omega)).trans (congrArg some (by omega))
  have k6:ckI .i64 (((12 + (body fs).length:Nat):Int) + ((12 + 4 * fs.length:Nat):Int) - 2) = some ((12 + (body fs).length + (8 + 4 * fs.length + 2):Nat):Int):=(a_o (by omega)).trans (congrArg some (by omega))
  have k7:ckI .i64 (((12 + (body fs).length:Nat):Int) + 8) = some ((12 + (body fs).length + (8 + 4 * 0):Nat):Int):=a_o (by omega)
  have k8:b_D .i64 ((12 + 4 * fs.length:Nat):Int) 4 = some (((12 + 4 * fs.length:Nat):Int) % 4):=a_S (by omega) (by decide) (by simp <;> omega)
  rw [k2,Option.bind_some,hT4,Option.bind_some,Option.bind_some,s2,Option.bind_some]
  rw [if_pos (by simp),Option.bind_some,if_pos (by simp <;> omega),k8,Option.bind_some,Option.bind_some,if_pos (by simp <;> omega),k3,Option.bind_some,Option.bind_some,if_pos (by simp <;> omega),k4,Option.bind_some,hT6,Option.bind_some,Option.bind_some]
  rw [if_pos (by simp),Option.bind_some,k5,Option.bind_some,hE1,Option.bind_some,Option.bind_some]
  rw [if_pos (by simp),Option.bind_some,k6,Option.bind_some,hE2,Option.bind_some,Option.bind_some]
  rw [if_neg (by simp),h6,Option.bind_some,k7,Option.bind_some,p12_l1_eq g n c n 0 [] (by omega) (by omega) rfl,Option.bind_some]
  have ho:(b_X fs).length = fs.length:=by simp [b_X]
  simp only [lrK,List.drop_zero,List.nil_append]
  rw [if_neg (by simp [a_d,ho];omega),p27_eq,Option.bind_some,c_y,show num % 65536 = num by omega,ho]
end
theorem lrKlD {α β γ:Type} (a:α) (g:β → Option γ) (f:α → Option γ):lrK (.inl a) g f = f a:=rfl
def byteL (xs:List Int):Prop:=∀ y ∈ xs,0 ≤ y ∧ y ≤ 255
def rd (xs:List Int) (i:Nat):Int:=xs.getD i 0 + 256 * xs.getD (i + 1) 0
theorem a_8 {xs:List Int} (h:byteL xs) (i:Nat):0 ≤ xs.getD i 0 ∧ xs.getD i 0 ≤ 255:=by
  rw [List.getD_eq_getElem?_getD]
  cases e:xs[i]? with
  | none=>simp
  | some y=>exact h y (List.mem_of_getElem? e)
theorem a_U {xs:List Int} (h:byteL xs) (i:Nat):0 ≤ rd xs i ∧ rd xs i ≤ 65535:=by
  have h1:=a_8 h i
  have h2:=a_8 h (i + 1)
  unfold rd
  omega
theorem getD_some {xs:List Int} {i:Nat} (h:i < xs.length):xs[i]? = some (xs.getD i 0):=by
  rw [List.getD_eq_getElem?_getD,List.getElem?_eq_getElem h];rfl
theorem p25_rd {n i:Nat} {xs:List Int} {c:Option Nat} (h:byteL xs) (hi:i + 1 < xs.length) (hL:xs.length ≤ 20000):p25 n i ⟨xs,c⟩ = some (rd xs i) :=
  p25_eq n i _ (getD_some (show i < xs.length by omega)) (getD_some hi) (by omega) (a_8 h i) (a_8 h (i + 1))
theorem p14_rd {n i:Nat} {xs:List Int} {c:Option Nat} (h:byteL xs) (hi:i + 1 < xs.length) (hL:xs.length ≤ 20000):p14 n ⟨xs,c⟩ i = some (rd xs i) :=
  p14_eq n i _ (getD_some (show i < xs.length by omega)) (getD_some hi) (by omega) (a_8 h i) (a_8 h (i + 1))
def c_P (xs:List Int) (i k:Nat):List Int:=(xs.drop i).take k
theorem c_z {xs:List Int} {c:Option Nat} {i k:Nat} (h:i + k ≤ xs.length):slI (⟨xs,c⟩:Sl Int) (i:Int) ((i + k:Nat):Int) = some ⟨c_P xs i k,c.map (· - i)⟩:=by
  unfold slI
  rw [if_pos (show (0:Int) ≤ (i:Int) ∧ (i:Int) ≤ ((i + k:Nat):Int) ∧ ((i + k:Nat):Int) ≤ (xs.length:Int) from ⟨by omega,by omega,by omega⟩)]
  simp [c_P,List.take_drop,show ((i:Int) + (k:Int)).toNat = i + k by omega]
structure Head (xs:List Int) (t:Nat):Prop where
  magic:c_P xs 0 4 = [78,67,77,72]
  size:rd xs 4 = 12
  all_:rd xs 8 = xs.length
  t12:12 ≤ t
  t4:t % 4 = 0
  fit:t + 12 ≤ xs.length
structure Tab (xs:List Int) (t k:Nat):Prop where
  magic:c_P xs t 4 = [78,67,77,48]
  k12:12 ≤ k
  k4:k % 4 = 0
  fit:t + k ≤ xs.length
  z:rd xs (t + 6) = 0
  z1:rd xs (t + k - 4) = 0
  z2:rd xs (t + k - 2) = 0
def err12:(Int × Sl (Sl Int)) × Int:=((0,⟨[],some 0⟩),4)
theorem p12_head {n:Nat} {xs:List Int} {c:Option Nat} (hb:byteL xs) {t:Nat} (ht:rd xs 10 = t):(¬ (12 ≤ xs.length ∧ xs.length ≤ 16384 ∧ Head xs t) ∧ p12 n ⟨xs,c⟩ = some err12) ∨ (12 ≤ xs.length ∧ xs.length ≤ 16384 ∧ Head xs t):=by
  by_cases h0:12 ≤ xs.length ∧ xs.length ≤ 16384
  · by_cases hH:Head xs t
    · exact .inr ⟨h0.1,h0.2,hH⟩
    · refine .inl ⟨fun h=>hH h.2.2,?_⟩
      have r4:=a_U hb 4
      have r8:=a_U hb 8
      have r10:=a_U hb 10
      rw [ht] at r10
      unfold p12
      rw [b_g,orS,Option.bind_some,decide_eq_false (show ¬ ((xs.length:Int) < 12) by omega),decide_eq_false (show ¬ ((xs.length:Int) > 16384) by omega)]
      rw [Bool.or_false,if_neg (by decide),show p25 n 10 ⟨xs,c⟩ = some (t:Int) from (p25_rd (i:=10) hb (by omega) (by omega)).trans (by rw [ht]),Option.bind_some,show slI (⟨xs,c⟩:Sl Int) 0 4 = _ from c_z (i:=0) (k:=4) (by omega),Option.bind_some]
      rw [show p25 n 4 ⟨xs,c⟩ = _ from p25_rd (i:=4) hb (by omega) (by omega),Option.bind_some,orS,Option.bind_some,show p25 n 8 ⟨xs,c⟩ = _ from p25_rd (i:=8) hb (by omega) (by omega),Option.bind_some,orS,Option.bind_some,orS,Option.bind_some,a_S (by omega) (by decide) (by rw [inR_i64];omega),Option.bind_some,orS,Option.bind_some,a_o (by omega),Option.bind_some,orS,Option.bind_some]
      rw [if_pos]
      · rfl
      · cases hq:(!decide (c_P xs 0 4 = [78,67,77,72]) || rd xs 4 != 12 || rd xs 8 != (xs.length:Int) || decide ((t:Int) < 12) || (t:Int) % 4 != 0 || decide ((t:Int) + 12 > (xs.length:Int))) with
        | true=>rfl
        | false =>
          simp only [Bool.or_eq_false_iff,Bool.not_eq_false',decide_eq_true_eq,decide_eq_false_iff_not,bne_eq_false_iff_eq] at hq
          obtain ⟨⟨⟨⟨⟨q1,q2⟩,q3⟩,q4⟩,q5⟩,q6⟩:=hq
          exact absurd ⟨q1,q2,q3,by omega,by omega,by omega⟩ hH
  · refine .inl ⟨fun h=>h0 ⟨h.1,h.2.1⟩,?_⟩
    unfold p12
    rw [b_g,orS,Option.bind_some,if_pos]
    · rfl
    · rw [Bool.or_eq_true,decide_eq_true_eq,decide_eq_true_eq];omega
theorem d_t {xs:List Int} {c:Option Nat} {i:Nat} {j:Int} (k:Nat) (hj:j = (i:Int) + k) (h:i + k ≤ xs.length):slI (⟨xs,c⟩:Sl Int) (i:Int) j = some ⟨c_P xs i k,c.map (· - i)⟩:=by
  subst hj
  exact c_z (by omega)
theorem p12_tab {n:Nat} {xs:List Int} {c:Option Nat} (hb:byteL xs) {t k:Nat} (ht:rd xs 10 = t) (h1:12 ≤ xs.length) (h2:xs.length ≤ 16384) (hH:Head xs t) (hk:rd xs (t + 4) = k) :
    (¬ Tab xs t k ∧ p12 n ⟨xs,c⟩ = some err12) ∨ (Tab xs t k ∧ p12 n ⟨xs,c⟩ = (p12_l1 n ⟨xs,c⟩ t k n ((t + 8:Nat):Int) []).bind fun y_427=>lrK y_427 some fun (s_428:List (Sl Int))=>if (decide ((a_d (⟨s_428,.none⟩:Sl (Sl (Int)))) > 64)) then (some ((0,(⟨[],some 0⟩:Sl (Sl (Int)))),3)) else (p27 n (⟨s_428,.none⟩:Sl (Sl (Int)))).bind fun t_569=>some ((rd xs 6,t_569),0)):=by
  obtain ⟨m1,m2,m3,m4,m5,m6⟩:=hH
  have r6:=a_U hb 6
  have rk:=a_U hb (t + 4)
  rw [hk] at rk
  have rz:=a_U hb (t + 6)
  unfold p12
  rw [b_g,orS,Option.bind_some,decide_eq_false (show ¬ ((xs.length:Int) < 12) by omega),decide_eq_false (show ¬ ((xs.length:Int) > 16384) by omega)]
  rw [Bool.or_false,if_neg (by decide),show p25 n 10 ⟨xs,c⟩ = some (t:Int) from (p25_rd (i:=10) hb (by omega) (by omega)).trans (by rw [ht]),Option.bind_some,show slI (⟨xs,c⟩:Sl Int) 0 4 = _ from c_z (i:=0) (k:=4) (by omega),Option.bind_some]
  rw [show p25 n 4 ⟨xs,c⟩ = _ from p25_rd (i:=4) hb (by omega) (by omega),Option.bind_some,orS,Option.bind_some,show p25 n 8 ⟨xs,c⟩ = _ from p25_rd (i:=8) hb (by omega) (by omega),Option.bind_some,orS,Option.bind_some,orS,Option.bind_some,a_S (by omega) (by decide) (by rw [inR_i64];omega),Option.bind_some,orS,Option.bind_some,a_o (by omega),Option.bind_some,orS,Option.bind_some]
  rw [show (!decide (c_P xs 0 4 = [78,67,77,72]) || rd xs 4 != 12 || rd xs 8 != (xs.length:Int) || decide ((t:Int) < 12) || (t:Int) % 4 != 0 || decide ((t:Int) + 12 > (xs.length:Int))) = false by
    simp only [Bool.or_eq_false_iff,Bool.not_eq_false',decide_eq_true_eq,decide_eq_false_iff_not,bne_eq_false_iff_eq]
    exact ⟨⟨⟨⟨⟨m1,m2⟩,m3⟩,by omega⟩,by omega⟩,by omega⟩]
  rw [if_neg (by decide),a_o (by omega),Option.bind_some,show (t:Int) + 4 = ((t + 4:Nat):Int) by omega,p25_rd hb (by omega) (by omega),Option.bind_some,hk,Option.bind_some,d_t 4 (by omega) (by omega),Option.bind_some,orS,Option.bind_some,a_S (by omega) (by decide) (by rw [inR_i64];omega),Option.bind_some,orS,Option.bind_some,a_o (by omega),Option.bind_some,orS,Option.bind_some,a_o (by omega),Option.bind_some,show (t:Int) + 6 = ((t + 6:Nat):Int) by omega,p25_rd hb (by omega) (by omega),Option.bind_some,orS,Option.bind_some]
  cases hQ:(!decide (c_P xs t 4 = [78,67,77,48]) || decide ((k:Int) < 12) || (k:Int) % 4 != 0 || decide ((t:Int) + (k:Int) > (xs.length:Int)) || rd xs (t + 6) != 0) with
  | true =>
    refine .inl ⟨fun T=>?_,rfl⟩
    have:=T.k12;have:=T.k4;have:=T.fit
    have:(!decide (c_P xs t 4 = [78,67,77,48]) || decide ((k:Int) < 12) || (k:Int) % 4 != 0 || decide ((t:Int) + (k:Int) > (xs.length:Int)) || rd xs (t + 6) != 0) = false:=by
      simp only [Bool.or_eq_false_iff,Bool.not_eq_false',decide_eq_true_eq,decide_eq_false_iff_not,bne_eq_false_iff_eq]
      exact ⟨⟨⟨⟨T.magic,by omega⟩,by omega⟩,by omega⟩,T.z⟩
    rw [hQ] at this
    cases this
  | false =>
    simp only [Bool.or_eq_false_iff,Bool.not_eq_false',decide_eq_true_eq,decide_eq_false_iff_not,bne_eq_false_iff_eq] at hQ
    obtain ⟨⟨⟨⟨q1,q2⟩,q3⟩,q4⟩,q5⟩:=hQ
    rw [if_pos rfl,Option.bind_some,a_o (by omega),Option.bind_some,show (t:Int) + (k:Int) - 4 = ((t + k - 4:Nat):Int) by omega,p25_rd hb (by omega) (by omega),Option.bind_some,Option.bind_some,Option.bind_some,show (t:Int) + (k:Int) - 2 = ((t + k - 2:Nat):Int) by omega,show ckI .i64 ((t + k - 2:Nat):Int) = some ((t + k - 2:Nat):Int) from a_o (by omega),Option.bind_some,p25_rd hb (by omega) (by omega),Option.bind_some,orS,Option.bind_some]
    cases hZ:(rd xs (t + k - 4) != 0 || rd xs (t + k - 2) != 0) with
    | true =>
      refine .inl ⟨fun T=>?_,rfl⟩
      rw [T.z1,T.z2] at hZ
      cases hZ
    | false =>
      simp only [Bool.or_eq_false_iff,bne_eq_false_iff_eq] at hZ
      refine .inr ⟨⟨q1,by omega,by omega,by omega,q5,hZ.1,hZ.2⟩,?_⟩
      rw [if_neg (by decide),show p25 n 6 ⟨xs,c⟩ = _ from p25_rd (i:=6) hb (by omega) (by omega),Option.bind_some,a_o (by omega),Option.bind_some,show IntKind.wrap .u16 (rd xs 6) = rd xs 6 by rw [c_y];omega]
      rfl
theorem part4 {xs:List Int} {i:Nat} (h:i + 4 ≤ xs.length):c_P xs i 4 = [xs.getD i 0,xs.getD (i + 1) 0,xs.getD (i + 2) 0,xs.getD (i + 3) 0]:=by
  have g:∀ j (hj:j < xs.length),xs.getD j 0 = xs[j]:=fun j hj=>by rw [List.getD_eq_getElem?_getD,List.getElem?_eq_getElem hj];rfl
  unfold c_P
  rw [g i (by omega),g (i + 1) (by omega),g (i + 2) (by omega),g (i + 3) (by omega)]
  rw [List.drop_eq_getElem_cons (show i < xs.length by omega),List.drop_eq_getElem_cons (show i + 1 < xs.length by omega),List.drop_eq_getElem_cons (show i + 1 + 1 < xs.length by omega),List.drop_eq_getElem_cons (show i + 1 + 1 + 1 < xs.length by omega)]
  rfl
theorem d_3 {xs:List Int} (hb:byteL xs) {i:Nat} (h:i + 4 ≤ xs.length):c_P xs i 4 = [0,0,0,0] ↔ rd xs i = 0 ∧ rd xs (i + 2) = 0:=by
  have h0:=a_8 hb i
  have h1:=a_8 hb (i + 1)
  have h2:=a_8 hb (i + 2)
  have h3:=a_8 hb (i + 3)
  rw [part4 h]
  unfold rd
  rw [show i + 2 + 1 = i + 3 from rfl]
  constructor
  · intro e
    injection e with e0 e;injection e with e1 e;injection e with e2 e;injection e with e3 e
    omega
  · intro ⟨e1,e2⟩
    rw [show xs.getD i 0 = 0 by omega,show xs.getD (i + 1) 0 = 0 by omega,show xs.getD (i + 2) 0 = 0 by omega,show xs.getD (i + 3) 0 = 0 by omega]
def err15:Sl (Sl Int) × Int:=(⟨[],some 0⟩,4)
theorem p15_dec {n:Nat} {xs:List Int} {c:Option Nat} (hb:byteL xs) {t k:Nat} (ht:rd xs 10 = t) (hk:rd xs (t + 4) = k) :
    (¬ (12 ≤ xs.length ∧ xs.length ≤ 16384 ∧ Head xs t ∧ Tab xs t k) ∧ p15 n ⟨xs,c⟩ = some err15) ∨ ((12 ≤ xs.length ∧ xs.length ≤ 16384 ∧ Head xs t ∧ Tab xs t k) ∧ p15 n ⟨xs,c⟩ = (p15_l1 n ⟨xs,c⟩ t k n ((8:Nat):Int) []).bind fun y_77=>lrK y_77 some fun (s_78:List (Sl Int))=>if (decide ((a_d (⟨s_78,.none⟩:Sl (Sl (Int)))) > 64)) then (some ((⟨([]:List (Sl (Int))),some 0⟩:Sl (Sl (Int))),3)) else some ((⟨s_78,.none⟩:Sl (Sl (Int))),0)):=by
  have r10:=a_U hb 10
  rw [ht] at r10
  have rk:=a_U hb (t + 4)
  rw [hk] at rk
  by_cases h0:12 ≤ xs.length ∧ xs.length ≤ 16384
  · unfold p15
    rw [b_g,orS,Option.bind_some,decide_eq_false (show ¬ ((xs.length:Int) < 12) by omega),decide_eq_false (show ¬ ((xs.length:Int) > 16384) by omega)]
    rw [Bool.or_false,if_pos rfl,show slI (⟨xs,c⟩:Sl Int) 0 4 = _ from c_z (i:=0) (k:=4) (by omega),Option.bind_some,Option.bind_some,show p14 n ⟨xs,c⟩ 4 = _ from p14_rd (i:=4) hb (by omega) (by omega),Option.bind_some,orS,Option.bind_some,show p14 n ⟨xs,c⟩ 8 = _ from p14_rd (i:=8) hb (by omega) (by omega),Option.bind_some,orS,Option.bind_some]
    cases hG:(!decide (c_P xs 0 4 = [78,67,77,72]) || rd xs 4 != 12 || rd xs 8 != (xs.length:Int)) with
    | true =>
      refine .inl ⟨fun T=>?_,rfl⟩
      obtain ⟨_,_,H,_⟩:=T
      rw [decide_eq_true H.magic,H.size,H.all_] at hG
      simp at hG
    | false =>
      simp only [Bool.or_eq_false_iff,Bool.not_eq_false',decide_eq_true_eq,bne_eq_false_iff_eq] at hG
      obtain ⟨⟨g1,g2⟩,g3⟩:=hG
      rw [if_neg (by decide),show p14 n ⟨xs,c⟩ 10 = some (t:Int) from (p14_rd (i:=10) hb (by omega) (by omega)).trans (by rw [ht]),Option.bind_some,a_S (by omega) (by decide) (by rw [inR_i64];omega),Option.bind_some,orS,Option.bind_some,a_o (show -9223372036854775808 ≤ (t:Int) + 12 ∧ (t:Int) + 12 ≤ 9223372036854775807 by omega),Option.bind_some,orS,Option.bind_some]
      cases hA:(decide ((t:Int) < 12) || (t:Int) % 4 != 0 || decide ((t:Int) + 12 > (xs.length:Int))) with
      | true =>
        refine .inl ⟨fun T=>?_,rfl⟩
        obtain ⟨_,_,H,_⟩:=T
        have:=H.t12;have:=H.t4;have:=H.fit
        have:(decide ((t:Int) < 12) || (t:Int) % 4 != 0 || decide ((t:Int) + 12 > (xs.length:Int))) = false:=by
          simp only [Bool.or_eq_false_iff,decide_eq_false_iff_not,bne_eq_false_iff_eq]
          exact ⟨⟨by omega,by omega⟩,by omega⟩
        rw [hA] at this
        cases this
      | false =>
        simp only [Bool.or_eq_false_iff,decide_eq_false_iff_not,bne_eq_false_iff_eq] at hA
        obtain ⟨⟨a1,a2⟩,a3⟩:=hA
        have hH:Head xs t:=⟨g1,g2,g3,by omega,by omega,by omega⟩
        rw [if_pos rfl,a_o (show -9223372036854775808 ≤ (t:Int) + 4 ∧ (t:Int) + 4 ≤ 9223372036854775807 by omega),Option.bind_some,d_t 4 (by omega) (by omega),Option.bind_some,Option.bind_some,a_o (show -9223372036854775808 ≤ (t:Int) + 6 ∧ (t:Int) + 6 ≤ 9223372036854775807 by omega),Option.bind_some,show (t:Int) + 6 = ((t + 6:Nat):Int) by omega,p14_rd hb (by omega) (by omega),Option.bind_some,orS,Option.bind_some]
        cases hB:(!decide (c_P xs t 4 = [78,67,77,48]) || rd xs (t + 6) != 0) with
        | true =>
          refine .inl ⟨fun T=>?_,rfl⟩
          obtain ⟨_,_,_,T⟩:=T
          rw [decide_eq_true T.magic,T.z] at hB
          simp at hB
        | false =>
          simp only [Bool.or_eq_false_iff,Bool.not_eq_false',decide_eq_true_eq,bne_eq_false_iff_eq] at hB
          obtain ⟨b1,b2⟩:=hB
          rw [if_neg (by decide),Option.bind_some,show (t:Int) + 4 = ((t + 4:Nat):Int) by omega,p14_rd hb (by omega) (by omega),Option.bind_some,hk,a_S (by omega) (by decide) (by rw [inR_i64];omega),Option.bind_some,orS,Option.bind_some,a_o (show -9223372036854775808 ≤ (t:Int) + (k:Int) ∧ (t:Int) + (k:Int) ≤ 9223372036854775807 by omega),Option.bind_some,orS,Option.bind_some]
          cases hC:(decide ((k:Int) < 12) || (k:Int) % 4 != 0 || decide ((t:Int) + (k:Int) > (xs.length:Int))) with
          | true =>
            refine .inl ⟨fun T=>?_,rfl⟩
            obtain ⟨_,_,_,T⟩:=T
            have:=T.k12;have:=T.k4;have:=T.fit
            have:(decide ((k:Int) < 12) || (k:Int) % 4 != 0 || decide ((t:Int) + (k:Int) > (xs.length:Int))) = false:=by
              simp only [Bool.or_eq_false_iff,decide_eq_false_iff_not,bne_eq_false_iff_eq]
              exact ⟨⟨by omega,by omega⟩,by omega⟩
            rw [hC] at this
            cases this
          | false =>
            simp only [Bool.or_eq_false_iff,decide_eq_false_iff_not,bne_eq_false_iff_eq] at hC
            obtain ⟨⟨c1,c2⟩,c3⟩:=hC
            rw [if_pos rfl,Option.bind_some,show (t:Int) + (k:Int) - 4 = ((t + k - 4:Nat):Int) by omega,show ckI .i64 ((t + k - 4:Nat):Int) = some ((t + k - 4:Nat):Int) from a_o (by omega),Option.bind_some,Option.bind_some,d_t 4 (by omega) (by omega),Option.bind_some,Option.bind_some]
            have hz:=d_3 hb (i:=t + k - 4) (by omega)
            rw [show t + k - 4 + 2 = t + k - 2 by omega] at hz
            by_cases hZ:c_P xs (t + k - 4) 4 = [0,0,0,0]
            · rw [decide_eq_true hZ,if_neg (by decide)]
              exact .inr ⟨⟨h0.1,h0.2,hH,⟨b1,by omega,by omega,by omega,b2,(hz.1 hZ).1,(hz.1 hZ).2⟩⟩,rfl⟩
            · rw [decide_eq_false hZ]
              exact .inl ⟨fun T=>hZ (hz.2 ⟨T.2.2.2.z1,T.2.2.2.z2⟩),rfl⟩
  · refine .inl ⟨fun h=>h0 ⟨h.1,h.2.1⟩,?_⟩
    unfold p15
    rw [b_g,orS,Option.bind_some,show (decide ((xs.length:Int) < 12) || decide ((xs.length:Int) > 16384)) = true by rw [Bool.or_eq_true,decide_eq_true_eq,decide_eq_true_eq];omega]
    rfl
theorem d_V (A B:List (Sl Int)):a_r (A ++ B) = a_r A ++ a_r B:=by unfold a_r;rw [List.map_append]
def badB (L a z:Nat):Bool:=decide ((a:Int) < 12) || (a:Int) % 4 != 0 || decide ((z:Int) < 1) || decide ((z:Int) > 1514) || decide ((a:Int) + (z:Int) > (L:Int))
theorem d_W {L a z:Nat} (h:badB L a z = false):a + z ≤ L ∧ z ≤ 1514:=by
  unfold badB at h
  simp only [Bool.or_eq_false_iff,decide_eq_false_iff_not,bne_eq_false_iff_eq] at h
  omega
theorem part_len {xs:List Int} {i k:Nat} (h:i + k ≤ xs.length):(c_P xs i k).length = k:=by
  unfold c_P;rw [List.length_take,List.length_drop];omega
theorem p12_step {n:Nat} {xs:List Int} {c:Option Nat} (hb:byteL xs) {t k m j a z:Nat} {A:List (Sl Int)} (hL:xs.length ≤ 16384) (f1:t + k ≤ xs.length) (f2:12 ≤ k) (hlt:j + 4 < k) (ha:rd xs (t + j) = a) (hz:rd xs (t + j + 2) = z) (hA:A.length ≤ 200000) :
    p12_l1 n ⟨xs,c⟩ t k (m + 1) ((t + j:Nat):Int) A = if a + z = 0 then some (.inl A) else if badB xs.length a z = true then some (.inr err12) else p12_l1 n ⟨xs,c⟩ t k m ((t + (j + 4):Nat):Int) (A ++ [⟨c_P xs a z,some (c_P xs a z).length⟩]):=by
  have ra:=a_U hb (t + j)
  have rz:=a_U hb (t + j + 2)
  rw [ha] at ra
  rw [hz] at rz
  have e1:p25 n ((t + j:Nat):Int) ⟨xs,c⟩ = some (a:Int):=(p25_rd hb (by omega) (by omega)).trans (by rw [ha])
  have e2:p25 n ((t + j + 2:Nat):Int) ⟨xs,c⟩ = some (z:Int):=(p25_rd hb (by omega) (by omega)).trans (by rw [hz])
  have k1:ckI .i64 ((t:Int) + (k:Int)) = some ((t:Int) + (k:Int)):=a_o (by omega)
  have k2:ckI .i64 ((t:Int) + (k:Int) - 4) = some ((t:Int) + (k:Int) - 4):=a_o (by omega)
  have k3:ckI .i64 (((t + j:Nat):Int) + 2) = some ((t + j + 2:Nat):Int):=a_o (by omega)
  have k4:ckI .i64 ((a:Int) + (z:Int)) = some ((a:Int) + (z:Int)):=a_o (by omega)
  have k5:ckI .i64 (((t + j:Nat):Int) + 4) = some ((t + (j + 4):Nat):Int):=(a_o (by omega)).trans (by congr 1)
  have k6:b_D .i64 (a:Int) 4 = some ((a:Int) % 4):=a_S (by omega) (by decide) (by rw [inR_i64];omega)
  rw [p12_l1,k1,Option.bind_some,k2,Option.bind_some,if_pos (decide_eq_true (show ((t + j:Nat):Int) < (t:Int) + (k:Int) - 4 by omega)),e1,Option.bind_some,k3,Option.bind_some,e2,Option.bind_some,andS,Option.bind_some]
  by_cases hz0:a + z = 0
  · rw [if_pos (by rw [show a = 0 by omega,show z = 0 by omega];rfl),if_pos hz0]
  · rw [if_neg (by simp only [Bool.and_eq_true,beq_iff_eq];omega),if_neg hz0,k6,Option.bind_some,orS,Option.bind_some,orS,Option.bind_some,orS,Option.bind_some,k4,Option.bind_some,b_g,orS,Option.bind_some]
    show (if badB xs.length a z = true then _ else _) = _
    cases hB:badB xs.length a z with
    | true=>rfl
    | false =>
      have hf:=d_W hB
      rw [if_neg (by decide),if_neg (by decide),Option.bind_some,d_t z rfl hf.1,Option.bind_some,p26_eq n _ (by show (c_P xs a z).length ≤ _;rw [part_len hf.1];omega),Option.bind_some,p24_eq,Option.bind_some,b_i (by rw [List.length_singleton];omega),Option.bind_some,k5,Option.bind_some]
theorem p15_step {n:Nat} {xs:List Int} {c:Option Nat} (hb:byteL xs) {t k m j a z:Nat} {A:List (Sl Int)} (hL:xs.length ≤ 16384) (f1:t + k ≤ xs.length) (f2:12 ≤ k) (hlt:j + 4 < k) (ha:rd xs (t + j) = a) (hz:rd xs (t + j + 2) = z) (hA:A.length ≤ 200000) :
    p15_l1 n ⟨xs,c⟩ t k (m + 1) (j:Int) A = if a + z = 0 then some (.inl A) else if badB xs.length a z = true then some (.inr err15) else p15_l1 n ⟨xs,c⟩ t k m ((j + 4:Nat):Int) (A ++ [⟨c_P xs a z,c.map (· - a)⟩]):=by
  have ra:=a_U hb (t + j)
  have rz:=a_U hb (t + j + 2)
  rw [ha] at ra
  rw [hz] at rz
  have e1:p14 n ⟨xs,c⟩ ((t + j:Nat):Int) = some (a:Int):=(p14_rd hb (by omega) (by omega)).trans (by rw [ha])
  have e2:p14 n ⟨xs,c⟩ ((t + j + 2:Nat):Int) = some (z:Int):=(p14_rd hb (by omega) (by omega)).trans (by rw [hz])
  have k1:ckI .i64 ((j:Int) + 4) = some ((j + 4:Nat):Int):=(a_o (by omega)).trans (by congr 1)
  have k2:ckI .i64 ((t:Int) + (j:Int)) = some ((t + j:Nat):Int):=(a_o (by omega)).trans (by congr 1)
  have k3:ckI .i64 (((t + j:Nat):Int) + 2) = some ((t + j + 2:Nat):Int):=a_o (by omega)
  have k4:ckI .i64 ((a:Int) + (z:Int)) = some ((a:Int) + (z:Int)):=a_o (by omega)
  have k6:b_D .i64 (a:Int) 4 = some ((a:Int) % 4):=a_S (by omega) (by decide) (by rw [inR_i64];omega)
  rw [p15_l1,k1,Option.bind_some,if_pos (decide_eq_true (show ((j + 4:Nat):Int) < (k:Int) by omega)),k2,Option.bind_some,e1,Option.bind_some,Option.bind_some,k3,Option.bind_some,e2,Option.bind_some,k4,Option.bind_some]
  by_cases hz0:a + z = 0
  · rw [if_pos (by rw [show a = 0 by omega,show z = 0 by omega];rfl),if_pos hz0]
  · rw [if_neg (by simp only [beq_iff_eq];omega),if_neg hz0,k6,Option.bind_some,orS,Option.bind_some,orS,Option.bind_some,orS,Option.bind_some,Option.bind_some,b_g,orS,Option.bind_some]
    rw [show ((z:Int) == 0) = decide ((z:Int) < 1) by rw [Bool.eq_iff_iff,beq_iff_eq,decide_eq_true_eq];omega]
    show (if badB xs.length a z = true then _ else _) = _
    cases hB:badB xs.length a z with
    | true=>rfl
    | false =>
      have hf:=d_W hB
      rw [if_neg (by decide),if_neg (by decide),Option.bind_some,d_t z rfl hf.1,Option.bind_some,b_i (by rw [List.length_singleton];omega),Option.bind_some,Option.bind_some]
theorem loops_eq {n:Nat} {xs:List Int} {c:Option Nat} (hb:byteL xs) {t k:Nat} (hL:xs.length ≤ 16384) (hT:Tab xs t k):∀ (m j:Nat) (A B:List (Sl Int)),j ≤ k → k < j + m → a_r A = a_r B → A.length ≤ 100000 + j → B.length ≤ 100000 + j →
    (∃ A' B',p12_l1 n ⟨xs,c⟩ t k m ((t + j:Nat):Int) A = some (.inl A') ∧ p15_l1 n ⟨xs,c⟩ t k m (j:Int) B = some (.inl B') ∧ a_r A' = a_r B') ∨ (p12_l1 n ⟨xs,c⟩ t k m ((t + j:Nat):Int) A = some (.inr err12) ∧ p15_l1 n ⟨xs,c⟩ t k m (j:Int) B = some (.inr err15)):=by
  have f1:=hT.fit
  have f2:=hT.k12
  intro m
  induction m with
  | zero=>intro j A B h1 h2;exact absurd h2 (by omega)
  | succ m ih =>
    intro j A B h1 h2 hr hA hB
    by_cases hlt:j + 4 < k
    · obtain ⟨a,ha⟩:∃ a:Nat,rd xs (t + j) = a:=⟨(rd xs (t + j)).toNat,by have:=a_U hb (t + j);omega⟩
      obtain ⟨z,hz⟩:∃ z:Nat,rd xs (t + j + 2) = z:=⟨(rd xs (t + j + 2)).toNat,by have:=a_U hb (t + j + 2);omega⟩
      rw [p12_step hb hL f1 f2 hlt ha hz (by omega),p15_step hb hL f1 f2 hlt ha hz (by omega)]
      by_cases hz0:a + z = 0
      · rw [if_pos hz0,if_pos hz0];exact .inl ⟨A,B,rfl,rfl,hr⟩
      · rw [if_neg hz0,if_neg hz0]
        cases hbad:badB xs.length a z with
        | true=>exact .inr ⟨rfl,rfl⟩
        | false =>
          rw [if_neg (by decide),if_neg (by decide)]
          exact ih (j + 4) _ _ (by omega) (by omega) (by rw [d_V,d_V,hr];rfl) (by rw [List.length_append,List.length_singleton];omega) (by rw [List.length_append,List.length_singleton];omega)
    · left
      refine ⟨A,B,?_,?_,hr⟩
      · rw [p12_l1,a_o (by omega),Option.bind_some,a_o (by omega),Option.bind_some,if_neg (by rw [decide_eq_true_eq];omega)]
      · rw [p15_l1,a_o (by omega),Option.bind_some,if_neg (by rw [decide_eq_true_eq];omega)]
theorem dec_same {n:Nat} (hn:20000 ≤ n) {xs:List Int} {c:Option Nat} (hb:byteL xs):∃ (W:Sl (Sl Int)) (G:Int × Sl (Sl Int)) (e:Int),p15 n ⟨xs,c⟩ = some (W,e) ∧ p12 n ⟨xs,c⟩ = some (G,e) ∧ a_r G.2.xs = a_r W.xs ∧ (e ≠ 0 → G.1 = 0) ∧ (e = 0 → 12 ≤ xs.length ∧ xs.length ≤ 16384 ∧ G.1 = rd xs 6) ∧ G.2.xs.length ≤ 64:=by
  obtain ⟨t,ht⟩:∃ a:Nat,rd xs 10 = a:=⟨(rd xs 10).toNat,by have:=a_U hb 10;omega⟩
  obtain ⟨k,hk⟩:∃ a:Nat,rd xs (t + 4) = a:=⟨(rd xs (t + 4)).toNat,by have:=a_U hb (t + 4);omega⟩
  rcases p15_dec (n:=n) (c:=c) hb ht hk with ⟨h1,h2⟩ | ⟨⟨a1,a2,aH,aT⟩,h2⟩
  · refine ⟨⟨[],some 0⟩,(0,⟨[],some 0⟩),4,h2,?_,rfl,fun _=>rfl,fun e=>absurd (show (4:Int) = 0 from e) (by decide),by decide⟩
    rcases p12_head (n:=n) (c:=c) hb ht with ⟨_,h3⟩ | ⟨b1,b2,bH⟩
    · exact h3
    · rcases p12_tab (n:=n) (c:=c) hb ht b1 b2 bH hk with ⟨_,h3⟩ | ⟨bT,_⟩
      · exact h3
      · exact absurd ⟨b1,b2,bH,bT⟩ h1
  · rcases p12_tab (n:=n) (c:=c) hb ht a1 a2 aH hk with ⟨h3,_⟩ | ⟨_,h3⟩
    · exact absurd aT h3
    · have f1:=aT.fit
      rw [h2,h3]
      rcases loops_eq (n:=n) (c:=c) hb a2 aT n 8 [] [] (by have:=aT.k12;omega) (by omega) rfl (by simp) (by simp) with ⟨A,B,e1,e2,e3⟩ | ⟨e1,e2⟩
      · have hl:A.length = B.length:=by have:=congrArg List.length e3;simpa [a_r] using this
        rw [e1,e2,Option.bind_some,Option.bind_some,lrKlD,lrKlD,b_g,b_g,hl]
        by_cases h64:(B.length:Int) > 64
        · rw [if_pos (decide_eq_true h64),if_pos (decide_eq_true h64)]
          exact ⟨_,_,_,rfl,rfl,rfl,fun _=>rfl,fun e=>absurd (show (3:Int) = 0 from e) (by decide),by decide⟩
        · rw [if_neg (by rw [decide_eq_true_eq];exact h64),if_neg (by rw [decide_eq_true_eq];exact h64),p27_eq,Option.bind_some]
          exact ⟨_,_,_,rfl,rfl,e3,fun e=>absurd rfl e,fun _=>⟨a1,a2,rfl⟩,by show A.length ≤ 64;omega⟩
      · rw [e1,e2]
        exact ⟨_,_,_,rfl,rfl,rfl,fun _=>rfl,fun e=>absurd (show (4:Int) = 0 from e) (by decide),by decide⟩
end Go.Proofs.Ytlgalcekkffhnaa
