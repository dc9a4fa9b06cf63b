/- Plain theorems for the laws: what the plain functions say. No condition. -/
import Derived.Test.YtlgalcekkffhnaaLB1
import Derived.Test.YtlgalcekkffhnaaP3
set_option linter.unusedVariables false
set_option linter.unusedSimpArgs false
namespace Go.Proofs.Ytlgalcekkffhnaa
open Go.RowKit
theorem d_u {α:Type} (xs:List α) (c:Option Nat):a_b (⟨xs,c⟩:Sl α) = (xs.length:Int):=rfl
theorem p20_eq (n:Nat) {x:Int} (h:0 ≤ x ∧ x ≤ 1099511627776):p20 n x = some ((x + 3) / 4 * 4):=by
  unfold p20
  rw [a_t (by omega),Option.bind_some,quoI_ok (by omega) (by decide) (by simp;omega),Option.bind_some,a_t (by omega),Option.bind_some]
theorem p23_eq (n:Nat) {x:Int} (h:0 ≤ x ∧ x ≤ 65535):p23 n x = some ⟨[x % 256,x / 256],some 2⟩:=by
  unfold p23
  rw [shrI_8 (by decide) h.1,Option.bind_some,wrap_u8,wrap_u8,show x / 256 % 256 = x / 256 by omega]
theorem p28_eq (n:Nat) {k:Int} (h:0 ≤ k ∧ k ≤ 1099511627776):p28 n k = some ⟨[],.none⟩:=by
  unfold p28
  rw [if_neg (by simp;omega),show capO (⟨[],some 0⟩:Sl Int) = some 0 from rfl,Option.bind_some,show a_b (⟨[],some 0⟩:Sl Int) = 0 from rfl,a_t (by omega),Option.bind_some,a_t (by omega),Option.bind_some]
  by_cases hk:k > 0
  · have e1:k - (0 - 0) = k:=by omega
    rw [e1,if_pos (by simpa using hk),Option.bind_some,show cutI ([]:List Int) 0 = some [] from rfl,Option.bind_some]
    rw [show appZ ([]:List Int) k 0 = some (List.replicate k.toNat 0) by unfold appZ;rw [if_pos ⟨by omega,by simp;omega⟩];simp,Option.bind_some]
    rw [show cutI (List.replicate k.toNat (0:Int)) 0 = some [] by unfold cutI;rw [if_pos ⟨Int.le_refl 0,Int.natCast_nonneg _⟩];simp,Option.bind_some,Option.bind_some]
  · rw [if_neg (by simp;omega),Option.bind_some]
def cat:List (Sl Int) → List Int
  | []=>[]
  | s :: l=>s.xs ++ cat l
@[simp] theorem cat_nil:cat [] = []:=rfl
@[simp] theorem d_v (s:Sl Int) (l:List (Sl Int)):cat (s :: l) = s.xs ++ cat l:=rfl
theorem p22_l1_eq (n:Nat) (x:Sl (Sl Int)) (hL:x.xs.length ≤ 1000000):∀ (m k:Nat) (acc:Int),x.xs.length < k + m → k ≤ x.xs.length → 0 ≤ acc → acc + (cat (x.xs.drop k)).length ≤ 1099511627776 →
    p22_l1 n x m k acc = some (acc + (cat (x.xs.drop k)).length)
  | 0,k,acc,h,hk,_,_=>by omega
  | m + 1,k,acc,h,hk,h0,hs=>by
    unfold p22_l1
    by_cases hlt:k < x.xs.length
    · have ex:=List.drop_eq_getElem_cons hlt
      have e2:(cat (x.xs.drop k)).length = x.xs[k].xs.length + (cat (x.xs.drop (k + 1))).length:=by rw [ex,d_v,List.length_append]
      rw [if_pos (by simp [a_b];omega),a_W,List.getElem?_eq_getElem hlt,Option.bind_some,a_t (by simp only [a_b];omega),Option.bind_some,if_neg (by rw [decide_eq_true_eq];simp only [a_b];omega),a_t (by omega),Option.bind_some,
        show ((k:Int) + 1) = ((k + 1:Nat):Int) by simp,p22_l1_eq n x hL m (k + 1) _ (by omega) (by omega) (by simp only [a_b];omega) (by simp only [a_b];omega)]
      simp only [a_b]
      congr 1
      omega
    · rw [if_neg (by simp [a_b];omega),List.drop_eq_nil_of_le (by omega)]
      simp
theorem p22_l2_eq (n:Nat) (x:Sl (Sl Int)) (hL:x.xs.length ≤ 1000000):∀ (m k:Nat) (acc:List Int),x.xs.length < k + m → k ≤ x.xs.length → acc.length + (cat (x.xs.drop k)).length ≤ 1099511627776 →
    p22_l2 n x m k acc = some (acc ++ cat (x.xs.drop k))
  | 0,k,acc,h,hk,_=>by omega
  | m + 1,k,acc,h,hk,hs=>by
    unfold p22_l2
    by_cases hlt:k < x.xs.length
    · have ex:=List.drop_eq_getElem_cons hlt
      have e2:cat (x.xs.drop k) = x.xs[k].xs ++ cat (x.xs.drop (k + 1)):=by rw [ex,d_v]
      rw [e2,List.length_append] at hs
      rw [if_pos (by simp [a_b];omega),a_W,List.getElem?_eq_getElem hlt,Option.bind_some,b_J (by omega),Option.bind_some,a_t (by omega),Option.bind_some,
        show ((k:Int) + 1) = ((k + 1:Nat):Int) by simp,p22_l2_eq n x hL m (k + 1) _ (by omega) (by omega) (by rw [List.length_append];omega),e2,List.append_assoc]
    · rw [if_neg (by simp [a_b];omega),List.drop_eq_nil_of_le (by omega)]
      simp
theorem p22_eq (n:Nat) (x:Sl (Sl Int)) (hL:x.xs.length < n) (hL':x.xs.length ≤ 1000000) (hs:(cat x.xs).length ≤ 1099511627776):p22 n x = some ⟨cat x.xs,.none⟩:=by
  unfold p22
  have e:p22_l1 n x n 0 0 = some (0 + ((cat (x.xs.drop 0)).length:Int)):=p22_l1_eq n x hL' n 0 0 (by omega) (by omega) (by omega) (by rw [List.drop_zero];omega)
  have e2:p22_l2 n x n 0 [] = some ([] ++ cat (x.xs.drop 0)):=p22_l2_eq n x hL' n 0 [] (by omega) (by omega) (by rw [List.drop_zero];simpa using hs)
  rw [List.drop_zero] at e e2
  rw [e,Option.bind_some,p28_eq n (by omega),Option.bind_some,e2,Option.bind_some,List.nil_append]
theorem p24_eq (n:Nat) (x:Sl Int):p24 n x = some ⟨x.xs,some x.xs.length⟩:=by
  unfold p24 d_n
  rw [if_pos (by simp [a_b])]
  simp [a_b]
theorem p27_eq (n:Nat) (x:Sl (Sl Int)):p27 n x = some ⟨x.xs,some x.xs.length⟩:=by
  unfold p27 d_n
  rw [if_pos (by simp [a_b])]
  simp [a_b]
theorem p26_eq (n:Nat) (x:Sl Int) (h:x.xs.length ≤ 1000000):p26 n x = some ⟨x.xs,c_i (some 0) x.xs.length⟩:=by
  unfold p26
  rw [b_J (by simp;omega),Option.bind_some]
  simp
theorem or64I {a b:Int} (ha:0 ≤ a ∧ a ≤ 255) (hb:0 ≤ b ∧ b ≤ 255):c_f .or .i64 a (b * 256) = a + 256 * b:=by
  obtain ⟨m,rfl⟩:=Int.eq_ofNat_of_zero_le ha.1
  obtain ⟨n,rfl⟩:=Int.eq_ofNat_of_zero_le hb.1
  have h1:m < 2 ^ 8:=by omega
  have e:((n:Int) * 256) = ((n * 256:Nat):Int):=by simp
  rw [e]
  show IntKind.wrap .i64 ((BitVec.ofInt 64 (m:Int) ||| BitVec.ofInt 64 ((n * 256:Nat):Int)).toNat:Int) = _
  simp only [BitVec.toNat_or,BitVec.ofInt_natCast,BitVec.toNat_ofNat]
  rw [Nat.mod_eq_of_lt (by omega:m < 2 ^ 64),Nat.mod_eq_of_lt (by omega:n * 256 < 2 ^ 64),Nat.or_comm,show n * 256 = n <<< 8 by rw [Nat.shiftLeft_eq],← Nat.shiftLeft_add_eq_or_of_lt h1,Nat.shiftLeft_eq,IntKind.wrap_i64]
  omega
theorem shl64_8 {b:Int} (hb:0 ≤ b ∧ b ≤ 255):shlI .i64 b 8 = some (b * 256):=by
  unfold shlI
  rw [if_pos (by decide)]
  congr 1
  show IntKind.wrap .i64 (b * 2 ^ 8) = b * 256
  rw [IntKind.wrap_i64]
  omega
theorem p25_eq (n i:Nat) {x y:Int} (s:Sl Int) (h1:s.xs[i]? = some x) (h2:s.xs[i + 1]? = some y) (hi:i < 1000000) (hx:0 ≤ x ∧ x ≤ 255) (hy:0 ≤ y ∧ y ≤ 255):p25 n i s = some (x + 256 * y):=by
  unfold p25
  rw [a_W,h1,Option.bind_some,a_t (by omega),Option.bind_some,show ((i:Int) + 1) = ((i + 1:Nat):Int) by simp,a_W,h2,Option.bind_some,shl64_8 hy,Option.bind_some,or64I hx hy]
theorem p14_eq (n i:Nat) {x y:Int} (s:Sl Int) (h1:s.xs[i]? = some x) (h2:s.xs[i + 1]? = some y) (hi:i < 1000000) (hx:0 ≤ x ∧ x ≤ 255) (hy:0 ≤ y ∧ y ≤ 255):p14 n s i = some (x + 256 * y):=by
  unfold p14
  rw [a_W,h1,Option.bind_some,a_t (by omega),Option.bind_some,show ((i:Int) + 1) = ((i + 1:Nat):Int) by simp,a_W,h2,Option.bind_some,a_t (by omega),Option.bind_some,a_t (by omega),Option.bind_some]
def pad (k:Nat):Nat:=(k + 3) / 4 * 4
def body:List (List Int) → List Int
  | []=>[]
  | f :: fs=>f ++ (List.replicate (pad f.length - f.length) 0 ++ body fs)
def d_w (x:Int):List Int:=[x % 256,x / 256]
def d_x:Nat → List (List Int) → List Int
  | _,[]=>[]
  | off,f :: fs=>d_w off ++ (d_w f.length ++ d_x (off + pad f.length) fs)
def okF (fs:List (List Int)):Prop:=∀ f ∈ fs,1 ≤ f.length ∧ f.length ≤ 1514
instance (fs:List (List Int)):Decidable (okF fs):=inferInstanceAs (Decidable (∀ f ∈ fs,1 ≤ f.length ∧ f.length ≤ 1514))
def a_O (fs:List (List Int)):Nat:=24 + 4 * fs.length + (body fs).length
def a_V (fs:List (List Int)):Int × Int:=if okF fs then (if fs.length > 64 ∨ a_O fs > 16384 then (0,3) else ((a_O fs:Int),0)) else (0,1)
def a_X (fs:List (List Int)):List Int:=fs.map fun f=>(f.length:Int)
theorem a_A (f:List Int) (fs:List (List Int)):(body (f :: fs)).length = pad f.length + (body fs).length:=by
  simp only [body,List.length_append,List.length_replicate,pad]
  omega
theorem okF_cons {f:List Int} {fs:List (List Int)}:okF (f :: fs) ↔ (1 ≤ f.length ∧ f.length ≤ 1514) ∧ okF fs:=by
  simp [okF]
theorem body_4:∀ fs:List (List Int),(body fs).length % 4 = 0
  | []=>rfl
  | f :: fs=>by have:=body_4 fs;rw [a_A];unfold pad;omega
def cf:Nat → List (List Int) → Nat
  | a,[]=>a
  | a,f :: fs=>cf (pad (min a 16384 + f.length)) fs
theorem d_y:∀ (fs:List (List Int)) (a:Nat),a % 4 = 0 → a + (body fs).length ≤ 16384 → cf a fs = a + (body fs).length
  | [],a,_,_=>rfl
  | f :: fs,a,h,hs=>by
    rw [a_A] at hs ⊢
    unfold cf
    have e:pad (min a 16384 + f.length) = a + pad f.length:=by unfold pad at *;omega
    rw [e,d_y fs _ (by unfold pad;omega) (by omega)]
    omega
theorem cf_big:∀ (fs:List (List Int)) (a:Nat),a % 4 = 0 → okF fs → 16384 < a + (body fs).length → 16384 < cf a fs
  | [],a,_,_,hs=>by simpa [cf,body] using hs
  | f :: fs,a,h,hok,hs=>by
    rw [a_A] at hs
    obtain ⟨hf,hok⟩:=okF_cons.1 hok
    unfold cf
    refine cf_big fs _ (by unfold pad;omega) hok ?_
    unfold pad at *
    omega
theorem cf_le:∀ (fs:List (List Int)) (a:Nat),okF fs → a ≤ 20000 → cf a fs ≤ 20000
  | [],a,_,h=>h
  | f :: fs,a,hok,h=>by
    obtain ⟨hf,hok⟩:=okF_cons.1 hok
    unfold cf
    refine cf_le fs _ hok ?_
    unfold pad
    omega
theorem c_3 (fs:List (List Int)) (k:Nat) (h:k < fs.length):(a_X fs)[k]? = some (fs[k].length:Int):=by
  simp [a_X,List.getElem?_eq_getElem h]
theorem p10_l1_eq (n:Nat) (fs:List (List Int)) (c:Option Nat) (hL:fs.length ≤ 1000000):∀ (m k a:Nat),fs.length < k + m → k ≤ fs.length → a ≤ 20000 →
    p10_l1 n ⟨a_X fs,c⟩ m k a = some (if okF (fs.drop k) then .inl ((cf a (fs.drop k):Nat):Int) else .inr (0,1))
  | 0,k,a,h,hk,_=>by omega
  | m + 1,k,a,h,hk,ha=>by
    unfold p10_l1
    by_cases hlt:k < fs.length
    · have ex:=List.drop_eq_getElem_cons hlt
      have hl:(a_X fs).length = fs.length:=by simp [a_X]
      rw [if_pos (by simp [a_b,hl];omega),a_W,c_3 fs k hlt,Option.bind_some,orS,Option.bind_some,ex]
      by_cases hf:1 ≤ fs[k].length ∧ fs[k].length ≤ 1514
      · rw [if_neg (by simp;omega)]
        have e1:(if (16384:Int) < (a:Int) then (16384:Int) else (a:Int)) = ((min a 16384:Nat):Int):=by split <;> omega
        rw [e1,a_t (by omega),Option.bind_some,p20_eq n (by omega),Option.bind_some,a_t (by omega),Option.bind_some]
        have e2:((min a 16384:Nat):Int) + (fs[k].length:Int) + 3 = ((min a 16384 + fs[k].length + 3:Nat):Int):=by omega
        have e3:(((min a 16384:Nat):Int) + (fs[k].length:Int) + 3) / 4 * 4 = ((pad (min a 16384 + fs[k].length):Nat):Int):=by rw [e2];unfold pad;omega
        rw [e3,show ((k:Int) + 1) = ((k + 1:Nat):Int) by simp,p10_l1_eq n fs c hL m (k + 1) _ (by omega) (by omega) (by unfold pad;omega)]
        by_cases h2:okF (fs.drop (k + 1))
        · rw [if_pos h2,if_pos (okF_cons.2 ⟨hf,h2⟩)];rfl
        · rw [if_neg h2,if_neg (fun h=>h2 (okF_cons.1 h).2)]
      · rw [if_pos (by simp;omega),if_neg (fun h=>hf (okF_cons.1 h).1)]
    · have hl:(a_X fs).length = fs.length:=by simp [a_X]
      rw [if_neg (by simp [a_b,hl];omega),List.drop_eq_nil_of_le (by omega)]
      rfl
theorem p10_eq (n:Nat) (fs:List (List Int)) (c:Option Nat) (hL:fs.length < n) (hL':fs.length ≤ 1000000):p10 n ⟨a_X fs,c⟩ = some (a_V fs):=by
  unfold p10
  have hl:(a_X fs).length = fs.length:=by simp [a_X]
  have e:p10_l1 n ⟨a_X fs,c⟩ n 0 12 = some (if okF (fs.drop 0) then .inl ((cf 12 (fs.drop 0):Nat):Int) else .inr (0,1)):=p10_l1_eq n fs c hL' n 0 12 (by omega) (by omega) (by omega)
  rw [List.drop_zero] at e
  rw [e,Option.bind_some]
  unfold a_V
  by_cases hok:okF fs
  · rw [if_pos hok,if_pos hok]
    have hle:=cf_le fs 12 hok (by omega)
    simp only [lrK]
    rw [a_t (by simp only [a_b,hl];omega),Option.bind_some,a_t (by simp only [a_b,hl];omega),Option.bind_some,a_t (by simp only [a_b,hl];omega),Option.bind_some,orS,Option.bind_some]
    simp only [a_b,hl]
    by_cases hs:12 + (body fs).length ≤ 16384
    · have e2:=d_y fs 12 (by omega) hs
      rw [e2]
      by_cases hc:fs.length > 64 ∨ a_O fs > 16384
      · rw [if_pos (by simp only [Bool.or_eq_true,decide_eq_true_eq];unfold a_O at hc;omega),if_pos hc]
      · rw [if_neg (by simp only [Bool.or_eq_true,decide_eq_true_eq];unfold a_O at hc;omega),if_neg hc]
        unfold a_O
        congr 2
        omega
    · have e2:=cf_big fs 12 (by omega) hok (by omega)
      rw [if_pos (by simp only [Bool.or_eq_true,decide_eq_true_eq];omega),if_pos (.inr (by unfold a_O;omega))]
  · rw [if_neg hok,if_neg hok]
    rfl
theorem p9_l2_eq (n m:Nat) (c:Nat) (hc:c ≤ 1000000000):p9_l2 n (m + 4) c = some ((pad c:Nat):Int):=by
  have step:∀ (m c:Nat),c ≤ 2000000000 → p9_l2 n (m + 1) c = if c % 4 = 0 then some (c:Int) else p9_l2 n m ((c + 1:Nat):Int):=by
    intro m c hc
    rw [p9_l2,b_0 (by omega) (by decide) (by simp;omega),Option.bind_some]
    by_cases h:c % 4 = 0
    · rw [if_neg (by simp;omega),if_pos h]
    · rw [if_pos (by simp;omega),if_neg h,a_t (by omega),Option.bind_some]
      rfl
  rw [step _ _ (by omega)]
  unfold pad
  split
  · congr 1;omega
  · rw [step _ _ (by omega)]
    split
    · congr 1;omega
    · rw [step _ _ (by omega)]
      split
      · congr 1;omega
      · rw [step _ _ (by omega),if_pos (by omega)]
        congr 1;omega
theorem p9_l1_eq (n:Nat) (fs:List (List Int)) (c:Option Nat) (hL:fs.length ≤ 1000) (hn:4 ≤ n):∀ (m k a:Nat),fs.length < k + m → k ≤ fs.length → a % 4 = 0 → a ≤ 24 + 2000 * k →
    p9_l1 n ⟨a_X fs,c⟩ m k a = some (if okF (fs.drop k) then .inl ((a + 4 * (fs.drop k).length + (body (fs.drop k)).length:Nat):Int) else .inr (0,1))
  | 0,k,a,h,hk,_,_=>by omega
  | m + 1,k,a,h,hk,h4,ha=>by
    unfold p9_l1
    have hl:(a_X fs).length = fs.length:=by simp [a_X]
    by_cases hlt:k < fs.length
    · have ex:=List.drop_eq_getElem_cons hlt
      rw [if_pos (by simp [a_b,hl];omega),a_W,c_3 fs k hlt,Option.bind_some,Option.bind_some,orS,Option.bind_some,ex]
      by_cases hf:1 ≤ fs[k].length ∧ fs[k].length ≤ 1514
      · rw [if_neg (by simp;omega),a_t (by omega),Option.bind_some,Option.bind_some,a_t (by omega),Option.bind_some]
        obtain ⟨n',rfl⟩:∃ n',n = n' + 4:=⟨n - 4,by omega⟩
        rw [show (a:Int) + 4 + (fs[k].length:Int) = ((a + 4 + fs[k].length:Nat):Int) by omega,p9_l2_eq _ _ _ (by omega),Option.bind_some,a_t (by omega),Option.bind_some,show ((k:Int) + 1) = ((k + 1:Nat):Int) by simp]
        have e3:pad (a + 4 + fs[k].length) = a + 4 + pad fs[k].length:=by unfold pad;omega
        rw [e3,p9_l1_eq _ fs c hL hn m (k + 1) _ (by omega) (by omega) (by unfold pad;omega) (by unfold pad;omega),a_A,List.length_cons]
        by_cases h2:okF (fs.drop (k + 1))
        · rw [if_pos h2,if_pos (okF_cons.2 ⟨hf,h2⟩)];congr 3;omega
        · rw [if_neg h2,if_neg (fun h=>h2 (okF_cons.1 h).2)]
      · rw [if_pos (by simp;omega),if_neg (fun h=>hf (okF_cons.1 h).1)]
    · rw [if_neg (by simp [a_b,hl];omega),List.drop_eq_nil_of_le (by omega)]
      rfl
theorem p9_eq (n:Nat) (fs:List (List Int)) (c:Option Nat) (hL:fs.length < n) (hn:4 ≤ n) (hL':fs.length ≤ 1000):p9 n ⟨a_X fs,c⟩ = some (a_V fs):=by
  unfold p9
  have hl:(a_X fs).length = fs.length:=by simp [a_X]
  have e:p9_l1 n ⟨a_X fs,c⟩ n 0 24 = some (if okF (fs.drop 0) then .inl ((24 + 4 * (fs.drop 0).length + (body (fs.drop 0)).length:Nat):Int) else .inr (0,1)):=p9_l1_eq n fs c hL' hn n 0 24 (by omega) (by omega) (by omega) (by omega)
  rw [List.drop_zero] at e
  rw [e,Option.bind_some]
  unfold a_V
  by_cases hok:okF fs
  · rw [if_pos hok,if_pos hok]
    simp only [lrK]
    rw [orS,Option.bind_some]
    simp only [a_b,hl]
    by_cases hc:fs.length > 64 ∨ a_O fs > 16384
    · rw [if_pos (by simp only [Bool.or_eq_true,decide_eq_true_eq];unfold a_O at hc;omega),if_pos hc]
    · rw [if_neg (by simp only [Bool.or_eq_true,decide_eq_true_eq];unfold a_O at hc;omega),if_neg hc]
      rfl
  · rw [if_neg hok,if_neg hok]
    rfl
def a_y (l:List (Sl Int)):List (List Int):=l.map Sl.xs
theorem p21_l1_eq (n:Nat) (x:Sl (Sl Int)) (hL:x.xs.length ≤ 1000000):∀ (m k:Nat) (acc:List Int),x.xs.length < k + m → k ≤ x.xs.length → acc.length = k → p21_l1 n x m k acc = some (acc ++ a_X (a_y (x.xs.drop k)))
  | 0,k,acc,h,hk,_=>by omega
  | m + 1,k,acc,h,hk,ha=>by
    unfold p21_l1
    by_cases hlt:k < x.xs.length
    · have ex:=List.drop_eq_getElem_cons hlt
      rw [if_pos (by simp [a_b];omega),a_W,List.getElem?_eq_getElem hlt,Option.bind_some,b_J (by simp;omega),Option.bind_some,a_t (by omega),Option.bind_some,
        show ((k:Int) + 1) = ((k + 1:Nat):Int) by simp,p21_l1_eq n x hL m (k + 1) _ (by omega) (by omega) (by simp [ha]),show a_y (x.xs.drop k) = x.xs[k].xs :: a_y (x.xs.drop (k + 1)) by rw [ex];rfl]
      simp [a_X,a_b]
    · rw [if_neg (by simp [a_b];omega),List.drop_eq_nil_of_le (by omega)]
      simp [a_X,a_y]
theorem p21_eq (n:Nat) (x:Sl (Sl Int)) (hL:x.xs.length < n) (hL':x.xs.length ≤ 1000000):p21 n x = some ⟨a_X (a_y x.xs),.none⟩:=by
  unfold p21
  have e:p21_l1 n x n 0 [] = some ([] ++ a_X (a_y (x.xs.drop 0))):=p21_l1_eq n x hL' n 0 [] (by omega) (by omega) rfl
  rw [List.drop_zero,List.nil_append] at e
  rw [e,Option.bind_some]
theorem p11_l1_eq (n num:Nat) (x:Int × Sl (Sl Int)) (hL:x.2.xs.length ≤ 1000) (hn:4 ≤ n):∀ (m k:Nat) (en out:List Int),x.2.xs.length < k + m → k ≤ x.2.xs.length → out.length % 4 = 0 → okF (a_y (x.2.xs.drop k)) →
    out.length + (body (a_y (x.2.xs.drop k))).length ≤ 20000 → en.length ≤ 100 + 4 * k → p11_l1 n x m k en out = some (out ++ body (a_y (x.2.xs.drop k)),en ++ d_x out.length (a_y (x.2.xs.drop k)))
  | 0,k,en,out,h,hk,_,_,_,_=>by omega
  | m + 1,k,en,out,h,hk,h4,hok,hs,he=>by
    unfold p11_l1
    by_cases hlt:k < x.2.xs.length
    · have ex:=List.drop_eq_getElem_cons hlt
      have ex2:a_y (x.2.xs.drop k) = x.2.xs[k].xs :: a_y (x.2.xs.drop (k + 1)):=by rw [ex];rfl
      rw [ex2] at hok hs ⊢
      obtain ⟨hf,hok⟩:=okF_cons.1 hok
      rw [a_A] at hs
      have hp:pad x.2.xs[k].xs.length ≤ 1520 ∧ x.2.xs[k].xs.length ≤ pad x.2.xs[k].xs.length:=by unfold pad;omega
      rw [if_pos (by simp [a_b];omega),a_W,List.getElem?_eq_getElem hlt,Option.bind_some,d_u,p23_eq n (by omega),Option.bind_some,p23_eq n (by simp only [a_b];omega),Option.bind_some]
      rw [p22_eq n _ (by simp;omega) (by simp) (by simp;omega),Option.bind_some,b_J (by omega),Option.bind_some,d_u,p20_eq n (by rw [List.length_append];omega),Option.bind_some,a_t (by rw [List.length_append];omega),Option.bind_some]
      have e1:((out ++ x.2.xs[k].xs).length + 3:Int) / 4 * 4 - ((out ++ x.2.xs[k].xs).length:Int) = ((pad x.2.xs[k].xs.length - x.2.xs[k].xs.length:Nat):Int):=by
        rw [List.length_append]
        unfold pad
        omega
      rw [e1]
      have e2:appZ (out ++ x.2.xs[k].xs) ((pad x.2.xs[k].xs.length - x.2.xs[k].xs.length:Nat):Int) 0 = some (out ++ x.2.xs[k].xs ++ List.replicate (pad x.2.xs[k].xs.length - x.2.xs[k].xs.length) 0):=by
        unfold appZ
        rw [if_pos ⟨by omega,by rw [List.length_append];omega⟩]
        rfl
      rw [e2,Option.bind_some,a_t (by omega),Option.bind_some,show ((k:Int) + 1) = ((k + 1:Nat):Int) by simp]
      have e3:(out ++ x.2.xs[k].xs ++ List.replicate (pad x.2.xs[k].xs.length - x.2.xs[k].xs.length) (0:Int)).length = out.length + pad x.2.xs[k].xs.length:=by
        simp only [List.length_append,List.length_replicate]
        omega
      rw [p11_l1_eq n num x hL hn m (k + 1) _ _ (by omega) (by omega) (by rw [e3];unfold pad;omega) hok (by rw [e3];omega) (by simp;omega),e3]
      simp [body,d_x,d_w,a_b]
    · rw [if_neg (by simp [a_b];omega),List.drop_eq_nil_of_le (by omega)]
      simp [a_y,body,d_x]
def b_E (num:Int) (fs:List (List Int)):List Int :=
  [78,67,77,72] ++ (d_w 12 ++ (d_w num ++ (d_w (a_O fs) ++ (d_w ((12 + (body fs).length:Nat):Int) ++ (body fs ++ ([78,67,77,48] ++ (d_w ((12 + 4 * fs.length:Nat):Int) ++ (d_w 0 ++ (d_x 12 fs ++ [0,0,0,0])))))))))
theorem b_W:∀ (fs:List (List Int)) (a:Nat),(d_x a fs).length = 4 * fs.length
  | [],_=>rfl
  | f :: fs,a=>by simp only [d_x,List.length_append,b_W fs,List.length_cons,d_w,List.length_nil];omega
theorem c_a (num:Int) (fs:List (List Int)):(b_E num fs).length = a_O fs:=by
  simp only [b_E,List.length_append,b_W,d_w,List.length_cons,List.length_nil,a_O]
  omega
theorem p11_eq (n:Nat) (num:Int) (x:Sl (Sl Int)) (hnum:0 ≤ num ∧ num ≤ 65535) (hL:x.xs.length < n) (hn:8 ≤ n) (hL':x.xs.length ≤ 1000) :
    p11 n (num,x) = some (if (a_V (a_y x.xs)).2 = 0 then (⟨b_E num (a_y x.xs),some (a_O (a_y x.xs))⟩,0) else (⟨[],some 0⟩,(a_V (a_y x.xs)).2)):=by
  unfold p11
  have hl:(a_y x.xs).length = x.xs.length:=by simp [a_y]
  simp only
  rw [p21_eq n x hL (by omega),Option.bind_some,p10_eq n _ _ (by omega) (by omega),Option.bind_some]
  by_cases h0:(a_V (a_y x.xs)).2 = 0
  · rw [if_neg (by simp [h0]),if_pos h0]
    have hr:okF (a_y x.xs) ∧ ¬ ((a_y x.xs).length > 64 ∨ a_O (a_y x.xs) > 16384) ∧ a_V (a_y x.xs) = ((a_O (a_y x.xs):Int),0):=by
      unfold a_V at h0 ⊢
      split at h0
      · split at h0
        · cases h0
        · rename_i h1 h2
          exact ⟨h1,h2,by rw [if_pos h1,if_neg h2]⟩
      · cases h0
    obtain ⟨hok,hle,hres⟩:=hr
    rw [hres]
    have ht:a_O (a_y x.xs) ≤ 16384:=by omega
    have htd:a_O (a_y x.xs) = 24 + 4 * (a_y x.xs).length + (body (a_y x.xs)).length:=rfl
    have e1:(a_O (a_y x.xs):Int) - 12 - 4 * (x.xs.length:Int) = ((12 + (body (a_y x.xs)).length:Nat):Int):=by omega
    simp only [a_b]
    rw [a_t (by omega),Option.bind_some,a_t (by omega),Option.bind_some,a_t (by omega),Option.bind_some,p23_eq n (by omega),Option.bind_some,p23_eq n hnum,Option.bind_some,p23_eq n (by omega),Option.bind_some,e1,p23_eq n (by omega),Option.bind_some]
    rw [p22_eq n _ (by simp;omega) (by simp) (by simp),Option.bind_some,Option.bind_some,a_t (by omega),Option.bind_some,p23_eq n (by omega),Option.bind_some,p23_eq n (by omega),Option.bind_some]
    rw [p22_eq n _ (by simp;omega) (by simp) (by simp),Option.bind_some]
    have e2:=p11_l1_eq n 0 (num,x) hL' (by omega) n 0 (cat [(⟨[78,67,77,48],some 4⟩:Sl Int),⟨[(12 + 4 * (x.xs.length:Int)) % 256,(12 + 4 * (x.xs.length:Int)) / 256],some 2⟩,⟨[0 % 256,0 / 256],some 2⟩])
      (cat [(⟨[78,67,77,72],some 4⟩:Sl Int),⟨[12 % 256,12 / 256],some 2⟩,⟨[num % 256,num / 256],some 2⟩,⟨[(a_O (a_y x.xs):Int) % 256,(a_O (a_y x.xs):Int) / 256],some 2⟩,⟨[((12 + (body (a_y x.xs)).length:Nat):Int) % 256,((12 + (body (a_y x.xs)).length:Nat):Int) / 256],some 2⟩]) (by simp only;omega) (by simp) (by simp) (by rw [List.drop_zero];exact hok) (by rw [List.drop_zero];simp;omega) (by simp)
    rw [List.drop_zero] at e2
    rw [show ((0:Nat):Int) = 0 from rfl] at e2
    rw [e2,Option.bind_some,mkI_ok (by decide) (by decide) (by decide),Option.bind_some]
    have hen:(d_x 12 (a_y x.xs)).length = 4 * (a_y x.xs).length:=b_W _ _
    rw [p22_eq n _ (by simp;omega) (by simp) (by simp [hen];omega),Option.bind_some,p24_eq,Option.bind_some]
    have e3:cat [(⟨cat [(⟨[78,67,77,72],some 4⟩:Sl Int),⟨[12 % 256,12 / 256],some 2⟩,⟨[num % 256,num / 256],some 2⟩,⟨[(a_O (a_y x.xs):Int) % 256,(a_O (a_y x.xs):Int) / 256],some 2⟩,⟨[((12 + (body (a_y x.xs)).length:Nat):Int) % 256,((12 + (body (a_y x.xs)).length:Nat):Int) / 256],some 2⟩] ++ body (a_y x.xs),.none⟩:Sl Int),⟨cat [(⟨[78,67,77,48],some 4⟩:Sl Int),⟨[(12 + 4 * (x.xs.length:Int)) % 256,(12 + 4 * (x.xs.length:Int)) / 256],some 2⟩,⟨[0 % 256,0 / 256],some 2⟩] ++ d_x 12 (a_y x.xs),.none⟩,⟨List.replicate (Int.toNat 4) 0,some (Int.toNat 4)⟩] = b_E num (a_y x.xs):=by
      simp [b_E,d_w,hl]
    have e4:(b_E num (a_y x.xs)).length = a_O (a_y x.xs):=c_a _ _
    exact (congrArg (fun z:List Int=>some ((⟨z,some z.length⟩:Sl Int),(0:Int))) e3).trans (by rw [e4])
  · rw [if_pos (by simpa using h0),if_neg h0]
def tl (fs:List (List Int)):List Int :=
  78 :: 67 :: 77 :: 48 :: (((12 + 4 * fs.length:Nat):Int) % 256) :: (((12 + 4 * fs.length:Nat):Int) / 256) :: 0 :: 0 :: (d_x 12 fs ++ [0,0,0,0])
def hd (num:Int) (fs:List (List Int)):List Int :=
  [78,67,77,72,12,0,num % 256,num / 256,(a_O fs:Int) % 256,(a_O fs:Int) / 256,((12 + (body fs).length:Nat):Int) % 256,((12 + (body fs).length:Nat):Int) / 256]
theorem c_P (num:Int) (fs:List (List Int)):b_E num fs = hd num fs ++ (body fs ++ tl fs):=by
  simp [b_E,hd,tl,d_w]
theorem a_7 (num:Int) (fs:List (List Int)) (j:Nat):(b_E num fs)[12 + (body fs).length + j]? = (tl fs)[j]?:=by
  rw [c_P,List.getElem?_append_right (by simp [hd];omega),show 12 + (body fs).length + j - (hd num fs).length = (body fs).length + j by simp [hd];omega,List.getElem?_append_right (by omega)]
  congr 1
  omega
theorem b_A (num:Int) (fs:List (List Int)) (j:Nat) (hj:j < 12):(b_E num fs)[j]? = (hd num fs)[j]?:=by
  rw [c_P,List.getElem?_append_left (by simp [hd];omega)]
theorem b_4:∀ (fs:List (List Int)) (k:Nat),body fs = body (fs.take k) ++ body (fs.drop k)
  | [],k=>by simp [body]
  | f :: fs,0=>by simp [body]
  | f :: fs,k + 1=>by
    have:=b_4 fs k
    simp only [List.take_succ_cons,List.drop_succ_cons,body,List.append_assoc]
    rw [← this]
theorem c_4:∀ (fs:List (List Int)) (a k:Nat),k ≤ fs.length → (d_x a fs).drop (4 * k) = d_x (a + (body (fs.take k)).length) (fs.drop k)
  | fs,a,0,_=>by simp [body]
  | f :: fs,a,k + 1,h=>by
    have:=c_4 fs (a + pad f.length) k (by simpa using h)
    rw [List.take_succ_cons,List.drop_succ_cons,a_A,← Nat.add_assoc,← this]
    simp only [d_x,d_w,List.cons_append,List.nil_append]
    rw [show 4 * (k + 1) = 4 * k + 4 by omega]
    rfl
def off (fs:List (List Int)) (k:Nat):Nat:=12 + (body (fs.take k)).length
theorem off_succ (fs:List (List Int)) (k:Nat) (h:k < fs.length):off fs (k + 1) = off fs k + pad fs[k].length:=by
  have key:∀ (fs:List (List Int)) (k:Nat) (h:k < fs.length),(body (fs.take (k + 1))).length = (body (fs.take k)).length + pad fs[k].length:=by
    intro fs
    induction fs with
    | nil=>intro k h;simp at h
    | cons f fs ih =>
      intro k h
      cases k with
      | zero=>rw [List.take_succ_cons,a_A];simp [body]
      | succ k =>
        have:=ih k (by simpa using h)
        rw [List.take_succ_cons,a_A,this,List.take_succ_cons,a_A]
        simp
        omega
  unfold off
  rw [key fs k h]
  omega
theorem off_le (fs:List (List Int)) (k:Nat):off fs k ≤ 12 + (body fs).length:=by
  unfold off
  have:=congrArg List.length (b_4 fs k)
  rw [List.length_append] at this
  omega
theorem off_4 (fs:List (List Int)) (k:Nat):off fs k % 4 = 0:=by
  have:=body_4 (fs.take k)
  unfold off
  omega
theorem tl_ent (fs:List (List Int)) (k:Nat) (h:k < fs.length) :
    (tl fs)[8 + 4 * k]? = some ((off fs k:Int) % 256) ∧ (tl fs)[8 + 4 * k + 1]? = some ((off fs k:Int) / 256) ∧ (tl fs)[8 + 4 * k + 2]? = some ((fs[k].length:Int) % 256) ∧ (tl fs)[8 + 4 * k + 3]? = some ((fs[k].length:Int) / 256):=by
  have e:=c_4 fs 12 k (by omega)
  have ex:=List.drop_eq_getElem_cons h
  rw [ex] at e
  have hl:=b_W fs 12
  have get:∀ j,j < 4 → (tl fs)[8 + 4 * k + j]? = ((d_x 12 fs).drop (4 * k))[j]?:=by
    intro j hj
    rw [List.getElem?_drop]
    unfold tl
    rw [show 8 + 4 * k + j = (4 * k + j) + 8 by omega]
    simp only [List.getElem?_cons_succ]
    rw [List.getElem?_append_left (by omega)]
  refine ⟨?_,?_,?_,?_⟩
  · rw [show 8 + 4 * k = 8 + 4 * k + 0 from rfl,get 0 (by omega),e];rfl
  · rw [get 1 (by omega),e];rfl
  · rw [get 2 (by omega),e];rfl
  · rw [get 3 (by omega),e];rfl
theorem tl_end (fs:List (List Int)):(tl fs)[8 + 4 * fs.length]? = some 0 ∧ (tl fs)[8 + 4 * fs.length + 1]? = some 0 ∧ (tl fs)[8 + 4 * fs.length + 2]? = some 0 ∧ (tl fs)[8 + 4 * fs.length + 3]? = some 0:=by
  have hl:=b_W fs 12
  have get:∀ j,(tl fs)[8 + 4 * fs.length + j]? = [(0:Int),0,0,0][j]?:=by
    intro j
    unfold tl
    rw [show 8 + 4 * fs.length + j = (4 * fs.length + j) + 8 by omega]
    simp only [List.getElem?_cons_succ]
    rw [List.getElem?_append_right (by omega)]
    congr 1
    omega
  exact ⟨get 0,get 1,get 2,get 3⟩
theorem d_E (num:Int) (fs:List (List Int)) (k:Nat) (h:k < fs.length):∃ A C,b_E num fs = A ++ (fs[k] ++ (List.replicate (pad fs[k].length - fs[k].length) 0 ++ C)) ∧ A.length = off fs k:=by
  have ex:=List.drop_eq_getElem_cons h
  have e:=b_4 fs k
  rw [ex] at e
  refine ⟨hd num fs ++ body (fs.take k),body (fs.drop (k + 1)) ++ tl fs,?_,by simp [hd,off];omega⟩
  rw [c_P,e]
  simp [body]
structure Good (num:Int) (fs:List (List Int)):Prop where
  num:0 ≤ num ∧ num ≤ 65535
  ok:okF fs
  few:fs.length ≤ 64
  small:a_O fs ≤ 16384
section
variable {num:Int} {fs:List (List Int)}
theorem Good.rd {n i:Nat} {c:Option Nat} (g:Good num fs) {x:Int} (hi:i < 100000) (h0:0 ≤ x ∧ x ≤ 65535) (h1:(b_E num fs)[i]? = some (x % 256)) (h2:(b_E num fs)[i + 1]? = some (x / 256)):p25 n i ⟨b_E num fs,c⟩ = some x ∧ p14 n ⟨b_E num fs,c⟩ i = some x:=by
  have e:x % 256 + 256 * (x / 256) = x:=by omega
  exact ⟨by rw [p25_eq n i _ h1 h2 (by omega) (by omega) (by omega),e],by rw [p14_eq n i _ h1 h2 (by omega) (by omega) (by omega),e]⟩
theorem Good.body_le (g:Good num fs):a_O fs = 24 + 4 * fs.length + (body fs).length ∧ (body fs).length ≤ 16360:=by
  have:=g.small
  unfold a_O at *
  omega
theorem Good.ent {n k:Nat} {c:Option Nat} (g:Good num fs) (h:k < fs.length) :
    (p25 n ((12 + (body fs).length + (8 + 4 * k):Nat):Int) ⟨b_E num fs,c⟩ = some (off fs k:Int) ∧ p14 n ⟨b_E num fs,c⟩ ((12 + (body fs).length + (8 + 4 * k):Nat):Int) = some (off fs k:Int)) ∧
    (p25 n ((12 + (body fs).length + (8 + 4 * k + 2):Nat):Int) ⟨b_E num fs,c⟩ = some (fs[k].length:Int) ∧ p14 n ⟨b_E num fs,c⟩ ((12 + (body fs).length + (8 + 4 * k + 2):Nat):Int) = some (fs[k].length:Int)):=by
  obtain ⟨h1,h2,h3,h4⟩:=tl_ent fs k h
  have hb:=g.body_le
  have hf:=g.few
  have ho:=off_le fs k
  have hk:=g.ok fs[k] (List.getElem_mem h)
  refine ⟨g.rd (by omega) (by omega) (by rw [a_7];exact h1) ?_,g.rd (by omega) (by omega) (by rw [a_7];exact h3) ?_⟩
  · rw [Nat.add_assoc (12 + (body fs).length) (8 + 4 * k) 1,a_7];exact h2
  · rw [Nat.add_assoc (12 + (body fs).length) (8 + 4 * k + 2) 1,a_7];exact h4
theorem c_Q {A f C:List Int} {c:Option Nat} {o m:Nat} (hA:A.length = o) (hm:f.length = m):slI (⟨A ++ (f ++ C),c⟩:Sl Int) (o:Int) ((o + m:Nat):Int) = some ⟨f,c.map (· - o)⟩:=by
  unfold slI
  rw [if_pos ⟨by omega,by omega,by simp;omega⟩]
  congr 2
  subst hA
  subst hm
  simp only [Int.toNat_natCast]
  rw [← List.append_assoc,show A.length + f.length = (A ++ f).length by simp,List.take_left]
  exact List.drop_left
def d_z (fs:List (List Int)):List (Sl Int):=fs.map fun f=>⟨f,some f.length⟩
theorem p12_l1_eq (g:Good num fs) (n:Nat) (c:Option Nat):∀ (m k:Nat) (acc:List (Sl Int)),fs.length < k + m → k ≤ fs.length → acc.length = k →
    p12_l1 n ⟨b_E num fs,c⟩ ((12 + (body fs).length:Nat):Int) ((12 + 4 * fs.length:Nat):Int) m ((12 + (body fs).length + (8 + 4 * k):Nat):Int) acc = some (.inl (acc ++ d_z (fs.drop k)))
  | 0,k,acc,h,hk,ha=>by omega
  | m + 1,k,acc,h,hk,ha=>by
    have hb:=g.body_le
    have hfe:=g.few
    have hsm:=g.small
    unfold p12_l1
    rw [a_t (by omega),Option.bind_some,a_t (by omega),Option.bind_some]
    by_cases hlt:k < fs.length
    · have ex:=List.drop_eq_getElem_cons hlt
      obtain ⟨⟨r1,_⟩,⟨r2,_⟩⟩:=g.ent (n:=n) (c:=c) hlt
      have ho:=off_le fs k
      have ho2:off fs (k + 1) ≤ 12 + (body fs).length:=off_le fs (k + 1)
      rw [off_succ fs k hlt] at ho2
      have h4:=off_4 fs k
      have hge:12 ≤ off fs k:=by unfold off;omega
      have hok:=g.ok fs[k] (List.getElem_mem hlt)
      have hpad:fs[k].length ≤ pad fs[k].length:=by unfold pad;omega
      obtain ⟨A,C,eB,hA⟩:=d_E num fs k hlt
      rw [if_pos (by simp;omega),r1,Option.bind_some,a_t (by omega),Option.bind_some]
      rw [show (((12 + (body fs).length + (8 + 4 * k):Nat):Int) + 2) = ((12 + (body fs).length + (8 + 4 * k + 2):Nat):Int) by omega,r2,Option.bind_some]
      rw [if_neg (by simp;omega),Option.bind_some,if_neg (by decide),if_pos (by simp;omega),b_0 (by omega) (by decide) (by simp;omega),Option.bind_some,Option.bind_some]
      rw [if_pos (by simp;omega),Option.bind_some,if_pos (by simp;omega),Option.bind_some,if_pos (by simp;omega),a_t (by omega),Option.bind_some,Option.bind_some,d_u,c_a]
      rw [if_neg (by simp;omega),a_t (by omega),Option.bind_some]
      rw [show ((off fs k:Int) + (fs[k].length:Int)) = ((off fs k + fs[k].length:Nat):Int) by simp,eB,c_Q hA rfl,Option.bind_some,p26_eq n _ (by simp;omega),Option.bind_some,p24_eq,Option.bind_some,b_J (by simp;omega),Option.bind_some,Option.bind_some,← eB]
      rw [show (((12 + (body fs).length + (8 + 4 * k):Nat):Int) + 4) = ((12 + (body fs).length + (8 + 4 * (k + 1)):Nat):Int) by omega,p12_l1_eq g n c m (k + 1) _ (by omega) (by omega) (by simp [ha]),show d_z (fs.drop k) = ⟨fs[k],some fs[k].length⟩ :: d_z (fs.drop (k + 1)) by rw [ex];rfl,List.append_assoc]
      rfl
    · rw [if_neg (by simp;omega),List.drop_eq_nil_of_le (by omega)]
      simp [d_z]
theorem p12_eq (g:Good num fs) (n:Nat) (c:Option Nat) (hn:100 < n):p12 n ⟨b_E num fs,c⟩ = some ((num,⟨d_z fs,some fs.length⟩),0):=by
  have hb:=g.body_le
  have hfe:=g.few
  have hsm:=g.small
  have hnum:=g.num
  have h10:p25 n 10 ⟨b_E num fs,c⟩ = some ((12 + (body fs).length:Nat):Int):=(g.rd (n:=n) (i:=10) (c:=c) (by omega) (by omega) (by rw [b_A _ _ _ (by omega)];rfl) (by rw [b_A _ _ _ (by omega)];rfl)).1
  have h4:p25 n 4 ⟨b_E num fs,c⟩ = some 12:=(g.rd (n:=n) (i:=4) (c:=c) (x:=12) (by omega) (by omega) (by rw [b_A _ _ _ (by omega)];rfl) (by rw [b_A _ _ _ (by omega)];rfl)).1
  have h8:p25 n 8 ⟨b_E num fs,c⟩ = some (a_O fs:Int):=(g.rd (n:=n) (i:=8) (c:=c) (by omega) (by omega) (by rw [b_A _ _ _ (by omega)];rfl) (by rw [b_A _ _ _ (by omega)];rfl)).1
  have h6:p25 n 6 ⟨b_E num fs,c⟩ = some num:=(g.rd (n:=n) (i:=6) (c:=c) (by omega) (by omega) (by rw [b_A _ _ _ (by omega)];rfl) (by rw [b_A _ _ _ (by omega)];rfl)).1
  have hT4:p25 n ((12 + (body fs).length + 4:Nat):Int) ⟨b_E num fs,c⟩ = some ((12 + 4 * fs.length:Nat):Int):=(g.rd (n:=n) (c:=c) (by omega) (by omega) (by rw [a_7];rfl) (by rw [Nat.add_assoc (12 + (body fs).length),a_7];rfl)).1
  have hT6:p25 n ((12 + (body fs).length + 6:Nat):Int) ⟨b_E num fs,c⟩ = some 0:=(g.rd (n:=n) (c:=c) (x:=0) (by omega) (by omega) (by rw [a_7];rfl) (by rw [Nat.add_assoc (12 + (body fs).length),a_7];rfl)).1
  obtain ⟨z1,z2,z3,z4⟩:=tl_end fs
  have hE1:p25 n ((12 + (body fs).length + (8 + 4 * fs.length):Nat):Int) ⟨b_E num fs,c⟩ = some 0:=(g.rd (n:=n) (c:=c) (x:=0) (by omega) (by omega) (by rw [a_7];exact z1) (by rw [Nat.add_assoc (12 + (body fs).length),a_7];exact z2)).1
  have hE2:p25 n ((12 + (body fs).length + (8 + 4 * fs.length + 2):Nat):Int) ⟨b_E num fs,c⟩ = some 0:=(g.rd (n:=n) (c:=c) (x:=0) (by omega) (by omega) (by rw [a_7];exact z3) (by rw [Nat.add_assoc (12 + (body fs).length),a_7];exact z4)).1
  have s1:slI (⟨b_E num fs,c⟩:Sl Int) 0 4 = some ⟨[78,67,77,72],c.map (· - 0)⟩:=c_Q (A:=[]) (f:=[78,67,77,72]) (o:=0) (m:=4) rfl rfl
  have s2:slI (⟨b_E num fs,c⟩:Sl Int) ((12 + (body fs).length:Nat):Int) ((12 + (body fs).length + 4:Nat):Int) = some ⟨[78,67,77,48],c.map (· - (12 + (body fs).length))⟩:=by
    rw [c_P,← List.append_assoc]
    exact c_Q (A:=hd num fs ++ body fs) (f:=[78,67,77,48]) (by simp [hd];omega) rfl
  have b4:=body_4 fs
  unfold p12
  rw [d_u,c_a,orS,Option.bind_some,if_neg (by simp;omega),h10,Option.bind_some,s1,Option.bind_some]
  rw [if_pos (by simp),h4,Option.bind_some,Option.bind_some,if_pos (by simp),h8,Option.bind_some,Option.bind_some,if_pos (by simp),Option.bind_some,if_pos (by simp;omega),b_0 (by omega) (by decide) (by simp;omega),Option.bind_some,Option.bind_some,if_pos (by simp;omega),a_t (by omega),Option.bind_some,Option.bind_some,if_neg (by simp;omega)]
  have k2:ckI .i64 (((12 + (body fs).length:Nat):Int) + 4) = some ((12 + (body fs).length + 4:Nat):Int):=a_t (by omega)
  have k3:ckI .i64 (((12 + (body fs).length:Nat):Int) + ((12 + 4 * fs.length:Nat):Int)) = some (((12 + (body fs).length:Nat):Int) + ((12 + 4 * fs.length:Nat):Int)):=a_t (by omega)
  have k4:ckI .i64 (((12 + (body fs).length:Nat):Int) + 6) = some ((12 + (body fs).length + 6:Nat):Int):=a_t (by omega)
  have k5:ckI .i64 (((12 + (body fs).length:Nat):Int) + ((12 + 4 * fs.length:Nat):Int) - 4) = some ((12 + (body fs).length + (8 + 4 * fs.length):Nat):Int):=(a_t (by omega)).trans (congrArg some (by omega))
  have k6:ckI .i64 (((12 + (body fs).length:Nat):Int) + ((12 + 4 * fs.length:Nat):Int) - 2) = some ((12 + (body fs).length + (8 + 4 * fs.length + 2):Nat):Int):=(a_t (by omega)).trans (congrArg some (by omega))
  have k7:ckI .i64 (((12 + (body fs).length:Nat):Int) + 8) = some ((12 + (body fs).length + (8 + 4 * 0):Nat):Int):=a_t (by omega)
  have k8:c_5 .i64 ((12 + 4 * fs.length:Nat):Int) 4 = some (((12 + 4 * fs.length:Nat):Int) % 4):=b_0 (by omega) (by decide) (by simp <;> omega)
  rw [k2,Option.bind_some,hT4,Option.bind_some,Option.bind_some,s2,Option.bind_some]
  rw [if_pos (by simp),Option.bind_some,if_pos (by simp <;> omega),k8,Option.bind_some,Option.bind_some,if_pos (by simp <;> omega),k3,Option.bind_some,Option.bind_some,if_pos (by simp <;> omega),k4,Option.bind_some,hT6,Option.bind_some,Option.bind_some]
  rw [if_pos (by simp),Option.bind_some,k5,Option.bind_some,hE1,Option.bind_some,Option.bind_some]
  rw [if_pos (by simp),Option.bind_some,k6,Option.bind_some,hE2,Option.bind_some,Option.bind_some]
  rw [if_neg (by simp),h6,Option.bind_some,k7,Option.bind_some,p12_l1_eq g n c n 0 [] (by omega) (by omega) rfl,Option.bind_some]
  have ho:(d_z fs).length = fs.length:=by simp [d_z]
  simp only [lrK,List.drop_zero,List.nil_append]
  rw [if_neg (by simp [a_b,ho];omega),p27_eq,Option.bind_some,d_q,show num % 65536 = num by omega,ho]
end
end Go.Proofs.Ytlgalcekkffhnaa
