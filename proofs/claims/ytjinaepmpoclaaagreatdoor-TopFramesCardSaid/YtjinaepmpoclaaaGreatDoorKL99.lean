/- Plain theorems for the laws: what the plain functions say. No condition. -/
import Derived.Test.YtjinaepmpoclaaaGreatDoorLB1
import Derived.Test.YtjinaepmpoclaaaGreatDoorP3
import Derived.Test.YtjinaepmpoclaaaGreatDoorLB2
set_option linter.unusedVariables false
set_option linter.unusedSimpArgs false
namespace Go.Proofs.YtjinaepmpoclaaaGreatDoor
open Go.RowKit
theorem d_V {α:Type} (xs:List α) (c:Option Nat):a_d (⟨xs,c⟩:Sl α) = (xs.length:Int):=rfl
theorem p26_eq (n:Nat) {x:Int} (h:0 ≤ x ∧ x ≤ 1099511627776):p26 n x = some ((x + 3) / 4 * 4):=by
  unfold p26
  rw [a_t (by omega),Option.bind_some,quoI_ok (by omega) (by decide) (by simp;omega),Option.bind_some,a_t (by omega),Option.bind_some]
theorem p28_eq (n:Nat) {x:Int} (h:0 ≤ x ∧ x ≤ 65535):p28 n x = some ⟨[x % 256,x / 256],some 2⟩:=by
  unfold p28
  rw [shrI_8 (by decide) h.1,Option.bind_some,wrap_u8,wrap_u8,show x / 256 % 256 = x / 256 by omega]
theorem p41_eq (n:Nat) {k:Int} (h:0 ≤ k ∧ k ≤ 1099511627776):p41 n k = some ⟨[],.none⟩:=by
  unfold p41
  rw [if_neg (by simp;omega),show capO (⟨[],some 0⟩:Sl Int) = some 0 from rfl,Option.bind_some,show a_d (⟨[],some 0⟩:Sl Int) = 0 from rfl,a_t (by omega),Option.bind_some,a_t (by omega),Option.bind_some]
  by_cases hk:k > 0
  · have e1:k - (0 - 0) = k:=by omega
    rw [e1,if_pos (by simpa using hk),Option.bind_some,show cutI ([]:List Int) 0 = some [] from rfl,Option.bind_some]
    rw [show appZ ([]:List Int) k 0 = some (List.replicate k.toNat 0) by unfold appZ;rw [if_pos ⟨by omega,by simp;omega⟩];simp,Option.bind_some]
    rw [show cutI (List.replicate k.toNat (0:Int)) 0 = some [] by unfold cutI;rw [if_pos ⟨Int.le_refl 0,Int.natCast_nonneg _⟩];simp,Option.bind_some,Option.bind_some]
  · rw [if_neg (by simp;omega),Option.bind_some]
def cat:List (Sl Int) → List Int
  | []=>[]
  | s :: l=>s.xs ++ cat l
@[simp] theorem cat_nil:cat [] = []:=rfl
@[simp] theorem d_W (s:Sl Int) (l:List (Sl Int)):cat (s :: l) = s.xs ++ cat l:=rfl
theorem p27_l1_eq (n:Nat) (x:Sl (Sl Int)) (hL:x.xs.length ≤ 1000000):∀ (m k:Nat) (acc:Int),x.xs.length < k + m → k ≤ x.xs.length → 0 ≤ acc → acc + (cat (x.xs.drop k)).length ≤ 1099511627776 →
    p27_l1 n x m k acc = some (acc + (cat (x.xs.drop k)).length)
  | 0,k,acc,h,hk,_,_=>by omega
  | m + 1,k,acc,h,hk,h0,hs=>by
    unfold p27_l1
    by_cases hlt:k < x.xs.length
    · have ex:=List.drop_eq_getElem_cons hlt
      have e2:(cat (x.xs.drop k)).length = x.xs[k].xs.length + (cat (x.xs.drop (k + 1))).length:=by rw [ex,d_W,List.length_append]
      rw [if_pos (by simp [a_d];omega),a_5,List.getElem?_eq_getElem hlt,Option.bind_some,a_t (by simp only [a_d];omega),Option.bind_some,if_neg (by rw [decide_eq_true_eq];simp only [a_d];omega),a_t (by omega),Option.bind_some,
        show ((k:Int) + 1) = ((k + 1:Nat):Int) by simp,p27_l1_eq n x hL m (k + 1) _ (by omega) (by omega) (by simp only [a_d];omega) (by simp only [a_d];omega)]
      simp only [a_d]
      congr 1
      omega
    · rw [if_neg (by simp [a_d];omega),List.drop_eq_nil_of_le (by omega)]
      simp
theorem p27_l2_eq (n:Nat) (x:Sl (Sl Int)) (hL:x.xs.length ≤ 1000000):∀ (m k:Nat) (acc:List Int),x.xs.length < k + m → k ≤ x.xs.length → acc.length + (cat (x.xs.drop k)).length ≤ 1099511627776 →
    p27_l2 n x m k acc = some (acc ++ cat (x.xs.drop k))
  | 0,k,acc,h,hk,_=>by omega
  | m + 1,k,acc,h,hk,hs=>by
    unfold p27_l2
    by_cases hlt:k < x.xs.length
    · have ex:=List.drop_eq_getElem_cons hlt
      have e2:cat (x.xs.drop k) = x.xs[k].xs ++ cat (x.xs.drop (k + 1)):=by rw [ex,d_W]
      rw [e2,List.length_append] at hs
      rw [if_pos (by simp [a_d];omega),a_5,List.getElem?_eq_getElem hlt,Option.bind_some,b_k (by omega),Option.bind_some,a_t (by omega),Option.bind_some,
        show ((k:Int) + 1) = ((k + 1:Nat):Int) by simp,p27_l2_eq n x hL m (k + 1) _ (by omega) (by omega) (by rw [List.length_append];omega),e2,List.append_assoc]
    · rw [if_neg (by simp [a_d];omega),List.drop_eq_nil_of_le (by omega)]
      simp
theorem p27_eq (n:Nat) (x:Sl (Sl Int)) (hL:x.xs.length < n) (hL':x.xs.length ≤ 1000000) (hs:(cat x.xs).length ≤ 1099511627776):p27 n x = some ⟨cat x.xs,.none⟩:=by
  unfold p27
  have e:p27_l1 n x n 0 0 = some (0 + ((cat (x.xs.drop 0)).length:Int)):=p27_l1_eq n x hL' n 0 0 (by omega) (by omega) (by omega) (by rw [List.drop_zero];omega)
  have e2:p27_l2 n x n 0 [] = some ([] ++ cat (x.xs.drop 0)):=p27_l2_eq n x hL' n 0 [] (by omega) (by omega) (by rw [List.drop_zero];simpa using hs)
  rw [List.drop_zero] at e e2
  rw [e,Option.bind_some,p41_eq n (by omega),Option.bind_some,e2,Option.bind_some,List.nil_append]
theorem p21_eq (n:Nat) (x:Sl Int):p21 n x = some ⟨x.xs,some x.xs.length⟩:=by
  unfold p21 c_c
  rw [if_pos (by simp [a_d])]
  simp [a_d]
theorem p22_eq (n:Nat) (x:Sl (Sl Int)):p22 n x = some ⟨x.xs,some x.xs.length⟩:=by
  unfold p22 c_c
  rw [if_pos (by simp [a_d])]
  simp [a_d]
theorem p15_eq (n:Nat) (x:Sl Int) (h:x.xs.length ≤ 1000000):p15 n x = some ⟨x.xs,b_O (some 0) x.xs.length⟩:=by
  unfold p15
  rw [b_k (by simp;omega),Option.bind_some]
  simp
theorem or64I {a b:Int} (ha:0 ≤ a ∧ a ≤ 255) (hb:0 ≤ b ∧ b ≤ 255):a_y .or .i64 a (b * 256) = a + 256 * b:=by
  obtain ⟨m,rfl⟩:=Int.eq_ofNat_of_zero_le ha.1
  obtain ⟨n,rfl⟩:=Int.eq_ofNat_of_zero_le hb.1
  have h1:m < 2 ^ 8:=by omega
  have e:((n:Int) * 256) = ((n * 256:Nat):Int):=by simp
  rw [e]
  show IntKind.wrap .i64 ((BitVec.ofInt 64 (m:Int) ||| BitVec.ofInt 64 ((n * 256:Nat):Int)).toNat:Int) = _
  simp only [BitVec.toNat_or,BitVec.ofInt_natCast,BitVec.toNat_ofNat]
  rw [Nat.mod_eq_of_lt (by omega:m < 2 ^ 64),Nat.mod_eq_of_lt (by omega:n * 256 < 2 ^ 64),Nat.or_comm,show n * 256 = n <<< 8 by rw [Nat.shiftLeft_eq],← Nat.shiftLeft_add_eq_or_of_lt h1,Nat.shiftLeft_eq,IntKind.wrap_i64]
  omega
theorem shl64_8 {b:Int} (hb:0 ≤ b ∧ b ≤ 255):shlI .i64 b 8 = some (b * 256):=by
  unfold shlI
  rw [if_pos (by decide)]
  congr 1
  show IntKind.wrap .i64 (b * 2 ^ 8) = b * 256
  rw [IntKind.wrap_i64]
  omega
theorem p20_eq (n i:Nat) {x y:Int} (s:Sl Int) (h1:s.xs[i]? = some x) (h2:s.xs[i + 1]? = some y) (hi:i < 1000000) (hx:0 ≤ x ∧ x ≤ 255) (hy:0 ≤ y ∧ y ≤ 255):p20 n i s = some (x + 256 * y):=by
  unfold p20
  rw [a_5,h1,Option.bind_some,a_t (by omega),Option.bind_some,show ((i:Int) + 1) = ((i + 1:Nat):Int) by simp,a_5,h2,Option.bind_some,shl64_8 hy,Option.bind_some,or64I hx hy]
def pad (k:Nat):Nat:=(k + 3) / 4 * 4
def body:List (List Int) → List Int
  | []=>[]
  | f :: fs=>f ++ (List.replicate (pad f.length - f.length) 0 ++ body fs)
def d_X (x:Int):List Int:=[x % 256,x / 256]
def d_Y:Nat → List (List Int) → List Int
  | _,[]=>[]
  | off,f :: fs=>d_X off ++ (d_X f.length ++ d_Y (off + pad f.length) fs)
def okF (fs:List (List Int)):Prop:=∀ f ∈ fs,1 ≤ f.length ∧ f.length ≤ 1514
instance (fs:List (List Int)):Decidable (okF fs):=inferInstanceAs (Decidable (∀ f ∈ fs,1 ≤ f.length ∧ f.length ≤ 1514))
def a_W (fs:List (List Int)):Nat:=24 + 4 * fs.length + (body fs).length
def b_G (fs:List (List Int)):Int × Int:=if okF fs then (if fs.length > 64 ∨ a_W fs > 16384 then (0,3) else ((a_W fs:Int),0)) else (0,1)
def b_V (fs:List (List Int)):List Int:=fs.map fun f=>(f.length:Int)
theorem a_L (f:List Int) (fs:List (List Int)):(body (f :: fs)).length = pad f.length + (body fs).length:=by
  simp only [body,List.length_append,List.length_replicate,pad]
  omega
theorem okF_cons {f:List Int} {fs:List (List Int)}:okF (f :: fs) ↔ (1 ≤ f.length ∧ f.length ≤ 1514) ∧ okF fs:=by
  simp [okF]
theorem body_4:∀ fs:List (List Int),(body fs).length % 4 = 0
  | []=>rfl
  | f :: fs=>by have:=body_4 fs;rw [a_L];unfold pad;omega
def cf:Nat → List (List Int) → Nat
  | a,[]=>a
  | a,f :: fs=>cf (pad (min a 16384 + f.length)) fs
theorem d_Z:∀ (fs:List (List Int)) (a:Nat),a % 4 = 0 → a + (body fs).length ≤ 16384 → cf a fs = a + (body fs).length
  | [],a,_,_=>rfl
  | f :: fs,a,h,hs=>by
    rw [a_L] at hs ⊢
    unfold cf
    have e:pad (min a 16384 + f.length) = a + pad f.length:=by unfold pad at *;omega
    rw [e,d_Z fs _ (by unfold pad;omega) (by omega)]
    omega
theorem cf_big:∀ (fs:List (List Int)) (a:Nat),a % 4 = 0 → okF fs → 16384 < a + (body fs).length → 16384 < cf a fs
  | [],a,_,_,hs=>by simpa [cf,body] using hs
  | f :: fs,a,h,hok,hs=>by
    rw [a_L] at hs
    obtain ⟨hf,hok⟩:=okF_cons.1 hok
    unfold cf
    refine cf_big fs _ (by unfold pad;omega) hok ?_
    unfold pad at *
    omega
theorem cf_le:∀ (fs:List (List Int)) (a:Nat),okF fs → a ≤ 20000 → cf a fs ≤ 20000
  | [],a,_,h=>h
  | f :: fs,a,hok,h=>by
    obtain ⟨hf,hok⟩:=okF_cons.1 hok
    unfold cf
    refine cf_le fs _ hok ?_
    unfold pad
    omega
theorem sizes_get (fs:List (List Int)) (k:Nat) (h:k < fs.length):(b_V fs)[k]? = some (fs[k].length:Int):=by
  simp [b_V,List.getElem?_eq_getElem h]
theorem p14_l1_eq (n:Nat) (fs:List (List Int)) (c:Option Nat) (hL:fs.length ≤ 1000000):∀ (m k a:Nat),fs.length < k + m → k ≤ fs.length → a ≤ 20000 →
    p14_l1 n ⟨b_V fs,c⟩ m k a = some (if okF (fs.drop k) then .inl ((cf a (fs.drop k):Nat):Int) else .inr (0,1))
  | 0,k,a,h,hk,_=>by omega
  | m + 1,k,a,h,hk,ha=>by
    unfold p14_l1
    by_cases hlt:k < fs.length
    · have ex:=List.drop_eq_getElem_cons hlt
      have hl:(b_V fs).length = fs.length:=by simp [b_V]
      rw [if_pos (by simp [a_d,hl];omega),a_5,sizes_get fs k hlt,Option.bind_some,orS,Option.bind_some,ex]
      by_cases hf:1 ≤ fs[k].length ∧ fs[k].length ≤ 1514
      · rw [if_neg (by simp;omega)]
        have e1:(if (16384:Int) < (a:Int) then (16384:Int) else (a:Int)) = ((min a 16384:Nat):Int):=by split <;> omega
        rw [e1,a_t (by omega),Option.bind_some,p26_eq n (by omega),Option.bind_some,a_t (by omega),Option.bind_some]
        have e2:((min a 16384:Nat):Int) + (fs[k].length:Int) + 3 = ((min a 16384 + fs[k].length + 3:Nat):Int):=by omega
        have e3:(((min a 16384:Nat):Int) + (fs[k].length:Int) + 3) / 4 * 4 = ((pad (min a 16384 + fs[k].length):Nat):Int):=by rw [e2];unfold pad;omega
        rw [e3,show ((k:Int) + 1) = ((k + 1:Nat):Int) by simp,p14_l1_eq n fs c hL m (k + 1) _ (by omega) (by omega) (by unfold pad;omega)]
        by_cases h2:okF (fs.drop (k + 1))
        · rw [if_pos h2,if_pos (okF_cons.2 ⟨hf,h2⟩)];rfl
        · rw [if_neg h2,if_neg (fun h=>h2 (okF_cons.1 h).2)]
      · rw [if_pos (by simp;omega),if_neg (fun h=>hf (okF_cons.1 h).1)]
    · have hl:(b_V fs).length = fs.length:=by simp [b_V]
      rw [if_neg (by simp [a_d,hl];omega),List.drop_eq_nil_of_le (by omega)]
      rfl
theorem p14_eq (n:Nat) (fs:List (List Int)) (c:Option Nat) (hL:fs.length < n) (hL':fs.length ≤ 1000000):p14 n ⟨b_V fs,c⟩ = some (b_G fs):=by
  unfold p14
  have hl:(b_V fs).length = fs.length:=by simp [b_V]
  have e:p14_l1 n ⟨b_V fs,c⟩ n 0 12 = some (if okF (fs.drop 0) then .inl ((cf 12 (fs.drop 0):Nat):Int) else .inr (0,1)):=p14_l1_eq n fs c hL' n 0 12 (by omega) (by omega) (by omega)
  rw [List.drop_zero] at e
  rw [e,Option.bind_some]
  unfold b_G
  by_cases hok:okF fs
  · rw [if_pos hok,if_pos hok]
    have hle:=cf_le fs 12 hok (by omega)
    simp only [lrK]
    rw [a_t (by simp only [a_d,hl];omega),Option.bind_some,a_t (by simp only [a_d,hl];omega),Option.bind_some,a_t (by simp only [a_d,hl];omega),Option.bind_some,orS,Option.bind_some]
    simp only [a_d,hl]
    by_cases hs:12 + (body fs).length ≤ 16384
    · have e2:=d_Z fs 12 (by omega) hs
      rw [e2]
      by_cases hc:fs.length > 64 ∨ a_W fs > 16384
      · rw [if_pos (by simp only [Bool.or_eq_true,decide_eq_true_eq];unfold a_W at hc;omega),if_pos hc]
      · rw [if_neg (by simp only [Bool.or_eq_true,decide_eq_true_eq];unfold a_W at hc;omega),if_neg hc]
        unfold a_W
        congr 2
        omega
    · have e2:=cf_big fs 12 (by omega) hok (by omega)
      rw [if_pos (by simp only [Bool.or_eq_true,decide_eq_true_eq];omega),if_pos (.inr (by unfold a_W;omega))]
  · rw [if_neg hok,if_neg hok]
    rfl
def a_D (l:List (Sl Int)):List (List Int):=l.map Sl.xs
theorem p16_l1_eq (n:Nat) (x:Sl (Sl Int)) (hL:x.xs.length ≤ 1000000):∀ (m k:Nat) (acc:List Int),x.xs.length < k + m → k ≤ x.xs.length → acc.length = k → p16_l1 n x m k acc = some (acc ++ b_V (a_D (x.xs.drop k)))
  | 0,k,acc,h,hk,_=>by omega
  | m + 1,k,acc,h,hk,ha=>by
    unfold p16_l1
    by_cases hlt:k < x.xs.length
    · have ex:=List.drop_eq_getElem_cons hlt
      rw [if_pos (by simp [a_d];omega),a_5,List.getElem?_eq_getElem hlt,Option.bind_some,b_k (by simp;omega),Option.bind_some,a_t (by omega),Option.bind_some,
        show ((k:Int) + 1) = ((k + 1:Nat):Int) by simp,p16_l1_eq n x hL m (k + 1) _ (by omega) (by omega) (by simp [ha]),show a_D (x.xs.drop k) = x.xs[k].xs :: a_D (x.xs.drop (k + 1)) by rw [ex];rfl]
      simp [b_V,a_d]
    · rw [if_neg (by simp [a_d];omega),List.drop_eq_nil_of_le (by omega)]
      simp [b_V,a_D]
theorem p16_eq (n:Nat) (x:Sl (Sl Int)) (hL:x.xs.length < n) (hL':x.xs.length ≤ 1000000):p16 n x = some ⟨b_V (a_D x.xs),.none⟩:=by
  unfold p16
  have e:p16_l1 n x n 0 [] = some ([] ++ b_V (a_D (x.xs.drop 0))):=p16_l1_eq n x hL' n 0 [] (by omega) (by omega) rfl
  rw [List.drop_zero,List.nil_append] at e
  rw [e,Option.bind_some]
theorem p17_l1_eq (n num:Nat) (x:Int × Sl (Sl Int)) (hL:x.2.xs.length ≤ 1000) (hn:4 ≤ n):∀ (m k:Nat) (en out:List Int),x.2.xs.length < k + m → k ≤ x.2.xs.length → out.length % 4 = 0 → okF (a_D (x.2.xs.drop k)) →
    out.length + (body (a_D (x.2.xs.drop k))).length ≤ 20000 → en.length ≤ 100 + 4 * k → p17_l1 n x m k en out = some (out ++ body (a_D (x.2.xs.drop k)),en ++ d_Y out.length (a_D (x.2.xs.drop k)))
  | 0,k,en,out,h,hk,_,_,_,_=>by omega
  | m + 1,k,en,out,h,hk,h4,hok,hs,he=>by
    unfold p17_l1
    by_cases hlt:k < x.2.xs.length
    · have ex:=List.drop_eq_getElem_cons hlt
      have ex2:a_D (x.2.xs.drop k) = x.2.xs[k].xs :: a_D (x.2.xs.drop (k + 1)):=by rw [ex];rfl
      rw [ex2] at hok hs ⊢
      obtain ⟨hf,hok⟩:=okF_cons.1 hok
      rw [a_L] at hs
      have hp:pad x.2.xs[k].xs.length ≤ 1520 ∧ x.2.xs[k].xs.length ≤ pad x.2.xs[k].xs.length:=by unfold pad;omega
      rw [if_pos (by simp [a_d];omega),a_5,List.getElem?_eq_getElem hlt,Option.bind_some,d_V,p28_eq n (by omega),Option.bind_some,p28_eq n (by simp only [a_d];omega),Option.bind_some]
      rw [p27_eq n _ (by simp;omega) (by simp) (by simp;omega),Option.bind_some,b_k (by omega),Option.bind_some,d_V,p26_eq n (by rw [List.length_append];omega),Option.bind_some,a_t (by rw [List.length_append];omega),Option.bind_some]
      have e1:((out ++ x.2.xs[k].xs).length + 3:Int) / 4 * 4 - ((out ++ x.2.xs[k].xs).length:Int) = ((pad x.2.xs[k].xs.length - x.2.xs[k].xs.length:Nat):Int):=by
        rw [List.length_append]
        unfold pad
        omega
      rw [e1]
      have e2:appZ (out ++ x.2.xs[k].xs) ((pad x.2.xs[k].xs.length - x.2.xs[k].xs.length:Nat):Int) 0 = some (out ++ x.2.xs[k].xs ++ List.replicate (pad x.2.xs[k].xs.length - x.2.xs[k].xs.length) 0):=by
        unfold appZ
        rw [if_pos ⟨by omega,by rw [List.length_append];omega⟩]
        rfl
      rw [e2,Option.bind_some,a_t (by omega),Option.bind_some,show ((k:Int) + 1) = ((k + 1:Nat):Int) by simp]
      have e3:(out ++ x.2.xs[k].xs ++ List.replicate (pad x.2.xs[k].xs.length - x.2.xs[k].xs.length) (0:Int)).length = out.length + pad x.2.xs[k].xs.length:=by
        simp only [List.length_append,List.length_replicate]
        omega
      rw [p17_l1_eq n num x hL hn m (k + 1) _ _ (by omega) (by omega) (by rw [e3];unfold pad;omega) hok (by rw [e3];omega) (by simp;omega),e3]
      simp [body,d_Y,d_X,a_d]
    · rw [if_neg (by simp [a_d];omega),List.drop_eq_nil_of_le (by omega)]
      simp [a_D,body,d_Y]
def b_D (num:Int) (fs:List (List Int)):List Int :=
  [78,67,77,72] ++ (d_X 12 ++ (d_X num ++ (d_X (a_W fs) ++ (d_X ((12 + (body fs).length:Nat):Int) ++ (body fs ++ ([78,67,77,48] ++ (d_X ((12 + 4 * fs.length:Nat):Int) ++ (d_X 0 ++ (d_Y 12 fs ++ [0,0,0,0])))))))))
theorem c_i:∀ (fs:List (List Int)) (a:Nat),(d_Y a fs).length = 4 * fs.length
  | [],_=>rfl
  | f :: fs,a=>by simp only [d_Y,List.length_append,c_i fs,List.length_cons,d_X,List.length_nil];omega
theorem b_Z (num:Int) (fs:List (List Int)):(b_D num fs).length = a_W fs:=by
  simp only [b_D,List.length_append,c_i,d_X,List.length_cons,List.length_nil,a_W]
  omega
theorem p17_eq (n:Nat) (num:Int) (x:Sl (Sl Int)) (hnum:0 ≤ num ∧ num ≤ 65535) (hL:x.xs.length < n) (hn:8 ≤ n) (hL':x.xs.length ≤ 1000) :
    p17 n (num,x) = some (if (b_G (a_D x.xs)).2 = 0 then (⟨b_D num (a_D x.xs),some (a_W (a_D x.xs))⟩,0) else (⟨[],some 0⟩,(b_G (a_D x.xs)).2)):=by
  unfold p17
  have hl:(a_D x.xs).length = x.xs.length:=by simp [a_D]
  simp only
  rw [p16_eq n x hL (by omega),Option.bind_some,p14_eq n _ _ (by omega) (by omega),Option.bind_some]
  by_cases h0:(b_G (a_D x.xs)).2 = 0
  · rw [if_neg (by simp [h0]),if_pos h0]
    have hr:okF (a_D x.xs) ∧ ¬ ((a_D x.xs).length > 64 ∨ a_W (a_D x.xs) > 16384) ∧ b_G (a_D x.xs) = ((a_W (a_D x.xs):Int),0):=by
      unfold b_G at h0 ⊢
      split at h0
      · split at h0
        · cases h0
        · rename_i h1 h2
          exact ⟨h1,h2,by rw [if_pos h1,if_neg h2]⟩
      · cases h0
    obtain ⟨hok,hle,hres⟩:=hr
    rw [hres]
    have ht:a_W (a_D x.xs) ≤ 16384:=by omega
    have htd:a_W (a_D x.xs) = 24 + 4 * (a_D x.xs).length + (body (a_D x.xs)).length:=rfl
    have e1:(a_W (a_D x.xs):Int) - 12 - 4 * (x.xs.length:Int) = ((12 + (body (a_D x.xs)).length:Nat):Int):=by omega
    simp only [a_d]
    rw [a_t (by omega),Option.bind_some,a_t (by omega),Option.bind_some,a_t (by omega),Option.bind_some,p28_eq n (by omega),Option.bind_some,p28_eq n hnum,Option.bind_some,p28_eq n (by omega),Option.bind_some,e1,p28_eq n (by omega),Option.bind_some]
    rw [p27_eq n _ (by simp;omega) (by simp) (by simp),Option.bind_some,Option.bind_some,a_t (by omega),Option.bind_some,p28_eq n (by omega),Option.bind_some,p28_eq n (by omega),Option.bind_some]
    rw [p27_eq n _ (by simp;omega) (by simp) (by simp),Option.bind_some]
    have e2:=p17_l1_eq n 0 (num,x) hL' (by omega) n 0 (cat [(⟨[78,67,77,48],some 4⟩:Sl Int),⟨[(12 + 4 * (x.xs.length:Int)) % 256,(12 + 4 * (x.xs.length:Int)) / 256],some 2⟩,⟨[0 % 256,0 / 256],some 2⟩])
      (cat [(⟨[78,67,77,72],some 4⟩:Sl Int),⟨[12 % 256,12 / 256],some 2⟩,⟨[num % 256,num / 256],some 2⟩,⟨[(a_W (a_D x.xs):Int) % 256,(a_W (a_D x.xs):Int) / 256],some 2⟩,⟨[((12 + (body (a_D x.xs)).length:Nat):Int) % 256,((12 + (body (a_D x.xs)).length:Nat):Int) / 256],some 2⟩]) (by simp only;omega) (by simp) (by simp) (by rw [List.drop_zero];exact hok) (by rw [List.drop_zero];simp;omega) (by simp)
    rw [List.drop_zero] at e2
    rw [show ((0:Nat):Int) = 0 from rfl] at e2
    rw [e2,Option.bind_some,mkI_ok (by decide) (by decide) (by decide),Option.bind_some]
    have hen:(d_Y 12 (a_D x.xs)).length = 4 * (a_D x.xs).length:=c_i _ _
    rw [p27_eq n _ (by simp;omega) (by simp) (by simp [hen];omega),Option.bind_some,p21_eq,Option.bind_some]
    have e3:cat [(⟨cat [(⟨[78,67,77,72],some 4⟩:Sl Int),⟨[12 % 256,12 / 256],some 2⟩,⟨[num % 256,num / 256],some 2⟩,⟨[(a_W (a_D x.xs):Int) % 256,(a_W (a_D x.xs):Int) / 256],some 2⟩,⟨[((12 + (body (a_D x.xs)).length:Nat):Int) % 256,((12 + (body (a_D x.xs)).length:Nat):Int) / 256],some 2⟩] ++ body (a_D x.xs),.none⟩:Sl Int),⟨cat [(⟨[78,67,77,48],some 4⟩:Sl Int),⟨[(12 + 4 * (x.xs.length:Int)) % 256,(12 + 4 * (x.xs.length:Int)) / 256],some 2⟩,⟨[0 % 256,0 / 256],some 2⟩] ++ d_Y 12 (a_D x.xs),.none⟩,⟨List.replicate (Int.toNat 4) 0,some (Int.toNat 4)⟩] = b_D num (a_D x.xs):=by
      simp [b_D,d_X,hl]
    have e4:(b_D num (a_D x.xs)).length = a_W (a_D x.xs):=b_Z _ _
    exact (congrArg (fun z:List Int=>some ((⟨z,some z.length⟩:Sl Int),(0:Int))) e3).trans (by rw [e4])
  · rw [if_pos (by simpa using h0),if_neg h0]
def tl (fs:List (List Int)):List Int :=
  78 :: 67 :: 77 :: 48 :: (((12 + 4 * fs.length:Nat):Int) % 256) :: (((12 + 4 * fs.length:Nat):Int) / 256) :: 0 :: 0 :: (d_Y 12 fs ++ [0,0,0,0])
def hd (num:Int) (fs:List (List Int)):List Int :=
  [78,67,77,72,12,0,num % 256,num / 256,(a_W fs:Int) % 256,(a_W fs:Int) / 256,((12 + (body fs).length:Nat):Int) % 256,((12 + (body fs).length:Nat):Int) / 256]
theorem c_9 (num:Int) (fs:List (List Int)):b_D num fs = hd num fs ++ (body fs ++ tl fs):=by
  simp [b_D,hd,tl,d_X]
theorem b_c (num:Int) (fs:List (List Int)) (j:Nat):(b_D num fs)[12 + (body fs).length + j]? = (tl fs)[j]?:=by
  rw [c_9,List.getElem?_append_right (by simp [hd];omega),show 12 + (body fs).length + j - (hd num fs).length = (body fs).length + j by simp [hd];omega,List.getElem?_append_right (by omega)]
  congr 1
  omega
theorem b_W (num:Int) (fs:List (List Int)) (j:Nat) (hj:j < 12):(b_D num fs)[j]? = (hd num fs)[j]?:=by
  rw [c_9,List.getElem?_append_left (by simp [hd];omega)]
theorem c_p:∀ (fs:List (List Int)) (k:Nat),body fs = body (fs.take k) ++ body (fs.drop k)
  | [],k=>by simp [body]
  | f :: fs,0=>by simp [body]
  | f :: fs,k + 1=>by
    have:=c_p fs k
    simp only [List.take_succ_cons,List.drop_succ_cons,body,List.append_assoc]
    rw [← this]
theorem d_r:∀ (fs:List (List Int)) (a k:Nat),k ≤ fs.length → (d_Y a fs).drop (4 * k) = d_Y (a + (body (fs.take k)).length) (fs.drop k)
  | fs,a,0,_=>by simp [body]
  | f :: fs,a,k + 1,h=>by
    have:=d_r fs (a + pad f.length) k (by simpa using h)
    rw [List.take_succ_cons,List.drop_succ_cons,a_L,← Nat.add_assoc,← this]
    simp only [d_Y,d_X,List.cons_append,List.nil_append]
    rw [show 4 * (k + 1) = 4 * k + 4 by omega]
    rfl
def off (fs:List (List Int)) (k:Nat):Nat:=12 + (body (fs.take k)).length
theorem off_succ (fs:List (List Int)) (k:Nat) (h:k < fs.length):off fs (k + 1) = off fs k + pad fs[k].length:=by
  have key:∀ (fs:List (List Int)) (k:Nat) (h:k < fs.length),(body (fs.take (k + 1))).length = (body (fs.take k)).length + pad fs[k].length:=by
    intro fs
    induction fs with
    | nil=>intro k h;simp at h
    | cons f fs ih =>
      intro k h
      cases k with
      | zero=>rw [List.take_succ_cons,a_L];simp [body]
      | succ k =>
        have:=ih k (by simpa using h)
        rw [List.take_succ_cons,a_L,this,List.take_succ_cons,a_L]
        simp
        omega
  unfold off
  rw [key fs k h]
  omega
theorem off_le (fs:List (List Int)) (k:Nat):off fs k ≤ 12 + (body fs).length:=by
  unfold off
  have:=congrArg List.length (c_p fs k)
  rw [List.length_append] at this
  omega
theorem off_4 (fs:List (List Int)) (k:Nat):off fs k % 4 = 0:=by
  have:=body_4 (fs.take k)
  unfold off
  omega
theorem tl_ent (fs:List (List Int)) (k:Nat) (h:k < fs.length) :
    (tl fs)[8 + 4 * k]? = some ((off fs k:Int) % 256) ∧ (tl fs)[8 + 4 * k + 1]? = some ((off fs k:Int) / 256) ∧ (tl fs)[8 + 4 * k + 2]? = some ((fs[k].length:Int) % 256) ∧ (tl fs)[8 + 4 * k + 3]? = some ((fs[k].length:Int) / 256):=by
  have e:=d_r fs 12 k (by omega)
  have ex:=List.drop_eq_getElem_cons h
  rw [ex] at e
  have hl:=c_i fs 12
  have get:∀ j,j < 4 → (tl fs)[8 + 4 * k + j]? = ((d_Y 12 fs).drop (4 * k))[j]?:=by
    intro j hj
    rw [List.getElem?_drop]
    unfold tl
    rw [show 8 + 4 * k + j = (4 * k + j) + 8 by omega]
    simp only [List.getElem?_cons_succ]
    rw [List.getElem?_append_left (by omega)]
  refine ⟨?_,?_,?_,?_⟩
  · rw [show 8 + 4 * k = 8 + 4 * k + 0 from rfl,get 0 (by omega),e];rfl
  · rw [get 1 (by omega),e];rfl
  · rw [get 2 (by omega),e];rfl
  · rw [get 3 (by omega),e];rfl
theorem tl_end (fs:List (List Int)):(tl fs)[8 + 4 * fs.length]? = some 0 ∧ (tl fs)[8 + 4 * fs.length + 1]? = some 0 ∧ (tl fs)[8 + 4 * fs.length + 2]? = some 0 ∧ (tl fs)[8 + 4 * fs.length + 3]? = some 0:=by
  have hl:=c_i fs 12
  have get:∀ j,(tl fs)[8 + 4 * fs.length + j]? = [(0:Int),0,0,0][j]?:=by
    intro j
    unfold tl
    rw [show 8 + 4 * fs.length + j = (4 * fs.length + j) + 8 by omega]
    simp only [List.getElem?_cons_succ]
    rw [List.getElem?_append_right (by omega)]
    congr 1
    omega
  exact ⟨get 0,get 1,get 2,get 3⟩
theorem d_9 (num:Int) (fs:List (List Int)) (k:Nat) (h:k < fs.length):∃ A C,b_D num fs = A ++ (fs[k] ++ (List.replicate (pad fs[k].length - fs[k].length) 0 ++ C)) ∧ A.length = off fs k:=by
  have ex:=List.drop_eq_getElem_cons h
  have e:=c_p fs k
  rw [ex] at e
  refine ⟨hd num fs ++ body (fs.take k),body (fs.drop (k + 1)) ++ tl fs,?_,by simp [hd,off];omega⟩
  rw [c_9,e]
  simp [body]
structure Good (num:Int) (fs:List (List Int)):Prop where
  num:0 ≤ num ∧ num ≤ 65535
  ok:okF fs
  few:fs.length ≤ 64
  small:a_W fs ≤ 16384
section
variable {num:Int} {fs:List (List Int)}
theorem Good.rd {n i:Nat} {c:Option Nat} (g:Good num fs) {x:Int} (hi:i < 100000) (h0:0 ≤ x ∧ x ≤ 65535) (h1:(b_D num fs)[i]? = some (x % 256)) (h2:(b_D num fs)[i + 1]? = some (x / 256)):p20 n i ⟨b_D num fs,c⟩ = some x ∧ True:=by
  have e:x % 256 + 256 * (x / 256) = x:=by omega
  exact ⟨by rw [p20_eq n i _ h1 h2 (by omega) (by omega) (by omega),e],trivial⟩
theorem Good.body_le (g:Good num fs):a_W fs = 24 + 4 * fs.length + (body fs).length ∧ (body fs).length ≤ 16360:=by
  have:=g.small
  unfold a_W at *
  omega
theorem Good.ent {n k:Nat} {c:Option Nat} (g:Good num fs) (h:k < fs.length) :
    (p20 n ((12 + (body fs).length + (8 + 4 * k):Nat):Int) ⟨b_D num fs,c⟩ = some (off fs k:Int) ∧ True) ∧
    (p20 n ((12 + (body fs).length + (8 + 4 * k + 2):Nat):Int) ⟨b_D num fs,c⟩ = some (fs[k].length:Int) ∧ True):=by
  obtain ⟨h1,h2,h3,h4⟩:=tl_ent fs k h
  have hb:=g.body_le
  have hf:=g.few
  have ho:=off_le fs k
  have hk:=g.ok fs[k] (List.getElem_mem h)
  refine ⟨g.rd (by omega) (by omega) (by rw [b_c];exact h1) ?_,g.rd (by omega) (by omega) (by rw [b_c];exact h3) ?_⟩
  · rw [Nat.add_assoc (12 + (body fs).length) (8 + 4 * k) 1,b_c];exact h2
  · rw [Nat.add_assoc (12 + (body fs).length) (8 + 4 * k + 2) 1,b_c];exact h4
theorem d_a {A f C:List Int} {c:Option Nat} {o m:Nat} (hA:A.length = o) (hm:f.length = m):slI (⟨A ++ (f ++ C),c⟩:Sl Int) (o:Int) ((o + m:Nat):Int) = some ⟨f,c.map (· - o)⟩:=by
  unfold slI
  rw [if_pos ⟨by omega,by omega,by simp;omega⟩]
  congr 2
  subst hA
  subst hm
  simp only [Int.toNat_natCast]
  rw [← List.append_assoc,show A.length + f.length = (A ++ f).length by simp,List.take_left]
  exact List.drop_left
def e_a (fs:List (List Int)):List (Sl Int):=fs.map fun f=>⟨f,some f.length⟩
theorem p11_l1_eq (g:Good num fs) (n:Nat) (c:Option Nat):∀ (m k:Nat) (acc:List (Sl Int)),fs.length < k + m → k ≤ fs.length → acc.length = k →
    p11_l1 n ⟨b_D num fs,c⟩ ((12 + (body fs).length:Nat):Int) ((12 + 4 * fs.length:Nat):Int) m ((12 + (body fs).length + (8 + 4 * k):Nat):Int) acc = some (.inl (acc ++ e_a (fs.drop k)))
  | 0,k,acc,h,hk,ha=>by omega
  | m + 1,k,acc,h,hk,ha=>by
    have hb:=g.body_le
    have hfe:=g.few
    have hsm:=g.small
    unfold p11_l1
    rw [a_t (by omega),Option.bind_some,a_t (by omega),Option.bind_some]
    by_cases hlt:k < fs.length
    · have ex:=List.drop_eq_getElem_cons hlt
      obtain ⟨⟨r1,_⟩,⟨r2,_⟩⟩:=g.ent (n:=n) (c:=c) hlt
      have ho:=off_le fs k
      have ho2:off fs (k + 1) ≤ 12 + (body fs).length:=off_le fs (k + 1)
      rw [off_succ fs k hlt] at ho2
      have h4:=off_4 fs k
      have hge:12 ≤ off fs k:=by unfold off;omega
      have hok:=g.ok fs[k] (List.getElem_mem hlt)
      have hpad:fs[k].length ≤ pad fs[k].length:=by unfold pad;omega
      obtain ⟨A,C,eB,hA⟩:=d_9 num fs k hlt
      rw [if_pos (by simp;omega),r1,Option.bind_some,a_t (by omega),Option.bind_some]
      rw [show (((12 + (body fs).length + (8 + 4 * k):Nat):Int) + 2) = ((12 + (body fs).length + (8 + 4 * k + 2):Nat):Int) by omega,r2,Option.bind_some]
      rw [if_neg (by simp;omega),Option.bind_some,if_neg (by decide),if_pos (by simp;omega),b_3 (by omega) (by decide) (by simp;omega),Option.bind_some,Option.bind_some]
      rw [if_pos (by simp;omega),Option.bind_some,if_pos (by simp;omega),Option.bind_some,if_pos (by simp;omega),a_t (by omega),Option.bind_some,Option.bind_some,d_V,b_Z]
      rw [if_neg (by simp;omega),a_t (by omega),Option.bind_some]
      rw [show ((off fs k:Int) + (fs[k].length:Int)) = ((off fs k + fs[k].length:Nat):Int) by simp,eB,d_a hA rfl,Option.bind_some,p15_eq n _ (by simp;omega),Option.bind_some,p21_eq,Option.bind_some,b_k (by simp;omega),Option.bind_some,Option.bind_some,← eB]
      rw [show (((12 + (body fs).length + (8 + 4 * k):Nat):Int) + 4) = ((12 + (body fs).length + (8 + 4 * (k + 1)):Nat):Int) by omega,p11_l1_eq g n c m (k + 1) _ (by omega) (by omega) (by simp [ha]),show e_a (fs.drop k) = ⟨fs[k],some fs[k].length⟩ :: e_a (fs.drop (k + 1)) by rw [ex];rfl,List.append_assoc]
      rfl
    · rw [if_neg (by simp;omega),List.drop_eq_nil_of_le (by omega)]
      simp [e_a]
theorem p11_eq (g:Good num fs) (n:Nat) (c:Option Nat) (hn:100 < n):p11 n ⟨b_D num fs,c⟩ = some ((num,⟨e_a fs,some fs.length⟩),0):=by
  have hb:=g.body_le
  have hfe:=g.few
  have hsm:=g.small
  have hnum:=g.num
  have h10:p20 n 10 ⟨b_D num fs,c⟩ = some ((12 + (body fs).length:Nat):Int):=(g.rd (n:=n) (i:=10) (c:=c) (by omega) (by omega) (by rw [b_W _ _ _ (by omega)];rfl) (by rw [b_W _ _ _ (by omega)];rfl)).1
  have h4:p20 n 4 ⟨b_D num fs,c⟩ = some 12:=(g.rd (n:=n) (i:=4) (c:=c) (x:=12) (by omega) (by omega) (by rw [b_W _ _ _ (by omega)];rfl) (by rw [b_W _ _ _ (by omega)];rfl)).1
  have h8:p20 n 8 ⟨b_D num fs,c⟩ = some (a_W fs:Int):=(g.rd (n:=n) (i:=8) (c:=c) (by omega) (by omega) (by rw [b_W _ _ _ (by omega)];rfl) (by rw [b_W _ _ _ (by omega)];rfl)).1
  have h6:p20 n 6 ⟨b_D num fs,c⟩ = some num:=(g.rd (n:=n) (i:=6) (c:=c) (by omega) (by omega) (by rw [b_W _ _ _ (by omega)];rfl) (by rw [b_W _ _ _ (by omega)];rfl)).1
  have hT4:p20 n ((12 + (body fs).length + 4:Nat):Int) ⟨b_D num fs,c⟩ = some ((12 + 4 * fs.length:Nat):Int):=(g.rd (n:=n) (c:=c) (by omega) (by omega) (by rw [b_c];rfl) (by rw [Nat.add_assoc (12 + (body fs).length),b_c];rfl)).1
  have hT6:p20 n ((12 + (body fs).length + 6:Nat):Int) ⟨b_D num fs,c⟩ = some 0:=(g.rd (n:=n) (c:=c) (x:=0) (by omega) (by omega) (by rw [b_c];rfl) (by rw [Nat.add_assoc (12 + (body fs).length),b_c];rfl)).1
  obtain ⟨z1,z2,z3,z4⟩:=tl_end fs
  have hE1:p20 n ((12 + (body fs).length + (8 + 4 * fs.length):Nat):Int) ⟨b_D num fs,c⟩ = some 0:=(g.rd (n:=n) (c:=c) (x:=0) (by omega) (by omega) (by rw [b_c];exact z1) (by rw [Nat.add_assoc (12 + (body fs).length),b_c];exact z2)).1
  have hE2:p20 n ((12 + (body fs).length + (8 + 4 * fs.length + 2):Nat):Int) ⟨b_D num fs,c⟩ = some 0:=(g.rd (n:=n) (c:=c) (x:=0) (by omega) (by omega) (by rw [b_c];exact z3) (by rw [Nat.add_assoc (12 + (body fs).length),b_c];exact z4)).1
  have s1:slI (⟨b_D num fs,c⟩:Sl Int) 0 4 = some ⟨[78,67,77,72],c.map (· - 0)⟩:=d_a (A:=[]) (f:=[78,67,77,72]) (o:=0) (m:=4) rfl rfl
  have s2:slI (⟨b_D num fs,c⟩:Sl Int) ((12 + (body fs).length:Nat):Int) ((12 + (body fs).length + 4:Nat):Int) = some ⟨[78,67,77,48],c.map (· - (12 + (body fs).length))⟩:=by
    rw [c_9,← List.append_assoc]
    exact d_a (A:=hd num fs ++ body fs) (f:=[78,67,77,48]) (by simp [hd];omega) rfl
  have b4:=body_4 fs
  unfold p11
  rw [d_V,b_Z,orS,Option.bind_some,if_neg (by simp;omega),h10,Option.bind_some,s1,Option.bind_some]
  rw [if_pos (by simp),h4,Option.bind_some,Option.bind_some,if_pos (by simp),h8,Option.bind_some,Option.bind_some,if_pos (by simp),Option.bind_some,if_pos (by simp;omega),b_3 (by omega) (by decide) (by simp;omega),Option.bind_some,Option.bind_some,if_pos (by simp;omega),a_t (by omega),Option.bind_some,Option.bind_some,if_neg (by simp;omega)]
  have k2:ckI .i64 (((12 + (body fs).length:Nat):Int) + 4) = some ((12 + (body fs).length + 4:Nat):Int):=a_t (by omega)
  have k3:ckI .i64 (((12 + (body fs).length:Nat):Int) + ((12 + 4 * fs.length:Nat):Int)) = some (((12 + (body fs).length:Nat):Int) + ((12 + 4 * fs.length:Nat):Int)):=a_t (by omega)
  have k4:ckI .i64 (((12 + (body fs).length:Nat):Int) + 6) = some ((12 + (body fs).length + 6:Nat):Int):=a_t (by omega)
  have k5:ckI .i64 (((12 + (body fs).length:Nat):Int) + ((12 + 4 * fs.length:Nat):Int) - 4) = some ((12 + (body fs).length + (8 + 4 * fs.length):Nat):Int):=(a_t (by omega)).trans (congrArg some (by omega))
  have k6:ckI .i64 (((12 + (body fs).length:Nat):Int) + ((12 + 4 * fs.length:Nat):Int) - 2) = some ((12 + (body fs).length + (8 + 4 * fs.length + 2):Nat):Int):=(a_t (by omega)).trans (congrArg some (by omega))
  have k7:ckI .i64 (((12 + (body fs).length:Nat):Int) + 8) = some ((12 + (body fs).length + (8 + 4 * 0):Nat):Int):=a_t (by omega)
  have k8:d_b .i64 ((12 + 4 * fs.length:Nat):Int) 4 = some (((12 + 4 * fs.length:Nat):Int) % 4):=b_3 (by omega) (by decide) (by simp <;> omega)
  rw [k2,Option.bind_some,hT4,Option.bind_some,Option.bind_some,s2,Option.bind_some]
  rw [if_pos (by simp),Option.bind_some,if_pos (by simp <;> omega),k8,Option.bind_some,Option.bind_some,if_pos (by simp <;> omega),k3,Option.bind_some,Option.bind_some,if_pos (by simp <;> omega),k4,Option.bind_some,hT6,Option.bind_some,Option.bind_some]
  rw [if_pos (by simp),Option.bind_some,k5,Option.bind_some,hE1,Option.bind_some,Option.bind_some]
  rw [if_pos (by simp),Option.bind_some,k6,Option.bind_some,hE2,Option.bind_some,Option.bind_some]
  rw [if_neg (by simp),h6,Option.bind_some,k7,Option.bind_some,p11_l1_eq g n c n 0 [] (by omega) (by omega) rfl,Option.bind_some]
  have ho:(e_a fs).length = fs.length:=by simp [e_a]
  simp only [lrK,List.drop_zero,List.nil_append]
  rw [if_neg (by simp [a_d,ho];omega),p22_eq,Option.bind_some,d_N,show num % 65536 = num by omega,ho]
end
theorem lrKK {α β γ:Type} (a:α) (g:β → Option γ) (f:α → Option γ):lrK (.inl a) g f = f a:=rfl
def fits (most:Int) (fs:List (List Int)):Prop:=okF fs ∧ fs.length ≤ 64 ∧ (a_W fs:Int) ≤ most
def bad (most:Int) (fs:List (List Int)):Bool:=(b_G fs).2 != 0 || decide ((b_G fs).1 > most)
theorem bad_iff {most:Int} (hm:most ≤ 16384) (fs:List (List Int)):bad most fs = false ↔ fits most fs:=by
  unfold bad fits b_G
  by_cases h1:okF fs
  · rw [if_pos h1]
    by_cases h2:fs.length > 64 ∨ a_W fs > 16384
    · rw [if_pos h2];simp [h1];omega
    · rw [if_neg h2];simp [h1];omega
  · rw [if_neg h1];simp [h1]
theorem fits.good {most num:Int} {fs:List (List Int)} (h:fits most fs) (hm:most ≤ 16384) (hn:0 ≤ num ∧ num ≤ 65535):Good num fs:=⟨hn,h.1,h.2.1,by have:=h.2.2;omega⟩
theorem fits.len {most:Int} {fs:List (List Int)} (h:fits most fs) (hm:most ≤ 16384):b_G fs = ((a_W fs:Int),0):=by
  obtain ⟨h1,h2,h3⟩:=h
  unfold b_G
  rw [if_pos h1,if_neg (by omega)]
theorem c_j (l:List (Sl Int)):(a_D l).length = l.length:=by simp [a_D]
theorem a_6 (a b:List (Sl Int)):a_D (a ++ b) = a_D a ++ a_D b:=by simp [a_D]
theorem d_0 {α:Type} (l:List α) (c:Option Nat) (k:Nat) (hk:k ≤ l.length):slI (⟨l,c⟩:Sl α) 0 (k:Int) = some ⟨l.take k,c.map (· - 0)⟩:=by
  unfold slI
  rw [if_pos ⟨by omega,by omega,by simpa using hk⟩]
  simp
theorem p7_l1_eq (n:Nat) (y:Int × Int) (pw:List (Sl Int)) (hm:y.1 ≤ 16384) (hL:pw.length ≤ 64) (hn:100 < n):∀ (m k:Nat),pw.length < k + m → 1 ≤ k → k ≤ pw.length → fits y.1 (a_D (pw.take k)) →
    ∃ c:Nat,p7_l1 n y pw m k = some (c:Int) ∧ 1 ≤ c ∧ c ≤ pw.length ∧ fits y.1 (a_D (pw.take c)) ∧ (c < pw.length → bad y.1 (a_D (pw.take (c + 1))) = true)
  | 0,k,h,h1,hk,hf=>by omega
  | m + 1,k,h,h1,hk,hf=>by
    unfold p7_l1
    by_cases hlt:k < pw.length
    · have hl:(pw.take (k + 1)).length = k + 1:=by rw [List.length_take];omega
      rw [if_pos (by simp [a_d];omega),a_t (by omega),Option.bind_some,show ((k:Int) + 1) = ((k + 1:Nat):Int) by simp,d_0 pw .none (k + 1) (by omega),Option.bind_some,
        p16_eq n _ (by rw [hl];omega) (by rw [hl];omega),Option.bind_some,p14_eq n _ _ (by rw [c_j,hl];omega) (by rw [c_j,hl];omega),Option.bind_some,orS,Option.bind_some]
      by_cases hb:bad y.1 (a_D (pw.take (k + 1))) = true
      · refine ⟨k,?_,h1,hk,hf,fun _=>hb⟩
        unfold bad at hb
        rw [if_pos hb]
      · have hb':bad y.1 (a_D (pw.take (k + 1))) = false:=by simpa using hb
        obtain ⟨c,e,r⟩:=p7_l1_eq n y pw hm hL hn m (k + 1) (by omega) (by omega) (by omega) ((bad_iff hm _).1 hb')
        refine ⟨c,?_,r⟩
        unfold bad at hb
        rw [if_neg hb]
        exact e
    · refine ⟨k,?_,h1,hk,hf,fun h=>absurd h hlt⟩
      rw [if_neg (by simp [a_d];omega)]
theorem sl3_drop {α:Type} (l:List α) (k:Nat) (hk:k ≤ l.length):c_c (⟨l,.none⟩:Sl α) (k:Int) (l.length:Int) (l.length:Int) = some ⟨l.drop k,some (l.length - k)⟩:=by
  unfold c_c
  rw [if_pos (by simp;omega)]
  simp
def okW (most:Int) (fs:List (List Int)):Prop:=∀ f ∈ fs,fits most [f]
theorem okW.ok {most:Int} {fs:List (List Int)} (h:okW most fs):okF fs:=fun f hf=>(h f hf).1 f (by simp)
theorem p7_eq (n:Nat) (y:Int × Int) (pw:List (Sl Int)) (hm:y.1 ≤ 16384) (hy:0 ≤ y.2 ∧ y.2 ≤ 65535) (hL:pw.length ≤ 64) (hn:100 < n) (hW:okW y.1 (a_D pw)) (h0:pw ≠ []) :
    ∃ c:Nat,1 ≤ c ∧ c ≤ pw.length ∧ fits y.1 (a_D (pw.take c)) ∧ (c < pw.length → bad y.1 (a_D (pw.take (c + 1))) = true) ∧
      p7 n y pw = some (⟨b_D y.2 (a_D (pw.take c)),some (a_W (a_D (pw.take c)))⟩,true,(y.1,IntKind.wrap .u16 (y.2 + 1)),pw.drop c):=by
  have hp:0 < pw.length:=List.length_pos_iff.2 h0
  have hf1:fits y.1 (a_D (pw.take 1)):=by
    obtain ⟨f,l,rfl⟩:=List.exists_cons_of_ne_nil h0
    exact hW f.xs (by simp [a_D])
  obtain ⟨c,e,h1,h2,h3,h4⟩:=(show ∃ c:Nat,p7_l1 n y pw n 1 = some (c:Int) ∧ _ from p7_l1_eq n y pw hm hL hn n 1 (by omega) (by omega) (by omega) hf1)
  refine ⟨c,h1,h2,h3,h4,?_⟩
  have hl:(pw.take c).length = c:=by rw [List.length_take];omega
  unfold p7
  rw [if_neg (by simp [a_d];omega),e,Option.bind_some,show c_c (⟨pw,.none⟩:Sl (Sl Int)) 0 (c:Int) (c:Int) = some ⟨pw.take c,some c⟩ by unfold c_c;rw [if_pos (by simp;omega)];simp,Option.bind_some,p17_eq n y.2 _ hy (by simp only;omega) (by omega) (by simp only;omega),Option.bind_some,if_pos (by rw [h3.len hm]),
    show a_d (⟨pw,.none⟩:Sl (Sl Int)) = (pw.length:Int) from rfl,sl3_drop pw c h2,Option.bind_some]
theorem sizes_one (s:Sl Int):([a_d s]:List Int) = b_V [s.xs]:=rfl
theorem p6_eq (n:Nat) (most num:Int) (pw:List (Sl Int)) (x:Sl Int) (h1:most ≠ 0) (hx:x.xs.length ≤ 1600) (hn:100 < n) (hL:pw.length ≤ 64) :
    p6 n (most,num) pw x = some (if bad most [x.xs] = true then (1,(most,num),pw) else if pw.length = 64 then (9,(most,num),pw) else (0,(most,num),pw ++ [⟨x.xs,b_O (some 0) x.xs.length⟩])):=by
  unfold p6
  rw [if_neg (by simpa using h1),sizes_one,p14_eq n _ _ (by simp;omega) (by simp),Option.bind_some,orS,Option.bind_some]
  by_cases hb:bad most [x.xs] = true
  · rw [if_pos hb]
    unfold bad at hb
    rw [if_pos hb]
  · rw [if_neg hb]
    unfold bad at hb
    rw [if_neg hb]
    by_cases h64:pw.length = 64
    · rw [if_pos (by simp [a_d];omega),if_pos h64]
    · rw [if_neg (by simp [a_d];omega),if_neg h64,p15_eq n _ (by omega),Option.bind_some]
      unfold appO
      rw [if_pos ⟨by simp,by simp;omega⟩]
      rfl
def cl (l:List Int):Sl Int:=⟨l,b_O (some l.length) l.length⟩
theorem p19_eq (n:Nat) (x:Sl Int) (h:x.xs.length ≤ 1000000000):p19 n x = some (cl x.xs):=by
  unfold p19
  rw [mkI_ok (by omega) (by unfold a_d;omega) (by unfold a_d;omega),Option.bind_some]
  show ((c_G (List.replicate (0:Int).toNat (0:Int)) x.xs).bind fun a0=>some (⟨a0,b_O (some (a_d x).toNat) a0.length⟩:Sl Int)) = _
  rw [show List.replicate (0:Int).toNat (0:Int) = [] from rfl,b_k (by simp;omega),Option.bind_some]
  unfold cl a_d
  simp
theorem r1_eq (n:Nat) (acc:List (Sl Int)) (x:Sl Int) (h:x.xs.length ≤ 1000000000) (ha:acc.length ≤ 1000000000):rnd (p8_r1 n) (0,acc) x = some (true,(0,acc ++ [cl x.xs])):=by
  show (p8_r1 n acc x).map (fun r=>(Nat.beq r.1 0,r)) = _
  unfold p8_r1
  rw [p19_eq n x h,Option.bind_some,b_k (by simp;omega),Option.bind_some]
  rfl
theorem sl3_all {α:Type} (l:List α) (c:Option Nat) (k:Nat) (hk:k ≤ l.length) (hc:∀ q,c = some q → k ≤ q):∃ d,c_c (⟨l,c⟩:Sl α) 0 (k:Int) (k:Int) = some ⟨l.take k,d⟩:=by
  unfold c_c
  rw [if_pos (by simp;omega)]
  simp
theorem slI_tail {l:List Int} {c:Option Nat} {s:Nat} (h:s ≤ l.length):∃ d,slI (⟨l,c⟩:Sl Int) (s:Int) (a_d (⟨l,c⟩:Sl Int)) = some ⟨l.drop s,d⟩:=by
  unfold slI a_d
  rw [if_pos ⟨by omega,by simp only;omega,by simp only;omega⟩]
  exact ⟨c.map fun x=>x - s,by simp⟩
theorem p29_l1_eq (n:Nat) {s:Nat} (hs:1 ≤ s ∧ s ≤ 1024):∀ (m:Nat) (a:Sl Int) (acc:List (Sl Int)),a.xs.length < m → a.xs.length + acc.length ≤ 1000000 →
    ∃ (ps:List (List Int)) (rest:Sl Int),p29_l1 n (Nat × List (Sl Int)) (s:Int) (rnd (p8_r1 n)) m a (0,acc) = some (.inl (rest,(0,acc ++ ps.map cl))) ∧ (∀ p ∈ ps,p.length = s) ∧ rest.xs.length ≤ s ∧ ps.flatten ++ rest.xs = a.xs ∧ (a.xs ≠ [] → rest.xs ≠ []) ∧ a.xs.length % s = rest.xs.length % s ∧ ps.length + rest.xs.length ≤ a.xs.length:=by
  intro m
  induction m with
  | zero=>intro a acc h;exact absurd h (by omega)
  | succ m ih =>
    intro a acc h hb
    rw [p29_l1]
    by_cases hl:s < a.xs.length
    · obtain ⟨d,hd⟩:=sl3_all a.xs .none s (by omega) (fun q h=>by cases h)
      obtain ⟨d1,hd1⟩:=(show ∃ d,c_c a 0 (s:Int) (s:Int) = some ⟨a.xs.take s,d⟩ from by
        unfold c_c
        by_cases hq:(0:Int) ≤ 0 ∧ (0:Int) ≤ (s:Int) ∧ (s:Int) ≤ a.xs.length
        · first
          | exact ⟨_,by rw [if_pos (by simp;omega)];simp;rfl⟩
          | exact ⟨_,by rw [if_pos (by simp;omega)];simp⟩
        · exact absurd ⟨by omega,by omega,by omega⟩ hq)
      obtain ⟨d2,hd2⟩:=slI_tail (l:=a.xs) (c:=a.cap) (s:=s) (by omega)
      have ht:(a.xs.take s).length = s:=by rw [List.length_take];omega
      obtain ⟨ps,rest,e1,e2,e3,e4,e5,e6,e7⟩:=ih ⟨a.xs.drop s,d2⟩ (acc ++ [cl (a.xs.take s)]) (by show (a.xs.drop s).length < m;rw [List.length_drop];omega) (by show (a.xs.drop s).length + _ ≤ _;rw [List.length_drop,List.length_append,List.length_singleton];omega)
      have hne:a.xs.drop s ≠ []:=fun q=>by have:=congrArg List.length q;rw [List.length_drop] at this;simp at this;omega
      refine ⟨a.xs.take s :: ps,rest,?_,?_,e3,?_,fun _=>e5 hne,?_,?_⟩
      · rw [if_pos (show decide ((a_d a) > (s:Int)) = true by unfold a_d;simp;omega),hd1,Option.bind_some,r1_eq n acc ⟨a.xs.take s,d1⟩ (by show (a.xs.take s).length ≤ _;omega) (by omega),Option.bind_some,if_neg (show ¬ ((!true) = true) by decide),show slI a (s:Int) (a_d a) = some ⟨a.xs.drop s,d2⟩ from hd2,Option.bind_some]
        refine e1.trans ?_
        rw [List.map_cons,List.append_assoc];rfl
      · intro p hp
        rcases List.mem_cons.1 hp with rfl | hp
        · exact ht
        · exact e2 p hp
      · rw [List.flatten_cons,List.append_assoc,e4];exact List.take_append_drop s a.xs
      · rw [← e6]
        show a.xs.length % s = (a.xs.drop s).length % s
        rw [List.length_drop]
        exact Nat.mod_eq_sub_mod (by omega)
      · have:(a.xs.drop s).length = a.xs.length - s:=List.length_drop ..
        simp only [List.length_cons]
        have e7':ps.length + rest.xs.length ≤ (a.xs.drop s).length:=e7
        omega
    · rw [if_neg (show ¬ (decide ((a_d a) > (s:Int)) = true) by unfold a_d;simp;omega)]
      exact ⟨[],a,by simp,by simp,by omega,by simp,fun h=>h,rfl,by simp⟩
def Cut (s:Nat) (l:List Int) (R:List (List Int)):Prop:=∃ ps last,R = ps ++ [last] ∧ (∀ p ∈ ps,p.length = s) ∧ last.length < s ∧ ps.flatten ++ last = l
theorem p8_eq (n:Nat) {s:Nat} (hs:1 ≤ s ∧ s ≤ 1024) (l:List Int) (c:Option Nat) (hl:l.length < n) (hl2:l.length ≤ 100000) (h0:l ≠ []):∃ (pk:List (Sl Int)) (c':Option Nat),p8 n ⟨l,c⟩ (s:Int) true = some (⟨pk,c'⟩,0) ∧ Cut s l (a_D pk) ∧ pk.length ≤ l.length + 1:=by
  obtain ⟨ps,rest,e1,e2,e3,e4,e5,e6,e7⟩:=p29_l1_eq n hs n ⟨l,c⟩ [] hl (by simp;omega)
  have hr:=e5 h0
  have hr1:1 ≤ rest.xs.length:=by have:=List.length_pos_iff.2 hr;omega
  have hlen:0 < l.length:=by have:=List.length_pos_iff.2 h0;omega
  have e7':ps.length + rest.xs.length ≤ l.length:=e7
  have e6':l.length % s = rest.xs.length % s:=e6
  have hsz:(s:Int) ≠ 0:=by omega
  have q1:quoI .i64 (a_d (⟨l,c⟩:Sl Int)) (s:Int) = some ((l.length:Int) / (s:Int)):=quoI_ok (by unfold a_d;omega) (by omega) (inR_i64.2 (by
    have h1:0 ≤ (l.length:Int) / (s:Int):=Int.ediv_nonneg (by omega) (by omega)
    have h2:(l.length:Int) / (s:Int) ≤ l.length:=Int.ediv_le_self _ (by omega)
    show -9223372036854775808 ≤ (l.length:Int) / (s:Int) ∧ (l.length:Int) / (s:Int) ≤ 9223372036854775807
    omega))
  have h1:0 ≤ (l.length:Int) / (s:Int):=Int.ediv_nonneg (by omega) (by omega)
  have h2:(l.length:Int) / (s:Int) ≤ l.length:=Int.ediv_le_self _ (by omega)
  have q2:d_b .i64 (a_d (⟨l,c⟩:Sl Int)) (s:Int) = some ((l.length:Int) % (s:Int)):=b_3 (by unfold a_d;omega) (by omega) (inR_i64.2 (by
    have h1:=Int.emod_nonneg (l.length:Int) hsz
    have h2:=Int.emod_lt_of_pos (l.length:Int) (by omega:0 < (s:Int))
    show -9223372036854775808 ≤ (l.length:Int) % (s:Int) ∧ (l.length:Int) % (s:Int) ≤ 9223372036854775807
    omega))
  have q3:((l.length:Int) % (s:Int) == 0) = decide (rest.xs.length = s):=by
    rw [show (l.length:Int) % (s:Int) = ((l.length % s:Nat):Int) by simp,e6',Bool.eq_iff_iff,beq_iff_eq,decide_eq_true_eq]
    constructor
    · intro h
      rcases Nat.lt_or_ge rest.xs.length s with h3 | h3
      · rw [Nat.mod_eq_of_lt h3] at h;omega
      · omega
    · intro h
      rw [h,Nat.mod_self];rfl
  obtain ⟨d3,hd3⟩:=(show ∃ d,c_c rest 0 (a_d rest) (a_d rest) = some ⟨rest.xs,d⟩ from by
    unfold c_c a_d
    exact ⟨_,by rw [if_pos (by simp)];simp;rfl⟩)
  have hfin:∀ pk:List (Sl Int),∃ d,c_c (⟨pk,.none⟩:Sl (Sl Int)) 0 (a_d (⟨pk,.none⟩:Sl (Sl Int))) (a_d (⟨pk,.none⟩:Sl (Sl Int))) = some ⟨pk,d⟩:=fun pk=>by
    unfold c_c a_d
    exact ⟨_,by rw [if_pos (by simp)];simp;rfl⟩
  have r2:=r1_eq n ([] ++ ps.map cl) ⟨rest.xs,d3⟩ (by show rest.xs.length ≤ _;omega) (by simp;omega)
  have e29:p29 n ⟨l,c⟩ (s:Int) true (Nat × List (Sl Int)) (rnd (p8_r1 n)) (0,[]) = some (0,ps.map cl ++ [cl rest.xs] ++ (if rest.xs.length = s then [cl []] else [])):=by
    unfold p29
    rw [if_pos (show decide ((a_d (⟨l,c⟩:Sl Int)) > 0) = true by unfold a_d;simp;omega),q2,Option.bind_some,Option.bind_some,e1,Option.bind_some,lrKK]
    simp only
    rw [hd3,Option.bind_some,r2,Option.bind_some]
    simp only [if_true,Option.bind_some,q3]
    by_cases h:rest.xs.length = s
    · rw [if_pos (by simpa using h),if_pos h,r1_eq n _ ⟨[],some 0⟩ (by simp) (by simp;omega)]
      simp
    · rw [if_neg (by simpa using h),if_neg h]
      simp
  obtain ⟨d4,hd4⟩:=hfin (ps.map cl ++ [cl rest.xs] ++ (if rest.xs.length = s then [cl []] else []))
  refine ⟨ps.map cl ++ [cl rest.xs] ++ (if rest.xs.length = s then [cl []] else []),d4,?_,?_,?_⟩
  rotate_left
  · have hm:(ps.map cl).map Sl.xs = ps:=by rw [List.map_map];exact List.map_id ps
    by_cases h:rest.xs.length = s
    · refine ⟨ps ++ [rest.xs],[],?_,fun p hp=>?_,by show 0 < s;omega,?_⟩
      · rw [if_pos h];unfold a_D;rw [List.map_append,List.map_append,hm];rfl
      · rcases List.mem_append.1 hp with hp | hp
        · exact e2 p hp
        · rw [List.mem_singleton.1 hp];exact h
      · rw [List.flatten_append,List.append_nil];simpa using e4
    · refine ⟨ps,rest.xs,?_,e2,by omega,e4⟩
      rw [if_neg h];unfold a_D;rw [List.map_append,List.map_append,hm];simp [cl]
  · rw [List.length_append,List.length_append,List.length_map]
    by_cases h:rest.xs.length = s
    · rw [if_pos h];simp;omega
    · rw [if_neg h];simp;omega
  · unfold p8
    rw [if_pos (show decide ((s:Int) < 1) = false by simp;omega),Option.bind_some,if_neg (show ¬ (decide ((s:Int) > 1024) = true) by simp;omega),q1,Option.bind_some,a_t (by omega),Option.bind_some,mkI_ok (by omega) (by omega) (by omega),Option.bind_some]
    show ((p18 n ⟨l,c⟩ (s:Int) true).bind fun a0=>(p29 n a0.1 a0.2.1 a0.2.2 (Nat × List (Sl Int)) (rnd (p8_r1 n)) (0,[])).bind fun b0=>(c_c (⟨b0.2,.none⟩:Sl (Sl Int)) 0 (a_d (⟨b0.2,.none⟩:Sl (Sl Int))) (a_d (⟨b0.2,.none⟩:Sl (Sl Int)))).bind fun e0=>some (e0,(0:Int))) = _
    rw [show p18 n ⟨l,c⟩ (s:Int) true = some (⟨l,c⟩,(s:Int),true) from rfl,Option.bind_some]
    simp only
    rw [e29,Option.bind_some]
    simp only
    rw [hd4,Option.bind_some]
def c_k (s:Nat) (st:List (List Int) × List Int) (p:List Int):List (List Int) × List Int:=if p.length < s then (st.1 ++ [st.2 ++ p],[]) else (st.1,st.2 ++ p)
theorem d_s {s:Nat}:∀ (ps:List (List Int)) (d:List (List Int)) (r:List Int),(∀ p ∈ ps,p.length = s) → ps.foldl (c_k s) (d,r) = (d,r ++ ps.flatten)
  | [],d,r,_=>by simp
  | p :: ps,d,r,h=>by
    rw [List.foldl_cons,show c_k s (d,r) p = (d,r ++ p) by unfold c_k;rw [if_neg (by have:=h p (List.mem_cons_self ..);omega)],d_s ps d _ fun q hq=>h q (List.mem_cons_of_mem _ hq),List.flatten_cons,List.append_assoc]
theorem join_cut {s:Nat} {l:List Int} {R:List (List Int)} (h:Cut s l R) (d:List (List Int)):R.foldl (c_k s) (d,[]) = (d ++ [l],[]):=by
  obtain ⟨ps,last,rfl,h1,h2,h3⟩:=h
  rw [List.foldl_append,d_s ps d [] h1]
  show c_k s (d,[] ++ ps.flatten) last = _
  unfold c_k
  rw [if_pos h2]
  simp only [List.nil_append,h3]
theorem p9_l1_eq' (n:Nat) (x:Sl (Sl Int)) {s:Nat} (hx:∀ p ∈ a_D x.xs,p.length ≤ s) (hL:x.xs.length ≤ 100000000):∀ (m i:Nat),x.xs.length - i < m → i ≤ x.xs.length → p9_l1 n x (s:Int) m i = some (.inl ()):=by
  intro m
  induction m with
  | zero=>intro i h;exact absurd h (by omega)
  | succ m ih =>
    intro i h hi
    rw [p9_l1]
    by_cases hlt:i < x.xs.length
    · have hm:=hx x.xs[i].xs (List.mem_map.2 ⟨_,List.getElem_mem hlt,rfl⟩)
      rw [if_pos (show decide ((i:Int) < a_d x) = true by unfold a_d;simp;omega),a_5,List.getElem?_eq_getElem hlt,Option.bind_some,if_neg (show ¬ (decide (a_d x.xs[i] > (s:Int)) = true) by unfold a_d;simp;omega),a_t (by omega),Option.bind_some,show ((i:Int) + 1) = ((i + 1:Nat):Int) by simp]
      exact ih (i + 1) (by omega) (by omega)
    · rw [if_neg (show ¬ (decide ((i:Int) < a_d x) = true) by unfold a_d;simp;omega)]
theorem p9_l2_eq' (n:Nat) (x:Sl (Sl Int)) {s:Nat} (hL:x.xs.length ≤ 100000000):∀ (m i:Nat) (done:List (Sl Int)) (rest:List Int),x.xs.length - i < m → i ≤ x.xs.length → done.length ≤ i → rest.length + (a_D (x.xs.drop i)).flatten.length ≤ 100000000 →
    ∃ done',p9_l2 n x (s:Int) m i done rest = some (done',((a_D (x.xs.drop i)).foldl (c_k s) (a_D done,rest)).2) ∧ a_D done' = ((a_D (x.xs.drop i)).foldl (c_k s) (a_D done,rest)).1:=by
  intro m
  induction m with
  | zero=>intro i done rest h;exact absurd h (by omega)
  | succ m ih =>
    intro i done rest h hi hd hb
    rw [p9_l2]
    by_cases hlt:i < x.xs.length
    · have ex:=List.drop_eq_getElem_cons hlt
      rw [ex] at hb ⊢
      have er:a_D (x.xs[i] :: x.xs.drop (i + 1)) = x.xs[i].xs :: a_D (x.xs.drop (i + 1)):=rfl
      rw [er,List.flatten_cons,List.length_append] at hb
      rw [er,List.foldl_cons,if_pos (show decide ((i:Int) < a_d x) = true by unfold a_d;simp;omega),a_5,List.getElem?_eq_getElem hlt,Option.bind_some,b_k (by omega),Option.bind_some]
      by_cases hs:x.xs[i].xs.length < s
      · obtain ⟨done',h1,h2⟩:=ih (i + 1) (done ++ [cl (rest ++ x.xs[i].xs)]) [] (by omega) (by omega) (by rw [List.length_append,List.length_singleton];omega) (by rw [List.length_nil];omega)
        have hj:c_k s (a_D done,rest) x.xs[i].xs = (a_D (done ++ [cl (rest ++ x.xs[i].xs)]),[]):=by
          unfold c_k
          rw [if_pos hs];simp [a_D,cl]
        rw [hj]
        refine ⟨done',?_,h2⟩
        rw [if_pos (show decide (a_d x.xs[i] < (s:Int)) = true by unfold a_d;simp;omega),p19_eq n _ (by show (rest ++ x.xs[i].xs).length ≤ _;rw [List.length_append];omega),Option.bind_some,b_k (by simp;omega),Option.bind_some,Option.bind_some,a_t (by omega),Option.bind_some,show ((i:Int) + 1) = ((i + 1:Nat):Int) by simp]
        exact h1
      · obtain ⟨done',h1,h2⟩:=ih (i + 1) done (rest ++ x.xs[i].xs) (by omega) (by omega) (by omega) (by rw [List.length_append];omega)
        have hj:c_k s (a_D done,rest) x.xs[i].xs = (a_D done,rest ++ x.xs[i].xs):=by
          unfold c_k
          rw [if_neg hs]
        rw [hj]
        refine ⟨done',?_,h2⟩
        rw [if_neg (show ¬ (decide (a_d x.xs[i] < (s:Int)) = true) by unfold a_d;simp;omega),Option.bind_some,a_t (by omega),Option.bind_some,show ((i:Int) + 1) = ((i + 1:Nat):Int) by simp]
        exact h1
    · rw [if_neg (show ¬ (decide ((i:Int) < a_d x) = true) by unfold a_d;simp;omega),List.drop_eq_nil_of_le (by omega)]
      exact ⟨done,rfl,rfl⟩
theorem p9_eq' (n:Nat) (sent:List (Sl Int)) {s:Nat} (hs:1 ≤ s ∧ s ≤ 1024) (hx:∀ p ∈ a_D sent,p.length ≤ s) (hL:sent.length < n) (hL2:sent.length ≤ 100000000) (hb:(a_D sent).flatten.length ≤ 100000000) {bs:List (List Int)} (hj:(a_D sent).foldl (c_k s) ([],[]) = (bs,[])) :
    ∃ (done:List (Sl Int)) (c:Option Nat),p9 n ⟨sent,.none⟩ (s:Int) = some (⟨done,c⟩,cl [],0) ∧ a_D done = bs:=by
  obtain ⟨done,h1,h2⟩:=p9_l2_eq' n ⟨sent,.none⟩ (s:=s) hL2 n 0 [] [] (by simp only;omega) (Nat.zero_le _) (Nat.zero_le _) (by simp only [List.drop_zero,List.length_nil];omega)
  simp only [List.drop_zero] at h1 h2
  rw [show a_D ([]:List (Sl Int)) = [] from rfl,hj] at h1 h2
  have hf:∃ d,c_c (⟨done,.none⟩:Sl (Sl Int)) 0 (a_d (⟨done,.none⟩:Sl (Sl Int))) (a_d (⟨done,.none⟩:Sl (Sl Int))) = some ⟨done,d⟩:=by
    unfold c_c a_d
    exact ⟨_,by rw [if_pos (by simp)];simp;rfl⟩
  obtain ⟨d,hd⟩:=hf
  refine ⟨done,d,?_,h2⟩
  unfold p9
  rw [if_pos (show decide ((s:Int) < 1) = false by simp;omega),Option.bind_some,if_neg (show ¬ (decide ((s:Int) > 1024) = true) by simp;omega),show (0:Int) = ((0:Nat):Int) from rfl,p9_l1_eq' n ⟨sent,.none⟩ hx hL2 n 0 (by simp only;omega) (Nat.zero_le _),Option.bind_some,lrKK,h1,Option.bind_some]
  simp only
  rw [show ((0:Nat):Int) = 0 from rfl,hd,Option.bind_some,p19_eq n _ (by simp),Option.bind_some]
def e_b:Nat → List (List (List Int)) → List (List Int)
  | _,[]=>[]
  | k,fs :: r=>b_D (k:Int) fs :: e_b (k + 1) r
theorem d_t:∀ (Bs:List (List (List Int))) (k:Nat) (fs:List (List Int)),e_b k (Bs ++ [fs]) = e_b k Bs ++ [b_D ((k + Bs.length:Nat):Int) fs]
  | [],k,fs=>by simp [e_b]
  | b :: Bs,k,fs=>by
    rw [List.cons_append,e_b,d_t Bs (k + 1) fs,e_b,List.cons_append,List.length_cons,show k + 1 + Bs.length = k + (Bs.length + 1) by omega]
theorem d_1:∀ (Bs:List (List (List Int))) (k:Nat),(e_b k Bs).length = Bs.length
  | [],_=>rfl
  | b :: Bs,k=>by rw [e_b,List.length_cons,d_1 Bs (k + 1),List.length_cons]
theorem blks_at:∀ (Bs:List (List (List Int))) (k i:Nat) (fs:List (List Int)),Bs[i]? = some fs → (e_b k Bs)[i]? = some (b_D ((k + i:Nat):Int) fs)
  | [],k,i,fs,h=>by simp at h
  | b :: Bs,k,0,fs,h=>by
    obtain rfl:b = fs:=by simpa using h
    rfl
  | b :: Bs,k,i + 1,fs,h=>by
    rw [List.getElem?_cons_succ] at h
    rw [e_b,List.getElem?_cons_succ,blks_at Bs (k + 1) i fs h,show k + 1 + i = k + (i + 1) by omega]
structure Jn (most:Int) (s i:Nat) (want:List (List Int)) (sent pw:List (Sl Int)) (num:Int) (Bs:List (List (List Int))):Prop where
  eqn:num = Bs.length
  fit:∀ fs ∈ Bs,fits most fs ∧ fs ≠ []
  join:(a_D sent).foldl (c_k s) ([],[]) = (e_b 0 Bs,[])
  lens:∀ p ∈ a_D sent,p.length ≤ s
  tot:(a_D sent).flatten.length ≤ 16384 * Bs.length
  scnt:sent.length ≤ 16385 * Bs.length
  eqw:want = Bs.flatten ++ a_D pw
  okw:okW most (a_D pw)
  cnt:want.length ≤ i
theorem flat_le:∀ {Bs:List (List (List Int))},(∀ fs ∈ Bs,fs ≠ []) → Bs.length ≤ Bs.flatten.length
  | [],_=>Nat.le_refl _
  | b :: Bs,h=>by
    have h1:=List.length_pos_iff.2 (h b (List.mem_cons_self ..))
    have h2:=flat_le (Bs:=Bs) fun fs hf=>h fs (List.mem_cons_of_mem _ hf)
    rw [List.flatten_cons,List.length_append,List.length_cons]
    omega
theorem Jn.blen {most:Int} {s i:Nat} {want:List (List Int)} {sent pw:List (Sl Int)} {num:Int} {Bs:List (List (List Int))} (J:Jn most s i want sent pw num Bs):Bs.length + pw.length ≤ i:=by
  have h:=J.cnt
  rw [J.eqw,List.length_append,c_j] at h
  have:=flat_le fun fs hf=>(J.fit fs hf).2
  omega
theorem Jn.take {most:Int} {s i:Nat} {want:List (List Int)} {sent pw:List (Sl Int)} {num:Int} {Bs:List (List (List Int))} (J:Jn most s i want sent pw num Bs) (hm:most ≤ 16384) {c:Nat} (hc:1 ≤ c) (hc2:c ≤ pw.length) (hf:fits most (a_D (pw.take c))) {pk:List (Sl Int)} (hk:Cut s (b_D num (a_D (pw.take c))) (a_D pk)) (hl:pk.length ≤ (b_D num (a_D (pw.take c))).length + 1) :
    Jn most s i want (sent ++ pk) (pw.drop c) (num + 1) (Bs ++ [a_D (pw.take c)]):=by
  have hlen:(b_D num (a_D (pw.take c))).length ≤ 16384:=by rw [b_Z];have:=hf.2.2;omega
  have e:a_D pw = a_D (pw.take c) ++ a_D (pw.drop c):=by rw [← a_6,List.take_append_drop]
  refine ⟨?_,fun fs h=>?_,?_,fun p hp=>?_,?_,?_,?_,fun f hf=>J.okw f ?_,J.cnt⟩
  · rw [J.eqn,List.length_append,List.length_singleton];simp
  · rcases List.mem_append.1 h with h | h
    · exact J.fit fs h
    · rw [List.mem_singleton.1 h]
      refine ⟨hf,fun q=>?_⟩
      have:=congrArg List.length q
      rw [c_j,List.length_take,List.length_nil] at this
      omega
  · rw [a_6,List.foldl_append,J.join,join_cut hk,d_t,Nat.zero_add,← J.eqn]
  · rw [a_6] at hp
    rcases List.mem_append.1 hp with hp | hp
    · exact J.lens p hp
    · obtain ⟨ps,last,h1,h2,h3,h4⟩:=hk
      rw [h1] at hp
      rcases List.mem_append.1 hp with hp | hp
      · rw [h2 p hp];exact Nat.le_refl _
      · rw [List.mem_singleton.1 hp];omega
  · obtain ⟨ps,last,h1,h2,h3,h4⟩:=hk
    have:=J.tot
    have h6:(Bs ++ [a_D (pw.take c)]).length = Bs.length + 1:=by simp
    rw [a_6,List.flatten_append,List.length_append,h1,List.flatten_append,h6]
    have h5:(ps.flatten ++ [last].flatten).length ≤ 16384:=by rw [show [last].flatten = last by simp,h4];exact hlen
    omega
  · have:=J.scnt
    rw [List.length_append,List.length_append,List.length_singleton]
    omega
  · rw [J.eqw,e,List.flatten_append,List.append_assoc]
    simp
  · rw [e];exact List.mem_append_right _ hf
theorem p3_l2_eq (n:Nat) (hn:20000 ≤ n) {most:Int} (hm:40 ≤ most ∧ most ≤ 16384) {s:Nat} (hs:1 ≤ s ∧ s ≤ 1024) {i:Nat} (hi:i ≤ 30) {want:List (List Int)}:∀ (m d:Nat) (sent pw:List (Sl Int)) (num:Int) (Bs:List (List (List Int))),pw.length < m → d + pw.length ≤ 30 → Jn most s i want sent pw num Bs →
    ∃ sent' num' Bs',p3_l2 n (s:Int) m d sent pw (most,num) = some (.inl (sent',[],(most,num'))) ∧ Jn most s i want sent' [] num' Bs':=by
  intro m
  induction m with
  | zero=>intro d sent pw num Bs h;exact absurd h (by omega)
  | succ m ih =>
    intro d sent pw num Bs h hd J
    rw [p3_l2,if_pos (show decide ((d:Int) < 31) = true by simp;omega)]
    by_cases h0:pw = []
    · subst h0
      have e7:p7 n (most,num) [] = some (⟨[],some 0⟩,false,(most,num),[]):=rfl
      rw [e7,Option.bind_some]
      exact ⟨sent,num,Bs,rfl,J⟩
    · have hb:=J.blen
      have hnum:=J.eqn
      obtain ⟨c,c1,c2,c3,_,c4⟩:=p7_eq n (most,num) pw hm.2 (by show 0 ≤ num ∧ num ≤ 65535;omega) (by omega) (by omega) J.okw h0
      have c3':fits most (a_D (pw.take c)):=c3
      have hlen:(b_D num (a_D (pw.take c))).length ≤ 16384:=by rw [b_Z];have:=c3'.2.2;omega
      have hpos:b_D num (a_D (pw.take c)) ≠ []:=fun q=>by
        have:=congrArg List.length q
        rw [b_Z] at this
        unfold a_W at this
        simp at this
      obtain ⟨pk,ck,e8,k1,k2⟩:=p8_eq n hs (b_D num (a_D (pw.take c))) (some (a_W (a_D (pw.take c)))) (by omega) (by omega) hpos
      have J':=J.take hm.2 c1 c2 c3' k1 k2
      have hsc:=J.scnt
      obtain ⟨sent',num',Bs',e,J2⟩:=ih (d + 1) (sent ++ pk) (pw.drop c) (num + 1) _ (by rw [List.length_drop];omega) (by rw [List.length_drop];omega) J'
      refine ⟨sent',num',Bs',?_,J2⟩
      refine (congrArg (fun q=>Option.bind q _) c4).trans ?_
      rw [Option.bind_some,if_neg (show ¬ ((!true) = true) by decide)]
      refine (congrArg (fun q=>Option.bind q _) e8).trans ?_
      rw [Option.bind_some,if_neg (show ¬ (((0:Int) != 0) = true) by decide),b_k (by show sent.length + pk.length ≤ 1099511627776;omega),Option.bind_some,a_t (by omega),Option.bind_some]
      show p3_l2 n (s:Int) m ((d:Int) + 1) (sent ++ pk) (pw.drop c) (most,IntKind.wrap .u16 (num + 1)) = _
      rw [d_N,show (num + 1) % 65536 = num + 1 by omega,show ((d:Int) + 1) = ((d + 1:Nat):Int) by simp]
      exact e
theorem Jn.more {most:Int} {s i:Nat} {want:List (List Int)} {sent pw:List (Sl Int)} {num:Int} {Bs:List (List (List Int))} (J:Jn most s i want sent pw num Bs):Jn most s (i + 1) want sent pw num Bs:=⟨J.eqn,J.fit,J.join,J.lens,J.tot,J.scnt,J.eqw,J.okw,by have:=J.cnt;omega⟩
theorem Jn.add {most:Int} {s i:Nat} {want:List (List Int)} {sent pw:List (Sl Int)} {num:Int} {Bs:List (List (List Int))} (J:Jn most s i want sent pw num Bs) {f:List Int} (hf:fits most [f]) (c:Option Nat):Jn most s (i + 1) (want ++ [f]) sent (pw ++ [⟨f,c⟩]) num Bs :=
  ⟨J.eqn,J.fit,J.join,J.lens,J.tot,J.scnt,by rw [J.eqw,a_6,List.append_assoc];rfl,fun g hg=>by
    rw [a_6] at hg
    rcases List.mem_append.1 hg with hg | hg
    · exact J.okw g hg
    · obtain rfl:g = f:=List.mem_singleton.1 hg
      exact hf,by rw [List.length_append,List.length_singleton];have:=J.cnt;omega⟩
theorem p3_l1_eq (n:Nat) (hn:20000 ≤ n) {most:Int} (hm:40 ≤ most ∧ most ≤ 16384) {s:Nat} (hs:1 ≤ s ∧ s ≤ 1024) (x:Sl (Sl Int)) (hL:x.xs.length ≤ 30):∀ (m i:Nat) (want:List (List Int)) (sent pw:List (Sl Int)) (num:Int) (Bs:List (List (List Int))),x.xs.length - i < m → i ≤ x.xs.length → (i = x.xs.length → pw = []) → Jn most s i want sent pw num Bs →
    ∃ want' sent' num' Bs',p3_l1 n x (s:Int) m i sent want pw (most,num) = some (.inl (want',sent',[],(most,num'))) ∧ Jn most s x.xs.length want' sent' [] num' Bs':=by
  intro m
  induction m with
  | zero=>intro i want sent pw num Bs h;exact absurd h (by omega)
  | succ m ih =>
    intro i want sent pw num Bs h hi hend J
    rw [p3_l1]
    by_cases hlt:i < x.xs.length
    · have hb:=J.blen
      have hidx:idx x.xs (i:Int) = some x.xs[i]:=by rw [a_5,List.getElem?_eq_getElem hlt]
      rw [if_pos (show decide ((i:Int) < a_d x) = true by unfold a_d;simp;omega),hidx,Option.bind_some,Option.bind_some]
      generalize x.xs[i] = f
      have hq:(if 200 < a_d f then 200 else a_d f) = ((min 200 f.xs.length:Nat):Int):=by
        unfold a_d
        split <;> omega
      have hsl:slI f 0 ((min 200 f.xs.length:Nat):Int) = some ⟨f.xs.take (min 200 f.xs.length),f.cap.map (· - 0)⟩:=d_0 f.xs f.cap _ (by omega)
      rw [hq,hsl,Option.bind_some]
      have hg:(f.xs.take (min 200 f.xs.length)).length ≤ 200:=by rw [List.length_take];omega
      generalize f.xs.take (min 200 f.xs.length) = g at hg
      have e6:=p6_eq n most num pw ⟨g,f.cap.map (· - 0)⟩ (by omega) (by show g.length ≤ 1600;omega) (by omega) (by omega)
      have key:∀ (want2:List (List Int)) (pw2:List (Sl Int)),Jn most s (i + 1) want2 sent pw2 num Bs →
          ∃ want' sent' num' Bs',((d_b .i64 (i:Int) 3).bind fun p0=>(if (p0 == 2) = false then (ckI .i64 ((a_d x) - 1)).bind fun q0=>some ((i:Int) == q0) else some true).bind fun o0=>(if o0 then ((p3_l2 n (s:Int) n 0 sent pw2 (most,num)).bind fun s0=>lrK s0 (fun r=>some (.inr r)) fun e0=>some (.inl (e0.1,e0.2.1,(e0.2.2.1,e0.2.2.2)))) else some (.inl (sent,pw2,(most,num)))).bind fun (m0:((List (Sl (Int))) × (List (Sl (Int))) × (Int × Int)) ⊕ Bool)=>lrK m0 (fun r=>some (.inr r)) fun d0=>(ckI .i64 ((i:Int) + 1)).bind fun r0=>p3_l1 n x (s:Int) m r0 d0.1 want2 d0.2.1 (d0.2.2.1,d0.2.2.2)) = some (.inl (want',sent',[],(most,num'))) ∧ Jn most s x.xs.length want' sent' [] num' Bs':=by
        intro want2 pw2 J2
        have hb2:=J2.blen
        rw [b_3 (by omega) (by decide) (inR_i64.2 (by omega)),Option.bind_some,a_t (by unfold a_d;omega),Option.bind_some,orS,Option.bind_some]
        by_cases hfl:(((i:Int) % 3 == 2) || ((i:Int) == a_d x - 1)) = true
        · obtain ⟨sent3,num3,Bs3,e3,J3⟩:=p3_l2_eq n hn hm hs (i:=i + 1) (by omega) n 0 sent pw2 num Bs (by omega) (by omega) J2
          rw [show ((0:Nat):Int) = 0 from rfl] at e3
          obtain ⟨want',sent',num',Bs',e4,J4⟩:=ih (i + 1) want2 sent3 [] num3 Bs3 (by omega) (by omega) (fun _=>rfl) J3
          refine ⟨want',sent',num',Bs',?_,J4⟩
          rw [if_pos hfl,e3,Option.bind_some,lrKK,Option.bind_some,lrKK,a_t (by omega),Option.bind_some,show ((i:Int) + 1) = ((i + 1:Nat):Int) by simp]
          exact e4
        · have hne:i + 1 ≠ x.xs.length:=fun q=>hfl (by
            have:((i:Int) == a_d x - 1) = true:=by unfold a_d;rw [beq_iff_eq];omega
            rw [this,Bool.or_true])
          obtain ⟨want',sent',num',Bs',e4,J4⟩:=ih (i + 1) want2 sent pw2 num Bs (by omega) (by omega) (fun q=>absurd q hne) J2
          refine ⟨want',sent',num',Bs',?_,J4⟩
          rw [if_neg hfl,Option.bind_some,lrKK,a_t (by omega),Option.bind_some,show ((i:Int) + 1) = ((i + 1:Nat):Int) by simp]
          exact e4
      by_cases hbad:bad most [g] = true
      · rw [if_pos hbad] at e6
        obtain ⟨want',sent',num',Bs',e,J2⟩:=key want pw J.more
        refine ⟨want',sent',num',Bs',?_,J2⟩
        refine (congrArg (fun q=>Option.bind q _) e6).trans ?_
        rw [Option.bind_some]
        refine (congrArg (fun q=>Option.bind q _) (show (if ((1:Int) == 0) = true then ((c_G want [g]).bind fun n0=>some n0) else some want) = some want from rfl)).trans ?_
        rw [Option.bind_some]
        exact e
      · rw [if_neg hbad,if_neg (by omega)] at e6
        have hfit:=(bad_iff hm.2 [g]).1 (Bool.eq_false_iff.2 hbad)
        obtain ⟨want',sent',num',Bs',e,J2⟩:=key (want ++ [g]) (pw ++ [⟨g,b_O (some 0) g.length⟩]) (J.add hfit _)
        refine ⟨want',sent',num',Bs',?_,J2⟩
        refine (congrArg (fun q=>Option.bind q _) e6).trans ?_
        rw [Option.bind_some]
        have hw:=J.cnt
        refine (congrArg (fun q=>Option.bind q _) (show (if ((0:Int) == 0) = true then ((c_G want [g]).bind fun n0=>some n0) else some want) = some (want ++ [g]) by rw [if_pos (show ((0:Int) == 0) = true from rfl),b_k (by simp;omega),Option.bind_some])).trans ?_
        rw [Option.bind_some]
        exact e
    · obtain rfl:i = x.xs.length:=by omega
      rw [if_neg (show ¬ (decide (((x.xs.length:Nat):Int) < a_d x) = true) by unfold a_d;simp)]
      obtain rfl:=hend rfl
      exact ⟨want,sent,num,Bs,rfl,J⟩
theorem p3_l4_eq (n:Nat) (c:List (List Int) × List (Sl Int) × List (Sl Int) × (Int × Int)) (d:(Int × Sl (Sl Int)) × Int) {fs:List (List Int)} (hd:d.1.2.xs = e_a fs) (hfl:fs.length ≤ 20000) (hw:c.1.length ≤ 1000):∀ (m j a:Nat) (R:List (List Int)),fs.length - j < m → j ≤ fs.length → a ≤ c.1.length → c.1.drop a = fs.drop j ++ R → p3_l4 n c d m j a = some (.inl ((a + (fs.length - j):Nat):Int)):=by
  intro m
  induction m with
  | zero=>intro j a R h;exact absurd h (by omega)
  | succ m ih =>
    intro j a R h hj ha hR
    have hlo:(e_a fs).length = fs.length:=by unfold e_a;rw [List.length_map]
    rw [p3_l4]
    by_cases hlt:j < fs.length
    · have hlen:=congrArg List.length hR
      rw [List.length_append,List.length_drop,List.length_drop] at hlen
      have ha2:a < c.1.length:=by omega
      rw [List.drop_eq_getElem_cons ha2,List.drop_eq_getElem_cons hlt,List.cons_append] at hR
      have hR':=List.cons.inj hR
      have e1:idx d.1.2.xs (j:Int) = some ⟨fs[j],some fs[j].length⟩:=by
        rw [hd,a_5,List.getElem?_eq_getElem (by rw [hlo];exact hlt)]
        simp [e_a]
      have e2:idx c.1 (a:Int) = some fs[j]:=by rw [a_5,List.getElem?_eq_getElem ha2,hR'.1]
      rw [if_pos (show decide ((j:Int) < a_d d.1.2) = true by unfold a_d;rw [hd,hlo];simp;omega),if_pos (show decide ((a:Int) ≥ a_d (⟨c.1,.none⟩:Sl (List Int))) = false from decide_eq_false (by unfold a_d;show ¬ ((a:Int) ≥ ((c.1.length:Nat):Int));omega)),e1,Option.bind_some,e2,Option.bind_some,Option.bind_some,if_neg (by simp),a_t (by omega),Option.bind_some,a_t (by omega),Option.bind_some,show ((a:Int) + 1) = ((a + 1:Nat):Int) by simp,show ((j:Int) + 1) = ((j + 1:Nat):Int) by simp,ih (j + 1) (a + 1) R (by omega) (by omega) (by omega) hR'.2,show a + 1 + (fs.length - (j + 1)) = a + (fs.length - j) by omega]
    · rw [if_neg (show ¬ (decide ((j:Int) < a_d d.1.2) = true) by unfold a_d;rw [hd,hlo];simp;omega),show fs.length - j = 0 by omega,Nat.add_zero]
theorem p3_l3_eq (n:Nat) (hn:20000 ≤ n) {most:Int} (hm:most ≤ 16384) (e:List (List Int) × List (Sl Int) × List (Sl Int) × (Int × Int)) (b:(Sl (Sl Int)) × (Sl Int) × Int) {Bs:List (List (List Int))} (hb:a_D b.1.xs = e_b 0 Bs) (hf:∀ fs ∈ Bs,fits most fs) (hB:Bs.length ≤ 100) (hw:e.1 = Bs.flatten) (hw2:e.1.length ≤ 1000):∀ (m i a:Nat),Bs.length - i < m → i ≤ Bs.length → a ≤ e.1.length → e.1.drop a = (Bs.drop i).flatten → p3_l3 n e b m i a = some (.inl (e.1.length:Int)):=by
  intro m
  induction m with
  | zero=>intro i a h;exact absurd h (by omega)
  | succ m ih =>
    intro i a h hi ha hd
    have hl:b.1.xs.length = Bs.length:=by rw [← c_j,hb,d_1]
    rw [p3_l3]
    by_cases hlt:i < Bs.length
    · have hat:=blks_at Bs 0 i Bs[i] (List.getElem?_eq_getElem hlt)
      rw [Nat.zero_add] at hat
      have hix:b.1.xs[i]? = some b.1.xs[i]:=List.getElem?_eq_getElem (by omega)
      have hxs:(b.1.xs[i]'(by omega)).xs = b_D (i:Int) Bs[i]:=by
        rw [← hb] at hat
        unfold a_D at hat
        rw [List.getElem?_map,hix] at hat
        exact Option.some.inj hat
      have g:Good (i:Int) Bs[i]:=(hf _ (List.getElem_mem hlt)).good hm (by omega)
      have e11:=p11_eq g n (b.1.xs[i]'(by omega)).cap (by omega)
      rw [← hxs] at e11
      have e11':p11 n (b.1.xs[i]'(by omega)) = some (((i:Int),⟨e_a Bs[i],some Bs[i].length⟩),0):=e11
      rw [List.drop_eq_getElem_cons hlt,List.flatten_cons] at hd
      have e4:=p3_l4_eq n e (((i:Int),⟨e_a Bs[i],some Bs[i].length⟩),0) (fs:=Bs[i]) rfl (by have:=g.few;omega) hw2 n 0 a _ (by have:=g.few;omega) (Nat.zero_le _) ha hd
      have hlen:=congrArg List.length hd
      rw [List.length_append,List.length_drop] at hlen
      rw [show ((0:Nat):Int) = 0 from rfl,Nat.sub_zero] at e4
      rw [if_pos (show decide ((i:Int) < a_d b.1) = true by unfold a_d;simp;omega),a_5,hix,Option.bind_some,e11',Option.bind_some]
      refine (congrArg (fun q=>Option.bind q _) (show (if ((0:Int) != 0) = false then some ((i:Int) != (i:Int)) else some true) = some false by simp)).trans ?_
      rw [Option.bind_some,if_neg Bool.false_ne_true,e4,Option.bind_some,lrKK,a_t (by omega),Option.bind_some,show ((i:Int) + 1) = ((i + 1:Nat):Int) by simp]
      refine ih (i + 1) (a + Bs[i].length) (by omega) (by omega) (by omega) ?_
      have:=congrArg (List.drop Bs[i].length) hd
      rw [List.drop_drop,List.drop_left] at this
      exact this
    · rw [if_neg (show ¬ (decide ((i:Int) < a_d b.1) = true) by unfold a_d;simp;omega)]
      rw [show List.drop i Bs = [] from List.drop_eq_nil_of_le (by omega)] at hd
      have:=congrArg List.length hd
      rw [List.length_drop,List.flatten_nil,List.length_nil] at this
      rw [show a = e.1.length by omega]
end Go.Proofs.YtjinaepmpoclaaaGreatDoor
