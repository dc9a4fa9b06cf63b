/- Plain theorems for the laws: what the plain functions say. No condition. -/
import Derived.Test.YtlbaijkolglheaaLB1
import Derived.Test.YtlbaijkolglheaaP7
set_option linter.unusedVariables false
set_option linter.unusedSimpArgs false
namespace Go.Proofs.Ytlbaijkolglheaa
open Go.RowKit
def bts (t:Int):List Int:=[t % 256,t / 256 % 256,t / 65536 % 256,t / 16777216 % 256]
def nmb (a b c d:Int):Int:=a + 256 * b + 65536 * c + 16777216 * d
theorem u32b {t:Int} (h:InR .u32 t):0 ≤ t ∧ t ≤ 4294967295:=by simpa [InR,IntKind.min,IntKind.max,IntKind.signed,IntKind.bits] using h
theorem shr_ok {t:Int} (h:0 ≤ t) (k:Nat) (hk:k ≤ 32):shrI t (k:Int) .u32 = some (t / 2 ^ k):=by
  unfold shrI
  rw [if_pos (Int.natCast_nonneg k)]
  congr 1
  rw [Int.toNat_natCast,show min k (IntKind.bits .u32) = k from Nat.min_eq_left hk,Int.fdiv_eq_ediv_of_nonneg _ (Int.le_of_lt (Int.pow_pos (by decide)))]
theorem p30_ok (n:Nat) {t:Int} (h:InR .u32 t):p30 n t = some ⟨bts t,some 4⟩:=by
  obtain ⟨h0,h1⟩:=u32b h
  unfold p30
  rw [show shrI t 8 .u32 = some (t / 256) from shr_ok h0 8 (by decide),Option.bind_some,show shrI t 16 .u32 = some (t / 65536) from shr_ok h0 16 (by decide),Option.bind_some,show shrI t 24 .u32 = some (t / 16777216) from shr_ok h0 24 (by decide),Option.bind_some,b_2,b_2,b_2,b_2]
  rfl
theorem d_Y {t d:Int} (h:InR .u32 t) (hd:0 < d):quoI .u32 t d = some (t / d):=by
  obtain ⟨h0,h1⟩:=u32b h
  unfold quoI
  rw [if_neg (by omega),Int.tdiv_eq_ediv_of_nonneg h0]
  unfold ckI
  have h2:0 ≤ t / d:=Int.ediv_nonneg h0 (by omega)
  have h3:t / d ≤ t:=Int.ediv_le_self _ h0
  rw [if_pos (by simp only [IntKind.min,IntKind.max,IntKind.signed,IntKind.bits];simp;omega)]
theorem p10_ok (n:Nat) {t:Int} (h:InR .u32 t):p10 n t = some (bts t):=by
  unfold p10
  rw [d_Y h (by decide),Option.bind_some,d_Y h (by decide),Option.bind_some,d_Y h (by decide),Option.bind_some,b_2,b_2,b_2,b_2]
  rfl
theorem wrap32 {x:Int} (h:0 ≤ x ∧ x ≤ 4294967295):IntKind.wrap .u32 x = x:=by
  rw [wrap_u32];omega
theorem or_u32 {a b:Int} (k:Nat) (hk:k ≤ 24) (ha:0 ≤ a ∧ a < 2 ^ k) (hb:0 ≤ b ∧ b ≤ 255):b_B .or .u32 a (b * 2 ^ k) = a + b * 2 ^ k:=by
  obtain ⟨m,rfl⟩:=Int.eq_ofNat_of_zero_le ha.1
  obtain ⟨n,rfl⟩:=Int.eq_ofNat_of_zero_le hb.1
  have h1:m < 2 ^ k:=by have:=ha.2;exact_mod_cast this
  have hp:(2:Nat) ^ k ≤ 2 ^ 24:=Nat.pow_le_pow_right (by decide) hk
  have hn:n ≤ 255:=by omega
  have hnk:n * 2 ^ k ≤ 255 * 2 ^ 24:=Nat.mul_le_mul hn hp
  have e:((n:Int) * 2 ^ k) = ((n * 2 ^ k:Nat):Int):=by simp
  rw [e]
  show IntKind.wrap .u32 ((BitVec.ofInt 32 (m:Int) ||| BitVec.ofInt 32 ((n * 2 ^ k:Nat):Int)).toNat:Int) = _
  simp only [BitVec.toNat_or,BitVec.ofInt_natCast,BitVec.toNat_ofNat]
  have hm2:m < 2 ^ 32:=by omega
  rw [Nat.mod_eq_of_lt hm2,Nat.mod_eq_of_lt (by omega:n * 2 ^ k < 2 ^ 32),Nat.or_comm,show n * 2 ^ k = n <<< k by rw [Nat.shiftLeft_eq],← Nat.shiftLeft_add_eq_or_of_lt h1,Nat.shiftLeft_eq,wrap32 (by omega)]
  omega
theorem d_Z {b:Int} (k:Nat) (hk:k ≤ 24) (hb:0 ≤ b ∧ b ≤ 255):shlI .u32 b (k:Int) = some (b * 2 ^ k):=by
  unfold shlI
  rw [if_pos (Int.natCast_nonneg k)]
  congr 1
  rw [Int.toNat_natCast,show min k (IntKind.bits .u32) = k from Nat.min_eq_left (Nat.le_trans hk (by decide))]
  have hp:(2:Int) ^ k ≤ 2 ^ 24:=by exact_mod_cast (Nat.pow_le_pow_right (by decide) hk:(2:Nat) ^ k ≤ 2 ^ 24)
  have hp0:(0:Int) < 2 ^ k:=Int.pow_pos (by decide)
  refine wrap32 ⟨Int.mul_nonneg hb.1 (Int.le_of_lt hp0),?_⟩
  have:=Int.mul_le_mul hb.2 hp (Int.le_of_lt hp0) (by decide)
  omega
theorem p31_ok (n:Nat) {s:Sl Int} {a b c d:Int} (h0:s.xs[0]? = some a) (h1:s.xs[1]? = some b) (h2:s.xs[2]? = some c) (h3:s.xs[3]? = some d) (ha:0 ≤ a ∧ a ≤ 255) (hb:0 ≤ b ∧ b ≤ 255) (hc:0 ≤ c ∧ c ≤ 255) (hd:0 ≤ d ∧ d ≤ 255):p31 n s = some (nmb a b c d):=by
  unfold p31
  rw [show idx s.xs 0 = some a from h0,Option.bind_some,show idx s.xs 1 = some b from h1,Option.bind_some,show shlI .u32 b 8 = some (b * 256) from d_Z 8 (by decide) hb,Option.bind_some,show idx s.xs 2 = some c from h2,Option.bind_some,show shlI .u32 c 16 = some (c * 65536) from d_Z 16 (by decide) hc,Option.bind_some,show idx s.xs 3 = some d from h3,Option.bind_some,show shlI .u32 d 24 = some (d * 16777216) from d_Z 24 (by decide) hd,Option.bind_some]
  have e1:b_B .or .u32 a (b * 256) = a + b * 256:=or_u32 8 (by decide) (by omega) hb
  rw [e1,show b_B .or .u32 (a + b * 256) (c * 65536) = a + b * 256 + c * 65536 from or_u32 16 (by decide) (by omega) hc,show b_B .or .u32 (a + b * 256 + c * 65536) (d * 16777216) = a + b * 256 + c * 65536 + d * 16777216 from or_u32 24 (by decide) (by omega) hd]
  refine congrArg some ?_
  unfold nmb
  omega
theorem nmb_bts {t:Int} (h:InR .u32 t):nmb (t % 256) (t / 256 % 256) (t / 65536 % 256) (t / 16777216 % 256) = t:=by
  obtain ⟨h0,h1⟩:=u32b h
  unfold nmb
  omega
theorem bts_nmb {a b c d:Int} (ha:0 ≤ a ∧ a ≤ 255) (hb:0 ≤ b ∧ b ≤ 255) (hc:0 ≤ c ∧ c ≤ 255) (hd:0 ≤ d ∧ d ≤ 255):bts (nmb a b c d) = [a,b,c,d]:=by
  unfold bts nmb
  congr 1
  · omega
  · congr 1
    · omega
    · congr 1
      · omega
      · congr 1
        omega
theorem nmb_in {a b c d:Int} (ha:0 ≤ a ∧ a ≤ 255) (hb:0 ≤ b ∧ b ≤ 255) (hc:0 ≤ c ∧ c ≤ 255) (hd:0 ≤ d ∧ d ≤ 255):InR .u32 (nmb a b c d):=by
  unfold nmb
  simp only [InR,IntKind.min,IntKind.max,IntKind.signed,IntKind.bits]
  simp
  omega
theorem p48_eq (n:Nat) {k:Int} (h:0 ≤ k ∧ k ≤ 1099511627776):p48_nil n k = some ⟨[],.none⟩:=by
  unfold p48_nil
  rw [if_neg (by simp;omega),show capO (⟨[],some 0⟩:Sl Int) = some 0 from rfl,Option.bind_some,show a_j (⟨[],some 0⟩:Sl Int) = 0 from rfl,d_E (by omega),Option.bind_some,d_E (by omega),Option.bind_some]
  by_cases hk:k > 0
  · have e1:k - (0 - 0) = k:=by omega
    rw [e1,if_pos (by simpa using hk),Option.bind_some,show cutI ([]:List Int) 0 = some [] from rfl,Option.bind_some]
    rw [show appZ ([]:List Int) k 0 = some (List.replicate k.toNat 0) by unfold appZ;rw [if_pos ⟨by omega,by simp;omega⟩];simp,Option.bind_some]
    rw [show cutI (List.replicate k.toNat (0:Int)) 0 = some [] by unfold cutI;rw [if_pos ⟨Int.le_refl 0,Int.natCast_nonneg _⟩];simp,Option.bind_some,Option.bind_some]
  · rw [if_neg (by simp;omega),Option.bind_some]
def cat:List (Sl Int) → List Int
  | []=>[]
  | s :: l=>s.xs ++ cat l
@[simp] theorem cat_nil:cat [] = []:=rfl
@[simp] theorem e_a (s:Sl Int) (l:List (Sl Int)):cat (s :: l) = s.xs ++ cat l:=rfl
theorem p35_l1_eq (n:Nat) (x:Sl (Sl Int)) (hL:x.xs.length ≤ 1000000):∀ (m k:Nat) (acc:Int),x.xs.length < k + m → k ≤ x.xs.length → 0 ≤ acc → acc + (cat (x.xs.drop k)).length ≤ 1099511627776 →
    p35_l1 n x m k acc = some (acc + (cat (x.xs.drop k)).length)
  | 0,k,acc,h,hk,_,_=>by omega
  | m + 1,k,acc,h,hk,h0,hs=>by
    unfold p35_l1
    by_cases hlt:k < x.xs.length
    · have ex:=List.drop_eq_getElem_cons hlt
      have e2:(cat (x.xs.drop k)).length = x.xs[k].xs.length + (cat (x.xs.drop (k + 1))).length:=by rw [ex,e_a,List.length_append]
      rw [if_pos (by simp [a_j];omega),idx_nat,List.getElem?_eq_getElem hlt,Option.bind_some,d_E (by simp only [a_j];omega),Option.bind_some,if_neg (by rw [decide_eq_true_eq];simp only [a_j];omega),d_E (by omega),Option.bind_some,
        show ((k:Int) + 1) = ((k + 1:Nat):Int) by simp,p35_l1_eq n x hL m (k + 1) _ (by omega) (by omega) (by simp only [a_j];omega) (by simp only [a_j];omega)]
      simp only [a_j]
      congr 1
      omega
    · rw [if_neg (by simp [a_j];omega),List.drop_eq_nil_of_le (by omega)]
      simp
theorem p35_l2_eq (n:Nat) (x:Sl (Sl Int)) (hL:x.xs.length ≤ 1000000):∀ (m k:Nat) (acc:List Int),x.xs.length < k + m → k ≤ x.xs.length → acc.length + (cat (x.xs.drop k)).length ≤ 1099511627776 →
    p35_l2 n x m k acc = some (acc ++ cat (x.xs.drop k))
  | 0,k,acc,h,hk,_=>by omega
  | m + 1,k,acc,h,hk,hs=>by
    unfold p35_l2
    by_cases hlt:k < x.xs.length
    · have ex:=List.drop_eq_getElem_cons hlt
      have e2:cat (x.xs.drop k) = x.xs[k].xs ++ cat (x.xs.drop (k + 1)):=by rw [ex,e_a]
      rw [e2,List.length_append] at hs
      rw [if_pos (by simp [a_j];omega),idx_nat,List.getElem?_eq_getElem hlt,Option.bind_some,appI_ok (by omega),Option.bind_some,d_E (by omega),Option.bind_some,
        show ((k:Int) + 1) = ((k + 1:Nat):Int) by simp,p35_l2_eq n x hL m (k + 1) _ (by omega) (by omega) (by rw [List.length_append];omega),e2,List.append_assoc]
    · rw [if_neg (by simp [a_j];omega),List.drop_eq_nil_of_le (by omega)]
      simp
theorem p35_eq (n:Nat) (x:Sl (Sl Int)) (hL:x.xs.length < n) (hL':x.xs.length ≤ 1000000) (hs:(cat x.xs).length ≤ 1099511627776):p35 n x = some ⟨cat x.xs,.none⟩:=by
  unfold p35
  have e:p35_l1 n x n 0 0 = some (0 + ((cat (x.xs.drop 0)).length:Int)):=p35_l1_eq n x hL' n 0 0 (by omega) (by omega) (by omega) (by rw [List.drop_zero];omega)
  have e2:p35_l2 n x n 0 [] = some ([] ++ cat (x.xs.drop 0)):=p35_l2_eq n x hL' n 0 [] (by omega) (by omega) (by rw [List.drop_zero];simpa using hs)
  rw [List.drop_zero] at e e2
  rw [e,Option.bind_some,p48_eq n (by omega),Option.bind_some,e2,Option.bind_some,List.nil_append]
theorem p32_eq (n:Nat) (x:Sl Int):p32 n x = some ⟨x.xs,some x.xs.length⟩:=by
  unfold p32 sl3I
  rw [if_pos (by simp [a_j])]
  simp [a_j]
theorem p7_ok:p7 200 = some true:=by kernel_rfl
def Byts (l:List Int):Prop:=∀ y ∈ l,0 ≤ y ∧ y ≤ 255
theorem e_b (t:Int):Byts (bts t):=by
  intro y hy
  simp only [bts,List.mem_cons,List.not_mem_nil,or_false] at hy
  omega
end Go.Proofs.Ytlbaijkolglheaa
