/- Plain theorems for the laws: what the plain functions say. No condition. -/
import Derived.Test.YtlbaijkolglheaaLB1
import Derived.Test.YtlbaijkolglheaaP7
import Derived.Test.YtlbaijkolglheaaLB2
set_option linter.unusedVariables false
set_option linter.unusedSimpArgs false
namespace Go.Proofs.Ytlbaijkolglheaa
open Go.RowKit
def bts (t:Int):List Int:=[t % 256,t / 256 % 256,t / 65536 % 256,t / 16777216 % 256]
def nmb (a b c d:Int):Int:=a + 256 * b + 65536 * c + 16777216 * d
theorem u32b {t:Int} (h:InR .u32 t):0 ≤ t ∧ t ≤ 4294967295:=by simpa [InR,IntKind.min,IntKind.max,IntKind.signed,IntKind.bits] using h
theorem shr_ok {t:Int} (h:0 ≤ t) (k:Nat) (hk:k ≤ 32):shrI t (k:Int) .u32 = some (t / 2 ^ k):=by
  unfold shrI
  rw [if_pos (Int.natCast_nonneg k)]
  congr 1
  rw [Int.toNat_natCast,show min k (IntKind.bits .u32) = k from Nat.min_eq_left hk,Int.fdiv_eq_ediv_of_nonneg _ (Int.le_of_lt (Int.pow_pos (by decide)))]
theorem p30_ok (n:Nat) {t:Int} (h:InR .u32 t):p30 n t = some ⟨bts t,some 4⟩:=by
  obtain ⟨h0,h1⟩:=u32b h
  unfold p30
  rw [show shrI t 8 .u32 = some (t / 256) from shr_ok h0 8 (by decide),Option.bind_some,show shrI t 16 .u32 = some (t / 65536) from shr_ok h0 16 (by decide),Option.bind_some,show shrI t 24 .u32 = some (t / 16777216) from shr_ok h0 24 (by decide),Option.bind_some,c_L,c_L,c_L,c_L]
  rfl
theorem wrap32 {x:Int} (h:0 ≤ x ∧ x ≤ 4294967295):IntKind.wrap .u32 x = x:=by
  rw [wrap_u32];omega
theorem or_u32 {a b:Int} (k:Nat) (hk:k ≤ 24) (ha:0 ≤ a ∧ a < 2 ^ k) (hb:0 ≤ b ∧ b ≤ 255):b_z .or .u32 a (b * 2 ^ k) = a + b * 2 ^ k:=by
  obtain ⟨m,rfl⟩:=Int.eq_ofNat_of_zero_le ha.1
  obtain ⟨n,rfl⟩:=Int.eq_ofNat_of_zero_le hb.1
  have h1:m < 2 ^ k:=by have:=ha.2;exact_mod_cast this
  have hp:(2:Nat) ^ k ≤ 2 ^ 24:=Nat.pow_le_pow_right (by decide) hk
  have hn:n ≤ 255:=by omega
  have hnk:n * 2 ^ k ≤ 255 * 2 ^ 24:=Nat.mul_le_mul hn hp
  have e:((n:Int) * 2 ^ k) = ((n * 2 ^ k:Nat):Int):=by simp
  rw [e]
  show IntKind.wrap .u32 ((BitVec.ofInt 32 (m:Int) ||| BitVec.ofInt 32 ((n * 2 ^ k:Nat):Int)).toNat:Int) = _
  simp only [BitVec.toNat_or,BitVec.ofInt_natCast,BitVec.toNat_ofNat]
  have hm2:m < 2 ^ 32:=by omega
  rw [Nat.mod_eq_of_lt hm2,Nat.mod_eq_of_lt (by omega:n * 2 ^ k < 2 ^ 32),Nat.or_comm,show n * 2 ^ k = n <<< k by rw [Nat.shiftLeft_eq],← Nat.shiftLeft_add_eq_or_of_lt h1,Nat.shiftLeft_eq,wrap32 (by omega)]
  omega
theorem d_U {b:Int} (k:Nat) (hk:k ≤ 24) (hb:0 ≤ b ∧ b ≤ 255):shlI .u32 b (k:Int) = some (b * 2 ^ k):=by
  unfold shlI
  rw [if_pos (Int.natCast_nonneg k)]
  congr 1
  rw [Int.toNat_natCast,show min k (IntKind.bits .u32) = k from Nat.min_eq_left (Nat.le_trans hk (by decide))]
  have hp:(2:Int) ^ k ≤ 2 ^ 24:=by exact_mod_cast (Nat.pow_le_pow_right (by decide) hk:(2:Nat) ^ k ≤ 2 ^ 24)
  have hp0:(0:Int) < 2 ^ k:=Int.pow_pos (by decide)
  refine wrap32 ⟨Int.mul_nonneg hb.1 (Int.le_of_lt hp0),?_⟩
  have:=Int.mul_le_mul hb.2 hp (Int.le_of_lt hp0) (by decide)
  omega
theorem p31_ok (n:Nat) {s:Sl Int} {a b c d:Int} (h0:s.xs[0]? = some a) (h1:s.xs[1]? = some b) (h2:s.xs[2]? = some c) (h3:s.xs[3]? = some d) (ha:0 ≤ a ∧ a ≤ 255) (hb:0 ≤ b ∧ b ≤ 255) (hc:0 ≤ c ∧ c ≤ 255) (hd:0 ≤ d ∧ d ≤ 255):p31 n s = some (nmb a b c d):=by
  unfold p31
  rw [show idx s.xs 0 = some a from h0,Option.bind_some,show idx s.xs 1 = some b from h1,Option.bind_some,show shlI .u32 b 8 = some (b * 256) from d_U 8 (by decide) hb,Option.bind_some,show idx s.xs 2 = some c from h2,Option.bind_some,show shlI .u32 c 16 = some (c * 65536) from d_U 16 (by decide) hc,Option.bind_some,show idx s.xs 3 = some d from h3,Option.bind_some,show shlI .u32 d 24 = some (d * 16777216) from d_U 24 (by decide) hd,Option.bind_some]
  have e1:b_z .or .u32 a (b * 256) = a + b * 256:=or_u32 8 (by decide) (by omega) hb
  rw [e1,show b_z .or .u32 (a + b * 256) (c * 65536) = a + b * 256 + c * 65536 from or_u32 16 (by decide) (by omega) hc,show b_z .or .u32 (a + b * 256 + c * 65536) (d * 16777216) = a + b * 256 + c * 65536 + d * 16777216 from or_u32 24 (by decide) (by omega) hd]
  refine congrArg some ?_
  unfold nmb
  omega
theorem nmb_in {a b c d:Int} (ha:0 ≤ a ∧ a ≤ 255) (hb:0 ≤ b ∧ b ≤ 255) (hc:0 ≤ c ∧ c ≤ 255) (hd:0 ≤ d ∧ d ≤ 255):InR .u32 (nmb a b c d):=by
  unfold nmb
  simp only [InR,IntKind.min,IntKind.max,IntKind.signed,IntKind.bits]
  simp
  omega
def cat:List (Sl Int) → List Int
  | []=>[]
  | s :: l=>s.xs ++ cat l
@[simp] theorem cat_nil:cat [] = []:=rfl
@[simp] theorem cat_cons (s:Sl Int) (l:List (Sl Int)):cat (s :: l) = s.xs ++ cat l:=rfl
theorem p32_eq (n:Nat) (x:Sl Int):p32 n x = some ⟨x.xs,some x.xs.length⟩:=by
  unfold p32 sl3I
  rw [if_pos (by simp [a_j])]
  simp [a_j]
theorem p33_eq (n:Nat) (x:Sl Int) (h:x.xs.length ≤ 1000000):p33 n x = some ⟨x.xs,b_w (some 0) x.xs.length⟩:=by
  unfold p33
  rw [appI_ok (by simp;omega),Option.bind_some]
  simp
theorem p7_ok:p7 200 = some true:=by kernel_rfl
def Byts (l:List Int):Prop:=∀ y ∈ l,0 ≤ y ∧ y ≤ 255
def blkH (t l:Int) (i:Bool) (u k:Int):List Int:=[85,83,66,67] ++ (bts t ++ (bts l ++ [if i then 128 else 0,u,k]))
def blkB (t l:Int) (i:Bool) (u:Int) (c:List Int):List Int:=blkH t l i u (IntKind.wrap .u8 c.length) ++ b_3 (List.replicate 16 0) c
def rgt (l:Int) (i:Bool) (u:Int) (c:List Int):Bool:=decide (u ≤ 15) && (decide (1 ≤ c.length) && (decide (c.length ≤ 16) && (!i || decide (l > 0))))
theorem p29_eq (n:Nat) {t l u:Int} {i:Bool} {c:List Int} {q:Option Nat}:p29 n (t,l,i,u,⟨c,q⟩) = some (rgt l i u c):=by
  have e1:decide ((c.length:Int) ≥ 1) = decide (1 ≤ c.length):=decide_eq_decide.2 (by omega)
  have e2:decide ((c.length:Int) ≤ 16) = decide (c.length ≤ 16):=decide_eq_decide.2 (by omega)
  show ((if (decide (u ≤ 15)) = true then some (decide ((c.length:Int) ≥ 1)) else some false).bind fun q_7=>(if q_7 = true then some (decide ((c.length:Int) ≤ 16)) else some false).bind fun q_11=>(if q_11 = true then (if (!i) = false then some (decide (l > 0)) else some true).bind fun q_18=>some q_18 else some false).bind fun q_15=>some q_15) = some (rgt l i u c)
  rw [e1,andK fun _=>rfl,Option.bind_some,e2,andK fun _=>rfl,Option.bind_some,orK fun _=>rfl,Option.bind_some,andK fun _=>rfl,Option.bind_some]
  unfold rgt
  cases decide (u ≤ 15) <;> cases decide (1 ≤ c.length) <;> cases decide (c.length ≤ 16) <;> rfl
theorem p8_bad (n:Nat) {t l u:Int} {i:Bool} {c:List Int} {q:Option Nat} (h:rgt l i u c = false):p8 n (t,l,i,u,⟨c,q⟩) = some (⟨[],some 0⟩,1):=by
  unfold p8
  rw [p29_eq,h,Option.bind_some]
  rfl
theorem p8_ok (n:Nat) {t l u:Int} {i:Bool} {c:List Int} {q:Option Nat} (ht:InR .u32 t) (hl:InR .u32 l) (h:rgt l i u c = true):p8 n (t,l,i,u,⟨c,q⟩) = some (⟨blkB t l i u c,some 31⟩,0):=by
  unfold p8
  rw [p29_eq,h,Option.bind_some,p30_ok n ht,p30_ok n hl]
  cases i <;> rfl
theorem cpy16 {c:List Int} (h:c.length ≤ 16):b_3 (List.replicate 16 0) c = c ++ List.replicate (16 - c.length) 0:=by
  unfold b_3
  rw [List.length_replicate,List.take_of_length_le h,List.drop_replicate]
theorem blkH_len (t l:Int) (i:Bool) (u k:Int):(blkH t l i u k).length = 15:=rfl
theorem d_4 {t l u:Int} {i:Bool} {c:List Int} (h:c.length ≤ 16):(blkB t l i u c).length = 31:=by
  unfold blkB
  rw [List.length_append,blkH_len,cpy16 h,List.length_append,List.length_replicate]
  omega
theorem p34_l1_eq (n:Nat) (x y:Sl Int) (hxy:x.xs.length = y.xs.length) (hL:x.xs.length ≤ 1000000):∀ (m k:Nat),x.xs.length < k + m → k ≤ x.xs.length → p34_l1 n x y m k = if x.xs.drop k = y.xs.drop k then some (.inl ()) else some (.inr false)
  | 0,k,h,hk=>by omega
  | m + 1,k,h,hk=>by
    unfold p34_l1
    by_cases hlt:k < x.xs.length
    · have hly:k < y.xs.length:=by omega
      have ex:x.xs.drop k = x.xs[k] :: x.xs.drop (k + 1):=List.drop_eq_getElem_cons hlt
      have ey:y.xs.drop k = y.xs[k] :: y.xs.drop (k + 1):=List.drop_eq_getElem_cons hly
      rw [if_pos (by simp [a_j];omega),idx_nat,idx_nat,List.getElem?_eq_getElem hlt,List.getElem?_eq_getElem hly,Option.bind_some,Option.bind_some,ex,ey]
      by_cases he:x.xs[k] = y.xs[k]
      · rw [if_neg (by simp [he]),ck_i64 (by omega),Option.bind_some,show ((k:Int) + 1) = ((k + 1:Nat):Int) by simp,p34_l1_eq n x y hxy hL m (k + 1) (by omega) (by omega),he]
        by_cases hd:x.xs.drop (k + 1) = y.xs.drop (k + 1)
        · rw [if_pos hd,if_pos (by rw [hd])]
        · rw [if_neg hd,if_neg fun e=>hd (List.cons.inj e).2]
      · rw [if_pos (by simpa using he),if_neg fun e=>he (List.cons.inj e).1]
    · rw [if_neg (by simp [a_j];omega),List.drop_eq_nil_of_le (by omega),List.drop_eq_nil_of_le (by omega),if_pos rfl]
theorem p34_eq (n:Nat) {x y:Sl Int} (hn:x.xs.length < n) (hL:x.xs.length ≤ 1000000):p34 n x y = some (decide (x.xs = y.xs)):=by
  unfold p34
  by_cases hxy:x.xs.length = y.xs.length
  · rw [if_neg (by simp [a_j,hxy])]
    have:=p34_l1_eq n x y hxy hL n 0 (by omega) (by omega)
    rw [List.drop_zero,List.drop_zero] at this
    rw [show ((0:Nat):Int) = 0 from rfl] at this
    rw [this]
    by_cases he:x.xs = y.xs
    · rw [if_pos he,Option.bind_some,lrKl,decide_eq_true he]
    · rw [if_neg he,Option.bind_some,lrKr,decide_eq_false he]
  · rw [if_pos (by simp [a_j];omega),decide_eq_false (fun e=>hxy (by rw [e]))]
theorem p11_spec (n:Nat) (hn:31 < n) {l:List Int} {q:Option Nat} (hB:Byts l) :
    p11 n ⟨l,q⟩ = some ((0,0,false,0,⟨[],some 0⟩),4) ∨ ∃ t k i u c,p11 n ⟨l,q⟩ = some ((t,k,i,u,⟨c,some c.length⟩),0) ∧ InR .u32 t ∧ InR .u32 k ∧ rgt k i u c = true ∧ l = blkB t k i u c ∧ l.length = 31:=by
  by_cases hl:l.length = 31
  · have hi:∀ j:Nat,j < 31 → ∃ y,l[j]? = some y ∧ 0 ≤ y ∧ y ≤ 255:=fun j hj=>⟨l[j],List.getElem?_eq_getElem (by omega),hB _ (List.getElem_mem _)⟩
    obtain ⟨y14,h14,r14⟩:=hi 14 (by decide)
    have e14:idx l 14 = some y14:=h14
    have hlen:(a_j (⟨l,q⟩:Sl Int) != 31) = false:=by simp [a_j,hl]
    by_cases hk:y14 < 1 ∨ y14 > 16
    · left
      unfold p11
      rw [hlen,c_N]
      simp only []
      rw [e14,Option.bind_some,Option.bind_some]
      by_cases h1:y14 < 1
      · rw [decide_eq_true h1,d_P,Option.bind_some,c_M]
      · rw [decide_eq_false h1,c_N,Option.bind_some,Option.bind_some,decide_eq_true (hk.resolve_left h1),c_M]
    · obtain ⟨y4,h4,r4⟩:=hi 4 (by decide)
      obtain ⟨y5,h5,r5⟩:=hi 5 (by decide)
      obtain ⟨y6,h6,r6⟩:=hi 6 (by decide)
      obtain ⟨y7,h7,r7⟩:=hi 7 (by decide)
      obtain ⟨y8,h8,r8⟩:=hi 8 (by decide)
      obtain ⟨y9,h9,r9⟩:=hi 9 (by decide)
      obtain ⟨z0,g0,s0⟩:=hi 10 (by decide)
      obtain ⟨z1,g1,s1⟩:=hi 11 (by decide)
      obtain ⟨z2,g2,s2⟩:=hi 12 (by decide)
      obtain ⟨z3,g3,s3⟩:=hi 13 (by decide)
      have eA:slI (⟨l,q⟩:Sl Int) 4 8 = some ⟨(l.take 8).drop 4,q.map (· - 4)⟩:=by unfold slI;rw [if_pos (by simp [hl])];rfl
      have eB:slI (⟨l,q⟩:Sl Int) 8 12 = some ⟨(l.take 12).drop 8,q.map (· - 8)⟩:=by unfold slI;rw [if_pos (by simp [hl])];rfl
      have hw:IntKind.wrap .u8 (15 + y14) = 15 + y14:=by rw [c_L];omega
      have eC:slI (⟨l,q⟩:Sl Int) 15 (15 + y14) = some ⟨(l.take (15 + y14).toNat).drop 15,q.map (· - 15)⟩:=by unfold slI;rw [if_pos (by simp [hl];omega)];rfl
      have pA:=p31_ok n (s:=⟨(l.take 8).drop 4,q.map (· - 4)⟩) (a:=y4) (b:=y5) (c:=y6) (d:=y7) (by simp [List.getElem?_drop,List.getElem?_take,h4]) (by simp [List.getElem?_drop,List.getElem?_take,h5]) (by simp [List.getElem?_drop,List.getElem?_take,h6]) (by simp [List.getElem?_drop,List.getElem?_take,h7]) r4 r5 r6 r7
      have pB:=p31_ok n (s:=⟨(l.take 12).drop 8,q.map (· - 8)⟩) (a:=y8) (b:=y9) (c:=z0) (d:=z1) (by simp [List.getElem?_drop,List.getElem?_take,h8]) (by simp [List.getElem?_drop,List.getElem?_take,h9]) (by simp [List.getElem?_drop,List.getElem?_take,g0]) (by simp [List.getElem?_drop,List.getElem?_take,g1]) r8 r9 s0 s1
      have k1:¬ y14 < 1:=fun h=>hk (.inl h)
      have k2:¬ y14 > 16:=fun h=>hk (.inr h)
      have hcl:((l.take (15 + y14).toNat).drop 15).length = y14.toNat:=by simp [hl];omega
      have e12:idx l 12 = some z2:=g2
      have e13:idx l 13 = some z3:=g3
      have main:p11 n ⟨l,q⟩ = (p8 n (nmb y4 y5 y6 y7,nmb y8 y9 z0 z1,z2 == 128,z3,⟨(l.take (15 + y14).toNat).drop 15,some ((l.take (15 + y14).toNat).drop 15).length⟩)).bind fun t_237=>(if (t_237.2 != 0) = false then (p34 n (⟨t_237.1.xs,t_237.1.cap⟩:Sl Int) ⟨l,q⟩).bind fun t_245=>some (!t_245) else some true).bind fun q_244=>if q_244 then some ((0,0,false,0,⟨[],some 0⟩),4) else some ((nmb y4 y5 y6 y7,nmb y8 y9 z0 z1,z2 == 128,z3,⟨(l.take (15 + y14).toNat).drop 15,some ((l.take (15 + y14).toNat).drop 15).length⟩),0):=by
        unfold p11
        rw [hlen,c_N]
        dsimp only
        rw [e14,Option.bind_some,Option.bind_some,decide_eq_false k1,c_N,Option.bind_some,Option.bind_some,decide_eq_false k2,b_K,eA,Option.bind_some,pA,Option.bind_some,eB,Option.bind_some,pB,Option.bind_some,e12,Option.bind_some,e13,Option.bind_some,Option.bind_some,hw,eC,Option.bind_some,p33_eq n _ (by rw [hcl];omega),Option.bind_some,p32_eq,Option.bind_some]
      have iA:=nmb_in r4 r5 r6 r7
      have iB:=nmb_in r8 r9 s0 s1
      cases hr:rgt (nmb y8 y9 z0 z1) (z2 == 128) z3 ((l.take (15 + y14).toNat).drop 15) with
      | false =>
        left
        rw [main,p8_bad n hr]
        rfl
      | true =>
        have hc16:((l.take (15 + y14).toNat).drop 15).length ≤ 16:=by omega
        have hp8:=p8_ok n (q:=some ((l.take (15 + y14).toNat).drop 15).length) iA iB hr
        rw [hp8,Option.bind_some] at main
        dsimp only at main
        rw [show ((0:Int) != 0) = false from rfl,c_N,p34_eq n (by rw [d_4 hc16];exact hn) (by rw [d_4 hc16];decide),Option.bind_some,Option.bind_some] at main
        by_cases he:blkB (nmb y4 y5 y6 y7) (nmb y8 y9 z0 z1) (z2 == 128) z3 ((l.take (15 + y14).toNat).drop 15) = l
        · right
          rw [decide_eq_true he] at main
          exact ⟨_,_,_,_,_,main,iA,iB,hr,he.symm,hl⟩
        · left
          rw [decide_eq_false he] at main
          exact main
  · left
    unfold p11
    rw [show (a_j (⟨l,q⟩:Sl Int) != 31) = true by simp [a_j];omega,d_P,Option.bind_some,d_P,Option.bind_some,c_M]
end Go.Proofs.Ytlbaijkolglheaa
