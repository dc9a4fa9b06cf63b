/- Plain theorems for the laws: what the plain functions say. No condition. -/
import Derived.Test.YtlbaijkolglheaaLB1
import Derived.Test.YtlbaijkolglheaaP6
import Derived.Test.YtlbaijkolglheaaLB2
set_option linter.unusedVariables false
set_option linter.unusedSimpArgs false
namespace Go.Proofs.Ytlbaijkolglheaa
open Go.RowKit
def bts (t:Int):List Int:=[t % 256,t / 256 % 256,t / 65536 % 256,t / 16777216 % 256]
def nmb (a b c d:Int):Int:=a + 256 * b + 65536 * c + 16777216 * d
theorem u32b {t:Int} (h:InR .u32 t):0 ≤ t ∧ t ≤ 4294967295:=by simpa [InR,IntKind.min,IntKind.max,IntKind.signed,IntKind.bits] using h
theorem shr_ok {t:Int} (h:0 ≤ t) (k:Nat) (hk:k ≤ 32):shrI t (k:Int) .u32 = some (t / 2 ^ k):=by
  unfold shrI
  rw [if_pos (Int.natCast_nonneg k)]
  congr 1
  rw [Int.toNat_natCast,show min k (IntKind.bits .u32) = k from Nat.min_eq_left hk,Int.fdiv_eq_ediv_of_nonneg _ (Int.le_of_lt (Int.pow_pos (by decide)))]
theorem p30_ok (n:Nat) {t:Int} (h:InR .u32 t):p30 n t = some ⟨bts t,some 4⟩:=by
  obtain ⟨h0,h1⟩:=u32b h
  unfold p30
  rw [show shrI t 8 .u32 = some (t / 256) from shr_ok h0 8 (by decide),Option.bind_some,show shrI t 16 .u32 = some (t / 65536) from shr_ok h0 16 (by decide),Option.bind_some,show shrI t 24 .u32 = some (t / 16777216) from shr_ok h0 24 (by decide),Option.bind_some,d_h,d_h,d_h,d_h]
  rfl
theorem wrap32 {x:Int} (h:0 ≤ x ∧ x ≤ 4294967295):IntKind.wrap .u32 x = x:=by
  rw [d_i];omega
theorem or_u32 {a b:Int} (k:Nat) (hk:k ≤ 24) (ha:0 ≤ a ∧ a < 2 ^ k) (hb:0 ≤ b ∧ b ≤ 255):b_G .or .u32 a (b * 2 ^ k) = a + b * 2 ^ k:=by
  obtain ⟨m,rfl⟩:=Int.eq_ofNat_of_zero_le ha.1
  obtain ⟨n,rfl⟩:=Int.eq_ofNat_of_zero_le hb.1
  have h1:m < 2 ^ k:=by have:=ha.2;exact_mod_cast this
  have hp:(2:Nat) ^ k ≤ 2 ^ 24:=Nat.pow_le_pow_right (by decide) hk
  have hn:n ≤ 255:=by omega
  have hnk:n * 2 ^ k ≤ 255 * 2 ^ 24:=Nat.mul_le_mul hn hp
  have e:((n:Int) * 2 ^ k) = ((n * 2 ^ k:Nat):Int):=by simp
  rw [e]
  show IntKind.wrap .u32 ((BitVec.ofInt 32 (m:Int) ||| BitVec.ofInt 32 ((n * 2 ^ k:Nat):Int)).toNat:Int) = _
  simp only [BitVec.toNat_or,BitVec.ofInt_natCast,BitVec.toNat_ofNat]
  have hm2:m < 2 ^ 32:=by omega
  rw [Nat.mod_eq_of_lt hm2,Nat.mod_eq_of_lt (by omega:n * 2 ^ k < 2 ^ 32),Nat.or_comm,show n * 2 ^ k = n <<< k by rw [Nat.shiftLeft_eq],← Nat.shiftLeft_add_eq_or_of_lt h1,Nat.shiftLeft_eq,wrap32 (by omega)]
  omega
theorem d_6 {b:Int} (k:Nat) (hk:k ≤ 24) (hb:0 ≤ b ∧ b ≤ 255):shlI .u32 b (k:Int) = some (b * 2 ^ k):=by
  unfold shlI
  rw [if_pos (Int.natCast_nonneg k)]
  congr 1
  rw [Int.toNat_natCast,show min k (IntKind.bits .u32) = k from Nat.min_eq_left (Nat.le_trans hk (by decide))]
  have hp:(2:Int) ^ k ≤ 2 ^ 24:=by exact_mod_cast (Nat.pow_le_pow_right (by decide) hk:(2:Nat) ^ k ≤ 2 ^ 24)
  have hp0:(0:Int) < 2 ^ k:=Int.pow_pos (by decide)
  refine wrap32 ⟨Int.mul_nonneg hb.1 (Int.le_of_lt hp0),?_⟩
  have:=Int.mul_le_mul hb.2 hp (Int.le_of_lt hp0) (by decide)
  omega
theorem p31_ok (n:Nat) {s:Sl Int} {a b c d:Int} (h0:s.xs[0]? = some a) (h1:s.xs[1]? = some b) (h2:s.xs[2]? = some c) (h3:s.xs[3]? = some d) (ha:0 ≤ a ∧ a ≤ 255) (hb:0 ≤ b ∧ b ≤ 255) (hc:0 ≤ c ∧ c ≤ 255) (hd:0 ≤ d ∧ d ≤ 255):p31 n s = some (nmb a b c d):=by
  unfold p31
  rw [show idx s.xs 0 = some a from h0,Option.bind_some,show idx s.xs 1 = some b from h1,Option.bind_some,show shlI .u32 b 8 = some (b * 256) from d_6 8 (by decide) hb,Option.bind_some,show idx s.xs 2 = some c from h2,Option.bind_some,show shlI .u32 c 16 = some (c * 65536) from d_6 16 (by decide) hc,Option.bind_some,show idx s.xs 3 = some d from h3,Option.bind_some,show shlI .u32 d 24 = some (d * 16777216) from d_6 24 (by decide) hd,Option.bind_some]
  have e1:b_G .or .u32 a (b * 256) = a + b * 256:=or_u32 8 (by decide) (by omega) hb
  rw [e1,show b_G .or .u32 (a + b * 256) (c * 65536) = a + b * 256 + c * 65536 from or_u32 16 (by decide) (by omega) hc,show b_G .or .u32 (a + b * 256 + c * 65536) (d * 16777216) = a + b * 256 + c * 65536 + d * 16777216 from or_u32 24 (by decide) (by omega) hd]
  refine congrArg some ?_
  unfold nmb
  omega
theorem nmb_bts {t:Int} (h:InR .u32 t):nmb (t % 256) (t / 256 % 256) (t / 65536 % 256) (t / 16777216 % 256) = t:=by
  obtain ⟨h0,h1⟩:=u32b h
  unfold nmb
  omega
theorem p48_eq (n:Nat) {k:Int} (h:0 ≤ k ∧ k ≤ 1099511627776):p48_nil n k = some ⟨[],.none⟩:=by
  unfold p48_nil
  rw [if_neg (by simp;omega),show capO (⟨[],some 0⟩:Sl Int) = some 0 from rfl,Option.bind_some,show a_i (⟨[],some 0⟩:Sl Int) = 0 from rfl,b_9 (by omega),Option.bind_some,b_9 (by omega),Option.bind_some]
  by_cases hk:k > 0
  · have e1:k - (0 - 0) = k:=by omega
    rw [e1,if_pos (by simpa using hk),Option.bind_some,show cutI ([]:List Int) 0 = some [] from rfl,Option.bind_some]
    rw [show appZ ([]:List Int) k 0 = some (List.replicate k.toNat 0) by unfold appZ;rw [if_pos ⟨by omega,by simp;omega⟩];simp,Option.bind_some]
    rw [show cutI (List.replicate k.toNat (0:Int)) 0 = some [] by unfold cutI;rw [if_pos ⟨Int.le_refl 0,Int.natCast_nonneg _⟩];simp,Option.bind_some,Option.bind_some]
  · rw [if_neg (by simp;omega),Option.bind_some]
def cat:List (Sl Int) → List Int
  | []=>[]
  | s :: l=>s.xs ++ cat l
@[simp] theorem cat_nil:cat [] = []:=rfl
@[simp] theorem e_f (s:Sl Int) (l:List (Sl Int)):cat (s :: l) = s.xs ++ cat l:=rfl
theorem p35_l1_eq (n:Nat) (x:Sl (Sl Int)) (hL:x.xs.length ≤ 1000000):∀ (m k:Nat) (acc:Int),x.xs.length < k + m → k ≤ x.xs.length → 0 ≤ acc → acc + (cat (x.xs.drop k)).length ≤ 1099511627776 →
    p35_l1 n x m k acc = some (acc + (cat (x.xs.drop k)).length)
  | 0,k,acc,h,hk,_,_=>by omega
  | m + 1,k,acc,h,hk,h0,hs=>by
    unfold p35_l1
    by_cases hlt:k < x.xs.length
    · have ex:=List.drop_eq_getElem_cons hlt
      have e2:(cat (x.xs.drop k)).length = x.xs[k].xs.length + (cat (x.xs.drop (k + 1))).length:=by rw [ex,e_f,List.length_append]
      rw [if_pos (by simp [a_i];omega),d_j,List.getElem?_eq_getElem hlt,Option.bind_some,b_9 (by simp only [a_i];omega),Option.bind_some,if_neg (by rw [decide_eq_true_eq];simp only [a_i];omega),b_9 (by omega),Option.bind_some,
        show ((k:Int) + 1) = ((k + 1:Nat):Int) by simp,p35_l1_eq n x hL m (k + 1) _ (by omega) (by omega) (by simp only [a_i];omega) (by simp only [a_i];omega)]
      simp only [a_i]
      congr 1
      omega
    · rw [if_neg (by simp [a_i];omega),List.drop_eq_nil_of_le (by omega)]
      simp
theorem p35_l2_eq (n:Nat) (x:Sl (Sl Int)) (hL:x.xs.length ≤ 1000000):∀ (m k:Nat) (acc:List Int),x.xs.length < k + m → k ≤ x.xs.length → acc.length + (cat (x.xs.drop k)).length ≤ 1099511627776 →
    p35_l2 n x m k acc = some (acc ++ cat (x.xs.drop k))
  | 0,k,acc,h,hk,_=>by omega
  | m + 1,k,acc,h,hk,hs=>by
    unfold p35_l2
    by_cases hlt:k < x.xs.length
    · have ex:=List.drop_eq_getElem_cons hlt
      have e2:cat (x.xs.drop k) = x.xs[k].xs ++ cat (x.xs.drop (k + 1)):=by rw [ex,e_f]
      rw [e2,List.length_append] at hs
      rw [if_pos (by simp [a_i];omega),d_j,List.getElem?_eq_getElem hlt,Option.bind_some,c_x (by omega),Option.bind_some,b_9 (by omega),Option.bind_some,
        show ((k:Int) + 1) = ((k + 1:Nat):Int) by simp,p35_l2_eq n x hL m (k + 1) _ (by omega) (by omega) (by rw [List.length_append];omega),e2,List.append_assoc]
    · rw [if_neg (by simp [a_i];omega),List.drop_eq_nil_of_le (by omega)]
      simp
theorem p35_eq (n:Nat) (x:Sl (Sl Int)) (hL:x.xs.length < n) (hL':x.xs.length ≤ 1000000) (hs:(cat x.xs).length ≤ 1099511627776):p35 n x = some ⟨cat x.xs,.none⟩:=by
  unfold p35
  have e:p35_l1 n x n 0 0 = some (0 + ((cat (x.xs.drop 0)).length:Int)):=p35_l1_eq n x hL' n 0 0 (by omega) (by omega) (by omega) (by rw [List.drop_zero];omega)
  have e2:p35_l2 n x n 0 [] = some ([] ++ cat (x.xs.drop 0)):=p35_l2_eq n x hL' n 0 [] (by omega) (by omega) (by rw [List.drop_zero];simpa using hs)
  rw [List.drop_zero] at e e2
  rw [e,Option.bind_some,p48_eq n (by omega),Option.bind_some,e2,Option.bind_some,List.nil_append]
theorem p32_eq (n:Nat) (x:Sl Int):p32 n x = some ⟨x.xs,some x.xs.length⟩:=by
  unfold p32 sl3I
  rw [if_pos (by simp [a_i])]
  simp [a_i]
theorem p33_eq (n:Nat) (x:Sl Int) (h:x.xs.length ≤ 1000000):p33 n x = some ⟨x.xs,a_R (some 0) x.xs.length⟩:=by
  unfold p33
  rw [c_x (by simp;omega),Option.bind_some]
  simp
def Byts (l:List Int):Prop:=∀ y ∈ l,0 ≤ y ∧ y ≤ 255
theorem e_g (t:Int):Byts (bts t):=by
  intro y hy
  simp only [bts,List.mem_cons,List.not_mem_nil,or_false] at hy
  omega
def blkH (t l:Int) (i:Bool) (u k:Int):List Int:=[85,83,66,67] ++ (bts t ++ (bts l ++ [if i then 128 else 0,u,k]))
def blkB (t l:Int) (i:Bool) (u:Int) (c:List Int):List Int:=blkH t l i u (IntKind.wrap .u8 c.length) ++ c_f (List.replicate 16 0) c
def rgt (l:Int) (i:Bool) (u:Int) (c:List Int):Bool:=decide (u ≤ 15) && (decide (1 ≤ c.length) && (decide (c.length ≤ 16) && (!i || decide (l > 0))))
theorem p29_eq (n:Nat) {t l u:Int} {i:Bool} {c:List Int} {q:Option Nat}:p29 n (t,l,i,u,⟨c,q⟩) = some (rgt l i u c):=by
  have e1:decide ((c.length:Int) ≥ 1) = decide (1 ≤ c.length):=decide_eq_decide.2 (by omega)
  have e2:decide ((c.length:Int) ≤ 16) = decide (c.length ≤ 16):=decide_eq_decide.2 (by omega)
  show ((if (decide (u ≤ 15)) = true then some (decide ((c.length:Int) ≥ 1)) else some false).bind fun q_7=>(if q_7 = true then some (decide ((c.length:Int) ≤ 16)) else some false).bind fun q_11=>(if q_11 = true then (if (!i) = false then some (decide (l > 0)) else some true).bind fun q_18=>some q_18 else some false).bind fun q_15=>some q_15) = some (rgt l i u c)
  rw [e1,andK fun _=>rfl,Option.bind_some,e2,andK fun _=>rfl,Option.bind_some,orK fun _=>rfl,Option.bind_some,andK fun _=>rfl,Option.bind_some]
  unfold rgt
  cases decide (u ≤ 15) <;> cases decide (1 ≤ c.length) <;> cases decide (c.length ≤ 16) <;> rfl
theorem p8_ok (n:Nat) {t l u:Int} {i:Bool} {c:List Int} {q:Option Nat} (ht:InR .u32 t) (hl:InR .u32 l) (h:rgt l i u c = true):p8 n (t,l,i,u,⟨c,q⟩) = some (⟨blkB t l i u c,some 31⟩,0):=by
  unfold p8
  rw [p29_eq,h,Option.bind_some,p30_ok n ht,p30_ok n hl]
  cases i <;> rfl
theorem p36_eq (n:Nat) (x:Sl Int) (h:x.xs.length ≤ 1000000):p36 n x = some ⟨x.xs,a_R (some 0) x.xs.length⟩:=by
  unfold p36
  rw [c_x (by simp;omega),Option.bind_some]
  simp
section
variable {n:Nat} {t L u:Int} {i:Bool} {c out inn rest:List Int} {q qb:Option Nat} {st:Int × Int × Int} {ag bg:Bool} {e d g:Int}
theorem p18_nil:p18 n (⟨[],q⟩,(t,L,i,u,⟨c,qb⟩),out,inn,st,ag,bg,e) = some ((0,⟨[],some 0⟩,0),false):=rfl
theorem p18_0 (ht:InR .u32 t) (hL:InR .u32 L) (hr:rgt L i u c = true):p18 n (⟨0 :: rest,q⟩,(t,L,i,u,⟨c,qb⟩),out,inn,st,ag,bg,e) = some ((0,⟨blkB t L i u c,some 31⟩,0),true):=by
  unfold p18
  rw [if_neg (by simp [a_i];omega),show idx ((⟨0 :: rest,q⟩:Sl Int),(t,L,i,u,(⟨c,qb⟩:Sl Int)),out,inn,st,ag,bg,e).1.xs 0 = some 0 from rfl,Option.bind_some,if_pos (show ((0:Int) == 0) = true from rfl),p8_ok n ht hL hr]
  rfl
theorem p18_1:p18 n (⟨1 :: rest,q⟩,(t,L,i,u,⟨c,qb⟩),out,inn,st,ag,bg,e) = some ((1,⟨out,some out.length⟩,0),true):=by
  unfold p18
  rw [if_neg (by simp [a_i];omega),show idx ((⟨1 :: rest,q⟩:Sl Int),(t,L,i,u,(⟨c,qb⟩:Sl Int)),out,inn,st,ag,bg,e).1.xs 0 = some 1 from rfl,Option.bind_some,if_neg (by decide),if_pos (show ((1:Int) == 1) = true from rfl),p32_eq]
  rfl
theorem p18_2:p18 n (⟨2 :: rest,q⟩,(t,L,i,u,⟨c,qb⟩),out,inn,st,ag,bg,e) = some ((2,⟨[],some 0⟩,L),true):=by
  unfold p18
  rw [if_neg (by simp [a_i];omega)]
  rfl
theorem p18_3:p18 n (⟨3 :: rest,q⟩,(t,L,i,u,⟨c,qb⟩),out,inn,st,ag,bg,e) = some ((3,⟨[],some 0⟩,13),true):=by
  unfold p18
  rw [if_neg (by simp [a_i];omega)]
  rfl
theorem p18_4 (hd:d = 4 ∨ d = 5 ∨ d = 6):p18 n (⟨d :: rest,q⟩,(t,L,i,u,⟨c,qb⟩),out,inn,st,ag,bg,e) = some ((d,⟨[],some 0⟩,0),true):=by
  unfold p18
  rw [if_neg (by simp [a_i];omega)]
  rcases hd with rfl | rfl | rfl <;> rfl
theorem sl_tail:slI (⟨d :: rest,q⟩:Sl Int) 1 (a_i (⟨d :: rest,q⟩:Sl Int)) = some ⟨rest,q.map (· - 1)⟩:=by
  unfold slI a_i
  rw [if_pos (by simp;omega)]
  refine congrArg some ?_
  simp
theorem p19_nil {x:Sl Int}:p19 n (⟨[],q⟩,(t,L,i,u,⟨c,qb⟩),out,inn,st,ag,bg,e) g x = some (⟨[],q⟩,(t,L,i,u,⟨c,qb⟩),out,inn,st,ag,bg,e):=rfl
theorem p19_mid {x:Sl Int} {dt:Sl Int} {len:Int} (hl:rest.length ≤ 1000000) (h18:p18 n (⟨d :: rest,q⟩,(t,L,i,u,⟨c,qb⟩),out,inn,st,ag,bg,e) = some ((d,dt,len),true)) :
    p19 n (⟨d :: rest,q⟩,(t,L,i,u,⟨c,qb⟩),out,inn,st,ag,bg,e) g x = (if (g != 0) = true then (if (g != 12) = false then some (decide (d ≥ 4)) else some true).bind fun q_58=>some q_58 else some false).bind fun q_57=>if q_57 then ((p40 n (⟨rest,a_R (some 0) rest.length⟩,(t,L,i,u,⟨c,qb⟩),out,inn,st,ag,bg,e) g).bind fun t_63=>some t_63) else if (decide (d ≥ 4)) then some (⟨rest,a_R (some 0) rest.length⟩,(t,L,i,u,⟨c,qb⟩),out,inn,st,ag,bg,e) else (if (d == 1) then (some (⟨[],some 0⟩)) else some x).bind fun (j_84:Sl Int)=>if d = 0 then (((slI j_84 0 (if len < (a_i j_84) then len else a_i j_84)).bind fun s_104=>(p37 n (⟨rest,a_R (some 0) rest.length⟩,(t,L,i,u,⟨c,qb⟩),out,inn,st,ag,bg,e) g s_104).bind fun t_105=>some t_105).bind fun j=>some j) else if d = 1 then (((slI j_84 0 (if len < (a_i j_84) then len else a_i j_84)).bind fun s_104=>(p38 n (⟨rest,a_R (some 0) rest.length⟩,(t,L,i,u,⟨c,qb⟩),out,inn,st,ag,bg,e) g s_104).bind fun t_105=>some t_105).bind fun j=>some j) else if d = 2 then (((slI j_84 0 (if len < (a_i j_84) then len else a_i j_84)).bind fun s_104=>(p38 n (⟨rest,a_R (some 0) rest.length⟩,(t,L,i,u,⟨c,qb⟩),out,inn,st,ag,bg,e) g s_104).bind fun t_105=>some t_105).bind fun j=>some j) else if d = 3 then (((slI j_84 0 (if len < (a_i j_84) then len else a_i j_84)).bind fun s_104=>(p39 n (⟨rest,a_R (some 0) rest.length⟩,(t,L,i,u,⟨c,qb⟩),out,inn,st,ag,bg,e) g s_104).bind fun t_105=>some t_105).bind fun j=>some j) else .none:=by
  unfold p19
  rw [h18,Option.bind_some,if_neg (by simp),sl_tail,Option.bind_some,p36_eq n _ hl,Option.bind_some]
theorem p19_fail {x:Sl Int} {dt:Sl Int} {len:Int} (hl:rest.length ≤ 1000000) (h18:p18 n (⟨d :: rest,q⟩,(t,L,i,u,⟨c,qb⟩),out,inn,st,ag,bg,e) = some ((d,dt,len),true)) (hg:g ≠ 0) (hg2:g ≠ 12 ∨ d ≥ 4) :
    p19 n (⟨d :: rest,q⟩,(t,L,i,u,⟨c,qb⟩),out,inn,st,ag,bg,e) g x = some (⟨[],some 0⟩,(t,L,i,u,⟨c,qb⟩),out,inn,st,ag,bg,g):=by
  rw [p19_mid hl h18,if_pos (by simpa using hg)]
  by_cases h12:g = 12
  · subst h12
    have hd:d ≥ 4:=hg2.resolve_left (fun h=>h rfl)
    rw [if_pos (by decide),decide_eq_true hd]
    rfl
  · rw [if_neg (by simpa using h12)]
    rfl
theorem p19_clear {x:Sl Int} (hl:rest.length ≤ 1000000) (hd:d = 4 ∨ d = 5 ∨ d = 6) :
    p19 n (⟨d :: rest,q⟩,(t,L,i,u,⟨c,qb⟩),out,inn,st,ag,bg,e) 0 x = some (⟨rest,a_R (some 0) rest.length⟩,(t,L,i,u,⟨c,qb⟩),out,inn,st,ag,bg,e):=by
  rw [p19_mid hl (p18_4 hd),if_neg (by decide),Option.bind_some,if_neg (by decide),if_pos (by rcases hd with rfl | rfl | rfl <;> decide)]
def d_A (x:List Int) (L:Int):List Int:=x.take (if L < (x.length:Int) then L else (x.length:Int)).toNat
theorem d_c {x:Sl Int} (hL:0 ≤ L):slI x 0 (if L < a_i x then L else a_i x) = some ⟨d_A x.xs L,x.cap.map (· - 0)⟩:=by
  unfold slI a_i d_A
  have h:0 ≤ (if L < (x.xs.length:Int) then L else (x.xs.length:Int)) ∧ (if L < (x.xs.length:Int) then L else (x.xs.length:Int)) ≤ x.xs.length:=by split <;> omega
  rw [if_pos ⟨Int.le_refl 0,h.1,h.2⟩]
  rfl
theorem p19_0 {x:Sl Int} (hl:rest.length ≤ 1000000) (ht:InR .u32 t) (hL:InR .u32 L) (hr:rgt L i u c = true) (hg:g = 0 ∨ g = 12) :
    ∃ q',p19 n (⟨0 :: rest,q⟩,(t,L,i,u,⟨c,qb⟩),out,inn,st,ag,bg,e) g x = some (if g = 12 then (⟨[6,4,5],q'⟩,(t,L,i,u,⟨c,qb⟩),out,inn,st,ag,bg,g) else (⟨rest,q'⟩,(t,L,i,u,⟨c,qb⟩),out,inn,st,ag,bg,e)):=by
  have e0:=d_c (L:=0) (x:=x) (by decide)
  rw [p19_mid hl (p18_0 ht hL hr)]
  rcases hg with rfl | rfl
  · refine ⟨a_R (some 0) rest.length,?_⟩
    simp [e0,p37]
  · refine ⟨some 3,?_⟩
    simp [e0,p37,p49]
theorem p19_1 {x:Sl Int} (hl:rest.length ≤ 1000000) (hg:g = 0 ∨ g = 12) :
    ∃ q',p19 n (⟨1 :: rest,q⟩,(t,L,i,u,⟨c,qb⟩),out,inn,st,ag,bg,e) g x = some (if g = 12 then (⟨(if i then 4 else 5) :: rest,q'⟩,(t,L,i,u,⟨c,qb⟩),out,[],st,ag,bg,e) else (⟨rest,q'⟩,(t,L,i,u,⟨c,qb⟩),out,[],st,ag,bg,e)):=by
  have e0:=d_c (L:=0) (x:=⟨[],some 0⟩) (by decide)
  have ea:∀ z:Int,c_h [z] rest = some (z :: rest):=fun z=>c_x (by simp;omega)
  have ec:d_A [] 0 = []:=rfl
  rw [p19_mid hl p18_1]
  rcases hg with rfl | rfl
  · refine ⟨a_R (some 0) rest.length,?_⟩
    cases i <;> simp [e0,p38,ec]
  · refine ⟨a_R (some 1) (rest.length + 1),?_⟩
    cases i <;> simp [e0,p38,ea,ec]
theorem p19_2 {x:Sl Int} (hL0:0 ≤ L) (hl:rest.length ≤ 1000000) (hg:g = 0 ∨ g = 12) :
    ∃ q',p19 n (⟨2 :: rest,q⟩,(t,L,i,u,⟨c,qb⟩),out,inn,st,ag,bg,e) g x = some (if g = 12 then (⟨(if i then 4 else 5) :: rest,q'⟩,(t,L,i,u,⟨c,qb⟩),out,d_A x.xs L,st,ag,bg,e) else (⟨rest,q'⟩,(t,L,i,u,⟨c,qb⟩),out,d_A x.xs L,st,ag,bg,e)):=by
  have e0:=d_c (L:=L) (x:=x) hL0
  have ea:∀ z:Int,c_h [z] rest = some (z :: rest):=fun z=>c_x (by simp;omega)
  rw [p19_mid hl p18_2]
  rcases hg with rfl | rfl
  · refine ⟨a_R (some 0) rest.length,?_⟩
    cases i <;> simp [e0,p38]
  · refine ⟨a_R (some 1) (rest.length + 1),?_⟩
    cases i <;> simp [e0,p38,ea]
theorem p19_3s {x:Sl Int} (hl:rest.length ≤ 1000000) :
    ∃ q',p19 n (⟨3 :: rest,q⟩,(t,L,i,u,⟨c,qb⟩),out,inn,st,ag,bg,e) 12 x = some (if ag then (⟨[6,4,5],q'⟩,(t,L,i,u,⟨c,qb⟩),out,inn,st,true,bg,12) else (⟨[4,3],q'⟩,(t,L,i,u,⟨c,qb⟩),out,inn,st,true,bg,e)):=by
  have e0:=d_c (L:=13) (x:=x) (by decide)
  rw [p19_mid hl p18_3]
  cases ag
  · refine ⟨some 2,?_⟩
    simp [e0,p39]
  · refine ⟨some 3,?_⟩
    simp [e0,p39,p49]
theorem p19_3 {x:Sl Int} {s:Int × Int × Int} {f:Int} (hl:rest.length ≤ 1000000) (hx:x.xs.length ≤ 13) (h13:∀ q0,p13 n ⟨x.xs,q0⟩ = some (s,f)) :
    ∃ q',p19 n (⟨3 :: rest,q⟩,(t,L,i,u,⟨c,qb⟩),out,inn,st,ag,bg,e) 0 x = some (if f ≠ 0 ∨ s.1 ≠ t ∨ s.2.1 > L then (⟨[6,4,5],q'⟩,(t,L,i,u,⟨c,qb⟩),out,inn,st,ag,bg,19) else if s.2.2 = 2 then (⟨[6,4,5],q'⟩,(t,L,i,u,⟨c,qb⟩),out,inn,st,ag,bg,6) else (⟨rest,q'⟩,(t,L,i,u,⟨c,qb⟩),out,inn,s,ag,bg,e)):=by
  have e0:=d_c (L:=13) (x:=x) (by decide)
  have ec:d_A x.xs 13 = x.xs:=by
    unfold d_A
    apply List.take_of_length_le
    split <;> omega
  rw [ec] at e0
  rw [p19_mid hl p18_3]
  by_cases h1:f = 0 <;> by_cases h2:s.1 = t <;> by_cases h3:s.2.1 > L <;> by_cases h4:s.2.2 = 2 <;> first
    | (refine ⟨some 3,?_⟩;simp [e0,p39,h13,p49,h1,h2,h3,h4];done)
    | (refine ⟨a_R (some 0) rest.length,?_⟩;simp [e0,p39,h13,p49,h1,h2,h3,h4];done)
end
end Go.Proofs.Ytlbaijkolglheaa
