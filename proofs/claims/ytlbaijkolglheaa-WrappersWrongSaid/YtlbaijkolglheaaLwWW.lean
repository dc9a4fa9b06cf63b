/- WrappersWrong in plain words. Plain theorems, no condition. -/
import Derived.Test.YtlbaijkolglheaaWR9
import Derived.Test.YtlbaijkolglheaaLB2
import Derived.Test.YtlbaijkolglheaaPw2
set_option linter.unusedVariables false
set_option linter.unusedSimpArgs false
namespace Go.Proofs.Ytlbaijkolglheaa
open Go.RowKit
def pat100:List Int:=[0,7,14,21,28,35,42,49,56,63,70,77,84,91,98,105,112,119,126,133,140,147,154,161,168,175,182,189,196,203,210,217,224,231,238,245,252,3,10,17,24,31,38,45,52,59,66,73,80,87,94,101,108,115,122,129,136,143,150,157,164,171,178,185,192,199,206,213,220,227,234,241,248,255,6,13,20,27,34,41,48,55,62,69,76,83,90,97,104,111,118,125,132,139,146,153,160,167,174,181]
abbrev Dev:=Int × (Int × Int × Bool × Int × Sl Int) × (Int × Int × Int) × Int × Int × Int × Sl Int × Bool × Bool × Int × Bool × Bool
abbrev Tgt:=(Int × Int × Int × Bool) × Int × Sl Int
def dv0:Dev:=(0,(0,0,false,0,⟨[],some 0⟩),(0,0,0),0,0,0,⟨[],some 0⟩,false,false,64,false,false)
def dv1:Dev:=(0,(5,100,false,0,⟨[42],some 1⟩),(5,0,0),0,100,0,⟨[],some 0⟩,false,true,64,false,false)
def tg0:Tgt:=((2,100,0,false),0,⟨[],some 0⟩)
def tgk (k:Int):Tgt:=((2,100,0,false),k,⟨pat100,.none⟩)
def gud:Sl Int:=⟨[85,83,66,67,9,0,0,0,100,0,0,0,0,0,1,42,0,0,0,0,0,0,0,0,0,0,0,0,0,0,0],some 31⟩
def hlt (d:Dev):Dev:=(3,d.2.1,d.2.2.1,d.2.2.2.1,d.2.2.2.2.1,d.2.2.2.2.2.1,d.2.2.2.2.2.2.1,d.2.2.2.2.2.2.2.1,d.2.2.2.2.2.2.2.2.1,d.2.2.2.2.2.2.2.2.2.1,true,true)
theorem p42_bad {n:Nat} {d:Dev} {R:List Int} {T:Tgt} {x:Sl Int} {b:Int × Int × Bool × Int × Sl Int} {f:Int} (h:p11 n x = some (b,f)) (hb:f ≠ 0 ∨ b.2.2.2.1 ≠ 0):p42 n d R T x = some (hlt d,R,T):=by
  unfold p42
  rw [h,Option.bind_some]
  dsimp only
  by_cases h0:f = 0
  · rw [if_pos (by simp [h0]),Option.bind_some,if_pos (by simpa using hb.resolve_left (fun h=>h h0))]
    rfl
  · rw [if_neg (by simpa using h0),Option.bind_some,if_pos rfl]
    rfl
theorem p23_bad0 {R:List Int} {T:Tgt} {x:Sl Int} (h:p42 200 dv0 R T x = some (hlt dv0,R,T)):p23 200 dv0 R T x = some (true,hlt dv0,R,T):=by
  unfold p23
  rw [if_pos (show dv0.2.2.2.2.2.2.2.2.2.2.2 = false from rfl),Option.bind_some,if_pos (show ((dv0.1 == 2) = false) from rfl),Option.bind_some,if_neg (show ¬ (dv0.1 == 3) = true by decide),if_pos (show (dv0.1 == 0) = true from rfl)]
  rw [show p42 200 (dv0.1,dv0.2.1,dv0.2.2.1,dv0.2.2.2.1,dv0.2.2.2.2.1,dv0.2.2.2.2.2.1,dv0.2.2.2.2.2.2.1,dv0.2.2.2.2.2.2.2.1,dv0.2.2.2.2.2.2.2.2.1,dv0.2.2.2.2.2.2.2.2.2.1,dv0.2.2.2.2.2.2.2.2.2.2.1,dv0.2.2.2.2.2.2.2.2.2.2.2) R T x = some (hlt dv0,R,T) from h]
  rfl
theorem p23_bad1 {R:List Int} {T:Tgt} {x:Sl Int} (h:p42 200 dv1 R T x = some (hlt dv1,R,T)):p23 200 dv1 R T x = some (true,hlt dv1,R,T):=by
  unfold p23
  rw [if_pos (show dv1.2.2.2.2.2.2.2.2.2.2.2 = false from rfl),Option.bind_some,if_pos (show ((dv1.1 == 2) = false) from rfl),Option.bind_some,if_neg (show ¬ (dv1.1 == 3) = true by decide),if_pos (show (dv1.1 == 0) = true from rfl)]
  rw [show p42 200 (dv1.1,dv1.2.1,dv1.2.2.1,dv1.2.2.2.1,dv1.2.2.2.2.1,dv1.2.2.2.2.2.1,dv1.2.2.2.2.2.2.1,dv1.2.2.2.2.2.2.2.1,dv1.2.2.2.2.2.2.2.2.1,dv1.2.2.2.2.2.2.2.2.2.1,dv1.2.2.2.2.2.2.2.2.2.2.1,dv1.2.2.2.2.2.2.2.2.2.2.2) R T x = some (hlt dv1,R,T) from h]
  rfl
theorem round0 (m:Nat) {raw one:Sl Int} {x2:Int} (h:p23 200 dv0 [] tg0 raw = some (true,hlt dv0,[],tg0)):p6_l1 200 raw x2 (m + 1) 0 gud one [] tg0 dv0 = p6_l1 200 raw x2 m 1 gud one pat100 (tgk 1) dv1:=by
  rw [p6_l1,if_pos (by decide),show idx (⟨[raw,one,gud],some 3⟩:Sl (Sl Int)).xs 0 = some raw from rfl,Option.bind_some]
  rw [show p23 200 (dv0.1,dv0.2.1,dv0.2.2.1,dv0.2.2.2.1,dv0.2.2.2.2.1,dv0.2.2.2.2.2.1,dv0.2.2.2.2.2.2.1,dv0.2.2.2.2.2.2.2.1,dv0.2.2.2.2.2.2.2.2.1,dv0.2.2.2.2.2.2.2.2.2.1,dv0.2.2.2.2.2.2.2.2.2.2.1,dv0.2.2.2.2.2.2.2.2.2.2.2) [] tg0 raw = some (true,hlt dv0,[],tg0) from h,Option.bind_some]
  kernel_rfl
theorem round1 (m:Nat) {raw one:Sl Int} {x2:Int} (h:p23 200 dv1 pat100 (tgk 1) one = some (true,hlt dv1,pat100,tgk 1)):p6_l1 200 raw x2 (m + 1) 1 gud one pat100 (tgk 1) dv1 = p6_l1 200 raw x2 m 2 gud one pat100 (tgk 2) dv1:=by
  rw [p6_l1,if_pos (by decide),show idx (⟨[raw,one,gud],some 3⟩:Sl (Sl Int)).xs 1 = some one from rfl,Option.bind_some]
  rw [show p23 200 (dv1.1,dv1.2.1,dv1.2.2.1,dv1.2.2.2.1,dv1.2.2.2.2.1,dv1.2.2.2.2.2.1,dv1.2.2.2.2.2.2.1,dv1.2.2.2.2.2.2.2.1,dv1.2.2.2.2.2.2.2.2.1,dv1.2.2.2.2.2.2.2.2.2.1,dv1.2.2.2.2.2.2.2.2.2.2.1,dv1.2.2.2.2.2.2.2.2.2.2.2) pat100 (tgk 1) one = some (true,hlt dv1,pat100,tgk 1) from h,Option.bind_some]
  kernel_rfl
def dvd:Dev:=(1,(9,100,false,0,⟨[42],some 1⟩),(9,100,0),100,0,0,⟨[],some 0⟩,false,false,64,false,false)
theorem p23_good:p23 200 dv1 pat100 (tgk 2) gud = some (true,dvd,[],tgk 2):=by kernel_rfl
theorem p23_short {x:Sl Int} (h:a_j x < 64):p23 200 dvd [] (tgk 2) x = some (true,hlt dvd,[],tgk 2):=by
  unfold p23
  rw [if_pos (show dvd.2.2.2.2.2.2.2.2.2.2.2 = false from rfl),Option.bind_some,if_pos (show ((dvd.1 == 2) = false) from rfl),Option.bind_some,if_neg (show ¬ (dvd.1 == 3) = true by decide),if_neg (show ¬ (dvd.1 == 0) = true by decide)]
  rw [if_pos (show decide (a_j x < dvd.2.2.2.2.2.2.2.2.2.1) = true from decide_eq_true h),Option.bind_some,if_pos (show decide (a_j x < dvd.2.2.2.1) = true from decide_eq_true (Int.lt_trans h (by decide)))]
  rfl
theorem round2 (m:Nat) {raw one:Sl Int} {x2:Int} (hx:0 ≤ x2 ∧ x2 ≤ 255):p6_l1 200 raw x2 (m + 1) 2 gud one pat100 (tgk 2) dv1 = p6_l1 200 raw x2 m 3 gud one pat100 (tgk 3) dv1:=by
  have e1:d_V .u8 x2 64 = some (x2 % 64):=by
    unfold d_V
    rw [if_neg (by decide),Int.tmod_eq_emod_of_nonneg hx.1]
    unfold ckI
    rw [if_pos (by simp only [IntKind.min,IntKind.max,IntKind.signed,IntKind.bits];simp;omega)]
  have e2:=mkI_ok (m:=x2 % 64) (c:=x2 % 64) (by omega) (Int.le_refl _) (by omega)
  have e3:=p23_short (x:=⟨List.replicate (x2 % 64).toNat 0,some (x2 % 64).toNat⟩) (by simp only [a_j,List.length_replicate];omega)
  rw [p6_l1,if_pos (by decide),show idx (⟨[raw,one,gud],some 3⟩:Sl (Sl Int)).xs 2 = some gud from rfl,Option.bind_some]
  rw [show p23 200 (dv1.1,dv1.2.1,dv1.2.2.1,dv1.2.2.2.1,dv1.2.2.2.2.1,dv1.2.2.2.2.2.1,dv1.2.2.2.2.2.2.1,dv1.2.2.2.2.2.2.2.1,dv1.2.2.2.2.2.2.2.2.1,dv1.2.2.2.2.2.2.2.2.2.1,dv1.2.2.2.2.2.2.2.2.2.2.1,dv1.2.2.2.2.2.2.2.2.2.2.2) pat100 (tgk 2) gud = some (true,dvd,[],tgk 2) from p23_good,Option.bind_some,if_neg (by decide),if_pos (by decide),e1,Option.bind_some,e2,Option.bind_some]
  dsimp only
  rw [show p23 200 (dvd.1,dvd.2.1,dvd.2.2.1,dvd.2.2.2.1,dvd.2.2.2.2.1,dvd.2.2.2.2.2.1,dvd.2.2.2.2.2.2.1,dvd.2.2.2.2.2.2.2.1,dvd.2.2.2.2.2.2.2.2.1,dvd.2.2.2.2.2.2.2.2.2.1,dvd.2.2.2.2.2.2.2.2.2.2.1,dvd.2.2.2.2.2.2.2.2.2.2.2) [] (tgk 2) ⟨List.replicate (x2 % 64).toNat 0,some (x2 % 64).toNat⟩ = some (true,hlt dvd,[],tgk 2) from e3,Option.bind_some]
  show _ = p6_l1 200 raw x2 m 3 gud one pat100 (tgk 3) dv1
  kernel_rfl
theorem round3 (m:Nat) {raw one:Sl Int} {x2:Int}:p6_l1 200 raw x2 (m + 1) 3 gud one pat100 (tgk 3) dv1 = some (.inl (gud,pat100,tgk 3,dv1)):=by
  rw [p6_l1,if_neg (by decide)]
theorem p22_is {x:Int}:p22 200 x = if x = 32 ∨ x = 64 then some (some (0,(0,0,false,0,⟨[],some 0⟩),(0,0,0),0,0,0,⟨[],some 0⟩,false,false,x,false,false),0) else if x = 512 then p22 200 512 else some (.none,1):=by
  by_cases h1:x = 32
  · subst h1;kernel_rfl
  by_cases h2:x = 64
  · subst h2;kernel_rfl
  by_cases h3:x = 512
  · subst h3;rfl
  rw [if_neg (by simp [h1,h2]),if_neg h3]
  have b1:(x == 32) = false:=by simpa using h1
  have b2:(x == 64) = false:=by simpa using h2
  have b3:(x == 512) = false:=by simpa using h3
  have e:p41 200 (⟨[32,64,512],some 3⟩:Sl Int) x = some false:=by
    unfold p41 p50
    rw [p50_l1,if_pos (by decide),show idx (⟨[32,64,512],some 3⟩:Sl Int).xs 0 = some 32 from rfl,Option.bind_some,b1,b_K,show ckI .i64 (0 + 1) = some 1 from rfl,Option.bind_some]
    rw [p50_l1,if_pos (by decide),show idx (⟨[32,64,512],some 3⟩:Sl Int).xs 1 = some 64 from rfl,Option.bind_some,b2,b_K,show ckI .i64 (1 + 1) = some 2 from rfl,Option.bind_some]
    rw [p50_l1,if_pos (by decide),show idx (⟨[32,64,512],some 3⟩:Sl Int).xs 2 = some 512 from rfl,Option.bind_some,b3,b_K,show ckI .i64 (2 + 1) = some 3 from rfl,Option.bind_some]
    rfl
  unfold p22
  rw [e]
  rfl
def oneU (u:Int):Sl Int:=⟨[85,83,66,67,9,0,0,0,100,0,0,0,0,u,1,42,0,0,0,0,0,0,0,0,0,0,0,0,0,0,0],some 31⟩
theorem one_is {u:Int} (h:1 ≤ u ∧ u ≤ 15):p8 200 (9,100,false,IntKind.wrap .u8 u,⟨[42],some 1⟩) = some (oneU u,0) ∧ p11 200 (oneU u) = some ((9,100,false,u,⟨[42],some 1⟩),0):=by
  have hk:u = 1 ∨ u = 2 ∨ u = 3 ∨ u = 4 ∨ u = 5 ∨ u = 6 ∨ u = 7 ∨ u = 8 ∨ u = 9 ∨ u = 10 ∨ u = 11 ∨ u = 12 ∨ u = 13 ∨ u = 14 ∨ u = 15:=by omega
  rcases hk with rfl | rfl | rfl | rfl | rfl | rfl | rfl | rfl | rfl | rfl | rfl | rfl | rfl | rfl | rfl <;> exact ⟨by kernel_rfl,by kernel_rfl⟩
theorem gud_is:p8 200 (9,100,false,0,⟨[42],some 1⟩) = some (gud,0):=by kernel_rfl
theorem d0_is:p22 200 64 = some (some dv0,0):=by kernel_rfl
theorem p6_law {x0:Sl Int} {x1 x2:Int} (F0:Fine (.sl (.int .u8)) x0) (G1:InR .u8 x1) (G2:InR .u8 x2):p6 200 x0 x1 x2 = some true:=by
  have h1:=inR_u8.1 G1
  have h2:=inR_u8.1 G2
  have hB:Byts x0.xs:=fun y hy=>inR_u8.1 (F0.2.2 y hy)
  unfold p6
  by_cases h6:a_j x0 > 600
  · rw [if_pos (decide_eq_true h6),p7_ok];rfl
  rw [if_neg (by simpa using h6),d0_is,Option.bind_some]
  dsimp only [optK]
  obtain ⟨b,f,e11⟩:∃ b f,p11 200 x0 = some (b,f):=by
    rcases p11_spec 200 (by decide) (l:=x0.xs) (q:=x0.cap) hB with h | ⟨t,k,i,u,c,h,_⟩
    · exact ⟨_,_,h⟩
    · exact ⟨_,_,h⟩
  rw [e11,Option.bind_some]
  by_cases hb:f = 0 ∧ b.2.2.2.1 = 0
  · rw [if_pos (show ((0:Int) != 0) = false from rfl),if_pos (show (f == 0) = true by simp [hb.1]),Option.bind_some,Option.bind_some,if_pos (by simp [hb.2]),if_pos (by decide),p7_ok]
    rfl
  have hb':f ≠ 0 ∨ b.2.2.2.1 ≠ 0:=by
    by_cases hf:f = 0
    · exact .inr fun h=>hb ⟨hf,h⟩
    · exact .inl hf
  have hq:((if ((0:Int) != 0) = false then (if (f == 0) = true then some (b.2.2.2.1 == 0) else some false).bind fun q=>some q else some true)) = some false:=by
    rw [if_pos (show ((0:Int) != 0) = false from rfl)]
    by_cases hf:f = 0
    · have:b.2.2.2.1 ≠ 0:=hb'.resolve_left fun h=>h hf
      simp [hf,this]
    · simp [hf]
  have e15:d_V .u8 x1 15 = some (x1 % 15):=by
    unfold d_V
    rw [if_neg (by decide),Int.tmod_eq_emod_of_nonneg h1.1]
    unfold ckI
    rw [if_pos (by simp only [IntKind.min,IntKind.max,IntKind.signed,IntKind.bits];simp;omega)]
  obtain ⟨e8,e9⟩:=one_is (u:=1 + x1 % 15) (by omega)
  have hl:p6_l1 200 x0 x2 200 0 gud (oneU (1 + x1 % 15)) [] tg0 dv0 = some (.inl (gud,pat100,tgk 3,dv1)) :=
    (round0 199 (p23_bad0 (p42_bad e11 hb'))).trans ((round1 198 (p23_bad1 (p42_bad e9 (.inr (by show 1 + x1 % 15 ≠ 0;omega))))).trans ((round2 197 h2).trans (round3 196)))
  refine Eq.trans (congrArg (fun o=>Option.bind o _) hq) ?_
  rw [Option.bind_some,b_K,e15,Option.bind_some,e8,Option.bind_some,gud_is,Option.bind_some]
  refine Eq.trans (congrArg (fun o=>Option.bind o _) hl) ?_
  by_cases a1:x2 = 32
  · subst a1;show _ = some true;kernel_rfl
  by_cases a2:x2 = 64
  · subst a2;show _ = some true;kernel_rfl
  have e22:p22 200 x2 = some (.none,1):=by rw [p22_is,if_neg (by simp [a1,a2]),if_neg (by omega)]
  have b1:(x2 == 32) = false:=by simpa using a1
  have b2:(x2 == 64) = false:=by simpa using a2
  rw [e22,b1,b2]
  show _ = some true
  kernel_rfl
end Go.Proofs.Ytlbaijkolglheaa
