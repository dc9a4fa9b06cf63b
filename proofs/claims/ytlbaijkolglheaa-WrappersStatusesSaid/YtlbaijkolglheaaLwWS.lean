/- WrappersStatuses in plain words. Plain theorems, no condition. -/
import Derived.Test.YtlbaijkolglheaaWR9
import Derived.Test.YtlbaijkolglheaaLB2
import Derived.Test.YtlbaijkolglheaaPs1
set_option linter.unusedVariables false
set_option linter.unusedSimpArgs false
namespace Go.Proofs.Ytlbaijkolglheaa
open Go.RowKit
theorem bytF {x:Sl Int} (F:Fine (.sl (.int .u8)) x):Byts x.xs:=fun y hy=>inR_u8.1 (F.2.2 y hy)
def stB (t r k:Int):List Int:=[85,83,66,83] ++ (bts t ++ (bts r ++ [k]))
theorem p12_bad (n:Nat) {t r k:Int} (h:k > 2):p12 n (t,r,k) = some (⟨[],some 0⟩,1):=by
  unfold p12
  rw [if_pos (by simpa using h)]
theorem p12_ok (n:Nat) (hn:4 < n) {t r k:Int} (ht:InR .u32 t) (hr:InR .u32 r) (h:¬ k > 2):p12 n (t,r,k) = some (⟨stB t r k,some 13⟩,0):=by
  unfold p12
  rw [if_neg (by simpa using h),p30_ok n ht,Option.bind_some,p30_ok n hr,Option.bind_some,p35_eq n _ (by simpa using hn) (by simp) (by simp [bts]),Option.bind_some,p32_eq,Option.bind_some]
  rfl
theorem len13 {l:List Int} (h:l.length = 13):∃ a0 a1 a2 a3 a4 a5 a6 a7 a8 a9 b0 b1 b2,l = [a0,a1,a2,a3,a4,a5,a6,a7,a8,a9,b0,b1,b2]:=by
  match l,h with
  | [a0,a1,a2,a3,a4,a5,a6,a7,a8,a9,b0,b1,b2],_=>exact ⟨a0,a1,a2,a3,a4,a5,a6,a7,a8,a9,b0,b1,b2,rfl⟩
theorem p13_ok (n:Nat) {a b c d e f g h r:Int} (q:Option Nat) (ha:0 ≤ a ∧ a ≤ 255) (hb:0 ≤ b ∧ b ≤ 255) (hc:0 ≤ c ∧ c ≤ 255) (hd:0 ≤ d ∧ d ≤ 255) (he:0 ≤ e ∧ e ≤ 255) (hf:0 ≤ f ∧ f ≤ 255) (hg:0 ≤ g ∧ g ≤ 255) (hh:0 ≤ h ∧ h ≤ 255) (hr:¬ r > 2) :
    p13 n ⟨[85,83,66,83,a,b,c,d,e,f,g,h,r],q⟩ = some ((nmb a b c d,nmb e f g h,r),0):=by
  have e1:=p31_ok n (s:=⟨[a,b,c,d],q.map (· - 4)⟩) rfl rfl rfl rfl ha hb hc hd
  have e2:=p31_ok n (s:=⟨[e,f,g,h],q.map (· - 8)⟩) rfl rfl rfl rfl he hf hg hh
  have h2:¬ 2 < r:=by omega
  simp [p13,a_j,slI,idx,e1,e2,h2]
theorem p13_len (n:Nat) {x:Sl Int} (h:x.xs.length ≠ 13):p13 n x = some ((0,0,0),4):=by
  have h2:((x.xs.length:Int) = 13) = False:=eq_false (by omega)
  simp [p13,a_j,h2]
theorem p13_head (n:Nat) {a0 a1 a2 a3 a4 a5 a6 a7 a8 a9 b0 b1 b2:Int} (q:Option Nat) (h:¬ [a0,a1,a2,a3] = [85,83,66,83]):p13 n ⟨[a0,a1,a2,a3,a4,a5,a6,a7,a8,a9,b0,b1,b2],q⟩ = some ((0,0,0),4):=by
  have h2:(a0 = 85 ∧ a1 = 83 ∧ a2 = 66 ∧ a3 = 83) = False:=eq_false (by simpa using h)
  simp [p13,a_j,slI,idx,h2]
theorem p13_kind (n:Nat) {a4 a5 a6 a7 a8 a9 b0 b1 b2:Int} (q:Option Nat) (h:b2 > 2):p13 n ⟨[85,83,66,83,a4,a5,a6,a7,a8,a9,b0,b1,b2],q⟩ = some ((0,0,0),4):=by
  have h2:2 < b2:=by omega
  simp [p13,a_j,slI,idx,h2]
theorem p4_first {n:Nat} (hn:4 < n) {t r k:Int} (ht:InR .u32 t) (hr:InR .u32 r)   :
    ((p12 n (t,r,k)).bind fun t_13=>(if (decide (k > 2)) then ((if (t_13.2 != 1) = false then some ((a_j t_13.1) != 0) else some true).bind fun q_411=>if q_411 then (some (.inr false):Option (Unit ⊕ Bool)) else some (.inl ())) else (p13 n t_13.1).bind fun t_413=>(if (t_13.2 != 0) = false then (p10 n t).bind fun t_430=>(d_v ([85,83,66,83]) t_430).bind fun s_435=>(p10 n r).bind fun t_438=>(d_v s_435 t_438).bind fun s_443=>(d_v s_443 ((⟨[k],some 1⟩:Sl (Int)).xs)).bind fun s_450=>some (!(decide (t_13.1.xs = s_450))) else some true).bind fun q_426=>(if q_426 = false then (capO t_13.1).bind fun x_454=>some (x_454 != 13) else some true).bind fun q_451=>(if q_451 = false then some (t_413.2 != 0) else some true).bind fun q_455=>(if q_455 = false then some (!(eqP gf1 t_413.1 (t,r,k))) else some true).bind fun q_457=>if q_457 then (some (.inr false)) else some (.inl ()))) = some (.inl ()):=by
  by_cases h:k > 2
  · rw [p12_bad n h,Option.bind_some,if_pos (by simpa using h)]
    rfl
  · have hb:=e_b t
    have hb2:=e_b r
    have e13:p13 n ⟨stB t r k,some 13⟩ = some ((t,r,k),0):=by
      have:=p13_ok n (some 13) (r:=k) (hb _ (by simp [bts])) (hb (t / 256 % 256) (by simp [bts])) (hb (t / 65536 % 256) (by simp [bts])) (hb (t / 16777216 % 256) (by simp [bts])) (hb2 (r % 256) (by simp [bts])) (hb2 (r / 256 % 256) (by simp [bts])) (hb2 (r / 65536 % 256) (by simp [bts])) (hb2 (r / 16777216 % 256) (by simp [bts])) h (a:=t % 256)
      rw [nmb_bts ht,nmb_bts hr] at this
      exact this
    have c1:d_v [85,83,66,83] (bts t) = some ([85,83,66,83] ++ bts t):=d_d (by simp [bts])
    have c2:d_v ([85,83,66,83] ++ bts t) (bts r) = some ([85,83,66,83] ++ bts t ++ bts r):=d_d (by simp [bts])
    have c3:d_v ([85,83,66,83] ++ bts t ++ bts r) [k] = some ([85,83,66,83] ++ bts t ++ bts r ++ [k]):=d_d (by simp [bts])
    have e4:eqP gf1 (t,r,k) (t,r,k) = true:=by simp [eqP]
    rw [p12_ok n hn ht hr h,Option.bind_some,if_neg (by simpa using h),e13,Option.bind_some]
    dsimp only
    rw [if_pos (show ((0:Int) != 0) = false from rfl),p10_ok n ht,Option.bind_some,c1,Option.bind_some,p10_ok n hr,Option.bind_some,c2,Option.bind_some,c3,Option.bind_some,Option.bind_some]
    rw [show (!decide (stB t r k = [85,83,66,83] ++ bts t ++ bts r ++ [k])) = false by rw [decide_eq_true (by simp [stB])];rfl,if_pos rfl,show capO (⟨stB t r k,some 13⟩:Sl Int) = some 13 from rfl,Option.bind_some,Option.bind_some,if_pos (show ((13:Int) != 13) = false from rfl),Option.bind_some,if_pos (show ((0:Int) != 0) = false from rfl),Option.bind_some,e4]
    rfl
theorem p4_law {x0:Int × Int × Int} {x1:Sl Int} (F0:Fine (.st (.pair (.int .u32) (.pair (.int .u32) (.int .u8)))) x0) (F1:Fine (.sl (.int .u8)) x1):p4 200 x0 x1 = some true:=by
  obtain ⟨t,r,k⟩:=x0
  have ht:InR .u32 t:=F0.1
  have hr:InR .u32 r:=F0.2.1
  have hb:=bytF F1
  obtain ⟨xs,q⟩:=x1
  unfold p4
  by_cases hl:decide (a_j (⟨xs,q⟩:Sl Int) > 20) = true
  · rw [if_pos hl,p7_ok]
    rfl
  · rw [if_neg hl]
    refine Eq.trans (Option.bind_assoc _ _ _).symm ?_
    refine (congrArg (fun z=>Option.bind z _) (p4_first (by decide) ht hr)).trans ?_
    rw [Option.bind_some,lrKl]
    by_cases h13:xs.length = 13
    · obtain ⟨a0,a1,a2,a3,a4,a5,a6,a7,a8,a9,b0,b1,b2,rfl⟩:=len13 h13
      by_cases hh:[a0,a1,a2,a3] = [85,83,66,83]
      · obtain ⟨rfl,rfl,rfl,rfl⟩:a0 = 85 ∧ a1 = 83 ∧ a2 = 66 ∧ a3 = 83:=by simpa using hh
        by_cases hk:b2 > 2
        · have h2:2 < b2:=hk
          rw [p13_kind 200 q hk]
          simp [a_j,slI,idx,h2,p7_ok,eqP]
        · have h2:¬ 2 < b2:=hk
          have B:∀ y,y ∈ [a4,a5,a6,a7,a8,a9,b0,b1] → 0 ≤ y ∧ y ≤ 255:=fun y hy=>hb y (by simp only [List.mem_cons,List.not_mem_nil,or_false] at hy ⊢;omega)
          have i4:=B a4 (by simp)
          have i5:=B a5 (by simp)
          have i6:=B a6 (by simp)
          have i7:=B a7 (by simp)
          have i8:=B a8 (by simp)
          have i9:=B a9 (by simp)
          have j0:=B b0 (by simp)
          have j1:=B b1 (by simp)
          have e12:p12 200 (nmb a4 a5 a6 a7,nmb a8 a9 b0 b1,b2) = some (⟨[85,83,66,83,a4,a5,a6,a7,a8,a9,b0,b1,b2],some 13⟩,0):=by
            rw [p12_ok 200 (by decide) (nmb_in i4 i5 i6 i7) (nmb_in i8 i9 j0 j1) hk]
            unfold stB
            rw [bts_nmb i4 i5 i6 i7,bts_nmb i8 i9 j0 j1]
            rfl
          rw [p13_ok 200 q i4 i5 i6 i7 i8 i9 j0 j1 hk]
          simp [a_j,slI,idx,h2,p7_ok,e12]
      · have h2:(a0 = 85 ∧ a1 = 83 ∧ a2 = 66 ∧ a3 = 83) = False:=eq_false (by simpa using hh)
        rw [p13_head 200 q hh]
        simp [a_j,slI,idx,h2,p7_ok,eqP]
    · have h2:((xs.length:Int) = 13) = False:=eq_false (by omega)
      rw [p13_len 200 (x:=⟨xs,q⟩) h13]
      simp [a_j,h2,p7_ok,eqP]
end Go.Proofs.Ytlbaijkolglheaa
