/- WrappersHost in plain words. Plain theorems, no condition. -/
import Derived.Test.YtlbaijkolglheaaWR9
import Derived.Test.YtlbaijkolglheaaLB2
import Derived.Test.YtlbaijkolglheaaPh2
set_option linter.unusedVariables false
set_option linter.unusedSimpArgs false
namespace Go.Proofs.Ytlbaijkolglheaa
open Go.RowKit
theorem remU8 {y d:Int} (hy:0 ≤ y ∧ y ≤ 255) (hd:0 < d ∧ d ≤ 255):c_I .u8 y d = some (y % d):=by
  unfold c_I
  rw [if_neg (by omega),Int.tmod_eq_emod_of_nonneg hy.1]
  unfold ckI
  have h2:0 ≤ y % d:=Int.emod_nonneg _ (by omega)
  have h3:y % d < d:=Int.emod_lt_of_pos _ hd.1
  rw [if_pos (by simp only [IntKind.min,IntKind.max,IntKind.signed,IntKind.bits];simp;omega)]
theorem p20_eq (n:Nat) {y:Int × Int × Sl Int} (hy:0 ≤ y.1 ∧ y.1 ≤ 255):∃ g,p20 n y = some g ∧ (g = 0 ∨ g = 12 ∨ g = 11 ∨ g = 16 ∨ g = 13):=by
  unfold p20
  rw [remU8 hy (by decide),Option.bind_some]
  have h:0 ≤ y.1 % 10 ∧ y.1 % 10 ≤ 9:=by omega
  generalize y.1 % 10 = m at h
  have hm:m = 0 ∨ m = 1 ∨ m = 2 ∨ m = 3 ∨ m = 4 ∨ m = 5 ∨ m = 6 ∨ m = 7 ∨ m = 8 ∨ m = 9:=by omega
  rcases hm with rfl | rfl | rfl | rfl | rfl | rfl | rfl | rfl | rfl | rfl
  · exact ⟨0,rfl,by decide⟩
  · exact ⟨0,rfl,by decide⟩
  · exact ⟨0,rfl,by decide⟩
  · exact ⟨0,rfl,by decide⟩
  · exact ⟨12,rfl,by decide⟩
  · exact ⟨12,rfl,by decide⟩
  · exact ⟨12,rfl,by decide⟩
  · exact ⟨11,rfl,by decide⟩
  · exact ⟨16,rfl,by decide⟩
  · exact ⟨13,rfl,by decide⟩
def stB (t r k:Int):List Int:=[85,83,66,83] ++ (bts t ++ (bts r ++ [k]))
theorem p12_ok (n:Nat) (hn:4 < n) {t r k:Int} (ht:InR .u32 t) (hr:InR .u32 r) (h:¬ k > 2):p12 n (t,r,k) = some (⟨stB t r k,some 13⟩,0):=by
  unfold p12
  rw [if_neg (by simpa using h),p30_ok n ht,Option.bind_some,p30_ok n hr,Option.bind_some,p35_eq n _ (by simpa using hn) (by simp) (by simp [bts]),Option.bind_some,p32_eq,Option.bind_some]
  rfl
theorem p13_ok (n:Nat) {a b c d e f g h r:Int} (q:Option Nat) (ha:0 ≤ a ∧ a ≤ 255) (hb:0 ≤ b ∧ b ≤ 255) (hc:0 ≤ c ∧ c ≤ 255) (hd:0 ≤ d ∧ d ≤ 255) (he:0 ≤ e ∧ e ≤ 255) (hf:0 ≤ f ∧ f ≤ 255) (hg:0 ≤ g ∧ g ≤ 255) (hh:0 ≤ h ∧ h ≤ 255) (hr:¬ r > 2) :
    p13 n ⟨[85,83,66,83,a,b,c,d,e,f,g,h,r],q⟩ = some ((nmb a b c d,nmb e f g h,r),0):=by
  have e1:=p31_ok n (s:=⟨[a,b,c,d],q.map (· - 4)⟩) rfl rfl rfl rfl ha hb hc hd
  have e2:=p31_ok n (s:=⟨[e,f,g,h],q.map (· - 8)⟩) rfl rfl rfl rfl he hf hg hh
  have h2:¬ 2 < r:=by omega
  simp [p13,a_i,slI,idx,e1,e2,h2]
theorem p13_len (n:Nat) {x:Sl Int} (h:x.xs.length ≠ 13):p13 n x = some ((0,0,0),4):=by
  have h2:((x.xs.length:Int) = 13) = False:=eq_false (by omega)
  simp [p13,a_i,h2]
theorem p13_head (n:Nat) {a0 a1 a2 a3 a4 a5 a6 a7 a8 a9 b0 b1 b2:Int} (q:Option Nat) (h:¬ [a0,a1,a2,a3] = [85,83,66,83]):p13 n ⟨[a0,a1,a2,a3,a4,a5,a6,a7,a8,a9,b0,b1,b2],q⟩ = some ((0,0,0),4):=by
  have h2:(a0 = 85 ∧ a1 = 83 ∧ a2 = 66 ∧ a3 = 83) = False:=eq_false (by simpa using h)
  simp [p13,a_i,slI,idx,h2]
theorem p13_stB (n:Nat) {t r k:Int} (ht:InR .u32 t) (hr:InR .u32 r) (h:¬ k > 2) (q:Option Nat):p13 n ⟨stB t r k,q⟩ = some ((t,r,k),0):=by
  have hb:=e_g t
  have hb2:=e_g r
  have:=p13_ok n q (r:=k) (hb (t % 256) (by simp [bts])) (hb (t / 256 % 256) (by simp [bts])) (hb (t / 65536 % 256) (by simp [bts])) (hb (t / 16777216 % 256) (by simp [bts])) (hb2 (r % 256) (by simp [bts])) (hb2 (r / 256 % 256) (by simp [bts])) (hb2 (r / 65536 % 256) (by simp [bts])) (hb2 (r / 16777216 % 256) (by simp [bts])) h
  rw [nmb_bts ht,nmb_bts hr] at this
  exact this
def StOk (n:Nat) (t L:Int) (x:Sl Int) (h:Int) (s:Int × Int × Int):Prop :=
  x.xs.length ≤ 13 ∧ ((h = 0 ∧ (∀ q,p13 n ⟨x.xs,q⟩ = some (s,0)) ∧ s.1 = t ∧ s.2.1 ≤ L ∧ s.2.2 ≠ 2) ∨
    (h = 19 ∧ ∃ s1 f,(∀ q,p13 n ⟨x.xs,q⟩ = some (s1,f)) ∧ (f ≠ 0 ∨ s1.1 ≠ t ∨ s1.2.1 > L)) ∨
    (h = 6 ∧ ∃ s1:Int × Int × Int,(∀ q,p13 n ⟨x.xs,q⟩ = some (s1,0)) ∧ s1.1 = t ∧ s1.2.1 ≤ L ∧ s1.2.2 = 2))
theorem p21_eq (n:Nat) (hn:4 < n) {E sp:Int} {dt:Sl Int} {t L u:Int} {i:Bool} {c:Sl Int} (hE:0 ≤ E ∧ E ≤ 255) (hs:0 ≤ sp ∧ sp ≤ 255) (ht:InR .u32 t) (hL:0 ≤ L ∧ L < 2500) :
    ∃ x h s,p21 n (E,sp,dt) (t,L,i,u,c) = some (x,h,s) ∧ StOk n t L x h s:=by
  have ht':=u32b ht
  have w1:IntKind.wrap .u32 (L + 1) = L + 1:=wrap32 (by omega)
  have r1:c_I .u32 E (L + 1) = some (E % (L + 1)):=by
    unfold c_I
    rw [if_neg (by omega),Int.tmod_eq_emod_of_nonneg hE.1]
    unfold ckI
    have h2:0 ≤ E % (L + 1):=Int.emod_nonneg _ (by omega)
    have h3:E % (L + 1) < L + 1:=Int.emod_lt_of_pos _ (by omega)
    rw [if_pos (by simp only [IntKind.min,IntKind.max,IntKind.signed,IntKind.bits];simp;omega)]
  have hm0:0 ≤ E % (L + 1):=Int.emod_nonneg _ (by omega)
  have hm1:E % (L + 1) ≤ L:=by have:=Int.emod_lt_of_pos E (show 0 < L + 1 by omega);omega
  have q1:quoI .u8 sp 8 = some (sp / 8):=by
    unfold quoI
    rw [if_neg (by decide),Int.tdiv_eq_ediv_of_nonneg hs.1]
    unfold ckI
    rw [if_pos (by simp only [IntKind.min,IntKind.max,IntKind.signed,IntKind.bits];simp;omega)]
  have r2:c_I .u8 (sp / 8) 2 = some (sp / 8 % 2):=remU8 (by omega) (by decide)
  have r3:c_I .u8 sp 8 = some (sp % 8):=remU8 hs (by decide)
  have k2:¬ sp / 8 % 2 > 2:=by omega
  have iM:InR .u32 (E % (L + 1)):=by
    simp only [InR,IntKind.min,IntKind.max,IntKind.signed,IntKind.bits];simp;omega
  have iL:InR .u32 (L + 1):=by
    simp only [InR,IntKind.min,IntKind.max,IntKind.signed,IntKind.bits];simp;omega
  have iT:InR .u32 (IntKind.wrap .u32 (t + 1)):=by
    rw [d_i];simp only [InR,IntKind.min,IntKind.max,IntKind.signed,IntKind.bits];simp;omega
  have hT:IntKind.wrap .u32 (t + 1) ≠ t:=by rw [d_i];omega
  have lst:∀ a b k,(stB a b k).length = 13:=fun _ _ _=>rfl
  unfold p21
  dsimp only
  rw [w1,r1,Option.bind_some,q1,Option.bind_some,r2,Option.bind_some,r3,Option.bind_some]
  have h8:sp % 8 = 0 ∨ sp % 8 = 1 ∨ sp % 8 = 2 ∨ sp % 8 = 3 ∨ sp % 8 = 4 ∨ sp % 8 = 5 ∨ sp % 8 = 6 ∨ sp % 8 = 7:=by omega
  have l13:a_i (⟨stB t (E % (L + 1)) (sp / 8 % 2),some 13⟩:Sl Int) = 13:=rfl
  rcases h8 with h | h | h | h | h | h | h | h
  · refine ⟨⟨stB t (E % (L + 1)) (sp / 8 % 2),some 13⟩,0,(t,E % (L + 1),sp / 8 % 2),?_,Nat.le_of_eq (lst _ _ _),.inl ⟨rfl,p13_stB n ht iM k2,rfl,hm1,by show sp / 8 % 2 ≠ 2;omega⟩⟩
    simp [h,p12_ok n hn ht iM k2,lst]
  · refine ⟨⟨stB (IntKind.wrap .u32 (t + 1)) (E % (L + 1)) (sp / 8 % 2),some 13⟩,19,(0,0,0),?_,Nat.le_of_eq (lst _ _ _),.inr (.inl ⟨rfl,_,_,p13_stB n iT iM k2,.inr (.inl hT)⟩)⟩
    simp [h,p12_ok n hn iT iM k2,lst]
  · refine ⟨⟨stB t (L + 1) (sp / 8 % 2),some 13⟩,19,(0,0,0),?_,Nat.le_of_eq (lst _ _ _),.inr (.inl ⟨rfl,_,_,p13_stB n ht iL k2,.inr (.inr (by show L + 1 > L;omega))⟩)⟩
    simp [h,p12_ok n hn ht iL k2,w1,lst]
  · refine ⟨⟨stB t (E % (L + 1)) 2,some 13⟩,6,(0,0,0),?_,Nat.le_of_eq (lst _ _ _),.inr (.inr ⟨rfl,_,p13_stB n ht iM (by decide),rfl,hm1,rfl⟩)⟩
    simp [h,p12_ok n hn ht iM (show ¬ (2:Int) > 2 by decide),lst]
  · refine ⟨⟨(stB t (E % (L + 1)) (sp / 8 % 2)).drop 1,some 12⟩,19,(0,0,0),?_,by simp [lst],.inr (.inl ⟨rfl,_,_,fun q=>p13_len n (by simp [lst]),.inl (by decide)⟩)⟩
    simp [h,p12_ok n hn ht iM k2,lst,slI,a_i]
  · refine ⟨⟨(stB t (E % (L + 1)) (sp / 8 % 2)).set 0 0,some 13⟩,19,(0,0,0),?_,by simp [lst],.inr (.inl ⟨rfl,_,_,fun q=>p13_head n q (by decide),.inl (by decide)⟩)⟩
    simp [h,p12_ok n hn ht iM k2,lst,a_i,idx]
  · refine ⟨⟨stB t (E % (L + 1)) (sp / 8 % 2),some 13⟩,0,(t,E % (L + 1),sp / 8 % 2),?_,Nat.le_of_eq (lst _ _ _),.inl ⟨rfl,p13_stB n ht iM k2,rfl,hm1,by show sp / 8 % 2 ≠ 2;omega⟩⟩
    simp [h,p12_ok n hn ht iM k2,lst]
  · refine ⟨⟨stB t (E % (L + 1)) (sp / 8 % 2),some 13⟩,0,(t,E % (L + 1),sp / 8 % 2),?_,Nat.le_of_eq (lst _ _ _),.inl ⟨rfl,p13_stB n ht iM k2,rfl,hm1,by show sp / 8 % 2 ≠ 2;omega⟩⟩
    simp [h,p12_ok n hn ht iM k2,lst]
section
variable {n:Nat} {t L u:Int} {i:Bool} {c out inn rest:List Int} {q qb:Option Nat} {st:Int × Int × Int} {ag bg:Bool} {e d g:Int}
theorem p17_todo:p17 n (⟨d :: rest,q⟩,(t,L,i,u,⟨c,qb⟩),out,inn,st,ag,true,e) = some ((0,0,0),⟨[],some 0⟩,6):=by
  simp [p17,a_i]
theorem p17_err (he:e ≠ 0):p17 n (⟨[],q⟩,(t,L,i,u,⟨c,qb⟩),out,inn,st,ag,true,e) = some ((0,0,0),⟨[],some 0⟩,e):=by
  simp [p17,a_i,he]
theorem p17_ok:p17 n (⟨[],q⟩,(t,L,i,u,⟨c,qb⟩),out,inn,st,ag,true,0) = some (st,⟨inn,some inn.length⟩,0):=by
  simp [p17,a_i,p32_eq]
end
def HInv (i:Bool) (dat td:List Int) (e:Int) (st s:Int × Int × Int):Prop:=(∀ d ∈ td,0 ≤ d ∧ d ≤ 6) ∧ td.length ≤ 3 ∧ (3 ∈ td ∨ e ≠ 0 ∨ st = s) ∧ (1 ∈ td → dat = [] ∧ i = false) ∧ (2 ∈ td → i = true)
def HRes (tt:Int × Int × Bool × Int × Sl Int) (out:List Int) (X:Option ((Sl Int × Int × List Int × (Sl Int × (Int × Int × Bool × Int × Sl Int) × List Int × List Int × (Int × Int × Int) × Bool × Bool × Int) × (Int × Int × Int)) ⊕ Bool)):Prop :=
  ∃ (dat:List Int) (ag:Bool) (e:Int) (td:List Int) (q1 q:Option Nat) (st s:Int × Int × Int),X = some (.inl (⟨td,q1⟩,e,dat,(⟨td,q⟩,tt,out,dat,st,ag,true,e),s)) ∧ (3 ∈ td ∨ e ≠ 0 ∨ st = s)
theorem HRes.of {tt:Int × Int × Bool × Int × Sl Int} {out:List Int} {X Y:Option ((Sl Int × Int × List Int × (Sl Int × (Int × Int × Bool × Int × Sl Int) × List Int × List Int × (Int × Int × Int) × Bool × Bool × Int) × (Int × Int × Int)) ⊕ Bool)} (h:HRes tt out Y) (e:X = Y):HRes tt out X:=e ▸ h
theorem host_loop {n:Nat} (hn:4 < n) {x1:Sl (Int × Int × Sl Int)} {t L:Int} {i:Bool} {c out:List Int} {qa qb:Option Nat} (ht:InR .u32 t) (hL:0 ≤ L ∧ L < 2500) (hr:rgt L i 0 c = true)
    (hx:∀ y ∈ x1.xs,(0 ≤ y.1 ∧ y.1 ≤ 255) ∧ 0 ≤ y.2.1 ∧ y.2.1 ≤ 255):∀ (m k:Nat) (dat:List Int) (ag:Bool) (e:Int) (td:List Int) (q1 q:Option Nat) (st s:Int × Int × Int),20 < k + m → k ≤ 20 → HInv i dat td e st s →
    HRes (t,L,i,0,⟨c,qb⟩) out (p5_l1 n x1 (t,L,i,0,⟨c,qa⟩) out m k dat ag e ⟨td,q1⟩ (⟨td,q⟩,(t,L,i,0,⟨c,qb⟩),out,dat,st,ag,true,e) s)
  | 0,k,_,_,_,_,_,_,_,_,hk,hk2,_=>by omega
  | m + 1,k,dat,ag,e,td,q1,q,st,s,hk,hk2,hI=>by
    have hLI:InR .u32 L:=by simp only [InR,IntKind.min,IntKind.max,IntKind.signed,IntKind.bits];simp;omega
    unfold p5_l1
    rw [andK fun _=>rfl,Option.bind_some]
    cases hg:(decide ((k:Int) < a_i x1) && decide ((k:Int) < 20)) with
    | false=>exact ⟨dat,ag,e,td,q1,q,st,s,rfl,hI.2.2.1⟩
    | true =>
      rw [Bool.and_eq_true,decide_eq_true_eq,decide_eq_true_eq] at hg
      have hkl:k < x1.xs.length:=by have:=hg.1;unfold a_i at this;omega
      obtain ⟨⟨E,sp,dt⟩,hy⟩:∃ y,x1.xs[k]? = some y:=⟨_,List.getElem?_eq_getElem hkl⟩
      have hyx:=hx _ (List.mem_of_getElem? hy)
      have ey:idx x1.xs (k:Int) = some (E,sp,dt):=by rw [d_j];exact hy
      obtain ⟨g,eg,hgv⟩:=p20_eq n (y:=(E,sp,dt)) hyx.1
      have eck:ckI .i64 ((k:Int) + 1) = some ((k + 1:Nat):Int):=by rw [b_9 (by omega)];simp
      have IH:=fun dat ag e td q1 q st s (h:HInv i dat td e st s)=>host_loop hn (x1:=x1) (out:=out) (qa:=qa) (qb:=qb) ht hL hr hx m (k + 1) dat ag e td q1 q st s (by omega) (by omega) h
      rw [d_M]
      match td,hI with
      | [],hI =>
        have h17:∃ a b,p17 n (⟨[],q⟩,(t,L,i,0,⟨c,qb⟩),out,dat,st,ag,true,e) = some (a,b,e):=by
          by_cases he:e = 0
          · subst he;exact ⟨_,_,p17_ok⟩
          · exact ⟨_,_,p17_err he⟩
        obtain ⟨a,b,h17⟩:=h17
        rw [h17,Option.bind_some,p18_nil,Option.bind_some]
        dsimp only
        rw [show (a_i (⟨[],q1⟩:Sl Int) == 0) = true from rfl,d_M,d_1,bne_self_eq_false,Option.bind_some,d_1,show ((0:Int) != 0) = false from rfl,Option.bind_some,d_1,show (a_i (⟨[],some 0⟩:Sl Int) != 0) = false from rfl,Option.bind_some,e_j,ey,Option.bind_some,eg,Option.bind_some,Option.bind_some,p19_nil,Option.bind_some,eck,Option.bind_some]
        exact IH dat ag e [] q1 q st s hI
      | d :: rest,hI =>
        have hd:=hI.1 d (by simp)
        have hl:rest.length ≤ 2:=by have:=hI.2.1;simp at this;omega
        have hl':rest.length ≤ 1000000:=by omega
        have hrest:∀ d ∈ rest,0 ≤ d ∧ d ≤ 6:=fun z hz=>hI.1 z (by simp [hz])
        have eck2:∀ z:Int,c_h [z] rest = some (z :: rest):=fun z=>c_x (by simp;omega)
        have hl0:(a_i (⟨d :: rest,q1⟩:Sl Int) == 0) = false:=by simp [a_i];omega
        have hle:a_i (⟨[],some 0⟩:Sl Int) = 0:=rfl
        have hsl:slI (⟨d :: rest,q1⟩:Sl Int) 1 (a_i (⟨d :: rest,q1⟩:Sl Int)) = some ⟨rest,q1.map (· - 1)⟩:=sl_tail
        have hix:idx (d :: rest) 0 = some d:=rfl
        have nilI:∀ (dat:List Int) (e:Int) (st s:Int × Int × Int),e ≠ 0 → HInv i dat [] e st s:=fun dat e st s h=>⟨fun z hz=>absurd hz List.not_mem_nil,by simp,.inr (.inl h),fun h=>absurd h List.not_mem_nil,fun h=>absurd h List.not_mem_nil⟩
        have recI:∀ (dat:List Int) (e:Int) (st s:Int × Int × Int),e ≠ 0 → HInv i dat [6,4,5] e st s:=fun dat e st s h=>⟨fun z hz=>by simp only [List.mem_cons,List.not_mem_nil,or_false] at hz;omega,by simp,.inr (.inl h),fun h=>by simp at h,fun h=>by simp at h⟩
        have third:d ≠ 3 → (3 ∈ rest ∨ e ≠ 0 ∨ st = s):=fun h3=>by
          rcases hI.2.2.1 with h | h | h
          · exact .inl ((List.mem_cons.1 h).resolve_left fun h=>h3 h.symm)
          · exact .inr (.inl h)
          · exact .inr (.inr h)
        have restD:∀ (dat':List Int) (st s:Int × Int × Int),(dat' = dat ∨ d = 2) → (3 ∈ rest ∨ e ≠ 0 ∨ st = s) → HInv i dat' rest e st s:=fun dat' st s h2 h3=>⟨hrest,by omega,h3,fun h=>by
          have h1:=hI.2.2.2.1 (List.mem_cons_of_mem _ h)
          rcases h2 with rfl | rfl
          · exact h1
          · have h4:=hI.2.2.2.2 (by simp)
            rw [h1.2] at h4
            exact absurd h4 (by decide),fun h=>hI.2.2.2.2 (List.mem_cons_of_mem _ h)⟩
        have pipeI:∀ (z:Int) (dat':List Int),4 ≤ z ∧ z ≤ 5 → (dat' = dat ∨ d = 2) → d ≠ 3 → HInv i dat' (z :: rest) e st s:=fun z dat' hz h2 h3=>by
          have hR:=restD dat' st s h2 (third h3)
          refine ⟨fun w hw=>?_,by simp;omega,?_,fun h=>?_,fun h=>?_⟩
          · rcases List.mem_cons.1 hw with rfl | h
            · omega
            · exact hrest w h
          · rcases hR.2.2.1 with h | h | h
            · exact .inl (List.mem_cons_of_mem _ h)
            · exact .inr (.inl h)
            · exact .inr (.inr h)
          · exact hR.2.2.2.1 ((List.mem_cons.1 h).resolve_left (by omega))
          · exact hR.2.2.2.2 ((List.mem_cons.1 h).resolve_left (by omega))
        rw [p17_todo,Option.bind_some]
        have hd7:d = 0 ∨ d = 1 ∨ d = 2 ∨ d = 3 ∨ (d = 4 ∨ d = 5 ∨ d = 6):=by omega
        rcases hd7 with rfl | rfl | rfl | rfl | hd7
        · have h18:=p18_0 (n:=n) (rest:=rest) (q:=q) (qb:=qb) (c:=c) (t:=t) (L:=L) (i:=i) (u:=0) (out:=out) (inn:=dat) (st:=st) (ag:=ag) (bg:=true) (e:=e) ht hLI hr
          have hp8:=p8_ok n (q:=qa) ht hLI hr
          rcases hgv with rfl | rfl | hgv
          · obtain ⟨q',e19⟩:=p19_0 (n:=n) (rest:=rest) (q:=q) (qb:=qb) (c:=c) (t:=t) (L:=L) (i:=i) (u:=0) (out:=out) (inn:=dat) (st:=st) (ag:=ag) (bg:=true) (e:=e) (g:=0) (x:=⟨[],some 0⟩) hl' ht hLI hr (.inl rfl)
            refine HRes.of (IH dat ag e rest (q1.map (· - 1)) q' st s (restD _ _ _ (.inl rfl) (third (by decide)))) ?_
            simp [h18,hl0,hle,hsl,hix,ey,eg,eck,eck2,lrK,hp8,e19]
          · obtain ⟨q',e19⟩:=p19_0 (n:=n) (rest:=rest) (q:=q) (qb:=qb) (c:=c) (t:=t) (L:=L) (i:=i) (u:=0) (out:=out) (inn:=dat) (st:=st) (ag:=ag) (bg:=true) (e:=e) (g:=12) (x:=⟨[],some 0⟩) hl' ht hLI hr (.inr rfl)
            refine HRes.of (IH dat ag 12 [6,4,5] (some 3) q' st s (recI _ _ _ _ (by decide))) ?_
            simp [h18,hl0,hle,hsl,hix,ey,eg,eck,eck2,lrK,hp8,e19]
          · have h1:g ≠ 0:=by omega
            have h2:g ≠ 12:=by omega
            refine HRes.of (IH dat ag g [] (some 0) (some 0) st s (nilI _ _ _ _ h1)) ?_
            have e19:=p19_fail (n:=n) (g:=g) (x:=⟨[],some 0⟩) hl' h18 h1 (.inl h2)
            simp [h18,hl0,hle,hsl,hix,ey,eg,eck,eck2,lrK,e19,h1,h2,hp8]
        · have h18:=p18_1 (n:=n) (rest:=rest) (q:=q) (qb:=qb) (c:=c) (t:=t) (L:=L) (i:=i) (u:=0) (out:=out) (inn:=dat) (st:=st) (ag:=ag) (bg:=true) (e:=e)
          obtain ⟨hdat,hi⟩:=hI.2.2.2.1 (by simp)
          rcases hgv with rfl | rfl | hgv
          · obtain ⟨q',e19⟩:=p19_1 (n:=n) (rest:=rest) (q:=q) (qb:=qb) (c:=c) (t:=t) (L:=L) (i:=i) (u:=0) (out:=out) (inn:=dat) (st:=st) (ag:=ag) (bg:=true) (e:=e) (g:=0) (x:=⟨[],some 0⟩) hl' (.inl rfl)
            refine HRes.of (IH [] ag e rest (q1.map (· - 1)) q' st s (restD _ _ _ (.inl hdat.symm) (third (by decide)))) ?_
            simp only [hdat,hi] at h18 e19 ⊢
            simp [h18,hl0,hle,hsl,hix,ey,eg,eck,eck2,lrK,e19]
          · obtain ⟨q',e19⟩:=p19_1 (n:=n) (rest:=rest) (q:=q) (qb:=qb) (c:=c) (t:=t) (L:=L) (i:=i) (u:=0) (out:=out) (inn:=dat) (st:=st) (ag:=ag) (bg:=true) (e:=e) (g:=12) (x:=⟨[],some 0⟩) hl' (.inr rfl)
            refine HRes.of (IH [] ag e (5 :: rest) (a_R (some 1) (5 :: rest).length) q' st s (pipeI 5 _ (by decide) (.inl hdat.symm) (by decide))) ?_
            simp only [hdat,hi] at h18 e19 ⊢
            simp [h18,hl0,hle,hsl,hix,ey,eg,eck,eck2,lrK,e19]
          · have h1:g ≠ 0:=by omega
            have h2:g ≠ 12:=by omega
            refine HRes.of (IH dat ag g [] (some 0) (some 0) st s (nilI _ _ _ _ h1)) ?_
            have e19:=p19_fail (n:=n) (g:=g) (x:=⟨[],some 0⟩) hl' h18 h1 (.inl h2)
            simp [h18,hl0,hle,hsl,hix,ey,eg,eck,eck2,lrK,e19,h1,h2]
        · have h18:=p18_2 (n:=n) (rest:=rest) (q:=q) (qb:=qb) (c:=c) (t:=t) (L:=L) (i:=i) (u:=0) (out:=out) (inn:=dat) (st:=st) (ag:=ag) (bg:=true) (e:=e)
          have hi:=hI.2.2.2.2 (by simp)
          have esl:=d_c (x:=dt) hL.1
          rcases hgv with rfl | rfl | hgv
          · obtain ⟨q',e19⟩:=p19_2 (n:=n) (rest:=rest) (q:=q) (qb:=qb) (c:=c) (t:=t) (L:=L) (i:=i) (u:=0) (out:=out) (inn:=dat) (st:=st) (ag:=ag) (bg:=true) (e:=e) (g:=0) (x:=dt) hL.1 hl' (.inl rfl)
            refine HRes.of (IH (d_A dt.xs L) ag e rest (q1.map (· - 1)) q' st s (restD _ _ _ (.inr rfl) (third (by decide)))) ?_
            simp only [hi] at h18 e19 ⊢
            simp [h18,hl0,hle,hsl,hix,ey,eg,eck,eck2,lrK,esl,e19]
          · obtain ⟨q',e19⟩:=p19_2 (n:=n) (rest:=rest) (q:=q) (qb:=qb) (c:=c) (t:=t) (L:=L) (i:=i) (u:=0) (out:=out) (inn:=dat) (st:=st) (ag:=ag) (bg:=true) (e:=e) (g:=12) (x:=dt) hL.1 hl' (.inr rfl)
            refine HRes.of (IH (d_A dt.xs L) ag e (4 :: rest) (a_R (some 1) (4 :: rest).length) q' st s (pipeI 4 _ (by decide) (.inr rfl) (by decide))) ?_
            simp only [hi] at h18 e19 ⊢
            simp [h18,hl0,hle,hsl,hix,ey,eg,eck,eck2,lrK,esl,e19]
          · have h1:g ≠ 0:=by omega
            have h2:g ≠ 12:=by omega
            refine HRes.of (IH dat ag g [] (some 0) (some 0) st s (nilI _ _ _ _ h1)) ?_
            have e19:=p19_fail (n:=n) (g:=g) (x:=dt) hl' h18 h1 (.inl h2)
            simp [h18,hl0,hle,hsl,hix,ey,eg,eck,eck2,lrK,e19,h1,h2]
        · have h18:=p18_3 (n:=n) (rest:=rest) (q:=q) (qb:=qb) (c:=c) (t:=t) (L:=L) (i:=i) (u:=0) (out:=out) (inn:=dat) (st:=st) (ag:=ag) (bg:=true) (e:=e)
          obtain ⟨x,h,s',e21,hx13,hOk⟩:=p21_eq n hn (E:=E) (sp:=sp) (dt:=dt) (t:=t) (L:=L) (u:=0) (i:=i) (c:=⟨c,qa⟩) hyx.1 hyx.2 ht hL
          rcases hgv with rfl | rfl | hgv
          · rcases hOk with ⟨rfl,h13,h1,h2,h3⟩ | ⟨rfl,s1,f,h13,h1⟩ | ⟨rfl,s1,h13,h1,h2,h3⟩
            · obtain ⟨q',e19⟩:=p19_3 (n:=n) (rest:=rest) (q:=q) (qb:=qb) (c:=c) (t:=t) (L:=L) (i:=i) (u:=0) (out:=out) (inn:=dat) (st:=st) (ag:=ag) (bg:=true) (e:=e) (x:=x) hl' hx13 h13
              rw [if_neg (by simp [h1];omega),if_neg h3] at e19
              refine HRes.of (IH dat ag e rest (q1.map (· - 1)) q' s' s' (restD _ _ _ (.inl rfl) (.inr (.inr rfl)))) ?_
              simp [h18,hl0,hle,hsl,hix,ey,eg,eck,eck2,lrK,e21,e19]
            · obtain ⟨q',e19⟩:=p19_3 (n:=n) (rest:=rest) (q:=q) (qb:=qb) (c:=c) (t:=t) (L:=L) (i:=i) (u:=0) (out:=out) (inn:=dat) (st:=st) (ag:=ag) (bg:=true) (e:=e) (x:=x) hl' hx13 h13
              rw [if_pos h1] at e19
              refine HRes.of (IH dat ag 19 [6,4,5] (some 3) q' st s' (recI _ _ _ _ (by decide))) ?_
              simp [h18,hl0,hle,hsl,hix,ey,eg,eck,eck2,lrK,e21,e19]
            · obtain ⟨q',e19⟩:=p19_3 (n:=n) (rest:=rest) (q:=q) (qb:=qb) (c:=c) (t:=t) (L:=L) (i:=i) (u:=0) (out:=out) (inn:=dat) (st:=st) (ag:=ag) (bg:=true) (e:=e) (x:=x) hl' hx13 h13
              rw [if_neg (by simp [h1];omega),if_pos h3] at e19
              refine HRes.of (IH dat ag 6 [6,4,5] (some 3) q' st s' (recI _ _ _ _ (by decide))) ?_
              simp [h18,hl0,hle,hsl,hix,ey,eg,eck,eck2,lrK,e21,e19]
          · obtain ⟨q',e19⟩:=p19_3s (n:=n) (rest:=rest) (q:=q) (qb:=qb) (c:=c) (t:=t) (L:=L) (i:=i) (u:=0) (out:=out) (inn:=dat) (st:=st) (ag:=ag) (bg:=true) (e:=e) (x:=x) hl'
            cases ag
            · refine HRes.of (IH dat true e [4,3] (some 2) q' st s' ⟨fun z hz=>by simp only [List.mem_cons,List.not_mem_nil,or_false] at hz;omega,by simp,.inl (by simp),fun h=>by simp at h,fun h=>by simp at h⟩) ?_
              simp [h18,hl0,hle,hsl,hix,ey,eg,eck,eck2,lrK,e21,e19]
            · refine HRes.of (IH dat true 12 [6,4,5] (some 3) q' st s' (recI _ _ _ _ (by decide))) ?_
              simp [h18,hl0,hle,hsl,hix,ey,eg,eck,eck2,lrK,e21,e19]
          · have h1:g ≠ 0:=by omega
            have h2:g ≠ 12:=by omega
            refine HRes.of (IH dat ag g [] (some 0) (some 0) st s' (nilI _ _ _ _ h1)) ?_
            have e19:=p19_fail (n:=n) (g:=g) (x:=x) hl' h18 h1 (.inl h2)
            simp [h18,hl0,hle,hsl,hix,ey,eg,eck,eck2,lrK,e21,e19,h1,h2]
        · have h18:=p18_4 (n:=n) (rest:=rest) (q:=q) (qb:=qb) (c:=c) (t:=t) (L:=L) (i:=i) (u:=0) (out:=out) (inn:=dat) (st:=st) (ag:=ag) (bg:=true) (e:=e) hd7
          rcases hgv with rfl | rfl | hgv
          · have e19:=p19_clear (n:=n) (rest:=rest) (q:=q) (qb:=qb) (c:=c) (t:=t) (L:=L) (i:=i) (u:=0) (out:=out) (inn:=dat) (st:=st) (ag:=ag) (bg:=true) (e:=e) (x:=⟨[],some 0⟩) hl' hd7
            refine HRes.of (IH dat ag e rest (q1.map (· - 1)) (a_R (some 0) rest.length) st s (restD _ _ _ (.inl rfl) (third (by omega)))) ?_
            rcases hd7 with rfl | rfl | rfl <;> simp [h18,hl0,hle,hsl,hix,ey,eg,eck,eck2,lrK,e19]
          · have e19:=p19_fail (n:=n) (g:=12) (x:=⟨[],some 0⟩) hl' h18 (by decide) (.inr (by omega))
            refine HRes.of (IH dat ag 12 [] (some 0) (some 0) st s (nilI _ _ _ _ (by decide))) ?_
            rcases hd7 with rfl | rfl | rfl <;> simp [h18,hl0,hle,hsl,hix,ey,eg,eck,eck2,lrK,e19]
          · have h1:g ≠ 0:=by omega
            have h2:g ≠ 12:=by omega
            have e19:=p19_fail (n:=n) (g:=g) (x:=⟨[],some 0⟩) hl' h18 h1 (.inl h2)
            refine HRes.of (IH dat ag g [] (some 0) (some 0) st s (nilI _ _ _ _ h1)) ?_
            rcases hd7 with rfl | rfl | rfl <;> simp [h18,hl0,hle,hsl,hix,ey,eg,eck,eck2,lrK,e19,h1,h2]
theorem p15_loop {n:Nat} {x:Int} (hx:x ≤ 2500):∀ (m:Nat) (k:Nat) (a:List Int),x < k + m → (k:Int) ≤ x → (a.length:Int) = x → ∃ c,p15_l1 n x m k a = some c ∧ (c.length:Int) = x
  | 0,k,a,h1,h2,_=>by omega
  | m + 1,k,a,h1,h2,ha=>by
    unfold p15_l1
    by_cases hk:(k:Int) < x
    · have e1:ckI .i64 ((k:Int) * 7) = some ((k:Int) * 7):=b_9 (by omega)
      have e2:quoI .i64 (k:Int) 256 = some ((k:Int) / 256):=by
        unfold quoI
        rw [if_neg (by decide),Int.tdiv_eq_ediv_of_nonneg (by omega)]
        exact b_9 (by omega)
      have e3:ckI .i64 ((k:Int) * 7 + (k:Int) / 256) = some ((k:Int) * 7 + (k:Int) / 256):=b_9 (by omega)
      have e4:∃ y,idx a (k:Int) = some y:=by rw [d_j];exact ⟨_,List.getElem?_eq_getElem (by omega)⟩
      have e5:ckI .i64 ((k:Int) + 1) = some ((k + 1:Nat):Int):=by rw [b_9 (by omega)];simp
      obtain ⟨y,e4⟩:=e4
      rw [if_pos (by simpa using hk),e1,Option.bind_some,e2,Option.bind_some,e3,Option.bind_some,e4,Option.bind_some,e5,Option.bind_some]
      exact p15_loop hx m (k + 1) _ (by omega) (by omega) (by simpa using ha)
    · rw [if_neg (by simpa using hk)]
      exact ⟨a,rfl,ha⟩
theorem p15_is {x:Int} (h:0 ≤ x ∧ x ≤ 2500):∃ c q,p15 3000 x = some ⟨c,q⟩ ∧ (c.length:Int) = x:=by
  obtain ⟨c,e,hc⟩:=p15_loop (n:=3000) h.2 3000 0 (List.replicate x.toNat 0) (by omega) (by omega) (by simp;omega)
  refine ⟨c,some x.toNat,?_,hc⟩
  unfold p15
  rw [mkI_ok h.1 (Int.le_refl _) (by omega),Option.bind_some]
  dsimp only
  have e':p15_l1 3000 x 3000 0 (List.replicate x.toNat 0) = some c:=e
  rw [e']
  rfl
theorem remU16 {y:Int} (hy:0 ≤ y ∧ y ≤ 65535):c_I .u16 y 2500 = some (y % 2500):=by
  unfold c_I
  rw [if_neg (by decide),Int.tmod_eq_emod_of_nonneg hy.1]
  unfold ckI
  rw [if_pos (by simp only [IntKind.min,IntKind.max,IntKind.signed,IntKind.bits];simp;omega)]
theorem p14_is {x:Int × Int × Bool × Int} (h1:0 ≤ x.2.1 ∧ x.2.1 ≤ 65535) (h2:0 ≤ x.2.2.2 ∧ x.2.2.2 ≤ 255):∃ (L:Int) (i:Bool) (c:List Int) (q:Option Nat),p14 3000 x = some (x.1,L,i,0,⟨c,q⟩) ∧ 0 ≤ L ∧ L < 2500 ∧ rgt L i 0 c = true:=by
  have hk:0 ≤ x.2.2.2 % 16 ∧ x.2.2.2 % 16 ≤ 15:=by omega
  obtain ⟨c,q,ec,hc⟩:=p15_is (x:=1 + x.2.2.2 % 16) (by omega)
  have c1:1 ≤ c.length:=by omega
  have c2:c.length ≤ 16:=by omega
  have e1:ckI .i64 (1 + x.2.2.2 % 16) = some (1 + x.2.2.2 % 16):=b_9 (by omega)
  unfold p14
  rw [remU16 h1,Option.bind_some,remU8 h2 (by decide),Option.bind_some,e1,Option.bind_some,ec,Option.bind_some]
  by_cases h0:x.2.1 % 2500 = 0
  · exact ⟨x.2.1 % 2500,false,c,q,by simp [h0],by omega,by omega,by simp [rgt,c1,c2]⟩
  · exact ⟨x.2.1 % 2500,x.2.2.1,c,q,by simp [h0],by omega,by omega,by simp [rgt,c1,c2];omega⟩
theorem p7_okH:p7 3000 = some true:=by kernel_rfl
def tdo (L:Int) (i:Bool):List Int:=if i then [0,2,3] else if L > 0 then [0,1,3] else [0,3]
theorem tdo_inv (L:Int) (i:Bool):HInv i [] (tdo L i) 0 (0,0,0) (0,0,0):=by
  cases i
  · by_cases h0:L > 0 <;> simp [HInv,tdo,h0]
  · simp [HInv,tdo]
theorem p16_is {t L:Int} {i:Bool} {c j:List Int} {q qj:Option Nat} (hr:rgt L i 0 c = true) (hL:0 ≤ L ∧ L < 2500) (hj:(j.length:Int) = if i then 0 else L) :
    ∃ q1 q2,p16 3000 (t,L,i,0,⟨c,q⟩) ⟨j,qj⟩ = some ((⟨tdo L i,q1⟩,(t,L,i,0,⟨c,q2⟩),j,[],(0,0,0),false,true,0),0):=by
  have hc:c.length ≤ 1000000:=by
    unfold rgt at hr
    simp only [Bool.and_eq_true,decide_eq_true_eq] at hr
    omega
  unfold p16
  rw [p29_eq,Option.bind_some,hr]
  dsimp only
  rw [p33_eq _ _ hc]
  have capN:∀ k:Nat,a_R .none k = .none:=fun _=>rfl
  have a1:∀ z y:Int,c_h [z] [y] = some [z,y]:=fun z y=>rfl
  have a2:∀ z y x:Int,c_h [z,y] [x] = some [z,y,x]:=fun z y x=>rfl
  cases i
  · have hw:IntKind.wrap .u64 (a_i (⟨j,qj⟩:Sl Int)) = L:=by
      have h:a_i (⟨j,qj⟩:Sl Int) = L:=hj
      rw [h]
      have h2:L % 18446744073709551616 = L:=Int.emod_eq_of_lt hL.1 (by omega)
      simpa [IntKind.wrap,IntKind.signed,IntKind.bits] using h2
    by_cases h0:L > 0
    · refine ⟨.none,a_R (some 0) c.length,?_⟩
      simp [tdo,hw,h0,a1,a2,capN]
    · refine ⟨.none,a_R (some 0) c.length,?_⟩
      simp [tdo,hw,h0,a1,a2,capN]
  · have h:a_i (⟨j,qj⟩:Sl Int) = 0:=hj
    refine ⟨.none,a_R (some 0) c.length,?_⟩
    simp [tdo,h,a1,a2,capN]
theorem p5_law {x0:Int × Int × Bool × Int} {x1:Sl (Int × Int × Sl Int)} (F0:Fine (.st (.pair (.int .u32) (.pair (.int .u16) (.pair .bool (.int .u8))))) x0) (F1:Fine (.sl (.st (.pair (.int .u8) (.pair (.int .u8) (.sl (.int .u8)))))) x1):p5 3000 x0 x1 = some true:=by
  obtain ⟨L,i,c,q,e14,hL0,hL1,hr⟩:=p14_is (x:=x0) (inR_u16.1 F0.2.1) (inR_u8.1 F0.2.2.2)
  have ht:InR .u32 x0.1:=F0.1
  have hx:∀ y ∈ x1.xs,(0 ≤ y.1 ∧ y.1 ≤ 255) ∧ 0 ≤ y.2.1 ∧ y.2.1 ≤ 255:=fun y hy=>⟨inR_u8.1 (F1.2.2 y hy).1,inR_u8.1 (F1.2.2 y hy).2.1⟩
  generalize x0.1 = t at *
  obtain ⟨b,qb,e15,hb⟩:=p15_is (x:=L) (by omega)
  unfold p5
  rw [e14,Option.bind_some]
  dsimp only
  rw [e15,Option.bind_some]
  have ej:(if i = true then some [] else some b:Option (List Int)) = some (if i then [] else b):=by cases i <;> rfl
  dsimp only
  rw [ej,Option.bind_some]
  have hj:(((if i then [] else b:List Int)).length:Int) = if i then 0 else L:=by cases i <;> simp [hb]
  generalize (if i then [] else b:List Int) = j at hj
  obtain ⟨q1,q2,e16⟩:=p16_is (t:=t) (c:=c) (q:=q) (qj:=.none) hr ⟨hL0,hL1⟩ hj
  rw [e16,Option.bind_some]
  dsimp only
  have et:∃ a,(if i = true then ((c_h ([0]:List Int) [2]).bind fun l=>some l) else (if (decide (L > 0)) = true then ((c_h ([0]:List Int) [1]).bind fun l=>some l) else some [0]).bind fun j=>some j) = some a ∧ c_h a [3] = some (tdo L i):=by
    cases i
    · by_cases h0:L > 0
      · exact ⟨[0,1],by simp [h0];rfl,by simp [tdo,h0];rfl⟩
      · exact ⟨[0],by simp [h0],by simp [tdo,h0];rfl⟩
    · exact ⟨[0,2],rfl,rfl⟩
  obtain ⟨dat,ag,e,td,q3,q4,st,s,hl,h3⟩:=host_loop (n:=3000) (by decide) (x1:=x1) (t:=t) (L:=L) (i:=i) (c:=c) (out:=j) (qa:=q) (qb:=q2) ht ⟨hL0,hL1⟩ hr hx 3000 0 [] false 0 (tdo L i) (a_R .none (tdo L i).length) q1 (0,0,0) (0,0,0) (by decide) (by decide) (tdo_inv L i)
  have hl':p5_l1 3000 x1 (t,L,i,0,⟨c,q⟩) j 3000 0 [] false 0 ⟨tdo L i,a_R .none (tdo L i).length⟩ (⟨tdo L i,q1⟩,(t,L,i,0,⟨c,q2⟩),j,[],(0,0,0),false,true,0) (0,0,0) = some (.inl (⟨td,q3⟩,e,dat,(⟨td,q4⟩,(t,L,i,0,⟨c,q2⟩),j,dat,st,ag,true,e),s)):=hl
  obtain ⟨a,ea,eb⟩:=et
  rw [if_neg (by decide),ea,Option.bind_some,eb,Option.bind_some,hl',Option.bind_some]
  dsimp only [lrK]
  match td with
  | d :: rest =>
    have h0:decide (a_i (⟨d :: rest,q3⟩:Sl Int) > 0) = true:=by simp [a_i]
    rw [p17_todo,Option.bind_some,h0,p7_okH]
    rfl
  | [] =>
    have h0:decide (a_i (⟨[],q3⟩:Sl Int) > 0) = false:=rfl
    by_cases he:e = 0
    · subst he
      have hs:st = s:=by
        rcases h3 with h | h | h
        · exact absurd h List.not_mem_nil
        · exact absurd rfl h
        · exact h
      subst hs
      rw [p17_ok,Option.bind_some,h0,p7_okH]
      simp [eqP]
      simp [capO,a_i]
    · rw [p17_err he,Option.bind_some,h0,p7_okH]
      simp [he,eqP]
      rfl
end Go.Proofs.Ytlbaijkolglheaa
