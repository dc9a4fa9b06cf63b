/- Networks: the law of limits. Plain theorems, no condition. -/
import Derived.Test.YtlgalcekkffhnaaPN9
import Derived.Test.YtlgalcekkffhnaaPl1
import Derived.Test.YtlgalcekkffhnaaLB2
set_option linter.unusedVariables false
set_option linter.unusedSimpArgs false
namespace Go.Proofs.Ytlgalcekkffhnaa
open Go.RowKit
theorem lrK_inlM {α β γ:Type} (a:α) (g:β → Option γ) (f:α → Option γ):lrK (.inl a) g f = f a:=rfl
theorem p13_l1_eqM (n:Nat) (x y:Sl (Sl Int)) (hr:a_r x.xs = a_r y.xs) (hL:x.xs.length ≤ 1000000):∀ (m k:Nat),x.xs.length < k + m → k ≤ x.xs.length → p13_l1 n x y m k = some (.inl ())
  | 0,k,h,hk=>by omega
  | m + 1,k,h,hk=>by
    have hl:x.xs.length = y.xs.length:=by have:=congrArg List.length hr;simpa [a_r] using this
    unfold p13_l1
    by_cases hlt:k < x.xs.length
    · have hy:k < y.xs.length:=by omega
      have e:x.xs[k].xs = y.xs[k].xs:=by
        have:=congrArg (fun l:List (List Int)=>l[k]?) hr
        simpa [a_r,List.getElem?_eq_getElem hlt,List.getElem?_eq_getElem hy] using this
      rw [if_pos (by simp [a_d];omega),a_I,a_I,List.getElem?_eq_getElem hlt,List.getElem?_eq_getElem hy,Option.bind_some,Option.bind_some,if_neg (by simp [e]),a_o (by omega),Option.bind_some,
        show ((k:Int) + 1) = ((k + 1:Nat):Int) by simp,p13_l1_eqM n x y hr hL m (k + 1) (by omega) (by omega)]
    · rw [if_neg (by simp [a_d];omega)]
theorem p13_eqM (n:Nat) (x y:Sl (Sl Int)) (hr:a_r x.xs = a_r y.xs) (hL:x.xs.length < n) (hL':x.xs.length ≤ 1000000):p13 n x y = some true:=by
  have hl:x.xs.length = y.xs.length:=by have:=congrArg List.length hr;simpa [a_r] using this
  have e:p13_l1 n x y n 0 = some (.inl ()):=p13_l1_eqM n x y hr hL' n 0 (by omega) (by omega)
  unfold p13
  rw [if_neg (by simp [a_d,hl]),e,Option.bind_some]
  rfl
set_option maxRecDepth 1000000 in
theorem lives5:p8 20000 = some true:=by kernel_rfl
set_option maxRecDepth 1000000 in
theorem lim2:p5 20000 2 = some true:=by kernel_rfl
def many (c:Nat):List (Sl Int):=(List.range c).map fun (i:Nat)=>(⟨[(i:Int)],some 1⟩:Sl Int)
def big:Sl Int:=⟨List.replicate 1514 0,some 1514⟩
set_option maxRecDepth 1000000 in
theorem many63:p5_l1 20000 (-1) 20000 0 [] = some (many 63):=by kernel_rfl
set_option maxRecDepth 1000000 in
theorem many64:p5_l1 20000 0 20000 0 [] = some (many 64):=by kernel_rfl
set_option maxRecDepth 1000000 in
theorem long10:p5_l2 20000 20000 0 [] = some (List.replicate 10 big):=by kernel_rfl
set_option maxRecDepth 1000000 in
theorem good63:(a_K (a_r (many 63))).2 = 0:=by kernel_rfl
set_option maxRecDepth 1000000 in
theorem good64:(a_K (a_r (many 64))).2 = 0:=by kernel_rfl
theorem Good.of_len {fs:List (List Int)} (h:(a_K fs).2 = 0):Good 0 fs:=by
  unfold a_K at h
  split at h
  · rename_i h1
    split at h
    · cases h
    · rename_i h2
      exact ⟨by omega,h1,by omega,by omega⟩
  · cases h
theorem Good.len {fs:List (List Int)} (h:Good 0 fs):(a_K fs).2 = 0:=by
  unfold a_K
  rw [if_pos h.ok,if_neg (by have:=h.few;have:=h.small;omega)]
theorem body_rep (A:List Int) (fs:List (List Int)):∀ k,(body (List.replicate k A ++ fs)).length = k * pad A.length + (body fs).length
  | 0=>by simp
  | k + 1=>by rw [List.replicate_succ,List.cons_append,a_D,body_rep A fs k,Nat.succ_mul];omega
def fsL (m:Nat):List (List Int):=List.replicate 10 (List.replicate 1514 0) ++ [List.replicate m 0]
theorem raws_long (m:Nat):a_r (List.replicate 10 big ++ [(⟨List.replicate m (0:Int),some m⟩:Sl Int)]) = fsL m:=by
  unfold a_r fsL
  rw [List.map_append,List.map_replicate]
  rfl
theorem total_long (m:Nat):a_J (fsL m) = 15228 + pad m:=by
  unfold a_J fsL
  rw [body_rep,List.length_append,List.length_replicate,List.length_replicate,List.length_singleton,a_D,List.length_replicate]
  show 24 + 4 * (10 + 1) + (10 * pad 1514 + (pad m + 0)) = _
  unfold pad
  omega
theorem good_long {m:Nat} (h1:1 ≤ m) (h2:m ≤ 1156):Good 0 (fsL m):=by
  refine ⟨by omega,fun f hf=>?_,?_,?_⟩
  · unfold fsL at hf
    rcases List.mem_append.1 hf with hf | hf
    · rw [List.eq_of_mem_replicate hf,List.length_replicate];omega
    · rw [List.mem_singleton.1 hf,List.length_replicate];omega
  · unfold fsL
    rw [List.length_append,List.length_replicate,List.length_singleton];decide
  · rw [total_long];unfold pad;omega
theorem good_one {m:Nat} (h1:1 ≤ m) (h2:m ≤ 1514):Good 0 (a_r [(⟨List.replicate m (0:Int),some m⟩:Sl Int)]):=by
  have e:a_r [(⟨List.replicate m (0:Int),some m⟩:Sl Int)] = [List.replicate m 0]:=rfl
  rw [e]
  refine ⟨by omega,fun f hf=>?_,by rw [List.length_singleton];decide,?_⟩
  · rw [List.mem_singleton.1 hf,List.length_replicate];omega
  · unfold a_J
    rw [a_D,List.length_replicate,List.length_singleton]
    show 24 + 4 * 1 + (pad m + 0) ≤ _
    unfold pad
    omega
theorem enc_good {l:Sl (Sl Int)} (h:Good 0 (a_r l.xs)):p11 20000 (0,l) = some (⟨b_m 0 (a_r l.xs),some (a_J (a_r l.xs))⟩,0):=by
  have hl:(a_r l.xs).length = l.xs.length:=by simp [a_r]
  have:=h.few
  rw [p11_eq 20000 0 l (by omega) (by omega) (by omega) (by omega),if_pos h.len]
theorem raws_outs (fs:List (List Int)):a_r (b_X fs) = fs:=by unfold a_r b_X;rw [List.map_map];exact List.map_id fs
theorem lim_of {x n:Int} {c m s:Nat} (hx:b_D .u8 x 3 = some (n + 1)) (hn:n = -1 ∨ n = 0) (hm:1156 + 4 * n = (m:Int)) (hs:1514 + n = (s:Int)) (hc:p5_l1 20000 n 20000 0 [] = some (many c)) (hg:(a_K (a_r (many c))).2 = 0):p5 20000 x = some true:=by
  have g1:=Good.of_len hg
  have g2:Good 0 (fsL m):=good_long (by omega) (by omega)
  have g3:=good_one (m:=s) (by omega) (by omega)
  have e1:=enc_good (l:=⟨many c,.none⟩) g1
  have e2:=enc_good (l:=⟨List.replicate 10 big ++ [(⟨List.replicate m (0:Int),some m⟩:Sl Int)],b_f .none (List.replicate 10 big ++ [(⟨List.replicate m (0:Int),some m⟩:Sl Int)]).length⟩) (by show Good 0 (a_r (List.replicate 10 big ++ [_]));rw [raws_long];exact g2)
  have e3:=enc_good (l:=⟨[(⟨List.replicate s (0:Int),some s⟩:Sl Int)],some 1⟩) g3
  rw [show a_r (⟨List.replicate 10 big ++ [(⟨List.replicate m (0:Int),some m⟩:Sl Int)],b_f .none (List.replicate 10 big ++ [(⟨List.replicate m (0:Int),some m⟩:Sl Int)]).length⟩:Sl (Sl Int)).xs = fsL m from raws_long m] at e2
  unfold p5
  rw [hx,Option.bind_some,a_o (by omega),Option.bind_some,show n + 1 - 1 = n by omega,if_neg (by rw [decide_eq_true_eq];omega),Option.bind_some,hc,Option.bind_some,long10,Option.bind_some,a_o (by omega),Option.bind_some,a_o (by omega),Option.bind_some,hm,d_P (by omega) (by omega) (by omega),Option.bind_some,Int.toNat_natCast]
  dsimp only
  rw [b_i (by rw [List.length_replicate,List.length_singleton];decide),Option.bind_some,e1,Option.bind_some,e2,Option.bind_some,a_o (by omega),Option.bind_some,hs,d_P (by omega) (by omega) (by omega),Option.bind_some,Int.toNat_natCast]
  dsimp only
  rw [e3,Option.bind_some]
  dsimp only
  rw [show decide (n ≤ 0) = true from decide_eq_true (by omega),show decide (n > 0) = false from decide_eq_false (by omega)]
  rw [p12_eq g1 20000 _ (by decide),p12_eq g2 20000 _ (by decide),lives5]
  rw [show ((0:Int) != 0) = false from rfl,if_pos rfl,Option.bind_some,show ((0:Int) == 0) = true from rfl,show ((0:Int) == 1) = false from rfl,if_pos rfl,Option.bind_some,if_pos rfl,Option.bind_some,show (if (!(true == true)) = false then some (!(false == false)) else some true:Option Bool) = some false from rfl,Option.bind_some,if_neg (by decide),Option.bind_some]
  dsimp only
  rw [p13_eqM 20000 _ _ (by show a_r (b_X (a_r (many c))) = a_r (many c);exact raws_outs _) (by have:=g1.few;show (b_X (a_r (many c))).length < 20000;unfold b_X;rw [List.length_map];omega) (by have:=g1.few;show (b_X (a_r (many c))).length ≤ 1000000;unfold b_X;rw [List.length_map];omega)]
  rw [p13_eqM 20000 _ _ (by show a_r (b_X (fsL m)) = a_r (List.replicate 10 big ++ [(⟨List.replicate m (0:Int),some m⟩:Sl Int)]);rw [raws_outs,raws_long]) (by have:=g2.few;show (b_X (fsL m)).length < 20000;unfold b_X;rw [List.length_map];omega) (by have:=g2.few;show (b_X (fsL m)).length ≤ 1000000;unfold b_X;rw [List.length_map];omega)]
  rw [show a_d (⟨b_m 0 (fsL m),some (a_J (fsL m))⟩:Sl Int) = ((15228 + pad m:Nat):Int) by rw [← total_long,← b_O 0];rfl]
  rcases hn with rfl | rfl
  · rfl
  · have:m = 1156:=by omega
    subst this
    rfl
theorem p5_law {x:Int} (G0:InR .u8 x):p5 20000 x = some true:=by
  have hx:=inR_u8.1 G0
  have hr:b_D .u8 x 3 = some (x % 3):=a_S (by omega) (by decide) (inR_u8.2 (by omega))
  rcases (by omega:x % 3 = 0 ∨ x % 3 = 1 ∨ x % 3 = 2) with h | h | h
  · exact lim_of (n:=-1) (c:=63) (m:=1152) (s:=1513) (by rw [hr,h];rfl) (.inl rfl) rfl rfl many63 good63
  · exact lim_of (n:=0) (c:=64) (m:=1156) (s:=1514) (by rw [hr,h];rfl) (.inr rfl) rfl rfl many64 good64
  · have e:p5 20000 x = p5 20000 2:=by
      unfold p5
      rw [hr,h,show b_D .u8 2 3 = some 2 from rfl]
    rw [e];exact lim2
end Go.Proofs.Ytlgalcekkffhnaa
