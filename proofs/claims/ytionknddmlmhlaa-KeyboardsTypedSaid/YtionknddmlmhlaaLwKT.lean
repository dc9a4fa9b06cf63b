/- KeyboardsTyped, in plain words. -/
import Derived.Test.YtionknddmlmhlaaKL99
set_option linter.unusedVariables false
set_option linter.unusedSimpArgs false
namespace Go.Proofs.Ytionknddmlmhlaa
open Go.RowKit
theorem p3_l1_eq (n:Nat) (t:(Sl Int) × KBt) (hL:t.1.xs.length ≤ 1000):∀ (m i:Nat) (b:Bool),t.1.xs.length - i < m → i ≤ t.1.xs.length → p3_l1 n t m i b = some (b || (t.1.xs.drop i).any fun k=>k == 225 || k == 229):=by
  intro m
  induction m with
  | zero=>intro i b hm;exact absurd hm (by omega)
  | succ m ih =>
    intro i b hm hi
    rw [p3_l1]
    by_cases hlt:i < t.1.xs.length
    · rw [c_e (by rw [a_z];omega),orO (b:=b) (c:=t.1.xs[i] == 225) (fun _=>by rw [c_4 hlt];rfl),Option.bind_some,orO (c:=t.1.xs[i] == 229) (fun _=>by rw [c_4 hlt];rfl),Option.bind_some,ckS (by omega) (by omega),Option.bind_some,a_Y,ih (i + 1) _ (by omega) (by omega),a_S hlt,List.any_cons,Bool.or_assoc,Bool.or_assoc]
      simp [Bool.or_assoc]
    · rw [c_l (by rw [a_z];omega),List.drop_eq_nil_of_le (by omega)]
      simp
theorem lst_any (a:List Bool):(d_o a 0).any (fun k=>k == 225 || k == 229) = (a_K a 225 || a_K a 229):=by
  rw [Bool.eq_iff_iff,List.any_eq_true]
  unfold d_o
  constructor
  · rintro ⟨x,hx,h⟩
    obtain ⟨k,hk,rfl⟩:=List.mem_map.1 hx
    have hb:=(sfx_mem.1 hk).2
    simp only [Bool.or_eq_true,beq_iff_eq] at h ⊢
    rcases h with h | h
    · left;rw [show k = 225 by omega] at hb;exact hb
    · right;rw [show k = 229 by omega] at hb;exact hb
  · intro h
    simp only [Bool.or_eq_true] at h
    rcases h with h | h
    · exact ⟨((225:Nat):Int),List.mem_map.2 ⟨225,sfx_mem.2 ⟨by omega,h⟩,rfl⟩,by decide⟩
    · exact ⟨((229:Nat):Int),List.mem_map.2 ⟨229,sfx_mem.2 ⟨by omega,h⟩,rfl⟩,by decide⟩
theorem p3_l3_eq (n:Nat) (x:Sl Ev) (i:Nat) (e:Ev) (he:idx x.xs (i:Int) = some e) (hk:0 ≤ e.1 ∧ e.1 ≤ 255):∀ (m j:Nat),8 - j < m → j ≤ 8 → p3_l3 n x i m j = some (.inl ()):=by
  intro m
  induction m with
  | zero=>intro j hm;exact absurd hm (by omega)
  | succ m ih =>
    intro j hm hj
    rw [p3_l3]
    by_cases hlt:j < 8
    · obtain ⟨v,h1,h2,_⟩:=e_l n (k:=e.1) (la:=(j:Int)) (((j:Int) % 2) == 1) hk (by omega)
      rw [c_e (by omega),he]
      simp only [Option.bind_some]
      rw [c_8 (by omega) (by decide) (u8R (by omega) (by omega))]
      simp only [Option.bind_some]
      rw [h1,h2,Option.bind_some,Option.bind_some,if_neg (by simp),d_2,show ((j:Int) + 1) % 256 = ((j + 1:Nat):Int) by omega]
      exact ih (j + 1) (by omega) (by omega)
    · rw [c_l (by omega)]
def typd (sh:Bool) (la:Int) (l:List Ev):List Int:=l.flatMap fun e=>match p14 0 e.1 sh la with | some v=>if (e.2.1 && v != 0) = true then [v] else [] | .none=>[]
theorem typd_cons (sh:Bool) (la:Int) (e:Ev) (l:List Ev) {v:Int} (h:p14 0 e.1 sh la = some v):typd sh la (e :: l) = (if (e.2.1 && v != 0) = true then [v] else []) ++ typd sh la l:=by
  unfold typd
  rw [List.flatMap_cons,h]
theorem p3_l2_eq (n:Nat) (hn:20 ≤ n) (x:Sl Ev) (sh:Bool) (y:KBt) (hx:∀ e ∈ x.xs,0 ≤ e.1 ∧ e.1 ≤ 255) (hl:x.xs.length ≤ 1000) (hla:0 ≤ y.2.2.2.1 ∧ y.2.2.2.1 ≤ 7):∀ (m i:Nat) (w:List Int),w.length ≤ i → x.xs.length - i < m → i ≤ x.xs.length →
    p3_l2 n x sh m i w y = some (.inl (w ++ typd sh y.2.2.2.1 (x.xs.drop i),y)):=by
  intro m
  induction m with
  | zero=>intro i w _ hm;exact absurd hm (by omega)
  | succ m ih =>
    intro i w hw hm hi
    rw [p3_l2]
    by_cases hlt:i < x.xs.length
    · have hmem:=List.getElem_mem hlt
      have he:idx x.xs (i:Int) = some x.xs[i]:=c_4 hlt
      rw [c_e (by rw [a_z];omega),a_S hlt]
      generalize x.xs[i] = e at hmem he
      have hk:=hx e hmem
      obtain ⟨v,h1,h2,h3⟩:=e_l n (k:=e.1) (la:=y.2.2.2.1) sh hk hla
      have h20:p14 0 e.1 sh y.2.2.2.1 = some v:=h2
      rw [typd_cons sh y.2.2.2.1 e _ h20,he]
      have e15:p15 n y = some (y.2.2.2.1,y):=rfl
      simp only [Option.bind_some]
      refine Eq.trans (congrArg (fun q=>Option.bind q _) (a₂:=some (v,y)) ?_) ?_
      · refine (congrArg (fun q=>Option.bind q _) e15).trans ?_
        rw [Option.bind_some,h2];rfl
      rw [Option.bind_some,b_2 (b:=e.2.1) (c:=v != 0) (fun _=>rfl),Option.bind_some]
      have e3:(if (e.2.1 && v != 0) = true then ((catS w [v]).bind fun s=>some s) else some w) = some (w ++ (if (e.2.1 && v != 0) = true then [v] else [])):=by
        cases (e.2.1 && v != 0) with
        | true=>rw [if_pos rfl,if_pos rfl,catS_ok' (by simp;omega)];rfl
        | false=>rw [if_neg (show ¬ (false = true) by decide),if_neg (show ¬ (false = true) by decide),List.append_nil]
      refine (congrArg (fun q=>Option.bind q _) e3).trans ?_
      have e4:=p3_l3_eq n x i e he hk n 0 (by omega) (by omega)
      rw [show ((0:Nat):Int) = 0 from rfl] at e4
      rw [Option.bind_some,e4,Option.bind_some,lrKl,ckS (by omega) (by omega),Option.bind_some,a_Y]
      refine (ih (i + 1) _ (by rw [List.length_append];split <;> simp <;> omega) (by omega) (by omega)).trans ?_
      rw [List.append_assoc]
    · rw [c_l (by rw [a_z];omega),List.drop_eq_nil_of_le (by omega)]
      show (some (Sum.inl (w,y)):Option ((List Int × KBt) ⊕ Bool)) = some (Sum.inl (w ++ [],y))
      rw [List.append_nil]
theorem p17_l1_eq (n:Nat) (x:Sl Ev) (y:KBt) (hy:y.1.length = 256) (hx:∀ e ∈ x.xs,0 ≤ e.1 ∧ e.1 ≤ 255) (hl:x.xs.length ≤ 1000) (hla:0 ≤ y.2.2.2.1 ∧ y.2.2.2.1 ≤ 7):∀ (m i:Nat) (w:List Int),w.length ≤ i → x.xs.length - i < m → i ≤ x.xs.length →
    p17_l1 n y x m i w = some (w ++ typd (a_K y.1 225 || a_K y.1 229) y.2.2.2.1 (x.xs.drop i)):=by
  intro m
  induction m with
  | zero=>intro i w _ hm;exact absurd hm (by omega)
  | succ m ih =>
    intro i w hw hm hi
    rw [p17_l1]
    by_cases hlt:i < x.xs.length
    · have hmem:=List.getElem_mem hlt
      have he:idx x.xs (i:Int) = some x.xs[i]:=c_4 hlt
      rw [c_e (by rw [a_z];omega),he,Option.bind_some,a_S hlt]
      generalize x.xs[i] = e at hmem he
      have hk:=hx e hmem
      obtain ⟨v,h1,h2,h3⟩:=e_l n (k:=e.1) (la:=y.2.2.2.1) (a_K y.1 225 || a_K y.1 229) hk hla
      have h20:p14 0 e.1 (a_K y.1 225 || a_K y.1 229) y.2.2.2.1 = some v:=h2
      have q1:p35 n y.1 225 = some (a_K y.1 225):=p35_eq (k:=225) (by omega)
      have q2:p35 n y.1 229 = some (a_K y.1 229):=p35_eq (k:=229) (by omega)
      rw [typd_cons _ y.2.2.2.1 e _ h20,q1,Option.bind_some,orO (b:=a_K y.1 225) (c:=a_K y.1 229) (fun _=>by rw [q2];rfl),Option.bind_some,h1,Option.bind_some,b_2 (b:=e.2.1) (c:=v != 0) (fun _=>rfl),Option.bind_some]
      have e3:(if (e.2.1 && v != 0) = true then ((c_p w [v]).bind fun s=>some s) else some w) = some (w ++ (if (e.2.1 && v != 0) = true then [v] else [])):=by
        cases (e.2.1 && v != 0) with
        | true=>rw [if_pos rfl,if_pos rfl,b_c (by omega)];rfl
        | false=>rw [if_neg (show ¬ (false = true) by decide),if_neg (show ¬ (false = true) by decide),List.append_nil]
      refine (congrArg (fun q=>Option.bind q _) e3).trans ?_
      rw [Option.bind_some,ckS (by omega) (by omega),Option.bind_some,a_Y]
      refine (ih (i + 1) _ (by rw [List.length_append];split <;> simp <;> omega) (by omega) (by omega)).trans ?_
      rw [List.append_assoc]
    · rw [c_l (by rw [a_z];omega),List.drop_eq_nil_of_le (by omega)]
      show some w = some (w ++ [])
      rw [List.append_nil]
theorem p3_main (x0:Bool × Int × Bool × Int) (x1:Sl Int) (x2:Sl Ev) (hk:0 ≤ x0.2.1 ∧ x0.2.1 ≤ 255) (hl:0 ≤ x0.2.2.2 ∧ x0.2.2.2 ≤ 255) (hb:Byts x1.xs) (hx:∀ e ∈ x2.xs,0 ≤ e.1 ∧ e.1 ≤ 255):p3 2000 x0 x1 x2 = some true:=by
  unfold p3
  by_cases hc:a_h x2 > 40
  · rw [c_e hc,p8_ok];rfl
  · rw [c_l hc]
    rw [a_z] at hc
    obtain ⟨m,e1,h,e2⟩:=map_ok x0 hk hl
    obtain ⟨vs,y',c',Y',g1,g2,g3,I'⟩:=feed_inv (n:=2000) (by decide) h hb (some (e_0 m x1.xs)) (by omega) (Inv.new m)
    have hla:0 ≤ y'.2.2.2.1 ∧ y'.2.2.2.1 ≤ 7:=by
      have h1:=I'.la
      have h2:=I'.lamps
      omega
    have e3:=p13_eq (n:=2000) (by decide) y' I'.dok.1
    have hL:(d_o y'.1 0).length ≤ 256:=by unfold d_o;rw [List.length_map];exact c_g _ _
    have e4:=p3_l1_eq 2000 (⟨d_o y'.1 0,.none⟩,y') (by show (d_o y'.1 0).length ≤ 1000;omega) 2000 0 false (by show (d_o y'.1 0).length - 0 < 2000;omega) (Nat.zero_le _)
    rw [show ((0:Nat):Int) = 0 from rfl,List.drop_zero,Bool.false_or] at e4
    simp only [lst_any] at e4
    have e5:=p3_l2_eq 2000 (by decide) x2 (a_K y'.1 225 || a_K y'.1 229) y' hx (by omega) hla 2000 0 [] (by simp) (by omega) (Nat.zero_le _)
    have e6:=p17_l1_eq 2000 x2 y' I'.dok.1 hx (by omega) hla 2000 0 [] (by simp) (by omega) (Nat.zero_le _)
    rw [show ((0:Nat):Int) = 0 from rfl,List.drop_zero,List.nil_append] at e5 e6
    have e7:p17 2000 y' x2 = some (typd (a_K y'.1 225 || a_K y'.1 229) y'.2.2.2.1 x2.xs,y'):=by
      unfold p17
      rw [I'.rdy,if_neg (show ¬ ((!true) = true) by decide)]
      refine (congrArg (fun q=>Option.bind q _) e6).trans ?_
      rw [Option.bind_some]
      have:(y'.1,y'.2.1,true,y'.2.2.2.1,y'.2.2.2.2.1,y'.2.2.2.2.2.1,y'.2.2.2.2.2.2.1,y'.2.2.2.2.2.2.2) = y':=by rw [← I'.rdy]
      rw [this]
    rw [e1,Option.bind_some,e2,Option.bind_some]
    show ((p11 2000 m x1).bind _) = _
    rw [p11_eq (by decide) h x1 hb,Option.bind_some]
    refine (congrArg (fun q=>Option.bind q _) g2).trans ?_
    rw [Option.bind_some]
    refine Eq.trans (congrArg (fun q=>Option.bind q _) (a₂:=some false) rfl) ?_
    rw [Option.bind_some,if_neg (show ¬ (false = true) by decide)]
    refine (congrArg (fun q=>Option.bind q _) e3).trans ?_
    rw [Option.bind_some]
    refine (congrArg (fun q=>Option.bind q _) e4).trans ?_
    rw [Option.bind_some]
    refine (congrArg (fun q=>Option.bind q _) e5).trans ?_
    rw [Option.bind_some,lrKl]
    refine (congrArg (fun q=>Option.bind q _) e7).trans ?_
    rw [Option.bind_some,decide_eq_true rfl,if_pos rfl,p8_ok]
    rfl
theorem p3_law {x0:Bool × Int × Bool × Int} {x1:Sl Int} {x2:Sl Ev} (F0:Fine (.st (.pair .bool (.pair (.int .u8) (.pair .bool (.int .u8))))) x0) (F1:Fine (.sl (.int .u8)) x1) (F2:Fine (.sl (.st (.pair (.int .u8) (.pair .bool .bool)))) x2):p3 2000 x0 x1 x2 = some true :=
  p3_main x0 x1 x2 (inR_u8.1 F0.2.1) (inR_u8.1 F0.2.2.2) (fun y hy=>inR_u8.1 (F1.2.2 y hy)) fun e he=>inR_u8.1 (F2.2.2 e he).1
end Go.Proofs.Ytionknddmlmhlaa
