/- Definitions: plain functions that the statements' own models compute. -/
import Derived.Test.YtionknddmlmhlaaPm2
set_option linter.unusedVariables false
namespace Go.Proofs.Ytionknddmlmhlaa
open Go.RowKit
def p18_l1 (n:Nat) (x0:Sl (Int × Bool × Bool)) (x1:Sl (Int × Bool × Bool)):Nat → (Int) → Option ((Unit) ⊕ ((Bool)))
 | 0,_=>.none
 | m + 1,a0=>if (decide (a0 < (a_m x0))) then ((idx x0.xs a0).bind fun c0=>(idx x1.xs a0).bind fun d0=>if (!(eqP gf1 c0 d0)) then (some (.inr false)) else (ckI .i64 (a0 + 1)).bind fun b0=>p18_l1 n x0 x1 m b0) else some (.inl ())
def p18 (n:Nat) (x0:Sl (Int × Bool × Bool)) (x1:Sl (Int × Bool × Bool)):Option ((Bool)) :=
 if ((a_m x0) != (a_m x1)) then (some false) else (p18_l1 n x0 x1 n 0).bind fun (a0:(Unit) ⊕ ((Bool)))=>lrK a0 some fun (b0:Unit)=>some true
def p20 (n:Nat) (y0:(List (List (List (Bool)))) × (List (Bool)) × Int × Int × Int):Option ((Sl (Int × Bool × Bool)) × ((List (List (List (Bool)))) × (List (Bool)) × Int × Int × Int)) :=
 if (y0.2.2.2.1 == 0) then (some ((⟨[],some 0⟩:Sl (Int × Bool × Bool)),y0)) else (ckI .i64 (y0.2.2.2.2 + 1)).bind fun a0=>(if (decide (a0 ≥ 20)) = true then (ckI .i64 (a0 - 20)).bind fun c0=>(c_z .i64 c0 3).bind fun d0=>some (d0 == 0) else some false).bind fun b0=>if b0 then (some ((⟨[(IntKind.wrap .u8 y0.2.2.2.1,true,true)],some 1⟩:Sl (Int × Bool × Bool)),(y0.1,y0.2.1,y0.2.2.1,y0.2.2.2.1,a0))) else some ((⟨[],some 0⟩:Sl (Int × Bool × Bool)),(y0.1,y0.2.1,y0.2.2.1,y0.2.2.2.1,a0))
def p21_l1 (n:Nat) (x1:List (Bool)):Nat → (Int) → (List (Int × Bool × Bool)) → ((List (List (List (Bool)))) × (List (Bool)) × Int × Int × Int) → Option ((List (Int × Bool × Bool)) × ((List (List (List (Bool)))) × (List (Bool)) × Int × Int × Int))
 | 0,_,_,_=>.none
 | m + 1,b0,c0,a0=>if (decide (b0 < 256)) then ((idx a0.2.1 b0).bind fun i0=>(if i0 = true then (idx x1 b0).bind fun j0=>some (!j0) else some false).bind fun g0=>(if g0 then ((b_Y c0 ([(IntKind.wrap .u8 b0,false,false)])).bind fun f0=>(if (b0 == a0.2.2.2.1) then (some (a0.1,a0.2.1,a0.2.2.1,0,a0.2.2.2.2)) else some a0).bind fun (e0:((List (List (List (Bool)))) × (List (Bool)) × Int × Int × Int))=>some (f0,e0)) else some (c0,a0)).bind fun (d0:(List (Int × Bool × Bool)) × ((List (List (List (Bool)))) × (List (Bool)) × Int × Int × Int))=>(ckI .i64 (b0 + 1)).bind fun h0=>p21_l1 n x1 m h0 d0.1 d0.2) else some (c0,a0)
def p21_l2 (n:Nat) (x1:List (Bool)):Nat → (Int) → (Int) → (List (Int × Bool × Bool)) → ((List (List (List (Bool)))) × (List (Bool)) × Int × Int × Int) → Option ((List (Int × Bool × Bool)) × (Int) × ((List (List (List (Bool)))) × (List (Bool)) × Int × Int × Int))
 | 0,_,_,_,_=>.none
 | m + 1,a0,e0,f0,b0=>if (decide (a0 < 256)) then ((idx x1 a0).bind fun n0=>(if n0 = true then (idx b0.2.1 a0).bind fun o0=>some (!o0) else some false).bind fun k0=>(if k0 then ((b_Y f0 ([(IntKind.wrap .u8 a0,true,false)])).bind fun j0=>(if (decide (a0 < 224)) = false then some (decide (a0 > 231)) else some true).bind fun l0=>(if l0 then (some a0) else some e0).bind fun (h0:(Int))=>(if (a0 == 83) then (some (b0.1,b0.2.1,a_k .xor .u8 b0.2.2.1 1,b0.2.2.2.1,b0.2.2.2.2)) else some b0).bind fun (c0:((List (List (List (Bool)))) × (List (Bool)) × Int × Int × Int))=>(if (a0 == 57) then (some (c0.1,c0.2.1,a_k .xor .u8 c0.2.2.1 2,c0.2.2.2.1,c0.2.2.2.2)) else some c0).bind fun (d0:((List (List (List (Bool)))) × (List (Bool)) × Int × Int × Int))=>(if (a0 == 71) then (some (d0.1,d0.2.1,a_k .xor .u8 d0.2.2.1 4,d0.2.2.2.1,d0.2.2.2.2)) else some d0).bind fun (i0:((List (List (List (Bool)))) × (List (Bool)) × Int × Int × Int))=>some (h0,j0,i0)) else some (e0,f0,b0)).bind fun (g0:(Int) × (List (Int × Bool × Bool)) × ((List (List (List (Bool)))) × (List (Bool)) × Int × Int × Int))=>(ckI .i64 (a0 + 1)).bind fun m0=>p21_l2 n x1 m m0 g0.1 g0.2.1 g0.2.2) else some (f0,e0,b0)
def p21 (n:Nat) (y0:(List (List (List (Bool)))) × (List (Bool)) × Int × Int × Int) (x1:List (Bool)):Option ((Sl (Int × Bool × Bool)) × ((List (List (List (Bool)))) × (List (Bool)) × Int × Int × Int)) :=
 (p21_l1 n x1 n 0 [] y0).bind fun (c0:(List (Int × Bool × Bool)) × ((List (List (List (Bool)))) × (List (Bool)) × Int × Int × Int)) =>
 (p21_l2 n x1 n 0 0 c0.1 c0.2).bind fun (a0:(List (Int × Bool × Bool)) × (Int) × ((List (List (List (Bool)))) × (List (Bool)) × Int × Int × Int)) =>
 (if (decide (a0.2.1 > 0)) then (some (a0.2.2.1,a0.2.2.2.1,a0.2.2.2.2.1,a0.2.1,0)) else some a0.2.2).bind fun (b0:((List (List (List (Bool)))) × (List (Bool)) × Int × Int × Int)) =>
 some ((⟨a0.1,.none⟩:Sl (Int × Bool × Bool)),(b0.1,x1,b0.2.2.1,b0.2.2.2.1,b0.2.2.2.2))
def p24_l1 (n:Nat) (x1:(Sl (Int × Int × Int × (Sl (Int)) × Int × Int × Int × Int × Int × Bool × Bool × Bool × Bool)) × (Sl (Int × Int × Int)) × Bool) (x3:Sl (Int × Int × Int × Int)):Nat → (Int) → (Bool) → (List (List (Bool))) → Option ((Bool) × (List (List (Bool))))
 | 0,_,_,_=>.none
 | m + 1,a0,c0,b0=>if (decide (a0 < (a_m x3))) then ((idx x3.xs a0).bind fun l0=>(idx x1.1.xs l0.1).bind fun m0=>(if m0.2.2.2.2.2.2.2.2.2.2.1 then ((idx x3.xs a0).bind fun n0=>(if (n0.2.2.1 == 458753) then (some true) else some c0).bind fun (h0:(Bool))=>some (0,h0)) else some (1,c0)).bind fun (d0:(Int) × (Bool))=>(idx x3.xs a0).bind fun o0=>(if (decide (o0.2.2.1 ≥ 458756)) = true then (idx x3.xs a0).bind fun p0=>some (decide (p0.2.2.1 ≤ 459007)) else some false).bind fun i0=>(if i0 = true then (idx x3.xs a0).bind fun q0=>some (q0.2.2.2 != 0) else some false).bind fun j0=>(if j0 then ((idx x3.xs a0).bind fun e0=>(idx b0 d0.1).bind fun f0=>(idx f0 (IntKind.wrap .u32 (e0.2.2.1 - 458752))).bind fun r0=>some (b0.set d0.1.toNat (f0.set (IntKind.wrap .u32 (e0.2.2.1 - 458752)).toNat true))) else some b0).bind fun (g0:(List (List (Bool))))=>(ckI .i64 (a0 + 1)).bind fun k0=>p24_l1 n x1 x3 m k0 d0.2 g0) else some (c0,b0)
def p24_l3 (n:Nat) (y0:(List (List (List (Bool)))) × (List (Bool)) × Int × Int × Int) (x2:Int) (d0:(List (List (Bool)))) (c0:Int):Nat → (Int) → (List (Bool)) → Option ((List (Bool)))
 | 0,_,_=>.none
 | m + 1,a0,b0=>if (decide (a0 < 256)) then ((idx b0 a0).bind fun h0=>(if h0 = false then (idx (y0.1.set x2.toNat d0) c0).bind fun i0=>(idx i0 0).bind fun j0=>(idx j0 a0).bind fun k0=>some k0 else some true).bind fun e0=>(if e0 = false then (idx (y0.1.set x2.toNat d0) c0).bind fun l0=>(idx l0 1).bind fun m0=>(idx m0 a0).bind fun n0=>some n0 else some true).bind fun f0=>(idx b0 a0).bind fun o0=>(ckI .i64 (a0 + 1)).bind fun g0=>p24_l3 n y0 x2 d0 c0 m g0 (b0.set a0.toNat f0)) else some b0
def p24_l2 (n:Nat) (y0:(List (List (List (Bool)))) × (List (Bool)) × Int × Int × Int) (x2:Int) (c0:(List (List (Bool)))):Nat → (Int) → (List (Bool)) → Option ((List (Bool)))
 | 0,_,_=>.none
 | m + 1,a0,b0=>if (decide (a0 < 3)) then ((p24_l3 n y0 x2 c0 a0 n 0 b0).bind fun (e0:(List (Bool)))=>(ckI .i64 (a0 + 1)).bind fun d0=>p24_l2 n y0 x2 c0 m d0 e0) else some b0
def p24 (n:Nat) (y0:(List (List (List (Bool)))) × (List (Bool)) × Int × Int × Int) (x1:(Sl (Int × Int × Int × (Sl (Int)) × Int × Int × Int × Int × Int × Bool × Bool × Bool × Bool)) × (Sl (Int × Int × Int)) × Bool) (x2:Int) (x3:Sl (Int × Int × Int × Int)):Option ((Sl (Int × Bool × Bool)) × ((List (List (List (Bool)))) × (List (Bool)) × Int × Int × Int)) :=
 (p24_l1 n x1 x3 n 0 false (List.replicate 2 ((List.replicate 256 (false:Bool)):List (Bool)))).bind fun (a0:(Bool) × (List (List (Bool)))) =>
 (if a0.1 then ((idx y0.1 x2).bind fun d0=>(idx d0 0).bind fun e0=>(idx a0.2 0).bind fun g0=>some (a0.2.set (0:Int).toNat e0)) else some a0.2).bind fun (b0:(List (List (Bool)))) =>
 (idx y0.1 x2).bind fun h0 =>
 (p24_l2 n y0 x2 b0 n 0 (List.replicate 256 (false:Bool))).bind fun (f0:(List (Bool))) =>
 (p21 n ((y0.1.set x2.toNat b0),y0.2.1,y0.2.2.1,y0.2.2.2.1,y0.2.2.2.2) f0).bind fun c0 =>
 some (c0.1,c0.2)
end Go.Proofs.Ytionknddmlmhlaa
