/- My texts AIspecY, AVref17, AIref17, AIref17b, AIturn0, AIturn1, AIturn2, AIturn3, AIspecZ, AIraw, AIraw2, AVreduces, AIturn4, AIturn5, AVturn, AIturn6, AVraw, in one. -/
import Derived.Test.YtppdoggngcpcpaaGreatDoorK15
namespace Go.Dy
def hLo (n : Int) : Dyd := shE (piCut n.toNat) (-1)
def hHi (n : Int) : Dyd := shE (addD (piCut n.toNat) (unitOf (2 - n))) (-1)
def jLo (n : Int) (x : Dyd) : Dyd := quoE x (bif x.neg then hLo n else hHi n) n false
def jHi (n : Int) (x : Dyd) : Dyd := quoE x (bif x.neg then hHi n else hLo n) n true
def wLo (n : Int) (x : Dyd) : Dyd := floorD (addD (jLo n x) (unitOf (-1)))
def wHi (n : Int) (x : Dyd) : Dyd := floorD (addD (jHi n x) (unitOf (-1)))
def wOk (n : Int) (x : Dyd) : Bool := sameD (wLo n x) (wHi n x)
def vLo (n : Int) (x : Dyd) : Dyd := subD x (bif (wLo n x).neg then mulD (wLo n x) (hLo n) else mulD (wLo n x) (hHi n))
def vHi (n : Int) (x : Dyd) : Dyd := subD x (bif (wLo n x).neg then mulD (wLo n x) (hHi n) else mulD (wLo n x) (hLo n))
def turnK (n : Int) (x : Dyd) : Dyd := if topD x < 0 then zeroD else bif wOk n x then wLo n x else zeroD
def turnLo (n : Int) (x : Dyd) : Dyd := if topD x < 0 then x else bif wOk n x then vLo n x else zeroD
def turnHi (n : Int) (x : Dyd) : Dyd := if topD x < 0 then x else bif wOk n x then vHi n x else zeroD
def turnOk (n : Int) (x : Dyd) : Bool := if topD x < 0 then true else wOk n x
end Go.Dy
namespace Go.AI
open Go Go.RowKit Go.Proofs
set_option linter.unusedVariables false
def rQuoW : List AV → Option Spec
 | [.agg [.bool s, .dig [1] m, .num .i64 e], .agg [.bool s', .dig [2] m', .num .i64 e'], .num .i64 k] =>
  some ⟨some (Dy.mayD ⟨s, m, e⟩ = true ∧ Dy.mayD ⟨s', m', e'⟩ = true ∧ m' ≠ [] ∧ 1 ≤ k ∧ k ≤ 10400 ∧ m.length ≤ 1000 ∧ m'.length ≤ 1000), .tup [avD [0] (Dy.quoF ⟨s, m, e⟩ ⟨s', m', e'⟩ k).1, .bool (Dy.quoF ⟨s, m, e⟩ ⟨s', m', e'⟩ k).2]⟩
 | _ => none
def rQuoE : List AV → Option Spec
 | [.agg [.bool s, .dig [1] m, .num .i64 e], .agg [.bool s', .dig [2] m', .num .i64 e'], .num .i64 k, .bool high] =>
  some ⟨some (Dy.mayD ⟨s, m, e⟩ = true ∧ Dy.mayD ⟨s', m', e'⟩ = true ∧ m' ≠ [] ∧ 1 ≤ k ∧ k ≤ 10400 ∧ m.length ≤ 1000 ∧ m'.length ≤ 1000 ∧ -100000 ≤ e ∧ e ≤ 100000 ∧ -100000 ≤ e' ∧ e' ≤ 100000), avD [0] (Dy.quoE ⟨s, m, e⟩ ⟨s', m', e'⟩ k high)⟩
 | _ => none
def rPoint : List AV → Option Spec
 | [.agg [.bool s, .dig [1] m, .num .i64 e]] => some ⟨none, avS [0, 1] ⟨s, m, e⟩ ⟨s, m, e⟩⟩
 | _ => none
def rShiftS : List AV → Option Spec
 | [.agg [.bool s, .dig [1] m, .num .i64 e, .bool s', .dig [1] m', .num .i64 e'], .num .i64 n] =>
  some ⟨some (-1000000 ≤ e ∧ e ≤ 1000000 ∧ -1000000 ≤ e' ∧ e' ≤ 1000000 ∧ -1000000 ≤ n ∧ n ≤ 1000000), avS [0, 1, 2] (Dy.shE ⟨s, m, e⟩ n) (Dy.shE ⟨s', m', e'⟩ n)⟩
 | _ => none
def rPiS : List AV → Option Spec
 | [.num .i64 n] => some ⟨some (1 ≤ n ∧ n ≤ 10400), avS [0] (Dy.piCut n.toNat) (Dy.addD (Dy.piCut n.toNat) (Dy.unitOf (2 - n)))⟩
 | _ => none
def rAgrees : List AV → Option Spec
 | [.agg [.bool s, .dig [1] m, .num .i64 e, .bool s', .dig [1] m', .num .i64 e'], .num .i64 n] =>
  some ⟨some (Dy.mayD ⟨s, m, e⟩ = true ∧ Dy.mayD ⟨s', m', e'⟩ = true ∧ 1 ≤ n), .tup [avD [0, 1, 2] (bif decide (Dy.signD ⟨s, m, e⟩ * Dy.signD ⟨s', m', e'⟩ ≤ 0) then Dy.zeroD else (Dy.cutR ⟨s, m, e⟩ n).1),
   .bool (bif decide (Dy.signD ⟨s, m, e⟩ * Dy.signD ⟨s', m', e'⟩ ≤ 0) then false else Dy.sameD (Dy.cutR ⟨s, m, e⟩ n).1 (Dy.cutR ⟨s', m', e'⟩ n).1)]⟩
 | _ => none
def rTurned : List AV → Option Spec
 | [.agg [.bool s, .dig [1] m, .num .i64 e], .num .i64 n] =>
  some ⟨some (Dy.mayD ⟨s, m, e⟩ = true ∧ m ≠ [] ∧ m.length ≤ 40 ∧ Dy.topD ⟨s, m, e⟩ ≤ 1100 ∧ 20 ≤ n ∧ n ≤ 10400), .tup [avD [0, 1, 2] (Dy.turnK n ⟨s, m, e⟩), avS [0, 1, 2] (Dy.turnLo n ⟨s, m, e⟩) (Dy.turnHi n ⟨s, m, e⟩), .bool (Dy.turnOk n ⟨s, m, e⟩)]⟩
 | _ => none
def tabY0 : List (Nat × (List AV → Option Spec)) := (16, rQuoW) :: (64, rPoint) :: (65, rShiftS) :: (66, rPiS) :: (34, rAgrees) :: tabW3
def tabY1 : List (Nat × (List AV → Option Spec)) := (67, rQuoE) :: tabY0
def tabY2 : List (Nat × (List AV → Option Spec)) := (33, rTurned) :: tabY1
end Go.AI

namespace Go.AI
open Dy IntKind
open Go Go.RowKit Go.Proofs
set_option linter.unusedVariables false
set_option maxRecDepth 100000
set_option maxHeartbeats 0
theorem vc_ref17_Point (s : Bool) (m : List Nat) (e : Int) (Q : AV → Prop) : (evF Tryz.prog (look tabW3) (lam []) true Tryz.f64 [.agg [.bool s, .dig [1] m, .num .i64 e]] Q) = (Q (.agg [.bool s, .dig [0, 1] m, .num .i64 e, .bool s, .dig [0, 1] m, .num .i64 e])) := by kernel_rfl
theorem vc_ref17_Shift (s : Bool) (s' : Bool) (m : List Nat) (m' : List Nat) (e : Int) (e' : Int) (n : Int) (Q : AV → Prop) : (evF Tryz.prog (look tabW3) (lam []) true Tryz.f65 [.agg [.bool s, .dig [1] m, .num .i64 e, .bool s', .dig [1] m', .num .i64 e'], .num .i64 n] Q) = ((m = [] ∨ -1099511627776 ≤ e ∧ e ≤ 1099511627776 ∧ -1099511627776 ≤ n ∧ n ≤ 1099511627776) ∧ ∀ (b1 : Bool), b1 = s → ∀ (l2 : List Nat), l2 = m → ∀ (n3 : Int), (n3 = if m = [] then e else e + n) → (m' = [] ∨ -1099511627776 ≤ e' ∧ e' ≤ (1099511627776 : Int) ∧ -1099511627776 ≤ n ∧ n ≤ 1099511627776) ∧ ∀ (b4 : Bool), b4 = s' → ∀ (l5 : List Nat), l5 = m' → ∀ (n6 : Int), (n6 = if m' = [] then e' else e' + n) → Q (.agg [.bool b1, .dig [0, 1, 2] l2, .num .i64 n3, .bool b4, .dig [0, 1, 2] l5, .num .i64 n6])) := by kernel_rfl
theorem vc_ref17_Pi (n : Int) (Q : AV → Prop) : (evF Tryz.prog (look tabW3) (lam []) false Tryz.f66 [.num .i64 n] Q) = ((1 ≤ n ∧ n ≤ 10800) ∧ dyF (piCut n.toNat) fun b1 l2 n3 => dyF (unitOf (i64.wrap ((2 : Int) - n))) fun b4 l5 n6 => (mayD (Dyd.mk b1 l2 n3) = true ∧ mayD (Dyd.mk b4 l5 n6) = true ∧ (l2 = [] ∨ l5 = [] ∨ -300000 ≤ n3 - n6 ∧ n3 - n6 ≤ 300000)) ∧ dyF (addD (Dyd.mk b1 l2 n3) (Dyd.mk b4 l5 n6)) fun b7 l8 n9 => Q (.agg [.bool b1, .dig [0] l2, .num .i64 n3, .bool b7, .dig [0] l8, .num .i64 n9])) := by kernel_rfl
theorem vc_ref17_Agrees (s : Bool) (s' : Bool) (m : List Nat) (m' : List Nat) (e : Int) (e' : Int) (n : Int) (Q : AV → Prop) : (evF Tryz.prog (look tabW3) (lam []) true Tryz.f34 [.agg [.bool s, .dig [1] m, .num .i64 e, .bool s', .dig [1] m', .num .i64 e'], .num .i64 n] Q) = (bif decide (i64.wrap (signD (Dyd.mk s m e) * signD (Dyd.mk s' m' e')) ≤ (0 : Int)) then Q (.tup [.agg [.bool false, .dig [0, 1, 2] [], .num .i64 0], .bool false]) else (dg (val m) = m ∧ m.length ≤ 4096 ∧ tz (val m) = (0 : Nat) ∧ -1099511627776 ≤ e ∧ e + (131072 : Int) ≤ (1099511627776 : Int) ∧ 1 ≤ n) ∧ dyF (cutR (Dyd.mk s m e) n).1 fun b1 l2 n3 => ∀ (b4 : Bool), b4 = (cutR (Dyd.mk s m e) n).snd → (dg (val m') = m' ∧ m'.length ≤ 4096 ∧ tz (val m') = (0 : Nat) ∧ -1099511627776 ≤ e' ∧ e' + (131072 : Int) ≤ (1099511627776 : Int) ∧ 1 ≤ n) ∧ dyF (cutR (Dyd.mk s' m' e') n).1 fun b5 l6 n7 => ∀ (b8 : Bool), b8 = (cutR (Dyd.mk s' m' e') n).snd → Q (.tup [.agg [.bool b1, .dig [0, 1, 2] l2, .num .i64 n3], .bool (sameD (Dyd.mk b1 l2 n3) (Dyd.mk b5 l6 n7))])) := by kernel_rfl
theorem vc_ref17_quo (s : Bool) (s' : Bool) (h : Bool) (m : List Nat) (m' : List Nat) (e : Int) (e' : Int) (k : Int) (Q : AV → Prop) : (evF Tryz.prog (look tabY0) (lam []) false Tryz.f67 [.agg [.bool s, .dig [1] m, .num .i64 e], .agg [.bool s', .dig [2] m', .num .i64 e'], .num .i64 k, .bool h] Q) = ((mayD (Dyd.mk s m e) = true ∧ mayD (Dyd.mk s' m' e') = true ∧ m' ≠ [] ∧ 1 ≤ k ∧ k ≤ 10400 ∧ m.length ≤ 1000 ∧ m'.length ≤ 1000) ∧ dyF (quoF (Dyd.mk s m e) (Dyd.mk s' m' e') k).1 fun b1 l2 n3 => ∀ (b4 : Bool), b4 = (quoF (Dyd.mk s m e) (Dyd.mk s' m' e') k).snd → bif b4 then bif h then bif !b1 then (dg (val l2) = l2 ∧ l2.length ≤ 1048576 ∧ -1099511627776 ≤ n3 ∧ n3 ≤ 1099511627776) ∧ dyF (unitOf (i64.wrap (topD (Dyd.mk b1 l2 n3) - k))) fun b5 l6 n7 => (mayD (Dyd.mk b1 l2 n3) = true ∧ mayD (Dyd.mk b5 l6 n7) = true ∧ (l2 = [] ∨ l6 = [] ∨ -300000 ≤ n3 - n7 ∧ n3 - n7 ≤ 300000)) ∧ dyF (addD (Dyd.mk b1 l2 n3) (Dyd.mk b5 l6 n7)) fun b8 l9 n10 => Q (.agg [.bool b8, .dig [0] l9, .num .i64 n10]) else bif b4 then bif !h then bif b1 then (dg (val l2) = l2 ∧ l2.length ≤ 1048576 ∧ -1099511627776 ≤ n3 ∧ n3 ≤ 1099511627776) ∧ dyF (unitOf (i64.wrap (topD (Dyd.mk b1 l2 n3) - k))) fun b11 l12 n13 => (mayD (Dyd.mk b1 l2 n3) = true ∧ mayD (Dyd.mk b11 l12 n13) = true ∧ (l2 = [] ∨ l12 = [] ∨ -300000 ≤ n3 - n13 ∧ n3 - n13 ≤ 300000)) ∧ dyF (addD (Dyd.mk b1 l2 n3) (negD (Dyd.mk b11 l12 n13))) fun b14 l15 n16 => Q (.agg [.bool b14, .dig [0] l15, .num .i64 n16]) else Q (.agg [.bool b1, .dig [0] l2, .num .i64 n3]) else Q (.agg [.bool b1, .dig [0] l2, .num .i64 n3]) else Q (.agg [.bool b1, .dig [0] l2, .num .i64 n3]) else bif b4 then bif !h then bif b1 then (dg (val l2) = l2 ∧ l2.length ≤ 1048576 ∧ -1099511627776 ≤ n3 ∧ n3 ≤ 1099511627776) ∧ dyF (unitOf (i64.wrap (topD (Dyd.mk b1 l2 n3) - k))) fun b17 l18 n19 => (mayD (Dyd.mk b1 l2 n3) = true ∧ mayD (Dyd.mk b17 l18 n19) = true ∧ (l2 = [] ∨ l18 = [] ∨ -300000 ≤ n3 - n19 ∧ n3 - n19 ≤ 300000)) ∧ dyF (addD (Dyd.mk b1 l2 n3) (negD (Dyd.mk b17 l18 n19))) fun b20 l21 n22 => Q (.agg [.bool b20, .dig [0] l21, .num .i64 n22]) else Q (.agg [.bool b1, .dig [0] l2, .num .i64 n3]) else Q (.agg [.bool b1, .dig [0] l2, .num .i64 n3]) else Q (.agg [.bool b1, .dig [0] l2, .num .i64 n3]) else bif b4 then bif !h then bif b1 then (dg (val l2) = l2 ∧ l2.length ≤ 1048576 ∧ -1099511627776 ≤ n3 ∧ n3 ≤ 1099511627776) ∧ dyF (unitOf (i64.wrap (topD (Dyd.mk b1 l2 n3) - k))) fun b23 l24 n25 => (mayD (Dyd.mk b1 l2 n3) = true ∧ mayD (Dyd.mk b23 l24 n25) = true ∧ (l2 = [] ∨ l24 = [] ∨ -300000 ≤ n3 - n25 ∧ n3 - n25 ≤ 300000)) ∧ dyF (addD (Dyd.mk b1 l2 n3) (negD (Dyd.mk b23 l24 n25))) fun b26 l27 n28 => Q (.agg [.bool b26, .dig [0] l27, .num .i64 n28]) else Q (.agg [.bool b1, .dig [0] l2, .num .i64 n3]) else Q (.agg [.bool b1, .dig [0] l2, .num .i64 n3]) else Q (.agg [.bool b1, .dig [0] l2, .num .i64 n3])) := by kernel_rfl
theorem vc_ref17_Turned (s : Bool) (m : List Nat) (e : Int) (n : Int) (Q : AV → Prop) : (evF Tryz.prog (look tabY1) (lam []) true Tryz.f33 [.agg [.bool s, .dig [1] m, .num .i64 e], .num .i64 n] Q) = ((dg (val m) = m ∧ m.length ≤ 1048576 ∧ -1099511627776 ≤ e ∧ e ≤ 1099511627776) ∧ bif decide (topD (Dyd.mk s m e) ≤ (-1 : Int)) then dyF (Dyd.mk s m e) fun b1 l2 n3 => dyF (Dyd.mk s m e) fun b4 l5 n6 => Q (.tup [.agg [.bool false, .dig [0, 1, 2] [], .num .i64 0], .agg [.bool b1, .dig [0, 1, 2] l2, .num .i64 n3, .bool b4, .dig [0, 1, 2] l5, .num .i64 n6], .bool true]) else bif decide (signD (Dyd.mk s m e) = (0 : Int)) then dyF (Dyd.mk s m e) fun b7 l8 n9 => dyF (Dyd.mk s m e) fun b10 l11 n12 => Q (.tup [.agg [.bool false, .dig [0, 1, 2] [], .num .i64 0], .agg [.bool b7, .dig [0, 1, 2] l8, .num .i64 n9, .bool b10, .dig [0, 1, 2] l11, .num .i64 n12], .bool true]) else (1 ≤ n ∧ n ≤ 10400) ∧ dyF (piCut n.toNat) fun b13 l14 n15 => dyF (addD (piCut n.toNat) (unitOf ((2 : Int) - n))) fun b16 l17 n18 => (-1000000 ≤ n15 ∧ n15 ≤ 1000000 ∧ -1000000 ≤ n18 ∧ n18 ≤ 1000000 ∧ (-1000000 : Int) ≤ (-1 : Int) ∧ (-1 : Int) ≤ (1000000 : Int)) ∧ dyF (shE (Dyd.mk b13 l14 n15) (-1 : Int)) fun b19 l20 n21 => dyF (shE (Dyd.mk b16 l17 n18) (-1 : Int)) fun b22 l23 n24 => dyF (Dyd.mk s m e) fun b25 l26 n27 => dyF (Dyd.mk s m e) fun b28 l29 n30 => (mayD (Dyd.mk s m e) = true ∧ mayD (Dyd.mk b22 l23 n24) = true ∧ l23 ≠ [] ∧ 1 ≤ n ∧ n ≤ 10400 ∧ m.length ≤ 1000 ∧ l23.length ≤ 1000 ∧ -100000 ≤ e ∧ e ≤ 100000 ∧ -100000 ≤ n24 ∧ n24 ≤ 100000) ∧ dyF (quoE (Dyd.mk s m e) (Dyd.mk b22 l23 n24) n false) fun b31 l32 n33 => (mayD (Dyd.mk s m e) = true ∧ mayD (Dyd.mk b19 l20 n21) = true ∧ l20 ≠ [] ∧ 1 ≤ n ∧ n ≤ 10400 ∧ m.length ≤ 1000 ∧ l20.length ≤ 1000 ∧ -100000 ≤ e ∧ e ≤ 100000 ∧ -100000 ≤ n21 ∧ n21 ≤ 100000) ∧ dyF (quoE (Dyd.mk s m e) (Dyd.mk b19 l20 n21) n true) fun b34 l35 n36 => bif s then (mayD (Dyd.mk s m e) = true ∧ mayD (Dyd.mk b19 l20 n21) = true ∧ l20 ≠ [] ∧ 1 ≤ n ∧ n ≤ 10400 ∧ m.length ≤ 1000 ∧ l20.length ≤ 1000 ∧ -100000 ≤ e ∧ e ≤ 100000 ∧ -100000 ≤ n21 ∧ n21 ≤ 100000) ∧ dyF (quoE (Dyd.mk s m e) (Dyd.mk b19 l20 n21) n false) fun b37 l38 n39 => (mayD (Dyd.mk s m e) = true ∧ mayD (Dyd.mk b22 l23 n24) = true ∧ l23 ≠ [] ∧ 1 ≤ n ∧ n ≤ 10400 ∧ m.length ≤ 1000 ∧ l23.length ≤ 1000 ∧ -100000 ≤ e ∧ e ≤ 100000 ∧ -100000 ≤ n24 ∧ n24 ≤ 100000) ∧ dyF (quoE (Dyd.mk s m e) (Dyd.mk b22 l23 n24) n true) fun b40 l41 n42 => dyF (unitOf (-1 : Int)) fun b43 l44 n45 => (mayD (Dyd.mk b37 l38 n39) = true ∧ mayD (Dyd.mk b43 l44 n45) = true ∧ (l38 = [] ∨ l44 = [] ∨ -300000 ≤ n39 - n45 ∧ n39 - n45 ≤ 300000)) ∧ dyF (addD (Dyd.mk b37 l38 n39) (Dyd.mk b43 l44 n45)) fun b46 l47 n48 => mayD (Dyd.mk b46 l47 n48) = true ∧ dyF (floorD (Dyd.mk b46 l47 n48)) fun b49 l50 n51 => (mayD (Dyd.mk b40 l41 n42) = true ∧ mayD (Dyd.mk b43 l44 n45) = true ∧ (l41 = [] ∨ l44 = [] ∨ -300000 ≤ n42 - n45 ∧ n42 - n45 ≤ 300000)) ∧ dyF (addD (Dyd.mk b40 l41 n42) (Dyd.mk b43 l44 n45)) fun b52 l53 n54 => mayD (Dyd.mk b52 l53 n54) = true ∧ dyF (floorD (Dyd.mk b52 l53 n54)) fun b55 l56 n57 => bif !sameD (Dyd.mk b49 l50 n51) (Dyd.mk b55 l56 n57) then Q (.tup [.agg [.bool false, .dig [0, 1, 2] [], .num .i64 0], .agg [.bool false, .dig [0, 1, 2] [], .num .i64 0, .bool false, .dig [0, 1, 2] [], .num .i64 0], .bool false]) else (mayD (Dyd.mk b49 l50 n51) = true ∧ mayD (Dyd.mk b19 l20 n21) = true) ∧ dyF (mulD (Dyd.mk b49 l50 n51) (Dyd.mk b19 l20 n21)) fun b58 l59 n60 => (mayD (Dyd.mk b49 l50 n51) = true ∧ mayD (Dyd.mk b22 l23 n24) = true) ∧ dyF (mulD (Dyd.mk b49 l50 n51) (Dyd.mk b22 l23 n24)) fun b61 l62 n63 => bif b49 then (mayD (Dyd.mk s m e) = true ∧ mayD (Dyd.mk b58 l59 n60) = true ∧ (m = [] ∨ l59 = [] ∨ -300000 ≤ e - n60 ∧ e - n60 ≤ 300000)) ∧ dyF (addD (Dyd.mk s m e) (negD (Dyd.mk b58 l59 n60))) fun b64 l65 n66 => (mayD (Dyd.mk s m e) = true ∧ mayD (Dyd.mk b61 l62 n63) = true ∧ (m = [] ∨ l62 = [] ∨ -300000 ≤ e - n63 ∧ e - n63 ≤ 300000)) ∧ dyF (addD (Dyd.mk s m e) (negD (Dyd.mk b61 l62 n63))) fun b67 l68 n69 => Q (.tup [.agg [.bool b49, .dig [0, 1, 2] l50, .num .i64 n51], .agg [.bool b64, .dig [0, 1, 2] l65, .num .i64 n66, .bool b67, .dig [0, 1, 2] l68, .num .i64 n69], .bool true]) else (mayD (Dyd.mk s m e) = true ∧ mayD (Dyd.mk b61 l62 n63) = true ∧ (m = [] ∨ l62 = [] ∨ -300000 ≤ e - n63 ∧ e - n63 ≤ 300000)) ∧ dyF (addD (Dyd.mk s m e) (negD (Dyd.mk b61 l62 n63))) fun b70 l71 n72 => (mayD (Dyd.mk s m e) = true ∧ mayD (Dyd.mk b58 l59 n60) = true ∧ (m = [] ∨ l59 = [] ∨ -300000 ≤ e - n60 ∧ e - n60 ≤ 300000)) ∧ dyF (addD (Dyd.mk s m e) (negD (Dyd.mk b58 l59 n60))) fun b73 l74 n75 => Q (.tup [.agg [.bool b49, .dig [0, 1, 2] l50, .num .i64 n51], .agg [.bool b70, .dig [0, 1, 2] l71, .num .i64 n72, .bool b73, .dig [0, 1, 2] l74, .num .i64 n75], .bool true]) else dyF (unitOf (-1 : Int)) fun b76 l77 n78 => (mayD (Dyd.mk b31 l32 n33) = true ∧ mayD (Dyd.mk b76 l77 n78) = true ∧ (l32 = [] ∨ l77 = [] ∨ -300000 ≤ n33 - n78 ∧ n33 - n78 ≤ 300000)) ∧ dyF (addD (Dyd.mk b31 l32 n33) (Dyd.mk b76 l77 n78)) fun b79 l80 n81 => mayD (Dyd.mk b79 l80 n81) = true ∧ dyF (floorD (Dyd.mk b79 l80 n81)) fun b82 l83 n84 => (mayD (Dyd.mk b34 l35 n36) = true ∧ mayD (Dyd.mk b76 l77 n78) = true ∧ (l35 = [] ∨ l77 = [] ∨ -300000 ≤ n36 - n78 ∧ n36 - n78 ≤ 300000)) ∧ dyF (addD (Dyd.mk b34 l35 n36) (Dyd.mk b76 l77 n78)) fun b85 l86 n87 => mayD (Dyd.mk b85 l86 n87) = true ∧ dyF (floorD (Dyd.mk b85 l86 n87)) fun b88 l89 n90 => bif !sameD (Dyd.mk b82 l83 n84) (Dyd.mk b88 l89 n90) then Q (.tup [.agg [.bool false, .dig [0, 1, 2] [], .num .i64 0], .agg [.bool false, .dig [0, 1, 2] [], .num .i64 0, .bool false, .dig [0, 1, 2] [], .num .i64 0], .bool false]) else (mayD (Dyd.mk b82 l83 n84) = true ∧ mayD (Dyd.mk b19 l20 n21) = true) ∧ dyF (mulD (Dyd.mk b82 l83 n84) (Dyd.mk b19 l20 n21)) fun b91 l92 n93 => (mayD (Dyd.mk b82 l83 n84) = true ∧ mayD (Dyd.mk b22 l23 n24) = true) ∧ dyF (mulD (Dyd.mk b82 l83 n84) (Dyd.mk b22 l23 n24)) fun b94 l95 n96 => bif b82 then (mayD (Dyd.mk s m e) = true ∧ mayD (Dyd.mk b91 l92 n93) = true ∧ (m = [] ∨ l92 = [] ∨ -300000 ≤ e - n93 ∧ e - n93 ≤ 300000)) ∧ dyF (addD (Dyd.mk s m e) (negD (Dyd.mk b91 l92 n93))) fun b97 l98 n99 => (mayD (Dyd.mk s m e) = true ∧ mayD (Dyd.mk b94 l95 n96) = true ∧ (m = [] ∨ l95 = [] ∨ -300000 ≤ e - n96 ∧ e - n96 ≤ 300000)) ∧ dyF (addD (Dyd.mk s m e) (negD (Dyd.mk b94 l95 n96))) fun b100 l101 n102 => Q (.tup [.agg [.bool b82, .dig [0, 1, 2] l83, .num .i64 n84], .agg [.bool b97, .dig [0, 1, 2] l98, .num .i64 n99, .bool b100, .dig [0, 1, 2] l101, .num .i64 n102], .bool true]) else (mayD (Dyd.mk s m e) = true ∧ mayD (Dyd.mk b94 l95 n96) = true ∧ (m = [] ∨ l95 = [] ∨ -300000 ≤ e - n96 ∧ e - n96 ≤ 300000)) ∧ dyF (addD (Dyd.mk s m e) (negD (Dyd.mk b94 l95 n96))) fun b103 l104 n105 => (mayD (Dyd.mk s m e) = true ∧ mayD (Dyd.mk b91 l92 n93) = true ∧ (m = [] ∨ l92 = [] ∨ -300000 ≤ e - n93 ∧ e - n93 ≤ 300000)) ∧ dyF (addD (Dyd.mk s m e) (negD (Dyd.mk b91 l92 n93))) fun b106 l107 n108 => Q (.tup [.agg [.bool b82, .dig [0, 1, 2] l83, .num .i64 n84], .agg [.bool b103, .dig [0, 1, 2] l104, .num .i64 n105, .bool b106, .dig [0, 1, 2] l107, .num .i64 n108], .bool true])) := by kernel_rfl
end Go.AI

namespace Go.AI
open Go Go.RowKit Go.Proofs
set_option linter.unusedVariables false
set_option maxRecDepth 100000
set_option maxHeartbeats 1000000
theorem sign_size (d : Dy.Dyd) : -1 ≤ Dy.signD d ∧ Dy.signD d ≤ 1 := by
 unfold Dy.signD
 by_cases h : d.mag = []
 ·rw [if_pos h]; decide
 ·rw [if_neg h]
  split <;> decide
theorem ok_ref17_Point (args : List AV) (s : Spec) (h : rPoint args = some s) (hp : andO s.pre True) : Contract Tryz.prog Inv 64 args s.res := by
 unfold rPoint at h
 split at h
 ·cases h
  rename_i s m e
  refine contract0 true ok_tabW3 Tryz.func64 (by kernel_rfl) (by kernel_rfl) fun hok => ?_
  rw [vc_ref17_Point]
  rfl
 ·cases h
theorem ok_ref17_Shift (args : List AV) (s : Spec) (h : rShiftS args = some s) (hp : andO s.pre True) : Contract Tryz.prog Inv 65 args s.res := by
 unfold rShiftS at h
 split at h
 ·cases h
  rename_i s m e s' m' e' n
  obtain ⟨⟨e1, e2, e3, e4, n1, n2⟩, -⟩ := hp
  refine contract0 true ok_tabW3 Tryz.func65 (by kernel_rfl) (by kernel_rfl) fun hok => ?_
  rw [vc_ref17_Shift]
  refine ⟨.inr ⟨by omega, by omega, by omega, by omega⟩, ?_⟩
  rintro _ rfl _ rfl _ rfl
  refine ⟨.inr ⟨by omega, by omega, by omega, by omega⟩, ?_⟩
  rintro _ rfl _ rfl _ rfl
  rfl
 ·cases h
theorem ok_ref17_Pi (args : List AV) (s : Spec) (h : rPiS args = some s) (hp : andO s.pre True) : Contract Tryz.prog Inv 66 args s.res := by
 unfold rPiS at h
 split at h
 ·cases h
  rename_i n
  obtain ⟨⟨n1, n2⟩, -⟩ := hp
  refine contract0 false ok_tabW3 Tryz.func66 (by kernel_rfl) (by kernel_rfl) fun hok => ?_
  rw [vc_ref17_Pi]
  have hb := Dy.piQ_bl (b := n.toNat) (by omega) (by omega)
  have fp : Dy.Fit (Dy.piCut n.toNat) 10400 20000 := by
   rw [Dy.pi_cut_form]
   exact Dy.formZ_fit2 (by rw [Int.natAbs_natCast, hb]; omega) (by omega) (by omega) (by decide) (by decide)
  have p1 := fp.lo
  have p2 := fp.hi
  rw [wrap_i64 (n := 2 - n) (by omega) (by omega)]
  refine ⟨⟨n1, by omega⟩, dpeel fun b1 l2 n3 d1 => dpeel fun b4 l5 n6 d4 => ?_⟩
  obtain ⟨h4, h5, h6⟩ : b4 = false ∧ l5 = [1] ∧ n6 = 2 - n := by unfold Dy.unitOf at d4; cases d4; exact ⟨rfl, rfl, rfl⟩
  rw [d1, d4]
  rw [← d1] at p1 p2
  refine ⟨⟨fp.may, Dy.unit_may ⟨by omega, by omega⟩, .inr (.inr ⟨by rw [h6]; simp only at p1 p2; omega, by rw [h6]; simp only at p1 p2; omega⟩)⟩, dpeel fun b7 l8 n9 d7 => ?_⟩
  rw [avS_of d1 d7]
 ·cases h
theorem ok_ref17_Agrees (args : List AV) (s : Spec) (h : rAgrees args = some s) (hp : andO s.pre True) : Contract Tryz.prog Inv 34 args s.res := by
 unfold rAgrees at h
 split at h
 ·cases h
  rename_i s m e s' m' e' n
  obtain ⟨⟨hd, hd', n1⟩, -⟩ := hp
  refine contract0 true ok_tabW3 Tryz.func34 (by kernel_rfl) (by kernel_rfl) fun hok => ?_
  rw [vc_ref17_Agrees]
  have g1 := sign_size ⟨s, m, e⟩
  have g2 := sign_size ⟨s', m', e'⟩
  have hw : IntKind.i64.wrap (Dy.signD ⟨s, m, e⟩ * Dy.signD ⟨s', m', e'⟩) = Dy.signD ⟨s, m, e⟩ * Dy.signD ⟨s', m', e'⟩ := by
   generalize Dy.signD ⟨s, m, e⟩ = a at *
   generalize Dy.signD ⟨s', m', e'⟩ = c at *
   rcases (by omega : a = -1 ∨ a = 0 ∨ a = 1) with h | h | h <;> rcases (by omega : c = -1 ∨ c = 0 ∨ c = 1) with h' | h' | h' <;> subst h h' <;> decide
  rw [hw]
  refine cond_i (fun h => ?_) (fun h => ?_)
  ·rw [h]
   rfl
  ·rw [h]
   have x1 := Dy.mayD_exp hd
   have x2 := Dy.mayD_exp hd'
   have may1 := Dy.mayD_may hd
   have may2 := Dy.mayD_may hd'
   have z1 : Dy.tz (Dy.val m) = 0 := by
    by_cases c : m = []
    ·subst c; rfl
    ·exact Dy.tz_odd (Dy.mayD_odd hd c)
   have z2 : Dy.tz (Dy.val m') = 0 := by
    by_cases c : m' = []
    ·subst c; rfl
    ·exact Dy.tz_odd (Dy.mayD_odd hd' c)
   refine ⟨⟨Dy.may_dg may1, Dy.may_len may1, z1, by omega, by omega, n1⟩, dpeel fun b1 l2 n3 d1 => ?_⟩
   intro b4 _
   refine ⟨⟨Dy.may_dg may2, Dy.may_len may2, z2, by omega, by omega, n1⟩, dpeel fun b5 l6 n7 d5 => ?_⟩
   intro b8 _
   rw [d1, d5, avD_of d1]
   rfl
 ·cases h
end Go.AI

namespace Go.Dy
theorem quoF_fitW {a b : Dyd} {L E : Nat} (ha : Fit a L E) (hb : Fit b L E) {n : Int} (hn : 1 ≤ n ∧ n ≤ 10400) (hE : 2 * E + 3 * L + 40000 ≤ 16777216) : Fit (quoF a b n).1 n.toNat (2 * E + 3 * L + 40000) := by
 have a0 := ha.bits
 have a1 := ha.lo
 have a2 := ha.hi
 have b0 := hb.bits
 have b1 := hb.lo
 have b2 := hb.hi
 unfold quoF
 by_cases h : a.mag = []
 ·rw [if_pos h]
  exact ⟨mayD_zero, by show bl 0 ≤ _; rw [bl_zero]; omega, by show _ ≤ (0 : Int); omega, by show (0 : Int) ≤ _; omega⟩
 ·rw [if_neg h]
  simp only
  rw [cutR_form _ _ _ _ hn.1]
  simp only
  have hS : quoS (val a.mag) (val b.mag) n = (n + 1 + (bl (val b.mag) : Int) - (bl (val a.mag) : Int)).toNat := rfl
  have hQ := Nat.le_trans (bl_mono (Nat.div_le_self (val a.mag * 2 ^ quoS (val a.mag) (val b.mag) n) (val b.mag))) (bl_mul_le (Nat.le_refl _))
  generalize quoS (val a.mag) (val b.mag) n = S at *
  generalize val a.mag * 2 ^ S / val b.mag = Q at *
  have hW := bl_div_two_pow Q ((bl Q : Int) - n).toNat
  exact (fit_form (by omega) (by omega) (by omega) (by omega) hE).1
end Go.Dy
namespace Go.AI
open Go Go.RowKit Go.Proofs
set_option linter.unusedVariables false
set_option maxRecDepth 100000
set_option maxHeartbeats 1000000
theorem ok_wide_Quo (args : List AV) (s : Spec) (h : rQuoW args = some s) (hp : andO s.pre True) : Contract Tryz.prog Inv 16 args s.res := by
 unfold rQuoW at h
 split at h
 ·cases h
  rename_i s m e s' m' e' k
  obtain ⟨⟨hd, hd', m0', hk1, hk, hl, hl'⟩, -⟩ := hp
  refine contract0 false ok_tabF0 Tryz.func16 (by kernel_rfl) (by kernel_rfl) fun hok => ?_
  rw [vc_ref2_Quo]
  unfold Dy.quoF
  simp only
  have may1 := Dy.mayD_may hd
  have may2 := Dy.mayD_may hd'
  have x1 := Dy.mayD_exp hd
  have x2 := Dy.mayD_exp hd'
  have b1 : Dy.bl (Dy.val m) ≤ 32000 := (Dy.length_dg_bl (n := Dy.val m) (k := 1000)).1 (by rw [Dy.may_dg may1]; exact hl)
  have b2 : Dy.bl (Dy.val m') ≤ 32000 := (Dy.length_dg_bl (n := Dy.val m') (k := 1000)).1 (by rw [Dy.may_dg may2]; exact hl')
  refine cond_i (fun h3 => ?_) (fun h3 => ?_)
  ·have h3 := List.length_eq_zero_iff.1 (Int.ofNat_eq_zero.1 (of_decide_eq_true h3))
   rw [if_pos h3]; rfl
  have h3 := of_decide_eq_false h3
  have m0 : m ≠ [] := fun e => h3 (by rw [e]; rfl)
  rw [if_neg m0]
  have hqs : Dy.quoS (Dy.val m) (Dy.val m') k = (k + 1 + (Dy.bl (Dy.val m') : Int) - (Dy.bl (Dy.val m) : Int)).toNat := rfl
  generalize Dy.quoS (Dy.val m) (Dy.val m') k = n at hqs ⊢
  have w1 : IntKind.i64.wrap (IntKind.i64.wrap (IntKind.i64.wrap (k + 1) + (Dy.bl (Dy.val m') : Int)) - (Dy.bl (Dy.val m) : Int)) = k + 1 + (Dy.bl (Dy.val m') : Int) - (Dy.bl (Dy.val m) : Int) := by
   rw [wrap_i64 (n := k + 1) (by omega) (by omega), wrap_i64 (n := k + 1 + _) (by omega) (by omega), wrap_i64 (by omega) (by omega)]
  have hX : Dy.bl (Dy.val m * 2 ^ n) ≤ 131072 := Nat.le_trans (Dy.bl_mul_le b1) (by omega)
  rw [w1, wrap_i64 (n := e - e') (by omega) (by omega)]
  refine ⟨⟨Dy.may_dg may2, by omega⟩, ⟨Dy.may_dg may1, by omega⟩, cond_i (fun h4 => ?_) (fun h4 => ?_)⟩
  ·have h4 := of_decide_eq_true h4
   have hn : n = 0 := by omega
   subst hn
   refine ⟨⟨by omega, by omega, by omega⟩, ?_⟩
   rw [wrap_i64 (n := e - e' - 0) (by omega) (by omega)]
   exact rquo_tail (Q := fun r => r = _) (u := e - e' - 0) may2 m0' hX (by omega) hk1 rfl
  ·have h4 := of_decide_eq_false h4
   have hn : k + 1 + (Dy.bl (Dy.val m') : Int) - (Dy.bl (Dy.val m) : Int) = (n : Int) := by omega
   rw [hn, Int.toNat_natCast, wrap_i64 (n := e - e' - _) (by omega) (by omega)]
   refine ⟨⟨by omega, by omega, by omega⟩, ?_⟩
   exact rquo_tail (Q := fun r => r = _) (u := e - e' - n) may2 m0' hX (by omega) hk1 rfl
 ·cases h
theorem ok_tabY0 : PhiOk Tryz.prog Inv (look tabY0) := look_cons (look_cons (look_cons (look_cons (look_cons ok_tabW3 ok_ref17_Agrees) ok_ref17_Pi) ok_ref17_Shift) ok_ref17_Point) ok_wide_Quo
theorem ok_ref17_quo (args : List AV) (s : Spec) (h : rQuoE args = some s) (hp : andO s.pre True) : Contract Tryz.prog Inv 67 args s.res := by
 unfold rQuoE at h
 split at h
 ·cases h
  rename_i s m e s' m' e' k high
  obtain ⟨⟨hd, hd', m0', hk1, hk, hl, hl', e1, e2, e3, e4⟩, -⟩ := hp
  refine contract0 false ok_tabY0 Tryz.func67 (by kernel_rfl) (by kernel_rfl) fun hok => ?_
  have fa : Dy.Fit ⟨s, m, e⟩ 32000 100000 := ⟨hd, Dy.len_bits (k := 1000) (Dy.may_dg (Dy.mayD_may hd)) hl, by simp only; omega, by simp only; omega⟩
  have fb : Dy.Fit ⟨s', m', e'⟩ 32000 100000 := ⟨hd', Dy.len_bits (k := 1000) (Dy.may_dg (Dy.mayD_may hd')) hl', by simp only; omega, by simp only; omega⟩
  have fq := Dy.quoF_fitW fa fb (n := k) ⟨hk1, hk⟩ (by decide)
  have hE : Dy.quoE ⟨s, m, e⟩ ⟨s', m', e'⟩ k high = Dy.stepD (Dy.quoF ⟨s, m, e⟩ ⟨s', m', e'⟩ k).1 (Dy.quoF ⟨s, m, e⟩ ⟨s', m', e'⟩ k).2 high (Dy.quoF ⟨s, m, e⟩ ⟨s', m', e'⟩ k).1.neg (Dy.topD (Dy.quoF ⟨s, m, e⟩ ⟨s', m', e'⟩ k).1 - k) := rfl
  rw [vc_ref17_quo, hE]
  refine ⟨⟨hd, hd', m0', hk1, hk, hl, hl'⟩, dpeel fun b1 l2 n3 d1 => ?_⟩
  intro b4 h4
  rw [← h4, ← d1]
  rw [← d1] at fq
  have f1 := fq.lo
  have f2 := fq.hi
  have f3 := fq.bits
  have ft := Dy.top_fit fq
  have hdg := Dy.may_dg (Dy.mayD_may fq.may)
  have hln := Dy.may_len (Dy.mayD_may fq.may)
  simp only at f1 f2 f3
  have hu : IntKind.i64.wrap (Dy.topD ⟨b1, l2, n3⟩ - k) = Dy.topD ⟨b1, l2, n3⟩ - k := wrap_i64 (by omega) (by omega)
  have hum : Dy.mayD (Dy.unitOf (Dy.topD ⟨b1, l2, n3⟩ - k)) = true := Dy.unit_may ⟨by omega, by omega⟩
  have hgap : l2 = [] ∨ (-300000 ≤ n3 - (Dy.topD ⟨b1, l2, n3⟩ - k) ∧ n3 - (Dy.topD ⟨b1, l2, n3⟩ - k) ≤ 300000) := by
   by_cases c : l2 = []
   ·exact .inl c
   ·refine .inr ?_
    have ht : Dy.topD ⟨b1, l2, n3⟩ = n3 + Dy.bl (Dy.val l2) := by unfold Dy.topD; simp only [if_neg c]
    rw [ht]
    omega
  rw [hu]
  unfold Dy.stepD
  have un : ∀ {b : Bool} {l : List Nat} {n : Int}, Dy.Dyd.mk b l n = Dy.unitOf (Dy.topD ⟨b1, l2, n3⟩ - k) → n = Dy.topD ⟨b1, l2, n3⟩ - k := fun h => by unfold Dy.unitOf at h; cases h; rfl
  cases b4 <;> cases high <;> cases b1
  ·rfl
  ·rfl
  ·rfl
  ·rfl
  ·rfl
  ·refine ⟨⟨hdg, by omega, by omega, by omega⟩, dpeel fun b5 l6 n7 d5 => ?_⟩
   have hn7 := un d5
   rw [d5]
   refine ⟨⟨fq.may, hum, ?_⟩, dpeel fun b8 l9 n10 d8 => ?_⟩
   ·rw [hn7]; rcases hgap with c | c; exact .inl c; exact .inr (.inr c)
   ·rw [avD_of d8]
    rfl
  ·refine ⟨⟨hdg, by omega, by omega, by omega⟩, dpeel fun b5 l6 n7 d5 => ?_⟩
   have hn7 := un d5
   rw [d5]
   refine ⟨⟨fq.may, hum, ?_⟩, dpeel fun b8 l9 n10 d8 => ?_⟩
   ·rw [hn7]; rcases hgap with c | c; exact .inl c; exact .inr (.inr c)
   ·rw [avD_of d8]
    rfl
  ·rfl
 ·cases h
theorem ok_tabY1 : PhiOk Tryz.prog Inv (look tabY1) := look_cons ok_tabY0 ok_ref17_quo
end Go.AI

namespace Go.Dy
theorem quo_fitS {a b : Dyd} {La Ea Lb Eb : Nat} (ha : Fit a La Ea) (hb : Fit b Lb Eb) (hs : b.neg = false) (h0 : b.mag ≠ []) {n : Int} (hn : 1 ≤ n ∧ n ≤ 10400) (hE : Ea + Eb + 2 * La + 2 * Lb + 20900 ≤ 16777216) (high : Bool) : Fit (quoE a b n high) (n.toNat + 1) (Ea + Eb + 2 * La + 2 * Lb + 20900) := by
 obtain ⟨s, m, e⟩ := a
 obtain ⟨s', m', e'⟩ := b
 simp only at hs h0
 subst hs
 obtain ⟨S, t, -, k2, k3, k4, k5⟩ := quoE_formZ ha.may hb.may h0 hn.1
 have a0 := ha.bits
 have a1 := ha.lo
 have a2 := ha.hi
 have b0 := hb.bits
 have b1 := hb.lo
 have b2 := hb.hi
 simp only at a0 a1 a2 b0 b1 b2
 have hN := val_ne (mayD_may hb.may) h0
 have hD : 0 < val m' * 2 ^ t := Nat.mul_pos (by omega) (Nat.two_pow_pos t)
 rw [k5]
 have hab := rndQ_abs (sgn s (val m * 2 ^ S)) hD high
 rw [natAbs_sgn] at hab
 have hr := Nat.le_trans (bl_mono hab) (bl_half_succ k4)
 have k6 : t ≤ bl (val m) + S := Nat.le_trans k3 (bl_mul_le (Nat.le_refl _))
 exact formZ_fit hr (by omega) (by omega) (by omega) hE
theorem h_facts {n V : Nat} (h1 : 20 ≤ n) (h2 : n ≤ 10400) (hV : 100000 ≤ V) (hp : prec + 1 ≤ V) : (Fit (hLo n) 10402 10402 ∧ (hLo n).neg = false ∧ (hLo n).mag ≠ []) ∧ (Fit (hHi n) 10402 10402 ∧ (hHi n).neg = false ∧ (hHi n).mag ≠ []) ∧
  at_ (hLo n) (-(V : Int)) = (piQ n : Int) * 2 ^ (V + 1 - n) ∧ at_ (hHi n) (-(V : Int)) = (piQ n + 1 : Int) * 2 ^ (V + 1 - n) ∧ 2 ^ (n - 1) ≤ piQ n ∧ piQ n < 2 ^ n := by
 have hb := piQ_bl (b := n) (by omega) (by omega)
 have q1 : 2 ^ (n - 1) ≤ piQ n := lt_bl.1 (by omega)
 have q2 : piQ n < 2 ^ n := bl_le.1 (by omega)
 have hp0 := Nat.two_pow_pos (n - 1)
 have hn : (n : Int).toNat = n := Int.toNat_natCast n
 have f1 : hLo n = formZ (piQ n : Nat) (1 - (n : Int)) := by
  unfold hLo
  rw [hn, pi_cut_form]
  have hne : ((piQ n : Nat) : Int) ≠ 0 := by omega
  have hm := formZ_ne (e := 2 - (n : Int)) hne
  have := shD_formZ (e := 2 - (n : Int)) (k := -1) hne
  rw [show 2 - (n : Int) + -1 = 1 - (n : Int) by omega] at this
  rw [← this]
  unfold shE shD
  rw [if_neg hm, if_neg hm]
 have f2 : hHi n = formZ ((piQ n + 1 : Nat) : Int) (1 - (n : Int)) := by
  unfold hHi
  rw [hn, pi_cut_form]
  have hs : addD (formZ ((piQ n : Nat) : Int) (2 - (n : Int))) (unitOf (2 - (n : Int))) = formZ ((piQ n + 1 : Nat) : Int) (2 - (n : Int)) := by
   have hne : ((piQ n : Nat) : Int) ≠ 0 := by omega
   have := add_unit (u := 2 - (n : Int)) hne true
   rw [if_pos rfl, if_pos rfl] at this
   rw [this]
   rfl
  rw [hs]
  have hne : ((piQ n + 1 : Nat) : Int) ≠ 0 := by omega
  have hm := formZ_ne (e := 2 - (n : Int)) hne
  have := shD_formZ (e := 2 - (n : Int)) (k := -1) hne
  rw [show 2 - (n : Int) + -1 = 1 - (n : Int) by omega] at this
  rw [← this]
  unfold shE shD
  rw [if_neg hm, if_neg hm]
 have b2 : bl (piQ n + 1) ≤ n + 1 := bl_half_succ (by omega)
 have p1 := pos_formZ (z := ((piQ n : Nat) : Int)) (e := 1 - (n : Int)) (by omega)
 have p2 := pos_formZ (z := ((piQ n + 1 : Nat) : Int)) (e := 1 - (n : Int)) (by omega)
 rw [f1, f2]
 refine ⟨⟨formZ_fit2 (by rw [Int.natAbs_natCast, hb]; omega) (by omega) (by omega) (by decide) (by decide), p1⟩, ⟨formZ_fit2 (by rw [Int.natAbs_natCast]; omega) (by omega) (by omega) (by decide) (by decide), p2⟩, ?_, ?_, q1, q2⟩
 ·rw [at_formZ (by omega), show (1 - (n : Int) - -(V : Int)).toNat = V + 1 - n by omega]
 ·rw [at_formZ (by omega), show (1 - (n : Int) - -(V : Int)).toNat = V + 1 - n by omega]
  rfl
end Go.Dy

namespace Go.Dy
theorem h_span {n V : Nat} (h1 : 20 ≤ n) (h2 : n ≤ 10400) (hV : 100000 ≤ V) : (Fit (hLo n) 10402 10402 ∧ (hLo n).neg = false ∧ (hLo n).mag ≠ []) ∧ (Fit (hHi n) 10402 10402 ∧ (hHi n).neg = false ∧ (hHi n).mag ≠ []) ∧
  at_ (hLo n) (-(V : Int)) ≤ quart V ∧ quart V ≤ at_ (hHi n) (-(V : Int)) ∧ at_ (hHi n) (-(V : Int)) - at_ (hLo n) (-(V : Int)) ≤ 2 ^ (V + 5 - n) ∧ 2 ^ (V - 1) ≤ at_ (hLo n) (-(V : Int)) ∧ at_ (hHi n) (-(V : Int)) ≤ 2 ^ (V + 3) := by
 have hp : prec + 1 ≤ V := by unfold prec; omega
 obtain ⟨a, b, e1, e2, q1, q2⟩ := h_facts h1 h2 hV hp
 obtain ⟨c1, c2⟩ := quart_cut (n := n) (by omega) hp
 rw [← e1] at c1
 rw [← e2] at c2
 have w1 : (2 : Int) ^ (V + 1 - n) ≤ 2 ^ (V + 5 - n) := two_le (by omega)
 have d : at_ (hHi n) (-(V : Int)) = at_ (hLo n) (-(V : Int)) + 2 ^ (V + 1 - n) := by rw [e1, e2, Int.add_mul, Int.one_mul]
 refine ⟨a, b, c1, Int.le_of_lt c2, by omega, ?_, ?_⟩
 ·have h := Nat.mul_le_mul_right (2 ^ (V + 1 - n)) q1
  rw [← Nat.pow_add, show n - 1 + (V + 1 - n) = V by omega] at h
  have h2 : (2 : Int) ^ (V - 1) ≤ 2 ^ V := two_le (by omega)
  have h3 : ((2 ^ V : Nat) : Int) ≤ ((piQ n * 2 ^ (V + 1 - n) : Nat) : Int) := Int.ofNat_le.2 h
  rw [Int.natCast_mul, pow_cast, pow_cast, ← e1] at h3
  omega
 ·have h := Nat.mul_le_mul_right (2 ^ (V + 1 - n)) (show piQ n + 1 ≤ 2 ^ n from q2)
  rw [← Nat.pow_add, show n + (V + 1 - n) = V + 1 by omega] at h
  have h2 : (2 : Int) ^ (V + 1) ≤ 2 ^ (V + 3) := two_le (by omega)
  have h3 : (((piQ n + 1) * 2 ^ (V + 1 - n) : Nat) : Int) ≤ ((2 ^ (V + 1) : Nat) : Int) := Int.ofNat_le.2 h
  rw [Int.natCast_mul, pow_cast, pow_cast] at h3
  have h4 : at_ (hHi n) (-(V : Int)) = ((piQ n + 1 : Nat) : Int) * 2 ^ (V + 1 - n) := e2
  rw [← h4] at h3
  omega
theorem fit_halfW : Fit (unitOf (-1)) 10402 60000 := ⟨unit_may (by decide), by decide, by decide, by decide⟩
theorem j_facts {x : Dyd} (hx : angle x) {n V : Nat} (h1 : 20 ≤ n) (h2 : n ≤ 10400) (hV : 400000 ≤ V) :
  (Fit (jLo n x) 10402 60000 ∧ Fit (jHi n x) 10402 60000) ∧
  at_ (jLo n x) (-(V : Int)) * quart V ≤ at_ x (-(V : Int)) * 2 ^ V ∧ at_ x (-(V : Int)) * 2 ^ V ≤ at_ (jLo n x) (-(V : Int)) * quart V + 2 ^ (2 * V + 1108 - n) ∧
  at_ x (-(V : Int)) * 2 ^ V ≤ at_ (jHi n x) (-(V : Int)) * quart V ∧ at_ (jHi n x) (-(V : Int)) * quart V ≤ at_ x (-(V : Int)) * 2 ^ V + 2 ^ (2 * V + 1108 - n) ∧
  (-(2 ^ (V + 1102)) ≤ at_ (jLo n x) (-(V : Int)) ∧ at_ (jLo n x) (-(V : Int)) ≤ 2 ^ (V + 1102)) ∧ (-(2 ^ (V + 1102)) ≤ at_ (jHi n x) (-(V : Int)) ∧ at_ (jHi n x) (-(V : Int)) ≤ 2 ^ (V + 1102)) := by
 obtain ⟨x1, x2, x3, x4, x5, x6, -⟩ := angle_facts hx
 have x6 := (x6 V (by omega)).1
 obtain ⟨⟨fa, sa, na⟩, ⟨fb, sb, nb⟩, q1, q2, q3, q4, q5⟩ := h_span h1 h2 (show 100000 ≤ V by omega)
 have hA : at_ x (-(2 * V : Int)) = at_ x (-(V : Int)) * 2 ^ V := by
  have := at_scale x (u := -(V : Int)) (v := -(2 * V : Int)) (by omega) (by omega)
  rw [this, show (-(V : Int) - -(2 * V : Int)).toNat = V by omega]
 have g1 := fa.bits
 have g2 := fa.lo
 have g3 := fa.hi
 have g4 := fb.bits
 have g5 := fb.lo
 have g6 := fb.hi
 have xb := abs_lt_pow x6
 have Q0 : (0 : Int) < 2 ^ (V - 1) := Int.pow_pos (by decide)
 have D0 : (0 : Int) < 2 ^ V := Int.pow_pos (by decide)
 have M0 : (0 : Int) < 2 ^ (V + 1101) := Int.pow_pos (by decide)
 have E0 : (0 : Int) < 2 ^ (V + 1101 - n) := Int.pow_pos (by decide)
 have W0 : (0 : Int) < 2 ^ (V + 5 - n) := Int.pow_pos (by decide)
 have big : ∀ Q : Int, 2 ^ (V - 1) ≤ Q → -(2 ^ (V + 1101) * Q) < at_ x (-(V : Int)) * 2 ^ V ∧ at_ x (-(V : Int)) * 2 ^ V < 2 ^ (V + 1101) * Q := by
  intro Q hQ
  have e1 : (2 : Int) ^ (1100 + V) * 2 ^ V = 2 ^ (V + 1101) * 2 ^ (V - 1) := by rw [← Int.pow_add, ← Int.pow_add, show 1100 + V + V = V + 1101 + (V - 1) by omega]
  have e2 := Int.mul_le_mul_of_nonneg_left hQ (Int.le_of_lt M0)
  have e3 := Int.mul_lt_mul_of_pos_right xb.1 D0
  have e4 := Int.mul_lt_mul_of_pos_right xb.2 D0
  rw [Int.neg_mul] at e3
  omega
 have bigN : ∀ Q : Int, 2 ^ (V - 1) ≤ Q → (at_ x (-(2 * V : Int))).natAbs < 2 ^ (V + 1101) * Q.natAbs := by
  intro Q hQ
  have := big Q hQ
  rw [hA]
  have e : ((2 ^ (V + 1101) * Q.natAbs : Nat) : Int) = 2 ^ (V + 1101) * Q := by
   rw [Int.natCast_mul, pow_cast, show (Q.natAbs : Int) = Q by omega]
  omega
 have hΔ : 2 ^ (V + 1101 - n) * at_ (hHi n) (-(V : Int)) + (2 ^ (V + 1101) + 2 ^ (V + 1101 - n)) * 2 ^ (V + 5 - n) ≤ 2 ^ (2 * V + 1108 - n) := by
  have c1 : 2 ^ (V + 1101 - n) * at_ (hHi n) (-(V : Int)) ≤ 2 ^ (V + 1101 - n) * 2 ^ (V + 3) := Int.mul_le_mul_of_nonneg_left q5 (Int.le_of_lt E0)
  have c2 : (2 : Int) ^ (V + 1101 - n) ≤ 2 ^ (V + 1101) := two_le (by omega)
  have c3 : (2 ^ (V + 1101) + 2 ^ (V + 1101 - n)) * 2 ^ (V + 5 - n) ≤ (2 ^ (V + 1101) + 2 ^ (V + 1101)) * (2 : Int) ^ (V + 5 - n) := Int.mul_le_mul_of_nonneg_right (by omega) (Int.le_of_lt W0)
  have e1 : (2 : Int) ^ (V + 1101 - n) * 2 ^ (V + 3) = 2 ^ (2 * V + 1104 - n) := by rw [← Int.pow_add, show V + 1101 - n + (V + 3) = 2 * V + 1104 - n by omega]
  have e2 : (2 : Int) ^ (V + 1101) * 2 ^ (V + 5 - n) = 2 ^ (2 * V + 1106 - n) := by rw [← Int.pow_add, show V + 1101 + (V + 5 - n) = 2 * V + 1106 - n by omega]
  have e3 : (2 : Int) ^ (2 * V + 1104 - n) ≤ 2 ^ (2 * V + 1106 - n) := two_le (by omega)
  have e4 : (2 : Int) ^ (2 * V + 1108 - n) = 2 ^ (2 * V + 1106 - n) * 4 := by
   rw [show (4 : Int) = 2 ^ 2 by decide, ← Int.pow_add, show 2 * V + 1106 - n + 2 = 2 * V + 1108 - n by omega]
  have c4 : (2 ^ (V + 1101) + 2 ^ (V + 1101)) * (2 : Int) ^ (V + 5 - n) = 2 ^ (2 * V + 1106 - n) + 2 ^ (2 * V + 1106 - n) := by rw [Int.add_mul, e2]
  have e5 : (0 : Int) < 2 ^ (2 * V + 1106 - n) := Int.pow_pos (by decide)
  rw [c4] at c3
  rw [e1] at c1
  omega
 have qb1 : 2 ^ (V - 1) ≤ at_ (hHi n) (-(V : Int)) := by omega
 have hMb : (2 : Int) ^ (V + 1101) + 2 ^ (V + 1101 - n) ≤ 2 ^ (V + 1102) := by
  have c2 : (2 : Int) ^ (V + 1101 - n) ≤ 2 ^ (V + 1101) := two_le (by omega)
  have e : (2 : Int) ^ (V + 1102) = 2 ^ (V + 1101) * 2 := by rw [← Int.pow_succ]
  omega
 have hXs : x.neg = false ∧ 0 ≤ at_ x (-(V : Int)) * 2 ^ V ∨ x.neg = true ∧ at_ x (-(V : Int)) * 2 ^ V ≤ 0 := by
  obtain ⟨s, m, e⟩ := x
  rw [at_mk]
  cases s
  ·left
   exact ⟨rfl, Int.mul_nonneg (by unfold sgn; simp only [Bool.false_eq_true, if_false]; omega) (Int.le_of_lt D0)⟩
  ·right
   exact ⟨rfl, Int.mul_nonpos_of_nonpos_of_nonneg (by unfold sgn; simp only [if_true]; omega) (Int.le_of_lt D0)⟩
 have lowOf : ∀ q : Dyd, Fit q 10402 10402 → q.neg = false → q.mag ≠ [] → 2 ^ (V - 1) ≤ at_ q (-(V : Int)) → (0 ≤ at_ x (-(V : Int)) * 2 ^ V ∧ at_ q (-(V : Int)) = at_ (hHi n) (-(V : Int)) ∨ at_ x (-(V : Int)) * 2 ^ V ≤ 0 ∧ at_ q (-(V : Int)) = at_ (hLo n) (-(V : Int))) →
   Fit (quoE x q n false) 10402 60000 ∧ at_ (quoE x q n false) (-(V : Int)) * quart V ≤ at_ x (-(V : Int)) * 2 ^ V ∧ at_ x (-(V : Int)) * 2 ^ V ≤ at_ (quoE x q n false) (-(V : Int)) * quart V + 2 ^ (2 * V + 1108 - n) ∧
   -(2 ^ (V + 1102)) ≤ at_ (quoE x q n false) (-(V : Int)) ∧ at_ (quoE x q n false) (-(V : Int)) ≤ 2 ^ (V + 1102) := by
  intro q fq sq nq hq hs
  have b1 := fq.bits
  have b2 := fq.lo
  have b3 := fq.hi
  have hl := quoE_low (n := n) x1 fq.may sq nq (by omega) (V := V) (by omega) (by omega) (by omega) (by omega)
  have hn := hl.2 (V + 1101) (by omega) (bigN _ hq)
  rw [hA] at hl hn
  have hb := big _ hq
  have r := low_side (P := quart V) (Qa := at_ (hLo n) (-(V : Int))) (Qb := at_ (hHi n) (-(V : Int))) (M := 2 ^ (V + 1101)) (E := 2 ^ (V + 1101 - n)) (W := 2 ^ (V + 5 - n)) hl.1 hn (by omega) (by omega) (by omega) q1 q2 q3 (Int.le_of_lt M0) (Int.le_of_lt E0) hs
  refine ⟨(quo_fitS x5 fq sq nq ⟨by omega, by omega⟩ (by decide) _).mono (by omega) (by decide), r.1, by omega, by omega, by omega⟩
 have highOf : ∀ q : Dyd, Fit q 10402 10402 → q.neg = false → q.mag ≠ [] → 2 ^ (V - 1) ≤ at_ q (-(V : Int)) → (at_ x (-(V : Int)) * 2 ^ V ≤ 0 ∧ at_ q (-(V : Int)) = at_ (hHi n) (-(V : Int)) ∨ 0 ≤ at_ x (-(V : Int)) * 2 ^ V ∧ at_ q (-(V : Int)) = at_ (hLo n) (-(V : Int))) →
   Fit (quoE x q n true) 10402 60000 ∧ at_ x (-(V : Int)) * 2 ^ V ≤ at_ (quoE x q n true) (-(V : Int)) * quart V ∧ at_ (quoE x q n true) (-(V : Int)) * quart V ≤ at_ x (-(V : Int)) * 2 ^ V + 2 ^ (2 * V + 1108 - n) ∧
   -(2 ^ (V + 1102)) ≤ at_ (quoE x q n true) (-(V : Int)) ∧ at_ (quoE x q n true) (-(V : Int)) ≤ 2 ^ (V + 1102) := by
  intro q fq sq nq hq hs
  have b1 := fq.bits
  have b2 := fq.lo
  have b3 := fq.hi
  have hl := quoE_high (n := n) x1 fq.may sq nq (by omega) (V := V) (by omega) (by omega) (by omega) (by omega)
  have hn := hl.2 (V + 1101) (by omega) (bigN _ hq)
  rw [hA] at hl hn
  have hb := big _ hq
  have r := high_side (P := quart V) (Qa := at_ (hLo n) (-(V : Int))) (Qb := at_ (hHi n) (-(V : Int))) (M := 2 ^ (V + 1101)) (E := 2 ^ (V + 1101 - n)) (W := 2 ^ (V + 5 - n)) hl.1 hn (by omega) (by omega) (by omega) q1 q2 q3 (Int.le_of_lt M0) (Int.le_of_lt E0) hs
  refine ⟨(quo_fitS x5 fq sq nq ⟨by omega, by omega⟩ (by decide) _).mono (by omega) (by decide), r.1, by omega, by omega, by omega⟩
 unfold jLo jHi
 rcases hXs with ⟨s0, c⟩ | ⟨s0, c⟩
 ·rw [s0]
  simp only [cond_false]
  obtain ⟨r1, r2, r3, r4, r5⟩ := lowOf (hHi n) fb sb nb qb1 (.inl ⟨c, rfl⟩)
  obtain ⟨t1, t2, t3, t4, t5⟩ := highOf (hLo n) fa sa na q4 (.inr ⟨c, rfl⟩)
  exact ⟨⟨r1, t1⟩, r2, r3, t2, t3, ⟨r4, r5⟩, t4, t5⟩
 ·rw [s0]
  simp only [cond_true]
  obtain ⟨r1, r2, r3, r4, r5⟩ := lowOf (hLo n) fa sa na q4 (.inr ⟨c, rfl⟩)
  obtain ⟨t1, t2, t3, t4, t5⟩ := highOf (hHi n) fb sb nb qb1 (.inl ⟨c, rfl⟩)
  exact ⟨⟨r1, t1⟩, r2, r3, t2, t3, ⟨r4, r5⟩, t4, t5⟩
theorem near_factsW {d : Dyd} (hf : Fit d 10402 60000) {V K : Nat} (hV : 400000 ≤ V) (hK : K = 1102) (hb1 : -(2 ^ (V + 1102)) ≤ at_ d (-(V : Int))) (hb2 : at_ d (-(V : Int)) ≤ 2 ^ (V + 1102)) :
  mayD (addD d (unitOf (-1))) = true ∧ mayD (floorD (addD d (unitOf (-1)))) = true ∧ 0 ≤ (floorD (addD d (unitOf (-1)))).exp ∧ Fit (floorD (addD d (unitOf (-1)))) 1104 1104 ∧
  2 * (at_ (floorD (addD d (unitOf (-1)))) 0 * 2 ^ V) ≤ 2 * at_ d (-(V : Int)) + 2 ^ V ∧ 2 * at_ d (-(V : Int)) + 2 ^ V < 2 * (at_ (floorD (addD d (unitOf (-1)))) 0 * 2 ^ V) + 2 * 2 ^ V ∧ (at_ (floorD (addD d (unitOf (-1)))) 0).natAbs ≤ 2 ^ (K + 1) := by
 have f1 := hf.lo
 have fa := (fit_add hf fit_halfW (by decide) (by decide)).1
 have fl := floor_fit fa (by decide) (by decide)
 have a1 := fa.lo
 have hv := floor_val fa.may (V := V) (by omega)
 have hat : at_ (addD d (unitOf (-1))) (-(V : Int)) = at_ d (-(V : Int)) + 2 ^ (V - 1) := by
  rw [at_addD (by omega) (by show -(V : Int) ≤ -1; omega), unit_at _ _ (by omega)]
  congr 2
  omega
 rw [hat] at hv
 obtain ⟨v0, v1, v2⟩ := hv
 have e1 : (2 : Int) ^ V = 2 * 2 ^ (V - 1) := by rw [Int.mul_comm, ← Int.pow_succ]; congr 1; omega
 have D0 : (0 : Int) < 2 ^ V := Int.pow_pos (by decide)
 rw [Int.add_mul, Int.one_mul] at v2
 have hk : (at_ (floorD (addD d (unitOf (-1)))) 0).natAbs ≤ 2 ^ (K + 1) := by
  have e2 : (2 : Int) ^ (V + 1102) = 2 ^ K * 2 ^ V := by rw [← Int.pow_add]; congr 1; omega
  rw [e2] at hb1 hb2
  have k1 : at_ (floorD (addD d (unitOf (-1)))) 0 < 2 ^ K + 1 := by
   refine Int.lt_of_mul_lt_mul_right (a := 2 ^ V) ?_ (Int.le_of_lt D0)
   rw [Int.add_mul, Int.one_mul]
   omega
  have k2 : -(2 ^ K) - 1 ≤ at_ (floorD (addD d (unitOf (-1)))) 0 := by
   refine Int.le_of_mul_le_mul_right (a := 2 ^ V) ?_ D0
   rw [Int.sub_mul, Int.neg_mul, Int.one_mul]
   omega
  have e3 := pow_cast K
  have e4 : (2 : Nat) ^ (K + 1) = 2 ^ K * 2 := Nat.pow_succ ..
  have e5 : 0 < (2 : Nat) ^ K := Nat.two_pow_pos _
  rw [e4]
  generalize (2 : Nat) ^ K = z at *
  omega
 refine ⟨fa.may, fl.1.may, v0, ?_, by omega, by omega, hk⟩
 have hz := formZ_at fl.1.may v0
 rw [← hz]
 have hb := bl_mono hk
 have e6 : bl (2 ^ (K + 1)) = 1104 := by
  have := bl_mul_two_pow (n := 1) (by decide) (K + 1)
  rw [Nat.one_mul] at this
  rw [this, show bl 1 = 1 from rfl]
  omega
 rw [e6] at hb
 exact formZ_fit hb (by decide) (by decide) (by decide) (by decide)
end Go.Dy

namespace Go.Dy
theorem v_facts {x : Dyd} (hx : angle x) {n V K : Nat} (h1 : 20 ≤ n) (h2 : n ≤ 10400) (hV : 400000 ≤ V) (hK : K = 1103) {k : Dyd} (fk : Fit k 1104 1104) (k0 : 0 ≤ k.exp) (kb : (at_ k 0).natAbs ≤ 2 ^ K) :
  Fit (subD x (bif k.neg then mulD k (hLo n) else mulD k (hHi n))) 104021 145629 ∧ Fit (subD x (bif k.neg then mulD k (hHi n) else mulD k (hLo n))) 104021 145629 ∧
  at_ (subD x (bif k.neg then mulD k (hLo n) else mulD k (hHi n))) (-(V : Int)) ≤ at_ x (-(V : Int)) - at_ k 0 * quart V ∧
  at_ x (-(V : Int)) - at_ k 0 * quart V ≤ at_ (subD x (bif k.neg then mulD k (hHi n) else mulD k (hLo n))) (-(V : Int)) ∧
  at_ (subD x (bif k.neg then mulD k (hHi n) else mulD k (hLo n))) (-(V : Int)) - at_ (subD x (bif k.neg then mulD k (hLo n) else mulD k (hHi n))) (-(V : Int)) ≤ 2 ^ (V + 1110 - n) := by
 have hp : prec + 1 ≤ V := by unfold prec; omega
 have fx := (angle_facts hx).2.2.2.2.1
 have hs := h_span (V := V) h1 h2 (by omega)
 have fa := hs.1.1
 have fb := hs.2.1.1
 have q1 := hs.2.2.1
 have q2 := hs.2.2.2.1
 have q3 := hs.2.2.2.2.1
 clear hs
 have a1 := fa.lo
 have b1 := fb.lo
 have x1 := fx.lo
 have fka := (fit_mul (fk.mono (L' := 10402) (E' := 10402) (by decide) (by decide)) fa (by decide) (by decide)).1
 have fkb := (fit_mul (fk.mono (L' := 10402) (E' := 10402) (by decide) (by decide)) fb (by decide) (by decide)).1
 have m1 := fka.lo
 have m2 := fkb.lo
 have ea : at_ (mulD k (hLo n)) (-(V : Int)) = at_ k 0 * at_ (hLo n) (-(V : Int)) := by
  have := at_mulD (a := k) (b := hLo n) (u := 0) (v := -(V : Int)) k0 (by omega)
  rwa [Int.zero_add] at this
 have eb : at_ (mulD k (hHi n)) (-(V : Int)) = at_ k 0 * at_ (hHi n) (-(V : Int)) := by
  have := at_mulD (a := k) (b := hHi n) (u := 0) (v := -(V : Int)) k0 (by omega)
  rwa [Int.zero_add] at this
 have ga := fit_sub (fx.mono (L' := 20804) (E' := 41608) (by decide) (by decide)) fka (by decide) (by decide)
 have gb := fit_sub (fx.mono (L' := 20804) (E' := 41608) (by decide) (by decide)) fkb (by decide) (by decide)
 have sa := sub_at (a := x) (b := mulD k (hLo n)) (u := -(V : Int)) (by omega) (by omega)
 have sb := sub_at (a := x) (b := mulD k (hHi n)) (u := -(V : Int)) (by omega) (by omega)
 rw [ea] at sa
 rw [eb] at sb
 have hn := neg_at (d := k) 0
 have hw : (at_ k 0).natAbs * 2 ^ (V + 5 - n) ≤ 2 ^ (V + 1110 - n) := by
  have h := Nat.mul_le_mul_right (2 ^ (V + 5 - n)) kb
  rw [← Nat.pow_add] at h
  exact Nat.le_trans h (Nat.pow_le_pow_right (by decide) (by omega))
 have w0 : (0 : Int) < 2 ^ (V + 5 - n) := Int.pow_pos (by decide)
 have pw := pow_cast (V + 5 - n)
 have pw2 := pow_cast (V + 1110 - n)
 generalize at_ (hLo n) (-(V : Int)) = A at *
 generalize at_ (hHi n) (-(V : Int)) = B at *
 generalize quart V = P at *
 generalize at_ x (-(V : Int)) = X at *
 have hd := abs_mul_le (K := at_ k 0) (d := B - A) (A := (at_ k 0).natAbs) (W := 2 ^ (V + 5 - n)) (Nat.le_refl _) (by omega) (by omega)
 rw [Int.mul_sub] at hd
 generalize at_ k 0 = c at *
 have hw2 : ((c.natAbs * 2 ^ (V + 5 - n) : Nat) : Int) ≤ ((2 ^ (V + 1110 - n) : Nat) : Int) := Int.ofNat_le.2 hw
 cases hk : k.neg with
 | false =>
  have c0 := hn.1 hk
  have k1 := Int.mul_le_mul_of_nonneg_left q1 c0
  have k2 := Int.mul_le_mul_of_nonneg_left q2 c0
  simp only [cond_false]
  refine ⟨gb, ga, ?_, ?_, ?_⟩
  ·rw [sb]; omega
  ·rw [sa]; omega
  ·rw [sa, sb]; omega
 | true =>
  have c0 := hn.2 hk
  have k1 := Int.mul_le_mul_of_nonpos_left c0 q1
  have k2 := Int.mul_le_mul_of_nonpos_left c0 q2
  simp only [cond_true]
  refine ⟨ga, gb, ?_, ?_, ?_⟩
  ·rw [sa]; omega
  ·rw [sb]; omega
  ·rw [sa, sb]; omega
end Go.Dy

namespace Go.Dy
theorem same_iff {a b : Dyd} : sameD a b = true ↔ a = b := by
 obtain ⟨s, m, e⟩ := a
 obtain ⟨s', m', e'⟩ := b
 unfold sameD
 simp only [Bool.and_eq_true, beq_iff_eq, decide_eq_true_eq, Dyd.mk.injEq]
 constructor
 ·rintro ⟨⟨h1, h2⟩, h3⟩; exact ⟨h1, h3, h2⟩
 ·rintro ⟨h1, h2, h3⟩; exact ⟨⟨h1, h3⟩, h2⟩
theorem v_zero {x : Dyd} (hx : angle x) {n : Nat} {k : Dyd} (fk : Fit k 1104 1104) (k0 : 0 ≤ k.exp) (kz : at_ k 0 = 0) :
  subD x (bif k.neg then mulD k (hLo n) else mulD k (hHi n)) = x ∧ subD x (bif k.neg then mulD k (hHi n) else mulD k (hLo n)) = x := by
 obtain ⟨x1, x2, -, -, -, -, -⟩ := angle_facts hx
 have hk : k = zeroD := by
  have := formZ_at fk.may k0
  rw [kz, formZ_zero] at this
  exact this.symm
 subst hk
 have hs : subD x zeroD = x := by
  have e0 : -(1280 : Int) ≤ zeroD.exp := by decide
  have hn : negD zeroD = zeroD := rfl
  unfold subD
  rw [hn, addD_at x2 e0, at_zero, Int.add_zero, formZ_at x1 x2]
 rw [zero_mul, zero_mul]
 exact ⟨hs, hs⟩
theorem turn_ok {x : Dyd} (hx : angle x) {n : Nat} (h1 : 20 ≤ n) (h2 : n ≤ 10400) :
  (wOk n x = true → at_ (wLo n x) 0 = ansK x ∧ mayD (vLo n x) = true ∧ mayD (vHi n x) = true ∧ ∀ b : Nat, 1 ≤ b → signS (vLo n x) (vHi n x) ≠ 0 → cmpD (cutR (vLo n x) b).1 (cutR (vHi n x) b).1 = 0 → (cutR (vLo n x) b).1 = ansD x b) ∧
  (5120 ≤ n → wOk n x = true ∧ ∀ b : Nat, 1 ≤ b → b ≤ 1500 → signS (vLo n x) (vHi n x) ≠ 0 ∧ cmpD (cutR (vLo n x) b).1 (cutR (vHi n x) b).1 = 0) := by
 obtain ⟨V, hV⟩ : ∃ V : Nat, vu = V := ⟨_, rfl⟩
 have hV5 : V = 500000 := by rw [← hV]; exact vu_eq
 unfold ansD ansR ansK
 rw [hV]
 clear hV
 obtain ⟨K, hK⟩ : ∃ K : Nat, K = 1102 := ⟨_, rfl⟩
 have hq := quart_lo (V := V) (by rw [hV5]; unfold prec; omega)
 have D0 : (0 : Int) < 2 ^ V := Int.pow_pos (by decide)
 have P0 : 0 < quart V := by omega
 have hx1 := angle_facts hx
 have x1 := hx1.1
 have x2 := hx1.2.1
 have xb := hx1.2.2.2.1
 have x6 := hx1.2.2.2.2.2.1 V (by omega)
 clear hx1
 have hkf := j_facts hx (n := n) (V := V) (by omega) (by omega) (by omega)
 have fk := hkf.1.1
 have fk' := hkf.1.2
 have y1 := hkf.2.1
 have y2 := hkf.2.2.1
 have z1 := hkf.2.2.2.1
 have z2 := hkf.2.2.2.2.1
 have huf := near_factsW fk (V := V) (by omega) hK hkf.2.2.2.2.2.1.1 hkf.2.2.2.2.2.1.2
 have hwf := near_factsW fk' (V := V) (by omega) hK hkf.2.2.2.2.2.2.1 hkf.2.2.2.2.2.2.2
 clear hkf
 have u2 : mayD (wLo n x) = true := huf.2.1
 have u3 : 0 ≤ (wLo n x).exp := huf.2.2.1
 have u4 : Fit (wLo n x) 1104 1104 := huf.2.2.2.1
 have u5 : 2 * (at_ (wLo n x) 0 * 2 ^ V) ≤ 2 * at_ (jLo n x) (-(V : Int)) + 2 ^ V := huf.2.2.2.2.1
 have u6 : 2 * at_ (jLo n x) (-(V : Int)) + 2 ^ V < 2 * (at_ (wLo n x) 0 * 2 ^ V) + 2 * 2 ^ V := huf.2.2.2.2.2.1
 have u7 : (at_ (wLo n x) 0).natAbs ≤ 2 ^ (K + 1) := huf.2.2.2.2.2.2
 have w3 : 0 ≤ (wHi n x).exp := hwf.2.2.1
 have hwf4 := hwf.2.2.2.1
 have w5 : 2 * (at_ (wHi n x) 0 * 2 ^ V) ≤ 2 * at_ (jHi n x) (-(V : Int)) + 2 ^ V := hwf.2.2.2.2.1
 have w6 : 2 * at_ (jHi n x) (-(V : Int)) + 2 ^ V < 2 * (at_ (wHi n x) 0 * 2 ^ V) + 2 * 2 ^ V := hwf.2.2.2.2.2.1
 clear huf hwf
 have w4 : Fit (wHi n x) 1104 1104 := hwf4
 have hok : wOk n x = true ↔ at_ (wLo n x) 0 = at_ (wHi n x) 0 := by
  unfold wOk
  rw [same_iff]
  constructor
  ·intro h; rw [h]
  ·intro h
   rw [← formZ_at u4.may u3, ← formZ_at w4.may w3, h]
 have hrf := v_facts hx (n := n) (V := V) (K := K + 1) (by omega) (by omega) (by omega) (by omega) u4 u3 u7
 have f1 : Fit (vLo n x) 104021 145629 := hrf.1
 have f2 : Fit (vHi n x) 104021 145629 := hrf.2.1
 have r1 : at_ (vLo n x) (-(V : Int)) ≤ at_ x (-(V : Int)) - at_ (wLo n x) 0 * quart V := hrf.2.2.1
 have r2 : at_ x (-(V : Int)) - at_ (wLo n x) 0 * quart V ≤ at_ (vHi n x) (-(V : Int)) := hrf.2.2.2.1
 have r3 : at_ (vHi n x) (-(V : Int)) - at_ (vLo n x) (-(V : Int)) ≤ 2 ^ (V + 1110 - n) := hrf.2.2.2.2
 clear hrf
 have hz := v_zero hx (n := n) u4 u3
 have hz : at_ (wLo n x) 0 = 0 → vLo n x = x ∧ vHi n x = x := hz
 have e1 : -(V : Int) ≤ (vLo n x).exp := by have := f1.lo; omega
 have e2 : -(V : Int) ≤ (vHi n x).exp := by have := f2.lo; omega
 have hne : wOk n x = true → nearZ (at_ x (-(V : Int))) (quart V) = at_ (wLo n x) 0 := fun h => by
  rw [hok] at h
  rw [← h] at w6
  exact near_between P0 D0 y1 z1 u5 w6
 have hcmp : ∀ b : Nat, 1 ≤ b → (cmpD (cutR (vLo n x) b).1 (cutR (vHi n x) b).1 = 0 ↔ cutV (at_ (vLo n x) (-(V : Int))) b = cutV (at_ (vHi n x) (-(V : Int))) b) := fun b hb => by
  rw [cmp_eq_iff (cut_exp hb f1.may e1) (cut_exp hb f2.may e2), cutR_at2 f1.may hb e1, cutR_at2 f2.may hb e2]
 have hsg := sign_span f1.may f2.may e1 e2 (by omega)
 refine ⟨fun h => ?_, fun h5 => ?_⟩
 ·have hk := hne h
  rw [hk]
  refine ⟨rfl, f1.may, f2.may, fun b hb hs hc => ?_⟩
  rw [hcmp b hb] at hc
  rw [hsg] at hs
  rw [cut_form f1.may hb e1, cutR_cutV _ _ hb]
  rw [cut_between hb r1 r2 hs hc]
 ·have hq1 : wOk n x = true := by
   rw [hok]
   refine Decidable.byContradiction fun c => ?_
   have yz : at_ (jLo n x) (-(V : Int)) ≤ at_ (jHi n x) (-(V : Int)) := Int.le_of_mul_le_mul_right (Int.le_trans y1 z1) P0
   have lt : at_ (wLo n x) 0 < at_ (wHi n x) 0 := by
    have : at_ (wLo n x) 0 < at_ (wHi n x) 0 + 1 := by
     refine Int.lt_of_mul_lt_mul_right (a := 2 ^ V) ?_ (Int.le_of_lt D0)
     rw [Int.add_mul, Int.one_mul]
     omega
    omega
   have k1 : (at_ (wLo n x) 0 + 1) * 2 ^ V ≤ at_ (wHi n x) 0 * 2 ^ V := Int.mul_le_mul_of_nonneg_right (by omega) (Int.le_of_lt D0)
   rw [Int.add_mul, Int.one_mul] at k1
   obtain ⟨j, hj⟩ : ∃ j : Int, at_ (wHi n x) 0 = j := ⟨_, rfl⟩
   rw [hj] at k1 w5
   have a1 := Int.mul_le_mul_of_nonneg_right (show 2 * at_ (jLo n x) (-(V : Int)) ≤ 2 * (j * 2 ^ V) - 2 ^ V by omega) (Int.le_of_lt P0)
   have a2 := Int.mul_le_mul_of_nonneg_right (show 2 * (j * 2 ^ V) - 2 ^ V ≤ 2 * at_ (jHi n x) (-(V : Int)) by omega) (Int.le_of_lt P0)
   have e3 : (2 * (j * 2 ^ V) - 2 ^ V) * quart V = (2 * j - 1) * quart V * 2 ^ V := by
    rw [← Int.mul_assoc, show 2 * j * 2 ^ V - 2 ^ V = (2 * j - 1) * 2 ^ V by rw [Int.sub_mul, Int.one_mul], Int.mul_right_comm]
   rw [e3] at a1 a2
   rw [Int.mul_assoc 2, Int.mul_assoc (2 * j - 1)] at a1 a2
   have e4 : (2 : Int) ^ (2 * V + 1108 - n) = 2 ^ (V + 1108 - n) * 2 ^ V := by
    rw [← Int.pow_add, show V + 1108 - n + V = 2 * V + 1108 - n by omega]
   rw [e4] at y2 z2
   have g1 : ((2 * j - 1) * quart V - 2 * at_ x (-(V : Int))) * 2 ^ V ≤ (2 * 2 ^ (V + 1108 - n)) * 2 ^ V := by
    rw [Int.sub_mul, Int.mul_assoc 2, Int.mul_assoc 2, Int.mul_assoc (2 * j - 1)]
    omega
   have g2 : (2 * at_ x (-(V : Int)) - (2 * j - 1) * quart V) * 2 ^ V ≤ (2 * 2 ^ (V + 1108 - n)) * 2 ^ V := by
    rw [Int.sub_mul, Int.mul_assoc 2, Int.mul_assoc 2, Int.mul_assoc (2 * j - 1)]
    omega
   have g1 := Int.le_of_mul_le_mul_right g1 D0
   have g2 := Int.le_of_mul_le_mul_right g2 D0
   have e5 : (2 : Int) * 2 ^ (V + 1108 - n) = 2 ^ (V + 1109 - n) := by
    rw [show V + 1109 - n = (V + 1108 - n) + 1 by omega, Int.pow_succ, Int.mul_comm]
   have e6 : (2 : Int) ^ (V + 1109 - n) ≤ 2 ^ (V - 4011) := two_le (by omega)
   have e7 : (2 : Int) ^ (V - 4011) ≤ 2 ^ V := two_le (by omega)
   rw [e5] at g1 g2
   have hb : (((2 * j - 1).natAbs : Nat) : Int) * quart V ≤ 2 * (at_ x (-(V : Int))).natAbs + 2 ^ V := by
    rcases Int.natAbs_eq (2 * j - 1) with e | e
    ·rw [← e]; omega
    ·rw [show (((2 * j - 1).natAbs : Nat) : Int) = -(2 * j - 1) by omega, Int.neg_mul]; omega
   have hf := half_far hx (V := V) (by omega) (j := 2 * j - 1) (by omega) hb
   have e8 : (2 : Nat) ^ (V - 4011) < 2 ^ (V - 4009) := Nat.pow_lt_pow_right (by decide) (by omega)
   have e9 := pow_cast (V - 4011)
   omega
  refine ⟨hq1, fun b hb1 hb2 => ?_⟩
  have hk := hne hq1
  have hnr := nearZ_near (X := at_ x (-(V : Int))) P0
  rw [hk] at hnr
  rw [hcmp b hb1, hsg]
  by_cases c : at_ (wLo n x) 0 = 0
  ·obtain ⟨q1, q2⟩ := hz c
   rw [q1, q2]
   refine ⟨?_, rfl⟩
   have := x6.2
   have hp := Nat.two_pow_pos (V - 1)
   omega
  ·have hbig := rest_big hx (V := V) (by omega) c hnr
   have hfar := fun B => rest_far hx (V := V) (by omega) c hnr B
   have hw : (2 : Int) ^ (V + 1110 - n) ≤ 2 ^ (V - 4010) := two_le (by omega)
   have hcn := cut_near (b := b) (G := V - 2905) (B := V - 1400) (W := V - 4010) (F := V - 4009) r1 r2 (by omega) (by omega) (by omega) hbig (by omega) hb1 hfar
   have hp := Nat.two_pow_pos (V - 1400)
   refine ⟨?_, by rw [hcn.1, hcn.2.1]⟩
   have h3 := hcn.2.2.1
   have h4 := hcn.2.2.2
   omega
end Go.Dy

namespace Go.Dy
def okT (x : Dyd) (b n : Int) : Bool := turnOk n x && (!decide (signD (turnLo n x) * signD (turnHi n x) ≤ 0) && sameD (cutR (turnLo n x) b).1 (cutR (turnHi n x) b).1)
def turnN (x : Dyd) (b : Int) : Nat → Int → Int
 | 0, n => n
 | f + 1, n => bif okT x b n then n else turnN x b f (2 * n)
def turned (x : Dyd) : Prop := mayD x = true ∧ x.mag ≠ [] ∧ x.mag.length ≤ 40 ∧ topD x ≤ 1100
end Go.Dy
namespace Go.AI
open Go Go.RowKit Go.Proofs
set_option linter.unusedVariables false
def rReduceD : List AV → Option Spec
 | [.agg [.bool s, .dig [1] m, .num .i64 e], .num .i64 b] =>
  some ⟨some (Dy.refuse ⟨s, m, e⟩ b = 0 ∧ b ≤ 1500), .tup [.num .i64 (Dy.redK ⟨s, m, e⟩ b), avD [0, 1, 2] (Dy.redR ⟨s, m, e⟩ b)]⟩
 | _ => none
def tabY3 : List (Nat × (List AV → Option Spec)) := (9, rReduceD) :: tabY2
def lsTurn : List AV → Option LR
 | [.num .i64 b, .boxv [.bool s, .dig [1, 2, 3] m, .num .i64 e], .num .i64 q, .boxv [.bool s', .dig [3] m', .num .i64 e'], .num .i64 n] =>
  some (.need (Dy.turned ⟨s, m, e⟩ ∧ 1 ≤ b ∧ b ≤ 1500 ∧ 65 ≤ n ∧ n ≤ 2700) (.done .ret [.num .i64 b, .boxv [.bool s, .dig [1, 2, 3] m, .num .i64 e], .num .i64 (Dy.redK ⟨s, m, e⟩ b),
   .boxv [.bool (Dy.redR ⟨s, m, e⟩ b).neg, .dig [1, 2, 3] (Dy.redR ⟨s, m, e⟩ b).mag, .num .i64 (Dy.redR ⟨s, m, e⟩ b).exp], .num .i64 (Dy.turnN ⟨s, m, e⟩ b 8 n)]))
 | _ => none
def keepTurn : List (Nat × Keep) := [(1, .same), (2, .same), (4, .same), (5, .same), (7, .same)]
def lamTurn := lam [(8, .spec keepTurn lsTurn)]
end Go.AI

namespace Go.AI
open Go Go.RowKit Go.Proofs
set_option linter.unusedVariables false
set_option maxRecDepth 100000
mutual
def AV.free (n : Nat) : AV → Bool
 | .dig p _ => !p.contains n
 | .own b => b != n
 | .vec p _ l => !p.contains n && AV.frees n l
 | .agg cs => AV.frees n cs
 | .tup cs => AV.frees n cs
 | .addr b _ => b != n
 | .cref p cs => !p.contains n && AV.frees n cs
 | .fn _ caps => AV.frees n caps
 | .hand b _ _ _ => b != n
 | .avec b _ _ _ => b != n
 | _ => true
def AV.frees (n : Nat) : List AV → Bool
 | [] => true
 | c :: cs => AV.free n c && AV.frees n cs
end
def Box.free (n : Nat) : Box → Bool
 | .cells cs => AV.frees n cs
 | _ => true
structure LeX (n : Nat) (C C' : Ctx) : Prop where
 born : ∀ i, i ≠ n → C.bs i ≠ .unborn → C'.bs i ≠ .unborn
 arena : ∀ i, i ≠ n → C.bs i ≠ .unborn → C'.bs i = .arena → C.bs i = .arena ∧ ∀ x, C.β i x → C'.β i x ∧ C'.w.heap[x]? = C.w.heap[x]?
 digs : ∀ i T l', i ≠ n → C.bs i ≠ .unborn → C'.bs i = .digs T l' → ∃ l, C.bs i = .digs T l ∧ l.length = l'.length ∧ ∀ x, C.β i x → C'.β i x ∧
  ∀ cs, C.w.heap[x]? = some (.cells cs T (0, 0)) → ∃ cs', C'.w.heap[x]? = some (.cells cs' T (0, 0)) ∧ cs'.size = cs.size
 cells : ∀ i c', i ≠ n → C.bs i ≠ .unborn → C'.bs i = .cells c' → ∃ c, C.bs i = .cells c ∧ ∀ x, C.β i x → C'.β i x
section
variable {n : Nat} {C C' : Ctx}
theorem free_ne {p : List Nat} (h : (!p.contains n) = true) : ∀ i ∈ p, i ≠ n := fun i hi e => by
 subst e
 simp at h
 exact h hi
theorem LeX.alive (h : LeX n C C') {p : List Nat} (hf : (!p.contains n) = true) (hb : C.born p) (ha : C'.alive p) : C.alive p := fun i hi => (h.arena i (free_ne hf i hi) (hb i hi) (ha i hi)).1
theorem LeX.inP (h : LeX n C C') {p : List Nat} (hf : (!p.contains n) = true) (hb : C.born p) (ha : C'.alive p) {b : Nat} (hp : C.inP p b) : C'.inP p b ∧ C'.w.heap[b]? = C.w.heap[b]? := by
 obtain ⟨i, hi, hx⟩ := hp
 obtain ⟨_, h2⟩ := h.arena i (free_ne hf i hi) (hb i hi) (ha i hi)
 exact ⟨⟨i, hi, (h2 b hx).1⟩, (h2 b hx).2⟩
theorem LeX.bornP (h : LeX n C C') {p : List Nat} (hf : (!p.contains n) = true) (hb : C.born p) : C'.born p := fun i hi => h.born i (free_ne hf i hi) (hb i hi)
theorem LeX.liveB (h : LeX n C C') {b : Nat} (hn : b ≠ n) (hb : C.bs b ≠ .unborn) (hl : (C'.bs b).live) : (C.bs b).live ∧ ∀ x, C.β b x → C'.β b x := by
 cases hc : C'.bs b with
 | unborn => rw [hc] at hl; exact hl.elim
 | dead => rw [hc] at hl; exact hl.elim
 | arena => rw [hc] at hl; exact hl.elim
 | cells c' => obtain ⟨c, h1, h2⟩ := h.cells b c' hn hb hc; rw [h1]; exact ⟨trivial, h2⟩
 | digs T l' => obtain ⟨l, h1, _, h2⟩ := h.digs b T l' hn hb hc; rw [h1]; exact ⟨trivial, fun x hx => (h2 x hx).1⟩
mutual
theorem V.monoX (h : LeX n C C') : ∀ (av : AV) (v : Value), av.free n = true → V C av v → V C' av v
 | .junk, _, _, _ => by simp only [V]
 | .num .., _, _, hv => by simp only [V] at hv ⊢; exact hv
 | .bool _, _, _, hv => by simp only [V] at hv ⊢; exact hv
 | .nilS, _, _, hv => by simp only [V] at hv ⊢; exact hv
 | .dig p l, _, hf, hv => by
  simp only [AV.free] at hf
  simp only [V] at hv ⊢
  obtain ⟨hb, hok, base, cap, rfl, hd⟩ := hv
  exact ⟨h.bornP hf hb, hok, base, cap, rfl, fun ha => (hd (h.alive hf hb ha)).mono fun b hp => h.inP hf hb ha hp⟩
 | .own b, v, hf, hv => by
  simp only [AV.free, bne_iff_ne, ne_eq] at hf
  simp only [V] at hv ⊢
  obtain ⟨hb, hsl, hv⟩ := hv
  refine ⟨h.born b hf hb, hsl, fun T l' hl' => ?_⟩
  obtain ⟨l, hl, hlen, hx⟩ := h.digs b T l' hf hb hl'
  rcases hv T l hl with ⟨h1, h2⟩ | ⟨blk, cap, h1, h2, h3, h6, cs, h4, h5⟩
  ·subst h2
   exact .inl ⟨h1, List.eq_nil_of_length_eq_zero (by simpa using hlen.symm)⟩
  ·obtain ⟨hβ, hc⟩ := hx blk h1
   obtain ⟨cs', hc', hsz⟩ := hc cs h4
   exact .inr ⟨blk, cap, hβ, by rw [h2, hlen], by omega, h6, cs', hc', by omega⟩
 | .vec p m l, _, hf, hv => by
  simp only [AV.free, Bool.and_eq_true] at hf
  simp only [V] at hv ⊢
  obtain ⟨hb, hlen, hn, base, cap, us, rfl, hus, hsz, hd⟩ := hv
  exact ⟨h.bornP hf.1 hb, hlen, hn, base, cap, us, rfl, Vs.monoX h _ _ hf.2 hus, hsz, fun ha => (hd (h.alive hf.1 hb ha)).mono fun b hp => h.inP hf.1 hb ha hp⟩
 | .agg cs, _, hf, hv => by
  simp only [AV.free] at hf
  simp only [V] at hv ⊢
  obtain ⟨vs, rfl, hvs⟩ := hv
  exact ⟨vs, rfl, Vs.monoX h _ _ hf hvs⟩
 | .tup cs, _, hf, hv => by
  simp only [AV.free] at hf
  simp only [V] at hv ⊢
  obtain ⟨vs, rfl, hvs⟩ := hv
  exact ⟨vs, rfl, Vs.monoX h _ _ hf hvs⟩
 | .addr b off, _, hf, hv => by
  simp only [AV.free, bne_iff_ne, ne_eq] at hf
  simp only [V] at hv ⊢
  obtain ⟨hb, hv⟩ := hv
  refine ⟨h.born b hf hb, fun hl => ?_⟩
  have := h.liveB hf hb hl
  obtain ⟨blk, h1, h2⟩ := hv this.1
  exact ⟨blk, this.2 blk h1, h2⟩
 | .cref p cs, _, hf, hv => by
  simp only [AV.free, Bool.and_eq_true] at hf
  simp only [V] at hv ⊢
  obtain ⟨hb, vs, hvs, b, off, rfl, hd⟩ := hv
  refine ⟨h.bornP hf.1 hb, vs, Vs.monoX h _ _ hf.2 hvs, b, off, rfl, fun ha => ?_⟩
  obtain ⟨h1, h2⟩ := hd (h.alive hf.1 hb ha)
  obtain ⟨h3, h4⟩ := h.inP hf.1 hb ha h1
  exact ⟨h3, fun j u hj => (cell?_of_heap h4).trans (h2 j u hj)⟩
 | .fn f caps, _, hf, hv => by
  simp only [AV.free] at hf
  simp only [V] at hv ⊢
  obtain ⟨vs, rfl, hvs⟩ := hv
  exact ⟨vs, rfl, Vs.monoX h _ _ hf hvs⟩
 | .grown .., _, _, hv => by simp only [V] at hv
 | .boxv _, _, _, hv => by simp only [V] at hv
 | .handv .., _, _, hv => by simp only [V] at hv ⊢; exact hv
 | .avec b off s m, _, hf, hv => by
  simp only [AV.free, bne_iff_ne, ne_eq] at hf
  simp only [V] at hv ⊢
  obtain ⟨hb, hn, hv⟩ := hv
  refine ⟨h.born b hf hb, hn, fun hl => ?_⟩
  have := h.liveB hf hb hl
  obtain ⟨blk, h1, h2⟩ := hv this.1
  exact ⟨blk, this.2 blk h1, h2⟩
 | .hand b gc lo len, _, hf, hv => by
  simp only [AV.free, bne_iff_ne, ne_eq] at hf
  simp only [V] at hv ⊢
  obtain ⟨hb, g, cap, hgc, rfl, hlc, hd⟩ := hv
  refine ⟨h.born b hf hb, g, cap, hgc, rfl, hlc, fun T L' hL' => ?_⟩
  obtain ⟨L, hL, hlen, hx⟩ := h.digs b T L' hf hb hL'
  obtain ⟨h1, h2, cs, h3, h4⟩ := hd T L hL
  obtain ⟨cs', h5, h6⟩ := (hx g h1).2 cs h3
  exact ⟨(hx g h1).1, by omega, cs', h5, by omega⟩
theorem Vs.monoX (h : LeX n C C') : ∀ (cs : List AV) (vs : List Value), AV.frees n cs = true → Vs C cs vs → Vs C' cs vs
 | [], [], _, _ => by simp only [Vs]
 | c :: cs, v :: vs, hf, hv => by
  simp only [AV.frees, Bool.and_eq_true] at hf
  simp only [Vs] at hv ⊢
  exact ⟨V.monoX h c v hf.1 hv.1, Vs.monoX h cs vs hf.2 hv.2⟩
 | [], _ :: _, _, hv => by simp only [Vs] at hv
 | _ :: _, [], _, hv => by simp only [Vs] at hv
end
end
structure Blot (b p : Nat) (w w' : World) : Prop where
 meta0 : Below 0 w w'
 size : w'.heap.size = w.heap.size
 other : ∀ x, x ≠ b → w'.heap[x]? = w.heap[x]?
 at_ : ∃ cs cs' T y, w.heap[b]? = some (.cells cs T (0, 0)) ∧ w'.heap[b]? = some (.cells cs' T (0, 0)) ∧ (∀ j, j ≠ p → cs'[j]? = cs[j]?) ∧ (∃ x : Nat, cs[p]? = some (.int .u32 (x : Int))) ∧ y < 2 ^ 32 ∧ cs'[p]? = some (.int .u32 (y : Nat))
theorem blot_size {cs cs' : Array Value} {p : Nat} {u v : Value} (h3 : ∀ j, j ≠ p → cs'[j]? = cs[j]?) (h4 : cs[p]? = some u) (h5 : cs'[p]? = some v) : cs'.size = cs.size := by
 have hp := (Array.getElem?_eq_some_iff.1 h4).1
 have hp' := (Array.getElem?_eq_some_iff.1 h5).1
 rcases Nat.lt_trichotomy cs'.size cs.size with c | c | c
 ·have := h3 cs'.size (by omega)
  rw [Array.getElem?_eq_none (Nat.le_refl _), Array.getElem?_eq_getElem c] at this
  cases this
 ·exact c
 ·have := h3 cs.size (by omega)
  rw [Array.getElem?_eq_none (Nat.le_refl cs.size), Array.getElem?_eq_getElem c] at this
  cases this
theorem Blot.turn {b p : Nat} {w w' : World} {S : Nat → Prop} (h : Blot b p w w') (hb : S b) : Turn S w w' := by
 refine ⟨h.meta0, fun x _ hx => h.other x fun e => hx (e ▸ hb), fun x c T hs hc => ?_, fun k h1 h2 => by rw [h.size] at h2; omega⟩
 by_cases e : x = b
 ·subst e
  obtain ⟨cs, cs', T', y, h1, h2, h3, ⟨z, h4⟩, _, h5⟩ := h.at_
  rw [h1] at hc
  cases hc
  exact ⟨cs', h2, blot_size h3 h4 h5⟩
 ·exact ⟨c, (h.other x e).trans hc, rfl⟩
theorem Blot.dig {b p n : Nat} {w w' : World} (h : Blot b p w w') {bs bs' : Nat → Box} {β : Nat → Nat → Prop} (hbs : bs' n = .arena) (ha : bs n = .arena) {m : List Nat} {u : Value} (hV : V ⟨bs, β, w⟩ (.dig [n] m) u) : ∃ m', m'.length = m.length ∧ V ⟨bs', β, w'⟩ (.dig [n] m') u := by
 simp only [V] at hV
 obtain ⟨hb, hok, base, cap, rfl, hd⟩ := hV
 have hal : Ctx.alive ⟨bs, β, w⟩ [n] := fun i hi => by simp at hi; subst hi; exact ha
 have hbn : Ctx.born ⟨bs', β, w'⟩ [n] := fun i hi => by simp at hi; subst hi; show bs' i ≠ _; rw [hbs]; simp
 rcases hd hal with ⟨rfl, rfl⟩ | ⟨blk, off, cells, T, fr, rfl, hin, hheap, hle, hcp, hdig⟩
 ·refine ⟨[], rfl, ?_⟩
  simp only [V]
  exact ⟨hbn, hok, none, cap, rfl, fun _ => .inl ⟨rfl, rfl⟩⟩
 ·by_cases e : blk = b
  ·subst e
   obtain ⟨cs, cs', T', y0, h1, h2, h3, ⟨x, h4⟩, hy0, h5⟩ := h.at_
   rw [h1] at hheap
   cases hheap
   let m' : List Nat := m.mapIdx fun j y => if off + j = p then y0 else y
   have hlen : m'.length = m.length := by simp [m']
   refine ⟨m', hlen, ?_⟩
   simp only [V]
   refine ⟨hbn, ⟨by rw [hlen]; exact hok.1, fun y hy => ?_⟩, some ⟨blk, off, none⟩, cap, by rw [hlen], fun _ => .inr ⟨blk, off, cs', _, (0, 0), rfl, hin, h2, by rw [hlen]; exact hle, fun j hj => ?_, fun j y hj => ?_⟩⟩
   ·obtain ⟨j, hj⟩ := List.getElem?_of_mem hy
    simp only [m', List.getElem?_mapIdx] at hj
    obtain ⟨z, hz, rfl⟩ := Option.map_eq_some_iff.1 hj
    split
    ·exact hy0
    ·exact hok.2 z (List.mem_of_getElem? hz)
   ·have h6 := hcp j hj
    by_cases c : off + j = p
    ·rw [c]; exact (Array.getElem?_eq_some_iff.1 h5).1
    ·have h7 := h3 _ c
     rw [Array.getElem?_eq_getElem h6] at h7
     exact (Array.getElem?_eq_some_iff.1 h7).1
   ·simp only [m', List.getElem?_mapIdx] at hj
    obtain ⟨z, hz, rfl⟩ := Option.map_eq_some_iff.1 hj
    by_cases c : off + j = p
    ·rw [if_pos c, c]; exact h5
    ·rw [if_neg c, h3 _ c]; exact hdig j z hz
  ·refine ⟨m, rfl, ?_⟩
   simp only [V]
   exact ⟨hbn, hok, _, cap, rfl, fun _ => .inr ⟨blk, off, cells, T, fr, rfl, hin, (h.other blk e).trans hheap, hle, hcp, hdig⟩⟩
def forgetting : List AV → List AV → Prop
 | [], [] => True
 | c :: l, d :: m => (c = .junk ∨ c = d) ∧ forgetting l m
 | _, _ => False
theorem Vs.forgetting {C : Ctx} : ∀ {l m : List AV} {vs : List Value}, Vs C m vs → AI.forgetting l m → Vs C l vs
 | [], [], vs, h, _ => h
 | c :: l, d :: m, v :: vs, h, hf => by
  simp only [Vs] at h ⊢
  refine ⟨?_, Vs.forgetting h.2 hf.2⟩
  rcases hf.1 with e | e
  ·rw [e]; simp only [V]
  ·rw [e]; exact h.1
 | _ :: _, _ :: _, [], h, _ => by simp only [Vs] at h
 | [], _ :: _, _, _, hf => by simp only [AI.forgetting] at hf
 | _ :: _, [], _, _, hf => by simp only [AI.forgetting] at hf
section
variable {na : Nat} {β0 : Nat → Nat → Prop} {w0 : World} {σ : St} {β : Nat → Nat → Prop} {a : Act} {w : World}
theorem R.forgetting (h : R na β0 w0 σ β a w) {l : List AV} (hf : AI.forgetting l σ.tmps) : R na β0 w0 ⟨l, σ.boxes⟩ β a w :=
 ⟨Vs.forgetting h.tmps hf, h.defers, h.boxes, h.args, h.old, h.new, h.disj, h.unborn, h.grow, h.arg0⟩
theorem R.dead (h : R na β0 w0 σ β a w) {b : Nat} (hb : na < b) (hu : σ.box b ≠ .unborn) : R na β0 w0 ⟨σ.tmps, σ.boxes.set b .dead⟩ β a w := by
 have hlb := h.len (i := b) hu
 have hbox : ∀ i, St.box ⟨σ.tmps, σ.boxes.set b .dead⟩ i = if i = b then .dead else σ.box i := fun i => St.box_set σ b i .dead hlb
 have hle : Le ⟨σ.box, β, w⟩ ⟨St.box ⟨σ.tmps, σ.boxes.set b .dead⟩, β, w⟩ := by
  refine ⟨fun i hi => ?_, fun i hi hc => ?_, fun i T l' hi hc => ?_, fun i c' hi hc => ?_⟩
  ·show St.box _ i ≠ _
   rw [hbox]
   split
   ·simp
   ·exact hi
  ·change St.box _ i = _ at hc
   rw [hbox] at hc
   split at hc
   ·cases hc
   ·exact ⟨hc, fun x hx => ⟨hx, rfl⟩⟩
  ·change St.box _ i = _ at hc
   rw [hbox] at hc
   split at hc
   ·cases hc
   ·exact ⟨l', hc, rfl, fun x hx => ⟨hx, fun cs hcs => ⟨cs, hcs, rfl⟩⟩⟩
  ·change St.box _ i = _ at hc
   rw [hbox] at hc
   split at hc
   ·cases hc
   ·exact ⟨c', hc, fun x hx => hx⟩
 refine ⟨Vs.mono hle _ _ h.tmps, h.defers, fun i => ?_, fun i hi => ?_, h.old, h.new, h.disj, fun i x hi => ?_, h.grow, h.arg0⟩
 ·rw [hbox]
  split
  ·trivial
  ·exact (h.boxes i).mono hle (fun x => Iff.rfl) (fun x hx => rfl)
 ·rw [hbox, if_neg (by omega)]
  exact h.args i hi
 ·rw [hbox] at hi
  split at hi
  ·cases hi
  ·exact h.unborn i x hi
theorem R.blot (hR : R na β0 w0 σ β a w) {n b7 b p : Nat} {w' : World} (hn : na < n) (h7 : na < b7) (ha : σ.box n = .arena) (hb : β n b) (hB : Blot b p w w') (hft : AV.frees n σ.tmps = true)
  (hfb : ∀ i, i ≠ b7 → (σ.box i).free n = true) {s : Bool} {m : List Nat} {e : Int} (hc : σ.box b7 = .cells [.bool s, .dig [n] m, .num .i64 e]) :
  ∃ m', m'.length = m.length ∧ R na β0 w0 ⟨σ.tmps, σ.boxes.set b7 (.cells [.bool s, .dig [n] m', .num .i64 e])⟩ β a w' := by
 have hlb := hR.len (i := b7) (by rw [hc]; simp)
 have hnb : n ≠ b7 := fun e => by rw [e, hc] at ha; cases ha
 have hbox : ∀ c i, St.box ⟨σ.tmps, σ.boxes.set b7 c⟩ i = if i = b7 then c else σ.box i := fun c i => St.box_set σ b7 i c hlb
 have dis : ∀ i x, i ≠ n → β i x → x ≠ b := by
  intro i x hi hx e
  subst e
  by_cases h' : i ≤ na
  ·exact hR.apart h' hn hx hb
  ·exact hi (hR.disj i n x (by omega) hn hx hb)
 have keep : ∀ i x, i ≠ n → β i x → w'.heap[x]? = w.heap[x]? := fun i x hi hx => hB.other x (dis i x hi hx)
 have hle : ∀ m', LeX n ⟨σ.box, β, w⟩ ⟨St.box ⟨σ.tmps, σ.boxes.set b7 (.cells [.bool s, .dig [n] m', .num .i64 e])⟩, β, w'⟩ := by
  intro m'
  refine ⟨fun i hi hu => ?_, fun i hi hu hc' => ?_, fun i T l' hi hu hc' => ?_, fun i c' hi hu hc' => ?_⟩
  ·show St.box _ i ≠ _
   rw [hbox]; split
   ·simp
   ·exact hu
  ·change St.box _ i = _ at hc'
   rw [hbox] at hc'
   split at hc'
   ·cases hc'
   ·exact ⟨hc', fun x hx => ⟨hx, keep i x hi hx⟩⟩
  ·change St.box _ i = _ at hc'
   rw [hbox] at hc'
   split at hc'
   ·cases hc'
   ·exact ⟨l', hc', rfl, fun x hx => ⟨hx, fun cs hcs => ⟨cs, (keep i x hi hx).trans hcs, rfl⟩⟩⟩
  ·change St.box _ i = _ at hc'
   rw [hbox] at hc'
   split at hc'
   ·rename_i e'
    subst e'
    exact ⟨_, hc, fun x hx => hx⟩
   ·exact ⟨c', hc', fun x hx => hx⟩
 have h7b := hR.boxes b7
 rw [hc] at h7b
 obtain ⟨blk, hblk, vs, T, hheap, hvs⟩ := h7b
 obtain ⟨m', hlen, hnew⟩ : ∃ m', m'.length = m.length ∧ Vs ⟨St.box ⟨σ.tmps, σ.boxes.set b7 (.cells [.bool s, .dig [n] m', .num .i64 e])⟩, β, w'⟩ [.bool s, .dig [n] m', .num .i64 e] vs.toList := by
  match hL : vs.toList, hvs with
  | [x0, x1, x2], hvs =>
   simp only [Vs] at hvs
   obtain ⟨q0, q1, q2, _⟩ := hvs
   obtain ⟨m', hm', -⟩ := hB.dig (bs' := σ.box) ha ha q1
   obtain ⟨m'', hm'', hV⟩ := hB.dig (bs' := St.box ⟨σ.tmps, σ.boxes.set b7 (.cells [.bool s, .dig [n] m', .num .i64 e])⟩) (by rw [hbox, if_neg hnb]; exact ha) ha q1
   refine ⟨m'', hm'', ?_⟩
   have hV2 : V ⟨St.box ⟨σ.tmps, σ.boxes.set b7 (.cells [.bool s, .dig [n] m'', .num .i64 e])⟩, β, w'⟩ (.dig [n] m'') x1 := by
    simp only [V] at hV ⊢
    obtain ⟨hb1, hok1, base, cap, e1, hd⟩ := hV
    refine ⟨fun i hi => ?_, hok1, base, cap, e1, fun _ => hd fun i hi => ?_⟩
    ·simp at hi; subst hi
     show St.box _ i ≠ _
     rw [hbox, if_neg hnb, ha]; simp
    ·simp at hi; subst hi
     show St.box _ i = _
     rw [hbox, if_neg hnb, ha]
   simp only [Vs]
   exact ⟨by simp only [V] at q0 ⊢; exact q0, hV2, by simp only [V] at q2 ⊢; exact q2, trivial⟩
  | [], hvs => simp [Vs] at hvs
  | [_], hvs => simp [Vs] at hvs
  | [_, _], hvs => simp [Vs] at hvs
  | _ :: _ :: _ :: _ :: _, hvs => simp [Vs] at hvs
 have ht : Turn (fun x => ∃ m ∈ [n], β m x) w w' := hB.turn ⟨n, by simp, hb⟩
 have hT := hR.turn (p := [n]) (fun i hi => by simp at hi; subst hi; exact ⟨hn, ha⟩) ht
 refine ⟨m', hlen, Vs.monoX (hle m') _ _ hft hR.tmps, hR.defers, fun i => ?_, fun i hi => ?_, hR.old, hT.new, hR.disj, fun i x hi => ?_, hT.grow, hR.arg0⟩
 ·rw [hbox]
  split
  ·rename_i e'
   subst e'
   exact ⟨blk, hblk, vs, T, (keep _ blk (Ne.symm hnb) ((hblk blk).2 rfl)).trans hheap, hnew⟩
  ·rename_i e'
   have h1 := hR.boxes i
   have h2 := hfb i e'
   revert h1 h2
   generalize hbi : σ.box i = bi
   intro h1 h2
   cases bi with
   | cells cs =>
    have hi : i ≠ n := fun e => by rw [e, ha] at hbi; cases hbi
    obtain ⟨blk', q1, vs', T', q2, q3⟩ := h1
    exact ⟨blk', q1, vs', T', (keep i blk' hi ((q1 blk').2 rfl)).trans q2, Vs.monoX (hle m') _ _ h2 q3⟩
   | digs T' l =>
    have hi : i ≠ n := fun e => by rw [e, ha] at hbi; cases hbi
    obtain ⟨q1, q0, q2⟩ := h1
    refine ⟨q1, q0, fun x hx => ?_⟩
    obtain ⟨cs, q3, q4⟩ := q2 x hx
    exact ⟨cs, (keep i x hi hx).trans q3, q4⟩
   | unborn => trivial
   | dead => trivial
   | arena => trivial
 ·rw [hbox, if_neg (by omega)]; exact hR.args i hi
 ·rw [hbox] at hi
  split at hi
  ·cases hi
  ·exact hR.unborn i x hi
end
end Go.AI

namespace Go.AI
open Go Go.RowKit Go.Proofs
set_option linter.unusedVariables false
set_option maxRecDepth 100000
noncomputable def qbody : Code := bodyN Tryz.f3 0
noncomputable def qL : Code → Code
 | .seq a _ => a
 | c => c
noncomputable def qR : Code → Code
 | .seq _ b => b
 | c => c
noncomputable def qIn : Code → Code
 | .block _ c => c
 | c => c
noncomputable def qOps : Code → Array Oper
 | .region _ ops _ => ops
 | _ => #[]
noncomputable def qR13 : Array Oper := qOps (qL (qL qbody))
noncomputable def qR15 : Array Oper := qOps (qIn (qL (qR qbody)))
noncomputable def qR14 : Array Oper := qOps (qR (qR qbody))
theorem qbody_eq : bodyN Tryz.f3 0 = .seq (.seq (.region 13 qR13 false) (.cond (.tmp 89) .skip (.exit 0))) (.seq (.block 1 (.region 15 qR15 false)) (.region 14 qR14 false)) := by kernel_rfl
def qtmps (c : Bool) (k : AV) : List AV := [.junk, .junk, .addr 3 0, .junk, .junk, .addr 6 0, .junk, .addr 8 0, .junk, .junk, .junk, .junk, .bool c, k] ++ List.replicate 91 .junk
def qboxes (b0 b1 b2 b3 b4 b5 b6 b7 : Box) (s : Bool) (m : List Nat) (e : Int) (b9 b10 b11 b12 b13 : Box) : List Box := [b0, b1, b2, b3, b4, b5, b6, b7, .cells [.bool s, .dig [7] m, .num .i64 e], b9, b10, b11, b12, b13]
def rawQ (σ : St) : Option (Exit × St) :=
 match σ.boxes with
 | [b0, b1, b2, b3, b4, b5, b6, .arena, .cells [.bool s, .dig [7] m, .num .i64 e], b9, b10, b11, b12, b13] =>
  match σ.tmps.getD 2 .junk, σ.tmps.getD 5 .junk, σ.tmps.getD 7 .junk, σ.tmps.getD 12 .junk, σ.tmps.getD 13 .junk with
  | .addr 3 0, .addr 6 0, .addr 8 0, .bool c, .num .i64 0 =>
   if [b0, b1, b2, b3, b4, b5, b6, b9, b10, b11, b12, b13].all (Box.free 7) = true then some (.exit 0, ⟨qtmps c .junk, [b0, b1, b2, b3, b4, b5, b6, .dead, .dead, b9, b10, b11, b12, b13]⟩) else none
  | _, _, _, _, _ => none
 | _ => none
end Go.AI

namespace Go.AI
open Dy IntKind
open Go Go.RowKit Go.Proofs
set_option linter.unusedVariables false
set_option maxRecDepth 100000
set_option maxHeartbeats 0
def lamQ := lam [(13, .raw rawQ)]
theorem vc_law17_PhaseReduces (s : Bool) (m : List Nat) (e : Int) (b : Int) (Q : AV → Prop) : (evF Tryz.prog (look tabY3) lamQ false Tryz.f3 [.agg [.bool s, .dig [1] m, .num .i64 e], .num .i64 b] Q) = (bif decide ((↑m.length : Int) > (4100 : Int)) then Q (.bool true) else bif decide (b > (1500 : Int)) then bif decide (b ≤ 6000) then Q (.bool true) else ((0 : Nat) ≤ m.length ∧ (0 : Nat) + m.length ≤ 1099511627776) ∧ (b ≤ 1500 ∨ 6000 < b) ∧ ∀ (n1 : Int), n1 = redK (Dyd.mk s ([] ++ m) e) b → dyF (redR (Dyd.mk s ([] ++ m) e) b) fun b2 l3 n4 => ∀ (n5 : Int), n5 = refuse (Dyd.mk s ([] ++ m) e) b → bif !sameD (Dyd.mk s ([] ++ m) e) (Dyd.mk s m e) then Q (.bool false) else bif !decide (refuse (Dyd.mk s m e) b = (0 : Int)) then bif decide (n1 = (0 : Int)) then bif sameD (Dyd.mk b2 l3 n4) (Dyd.mk false [] (0 : Int)) then bif decide (n5 = refuse (Dyd.mk s m e) b) then Q (.bool true) else Q (.bool false) else Q (.bool false) else Q (.bool false) else (refuse (Dyd.mk s m e) b = (0 : Int) ∧ b ≤ 1500) ∧ ∀ (n6 : Int), n6 = redK (Dyd.mk s m e) b → dyF (redR (Dyd.mk s m e) b) fun b7 l8 n9 => bif decide (n1 = n6) then bif sameD (Dyd.mk b2 l3 n4) (Dyd.mk b7 l8 n9) then bif decide (n5 = (0 : Int)) then bif sameD (Dyd.mk s ([] ++ m) e) (Dyd.mk s m e) then Q (.bool true) else Q (.bool false) else Q (.bool false) else Q (.bool false) else Q (.bool false) else ((0 : Nat) ≤ m.length ∧ (0 : Nat) + m.length ≤ 1099511627776) ∧ (b ≤ 1500 ∨ 6000 < b) ∧ ∀ (n10 : Int), n10 = redK (Dyd.mk s ([] ++ m) e) b → dyF (redR (Dyd.mk s ([] ++ m) e) b) fun b11 l12 n13 => ∀ (n14 : Int), n14 = refuse (Dyd.mk s ([] ++ m) e) b → bif !sameD (Dyd.mk s ([] ++ m) e) (Dyd.mk s m e) then Q (.bool false) else bif !decide (refuse (Dyd.mk s m e) b = (0 : Int)) then bif decide (n10 = (0 : Int)) then bif sameD (Dyd.mk b11 l12 n13) (Dyd.mk false [] (0 : Int)) then bif decide (n14 = refuse (Dyd.mk s m e) b) then Q (.bool true) else Q (.bool false) else Q (.bool false) else Q (.bool false) else (refuse (Dyd.mk s m e) b = (0 : Int) ∧ b ≤ 1500) ∧ ∀ (n15 : Int), n15 = redK (Dyd.mk s m e) b → dyF (redR (Dyd.mk s m e) b) fun b16 l17 n18 => bif decide (n10 = n15) then bif sameD (Dyd.mk b11 l12 n13) (Dyd.mk b16 l17 n18) then bif decide (n14 = (0 : Int)) then bif sameD (Dyd.mk s ([] ++ m) e) (Dyd.mk s m e) then Q (.bool true) else Q (.bool false) else Q (.bool false) else Q (.bool false) else Q (.bool false)) := by kernel_rfl
end Go.AI

namespace Go.Dy
theorem cmp_self (a : Dyd) : cmpD a a = 0 := (cmp_eq_iff (Int.le_refl a.exp) (Int.le_refl a.exp)).2 rfl
theorem cut_same {a c : Dyd} (ha : mayD a = true) (hc : mayD c = true) {b : Nat} (hb : 1 ≤ b) (h : cmpD (cutR a b).1 (cutR c b).1 = 0) : (cutR a b).1 = (cutR c b).1 := by
 obtain ⟨V, h1, h2⟩ : ∃ V : Nat, -(V : Int) ≤ a.exp ∧ -(V : Int) ≤ c.exp := ⟨(-a.exp).toNat + (-c.exp).toNat, by omega, by omega⟩
 rw [cmp_eq_iff (cut_exp hb ha h1) (cut_exp hb hc h2), cutR_at2 ha hb h1, cutR_at2 hc hb h2] at h
 rw [cut_form ha hb h1, cut_form hc hb h2, h]
theorem signD_vals (d : Dyd) : signD d = -1 ∨ signD d = 0 ∨ signD d = 1 := by
 unfold signD
 by_cases h : d.mag = []
 ·rw [if_pos h]; exact .inr (.inl rfl)
 ·rw [if_neg h]
  split
  ·exact .inl rfl
  ·exact .inr (.inr rfl)
theorem signS_prod {a c : Dyd} : signS a c ≠ 0 ↔ ¬ signD a * signD c ≤ 0 := by
 unfold signS
 rcases signD_vals a with h | h | h <;> rcases signD_vals c with h' | h' | h' <;> rw [h, h'] <;> decide
theorem signD_pos {d : Dyd} (h : d.mag ≠ []) : ¬ signD d * signD d ≤ 0 := by
 unfold signD
 rw [if_neg h]
 split <;> decide
theorem okT_iff {x : Dyd} {b n : Int} : okT x b n = true ↔ turnOk n x = true ∧ signS (turnLo n x) (turnHi n x) ≠ 0 ∧ (cutR (turnLo n x) b).1 = (cutR (turnHi n x) b).1 := by
 unfold okT
 simp only [Bool.and_eq_true, Bool.not_eq_true', decide_eq_false_iff_not, same_iff, signS_prod]
theorem turned_angle {x : Dyd} (h : turned x) (ht : ¬ topD x < 0) : angle x := ⟨h.1, h.2.1, h.2.2.1, by omega, h.2.2.2⟩
theorem turned_refuse {x : Dyd} (h : turned x) {b : Int} (b1 : 1 ≤ b) (b2 : b ≤ 1500) : refuse x b = 0 := by
 unfold refuse
 rw [if_pos (by rw [h.1, decide_eq_true b1]; rfl), if_neg (by have := h.2.2.1; omega), if_neg (by have := h.2.2.2; omega)]
theorem turned_sign {x : Dyd} (h : turned x) : signD x ≠ 0 := by
 have := signD_pos h.2.1
 intro e
 rw [e] at this
 exact this (by decide)
theorem w_fit {x : Dyd} (hx : angle x) {n : Nat} (h1 : 20 ≤ n) (h2 : n ≤ 10400) : Fit (wLo n x) 1104 1104 ∧ 0 ≤ (wLo n x).exp := by
 obtain ⟨V, hV⟩ : ∃ V : Nat, V = 500000 := ⟨_, rfl⟩
 obtain ⟨K, hK⟩ : ∃ K : Nat, K = 1102 := ⟨_, rfl⟩
 have hkf := j_facts hx (n := n) (V := V) (by omega) (by omega) (by omega)
 have huf := near_factsW hkf.1.1 (V := V) (by omega) hK hkf.2.2.2.2.2.1.1 hkf.2.2.2.2.2.1.2
 exact ⟨huf.2.2.2.1, huf.2.2.1⟩
theorem turn_facts {x : Dyd} (h : turned x) {n : Nat} (h1 : 20 ≤ n) (h2 : n ≤ 10400) :
  (mayD (turnLo n x) = true ∧ mayD (turnHi n x) = true) ∧ (mayD (turnK n x) = true ∧ 0 ≤ (turnK n x).exp ∧ (turnK n x).exp ≤ 100000 ∧ (turnK n x).mag.length ≤ 1000) ∧
  (∀ b : Nat, 1 ≤ b → b ≤ 1500 → okT x b n = true → at_ (turnK n x) 0 % 4 = redK x b ∧ (cutR (turnLo n x) b).1 = redR x b) ∧
  (5120 ≤ n → ∀ b : Nat, 1 ≤ b → b ≤ 1500 → okT x b n = true) := by
 by_cases ht : topD x < 0
 ·have e1 : turnK n x = zeroD := by unfold turnK; rw [if_pos ht]
  have e2 : turnLo n x = x := by unfold turnLo; rw [if_pos ht]
  have e3 : turnHi n x = x := by unfold turnHi; rw [if_pos ht]
  have e4 : turnOk n x = true := by unfold turnOk; rw [if_pos ht]
  rw [e1, e2, e3]
  refine ⟨⟨h.1, h.1⟩, ⟨mayD_zero, by decide, by decide, by decide⟩, fun b b1 b2 _ => ?_, fun _ b b1 b2 => ?_⟩
  ·have hr := turned_refuse h (b := b) (by omega) (by omega)
   unfold redK redR
   rw [if_pos hr, if_pos hr, if_pos (.inl ht), if_pos (.inl ht)]
   exact ⟨by rw [at_zero]; rfl, rfl⟩
  ·rw [okT_iff, e2, e3, e4]
   exact ⟨rfl, signS_prod.2 (signD_pos h.2.1), rfl⟩
 ·have hx := turned_angle h ht
  have hk := turn_ok hx h1 h2
  have hw := w_fit hx h1 h2
  have g1 := hw.1.hi
  have g2 := fit_len hw.1 (k := 1000) (by decide)
  have t1 : turnK n x = bif wOk n x then wLo n x else zeroD := by unfold turnK; rw [if_neg ht]
  have t2 : turnLo n x = bif wOk n x then vLo n x else zeroD := by unfold turnLo; rw [if_neg ht]
  have t3 : turnHi n x = bif wOk n x then vHi n x else zeroD := by unfold turnHi; rw [if_neg ht]
  have t4 : turnOk n x = wOk n x := by unfold turnOk; rw [if_neg ht]
  cases hq : wOk n x with
  | false =>
   rw [hq] at t1 t2 t3 t4
   simp only [cond_false] at t1 t2 t3
   rw [t1, t2, t3]
   refine ⟨⟨mayD_zero, mayD_zero⟩, ⟨mayD_zero, by decide, by decide, by decide⟩, fun b b1 b2 ho => ?_, fun h5 b b1 b2 => ?_⟩
   ·have := (okT_iff.1 ho).1
    rw [t4] at this
    cases this
   ·have := (hk.2 h5).1
    rw [hq] at this
    cases this
  | true =>
   rw [hq] at t1 t2 t3 t4
   simp only [cond_true] at t1 t2 t3
   rw [t1, t2, t3]
   have h7 := hk.1 hq
   refine ⟨⟨h7.2.1, h7.2.2.1⟩, ⟨hw.1.may, hw.2, by have := hw.1.bits; omega, g2⟩, fun b b1 b2 ho => ?_, fun h5 b b1 b2 => ?_⟩
   ·obtain ⟨-, o2, o3⟩ := okT_iff.1 ho
    rw [t2, t3] at o2 o3
    have hr := turned_refuse h (b := b) (by omega) (by omega)
    have hno : ¬ (topD x < 0 ∨ signD x = 0) := fun c => c.elim ht (turned_sign h)
    unfold redK redR
    rw [if_pos hr, if_pos hr, if_neg hno, if_neg hno, h7.1]
    exact ⟨rfl, h7.2.2.2 b b1 o2 (by rw [o3]; exact cmp_self _)⟩
   ·have h6 := (hk.2 h5).2 b b1 b2
    rw [okT_iff, t2, t3, t4]
    exact ⟨rfl, h6.1, cut_same h7.2.1 h7.2.2.1 b1 h6.2⟩
end Go.Dy

namespace Go.Dy
theorem half_mayW : mayD (unitOf (-1)) = true := unit_may (by decide)
theorem gap_of {a b : Dyd} {La Ea Lb Eb : Nat} (ha : Fit a La Ea) (hb : Fit b Lb Eb) (h : Ea + Eb + La + Lb ≤ 300000) : -300000 ≤ a.exp - b.exp ∧ a.exp - b.exp ≤ 300000 := by
 have := ha.lo
 have := ha.hi
 have := hb.lo
 have := hb.hi
 omega
end Go.Dy
namespace Go.AI
open Go Go.RowKit Go.Proofs
set_option linter.unusedVariables false
set_option maxRecDepth 100000
set_option maxHeartbeats 1000000
theorem ok_ref17_Turned (args : List AV) (s : Spec) (h : rTurned args = some s) (hp : andO s.pre True) : Contract Tryz.prog Inv 33 args s.res := by
 unfold rTurned at h
 split at h
 ·cases h
  rename_i s m e n
  obtain ⟨⟨hm, hm0, hl, ht, n1, n2⟩, -⟩ := hp
  refine contract0 true ok_tabY1 Tryz.func33 (by kernel_rfl) (by kernel_rfl) fun hok => ?_
  have hx2 := Dy.mayD_exp hm
  rw [vc_ref17_Turned]
  refine ⟨⟨Dy.may_dg (Dy.mayD_may hm), by omega, by omega, by omega⟩, cond_i (fun h0 => ?_) (fun h0 => ?_)⟩
  ·have h0 := of_decide_eq_true h0
   have t1 : Dy.turnK n ⟨s, m, e⟩ = Dy.zeroD := by unfold Dy.turnK; rw [if_pos (by omega)]
   have t2 : Dy.turnLo n ⟨s, m, e⟩ = ⟨s, m, e⟩ := by unfold Dy.turnLo; rw [if_pos (by omega)]
   have t3 : Dy.turnHi n ⟨s, m, e⟩ = ⟨s, m, e⟩ := by unfold Dy.turnHi; rw [if_pos (by omega)]
   have t4 : Dy.turnOk n ⟨s, m, e⟩ = true := by unfold Dy.turnOk; rw [if_pos (by omega)]
   rw [t1, t2, t3, t4]
   refine dpeel fun c1 l1 k1 d1 => dpeel fun c2 l2 k2 d2 => ?_
   cases d1
   cases d2
   rfl
  have h0 := of_decide_eq_false h0
  have htn : ¬ Dy.topD ⟨s, m, e⟩ < 0 := by omega
  refine cond_f (decide_eq_false fun c => by have := Dy.signD_pos (d := ⟨s, m, e⟩) hm0; rw [c] at this; exact this (by decide)) ?_
  obtain ⟨j, rfl⟩ : ∃ j : Nat, n = (j : Int) := ⟨n.toNat, by omega⟩
  have hx : Dy.angle ⟨s, m, e⟩ := ⟨hm, hm0, hl, by omega, ht⟩
  have t1 : Dy.turnK j ⟨s, m, e⟩ = bif Dy.wOk j ⟨s, m, e⟩ then Dy.wLo j ⟨s, m, e⟩ else Dy.zeroD := by unfold Dy.turnK; rw [if_neg htn]
  have t2 : Dy.turnLo j ⟨s, m, e⟩ = bif Dy.wOk j ⟨s, m, e⟩ then Dy.vLo j ⟨s, m, e⟩ else Dy.zeroD := by unfold Dy.turnLo; rw [if_neg htn]
  have t3 : Dy.turnHi j ⟨s, m, e⟩ = bif Dy.wOk j ⟨s, m, e⟩ then Dy.vHi j ⟨s, m, e⟩ else Dy.zeroD := by unfold Dy.turnHi; rw [if_neg htn]
  have t4 : Dy.turnOk j ⟨s, m, e⟩ = Dy.wOk j ⟨s, m, e⟩ := by unfold Dy.turnOk; rw [if_neg htn]
  rw [t1, t2, t3, t4]
  clear t1 t2 t3 t4
  obtain ⟨V, hV⟩ : ∃ V : Nat, V = 500000 := ⟨_, rfl⟩
  obtain ⟨K, hK⟩ : ∃ K : Nat, K = 1102 := ⟨_, rfl⟩
  have fx : Dy.Fit ⟨s, m, e⟩ 20804 41608 := (Dy.angle_facts hx).2.2.2.2.1.mono (by decide) (by decide)
  have hs := Dy.h_span (n := j) (V := V) (by omega) (by omega) (by omega)
  have fa := hs.1.1
  have na := hs.1.2.2
  have fb := hs.2.1.1
  have nb := hs.2.1.2.2
  clear hs
  have hkf := Dy.j_facts hx (n := j) (V := V) (by omega) (by omega) (by omega)
  have fj := hkf.1.1
  have fj' := hkf.1.2
  have huf := Dy.near_factsW fj (V := V) (by omega) hK hkf.2.2.2.2.2.1.1 hkf.2.2.2.2.2.1.2
  have hwf := Dy.near_factsW fj' (V := V) (by omega) hK hkf.2.2.2.2.2.2.1 hkf.2.2.2.2.2.2.2
  clear hkf
  have u1 := huf.1
  have u4 : Dy.Fit (Dy.wLo j ⟨s, m, e⟩) 1104 1104 := huf.2.2.2.1
  have w1 := hwf.1
  clear huf hwf
  have fka := (Dy.fit_mul (u4.mono (L' := 10402) (E' := 10402) (by decide) (by decide)) fa (by decide) (by decide)).1
  have fkb := (Dy.fit_mul (u4.mono (L' := 10402) (E' := 10402) (by decide) (by decide)) fb (by decide) (by decide)).1
  have ga := Dy.gap_of fx fka (by decide)
  have gb := Dy.gap_of fx fkb (by decide)
  have gj := Dy.gap_of fj Dy.fit_halfW (by decide)
  have gj' := Dy.gap_of fj' Dy.fit_halfW (by decide)
  have lx : m.length ≤ 1000 := by omega
  have la := Dy.fit_len fa (k := 1000) (by decide)
  have lb := Dy.fit_len fb (k := 1000) (by decide)
  have hA : Dy.hLo (j : Int) = Dy.shE (Dy.piCut j) (-1) := rfl
  have hB : Dy.hHi (j : Int) = Dy.shE (Dy.addD (Dy.piCut j) (Dy.unitOf (2 - (j : Int)))) (-1) := rfl
  have hb := Dy.piQ_bl (b := j) (by omega) (by omega)
  have fp : Dy.Fit (Dy.piCut j) 10400 20000 := by
   rw [Dy.pi_cut_form]
   exact Dy.formZ_fit2 (by rw [Int.natAbs_natCast, hb]; omega) (by omega) (by omega) (by decide) (by decide)
  have fp2 : Dy.Fit (Dy.addD (Dy.piCut j) (Dy.unitOf (2 - (j : Int)))) (10400 + 2 * 20000 + 1) (10400 + 3 * 20000 + 1) := (Dy.fit_add fp ⟨Dy.unit_may ⟨by omega, by omega⟩, by show Dy.bl (Dy.val [1]) ≤ 10400; decide, by show _ ≤ 2 - (j : Int); omega, by show 2 - (j : Int) ≤ _; omega⟩ (by decide) (by decide)).1
  rw [Int.toNat_natCast]
  refine ⟨⟨by omega, n2⟩, dpeel fun p1 p2 p3 dp => dpeel fun q1 q2 q3 dq => ?_⟩
  have xp : p3 = (Dy.piCut j).exp := congrArg Dy.Dyd.exp dp
  have xq : q3 = (Dy.addD (Dy.piCut j) (Dy.unitOf (2 - (j : Int)))).exp := congrArg Dy.Dyd.exp dq
  have p4 := fp.lo
  have p5 := fp.hi
  have p6 := fp2.lo
  have p7 := fp2.hi
  rw [dp, dq, ← hA, ← hB]
  refine ⟨⟨by omega, by omega, by omega, by omega, by decide, by decide⟩, dpeel fun a1 a2 a3 da => dpeel fun b1 b2 b3 db => ?_⟩
  refine dpeel fun _ _ _ _ => dpeel fun _ _ _ _ => ?_
  have xa : a3 = (Dy.hLo (j : Int)).exp := congrArg Dy.Dyd.exp da
  have xb : b3 = (Dy.hHi (j : Int)).exp := congrArg Dy.Dyd.exp db
  have ma : a2 = (Dy.hLo (j : Int)).mag := congrArg Dy.Dyd.mag da
  have mb : b2 = (Dy.hHi (j : Int)).mag := congrArg Dy.Dyd.mag db
  have a4 := fa.lo
  have a5 := fa.hi
  have b4 := fb.lo
  have b5 := fb.hi
  have x4 := fx.lo
  have x5 := fx.hi
  simp only at x4 x5
  have preB : Dy.mayD ⟨s, m, e⟩ = true ∧ Dy.mayD ⟨b1, b2, b3⟩ = true ∧ b2 ≠ [] ∧ 1 ≤ (j : Int) ∧ (j : Int) ≤ 10400 ∧ m.length ≤ 1000 ∧ b2.length ≤ 1000 ∧ -100000 ≤ e ∧ e ≤ 100000 ∧ -100000 ≤ b3 ∧ b3 ≤ 100000 :=
   ⟨hm, by rw [db]; exact fb.may, by rw [mb]; exact nb, by omega, n2, lx, by rw [mb]; exact lb, by omega, by omega, by omega, by omega⟩
  have preA : Dy.mayD ⟨s, m, e⟩ = true ∧ Dy.mayD ⟨a1, a2, a3⟩ = true ∧ a2 ≠ [] ∧ 1 ≤ (j : Int) ∧ (j : Int) ≤ 10400 ∧ m.length ≤ 1000 ∧ a2.length ≤ 1000 ∧ -100000 ≤ e ∧ e ≤ 100000 ∧ -100000 ≤ a3 ∧ a3 ≤ 100000 :=
   ⟨hm, by rw [da]; exact fa.may, by rw [ma]; exact na, by omega, n2, lx, by rw [ma]; exact la, by omega, by omega, by omega, by omega⟩
  refine ⟨preB, dpeel fun i1 i2 i3 di => ⟨preA, dpeel fun o1 o2 o3 d_o => ?_⟩⟩
  rw [db] at di
  rw [da] at d_o
  refine cond_i (fun hs => ?_) (fun hs => ?_)
  ·subst hs
   refine ⟨preA, dpeel fun i1 i2 i3 di => ⟨preB, dpeel fun o1 o2 o3 d_o => ?_⟩⟩
   rw [da] at di
   rw [db] at d_o
   have di : Dy.Dyd.mk i1 i2 i3 = Dy.jLo (j : Int) ⟨true, m, e⟩ := di
   have d_o : Dy.Dyd.mk o1 o2 o3 = Dy.jHi (j : Int) ⟨true, m, e⟩ := d_o
   have xi : i3 = (Dy.jLo (j : Int) ⟨true, m, e⟩).exp := congrArg Dy.Dyd.exp di
   have xo : o3 = (Dy.jHi (j : Int) ⟨true, m, e⟩).exp := congrArg Dy.Dyd.exp d_o
   rw [di, d_o]
   refine dpeel fun h1 h2 h3 dh => ?_
   have xh : h3 = -1 := by unfold Dy.unitOf at dh; cases dh; rfl
   have xu : (Dy.unitOf (-1)).exp = -1 := rfl
   rw [dh]
   refine ⟨⟨fj.may, Dy.half_mayW, .inr (.inr (by rw [xi, xh, ← xu]; exact gj))⟩, dpeel fun c1 c2 c3 dc => ?_⟩
   rw [dc]
   refine ⟨u1, dpeel fun k1 k2 k3 dk => ?_⟩
   have dk : Dy.Dyd.mk k1 k2 k3 = Dy.wLo (j : Int) ⟨true, m, e⟩ := dk
   refine ⟨⟨fj'.may, Dy.half_mayW, .inr (.inr (by rw [xo, xh, ← xu]; exact gj'))⟩, dpeel fun c4 c5 c6 dc' => ?_⟩
   rw [dc']
   refine ⟨w1, dpeel fun r1 r2 r3 dr => ?_⟩
   have dr : Dy.Dyd.mk r1 r2 r3 = Dy.wHi (j : Int) ⟨true, m, e⟩ := dr
   have hw : Dy.wOk (j : Int) ⟨true, m, e⟩ = Dy.sameD ⟨k1, k2, k3⟩ ⟨r1, r2, r3⟩ := by rw [dk, dr]; rfl
   rw [hw]
   cases hq : Dy.sameD ⟨k1, k2, k3⟩ ⟨r1, r2, r3⟩ with
   | false => exact cond_t rfl rfl
   | true =>
    refine cond_f rfl ?_
    simp only [cond_true]
    rw [dk, da, db]
    refine ⟨⟨u4.may, fa.may⟩, dpeel fun y1 y2 y3 dy => ⟨⟨u4.may, fb.may⟩, dpeel fun z1 z2 z3 dz => ?_⟩⟩
    have xy : y3 = (Dy.mulD (Dy.wLo (j : Int) ⟨true, m, e⟩) (Dy.hLo (j : Int))).exp := congrArg Dy.Dyd.exp dy
    have xz : z3 = (Dy.mulD (Dy.wLo (j : Int) ⟨true, m, e⟩) (Dy.hHi (j : Int))).exp := congrArg Dy.Dyd.exp dz
    have nk : k1 = (Dy.wLo (j : Int) ⟨true, m, e⟩).neg := congrArg Dy.Dyd.neg dk
    rw [dy, dz]
    unfold Dy.vLo Dy.vHi
    rw [← nk]
    cases hk1 : k1 with
    | false =>
     refine cond_f rfl ?_
     simp only [cond_false]
     refine ⟨⟨hm, fkb.may, .inr (.inr (by rw [xz]; exact gb))⟩, dpeel fun s1 s2 s3 ds => ⟨⟨hm, fka.may, .inr (.inr (by rw [xy]; exact ga))⟩, dpeel fun v1 v2 v3 dv => ?_⟩⟩
     rw [hk1] at dk
     rw [avD_of dk]
     exact congrArg (fun a => AV.tup [_, a, .bool true]) (avS_of ds dv)
    | true =>
     refine cond_t rfl ?_
     simp only [cond_true]
     refine ⟨⟨hm, fka.may, .inr (.inr (by rw [xy]; exact ga))⟩, dpeel fun s1 s2 s3 ds => ⟨⟨hm, fkb.may, .inr (.inr (by rw [xz]; exact gb))⟩, dpeel fun v1 v2 v3 dv => ?_⟩⟩
     rw [hk1] at dk
     rw [avD_of dk]
     exact congrArg (fun a => AV.tup [_, a, .bool true]) (avS_of ds dv)
  ·subst hs
   have di : Dy.Dyd.mk i1 i2 i3 = Dy.jLo (j : Int) ⟨false, m, e⟩ := di
   have d_o : Dy.Dyd.mk o1 o2 o3 = Dy.jHi (j : Int) ⟨false, m, e⟩ := d_o
   have xi : i3 = (Dy.jLo (j : Int) ⟨false, m, e⟩).exp := congrArg Dy.Dyd.exp di
   have xo : o3 = (Dy.jHi (j : Int) ⟨false, m, e⟩).exp := congrArg Dy.Dyd.exp d_o
   rw [di, d_o]
   refine dpeel fun h1 h2 h3 dh => ?_
   have xh : h3 = -1 := by unfold Dy.unitOf at dh; cases dh; rfl
   have xu : (Dy.unitOf (-1)).exp = -1 := rfl
   rw [dh]
   refine ⟨⟨fj.may, Dy.half_mayW, .inr (.inr (by rw [xi, xh, ← xu]; exact gj))⟩, dpeel fun c1 c2 c3 dc => ?_⟩
   rw [dc]
   refine ⟨u1, dpeel fun k1 k2 k3 dk => ?_⟩
   have dk : Dy.Dyd.mk k1 k2 k3 = Dy.wLo (j : Int) ⟨false, m, e⟩ := dk
   refine ⟨⟨fj'.may, Dy.half_mayW, .inr (.inr (by rw [xo, xh, ← xu]; exact gj'))⟩, dpeel fun c4 c5 c6 dc' => ?_⟩
   rw [dc']
   refine ⟨w1, dpeel fun r1 r2 r3 dr => ?_⟩
   have dr : Dy.Dyd.mk r1 r2 r3 = Dy.wHi (j : Int) ⟨false, m, e⟩ := dr
   have hw : Dy.wOk (j : Int) ⟨false, m, e⟩ = Dy.sameD ⟨k1, k2, k3⟩ ⟨r1, r2, r3⟩ := by rw [dk, dr]; rfl
   rw [hw]
   cases hq : Dy.sameD ⟨k1, k2, k3⟩ ⟨r1, r2, r3⟩ with
   | false => exact cond_t rfl rfl
   | true =>
    refine cond_f rfl ?_
    simp only [cond_true]
    rw [dk, da, db]
    refine ⟨⟨u4.may, fa.may⟩, dpeel fun y1 y2 y3 dy => ⟨⟨u4.may, fb.may⟩, dpeel fun z1 z2 z3 dz => ?_⟩⟩
    have xy : y3 = (Dy.mulD (Dy.wLo (j : Int) ⟨false, m, e⟩) (Dy.hLo (j : Int))).exp := congrArg Dy.Dyd.exp dy
    have xz : z3 = (Dy.mulD (Dy.wLo (j : Int) ⟨false, m, e⟩) (Dy.hHi (j : Int))).exp := congrArg Dy.Dyd.exp dz
    have nk : k1 = (Dy.wLo (j : Int) ⟨false, m, e⟩).neg := congrArg Dy.Dyd.neg dk
    rw [dy, dz]
    unfold Dy.vLo Dy.vHi
    rw [← nk]
    cases hk1 : k1 with
    | false =>
     refine cond_f rfl ?_
     simp only [cond_false]
     refine ⟨⟨hm, fkb.may, .inr (.inr (by rw [xz]; exact gb))⟩, dpeel fun s1 s2 s3 ds => ⟨⟨hm, fka.may, .inr (.inr (by rw [xy]; exact ga))⟩, dpeel fun v1 v2 v3 dv => ?_⟩⟩
     rw [hk1] at dk
     rw [avD_of dk]
     exact congrArg (fun a => AV.tup [_, a, .bool true]) (avS_of ds dv)
    | true =>
     refine cond_t rfl ?_
     simp only [cond_true]
     refine ⟨⟨hm, fka.may, .inr (.inr (by rw [xy]; exact ga))⟩, dpeel fun s1 s2 s3 ds => ⟨⟨hm, fkb.may, .inr (.inr (by rw [xz]; exact gb))⟩, dpeel fun v1 v2 v3 dv => ?_⟩⟩
     rw [hk1] at dk
     rw [avD_of dk]
     exact congrArg (fun a => AV.tup [_, a, .bool true]) (avS_of ds dv)
 ·cases h
theorem ok_tabY2 : PhiOk Tryz.prog Inv (look tabY2) := look_cons ok_tabY1 ok_ref17_Turned
end Go.AI

namespace Go.AI
open Dy IntKind
open Go Go.RowKit Go.Proofs
set_option linter.unusedVariables false
set_option maxRecDepth 100000
set_option maxHeartbeats 0
theorem vc_ref17_Reduce (s : Bool) (m : List Nat) (e : Int) (b : Int) (Q : AV → Prop) : (evF Tryz.prog (look tabY2) lamTurn true Tryz.f9 [.agg [.bool s, .dig [1] m, .num .i64 e], .num .i64 b] Q) = (bif decide (signD (Dyd.mk s m e) = (0 : Int)) then Q (.tup [.num .i64 0, .agg [.bool s, .dig [0, 1, 2] m, .num .i64 e]]) else (dg (val m) = m ∧ m.length ≤ 1048576 ∧ -1099511627776 ≤ e ∧ e ≤ 1099511627776) ∧ bif decide (topD (Dyd.mk s m e) < (0 : Int)) then (turned (Dyd.mk s m e) ∧ 1 ≤ b ∧ b ≤ 1500 ∧ (65 : Int) ≤ i64.wrap (i64.wrap (b + (0 : Int)) + (64 : Int)) ∧ i64.wrap (i64.wrap (b + (0 : Int)) + (64 : Int)) ≤ (2700 : Int)) ∧ Q (.tup [.num .i64 (redK (Dyd.mk s m e) b), .agg [.bool (redR (Dyd.mk s m e) b).neg, .dig [0, 1, 2] (redR (Dyd.mk s m e) b).mag, .num .i64 (redR (Dyd.mk s m e) b).exp]]) else (turned (Dyd.mk s m e) ∧ 1 ≤ b ∧ b ≤ 1500 ∧ (65 : Int) ≤ i64.wrap (i64.wrap (b + topD (Dyd.mk s m e)) + (64 : Int)) ∧ i64.wrap (i64.wrap (b + topD (Dyd.mk s m e)) + (64 : Int)) ≤ (2700 : Int)) ∧ Q (.tup [.num .i64 (redK (Dyd.mk s m e) b), .agg [.bool (redR (Dyd.mk s m e) b).neg, .dig [0, 1, 2] (redR (Dyd.mk s m e) b).mag, .num .i64 (redR (Dyd.mk s m e) b).exp]])) := by kernel_rfl
theorem vc_ref17_Reduce_1 (s : Bool) (s' : Bool) (m : List Nat) (m' : List Nat) (e : Int) (e' : Int) (b : Int) (q : Int) (n : Int) (K : Exit → List AV → Prop) : (evIter Tryz.prog (look tabY2) lamTurn (2 : Nat) (45 : Nat) keepTurn (bodyN Tryz.f9 (0 : Nat)) [.num .i64 b, .boxv [.bool s, .dig [1, 2, 3] m, .num .i64 e], .num .i64 q, .boxv [.bool s', .dig [3] m', .num .i64 e'], .num .i64 n] K) = ((mayD (Dyd.mk s m e) = true ∧ m ≠ [] ∧ m.length ≤ 40 ∧ topD (Dyd.mk s m e) ≤ (1100 : Int) ∧ 20 ≤ n ∧ n ≤ 10400) ∧ dyF (turnK n (Dyd.mk s m e)) fun b1 l2 n3 => dyF (turnLo n (Dyd.mk s m e)) fun b4 l5 n6 => dyF (turnHi n (Dyd.mk s m e)) fun b7 l8 n9 => ∀ (b10 : Bool), b10 = turnOk n (Dyd.mk s m e) → bif b10 then (mayD (Dyd.mk b4 l5 n6) = true ∧ mayD (Dyd.mk b7 l8 n9) = true ∧ 1 ≤ b) ∧ dyF (bif decide (signD (Dyd.mk b4 l5 n6) * signD (Dyd.mk b7 l8 n9) ≤ (0 : Int)) then zeroD else (cutR (Dyd.mk b4 l5 n6) b).fst) fun b11 l12 n13 => ∀ (b14 : Bool), (b14 = bif decide (signD (Dyd.mk b4 l5 n6) * signD (Dyd.mk b7 l8 n9) ≤ (0 : Int)) then false else sameD (cutR (Dyd.mk b4 l5 n6) b).fst (cutR (Dyd.mk b7 l8 n9) b).fst) → bif b14 then (mayD (Dyd.mk b1 l2 n3) = true ∧ 0 ≤ n3 ∧ n3 ≤ 100000 ∧ l2.length ≤ 1000) ∧ K Exit.ret [.num .i64 b, .boxv [.bool s, .dig [1, 2, 3] m, .num .i64 e], .num .i64 (at_ (Dyd.mk b1 l2 n3) (0 : Int) % (4 : Int)), .boxv [.bool b11, .dig [1, 2, 3] l12, .num .i64 n13], .num .i64 n] else K Exit.normal [.num .i64 b, .boxv [.bool s, .dig [1, 2, 3] m, .num .i64 e], .num .i64 q, .boxv [.bool s', .dig [3] m', .num .i64 e'], .num .i64 (i64.wrap ((2 : Int) * n))] else K Exit.normal [.num .i64 b, .boxv [.bool s, .dig [1, 2, 3] m, .num .i64 e], .num .i64 q, .boxv [.bool s', .dig [3] m', .num .i64 e'], .num .i64 (i64.wrap ((2 : Int) * n))]) := by kernel_rfl
end Go.AI

namespace Go.AI
open Go Go.RowKit Go.Proofs
set_option linter.unusedVariables false
set_option maxRecDepth 100000
set_option maxHeartbeats 1000000
theorem turn_last {s s' : Bool} {m m' : List Nat} {e e' b q : Int} {N : Nat} {K : Exit → List AV → Prop} (hx : Dy.turned ⟨s, m, e⟩) (hb : 1 ≤ b ∧ b ≤ 1500) (hn : 65 ≤ (N : Int) ∧ (N : Int) ≤ 10400) (hq : Dy.okT ⟨s, m, e⟩ b (N : Int) = true)
  (hK : K .ret [.num .i64 b, .boxv [.bool s, .dig [1, 2, 3] m, .num .i64 e], .num .i64 (Dy.redK ⟨s, m, e⟩ b), .boxv [.bool (Dy.redR ⟨s, m, e⟩ b).neg, .dig [1, 2, 3] (Dy.redR ⟨s, m, e⟩ b).mag, .num .i64 (Dy.redR ⟨s, m, e⟩ b).exp], .num .i64 (N : Int)]) :
  ∃ j, iterN Tryz.prog (look tabY2) lamTurn 2 45 keepTurn (bodyN Tryz.f9 0) j [.num .i64 b, .boxv [.bool s, .dig [1, 2, 3] m, .num .i64 e], .num .i64 q, .boxv [.bool s', .dig [3] m', .num .i64 e'], .num .i64 (N : Int)] K := by
 obtain ⟨bb, rfl⟩ : ∃ bb : Nat, b = (bb : Int) := ⟨b.toNat, by omega⟩
 have ho := Dy.turn_facts hx (n := N) (by omega) (by omega)
 obtain ⟨o1, o2, o3⟩ := Dy.okT_iff.1 hq
 have ha := ho.2.2.1 bb (by omega) (by omega) hq
 have hk := ho.2.1
 refine iterN_last ?_
 rw [vc_ref17_Reduce_1]
 refine ⟨⟨hx.1, hx.2.1, hx.2.2.1, hx.2.2.2, by omega, by omega⟩, dpeel fun c1 l1 k1 d1 => dpeel fun c2 l2 k2 d2 => dpeel fun c3 l3 k3 d3 => ?_⟩
 intro c4 h4
 rw [o1] at h4
 subst h4
 refine cond_t rfl ?_
 have hdec : decide (Dy.signD ⟨c2, l2, k2⟩ * Dy.signD ⟨c3, l3, k3⟩ ≤ 0) = false := by rw [d2, d3]; exact decide_eq_false (Dy.signS_prod.1 o2)
 rw [hdec]
 simp only [cond_false]
 refine ⟨⟨by rw [d2]; exact ho.1.1, by rw [d3]; exact ho.1.2, hb.1⟩, dpeel fun c5 l5 k5 d5 => ?_⟩
 intro c6 h6
 refine cond_t (by rw [h6, d2, d3]; exact Dy.same_iff.2 o3) ?_
 have d5 : Dy.Dyd.mk c5 l5 k5 = (Dy.cutR ⟨c2, l2, k2⟩ (bb : Int)).1 := d5
 rw [d2, ha.2] at d5
 have e1 : k1 = (Dy.turnK (N : Int) ⟨s, m, e⟩).exp := congrArg Dy.Dyd.exp d1
 have e2 : l1 = (Dy.turnK (N : Int) ⟨s, m, e⟩).mag := congrArg Dy.Dyd.mag d1
 refine ⟨⟨by rw [d1]; exact hk.1, by rw [e1]; exact hk.2.1, by rw [e1]; exact hk.2.2.1, by rw [e2]; exact hk.2.2.2⟩, ?_⟩
 rw [d1, ha.1]
 rw [← d5] at hK
 exact hK
theorem loop_ref17_Reduce : LoopOk Tryz.prog (look tabY2) lamTurn 2 45 keepTurn (bodyN Tryz.f9 0) lsTurn := by
 intro vals r h K hK
 unfold lsTurn at h
 split at h
 ·cases h
  rename_i b s m e q s' m' e' n
  simp only [evLR] at hK
  obtain ⟨⟨hx, b1, b2, n1, n2⟩, hK⟩ := hK
  obtain ⟨bb, hbb⟩ : ∃ bb : Nat, b = (bb : Int) := ⟨b.toNat, by omega⟩
  have key : ∀ (f : Nat) (n : Int), 65 ≤ n → n ≤ 10400 → 5120 ≤ n * 2 ^ f →
    K .ret [.num .i64 b, .boxv [.bool s, .dig [1, 2, 3] m, .num .i64 e], .num .i64 (Dy.redK ⟨s, m, e⟩ b), .boxv [.bool (Dy.redR ⟨s, m, e⟩ b).neg, .dig [1, 2, 3] (Dy.redR ⟨s, m, e⟩ b).mag, .num .i64 (Dy.redR ⟨s, m, e⟩ b).exp], .num .i64 (Dy.turnN ⟨s, m, e⟩ b f n)] →
    ∃ j, iterN Tryz.prog (look tabY2) lamTurn 2 45 keepTurn (bodyN Tryz.f9 0) j [.num .i64 b, .boxv [.bool s, .dig [1, 2, 3] m, .num .i64 e], .num .i64 q, .boxv [.bool s', .dig [3] m', .num .i64 e'], .num .i64 n] K := by
   intro f
   induction f with
   | zero =>
    intro n n1 n2 n3 hK
    obtain ⟨N, hN⟩ : ∃ N : Nat, n = (N : Int) := ⟨n.toNat, by omega⟩
    subst hN
    have ho := Dy.turn_facts hx (n := N) (by omega) (by omega)
    have hq := ho.2.2.2 (by omega) bb (by omega) (by omega)
    rw [← hbb] at hq
    exact turn_last hx ⟨b1, b2⟩ ⟨n1, n2⟩ hq hK
   | succ f ih =>
    intro n n1 n2 n3 hK
    obtain ⟨N, hN⟩ : ∃ N : Nat, n = (N : Int) := ⟨n.toNat, by omega⟩
    subst hN
    have hr : Dy.turnN ⟨s, m, e⟩ b (f + 1) (N : Int) = bif Dy.okT ⟨s, m, e⟩ b (N : Int) then (N : Int) else Dy.turnN ⟨s, m, e⟩ b f (2 * (N : Int)) := rfl
    rw [hr] at hK
    cases hq : Dy.okT ⟨s, m, e⟩ b (N : Int) with
    | true =>
     rw [hq] at hK
     exact turn_last hx ⟨b1, b2⟩ ⟨n1, n2⟩ hq hK
    | false =>
     rw [hq] at hK
     simp only [cond_false] at hK
     have ho := Dy.turn_facts hx (n := N) (by omega) (by omega)
     have hlt : N < 5120 := by
      refine Decidable.byContradiction fun c => ?_
      have := ho.2.2.2 (by omega) bb (by omega) (by omega)
      rw [← hbb, hq] at this
      cases this
     have hp : (2 : Int) ^ (f + 1) = 2 * 2 ^ f := by rw [Int.pow_succ, Int.mul_comm]
     rw [hp, ← Int.mul_assoc, Int.mul_comm (N : Int) 2] at n3
     obtain ⟨j, hj⟩ := ih (2 * (N : Int)) (by omega) (by omega) n3 hK
     have hw : IntKind.i64.wrap (2 * (N : Int)) = 2 * (N : Int) := wrap_i64 (by omega) (by omega)
     refine iterN_next j ?_
     rw [vc_ref17_Reduce_1, hw]
     refine ⟨⟨hx.1, hx.2.1, hx.2.2.1, hx.2.2.2, by omega, by omega⟩, dpeel fun c1 l1 k1 d1 => dpeel fun c2 l2 k2 d2 => dpeel fun c3 l3 k3 d3 => ?_⟩
     intro c4 h4
     have hoq := hq
     unfold Dy.okT at hoq
     rw [← h4, ← d2, ← d3] at hoq
     cases c4 with
     | false => exact cond_f rfl hj
     | true =>
      refine cond_t rfl ?_
      rw [Bool.true_and] at hoq
      refine ⟨⟨by rw [d2]; exact ho.1.1, by rw [d3]; exact ho.1.2, b1⟩, dpeel fun c5 l5 k5 d5 => ?_⟩
      intro c6 h6
      refine cond_f ?_ hj
      rw [h6]
      cases hd : decide (Dy.signD ⟨c2, l2, k2⟩ * Dy.signD ⟨c3, l3, k3⟩ ≤ 0) with
      | true => rfl
      | false => rw [hd] at hoq; exact hoq
  refine key 8 n n1 (by omega) ?_ hK
  have : (2 : Int) ^ 8 = 256 := by decide
  rw [this]
  omega
 ·cases h
theorem ok_ref17_Reduce (args : List AV) (s : Spec) (h : rReduceD args = some s) (hp : andO s.pre True) : Contract Tryz.prog Inv 9 args s.res := by
 unfold rReduceD at h
 split at h
 ·cases h
  rename_i s m e b
  obtain ⟨⟨hr, b2⟩, -⟩ := hp
  have hh := Dy.refuse_ok.1 hr
  have hm := hh.1
  refine contract_at true 45 lamTurn ok_tabY2 Tryz.func9 (by kernel_rfl) rfl (loops1 (by kernel_rfl) (by kernel_rfl) loop_ref17_Reduce) fun hok => ?_
  rw [vc_ref17_Reduce]
  refine cond_i (fun h0 => ?_) (fun h0 => ?_)
  ·have h0 := of_decide_eq_true h0
   have hm0 : m = [] := by
    refine Decidable.byContradiction fun c => ?_
    have := Dy.signD_pos (d := ⟨s, m, e⟩) c
    rw [h0] at this
    exact this (by decide)
   have hz : Dy.Dyd.mk s m e = Dy.zeroD := by
    subst hm0
    have := hm
    unfold Dy.mayD at this
    simp only [if_true, Bool.and_eq_true, Bool.not_eq_true', decide_eq_true_eq] at this
    rw [this.2.1, this.2.2]
    rfl
   have e1 : Dy.redK ⟨s, m, e⟩ b = 0 := by unfold Dy.redK; rw [if_pos hr, if_pos (.inr h0)]
   have e2 : Dy.redR ⟨s, m, e⟩ b = Dy.zeroD := by
    unfold Dy.redR
    rw [if_pos hr, if_pos (.inr h0), hz]
    unfold Dy.cutR
    rw [if_pos (by show Dy.overD Dy.zeroD b ≤ 0; unfold Dy.overD; rw [show Dy.val Dy.zeroD.mag = 0 from rfl, Dy.bl_zero]; omega)]
   rw [e1, e2]
   cases hz
   rfl
  ·have h0 := of_decide_eq_false h0
   have hm0 : m ≠ [] := fun c => h0 (by unfold Dy.signD; rw [if_pos c])
   have hx : Dy.turned ⟨s, m, e⟩ := ⟨hm, hm0, hh.2.2.2.1, hh.2.2.2.2⟩
   have hx2 := Dy.mayD_exp hm
   refine ⟨⟨Dy.may_dg (Dy.mayD_may hm), by have := hh.2.2.2.1; simp only at this; omega, by omega, by omega⟩, cond_i (fun h1 => ?_) (fun h1 => ?_)⟩
   ·have w1 : IntKind.i64.wrap (IntKind.i64.wrap (b + 0) + 64) = b + 64 := by rw [wrap_i64 (n := b + 0) (by omega) (by omega), wrap_i64 (by omega) (by omega)]; omega
    rw [w1]
    exact ⟨⟨hx, by omega, b2, by omega, by omega⟩, rfl⟩
   ·have h1 := of_decide_eq_false h1
    have ht := hx.2.2.2
    have w1 : IntKind.i64.wrap (IntKind.i64.wrap (b + Dy.topD ⟨s, m, e⟩) + 64) = b + Dy.topD ⟨s, m, e⟩ + 64 := by rw [wrap_i64 (n := b + _) (by omega) (by omega), wrap_i64 (by omega) (by omega)]
    rw [w1]
    exact ⟨⟨hx, by omega, b2, by omega, by omega⟩, rfl⟩
 ·cases h
theorem ok_tabY3 : PhiOk Tryz.prog Inv (look tabY3) := look_cons ok_tabY2 ok_ref17_Reduce
end Go.AI

namespace Go.AI
open Dy IntKind
open Go Go.RowKit Go.Proofs
set_option linter.unusedVariables false
set_option maxRecDepth 100000
set_option maxHeartbeats 0
theorem ev_q13 (b0 : Box) (b1 : Box) (b2 : Box) (b3 : Box) (b4 : Box) (b5 : Box) (b6 : Box) (b9 : Box) (b10 : Box) (b11 : Box) (b12 : Box) (b13 : Box) (s : Bool) (c : Bool) (m : List Nat) (e : Int) (k : Int) (K : St → Prop) : (evR Tryz.prog (look []) (2 : Nat) false none (14 : Nat) qR13 (number (14 : Nat) qR13.toList) (St.mk (qtmps c (.num .i64 k)) (qboxes b0 b1 b2 b3 b4 b5 b6 Box.arena s m e b9 b10 b11 b12 b13)) K) = (K (St.mk [.junk, .junk, .addr 3 0, .junk, .junk, .addr 6 0, .junk, .addr 8 0, .junk, .junk, .junk, .junk, .bool c, .num .i64 k, .junk, .junk, .junk, .junk, .junk, .junk, .junk, .junk, .junk, .junk, .junk, .junk, .junk, .junk, .junk, .junk, .junk, .junk, .junk, .junk, .junk, .junk, .junk, .junk, .junk, .junk, .junk, .junk, .junk, .junk, .junk, .junk, .junk, .junk, .junk, .junk, .junk, .junk, .junk, .junk, .junk, .junk, .junk, .junk, .junk, .junk, .junk, .junk, .junk, .junk, .junk, .junk, .junk, .junk, .junk, .junk, .junk, .junk, .junk, .junk, .junk, .junk, .junk, .junk, .junk, .junk, .junk, .junk, .junk, .junk, .junk, .num .i64 k, .addr 8 1, .dig [7] m, .num .i64 (↑m.length : Int), .bool (decide (k < (↑m.length : Int))), .junk, .junk, .junk, .junk, .junk, .junk, .junk, .junk, .junk, .junk, .junk, .junk, .junk, .junk, .junk] [b0, b1, b2, b3, b4, b5, b6, Box.arena, Box.cells [.bool s, .dig [7] m, .num .i64 e], b9, b10, b11, b12, b13])) := by kernel_rfl
theorem ev_q15 (b0 : Box) (b1 : Box) (b2 : Box) (b3 : Box) (b4 : Box) (b5 : Box) (b6 : Box) (b9 : Box) (b10 : Box) (b11 : Box) (b12 : Box) (b13 : Box) (s : Bool) (c : Bool) (m : List Nat) (e : Int) (k : Int) (K : St → Prop) : (evR Tryz.prog (look []) (2 : Nat) false none (14 : Nat) qR15 (number (14 : Nat) (List.take (4 : Nat) qR15.toList)) (St.mk (qtmps c (.num .i64 k)) (qboxes b0 b1 b2 b3 b4 b5 b6 Box.arena s m e b9 b10 b11 b12 b13)) K) = ((0 ≤ k ∧ k < (↑m.length : Int)) ∧ K (St.mk [.junk, .junk, .addr 3 0, .junk, .junk, .addr 6 0, .junk, .addr 8 0, .junk, .junk, .junk, .junk, .bool c, .num .i64 k, .junk, .junk, .junk, .junk, .junk, .junk, .junk, .junk, .junk, .junk, .junk, .junk, .junk, .junk, .junk, .junk, .junk, .junk, .junk, .junk, .junk, .junk, .junk, .junk, .junk, .junk, .junk, .junk, .junk, .junk, .junk, .junk, .junk, .junk, .junk, .junk, .junk, .junk, .junk, .junk, .junk, .junk, .junk, .junk, .junk, .junk, .junk, .junk, .junk, .junk, .junk, .junk, .junk, .junk, .junk, .junk, .junk, .junk, .junk, .junk, .junk, .junk, .junk, .junk, .junk, .junk, .junk, .junk, .junk, .junk, .junk, .junk, .junk, .junk, .junk, .junk, .junk, .junk, .addr 8 1, .dig [7] m, .num .i64 k, .cref [7] [.num .u32 (↑(m.getD k.toNat (0 : Nat)) : Int)], .junk, .junk, .junk, .junk, .junk, .junk, .junk, .junk, .junk] [b0, b1, b2, b3, b4, b5, b6, Box.arena, Box.cells [.bool s, .dig [7] m, .num .i64 e], b9, b10, b11, b12, b13])) := by kernel_rfl
theorem ev_q14 (b0 : Box) (b1 : Box) (b2 : Box) (b3 : Box) (b4 : Box) (b5 : Box) (b6 : Box) (b9 : Box) (b10 : Box) (b11 : Box) (b12 : Box) (b13 : Box) (s : Bool) (c : Bool) (m : List Nat) (e : Int) (k : Int) (K : St → Prop) : (evR Tryz.prog (look []) (2 : Nat) false none (14 : Nat) qR14 (number (14 : Nat) qR14.toList) (St.mk (qtmps c (.num .i64 k)) (qboxes b0 b1 b2 b3 b4 b5 b6 Box.arena s m e b9 b10 b11 b12 b13)) K) = (K (St.mk [.junk, .junk, .addr 3 0, .junk, .junk, .addr 6 0, .junk, .addr 8 0, .junk, .junk, .junk, .junk, .bool c, .num .i64 (i64.wrap (k + (1 : Int))), .junk, .junk, .junk, .junk, .junk, .junk, .junk, .junk, .junk, .junk, .junk, .junk, .junk, .junk, .junk, .junk, .junk, .junk, .junk, .junk, .junk, .junk, .junk, .junk, .junk, .junk, .junk, .junk, .junk, .junk, .junk, .junk, .junk, .junk, .junk, .junk, .junk, .junk, .junk, .junk, .junk, .junk, .junk, .junk, .junk, .junk, .junk, .junk, .junk, .junk, .junk, .junk, .junk, .junk, .junk, .junk, .junk, .junk, .junk, .junk, .junk, .junk, .junk, .junk, .junk, .junk, .junk, .junk, .junk, .junk, .junk, .junk, .junk, .junk, .junk, .junk, .num .i64 k, .num .i64 (i64.wrap (k + (1 : Int))), .junk, .junk, .junk, .junk, .junk, .junk, .junk, .junk, .junk, .junk, .junk, .junk, .junk] [b0, b1, b2, b3, b4, b5, b6, Box.arena, Box.cells [.bool s, .dig [7] m, .num .i64 e], b9, b10, b11, b12, b13])) := by kernel_rfl
end Go.AI
