/- What is known of the layer dyad: numbers with a binary point. -/
import Derived.Test.YtnhbdcnnanfacaaDoorAIref1
namespace Go.Dy
structure Dyd where
  neg : Bool
  mag : List Nat
  exp : Int
def zeroD : Dyd := ⟨false, [], 0⟩
/-- a number in its one form -/
def form (s : Bool) (n : Nat) (e : Int) : Dyd := if n = 0 then zeroD else ⟨s, dg (n / 2 ^ tz n), e + tz n⟩
def formZ (z : Int) (e : Int) : Dyd := form (decide (z < 0)) z.natAbs e
/-- its whole part in the unit of its lowest bit -/
def Dyd.int (d : Dyd) : Int := if d.neg then -(val d.mag : Int) else val d.mag
def inside (e : Int) : Bool := decide (-16777216 ≤ e ∧ e ≤ 16777216)
def mayD (d : Dyd) : Bool := may d.mag && (if d.mag = [] then !d.neg && decide (d.exp = 0) else decide (val d.mag % 2 = 1) && inside d.exp)
/-- a number that was asked for, or why there is none -/
def boundD (d : Dyd) : Dyd × Int := if d.mag.length ≤ 4096 then (if inside d.exp then (d, 0) else (zeroD, 20)) else (zeroD, 3)
def makeD (s : Bool) (m : List Nat) (e : Int) : Dyd × Int := if may m then boundD (form s (val m) e) else (zeroD, 2)
/-- two numbers in a common unit -/
def unit (a b : Dyd) : Int := min a.exp b.exp
def at_ (d : Dyd) (u : Int) : Int := d.int * 2 ^ (d.exp - u).toNat
def addD (a b : Dyd) : Dyd := formZ (at_ a (unit a b) + at_ b (unit a b)) (unit a b)
def mulD (a b : Dyd) : Dyd := form (a.neg != b.neg) (val a.mag * val b.mag) (a.exp + b.exp)
def cmpZ (a b : Int) : Int := if a < b then -1 else if b < a then 1 else 0
def cmpD (a b : Dyd) : Int := cmpZ (at_ a (unit a b)) (at_ b (unit a b))
def negD (d : Dyd) : Dyd := ⟨!d.neg && decide (d.mag ≠ []), d.mag, d.exp⟩
def absD (d : Dyd) : Dyd := ⟨false, d.mag, d.exp⟩
def signD (d : Dyd) : Int := if d.mag = [] then 0 else if d.neg then -1 else 1
def topD (d : Dyd) : Int := if d.mag = [] then 0 else d.exp + bl (val d.mag)
def okIf (c : Bool) (d : Dyd) : Dyd × Int := if c then (d, 0) else (zeroD, 2)
def boundIf (c : Bool) (d : Dyd) : Dyd × Int := if c then boundD d else (zeroD, 2)
def intD (n : Int) : Dyd := formZ n 0
/-- a whole number's value, if it has one among the words -/
def int64D (d : Dyd) : Int × Bool :=
  if mayD d && decide (0 ≤ d.exp) && decide (topD d ≤ 64) && decide (-9223372036854775808 ≤ at_ d 0 ∧ at_ d 0 < 9223372036854775808) then (at_ d 0, true) else (0, false)
end Go.Dy
namespace Go.AI
open Go Go.RowKit Go.Proofs
set_option linter.unusedVariables false
def avD (p : List Nat) (d : Dy.Dyd) : AV := .agg [.bool d.neg, .dig p d.mag, .num .i64 d.exp]
def dInside : List AV → Option Spec
  | [.num .i64 e] => some ⟨none, .bool (Dy.inside e)⟩
  | _ => none
def dMay : List AV → Option Spec
  | [.agg [.bool s, .dig [1] m, .num .i64 e]] => some ⟨none, .bool (Dy.mayD ⟨s, m, e⟩)⟩
  | _ => none
def dBoth : List AV → Option Spec
  | [.vec [1] 3 [.agg [.bool s, .dig [1] m, .num .i64 e], .agg [.bool s', .dig [1] m', .num .i64 e']]] => some ⟨none, .bool (Dy.mayD ⟨s, m, e⟩ && Dy.mayD ⟨s', m', e'⟩)⟩
  | _ => none
def dMake : List AV → Option Spec
  | [.bool s, .dig [2] m, .num .i64 e] => some ⟨none, .tup [avD [0] (Dy.makeD s m e).1, .num .i64 (Dy.makeD s m e).2]⟩
  | _ => none
def dOwn : List AV → Option Spec
  | [.agg [.bool s, .dig [1] m, .num .i64 e]] => some ⟨some (m.length ≤ 1048576), .agg [.bool s, .dig [0] m, .num .i64 e]⟩
  | _ => none
def dSigned : List AV → Option Spec
  | [.agg [.bool s, .dig [1] m, .num .i64 e], .bool n] => some ⟨some (m.length ≤ 1048576), .agg [.bool (n && decide (m ≠ [])), .dig [0] m, .num .i64 e]⟩
  | _ => none
def dSign : List AV → Option Spec
  | [.agg [.bool s, .dig [1] m, .num .i64 e]] => some ⟨none, .num .i64 (if Dy.mayD ⟨s, m, e⟩ then Dy.signD ⟨s, m, e⟩ else 0)⟩
  | _ => none
def dTop : List AV → Option Spec
  | [.agg [.bool s, .dig [1] m, .num .i64 e]] => some ⟨none, .num .i64 (if Dy.mayD ⟨s, m, e⟩ then Dy.topD ⟨s, m, e⟩ else 0)⟩
  | _ => none
def dInt : List AV → Option Spec
  | [.num .i64 n] => some ⟨none, avD [0] (Dy.intD n)⟩
  | _ => none
def dInt64 : List AV → Option Spec
  | [.agg [.bool s, .dig [1] m, .num .i64 e]] => some ⟨none, .tup [.num .i64 (Dy.int64D ⟨s, m, e⟩).1, .bool (Dy.int64D ⟨s, m, e⟩).2]⟩
  | _ => none
def dNeg : List AV → Option Spec
  | [.agg [.bool s, .dig [1] m, .num .i64 e]] => some ⟨none, .tup [avD [0] (Dy.okIf (Dy.mayD ⟨s, m, e⟩) (Dy.negD ⟨s, m, e⟩)).1, .num .i64 (Dy.okIf (Dy.mayD ⟨s, m, e⟩) (Dy.negD ⟨s, m, e⟩)).2]⟩
  | _ => none
def dAbs : List AV → Option Spec
  | [.agg [.bool s, .dig [1] m, .num .i64 e]] => some ⟨none, .tup [avD [0] (Dy.okIf (Dy.mayD ⟨s, m, e⟩) (Dy.absD ⟨s, m, e⟩)).1, .num .i64 (Dy.okIf (Dy.mayD ⟨s, m, e⟩) (Dy.absD ⟨s, m, e⟩)).2]⟩
  | _ => none
def dSizes : List AV → Option Spec
  | [.agg [.bool s, .dig [1] m, .num .i64 e], .agg [.bool s', .dig [2] m', .num .i64 e']] =>
    some ⟨some (Dy.mayD ⟨s, m, e⟩ = true ∧ Dy.mayD ⟨s', m', e'⟩ = true ∧ (m = [] ↔ m' = [])), .num .i64 (Dy.cmpZ (Dy.val m * 2 ^ (e - min e e').toNat : Nat) (Dy.val m' * 2 ^ (e' - min e e').toNat : Nat))⟩
  | _ => none
def dCmp : List AV → Option Spec
  | [.agg [.bool s, .dig [1] m, .num .i64 e], .agg [.bool s', .dig [2] m', .num .i64 e']] =>
    some ⟨none, .tup [.num .i64 (if Dy.mayD ⟨s, m, e⟩ && Dy.mayD ⟨s', m', e'⟩ then Dy.cmpD ⟨s, m, e⟩ ⟨s', m', e'⟩ else 0), .num .i64 (if Dy.mayD ⟨s, m, e⟩ && Dy.mayD ⟨s', m', e'⟩ then 0 else 2)]⟩
  | _ => none
def dJoin : List AV → Option Spec
  | [.bool p, .dig [2] x, .bool q, .dig [4] y, .num .i64 e] => some ⟨some (Dy.may x = true ∧ Dy.may y = true ∧ x ≠ [] ∧ y ≠ [] ∧ Dy.inside e = true),
      .tup [avD [0] (Dy.boundD (Dy.formZ (Dy.Dyd.int ⟨p, x, 0⟩ + Dy.Dyd.int ⟨q, y, 0⟩) e)).1, .num .i64 (Dy.boundD (Dy.formZ (Dy.Dyd.int ⟨p, x, 0⟩ + Dy.Dyd.int ⟨q, y, 0⟩) e)).2]⟩
  | _ => none
def dHalved : List AV → Option Spec
  | [.bool p, .dig [2] x, .dig [3] y, .num .i64 e] => some ⟨some (Dy.may x = true ∧ Dy.may y = true ∧ Dy.inside e = true ∧ 4096 < (Dy.dg (Dy.val x + Dy.val y)).length),
      .tup [avD [0] (Dy.boundD (Dy.form p (Dy.val x + Dy.val y) e)).1, .num .i64 (Dy.boundD (Dy.form p (Dy.val x + Dy.val y) e)).2]⟩
  | _ => none
def dEdge : List AV → Option Spec
  | [.agg [.bool s, .dig [1] m, .num .i64 e], .agg [.bool s', .dig [2] m', .num .i64 e'], .num .i64 g] =>
    some ⟨some (Dy.mayD ⟨s, m, e⟩ = true ∧ Dy.mayD ⟨s', m', e'⟩ = true ∧ m ≠ [] ∧ m' ≠ [] ∧ g = e - e' ∧ 1 ≤ g ∧ g + Dy.bl (Dy.val m) = 131073),
      .tup [avD [0] (Dy.boundD (Dy.addD ⟨s, m, e⟩ ⟨s', m', e'⟩)).1, .num .i64 (Dy.boundD (Dy.addD ⟨s, m, e⟩ ⟨s', m', e'⟩)).2]⟩
  | _ => none
def dAddL : List AV → Option Spec
  | [.agg [.bool s, .dig [1] m, .num .i64 e], .agg [.bool s', .dig [2] m', .num .i64 e']] =>
    some ⟨some (Dy.mayD ⟨s, m, e⟩ = true ∧ Dy.mayD ⟨s', m', e'⟩ = true), .tup [avD [0] (Dy.boundD (Dy.addD ⟨s, m, e⟩ ⟨s', m', e'⟩)).1, .num .i64 (Dy.boundD (Dy.addD ⟨s, m, e⟩ ⟨s', m', e'⟩)).2]⟩
  | _ => none
def dAdd : List AV → Option Spec
  | [.agg [.bool s, .dig [1] m, .num .i64 e], .agg [.bool s', .dig [2] m', .num .i64 e']] =>
    some ⟨none, .tup [avD [0] (Dy.boundIf (Dy.mayD ⟨s, m, e⟩ && Dy.mayD ⟨s', m', e'⟩) (Dy.addD ⟨s, m, e⟩ ⟨s', m', e'⟩)).1, .num .i64 (Dy.boundIf (Dy.mayD ⟨s, m, e⟩ && Dy.mayD ⟨s', m', e'⟩) (Dy.addD ⟨s, m, e⟩ ⟨s', m', e'⟩)).2]⟩
  | _ => none
def dSub : List AV → Option Spec
  | [.agg [.bool s, .dig [1] m, .num .i64 e], .agg [.bool s', .dig [2] m', .num .i64 e']] =>
    some ⟨none, .tup [avD [0] (Dy.boundIf (Dy.mayD ⟨s, m, e⟩ && Dy.mayD ⟨s', m', e'⟩) (Dy.addD ⟨s, m, e⟩ (Dy.negD ⟨s', m', e'⟩))).1,
      .num .i64 (Dy.boundIf (Dy.mayD ⟨s, m, e⟩ && Dy.mayD ⟨s', m', e'⟩) (Dy.addD ⟨s, m, e⟩ (Dy.negD ⟨s', m', e'⟩))).2]⟩
  | _ => none
def dMul : List AV → Option Spec
  | [.agg [.bool s, .dig [1] m, .num .i64 e], .agg [.bool s', .dig [2] m', .num .i64 e']] =>
    some ⟨none, .tup [avD [0] (Dy.boundIf (Dy.mayD ⟨s, m, e⟩ && Dy.mayD ⟨s', m', e'⟩) (Dy.mulD ⟨s, m, e⟩ ⟨s', m', e'⟩)).1, .num .i64 (Dy.boundIf (Dy.mayD ⟨s, m, e⟩ && Dy.mayD ⟨s', m', e'⟩) (Dy.mulD ⟨s, m, e⟩ ⟨s', m', e'⟩)).2]⟩
  | _ => none
def tab9 : List (Nat × (List AV → Option Spec)) := (59, dInside) :: tab8
def tab10 : List (Nat × (List AV → Option Spec)) := (72, dOwn) :: (14, dMay) :: tab9
def tab11 : List (Nat × (List AV → Option Spec)) := (68, dBoth) :: (16, dMake) :: (70, dSigned) :: (40, dSign) :: (43, dTop) :: tab10
def tab12 : List (Nat × (List AV → Option Spec)) := (24, dInt) :: (26, dInt64) :: (41, dNeg) :: (42, dAbs) :: (79, dSizes) :: (109, dHalved) :: (96, dEdge) :: (31, dMul) :: tab11
def tab13 : List (Nat × (List AV → Option Spec)) := (39, dCmp) :: (97, dJoin) :: tab12
def tab14 : List (Nat × (List AV → Option Spec)) := (69, dAddL) :: tab13
def tab15 : List (Nat × (List AV → Option Spec)) := (29, dAdd) :: (30, dSub) :: tab14
end Go.AI
