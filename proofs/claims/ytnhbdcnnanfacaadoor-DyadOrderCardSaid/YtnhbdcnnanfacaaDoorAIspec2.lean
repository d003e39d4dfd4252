/- What is known of the layer nat: sums, products, shifts. -/
import Derived.Test.YtnhbdcnnanfacaaDoorAInat1
import Derived.Test.YtnhbdcnnanfacaaDoorAInum2
namespace Go.Dy
def subN (ok : Bool) (a b : Nat) : List Nat × Int := if ok then (if a < b then ([], 10) else (dg (a - b), 0)) else ([], 2)
structure Sh where
  mag : List Nat
  lost : Bool
  err : Int
/-- a number shifted, and what falls off -/
def shiftN (a : List Nat) (n : Int) : Sh :=
  if may a then
    if val a = 0 then ⟨[], false, 0⟩
    else if n < 0 then ⟨dg (val a / 2 ^ (-n).toNat), decide ((tz (val a) : Int) < -n), 0⟩
    else if 131072 - (bl (val a) : Int) < n then ⟨[], false, 3⟩
    else ⟨dg (val a * 2 ^ n.toNat), false, 0⟩
  else ⟨[], false, 2⟩
def addR (a b : List Nat) : List Nat × Int := boundN (may a && may b) (val a + val b)
def subR (a b : List Nat) : List Nat × Int := subN (may a && may b) (val a) (val b)
def mulR (a b : List Nat) : List Nat × Int := boundN (may a && may b) (val a * val b)
def cmpR (a b : List Nat) : Int × Int := if may a && may b then (cmpN (val a) (val b), 0) else (0, 2)
def lenN (a : List Nat) : Nat := if may a then bl (val a) else 0
def lowN (a : List Nat) : Nat := if may a then tz (val a) else 0
end Go.Dy
namespace Go.AI
open Go Go.RowKit Go.Proofs
set_option linter.unusedVariables false
def sAdd : List AV → Option Spec
  | [.dig [1] a, .dig [2] b] => some ⟨none, .tup [.dig [0] (Dy.addR a b).1, .num .i64 (Dy.addR a b).2]⟩
  | _ => none
def sSubL : List AV → Option Spec
  | [.dig [1] a, .dig [2] b] => some ⟨some (Dy.val b ≤ Dy.val a ∧ a.length ≤ 1048576), .dig [0] (Dy.dg (Dy.val a - Dy.val b))⟩
  | _ => none
def sSub : List AV → Option Spec
  | [.dig [1] a, .dig [2] b] => some ⟨none, .tup [.dig [0] (Dy.subR a b).1, .num .i64 (Dy.subR a b).2]⟩
  | _ => none
def sCmpX : List AV → Option Spec
  | [.dig [1] a, .dig [2] b] => some ⟨none, .tup [.num .i64 (Dy.cmpR a b).1, .num .i64 (Dy.cmpR a b).2]⟩
  | _ => none
def sMulL : List AV → Option Spec
  | [.dig [1] a, .dig [2] b] => some ⟨some (a.length ≤ 1048576 ∧ b.length ≤ 1048576), .dig [0] (Dy.dg (Dy.val a * Dy.val b))⟩
  | _ => none
def sMul : List AV → Option Spec
  | [.dig [1] a, .dig [2] b] => some ⟨none, .tup [.dig [0] (Dy.mulR a b).1, .num .i64 (Dy.mulR a b).2]⟩
  | _ => none
def sSmall : List AV → Option Spec
  | [.dig [1] a, .num .u32 d] => some ⟨some (0 < d ∧ a.length ≤ 1048576), .tup [.dig [0] (Dy.dg (Dy.val a / d.toNat)), .num .u32 (Dy.val a % d.toNat : Nat)]⟩
  | _ => none
def sUp : List AV → Option Spec
  | [.dig [1] a, .num .i64 n] => some ⟨some (0 ≤ n ∧ n ≤ 33554432 ∧ a.length ≤ 1048576), .dig [0] (Dy.dg (Dy.val a * 2 ^ n.toNat))⟩
  | _ => none
def sDown : List AV → Option Spec
  | [.dig [1] a, .num .i64 n] => some ⟨some (0 ≤ n ∧ a.length ≤ 1048576), .dig [0] (Dy.dg (Dy.val a / 2 ^ n.toNat))⟩
  | _ => none
def sLen : List AV → Option Spec
  | [.dig [1] a] => some ⟨none, .num .i64 (Dy.lenN a : Nat)⟩
  | _ => none
def sLow : List AV → Option Spec
  | [.dig [1] a] => some ⟨none, .num .i64 (Dy.lowN a : Nat)⟩
  | _ => none
def sShift : List AV → Option Spec
  | [.dig [1] a, .num .i64 n] => some ⟨none, .tup [.dig [0] (Dy.shiftN a n).mag, .bool (Dy.shiftN a n).lost, .num .i64 (Dy.shiftN a n).err]⟩
  | _ => none
def tab3 : List (Nat × (List AV → Option Spec)) := (110, sSubL) :: (100, sMulL) :: (106, sSmall) :: (93, sUp) :: (92, sDown) :: (80, sLen) :: (60, sLow) :: (73, sAdd) :: tab2
def tab4 : List (Nat × (List AV → Option Spec)) := (104, sSub) :: (71, sMul) :: (102, sCmpX) :: (61, sShift) :: tab3
end Go.AI
