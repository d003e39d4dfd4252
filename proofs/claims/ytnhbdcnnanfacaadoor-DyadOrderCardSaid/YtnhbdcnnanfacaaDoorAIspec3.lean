/- What is known of the document's layer 1, its first functions. -/
import Derived.Test.YtnhbdcnnanfacaaDoorAInat2
namespace Go.Dy
/-- the lowest place at which two lists differ -/
def diffU : List Nat → List Nat → Nat
  | x :: a, y :: b => if x = y then diffU a b + 1 else 0
  | _, _ => 0
end Go.Dy
namespace Go.AI
open Go Go.RowKit Go.Proofs
set_option linter.unusedVariables false
def sSame : List AV → Option Spec
  | [.dig [1] a, .dig [2] b] => some ⟨none, .bool (decide (a = b))⟩
  | _ => none
def rAdd : List AV → Option Spec
  | [.dig [1] a, .dig [2] b] => some ⟨some (a.length ≤ 1048576 ∧ b.length ≤ 1048576), .dig [0] (Dy.dg (Dy.val a + Dy.val b))⟩
  | _ => none
def rLen : List AV → Option Spec
  | [.dig [1] a] => some ⟨some (Dy.dg (Dy.val a) = a ∧ a.length ≤ 1048576), .num .i64 (Dy.bl (Dy.val a) : Nat)⟩
  | _ => none
def rBit : List AV → Option Spec
  | [.dig [1] a, .num .i64 i] => some ⟨none, .num .u32 (if i < 0 then 0 else Dy.val a / 2 ^ i.toNat % 2 : Nat)⟩
  | _ => none
def rLow : List AV → Option Spec
  | [.dig [1] a] => some ⟨some (Dy.dg (Dy.val a) = a ∧ a.length ≤ 1048576), .num .i64 (Dy.tz (Dy.val a) : Nat)⟩
  | _ => none
def rDown : List AV → Option Spec
  | [.dig [1] a, .num .i64 n] => some ⟨some (Dy.dg (Dy.val a) = a ∧ 0 ≤ n ∧ a.length ≤ 1048576), .tup [.dig [0] (Dy.dg (Dy.val a / 2 ^ n.toNat)), .bool (decide (Dy.val a ≠ 0 ∧ (Dy.tz (Dy.val a) : Int) < n))]⟩
  | _ => none
def tab5 : List (Nat × (List AV → Option Spec)) := (94, sTrim) :: (18, sMay) :: tab4
def tab6 : List (Nat × (List AV → Option Spec)) := (65, sOf) :: (17, sSame) :: (82, sCmp) :: (77, rAdd) :: (83, sSubL) :: (78, rLen) :: (62, rBit) :: (67, sUp) :: tab5
def tab7 : List (Nat × (List AV → Option Spec)) := (20, rLow) :: tab6
def tab8 : List (Nat × (List AV → Option Spec)) := (63, rDown) :: tab7
end Go.AI
