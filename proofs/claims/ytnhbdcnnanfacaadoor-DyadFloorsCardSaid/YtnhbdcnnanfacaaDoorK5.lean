/- My texts AIspec5, AVlaw1, AIlaw1, AIring, AVlaw2, AIlaw2, AIlaw3, AIrow, AIspec6, AVdyad3, AIdyad5, AIfloor, AIlaw4, in one. -/
import Derived.Test.YtnhbdcnnanfacaaDoorK4
import Derived.Test.YtnhbdcnnanfacaaDoorRows
import Derived.WalkKit
import Derived.ProofKit
import Derived.LaidMore
import Derived.OpenShut
import Derived.Below
import Derived.Carry
import Derived.SizedLaws
import Derived.Lib.LaidTab
import Derived.Deep.Strs
namespace Go.Dy
def sameD (a b : Dyd) : Bool := (a.neg == b.neg && a.exp == b.exp) && decide (a.mag = b.mag)
theorem sameD_iff {a b : Dyd} : sameD a b = true ↔ a = b := by
  obtain ⟨s, m, e⟩ := a
  obtain ⟨s', m', e'⟩ := b
  simp [sameD, and_assoc]
  intro _
  constructor
  · rintro ⟨h2, h3⟩; exact ⟨h3, h2⟩
  · rintro ⟨h2, h3⟩; exact ⟨h3, h2⟩
/-- as the statements' guard asks -/
def nearD (d : Dyd) : Bool := decide (d.mag.length ≤ 100 ∧ -3000 ≤ d.exp ∧ d.exp ≤ 3000) && mayD d
end Go.Dy
namespace Go.AI
open Go Go.RowKit Go.Proofs
set_option linter.unusedVariables false
def rSameD : List AV → Option Spec
  | [.agg [.bool s, .dig [1] m, .num .i64 e], .agg [.bool s', .dig [2] m', .num .i64 e']] => some ⟨none, .bool (Dy.sameD ⟨s, m, e⟩ ⟨s', m', e'⟩)⟩
  | _ => none
def rForm : List AV → Option Spec
  | [.bool s, .dig [2] m, .num .i64 e] => some ⟨some (Dy.dg (Dy.val m) = m ∧ m.length ≤ 1048576 ∧ -1099511627776 ≤ e ∧ e ≤ 1099511627776), avD [0] (Dy.form s (Dy.val m) e)⟩
  | _ => none
def rSign : List AV → Option Spec
  | [.agg [.bool s, .dig [1] m, .num .i64 e]] => some ⟨none, .num .i64 (Dy.signD ⟨s, m, e⟩)⟩
  | _ => none
def rTop : List AV → Option Spec
  | [.agg [.bool s, .dig [1] m, .num .i64 e]] => some ⟨some (Dy.dg (Dy.val m) = m ∧ m.length ≤ 1048576 ∧ -1099511627776 ≤ e ∧ e ≤ 1099511627776), .num .i64 (Dy.topD ⟨s, m, e⟩)⟩
  | _ => none
def rNeg : List AV → Option Spec
  | [.agg [.bool s, .dig [1] m, .num .i64 e]] => some ⟨none, .agg [.bool (if m = [] then s else !s), .dig [0, 1] m, .num .i64 e]⟩
  | _ => none
def rAbs : List AV → Option Spec
  | [.agg [.bool s, .dig [1] m, .num .i64 e]] => some ⟨none, .agg [.bool false, .dig [0, 1] m, .num .i64 e]⟩
  | _ => none
def rInt64 : List AV → Option Spec
  | [.agg [.bool s, .dig [1] m, .num .i64 e]] => some ⟨some (Dy.mayD ⟨s, m, e⟩ = true), .tup [.num .i64 (Dy.int64D ⟨s, m, e⟩).1, .bool (Dy.int64D ⟨s, m, e⟩).2]⟩
  | _ => none
def lLent : List AV → Option Spec
  | [.agg [.bool s, .dig [1] m, .num .i64 e]] => some ⟨some (m.length ≤ 1048576), .agg [.bool s, .dig [0] m, .num .i64 e]⟩
  | _ => none
def lKnown : List AV → Option Spec
  | [] => some ⟨none, .bool true⟩
  | _ => none
def lNear : List AV → Option Spec
  | [.vec [1] 3 [.agg [.bool s, .dig [1] m, .num .i64 e]]] => some ⟨none, .bool (Dy.nearD ⟨s, m, e⟩)⟩
  | [.vec [1] 3 [.agg [.bool s, .dig [1] m, .num .i64 e], .agg [.bool s', .dig [1] m', .num .i64 e']]] => some ⟨none, .bool (Dy.nearD ⟨s, m, e⟩ && Dy.nearD ⟨s', m', e'⟩)⟩
  | [.vec [1] 3 [.agg [.bool s, .dig [1] m, .num .i64 e], .agg [.bool s', .dig [1] m', .num .i64 e'], .agg [.bool s2, .dig [1] m2, .num .i64 e2]]] => some ⟨none, .bool (Dy.nearD ⟨s, m, e⟩ && (Dy.nearD ⟨s', m', e'⟩ && Dy.nearD ⟨s2, m2, e2⟩))⟩
  | _ => none
def tab16 : List (Nat × (List AV → Option Spec)) := (21, rSameD) :: (15, dMay) :: (22, rForm) :: (46, rSign) :: (47, rTop) :: (44, rNeg) :: (45, rAbs) ::
  (13, lLent) :: (28, lNear) :: tab15
def tab17 : List (Nat × (List AV → Option Spec)) := (25, dInt) :: (27, rInt64) :: (12, lKnown) :: tab16
end Go.AI

namespace Go.AI
open Go Go.RowKit Go.Proofs
set_option linter.unusedVariables false
set_option maxRecDepth 100000
set_option maxHeartbeats 0
theorem vc_ref2_Same (s : Bool) (s' : Bool) (m : List
  Nat) (m' : List
  Nat) (e : Int) (e' : Int) (Q : AV →
  Prop) : (evF Tryd.prog (look tab15) (lam []) false Tryd.f21
  [AV.agg [AV.bool s, AV.dig [(1 : Nat)] m, AV.num IntKind.i64 e],
  AV.agg [AV.bool s', AV.dig [(2 : Nat)] m', AV.num IntKind.i64 e']]
  Q) =
  (bif decide (s = s') then bif decide (e = e') then Q (AV.bool (decide (m = m'))) else Q (AV.bool false)
 else Q (AV.bool false)) := by kernel_rfl
theorem vc_ref2_May (s : Bool) (m : List
  Nat) (e : Int) (Q : AV →
  Prop) : (evF Tryd.prog (look tab15) (lam []) false Tryd.f15
  [AV.agg [AV.bool s, AV.dig [(1 : Nat)] m, AV.num IntKind.i64 e]] Q) =
  (bif !Dy.may m then Q (AV.bool false)
 else
  bif decide ((↑m.length : Int) = (0 : Int)) then
  bif !s then Q (AV.bool (decide (e = (0 : Int)))) else Q (AV.bool false)
  else
  ((0 : Int) ≤ (0 : Int) ∧ (0 : Int) < (↑m.length : Int)) ∧
  bif decide ((↑(m.getD (0 : Nat) (0 : Nat)) : Int).tmod (2 : Int) = (1 : Int)) then
  bif decide (e ≥ (-16777216 : Int)) then Q (AV.bool (decide (e ≤ (16777216 : Int)))) else Q (AV.bool false)
  else Q (AV.bool false)) := by kernel_rfl
theorem vc_ref2_Form (s : Bool) (m : List
  Nat) (e : Int) (Q : AV →
  Prop) : (evF Tryd.prog (look tab15) (lam []) false Tryd.f22 [AV.bool s, AV.dig [(2 : Nat)] m, AV.num IntKind.i64 e]
  Q) =
  (bif decide ((↑m.length : Int) = (0 : Int)) then
  Q (AV.agg [AV.bool false, AV.dig [(0 : Nat)] [], AV.num IntKind.i64 (0 : Int)])
 else
  (Dy.dg (Dy.val m) = m ∧ m.length ≤ (1048576 : Nat)) ∧
  (Dy.dg (Dy.val m) = m ∧ (0 : Int) ≤ (↑(Dy.tz (Dy.val m)) : Int) ∧ m.length ≤ (1048576 : Nat)) ∧
  ∀ (l1 : List Nat),
  l1 = Dy.dg (Dy.val m / (2 : Nat) ^ (↑(Dy.tz (Dy.val m)) : Int).toNat) →
  ∀ (b2 : Bool),
  b2 = decide (Dy.val m ≠ (0 : Nat) ∧ (↑(Dy.tz (Dy.val m)) : Int) < (↑(Dy.tz (Dy.val m)) : Int)) →
  Q
  (AV.agg
  [AV.bool s, AV.dig [(0 : Nat)] l1,
  AV.num IntKind.i64 (IntKind.i64.wrap (e + (↑(Dy.tz (Dy.val m)) : Int)))])) := by kernel_rfl
theorem vc_ref2_Sign (s : Bool) (m : List
  Nat) (e : Int) (Q : AV →
  Prop) : (evF Tryd.prog (look tab15) (lam []) false Tryd.f46
  [AV.agg [AV.bool s, AV.dig [(1 : Nat)] m, AV.num IntKind.i64 e]] Q) =
  (bif decide ((↑m.length : Int) = (0 : Int)) then Q (AV.num IntKind.i64 (0 : Int))
 else bif s then Q (AV.num IntKind.i64 (-1 : Int)) else Q (AV.num IntKind.i64 (1 : Int))) := by kernel_rfl
theorem vc_ref2_Top (s : Bool) (m : List
  Nat) (e : Int) (Q : AV →
  Prop) : (evF Tryd.prog (look tab15) (lam []) false Tryd.f47
  [AV.agg [AV.bool s, AV.dig [(1 : Nat)] m, AV.num IntKind.i64 e]] Q) =
  (bif decide ((↑m.length : Int) = (0 : Int)) then Q (AV.num IntKind.i64 (0 : Int))
 else
  (Dy.dg (Dy.val m) = m ∧ m.length ≤ (1048576 : Nat)) ∧
  Q (AV.num IntKind.i64 (IntKind.i64.wrap (e + (↑(Dy.bl (Dy.val m)) : Int))))) := by kernel_rfl
theorem vc_ref2_Neg (s : Bool) (m : List
  Nat) (e : Int) (Q : AV →
  Prop) : (evF Tryd.prog (look tab15) (lam []) true Tryd.f44
  [AV.agg [AV.bool s, AV.dig [(1 : Nat)] m, AV.num IntKind.i64 e]] Q) =
  (bif decide ((↑m.length : Int) > (0 : Int)) then
  Q (AV.agg [AV.bool !s, AV.dig [(0 : Nat), (1 : Nat)] m, AV.num IntKind.i64 e])
 else Q (AV.agg [AV.bool s, AV.dig [(0 : Nat), (1 : Nat)] m, AV.num IntKind.i64 e])) := by kernel_rfl
theorem vc_ref2_Abs (s : Bool) (m : List
  Nat) (e : Int) (Q : AV →
  Prop) : (evF Tryd.prog (look tab15) (lam []) true Tryd.f45
  [AV.agg [AV.bool s, AV.dig [(1 : Nat)] m, AV.num IntKind.i64 e]] Q) =
  (Q (AV.agg [AV.bool false, AV.dig [(0 : Nat), (1 : Nat)] m, AV.num IntKind.i64 e])) := by kernel_rfl
theorem vc_ref2_Int (n : Int) (Q : AV →
  Prop) : (evF Tryd.prog (look tab16) (lam []) false Tryd.f25 [AV.num IntKind.i64 n] Q) =
  (bif decide (n < (0 : Int)) then
  (Dy.dg (Dy.val (Dy.dg (IntKind.u64.wrap ((0 : Int) - IntKind.u64.wrap n)).toNat)) =
  Dy.dg (IntKind.u64.wrap ((0 : Int) - IntKind.u64.wrap n)).toNat ∧
  (Dy.dg (IntKind.u64.wrap ((0 : Int) - IntKind.u64.wrap n)).toNat).length ≤ (1048576 : Nat) ∧
  (-1099511627776 : Int) ≤ (0 : Int) ∧ (0 : Int) ≤ (1099511627776 : Int)) ∧
  ∀ (b1 : Bool),
  b1 =
  (Dy.form (decide (n < (0 : Int))) (Dy.val (Dy.dg (IntKind.u64.wrap ((0 : Int) - IntKind.u64.wrap n)).toNat))
  (0 : Int)).neg →
  ∀ (l2 : List Nat),
  l2 =
  (Dy.form (decide (n < (0 : Int)))
  (Dy.val (Dy.dg (IntKind.u64.wrap ((0 : Int) - IntKind.u64.wrap n)).toNat)) (0 : Int)).mag →
  ∀ (n3 : Int),
  n3 =
  (Dy.form (decide (n < (0 : Int)))
  (Dy.val (Dy.dg (IntKind.u64.wrap ((0 : Int) - IntKind.u64.wrap n)).toNat)) (0 : Int)).exp →
  Q (AV.agg [AV.bool b1, AV.dig [(0 : Nat)] l2, AV.num IntKind.i64 n3])
 else
  (Dy.dg (Dy.val (Dy.dg (IntKind.u64.wrap n).toNat)) = Dy.dg (IntKind.u64.wrap n).toNat ∧
  (Dy.dg (IntKind.u64.wrap n).toNat).length ≤ (1048576 : Nat) ∧
  (-1099511627776 : Int) ≤ (0 : Int) ∧ (0 : Int) ≤ (1099511627776 : Int)) ∧
  ∀ (b4 : Bool),
  b4 = (Dy.form (decide (n < (0 : Int))) (Dy.val (Dy.dg (IntKind.u64.wrap n).toNat)) (0 : Int)).neg →
  ∀ (l5 : List Nat),
  l5 = (Dy.form (decide (n < (0 : Int))) (Dy.val (Dy.dg (IntKind.u64.wrap n).toNat)) (0 : Int)).mag →
  ∀ (n6 : Int),
  n6 = (Dy.form (decide (n < (0 : Int))) (Dy.val (Dy.dg (IntKind.u64.wrap n).toNat)) (0 : Int)).exp →
  Q (AV.agg [AV.bool b4, AV.dig [(0 : Nat)] l5, AV.num IntKind.i64 n6])) := by kernel_rfl
theorem vc_ref2_Int64 (s : Bool) (m : List
  Nat) (e : Int) (Q : AV →
  Prop) : (evF Tryd.prog (look tab16) (lam []) false Tryd.f27
  [AV.agg [AV.bool s, AV.dig [(1 : Nat)] m, AV.num IntKind.i64 e]] Q) =
  (bif decide ((↑m.length : Int) = (0 : Int)) then Q (AV.tup [AV.num IntKind.i64 (0 : Int), AV.bool true])
 else
  bif decide (e < (0 : Int)) then Q (AV.tup [AV.num IntKind.i64 (0 : Int), AV.bool false])
  else
  (Dy.dg (Dy.val m) = m ∧ m.length ≤ (1048576 : Nat) ∧ (-1099511627776 : Int) ≤ e ∧ e ≤ (1099511627776 : Int)) ∧
  bif decide (Dy.topD (Dy.Dyd.mk s m e) > (64 : Int)) then Q (AV.tup [AV.num IntKind.i64 (0 : Int), AV.bool false])
  else
  ((0 : Int) ≤ e ∧ e ≤ (33554432 : Int) ∧ m.length ≤ (1048576 : Nat)) ∧
  ((0 : Int) ≤ (0 : Int) ∧ (0 : Int) < (↑(Dy.dg (Dy.val m * (2 : Nat) ^ e.toNat)).length : Int)) ∧
  bif decide ((↑(Dy.dg (Dy.val m * (2 : Nat) ^ e.toNat)).length : Int) > (1 : Int)) then
  ((0 : Int) ≤ (1 : Int) ∧ (1 : Int) < (↑(Dy.dg (Dy.val m * (2 : Nat) ^ e.toNat)).length : Int)) ∧
  bif s then
  ∀ (b1 : Bool),
  b1 =
  decide
  (IntKind.u64.wrap
  (IntKind.u64.wrap
  (↑((Dy.dg (Dy.val m * (2 : Nat) ^ e.toNat)).getD (0 : Nat) (0 : Nat)) : Int) +
  IntKind.u64.wrap
  (IntKind.u64.wrap
  (↑((Dy.dg (Dy.val m * (2 : Nat) ^ e.toNat)).getD (1 : Nat) (0 : Nat)) : Int) *
  (2 : Int) ^ (32 : Nat))) ≤
  (9223372036854775808 : Int)) →
  bif b1 then
  Q
  (AV.tup
  [AV.num IntKind.i64
  (IntKind.i64.wrap
  ((0 : Int) -
  IntKind.i64.wrap
  (IntKind.u64.wrap
  (IntKind.u64.wrap
  (↑((Dy.dg (Dy.val m * (2 : Nat) ^ e.toNat)).getD (0 : Nat) (0 : Nat)) :
  Int) +
  IntKind.u64.wrap
  (IntKind.u64.wrap
  (↑((Dy.dg (Dy.val m * (2 : Nat) ^ e.toNat)).getD (1 : Nat) (0 : Nat)) :
  Int) *
  (2 : Int) ^ (32 : Nat)))))),
  AV.bool true])
  else
  bif !s then
  ∀ (b2 : Bool),
  b2 =
  decide
  (IntKind.u64.wrap
  (IntKind.u64.wrap
  (↑((Dy.dg (Dy.val m * (2 : Nat) ^ e.toNat)).getD (0 : Nat) (0 : Nat)) : Int) +
  IntKind.u64.wrap
  (IntKind.u64.wrap
  (↑((Dy.dg (Dy.val m * (2 : Nat) ^ e.toNat)).getD (1 : Nat) (0 : Nat)) :
  Int) *
  (2 : Int) ^ (32 : Nat))) <
  (9223372036854775808 : Int)) →
  bif b2 then
  Q
  (AV.tup
  [AV.num IntKind.i64
  (IntKind.i64.wrap
  (IntKind.u64.wrap
  (IntKind.u64.wrap
  (↑((Dy.dg (Dy.val m * (2 : Nat) ^ e.toNat)).getD (0 : Nat) (0 : Nat)) :
  Int) +
  IntKind.u64.wrap
  (IntKind.u64.wrap
  (↑((Dy.dg (Dy.val m * (2 : Nat) ^ e.toNat)).getD (1 : Nat)
  (0 : Nat)) :
  Int) *
  (2 : Int) ^ (32 : Nat))))),
  AV.bool true])
  else Q (AV.tup [AV.num IntKind.i64 (0 : Int), AV.bool false])
  else Q (AV.tup [AV.num IntKind.i64 (0 : Int), AV.bool false])
  else
  bif !s then
  ∀ (b3 : Bool),
  b3 =
  decide
  (IntKind.u64.wrap
  (IntKind.u64.wrap
  (↑((Dy.dg (Dy.val m * (2 : Nat) ^ e.toNat)).getD (0 : Nat) (0 : Nat)) : Int) +
  IntKind.u64.wrap
  (IntKind.u64.wrap
  (↑((Dy.dg (Dy.val m * (2 : Nat) ^ e.toNat)).getD (1 : Nat) (0 : Nat)) : Int) *
  (2 : Int) ^ (32 : Nat))) <
  (9223372036854775808 : Int)) →
  bif b3 then
  Q
  (AV.tup
  [AV.num IntKind.i64
  (IntKind.i64.wrap
  (IntKind.u64.wrap
  (IntKind.u64.wrap
  (↑((Dy.dg (Dy.val m * (2 : Nat) ^ e.toNat)).getD (0 : Nat) (0 : Nat)) : Int) +
  IntKind.u64.wrap
  (IntKind.u64.wrap
  (↑((Dy.dg (Dy.val m * (2 : Nat) ^ e.toNat)).getD (1 : Nat) (0 : Nat)) :
  Int) *
  (2 : Int) ^ (32 : Nat))))),
  AV.bool true])
  else Q (AV.tup [AV.num IntKind.i64 (0 : Int), AV.bool false])
  else Q (AV.tup [AV.num IntKind.i64 (0 : Int), AV.bool false])
  else
  bif s then
  ∀ (b4 : Bool),
  b4 =
  decide
  (IntKind.u64.wrap (↑((Dy.dg (Dy.val m * (2 : Nat) ^ e.toNat)).getD (0 : Nat) (0 : Nat)) : Int) ≤
  (9223372036854775808 : Int)) →
  bif b4 then
  Q
  (AV.tup
  [AV.num IntKind.i64
  (IntKind.i64.wrap
  ((0 : Int) -
  IntKind.i64.wrap
  (IntKind.u64.wrap
  (↑((Dy.dg (Dy.val m * (2 : Nat) ^ e.toNat)).getD (0 : Nat) (0 : Nat)) : Int)))),
  AV.bool true])
  else
  bif !s then
  ∀ (b5 : Bool),
  b5 =
  decide
  (IntKind.u64.wrap
  (↑((Dy.dg (Dy.val m * (2 : Nat) ^ e.toNat)).getD (0 : Nat) (0 : Nat)) : Int) <
  (9223372036854775808 : Int)) →
  bif b5 then
  Q
  (AV.tup
  [AV.num IntKind.i64
  (IntKind.i64.wrap
  (IntKind.u64.wrap
  (↑((Dy.dg (Dy.val m * (2 : Nat) ^ e.toNat)).getD (0 : Nat) (0 : Nat)) :
  Int))),
  AV.bool true])
  else Q (AV.tup [AV.num IntKind.i64 (0 : Int), AV.bool false])
  else Q (AV.tup [AV.num IntKind.i64 (0 : Int), AV.bool false])
  else
  bif !s then
  ∀ (b6 : Bool),
  b6 =
  decide
  (IntKind.u64.wrap
  (↑((Dy.dg (Dy.val m * (2 : Nat) ^ e.toNat)).getD (0 : Nat) (0 : Nat)) : Int) <
  (9223372036854775808 : Int)) →
  bif b6 then
  Q
  (AV.tup
  [AV.num IntKind.i64
  (IntKind.i64.wrap
  (IntKind.u64.wrap
  (↑((Dy.dg (Dy.val m * (2 : Nat) ^ e.toNat)).getD (0 : Nat) (0 : Nat)) : Int))),
  AV.bool true])
  else Q (AV.tup [AV.num IntKind.i64 (0 : Int), AV.bool false])
  else Q (AV.tup [AV.num IntKind.i64 (0 : Int), AV.bool false])) := by kernel_rfl
theorem vc_law2_lent (s : Bool) (m : List
  Nat) (e : Int) (Q : AV →
  Prop) : (evF Tryd.prog (look tab15) (lam []) false Tryd.f13
  [AV.agg [AV.bool s, AV.dig [(1 : Nat)] m, AV.num IntKind.i64 e]] Q) =
  (((0 : Nat) ≤ m.length ∧ (0 : Nat) + m.length ≤ (1099511627776 : Nat)) ∧
  Q (AV.agg [AV.bool s, AV.dig [(0 : Nat)] ([] ++ m), AV.num IntKind.i64 e])) := by kernel_rfl
theorem vc_law2_known (Q : AV → Prop) : (evF Tryd.prog (look tab16) (lam []) false Tryd.f12 [] Q) =
  (∀ (b1 : Bool),
  b1 = (Dy.addD (Dy.Dyd.mk false [(3 : Nat)] (-2 : Int)) (Dy.Dyd.mk false [(1 : Nat)] (-2 : Int))).neg →
  ∀ (l2 : List Nat),
  l2 = (Dy.addD (Dy.Dyd.mk false [(3 : Nat)] (-2 : Int)) (Dy.Dyd.mk false [(1 : Nat)] (-2 : Int))).mag →
  ∀ (n3 : Int),
  n3 = (Dy.addD (Dy.Dyd.mk false [(3 : Nat)] (-2 : Int)) (Dy.Dyd.mk false [(1 : Nat)] (-2 : Int))).exp →
  ∀ (n4 : Int),
  n4 =
  (Dy.boundIf
  (Dy.mayD (Dy.Dyd.mk false [(3 : Nat)] (-2 : Int)) &&
  Dy.mayD (Dy.Dyd.mk false [(1 : Nat)] (-2 : Int)))
  (Dy.addD (Dy.Dyd.mk false [(3 : Nat)] (-2 : Int)) (Dy.Dyd.mk false [(1 : Nat)] (-2 : Int)))).snd →
  bif decide (n4 = (0 : Int)) then
  Q (AV.bool (Dy.sameD (Dy.Dyd.mk b1 l2 n3) (Dy.Dyd.mk false [(1 : Nat)] (0 : Int))))
  else Q (AV.bool false)) := by kernel_rfl
theorem vc_law2_near1 (s : Bool) (m : List
  Nat) (e : Int) (Q : AV →
  Prop) : (evF Tryd.prog (look tab15) (lam [((2 : Nat), LoopAnn.unroll (4 : Nat))]) false Tryd.f28
  [AV.vec [(1 : Nat)] (3 : Nat) [AV.agg [AV.bool s, AV.dig [(1 : Nat)] m, AV.num IntKind.i64 e]]] Q) =
  (bif decide ((0 : Int) < (↑[AV.agg [AV.bool s, AV.dig [(1 : Nat)] m, AV.num IntKind.i64 e]].length : Int)) then
  ((0 : Int) ≤ (0 : Int) ∧
  (0 : Int) < (↑[AV.agg [AV.bool s, AV.dig [(1 : Nat)] m, AV.num IntKind.i64 e]].length : Int)) ∧
  bif decide ((↑m.length : Int) > (100 : Int)) then Q (AV.bool false)
  else
  ((0 : Int) ≤ (0 : Int) ∧
  (0 : Int) < (↑[AV.agg [AV.bool s, AV.dig [(1 : Nat)] m, AV.num IntKind.i64 e]].length : Int)) ∧
  bif decide (e < (-3000 : Int)) then Q (AV.bool false)
  else
  ((0 : Int) ≤ (0 : Int) ∧
  (0 : Int) < (↑[AV.agg [AV.bool s, AV.dig [(1 : Nat)] m, AV.num IntKind.i64 e]].length : Int)) ∧
  bif decide (e > (3000 : Int)) then Q (AV.bool false)
  else
  ((0 : Int) ≤ (0 : Int) ∧
  (0 : Int) < (↑[AV.agg [AV.bool s, AV.dig [(1 : Nat)] m, AV.num IntKind.i64 e]].length : Int)) ∧
  bif !Dy.mayD (Dy.Dyd.mk s m e) then Q (AV.bool false)
  else
  bif
  decide
  (IntKind.i64.wrap ((0 : Int) + (1 : Int)) <
  (↑[AV.agg [AV.bool s, AV.dig [(1 : Nat)] m, AV.num IntKind.i64 e]].length : Int)) then
  False
  else Q (AV.bool true)
 else Q (AV.bool true)) := by kernel_rfl
theorem vc_law2_near2 (s : Bool) (s' : Bool) (m : List
  Nat) (m' : List
  Nat) (e : Int) (e' : Int) (Q : AV →
  Prop) : (evF Tryd.prog (look tab15) (lam [((2 : Nat), LoopAnn.unroll (4 : Nat))]) false Tryd.f28
  [AV.vec [(1 : Nat)] (3 : Nat)
  [AV.agg [AV.bool s, AV.dig [(1 : Nat)] m, AV.num IntKind.i64 e],
  AV.agg [AV.bool s', AV.dig [(1 : Nat)] m', AV.num IntKind.i64 e']]]
  Q) =
  (bif
  decide
  ((0 : Int) <
  (↑[AV.agg [AV.bool s, AV.dig [(1 : Nat)] m, AV.num IntKind.i64 e],
  AV.agg [AV.bool s', AV.dig [(1 : Nat)] m', AV.num IntKind.i64 e']].length :
  Int)) then
  ((0 : Int) ≤ (0 : Int) ∧
  (0 : Int) <
  (↑[AV.agg [AV.bool s, AV.dig [(1 : Nat)] m, AV.num IntKind.i64 e],
  AV.agg [AV.bool s', AV.dig [(1 : Nat)] m', AV.num IntKind.i64 e']].length :
  Int)) ∧
  bif decide ((↑m.length : Int) > (100 : Int)) then Q (AV.bool false)
  else
  ((0 : Int) ≤ (0 : Int) ∧
  (0 : Int) <
  (↑[AV.agg [AV.bool s, AV.dig [(1 : Nat)] m, AV.num IntKind.i64 e],
  AV.agg [AV.bool s', AV.dig [(1 : Nat)] m', AV.num IntKind.i64 e']].length :
  Int)) ∧
  bif decide (e < (-3000 : Int)) then Q (AV.bool false)
  else
  ((0 : Int) ≤ (0 : Int) ∧
  (0 : Int) <
  (↑[AV.agg [AV.bool s, AV.dig [(1 : Nat)] m, AV.num IntKind.i64 e],
  AV.agg [AV.bool s', AV.dig [(1 : Nat)] m', AV.num IntKind.i64 e']].length :
  Int)) ∧
  bif decide (e > (3000 : Int)) then Q (AV.bool false)
  else
  ((0 : Int) ≤ (0 : Int) ∧
  (0 : Int) <
  (↑[AV.agg [AV.bool s, AV.dig [(1 : Nat)] m, AV.num IntKind.i64 e],
  AV.agg [AV.bool s', AV.dig [(1 : Nat)] m', AV.num IntKind.i64 e']].length :
  Int)) ∧
  bif !Dy.mayD (Dy.Dyd.mk s m e) then Q (AV.bool false)
  else
  bif
  decide
  (IntKind.i64.wrap ((0 : Int) + (1 : Int)) <
  (↑[AV.agg [AV.bool s, AV.dig [(1 : Nat)] m, AV.num IntKind.i64 e],
  AV.agg [AV.bool s', AV.dig [(1 : Nat)] m', AV.num IntKind.i64 e']].length :
  Int)) then
  ((0 : Int) ≤ IntKind.i64.wrap ((0 : Int) + (1 : Int)) ∧
  IntKind.i64.wrap ((0 : Int) + (1 : Int)) <
  (↑[AV.agg [AV.bool s, AV.dig [(1 : Nat)] m, AV.num IntKind.i64 e],
  AV.agg [AV.bool s', AV.dig [(1 : Nat)] m', AV.num IntKind.i64 e']].length :
  Int)) ∧
  bif decide ((↑m'.length : Int) > (100 : Int)) then Q (AV.bool false)
  else
  ((0 : Int) ≤ IntKind.i64.wrap ((0 : Int) + (1 : Int)) ∧
  IntKind.i64.wrap ((0 : Int) + (1 : Int)) <
  (↑[AV.agg [AV.bool s, AV.dig [(1 : Nat)] m, AV.num IntKind.i64 e],
  AV.agg [AV.bool s', AV.dig [(1 : Nat)] m', AV.num IntKind.i64 e']].length :
  Int)) ∧
  bif decide (e' < (-3000 : Int)) then Q (AV.bool false)
  else
  ((0 : Int) ≤ IntKind.i64.wrap ((0 : Int) + (1 : Int)) ∧
  IntKind.i64.wrap ((0 : Int) + (1 : Int)) <
  (↑[AV.agg [AV.bool s, AV.dig [(1 : Nat)] m, AV.num IntKind.i64 e],
  AV.agg [AV.bool s', AV.dig [(1 : Nat)] m', AV.num IntKind.i64 e']].length :
  Int)) ∧
  bif decide (e' > (3000 : Int)) then Q (AV.bool false)
  else
  ((0 : Int) ≤ IntKind.i64.wrap ((0 : Int) + (1 : Int)) ∧
  IntKind.i64.wrap ((0 : Int) + (1 : Int)) <
  (↑[AV.agg [AV.bool s, AV.dig [(1 : Nat)] m, AV.num IntKind.i64 e],
  AV.agg
  [AV.bool s', AV.dig [(1 : Nat)] m', AV.num IntKind.i64 e']].length :
  Int)) ∧
  bif !Dy.mayD (Dy.Dyd.mk s' m' e') then Q (AV.bool false)
  else
  bif
  decide
  (IntKind.i64.wrap (IntKind.i64.wrap ((0 : Int) + (1 : Int)) + (1 : Int)) <
  (↑[AV.agg [AV.bool s, AV.dig [(1 : Nat)] m, AV.num IntKind.i64 e],
  AV.agg
  [AV.bool s', AV.dig [(1 : Nat)] m',
  AV.num IntKind.i64 e']].length :
  Int)) then
  False
  else Q (AV.bool true)
  else Q (AV.bool true)
 else Q (AV.bool true)) := by kernel_rfl
theorem vc_law2_near3 (s : Bool) (s' : Bool) (s2 : Bool) (m : List
  Nat) (m' : List
  Nat) (m2 : List
  Nat) (e : Int) (e' : Int) (e2 : Int) (Q : AV →
  Prop) : (evF Tryd.prog (look tab15) (lam [((2 : Nat), LoopAnn.unroll (4 : Nat))]) false Tryd.f28
  [AV.vec [(1 : Nat)] (3 : Nat)
  [AV.agg [AV.bool s, AV.dig [(1 : Nat)] m, AV.num IntKind.i64 e],
  AV.agg [AV.bool s', AV.dig [(1 : Nat)] m', AV.num IntKind.i64 e'],
  AV.agg [AV.bool s2, AV.dig [(1 : Nat)] m2, AV.num IntKind.i64 e2]]]
  Q) =
  (bif
  decide
  ((0 : Int) <
  (↑[AV.agg [AV.bool s, AV.dig [(1 : Nat)] m, AV.num IntKind.i64 e],
  AV.agg [AV.bool s', AV.dig [(1 : Nat)] m', AV.num IntKind.i64 e'],
  AV.agg [AV.bool s2, AV.dig [(1 : Nat)] m2, AV.num IntKind.i64 e2]].length :
  Int)) then
  ((0 : Int) ≤ (0 : Int) ∧
  (0 : Int) <
  (↑[AV.agg [AV.bool s, AV.dig [(1 : Nat)] m, AV.num IntKind.i64 e],
  AV.agg [AV.bool s', AV.dig [(1 : Nat)] m', AV.num IntKind.i64 e'],
  AV.agg [AV.bool s2, AV.dig [(1 : Nat)] m2, AV.num IntKind.i64 e2]].length :
  Int)) ∧
  bif decide ((↑m.length : Int) > (100 : Int)) then Q (AV.bool false)
  else
  ((0 : Int) ≤ (0 : Int) ∧
  (0 : Int) <
  (↑[AV.agg [AV.bool s, AV.dig [(1 : Nat)] m, AV.num IntKind.i64 e],
  AV.agg [AV.bool s', AV.dig [(1 : Nat)] m', AV.num IntKind.i64 e'],
  AV.agg [AV.bool s2, AV.dig [(1 : Nat)] m2, AV.num IntKind.i64 e2]].length :
  Int)) ∧
  bif decide (e < (-3000 : Int)) then Q (AV.bool false)
  else
  ((0 : Int) ≤ (0 : Int) ∧
  (0 : Int) <
  (↑[AV.agg [AV.bool s, AV.dig [(1 : Nat)] m, AV.num IntKind.i64 e],
  AV.agg [AV.bool s', AV.dig [(1 : Nat)] m', AV.num IntKind.i64 e'],
  AV.agg [AV.bool s2, AV.dig [(1 : Nat)] m2, AV.num IntKind.i64 e2]].length :
  Int)) ∧
  bif decide (e > (3000 : Int)) then Q (AV.bool false)
  else
  ((0 : Int) ≤ (0 : Int) ∧
  (0 : Int) <
  (↑[AV.agg [AV.bool s, AV.dig [(1 : Nat)] m, AV.num IntKind.i64 e],
  AV.agg [AV.bool s', AV.dig [(1 : Nat)] m', AV.num IntKind.i64 e'],
  AV.agg [AV.bool s2, AV.dig [(1 : Nat)] m2, AV.num IntKind.i64 e2]].length :
  Int)) ∧
  bif !Dy.mayD (Dy.Dyd.mk s m e) then Q (AV.bool false)
  else
  bif
  decide
  (IntKind.i64.wrap ((0 : Int) + (1 : Int)) <
  (↑[AV.agg [AV.bool s, AV.dig [(1 : Nat)] m, AV.num IntKind.i64 e],
  AV.agg [AV.bool s', AV.dig [(1 : Nat)] m', AV.num IntKind.i64 e'],
  AV.agg [AV.bool s2, AV.dig [(1 : Nat)] m2, AV.num IntKind.i64 e2]].length :
  Int)) then
  ((0 : Int) ≤ IntKind.i64.wrap ((0 : Int) + (1 : Int)) ∧
  IntKind.i64.wrap ((0 : Int) + (1 : Int)) <
  (↑[AV.agg [AV.bool s, AV.dig [(1 : Nat)] m, AV.num IntKind.i64 e],
  AV.agg [AV.bool s', AV.dig [(1 : Nat)] m', AV.num IntKind.i64 e'],
  AV.agg [AV.bool s2, AV.dig [(1 : Nat)] m2, AV.num IntKind.i64 e2]].length :
  Int)) ∧
  bif decide ((↑m'.length : Int) > (100 : Int)) then Q (AV.bool false)
  else
  ((0 : Int) ≤ IntKind.i64.wrap ((0 : Int) + (1 : Int)) ∧
  IntKind.i64.wrap ((0 : Int) + (1 : Int)) <
  (↑[AV.agg [AV.bool s, AV.dig [(1 : Nat)] m, AV.num IntKind.i64 e],
  AV.agg [AV.bool s', AV.dig [(1 : Nat)] m', AV.num IntKind.i64 e'],
  AV.agg [AV.bool s2, AV.dig [(1 : Nat)] m2, AV.num IntKind.i64 e2]].length :
  Int)) ∧
  bif decide (e' < (-3000 : Int)) then Q (AV.bool false)
  else
  ((0 : Int) ≤ IntKind.i64.wrap ((0 : Int) + (1 : Int)) ∧
  IntKind.i64.wrap ((0 : Int) + (1 : Int)) <
  (↑[AV.agg [AV.bool s, AV.dig [(1 : Nat)] m, AV.num IntKind.i64 e],
  AV.agg [AV.bool s', AV.dig [(1 : Nat)] m', AV.num IntKind.i64 e'],
  AV.agg [AV.bool s2, AV.dig [(1 : Nat)] m2, AV.num IntKind.i64 e2]].length :
  Int)) ∧
  bif decide (e' > (3000 : Int)) then Q (AV.bool false)
  else
  ((0 : Int) ≤ IntKind.i64.wrap ((0 : Int) + (1 : Int)) ∧
  IntKind.i64.wrap ((0 : Int) + (1 : Int)) <
  (↑[AV.agg [AV.bool s, AV.dig [(1 : Nat)] m, AV.num IntKind.i64 e],
  AV.agg [AV.bool s', AV.dig [(1 : Nat)] m', AV.num IntKind.i64 e'],
  AV.agg
  [AV.bool s2, AV.dig [(1 : Nat)] m2, AV.num IntKind.i64 e2]].length :
  Int)) ∧
  bif !Dy.mayD (Dy.Dyd.mk s' m' e') then Q (AV.bool false)
  else
  bif
  decide
  (IntKind.i64.wrap (IntKind.i64.wrap ((0 : Int) + (1 : Int)) + (1 : Int)) <
  (↑[AV.agg [AV.bool s, AV.dig [(1 : Nat)] m, AV.num IntKind.i64 e],
  AV.agg [AV.bool s', AV.dig [(1 : Nat)] m', AV.num IntKind.i64 e'],
  AV.agg
  [AV.bool s2, AV.dig [(1 : Nat)] m2,
  AV.num IntKind.i64 e2]].length :
  Int)) then
  ((0 : Int) ≤
  IntKind.i64.wrap (IntKind.i64.wrap ((0 : Int) + (1 : Int)) + (1 : Int)) ∧
  IntKind.i64.wrap (IntKind.i64.wrap ((0 : Int) + (1 : Int)) + (1 : Int)) <
  (↑[AV.agg [AV.bool s, AV.dig [(1 : Nat)] m, AV.num IntKind.i64 e],
  AV.agg [AV.bool s', AV.dig [(1 : Nat)] m', AV.num IntKind.i64 e'],
  AV.agg
  [AV.bool s2, AV.dig [(1 : Nat)] m2,
  AV.num IntKind.i64 e2]].length :
  Int)) ∧
  bif decide ((↑m2.length : Int) > (100 : Int)) then Q (AV.bool false)
  else
  ((0 : Int) ≤
  IntKind.i64.wrap
  (IntKind.i64.wrap ((0 : Int) + (1 : Int)) + (1 : Int)) ∧
  IntKind.i64.wrap (IntKind.i64.wrap ((0 : Int) + (1 : Int)) + (1 : Int)) <
  (↑[AV.agg [AV.bool s, AV.dig [(1 : Nat)] m, AV.num IntKind.i64 e],
  AV.agg
  [AV.bool s', AV.dig [(1 : Nat)] m', AV.num IntKind.i64 e'],
  AV.agg
  [AV.bool s2, AV.dig [(1 : Nat)] m2,
  AV.num IntKind.i64 e2]].length :
  Int)) ∧
  bif decide (e2 < (-3000 : Int)) then Q (AV.bool false)
  else
  ((0 : Int) ≤
  IntKind.i64.wrap
  (IntKind.i64.wrap ((0 : Int) + (1 : Int)) + (1 : Int)) ∧
  IntKind.i64.wrap
  (IntKind.i64.wrap ((0 : Int) + (1 : Int)) + (1 : Int)) <
  (↑[AV.agg [AV.bool s, AV.dig [(1 : Nat)] m, AV.num IntKind.i64 e],
  AV.agg
  [AV.bool s', AV.dig [(1 : Nat)] m',
  AV.num IntKind.i64 e'],
  AV.agg
  [AV.bool s2, AV.dig [(1 : Nat)] m2,
  AV.num IntKind.i64 e2]].length :
  Int)) ∧
  bif decide (e2 > (3000 : Int)) then Q (AV.bool false)
  else
  ((0 : Int) ≤
  IntKind.i64.wrap
  (IntKind.i64.wrap ((0 : Int) + (1 : Int)) + (1 : Int)) ∧
  IntKind.i64.wrap
  (IntKind.i64.wrap ((0 : Int) + (1 : Int)) + (1 : Int)) <
  (↑[AV.agg
  [AV.bool s, AV.dig [(1 : Nat)] m,
  AV.num IntKind.i64 e],
  AV.agg
  [AV.bool s', AV.dig [(1 : Nat)] m',
  AV.num IntKind.i64 e'],
  AV.agg
  [AV.bool s2, AV.dig [(1 : Nat)] m2,
  AV.num IntKind.i64 e2]].length :
  Int)) ∧
  bif !Dy.mayD (Dy.Dyd.mk s2 m2 e2) then Q (AV.bool false)
  else
  bif
  decide
  (IntKind.i64.wrap
  (IntKind.i64.wrap
  (IntKind.i64.wrap ((0 : Int) + (1 : Int)) +
  (1 : Int)) +
  (1 : Int)) <
  (↑[AV.agg
  [AV.bool s, AV.dig [(1 : Nat)] m,
  AV.num IntKind.i64 e],
  AV.agg
  [AV.bool s', AV.dig [(1 : Nat)] m',
  AV.num IntKind.i64 e'],
  AV.agg
  [AV.bool s2, AV.dig [(1 : Nat)] m2,
  AV.num IntKind.i64 e2]].length :
  Int)) then
  False
  else Q (AV.bool true)
  else Q (AV.bool true)
  else Q (AV.bool true)
 else Q (AV.bool true)) := by kernel_rfl
end Go.AI

namespace Go.AI
open Go Go.RowKit Go.Proofs
set_option linter.unusedVariables false
set_option maxRecDepth 100000
theorem ok_ref2_Same (args : List AV) (s : Spec) (h : rSameD args = some s) (hp : andO s.pre True) : Contract Tryd.prog Inv 21 args s.res := by
  unfold rSameD at h
  split at h
  · cases h
    refine contract0 false ok_tab15 Tryd.func21 (by kernel_rfl) (by kernel_rfl) fun hok => ?_
    rw [vc_ref2_Same]
    unfold Dy.sameD
    refine cond_i (fun h => cond_i (fun h1 => ?_) (fun h1 => ?_)) (fun h => ?_)
    · simp only [of_decide_eq_true h, of_decide_eq_true h1, BEq.rfl, Bool.true_and]
    · have h1 := of_decide_eq_false h1
      simp [h1]
    · have h := of_decide_eq_false h
      simp [h]
  · cases h
theorem ok_ref2_May (args : List AV) (s : Spec) (h : dMay args = some s) (hp : andO s.pre True) : Contract Tryd.prog Inv 15 args s.res := by
  unfold dMay at h
  split at h
  · cases h
    rename_i s m e
    refine contract0 false ok_tab15 Tryd.func15 (by kernel_rfl) (by kernel_rfl) fun hok => ?_
    obtain ⟨hm, he, -⟩ := oks_d hok
    have hlow : ((m.getD 0 0 : Nat) : Int).tmod 2 = ((Dy.val m % 2 : Nat) : Int) := by
      rw [Int.tmod_eq_emod_of_nonneg (by omega), ← Dy.val_mod hm.2]
      omega
    rw [vc_ref2_May, hlow]
    unfold Dy.mayD Dy.inside
    refine cond_i (fun h => ?_) (fun h => cond_i (fun h1 => cond_i (fun h2 => ?_) (fun h2 => ?_)) (fun h1 => ⟨?_, cond_i (fun h2 => cond_i (fun h3 => ?_) (fun h3 => ?_)) (fun h2 => ?_)⟩))
    · simp only [Bool.not_eq_true'] at h
      simp only [h, Bool.false_and]
    · simp only [Bool.not_eq_false'] at h
      have h1 := List.length_eq_zero_iff.1 (Int.ofNat_eq_zero.1 (of_decide_eq_true h1))
      subst h1
      simp only [h, if_true, h2, Bool.true_and]
    · simp only [Bool.not_eq_false'] at h
      have h1 := List.length_eq_zero_iff.1 (Int.ofNat_eq_zero.1 (of_decide_eq_true h1))
      subst h1
      simp only [h, if_true, h2, Bool.true_and, Bool.false_and]
    · have h1 := of_decide_eq_false h1
      omega
    · simp only [Bool.not_eq_false'] at h
      have h1 := of_decide_eq_false h1
      have h2 := of_decide_eq_true h2
      have h3 := of_decide_eq_true h3
      have h1' : m ≠ [] := fun e => h1 (by rw [e]; rfl)
      simp only [h, if_neg h1', Bool.true_and]
      rw [decide_eq_true (show Dy.val m % 2 = 1 by omega), Bool.true_and]
      simp only [show -16777216 ≤ e from h3, true_and]
    · simp only [Bool.not_eq_false'] at h
      have h1 := of_decide_eq_false h1
      have h3 := of_decide_eq_false h3
      have h1' : m ≠ [] := fun e => h1 (by rw [e]; rfl)
      simp only [h, if_neg h1', Bool.true_and]
      simp only [show ¬ -16777216 ≤ e from h3, false_and, decide_false, Bool.and_false]
    · simp only [Bool.not_eq_false'] at h
      have h1 := of_decide_eq_false h1
      have h2 := of_decide_eq_false h2
      have h1' : m ≠ [] := fun e => h1 (by rw [e]; rfl)
      simp only [h, if_neg h1', Bool.true_and]
      rw [decide_eq_false (show ¬ Dy.val m % 2 = 1 by omega), Bool.false_and]
  · cases h
theorem ok_ref2_Form (args : List AV) (s : Spec) (h : rForm args = some s) (hp : andO s.pre True) : Contract Tryd.prog Inv 22 args s.res := by
  unfold rForm at h
  split at h
  · cases h
    rename_i s m e
    obtain ⟨⟨hc, hl, he1, he2⟩, -⟩ := hp
    refine contract0 false ok_tab15 Tryd.func22 (by kernel_rfl) (by kernel_rfl) fun hok => ?_
    obtain ⟨hm, -⟩ := oks1_dig (oks1_bool hok)
    rw [vc_ref2_Form]
    refine cond_i (fun h => ?_) (fun h => ?_)
    · have h := List.length_eq_zero_iff.1 (Int.ofNat_eq_zero.1 (of_decide_eq_true h))
      subst h
      rfl
    · have h := of_decide_eq_false h
      have h1' : m ≠ [] := fun e => h (by rw [e]; rfl)
      have hv : Dy.val m ≠ 0 := fun e => h1' (by rw [← hc, e, Dy.dg_zero])
      have ht := Dy.tz_lt_bl hv
      have hb := Dy.bl_le.2 (Dy.val_lt hm.2)
      refine ⟨⟨hc, hl⟩, ⟨hc, by omega, hl⟩, ?_⟩
      rw [Int.toNat_natCast, wrap_i64 (by omega) (by omega), Dy.form_pos hv]
      rintro _ rfl _ -
      rfl
  · cases h
theorem ok_ref2_Sign (args : List AV) (s : Spec) (h : rSign args = some s) (hp : andO s.pre True) : Contract Tryd.prog Inv 46 args s.res := by
  unfold rSign at h
  split at h
  · cases h
    rename_i s m e
    refine contract0 false ok_tab15 Tryd.func46 (by kernel_rfl) (by kernel_rfl) fun hok => ?_
    rw [vc_ref2_Sign]
    unfold Dy.signD
    refine cond_i (fun h1 => ?_) (fun h1 => ?_)
    · have h1 := List.length_eq_zero_iff.1 (Int.ofNat_eq_zero.1 (of_decide_eq_true h1))
      subst h1
      rfl
    · have h1 := of_decide_eq_false h1
      have h1' : m ≠ [] := fun e => h1 (by rw [e]; rfl)
      simp only [if_neg h1']
      cases s <;> rfl
  · cases h
theorem ok_ref2_Top (args : List AV) (s : Spec) (h : rTop args = some s) (hp : andO s.pre True) : Contract Tryd.prog Inv 47 args s.res := by
  unfold rTop at h
  split at h
  · cases h
    rename_i s m e
    obtain ⟨⟨hc, hl, he1, he2⟩, -⟩ := hp
    refine contract0 false ok_tab15 Tryd.func47 (by kernel_rfl) (by kernel_rfl) fun hok => ?_
    obtain ⟨hm, -⟩ := oks_d hok
    have hb := Dy.bl_le.2 (Dy.val_lt hm.2)
    rw [vc_ref2_Top]
    unfold Dy.topD
    refine cond_i (fun h1 => ?_) (fun h1 => ?_)
    · have h1 := List.length_eq_zero_iff.1 (Int.ofNat_eq_zero.1 (of_decide_eq_true h1))
      subst h1
      rfl
    · have h1 := of_decide_eq_false h1
      have h1' : m ≠ [] := fun e => h1 (by rw [e]; rfl)
      simp only [if_neg h1']
      rw [wrap_i64 (by omega) (by omega)]
      exact ⟨⟨hc, hl⟩, rfl⟩
  · cases h
theorem ok_ref2_Neg (args : List AV) (s : Spec) (h : rNeg args = some s) (hp : andO s.pre True) : Contract Tryd.prog Inv 44 args s.res := by
  unfold rNeg at h
  split at h
  · cases h
    rename_i s m e
    refine contract0 true ok_tab15 Tryd.func44 (by kernel_rfl) (by kernel_rfl) fun hok => ?_
    rw [vc_ref2_Neg]
    refine cond_i (fun h => ?_) (fun h => ?_)
    · have h := of_decide_eq_true h
      have h1' : m ≠ [] := fun e => by rw [e] at h; simp at h
      simp only [if_neg h1']
    · have h := of_decide_eq_false h
      have h1' : m = [] := List.length_eq_zero_iff.1 (by omega)
      simp only [if_pos h1']
  · cases h
theorem ok_ref2_Abs (args : List AV) (s : Spec) (h : rAbs args = some s) (hp : andO s.pre True) : Contract Tryd.prog Inv 45 args s.res := by
  unfold rAbs at h
  split at h
  · cases h
    refine contract0 true ok_tab15 Tryd.func45 (by kernel_rfl) (by kernel_rfl) fun hok => ?_
    rw [vc_ref2_Abs]
  · cases h
theorem ok_law2_lent (args : List AV) (s : Spec) (h : lLent args = some s) (hp : andO s.pre True) : Contract Tryd.prog Inv 13 args s.res := by
  unfold lLent at h
  split at h
  · cases h
    have hp := hp.1
    refine contract0 false ok_tab15 Tryd.func13 (by kernel_rfl) (by kernel_rfl) fun hok => ?_
    rw [vc_law2_lent]
    exact ⟨⟨by omega, by omega⟩, rfl⟩
  · cases h
theorem near_step {i n : Int} {s : Bool} {m : List Nat} {e : Int} {P R : Prop} (hi : 0 ≤ i ∧ i < n) (hf : Dy.nearD ⟨s, m, e⟩ = false → P) (hr : Dy.nearD ⟨s, m, e⟩ = true → R) :
    (0 ≤ i ∧ i < n) ∧ bif decide ((m.length : Int) > 100) then P else (0 ≤ i ∧ i < n) ∧ bif decide (e < -3000) then P else (0 ≤ i ∧ i < n) ∧ bif decide (e > 3000) then P else (0 ≤ i ∧ i < n) ∧ bif !Dy.mayD ⟨s, m, e⟩ then P else R := by
  unfold Dy.nearD at hf hr
  simp only at hf hr
  refine ⟨hi, cond_i (fun h => hf ?_) fun h => ⟨hi, cond_i (fun h1 => hf ?_) fun h1 => ⟨hi, cond_i (fun h2 => hf ?_) fun h2 => ⟨hi, cond_i (fun h3 => hf ?_) fun h3 => hr ?_⟩⟩⟩⟩
  · have h := of_decide_eq_true h
    rw [decide_eq_false (by omega), Bool.false_and]
  · have h1 := of_decide_eq_true h1
    rw [decide_eq_false (by omega), Bool.false_and]
  · have h2 := of_decide_eq_true h2
    rw [decide_eq_false (by omega), Bool.false_and]
  · simp only [Bool.not_eq_true'] at h3
    rw [h3, Bool.and_false]
  · have h := of_decide_eq_false h
    have h1 := of_decide_eq_false h1
    have h2 := of_decide_eq_false h2
    simp only [Bool.not_eq_false'] at h3
    rw [h3, decide_eq_true (by omega), Bool.and_self]
theorem ok_law2_near (args : List AV) (s : Spec) (h : lNear args = some s) (hp : andO s.pre True) : Contract Tryd.prog Inv 28 args s.res := by
  have w1 : IntKind.i64.wrap ((0 : Int) + 1) = 1 := rfl
  have w2 : IntKind.i64.wrap ((1 : Int) + 1) = 2 := rfl
  have w3 : IntKind.i64.wrap ((2 : Int) + 1) = 3 := rfl
  unfold lNear at h
  split at h
  · cases h
    refine contract_at false _ (lam [(2, .unroll 4)]) ok_tab15 Tryd.func28 (by kernel_rfl) rfl (loops1u (k := 4) (by kernel_rfl) (by kernel_rfl)) fun hok => ?_
    rw [vc_law2_near1]
    simp only [List.length_cons, List.length_nil, w1]
    exact cond_t (by simp) (near_step (by simp) (fun h => by rw [h]) fun h => cond_f (by simp) (by rw [h]))
  · cases h
    refine contract_at false _ (lam [(2, .unroll 4)]) ok_tab15 Tryd.func28 (by kernel_rfl) rfl (loops1u (k := 4) (by kernel_rfl) (by kernel_rfl)) fun hok => ?_
    rw [vc_law2_near2]
    simp only [List.length_cons, List.length_nil, w1, w2]
    exact cond_t (by simp) (near_step (by simp) (fun h => by rw [h]; rfl) fun h => cond_t (by simp) (near_step (by simp) (fun h1 => by rw [h, h1]; rfl) fun h1 => cond_f (by simp) (by rw [h, h1]; rfl)))
  · cases h
    refine contract_at false _ (lam [(2, .unroll 4)]) ok_tab15 Tryd.func28 (by kernel_rfl) rfl (loops1u (k := 4) (by kernel_rfl) (by kernel_rfl)) fun hok => ?_
    rw [vc_law2_near3]
    simp only [List.length_cons, List.length_nil, w1, w2, w3]
    exact cond_t (by simp) (near_step (by simp) (fun h => by rw [h]; rfl) fun h => cond_t (by simp) (near_step (by simp) (fun h1 => by rw [h, h1]; rfl) fun h1 => cond_t (by simp) (near_step (by simp) (fun h2 => by rw [h, h1, h2]; rfl) fun h2 => cond_f (by simp) (by rw [h, h1, h2]; rfl))))
  · cases h
theorem ok_tab16 : PhiOk Tryd.prog Inv (look tab16) :=
  look_cons (look_cons (look_cons (look_cons (look_cons (look_cons (look_cons (look_cons (look_cons ok_tab15 ok_law2_near) ok_law2_lent) ok_ref2_Abs) ok_ref2_Neg) ok_ref2_Top) ok_ref2_Sign) ok_ref2_Form) ok_ref2_May) ok_ref2_Same
theorem ok_ref2_Int (args : List AV) (s : Spec) (h : dInt args = some s) (hp : andO s.pre True) : Contract Tryd.prog Inv 25 args s.res := by
  unfold dInt at h
  split at h
  · cases h
    rename_i n
    refine contract0 false ok_tab16 Tryd.func25 (by kernel_rfl) (by kernel_rfl) fun hok => ?_
    have hn := range_i64 (oks1_num hok).1
    rw [vc_ref2_Int, wrap_u64, wrap_u64]
    unfold Dy.intD Dy.formZ
    have hlen : (Dy.dg n.natAbs).length ≤ 1048576 := Dy.length_dg_bl.2 (by have := (Dy.bl_le (n := n.natAbs) (k := 64)).2 (by omega); omega)
    refine cond_i (fun h => ?_) (fun h => ?_)
    · have h := of_decide_eq_true h
      rw [show ((0 - n % 18446744073709551616) % 18446744073709551616).toNat = n.natAbs by omega, Dy.val_dg]
      refine ⟨⟨rfl, hlen, by omega, by omega⟩, ?_⟩
      rintro _ rfl _ rfl _ rfl
      rfl
    · have h := of_decide_eq_false h
      rw [show (n % 18446744073709551616).toNat = n.natAbs by omega, Dy.val_dg]
      refine ⟨⟨rfl, hlen, by omega, by omega⟩, ?_⟩
      rintro _ rfl _ rfl _ rfl
      rfl
  · cases h
theorem neg64' {N : Nat} (h : (N : Int) ≤ 9223372036854775808) : IntKind.i64.wrap (0 - IntKind.i64.wrap (N : Int)) = -(N : Int) := by
  simp [IntKind.wrap, IntKind.signed, IntKind.bits]
  omega
theorem ok_ref2_Int64 (args : List AV) (s : Spec) (h : rInt64 args = some s) (hp : andO s.pre True) : Contract Tryd.prog Inv 27 args s.res := by
  unfold rInt64 at h
  split at h
  · cases h
    rename_i s m e
    have hd := hp.1
    refine contract0 false ok_tab16 Tryd.func27 (by kernel_rfl) (by kernel_rfl) fun hok => ?_
    have hm := Dy.mayD_may hd
    have hl := Dy.may_len hm
    have hx := Dy.mayD_exp hd
    have hb := Dy.may_bl hm
    rw [vc_ref2_Int64]
    unfold Dy.int64D
    rw [hd, Bool.true_and]
    refine cond_i (fun h => ?_) (fun h => cond_i (fun h1 => ?_) (fun h1 => ⟨⟨Dy.may_dg hm, by omega, by omega, by omega⟩, cond_i (fun h2 => ?_) (fun h2 => ?_)⟩))
    · have h := List.length_eq_zero_iff.1 (Int.ofNat_eq_zero.1 (of_decide_eq_true h))
      subst h
      obtain ⟨rfl, rfl⟩ := Dy.mayD_nil hd
      rfl
    · have h1 := of_decide_eq_true h1
      simp only [decide_eq_false (show ¬ 0 ≤ e by omega), Bool.false_and, Bool.false_eq_true, if_false]
    · have h2 := of_decide_eq_true h2
      simp only [decide_eq_false (show ¬ Dy.topD ⟨s, m, e⟩ ≤ 64 by omega), Bool.and_false, Bool.false_and, Bool.false_eq_true, if_false]
    · have h := of_decide_eq_false h
      have h1 := of_decide_eq_false h1
      have h2 := of_decide_eq_false h2
      have hm0 : m ≠ [] := fun e => h (by rw [e]; rfl)
      have hv := Dy.val_ne hm hm0
      obtain ⟨e, rfl⟩ := Int.eq_ofNat_of_zero_le (show 0 ≤ e by omega)
      have htop : Dy.topD ⟨s, m, (e : Int)⟩ = (e : Int) + Dy.bl (Dy.val m) := by unfold Dy.topD; simp only [if_neg hm0]
      have hN : Dy.val m * 2 ^ e < 18446744073709551616 := Dy.bl_le.1 (by rw [Dy.bl_mul_two_pow hv]; omega : Dy.bl _ ≤ 64)
      have hN0 : 0 < Dy.val m * 2 ^ e := Nat.mul_pos (by omega) (Nat.two_pow_pos e)
      rw [Int.toNat_natCast]
      simp only [decide_eq_true (show (0 : Int) ≤ (e : Int) by omega), decide_eq_true (show Dy.topD ⟨s, m, (e : Int)⟩ ≤ 64 by omega), Bool.true_and]
      rw [Dy.at_mk, show ((e : Int) - 0).toNat = e by omega]
      refine ⟨⟨by omega, by omega, by omega⟩, ?_⟩
      clear htop h2 h1 hb hx
      generalize Dy.val m * 2 ^ e = N at *
      have hlen : (Dy.dg N).length ≤ 2 := Dy.length_dg_le.2 (by omega)
      have hpos : 0 < (Dy.dg N).length := Dy.dg_ne_nil (by omega)
      have g0 := Dy.getD_val (Dy.digs_dg N) 0
      have g1 := Dy.getD_val (Dy.digs_dg N) 1
      rw [Dy.val_dg] at g0 g1
      have u0 : IntKind.u64.wrap (((Dy.dg N).getD 0 0 : Nat) : Int) = ((N % 4294967296 : Nat) : Int) := by
        rw [g0, wrap_u64]; simp only [Nat.mul_zero, Nat.pow_zero, Nat.div_one]; omega
      refine ⟨⟨by omega, by omega⟩, cond_i (fun h3 => ?_) (fun h3 => ?_)⟩
      · have h3 := of_decide_eq_true h3
        have u1 : IntKind.u64.wrap (IntKind.u64.wrap (((Dy.dg N).getD 1 0 : Nat) : Int) * 2 ^ 32) = ((N / 4294967296 * 4294967296 : Nat) : Int) := by
          rw [g1, wrap_u64, wrap_u64]; omega
        have u2 : IntKind.u64.wrap (((N % 4294967296 : Nat) : Int) + ((N / 4294967296 * 4294967296 : Nat) : Int)) = (N : Int) := by
          rw [wrap_u64]; omega
        rw [u0, u1, u2]
        refine ⟨⟨by omega, by omega⟩, ?_⟩
        exact int64_end N s _ _ _ rfl (fun h => neg64' h) (fun h => wrap_i64 (by omega) (by omega)) _ rfl
      · have h3 := of_decide_eq_false h3
        have hlt : N < 4294967296 := by
          have := (Dy.length_dg_le (n := N) (k := 1)).1 (by omega)
          omega
        have u2 : ((N % 4294967296 : Nat) : Int) = (N : Int) := by omega
        rw [u0, u2]
        exact int64_end N s _ _ _ rfl (fun h => neg64' h) (fun h => wrap_i64 (by omega) (by omega)) _ rfl
  · cases h
theorem ok_law2_known (args : List AV) (s : Spec) (h : lKnown args = some s) (hp : andO s.pre True) : Contract Tryd.prog Inv 12 args s.res := by
  unfold lKnown at h
  split at h
  · cases h
    refine contract0 false ok_tab16 Tryd.func12 (by kernel_rfl) (by kernel_rfl) fun hok => ?_
    have e1 : Dy.addD ⟨false, [3], -2⟩ ⟨false, [1], -2⟩ = ⟨false, [1], 0⟩ := by kernel_rfl
    have e2 : (Dy.boundIf (Dy.mayD ⟨false, [3], -2⟩ && Dy.mayD ⟨false, [1], -2⟩) ⟨false, [1], 0⟩).2 = 0 := by kernel_rfl
    rw [vc_law2_known, e1, e2]
    rintro _ rfl _ rfl _ rfl _ rfl
    exact cond_t rfl (by rw [show Dy.sameD ⟨false, [1], 0⟩ ⟨false, [1], 0⟩ = true from by kernel_rfl])
  · cases h
theorem ok_tab17 : PhiOk Tryd.prog Inv (look tab17) := look_cons (look_cons (look_cons ok_tab16 ok_law2_known) ok_ref2_Int64) ok_ref2_Int
end Go.AI

namespace Go.Dy
set_option maxRecDepth 100000
set_option linter.unusedVariables false
theorem formZ_at {d : Dyd} {u : Int} (h : mayD d = true) (hu : u ≤ d.exp) : formZ (at_ d u) u = d := by
  obtain ⟨s, m, e⟩ := d
  unfold at_
  simp only at hu ⊢
  rw [formZ_mul, show u + ((e - u).toNat : Int) = e by omega]
  exact formZ_self h
theorem at_zero (u : Int) : at_ zeroD u = 0 := by unfold at_ Dyd.int zeroD; simp [val]
theorem at_form {s : Bool} {n : Nat} {e u : Int} (hu : u ≤ e) : at_ (form s n e) u = sgn s (n * 2 ^ (e - u).toNat) := by
  by_cases c : n = 0
  · subst c
    rw [form_zero, at_zero, Nat.zero_mul, sgn_zero]
  · rw [form_pos c, at_mk, val_dg, show (e + (tz n : Int) - u).toNat = tz n + (e - u).toNat by omega, Nat.pow_add, ← Nat.mul_assoc, Nat.div_mul_cancel (two_tz_dvd n)]
theorem at_formZ {z e u : Int} (hu : u ≤ e) : at_ (formZ z e) u = z * 2 ^ (e - u).toNat := by
  unfold formZ
  rw [at_form hu, ← sgn_mul, ← sgn_natAbs, show (((2 ^ (e - u).toNat : Nat) : Int)) = (2 : Int) ^ (e - u).toNat by simp]
theorem at_formZ_self (z u : Int) : at_ (formZ z u) u = z := by
  rw [at_formZ (Int.le_refl _), show (u - u).toNat = 0 by omega, Int.pow_zero, Int.mul_one]
theorem at_scale (d : Dyd) {u v : Int} (hv : v ≤ u) (hu : u ≤ d.exp) : at_ d v = at_ d u * 2 ^ (u - v).toNat := by
  unfold at_
  rw [Int.mul_assoc, ← Int.pow_add, show (d.exp - v).toNat = (d.exp - u).toNat + (u - v).toNat by omega]
theorem addD_at {a b : Dyd} {u : Int} (ha : u ≤ a.exp) (hb : u ≤ b.exp) : addD a b = formZ (at_ a u + at_ b u) u := by
  unfold addD
  have h1 : u ≤ unit a b := by unfold unit; omega
  have h2 : unit a b ≤ a.exp := by unfold unit; omega
  have h3 : unit a b ≤ b.exp := by unfold unit; omega
  rw [at_scale a h1 h2, at_scale b h1 h3, ← Int.add_mul, formZ_mul, show u + ((unit a b - u).toNat : Int) = unit a b by omega]
theorem at_addD {a b : Dyd} {u : Int} (ha : u ≤ a.exp) (hb : u ≤ b.exp) : at_ (addD a b) u = at_ a u + at_ b u := by rw [addD_at ha hb, at_formZ_self]
theorem at_mulD {a b : Dyd} {u v : Int} (ha : u ≤ a.exp) (hb : v ≤ b.exp) : at_ (mulD a b) (u + v) = at_ a u * at_ b v := by
  obtain ⟨s, m, e⟩ := a
  obtain ⟨s', m', e'⟩ := b
  unfold mulD
  simp only at ha hb ⊢
  rw [at_form (by omega), at_mk, at_mk, show (e + e' - (u + v)).toNat = (e - u).toNat + (e' - v).toNat by omega, Nat.pow_add]
  have hn : val m * val m' * (2 ^ (e - u).toNat * 2 ^ (e' - v).toNat) = (val m * 2 ^ (e - u).toNat) * (val m' * 2 ^ (e' - v).toNat) := by
    rw [Nat.mul_mul_mul_comm]
  rw [hn]
  generalize val m * 2 ^ (e - u).toNat = A
  generalize val m' * 2 ^ (e' - v).toNat = B
  unfold sgn
  cases s <;> cases s' <;> simp [Int.neg_mul, Int.mul_neg]
theorem at_negD {b : Dyd} (u : Int) : at_ (negD b) u = -at_ b u := by
  obtain ⟨s, m, e⟩ := b
  unfold negD
  simp only
  rw [at_mk, at_mk]
  by_cases c : m = []
  · subst c
    simp [val, sgn]
  · unfold sgn
    cases s <;> simp [c]
/-- a number of at most L bits, the exponent of at most E in size -/
structure Fit (d : Dyd) (L E : Nat) : Prop where
  may : mayD d = true
  bits : bl (val d.mag) ≤ L
  lo : -(E : Int) ≤ d.exp
  hi : d.exp ≤ E
theorem Fit.mono {d : Dyd} {L E L' E' : Nat} (h : Fit d L E) (hl : L ≤ L') (he : E ≤ E') : Fit d L' E' := ⟨h.may, Nat.le_trans h.bits hl, by have := h.lo; omega, by have := h.hi; omega⟩
theorem near_fit {d : Dyd} (h : nearD d = true) : Fit d 3200 3000 := by
  unfold nearD at h
  simp only [Bool.and_eq_true, decide_eq_true_eq] at h
  obtain ⟨⟨h1, h2, h3⟩, h4⟩ := h
  refine ⟨h4, ?_, by omega, by omega⟩
  have hm := mayD_may (s := d.neg) (m := d.mag) (e := d.exp) h4
  have := (length_dg_bl (n := val d.mag) (k := 100)).1 (by rw [may_dg hm]; exact h1)
  omega
theorem fit_form {s : Bool} {n : Nat} {e : Int} {L E : Nat} (hb : bl n ≤ L) (h1 : -(E : Int) ≤ e) (h2 : e + bl n ≤ E) (hL : L ≤ 131072) (hE : E ≤ 16777216) : Fit (form s n e) L E ∧ boundD (form s n e) = (form s n e, 0) := by
  have hf : Fit (form s n e) L E := by
    by_cases c : n = 0
    · subst c
      rw [form_zero]
      exact ⟨mayD_zero, by unfold zeroD; simp only [val, bl_zero]; omega, by unfold zeroD; simp only; omega, by unfold zeroD; simp only; omega⟩
    · have ht := tz_lt_bl c
      have hbl : bl (n / 2 ^ tz n) ≤ L := by rw [bl_div_two_pow]; omega
      rw [form_pos c]
      refine ⟨?_, by rw [val_dg]; exact hbl, by simp only; omega, by simp only; omega⟩
      rw [mayD_iff]
      refine ⟨may_dgn.2 (len_bl.2 (by omega)), .inr ⟨fun e => ?_, by rw [val_dg]; exact div_tz_odd c, inside_iff.2 (by omega)⟩⟩
      have := dg_eq_nil.1 e
      have h0 := div_tz_odd c
      omega
  exact ⟨hf, boundD_self hf.may⟩
theorem fit_formZ {z e : Int} {L E : Nat} (hb : bl z.natAbs ≤ L) (h1 : -(E : Int) ≤ e) (h2 : e + bl z.natAbs ≤ E) (hL : L ≤ 131072) (hE : E ≤ 16777216) : Fit (formZ z e) L E ∧ boundD (formZ z e) = (formZ z e, 0) := fit_form hb h1 h2 hL hE
theorem natAbs_sgn (s : Bool) (n : Nat) : (sgn s n).natAbs = n := by unfold sgn; cases s <;> simp
theorem at_bits {d : Dyd} {L E : Nat} (h : Fit d L E) {u : Int} (hu : u ≤ d.exp) : bl (at_ d u).natAbs ≤ L + (d.exp - u).toNat := by
  obtain ⟨s, m, e⟩ := d
  have h1 := h.bits
  simp only at h1 hu ⊢
  rw [at_mk, natAbs_sgn]
  by_cases c : val m = 0
  · rw [c, Nat.zero_mul, bl_zero]; omega
  · rw [bl_mul_two_pow c]; omega
theorem bl_sum {x y : Int} {k : Nat} (hx : bl x.natAbs ≤ k) (hy : bl y.natAbs ≤ k) : bl (x + y).natAbs ≤ k + 1 := by
  have h1 := bl_le.1 hx
  have h2 := bl_le.1 hy
  refine bl_le.2 ?_
  rw [Nat.pow_succ]
  omega
theorem fit_add {a b : Dyd} {L E : Nat} (ha : Fit a L E) (hb : Fit b L E) (hL : L + 2 * E + 1 ≤ 131072) (hE : L + 3 * E + 1 ≤ 16777216) :
    Fit (addD a b) (L + 2 * E + 1) (L + 3 * E + 1) ∧ boundD (addD a b) = (addD a b, 0) := by
  unfold addD
  have a1 := ha.lo
  have a2 := ha.hi
  have b1 := hb.lo
  have b2 := hb.hi
  have u1 : unit a b ≤ a.exp := by unfold unit; omega
  have u2 : unit a b ≤ b.exp := by unfold unit; omega
  have u3 : -(E : Int) ≤ unit a b := by unfold unit; omega
  have k1 := at_bits ha u1
  have k2 := at_bits hb u2
  have k3 := bl_sum (x := at_ a (unit a b)) (y := at_ b (unit a b)) (k := L + 2 * E) (by omega) (by omega)
  exact fit_formZ k3 (by omega) (by omega) hL hE
theorem fit_neg {b : Dyd} {L E : Nat} (h : Fit b L E) : Fit (negD b) L E := by
  obtain ⟨s, m, e⟩ := b
  exact ⟨AI.mayD_neg h.may, h.bits, h.lo, h.hi⟩
theorem fit_mul {a b : Dyd} {L E : Nat} (ha : Fit a L E) (hb : Fit b L E) (hL : 2 * L ≤ 131072) (hE : 2 * E + 2 * L ≤ 16777216) :
    Fit (mulD a b) (2 * L) (2 * E + 2 * L) ∧ boundD (mulD a b) = (mulD a b, 0) := by
  unfold mulD
  have a1 := ha.lo
  have a2 := ha.hi
  have b1 := hb.lo
  have b2 := hb.hi
  have k : bl (val a.mag * val b.mag) ≤ 2 * L := by
    refine bl_le.2 ?_
    rw [show 2 * L = L + L by omega, Nat.pow_add]
    exact Nat.mul_lt_mul'' (bl_le.1 ha.bits) (bl_le.1 hb.bits)
  exact fit_form k (by omega) (by omega) hL hE
theorem fit_inj {a b : Dyd} {L E L' E' : Nat} (ha : Fit a L E) (hb : Fit b L' E') {u : Int} (h1 : u ≤ -(E : Int)) (h2 : u ≤ -(E' : Int)) (h : at_ a u = at_ b u) : a = b := by
  have a1 := ha.lo
  have b1 := hb.lo
  rw [← formZ_at ha.may (show u ≤ a.exp by omega), ← formZ_at hb.may (show u ≤ b.exp by omega), h]
theorem boundIf_add {a b : Dyd} {L E : Nat} (ha : Fit a L E) (hb : Fit b L E) (hL : L + 2 * E + 1 ≤ 131072) (hE : L + 3 * E + 1 ≤ 16777216) : boundIf (mayD a && mayD b) (addD a b) = (addD a b, 0) := by
  unfold boundIf
  rw [ha.may, hb.may, (fit_add ha hb hL hE).2]
  rfl
theorem boundIf_sub {a b : Dyd} {L E : Nat} (ha : Fit a L E) (hb : Fit b L E) (hL : L + 2 * E + 1 ≤ 131072) (hE : L + 3 * E + 1 ≤ 16777216) : boundIf (mayD a && mayD b) (addD a (negD b)) = (addD a (negD b), 0) := by
  unfold boundIf
  rw [ha.may, hb.may, (fit_add ha (fit_neg hb) hL hE).2]
  rfl
theorem boundIf_mul {a b : Dyd} {L E : Nat} (ha : Fit a L E) (hb : Fit b L E) (hL : 2 * L ≤ 131072) (hE : 2 * E + 2 * L ≤ 16777216) : boundIf (mayD a && mayD b) (mulD a b) = (mulD a b, 0) := by
  unfold boundIf
  rw [ha.may, hb.may, (fit_mul ha hb hL hE).2]
  rfl
/-! the ring's laws -/
section
variable {a b c : Dyd} (ha : Fit a 3200 3000) (hb : Fit b 3200 3000) (hc : Fit c 3200 3000)
include ha hb hc
theorem ring_assoc : addD (addD a b) c = addD a (addD b c) := by
  have f1 := (fit_add ha hb (by decide) (by decide)).1
  have f2 := (fit_add hb hc (by decide) (by decide)).1
  have f3 := (fit_add f1 (hc.mono (by decide) (by decide)) (by decide) (by decide)).1
  have f4 := (fit_add (ha.mono (by decide) (by decide)) f2 (by decide) (by decide)).1
  have a1 := ha.lo
  have b1 := hb.lo
  have c1 := hc.lo
  have d1 := f1.lo
  have d2 := f2.lo
  refine fit_inj f3 f4 (u := -100000) (by omega) (by omega) ?_
  rw [at_addD (by omega) (by omega), at_addD (by omega) (by omega), at_addD (by omega) (by omega), at_addD (by omega) (by omega)]
  omega
omit hc in
theorem ring_back : addD (addD a b) (negD b) = a := by
  have f1 := (fit_add ha hb (by decide) (by decide)).1
  have f3 := (fit_add f1 ((fit_neg hb).mono (by decide) (by decide)) (by decide) (by decide)).1
  have a1 := ha.lo
  have b1 := hb.lo
  have n1 := (fit_neg hb).lo
  have d1 := f1.lo
  refine fit_inj f3 ha (u := -100000) (by omega) (by omega) ?_
  rw [at_addD (by omega) (by omega), at_addD (by omega) (by omega), at_negD]
  omega
theorem ring_dist : mulD a (addD b c) = addD (mulD a b) (mulD a c) := by
  have f2 := (fit_add hb hc (by decide) (by decide)).1
  have p1 := (fit_mul ha hb (by decide) (by decide)).1
  have p2 := (fit_mul ha hc (by decide) (by decide)).1
  have f3 := (fit_mul (ha.mono (by decide) (by decide)) f2 (by decide) (by decide)).1
  have f4 := (fit_add p1 p2 (by decide) (by decide)).1
  have a1 := ha.lo
  have b1 := hb.lo
  have c1 := hc.lo
  have d2 := f2.lo
  have q1 := p1.lo
  have q2 := p2.lo
  refine fit_inj f3 f4 (u := -200000 + -200000) (by omega) (by omega) ?_
  rw [at_mulD (by omega) (by omega), at_addD (by omega) (by omega), at_addD (by omega) (by omega), at_mulD (by omega) (by omega), at_mulD (by omega) (by omega), Int.mul_add]
theorem ring_mul : mulD (mulD a b) c = mulD a (mulD b c) := by
  have p1 := (fit_mul ha hb (by decide) (by decide)).1
  have p2 := (fit_mul hb hc (by decide) (by decide)).1
  have f3 := (fit_mul p1 (hc.mono (by decide) (by decide)) (by decide) (by decide)).1
  have f4 := (fit_mul (ha.mono (by decide) (by decide)) p2 (by decide) (by decide)).1
  have a1 := ha.lo
  have b1 := hb.lo
  have c1 := hc.lo
  have q1 := p1.lo
  have q2 := p2.lo
  refine fit_inj f3 f4 (u := (-50000 + -50000) + -50000) (by omega) (by omega) ?_
  rw [at_mulD (by omega) (by omega), show (-50000 + -50000 + -50000 : Int) = -50000 + (-50000 + -50000) by omega, at_mulD (by omega) (by omega), at_mulD (by omega) (by omega), at_mulD (by omega) (by omega), Int.mul_assoc]
end
theorem mulD_comm (a b : Dyd) : mulD a b = mulD b a := by
  unfold mulD
  rw [Nat.mul_comm, Int.add_comm]
  have : (a.neg != b.neg) = (b.neg != a.neg) := by cases a.neg <;> cases b.neg <;> rfl
  rw [this]
/-! the order's laws -/
theorem cmpZ_mul (a b : Int) (k : Nat) : cmpZ (a * 2 ^ k) (b * 2 ^ k) = cmpZ a b := by
  have hp : (0 : Int) < 2 ^ k := Int.pow_pos (by decide)
  unfold cmpZ
  by_cases h1 : a < b
  · rw [if_pos h1, if_pos (Int.mul_lt_mul_of_pos_right h1 hp)]
  · by_cases h2 : b < a
    · have := Int.mul_lt_mul_of_pos_right h2 hp
      rw [if_neg h1, if_pos h2, if_neg (by omega), if_pos this]
    · have : a = b := by omega
      subst this
      simp
theorem cmpD_at {a b : Dyd} {u : Int} (ha : u ≤ a.exp) (hb : u ≤ b.exp) : cmpD a b = cmpZ (at_ a u) (at_ b u) := by
  unfold cmpD
  have h1 : u ≤ unit a b := by unfold unit; omega
  have h2 : unit a b ≤ a.exp := by unfold unit; omega
  have h3 : unit a b ≤ b.exp := by unfold unit; omega
  rw [at_scale a h1 h2, at_scale b h1 h3, cmpZ_mul]
theorem signD_at {d : Dyd} {u : Int} (hd : mayD d = true) (hu : u ≤ d.exp) : signD d = cmpZ (at_ d u) 0 := by
  obtain ⟨s, m, e⟩ := d
  rw [at_mk]
  unfold signD
  simp only
  by_cases c : m = []
  · subst c
    simp [val, sgn, cmpZ]
  · have hv := val_ne (mayD_may hd) c
    have hp := Nat.two_pow_pos (e - u).toNat
    have : 0 < val m * 2 ^ (e - u).toNat := Nat.mul_pos (by omega) hp
    generalize val m * 2 ^ (e - u).toNat = A at *
    simp only [if_neg c]
    unfold sgn
    cases s
    · simp only [Bool.false_eq_true, if_false]
      exact (cmpZ_gt (by omega)).symm
    · simp only [if_true]
      exact (cmpZ_lt (by omega)).symm
end Go.Dy

namespace Go.AI
open Go Go.RowKit Go.Proofs
set_option linter.unusedVariables false
set_option maxRecDepth 100000
set_option maxHeartbeats 0
theorem vc_law2_DyadInts (n : Int) (s : Bool) (m : List
  Nat) (e : Int) (Q : AV →
  Prop) : (evF Tryd.prog (look tab17) (lam []) false Tryd.f4
  [AV.num IntKind.i64 n, AV.agg [AV.bool s, AV.dig [(2 : Nat)] m, AV.num IntKind.i64 e]] Q) =
  (bif decide ((↑m.length : Int) > (4100 : Int)) then
  bif decide ((↑m.length : Int) > (4100 : Int)) then Q (AV.bool true) else Q (AV.bool false)
 else
  ∀ (b1 : Bool),
  b1 = (Dy.intD n).neg →
  ∀ (l2 : List Nat),
  l2 = (Dy.intD n).mag →
  ∀ (n3 : Int),
  n3 = (Dy.intD n).exp →
  ∀ (b4 : Bool),
  b4 = (Dy.intD n).neg →
  ∀ (l5 : List Nat),
  l5 = (Dy.intD n).mag →
  ∀ (n6 : Int),
  n6 = (Dy.intD n).exp →
  bif !Dy.sameD (Dy.Dyd.mk b1 l2 n3) (Dy.Dyd.mk b4 l5 n6) then
  bif decide ((↑m.length : Int) > (4100 : Int)) then Q (AV.bool true) else Q (AV.bool false)
  else
  m.length ≤ (1048576 : Nat) ∧
  ∀ (b7 : Bool),
  b7 = s →
  ∀ (l8 : List Nat),
  l8 = m →
  ∀ (n9 : Int),
  n9 = e →
  ∀ (n10 : Int),
  n10 = (Dy.int64D (Dy.Dyd.mk b7 l8 n9)).fst →
  ∀ (b11 : Bool),
  b11 = (Dy.int64D (Dy.Dyd.mk b7 l8 n9)).snd →
  bif Dy.mayD (Dy.Dyd.mk s m e) then
  Dy.mayD (Dy.Dyd.mk s m e) = true ∧
  ∀ (n12 : Int),
  n12 = (Dy.int64D (Dy.Dyd.mk s m e)).fst →
  ∀ (b13 : Bool),
  b13 = (Dy.int64D (Dy.Dyd.mk s m e)).snd →
  bif decide (b11 = b13) then
  bif decide (n10 = n12) then Q (AV.bool true)
  else Q (AV.bool false)
  else Q (AV.bool false)
  else
  bif decide (b11 = false) then
  bif decide (n10 = (0 : Int)) then Q (AV.bool true)
  else Q (AV.bool false)
  else Q (AV.bool false)) := by kernel_rfl
theorem vc_law2_DyadRing (s : Bool) (s' : Bool) (s2 : Bool) (m : List
  Nat) (m' : List
  Nat) (m2 : List
  Nat) (e : Int) (e' : Int) (e2 : Int) (Q : AV →
  Prop) : (evF Tryd.prog (look tab17) (lam []) false Tryd.f5
  [AV.agg [AV.bool s, AV.dig [(1 : Nat)] m, AV.num IntKind.i64 e],
  AV.agg [AV.bool s', AV.dig [(2 : Nat)] m', AV.num IntKind.i64 e'],
  AV.agg [AV.bool s2, AV.dig [(3 : Nat)] m2, AV.num IntKind.i64 e2]]
  Q) =
  (bif !(Dy.nearD (Dy.Dyd.mk s m e) && (Dy.nearD (Dy.Dyd.mk s' m' e') && Dy.nearD (Dy.Dyd.mk s2 m2 e2))) then
  Q (AV.bool true)
 else
  ∀ (b1 : Bool),
  b1 =
  (Dy.boundIf (Dy.mayD (Dy.Dyd.mk s m e) && Dy.mayD (Dy.Dyd.mk s' m' e'))
  (Dy.addD (Dy.Dyd.mk s m e) (Dy.Dyd.mk s' m' e'))).1.neg →
  ∀ (l2 : List Nat),
  l2 =
  (Dy.boundIf (Dy.mayD (Dy.Dyd.mk s m e) && Dy.mayD (Dy.Dyd.mk s' m' e'))
  (Dy.addD (Dy.Dyd.mk s m e) (Dy.Dyd.mk s' m' e'))).1.mag →
  ∀ (n3 : Int),
  n3 =
  (Dy.boundIf (Dy.mayD (Dy.Dyd.mk s m e) && Dy.mayD (Dy.Dyd.mk s' m' e'))
  (Dy.addD (Dy.Dyd.mk s m e) (Dy.Dyd.mk s' m' e'))).1.exp →
  ∀ (n4 : Int),
  n4 =
  (Dy.boundIf (Dy.mayD (Dy.Dyd.mk s m e) && Dy.mayD (Dy.Dyd.mk s' m' e'))
  (Dy.addD (Dy.Dyd.mk s m e) (Dy.Dyd.mk s' m' e'))).snd →
  ∀ (b5 : Bool),
  b5 =
  (Dy.boundIf (Dy.mayD (Dy.Dyd.mk s' m' e') && Dy.mayD (Dy.Dyd.mk s m e))
  (Dy.addD (Dy.Dyd.mk s' m' e') (Dy.Dyd.mk s m e))).1.neg →
  ∀ (l6 : List Nat),
  l6 =
  (Dy.boundIf (Dy.mayD (Dy.Dyd.mk s' m' e') && Dy.mayD (Dy.Dyd.mk s m e))
  (Dy.addD (Dy.Dyd.mk s' m' e') (Dy.Dyd.mk s m e))).1.mag →
  ∀ (n7 : Int),
  n7 =
  (Dy.boundIf (Dy.mayD (Dy.Dyd.mk s' m' e') && Dy.mayD (Dy.Dyd.mk s m e))
  (Dy.addD (Dy.Dyd.mk s' m' e') (Dy.Dyd.mk s m e))).1.exp →
  ∀ (n8 : Int),
  n8 =
  (Dy.boundIf (Dy.mayD (Dy.Dyd.mk s' m' e') && Dy.mayD (Dy.Dyd.mk s m e))
  (Dy.addD (Dy.Dyd.mk s' m' e') (Dy.Dyd.mk s m e))).snd →
  ∀ (b9 : Bool),
  b9 =
  (Dy.boundIf (Dy.mayD (Dy.Dyd.mk s' m' e') && Dy.mayD (Dy.Dyd.mk s2 m2 e2))
  (Dy.addD (Dy.Dyd.mk s' m' e') (Dy.Dyd.mk s2 m2 e2))).1.neg →
  ∀ (l10 : List Nat),
  l10 =
  (Dy.boundIf (Dy.mayD (Dy.Dyd.mk s' m' e') && Dy.mayD (Dy.Dyd.mk s2 m2 e2))
  (Dy.addD (Dy.Dyd.mk s' m' e') (Dy.Dyd.mk s2 m2 e2))).1.mag →
  ∀ (n11 : Int),
  n11 =
  (Dy.boundIf
  (Dy.mayD (Dy.Dyd.mk s' m' e') && Dy.mayD (Dy.Dyd.mk s2 m2 e2))
  (Dy.addD (Dy.Dyd.mk s' m' e') (Dy.Dyd.mk s2 m2 e2))).1.exp →
  ∀ (n12 : Int),
  n12 =
  (Dy.boundIf
  (Dy.mayD (Dy.Dyd.mk s' m' e') && Dy.mayD (Dy.Dyd.mk s2 m2 e2))
  (Dy.addD (Dy.Dyd.mk s' m' e') (Dy.Dyd.mk s2 m2 e2))).snd →
  ∀ (b13 : Bool),
  b13 =
  (Dy.boundIf
  (Dy.mayD (Dy.Dyd.mk b1 l2 n3) &&
  Dy.mayD (Dy.Dyd.mk s2 m2 e2))
  (Dy.addD (Dy.Dyd.mk b1 l2 n3)
  (Dy.Dyd.mk s2 m2 e2))).1.neg →
  ∀ (l14 : List Nat),
  l14 =
  (Dy.boundIf
  (Dy.mayD (Dy.Dyd.mk b1 l2 n3) &&
  Dy.mayD (Dy.Dyd.mk s2 m2 e2))
  (Dy.addD (Dy.Dyd.mk b1 l2 n3)
  (Dy.Dyd.mk s2 m2 e2))).1.mag →
  ∀ (n15 : Int),
  n15 =
  (Dy.boundIf
  (Dy.mayD (Dy.Dyd.mk b1 l2 n3) &&
  Dy.mayD (Dy.Dyd.mk s2 m2 e2))
  (Dy.addD (Dy.Dyd.mk b1 l2 n3)
  (Dy.Dyd.mk s2 m2 e2))).1.exp →
  ∀ (n16 : Int),
  n16 =
  (Dy.boundIf
  (Dy.mayD (Dy.Dyd.mk b1 l2 n3) &&
  Dy.mayD (Dy.Dyd.mk s2 m2 e2))
  (Dy.addD (Dy.Dyd.mk b1 l2 n3)
  (Dy.Dyd.mk s2 m2 e2))).snd →
  ∀ (b17 : Bool),
  b17 =
  (Dy.boundIf
  (Dy.mayD (Dy.Dyd.mk s m e) &&
  Dy.mayD (Dy.Dyd.mk b9 l10 n11))
  (Dy.addD (Dy.Dyd.mk s m e)
  (Dy.Dyd.mk b9 l10 n11))).1.neg →
  ∀ (l18 : List Nat),
  l18 =
  (Dy.boundIf
  (Dy.mayD (Dy.Dyd.mk s m e) &&
  Dy.mayD (Dy.Dyd.mk b9 l10 n11))
  (Dy.addD (Dy.Dyd.mk s m e)
  (Dy.Dyd.mk b9 l10 n11))).1.mag →
  ∀ (n19 : Int),
  n19 =
  (Dy.boundIf
  (Dy.mayD (Dy.Dyd.mk s m e) &&
  Dy.mayD (Dy.Dyd.mk b9 l10 n11))
  (Dy.addD (Dy.Dyd.mk s m e)
  (Dy.Dyd.mk b9 l10 n11))).1.exp →
  ∀ (n20 : Int),
  n20 =
  (Dy.boundIf
  (Dy.mayD (Dy.Dyd.mk s m e) &&
  Dy.mayD
  (Dy.Dyd.mk b9 l10 n11))
  (Dy.addD (Dy.Dyd.mk s m e)
  (Dy.Dyd.mk b9 l10 n11))).snd →
  ∀ (b21 : Bool),
  b21 =
  (Dy.boundIf
  (Dy.mayD
  (Dy.Dyd.mk b1 l2
  n3) &&
  Dy.mayD
  (Dy.Dyd.mk s' m' e'))
  (Dy.addD
  (Dy.Dyd.mk b1 l2 n3)
  (Dy.negD
  (Dy.Dyd.mk s' m'
  e')))).1.neg →
  ∀ (l22 : List Nat),
  l22 =
  (Dy.boundIf
  (Dy.mayD
  (Dy.Dyd.mk b1 l2
  n3) &&
  Dy.mayD
  (Dy.Dyd.mk s' m'
  e'))
  (Dy.addD
  (Dy.Dyd.mk b1 l2 n3)
  (Dy.negD
  (Dy.Dyd.mk s' m'
  e')))).1.mag →
  ∀ (n23 : Int),
  n23 =
  (Dy.boundIf
  (Dy.mayD
  (Dy.Dyd.mk b1
  l2 n3) &&
  Dy.mayD
  (Dy.Dyd.mk s'
  m' e'))
  (Dy.addD
  (Dy.Dyd.mk b1 l2
  n3)
  (Dy.negD
  (Dy.Dyd.mk s'
  m'
  e')))).1.exp →
  ∀ (n24 : Int),
  n24 =
  (Dy.boundIf
  (Dy.mayD
  (Dy.Dyd.mk
  b1 l2
  n3) &&
  Dy.mayD
  (Dy.Dyd.mk
  s' m' e'))
  (Dy.addD
  (Dy.Dyd.mk b1
  l2 n3)
  (Dy.negD
  (Dy.Dyd.mk
  s' m'
  e')))).snd →
  bif
  !decide
  (n4 =
  (0 :
  Int)) then
  Q (AV.bool false)
  else
  bif
  !decide
  (n8 =
  (0 :
  Int)) then
  Q (AV.bool false)
  else
  bif
  !decide
  (n12 =
  (0 :
  Int)) then
  Q
  (AV.bool
  false)
  else
  bif
  !decide
  (n16 =
  (0 :
  Int)) then
  Q
  (AV.bool
  false)
  else
  bif
  !decide
  (n20 =
  (0 :
  Int)) then
  Q
  (AV.bool
  false)
  else
  bif
  !decide
  (n24 =
  (0 :
  Int)) then
  Q
  (AV.bool
  false)
  else
  bif
  !Dy.sameD
  (Dy.Dyd.mk
  b1
  l2
  n3)
  (Dy.Dyd.mk
  b5
  l6
  n7) then
  Q
  (AV.bool
  false)
  else
  bif
  !Dy.sameD
  (Dy.Dyd.mk
  b13
  l14
  n15)
  (Dy.Dyd.mk
  b17
  l18
  n19) then
  Q
  (AV.bool
  false)
  else
  bif
  !Dy.sameD
  (Dy.Dyd.mk
  b21
  l22
  n23)
  (Dy.Dyd.mk
  s
  m
  e) then
  Q
  (AV.bool
  false)
  else
  ∀
  (b25 :
  Bool),
  b25 =
  (Dy.boundIf
  (Dy.mayD
  (Dy.Dyd.mk
  s
  m
  e) &&
  Dy.mayD
  (Dy.Dyd.mk
  s'
  m'
  e'))
  (Dy.mulD
  (Dy.Dyd.mk
  s
  m
  e)
  (Dy.Dyd.mk
  s'
  m'
  e'))).1.neg →
  ∀
  (l26 :
  List
  Nat),
  l26 =
  (Dy.boundIf
  (Dy.mayD
  (Dy.Dyd.mk
  s
  m
  e) &&
  Dy.mayD
  (Dy.Dyd.mk
  s'
  m'
  e'))
  (Dy.mulD
  (Dy.Dyd.mk
  s
  m
  e)
  (Dy.Dyd.mk
  s'
  m'
  e'))).1.mag →
  ∀
  (n27 :
  Int),
  n27 =
  (Dy.boundIf
  (Dy.mayD
  (Dy.Dyd.mk
  s
  m
  e) &&
  Dy.mayD
  (Dy.Dyd.mk
  s'
  m'
  e'))
  (Dy.mulD
  (Dy.Dyd.mk
  s
  m
  e)
  (Dy.Dyd.mk
  s'
  m'
  e'))).1.exp →
  ∀
  (n28 :
  Int),
  n28 =
  (Dy.boundIf
  (Dy.mayD
  (Dy.Dyd.mk
  s
  m
  e) &&
  Dy.mayD
  (Dy.Dyd.mk
  s'
  m'
  e'))
  (Dy.mulD
  (Dy.Dyd.mk
  s
  m
  e)
  (Dy.Dyd.mk
  s'
  m'
  e'))).snd →
  ∀
  (b29 :
  Bool),
  b29 =
  (Dy.boundIf
  (Dy.mayD
  (Dy.Dyd.mk
  s'
  m'
  e') &&
  Dy.mayD
  (Dy.Dyd.mk
  s
  m
  e))
  (Dy.mulD
  (Dy.Dyd.mk
  s'
  m'
  e')
  (Dy.Dyd.mk
  s
  m
  e))).1.neg →
  ∀
  (l30 :
  List
  Nat),
  l30 =
  (Dy.boundIf
  (Dy.mayD
  (Dy.Dyd.mk
  s'
  m'
  e') &&
  Dy.mayD
  (Dy.Dyd.mk
  s
  m
  e))
  (Dy.mulD
  (Dy.Dyd.mk
  s'
  m'
  e')
  (Dy.Dyd.mk
  s
  m
  e))).1.mag →
  ∀
  (n31 :
  Int),
  n31 =
  (Dy.boundIf
  (Dy.mayD
  (Dy.Dyd.mk
  s'
  m'
  e') &&
  Dy.mayD
  (Dy.Dyd.mk
  s
  m
  e))
  (Dy.mulD
  (Dy.Dyd.mk
  s'
  m'
  e')
  (Dy.Dyd.mk
  s
  m
  e))).1.exp →
  ∀
  (n32 :
  Int),
  n32 =
  (Dy.boundIf
  (Dy.mayD
  (Dy.Dyd.mk
  s'
  m'
  e') &&
  Dy.mayD
  (Dy.Dyd.mk
  s
  m
  e))
  (Dy.mulD
  (Dy.Dyd.mk
  s'
  m'
  e')
  (Dy.Dyd.mk
  s
  m
  e))).snd →
  ∀
  (b33 :
  Bool),
  b33 =
  (Dy.boundIf
  (Dy.mayD
  (Dy.Dyd.mk
  s
  m
  e) &&
  Dy.mayD
  (Dy.Dyd.mk
  s2
  m2
  e2))
  (Dy.mulD
  (Dy.Dyd.mk
  s
  m
  e)
  (Dy.Dyd.mk
  s2
  m2
  e2))).1.neg →
  ∀
  (l34 :
  List
  Nat),
  l34 =
  (Dy.boundIf
  (Dy.mayD
  (Dy.Dyd.mk
  s
  m
  e) &&
  Dy.mayD
  (Dy.Dyd.mk
  s2
  m2
  e2))
  (Dy.mulD
  (Dy.Dyd.mk
  s
  m
  e)
  (Dy.Dyd.mk
  s2
  m2
  e2))).1.mag →
  ∀
  (n35 :
  Int),
  n35 =
  (Dy.boundIf
  (Dy.mayD
  (Dy.Dyd.mk
  s
  m
  e) &&
  Dy.mayD
  (Dy.Dyd.mk
  s2
  m2
  e2))
  (Dy.mulD
  (Dy.Dyd.mk
  s
  m
  e)
  (Dy.Dyd.mk
  s2
  m2
  e2))).1.exp →
  ∀
  (n36 :
  Int),
  n36 =
  (Dy.boundIf
  (Dy.mayD
  (Dy.Dyd.mk
  s
  m
  e) &&
  Dy.mayD
  (Dy.Dyd.mk
  s2
  m2
  e2))
  (Dy.mulD
  (Dy.Dyd.mk
  s
  m
  e)
  (Dy.Dyd.mk
  s2
  m2
  e2))).snd →
  ∀
  (b37 :
  Bool),
  b37 =
  (Dy.boundIf
  (Dy.mayD
  (Dy.Dyd.mk
  s
  m
  e) &&
  Dy.mayD
  (Dy.Dyd.mk
  b9
  l10
  n11))
  (Dy.mulD
  (Dy.Dyd.mk
  s
  m
  e)
  (Dy.Dyd.mk
  b9
  l10
  n11))).1.neg →
  ∀
  (l38 :
  List
  Nat),
  l38 =
  (Dy.boundIf
  (Dy.mayD
  (Dy.Dyd.mk
  s
  m
  e) &&
  Dy.mayD
  (Dy.Dyd.mk
  b9
  l10
  n11))
  (Dy.mulD
  (Dy.Dyd.mk
  s
  m
  e)
  (Dy.Dyd.mk
  b9
  l10
  n11))).1.mag →
  ∀
  (n39 :
  Int),
  n39 =
  (Dy.boundIf
  (Dy.mayD
  (Dy.Dyd.mk
  s
  m
  e) &&
  Dy.mayD
  (Dy.Dyd.mk
  b9
  l10
  n11))
  (Dy.mulD
  (Dy.Dyd.mk
  s
  m
  e)
  (Dy.Dyd.mk
  b9
  l10
  n11))).1.exp →
  ∀
  (n40 :
  Int),
  n40 =
  (Dy.boundIf
  (Dy.mayD
  (Dy.Dyd.mk
  s
  m
  e) &&
  Dy.mayD
  (Dy.Dyd.mk
  b9
  l10
  n11))
  (Dy.mulD
  (Dy.Dyd.mk
  s
  m
  e)
  (Dy.Dyd.mk
  b9
  l10
  n11))).snd →
  ∀
  (b41 :
  Bool),
  b41 =
  (Dy.boundIf
  (Dy.mayD
  (Dy.Dyd.mk
  b25
  l26
  n27) &&
  Dy.mayD
  (Dy.Dyd.mk
  b33
  l34
  n35))
  (Dy.addD
  (Dy.Dyd.mk
  b25
  l26
  n27)
  (Dy.Dyd.mk
  b33
  l34
  n35))).1.neg →
  ∀
  (l42 :
  List
  Nat),
  l42 =
  (Dy.boundIf
  (Dy.mayD
  (Dy.Dyd.mk
  b25
  l26
  n27) &&
  Dy.mayD
  (Dy.Dyd.mk
  b33
  l34
  n35))
  (Dy.addD
  (Dy.Dyd.mk
  b25
  l26
  n27)
  (Dy.Dyd.mk
  b33
  l34
  n35))).1.mag →
  ∀
  (n43 :
  Int),
  n43 =
  (Dy.boundIf
  (Dy.mayD
  (Dy.Dyd.mk
  b25
  l26
  n27) &&
  Dy.mayD
  (Dy.Dyd.mk
  b33
  l34
  n35))
  (Dy.addD
  (Dy.Dyd.mk
  b25
  l26
  n27)
  (Dy.Dyd.mk
  b33
  l34
  n35))).1.exp →
  ∀
  (n44 :
  Int),
  n44 =
  (Dy.boundIf
  (Dy.mayD
  (Dy.Dyd.mk
  b25
  l26
  n27) &&
  Dy.mayD
  (Dy.Dyd.mk
  b33
  l34
  n35))
  (Dy.addD
  (Dy.Dyd.mk
  b25
  l26
  n27)
  (Dy.Dyd.mk
  b33
  l34
  n35))).snd →
  ∀
  (b45 :
  Bool),
  b45 =
  (Dy.boundIf
  (Dy.mayD
  (Dy.Dyd.mk
  b25
  l26
  n27) &&
  Dy.mayD
  (Dy.Dyd.mk
  s2
  m2
  e2))
  (Dy.mulD
  (Dy.Dyd.mk
  b25
  l26
  n27)
  (Dy.Dyd.mk
  s2
  m2
  e2))).1.neg →
  ∀
  (l46 :
  List
  Nat),
  l46 =
  (Dy.boundIf
  (Dy.mayD
  (Dy.Dyd.mk
  b25
  l26
  n27) &&
  Dy.mayD
  (Dy.Dyd.mk
  s2
  m2
  e2))
  (Dy.mulD
  (Dy.Dyd.mk
  b25
  l26
  n27)
  (Dy.Dyd.mk
  s2
  m2
  e2))).1.mag →
  ∀
  (n47 :
  Int),
  n47 =
  (Dy.boundIf
  (Dy.mayD
  (Dy.Dyd.mk
  b25
  l26
  n27) &&
  Dy.mayD
  (Dy.Dyd.mk
  s2
  m2
  e2))
  (Dy.mulD
  (Dy.Dyd.mk
  b25
  l26
  n27)
  (Dy.Dyd.mk
  s2
  m2
  e2))).1.exp →
  ∀
  (n48 :
  Int),
  n48 =
  (Dy.boundIf
  (Dy.mayD
  (Dy.Dyd.mk
  b25
  l26
  n27) &&
  Dy.mayD
  (Dy.Dyd.mk
  s2
  m2
  e2))
  (Dy.mulD
  (Dy.Dyd.mk
  b25
  l26
  n27)
  (Dy.Dyd.mk
  s2
  m2
  e2))).snd →
  ∀
  (b49 :
  Bool),
  b49 =
  (Dy.boundIf
  (Dy.mayD
  (Dy.Dyd.mk
  s'
  m'
  e') &&
  Dy.mayD
  (Dy.Dyd.mk
  s2
  m2
  e2))
  (Dy.mulD
  (Dy.Dyd.mk
  s'
  m'
  e')
  (Dy.Dyd.mk
  s2
  m2
  e2))).1.neg →
  ∀
  (l50 :
  List
  Nat),
  l50 =
  (Dy.boundIf
  (Dy.mayD
  (Dy.Dyd.mk
  s'
  m'
  e') &&
  Dy.mayD
  (Dy.Dyd.mk
  s2
  m2
  e2))
  (Dy.mulD
  (Dy.Dyd.mk
  s'
  m'
  e')
  (Dy.Dyd.mk
  s2
  m2
  e2))).1.mag →
  ∀
  (n51 :
  Int),
  n51 =
  (Dy.boundIf
  (Dy.mayD
  (Dy.Dyd.mk
  s'
  m'
  e') &&
  Dy.mayD
  (Dy.Dyd.mk
  s2
  m2
  e2))
  (Dy.mulD
  (Dy.Dyd.mk
  s'
  m'
  e')
  (Dy.Dyd.mk
  s2
  m2
  e2))).1.exp →
  ∀
  (n52 :
  Int),
  n52 =
  (Dy.boundIf
  (Dy.mayD
  (Dy.Dyd.mk
  s'
  m'
  e') &&
  Dy.mayD
  (Dy.Dyd.mk
  s2
  m2
  e2))
  (Dy.mulD
  (Dy.Dyd.mk
  s'
  m'
  e')
  (Dy.Dyd.mk
  s2
  m2
  e2))).snd →
  ∀
  (b53 :
  Bool),
  b53 =
  (Dy.boundIf
  (Dy.mayD
  (Dy.Dyd.mk
  s
  m
  e) &&
  Dy.mayD
  (Dy.Dyd.mk
  b49
  l50
  n51))
  (Dy.mulD
  (Dy.Dyd.mk
  s
  m
  e)
  (Dy.Dyd.mk
  b49
  l50
  n51))).1.neg →
  ∀
  (l54 :
  List
  Nat),
  l54 =
  (Dy.boundIf
  (Dy.mayD
  (Dy.Dyd.mk
  s
  m
  e) &&
  Dy.mayD
  (Dy.Dyd.mk
  b49
  l50
  n51))
  (Dy.mulD
  (Dy.Dyd.mk
  s
  m
  e)
  (Dy.Dyd.mk
  b49
  l50
  n51))).1.mag →
  ∀
  (n55 :
  Int),
  n55 =
  (Dy.boundIf
  (Dy.mayD
  (Dy.Dyd.mk
  s
  m
  e) &&
  Dy.mayD
  (Dy.Dyd.mk
  b49
  l50
  n51))
  (Dy.mulD
  (Dy.Dyd.mk
  s
  m
  e)
  (Dy.Dyd.mk
  b49
  l50
  n51))).1.exp →
  ∀
  (n56 :
  Int),
  n56 =
  (Dy.boundIf
  (Dy.mayD
  (Dy.Dyd.mk
  s
  m
  e) &&
  Dy.mayD
  (Dy.Dyd.mk
  b49
  l50
  n51))
  (Dy.mulD
  (Dy.Dyd.mk
  s
  m
  e)
  (Dy.Dyd.mk
  b49
  l50
  n51))).snd →
  bif
  decide
  (n28 =
  (0 :
  Int)) then
  bif
  decide
  (n32 =
  (0 :
  Int)) then
  bif
  decide
  (n36 =
  (0 :
  Int)) then
  bif
  decide
  (n40 =
  (0 :
  Int)) then
  bif
  decide
  (n44 =
  (0 :
  Int)) then
  bif
  decide
  (n48 =
  (0 :
  Int)) then
  bif
  decide
  (n52 =
  (0 :
  Int)) then
  bif
  decide
  (n56 =
  (0 :
  Int)) then
  bif
  Dy.sameD
  (Dy.Dyd.mk
  b25
  l26
  n27)
  (Dy.Dyd.mk
  b29
  l30
  n31) then
  bif
  Dy.sameD
  (Dy.Dyd.mk
  b37
  l38
  n39)
  (Dy.Dyd.mk
  b41
  l42
  n43) then
  bif
  Dy.sameD
  (Dy.Dyd.mk
  b45
  l46
  n47)
  (Dy.Dyd.mk
  b53
  l54
  n55) then
  Q
  (AV.bool
  true)
  else
  Q
  (AV.bool
  false)
  else
  Q
  (AV.bool
  false)
  else
  Q
  (AV.bool
  false)
  else
  Q
  (AV.bool
  false)
  else
  Q
  (AV.bool
  false)
  else
  Q
  (AV.bool
  false)
  else
  Q
  (AV.bool
  false)
  else
  Q
  (AV.bool
  false)
  else
  Q
  (AV.bool
  false)
  else
  Q
  (AV.bool
  false)
  else
  Q
  (AV.bool
  false)) := by kernel_rfl
theorem vc_law2_DyadOrder (s : Bool) (s' : Bool) (s2 : Bool) (m : List
  Nat) (m' : List
  Nat) (m2 : List
  Nat) (e : Int) (e' : Int) (e2 : Int) (Q : AV →
  Prop) : (evF Tryd.prog (look tab17) (lam []) false Tryd.f7
  [AV.agg [AV.bool s, AV.dig [(1 : Nat)] m, AV.num IntKind.i64 e],
  AV.agg [AV.bool s', AV.dig [(2 : Nat)] m', AV.num IntKind.i64 e'],
  AV.agg [AV.bool s2, AV.dig [(3 : Nat)] m2, AV.num IntKind.i64 e2]]
  Q) =
  (bif !(Dy.nearD (Dy.Dyd.mk s m e) && (Dy.nearD (Dy.Dyd.mk s' m' e') && Dy.nearD (Dy.Dyd.mk s2 m2 e2))) then
  Q (AV.bool true)
 else
  ∀ (b1 : Bool),
  b1 =
  (Dy.boundIf (Dy.mayD (Dy.Dyd.mk s m e) && Dy.mayD (Dy.Dyd.mk s' m' e'))
  (Dy.addD (Dy.Dyd.mk s m e) (Dy.negD (Dy.Dyd.mk s' m' e')))).1.neg →
  ∀ (l2 : List Nat),
  l2 =
  (Dy.boundIf (Dy.mayD (Dy.Dyd.mk s m e) && Dy.mayD (Dy.Dyd.mk s' m' e'))
  (Dy.addD (Dy.Dyd.mk s m e) (Dy.negD (Dy.Dyd.mk s' m' e')))).1.mag →
  ∀ (n3 : Int),
  n3 =
  (Dy.boundIf (Dy.mayD (Dy.Dyd.mk s m e) && Dy.mayD (Dy.Dyd.mk s' m' e'))
  (Dy.addD (Dy.Dyd.mk s m e) (Dy.negD (Dy.Dyd.mk s' m' e')))).1.exp →
  ∀ (n4 : Int),
  n4 =
  (Dy.boundIf (Dy.mayD (Dy.Dyd.mk s m e) && Dy.mayD (Dy.Dyd.mk s' m' e'))
  (Dy.addD (Dy.Dyd.mk s m e) (Dy.negD (Dy.Dyd.mk s' m' e')))).snd →
  ∀ (n5 : Int),
  (n5 =
  if (Dy.mayD (Dy.Dyd.mk s m e) && Dy.mayD (Dy.Dyd.mk s' m' e')) = true then
  Dy.cmpD (Dy.Dyd.mk s m e) (Dy.Dyd.mk s' m' e')
  else (0 : Int)) →
  ∀ (n6 : Int),
  (n6 =
  if (Dy.mayD (Dy.Dyd.mk s m e) && Dy.mayD (Dy.Dyd.mk s' m' e')) = true then (0 : Int)
  else (2 : Int)) →
  ∀ (n7 : Int),
  (n7 =
  if (Dy.mayD (Dy.Dyd.mk s' m' e') && Dy.mayD (Dy.Dyd.mk s m e)) = true then
  Dy.cmpD (Dy.Dyd.mk s' m' e') (Dy.Dyd.mk s m e)
  else (0 : Int)) →
  ∀ (n8 : Int),
  (n8 =
  if (Dy.mayD (Dy.Dyd.mk s' m' e') && Dy.mayD (Dy.Dyd.mk s m e)) = true then (0 : Int)
  else (2 : Int)) →
  ∀ (n9 : Int),
  (n9 =
  if (Dy.mayD (Dy.Dyd.mk s' m' e') && Dy.mayD (Dy.Dyd.mk s2 m2 e2)) = true then
  Dy.cmpD (Dy.Dyd.mk s' m' e') (Dy.Dyd.mk s2 m2 e2)
  else (0 : Int)) →
  ∀ (n10 : Int),
  (n10 =
  if
  (Dy.mayD (Dy.Dyd.mk s' m' e') && Dy.mayD (Dy.Dyd.mk s2 m2 e2)) =
  true then
  (0 : Int)
  else (2 : Int)) →
  ∀ (n11 : Int),
  (n11 =
  if
  (Dy.mayD (Dy.Dyd.mk s m e) && Dy.mayD (Dy.Dyd.mk s2 m2 e2)) =
  true then
  Dy.cmpD (Dy.Dyd.mk s m e) (Dy.Dyd.mk s2 m2 e2)
  else (0 : Int)) →
  ∀ (n12 : Int),
  (n12 =
  if
  (Dy.mayD (Dy.Dyd.mk s m e) && Dy.mayD (Dy.Dyd.mk s2 m2 e2)) =
  true then
  (0 : Int)
  else (2 : Int)) →
  bif !decide (n4 = (0 : Int)) then Q (AV.bool false)
  else
  bif !decide (n6 = (0 : Int)) then Q (AV.bool false)
  else
  bif !decide (n8 = (0 : Int)) then Q (AV.bool false)
  else
  bif !decide (n10 = (0 : Int)) then Q (AV.bool false)
  else
  bif !decide (n12 = (0 : Int)) then Q (AV.bool false)
  else
  bif
  !decide
  (n5 =
  if Dy.mayD (Dy.Dyd.mk b1 l2 n3) = true then
  Dy.signD (Dy.Dyd.mk b1 l2 n3)
  else (0 : Int)) then
  Q (AV.bool false)
  else
  bif !decide (n7 = IntKind.i64.wrap ((0 : Int) - n5)) then
  Q (AV.bool false)
  else
  bif decide (n5 < (-1 : Int)) then Q (AV.bool false)
  else
  bif decide (n5 > (1 : Int)) then Q (AV.bool false)
  else
  bif decide (n5 ≤ (0 : Int)) then
  bif decide (n9 ≤ (0 : Int)) then
  bif decide (n11 > (0 : Int)) then
  Q (AV.bool false)
  else
  bif decide (n5 < (0 : Int)) then
  bif decide (n9 ≤ (0 : Int)) then
  bif decide (n11 ≥ (0 : Int)) then
  Q (AV.bool false)
  else
  bif
  decide
  (decide (n5 = (0 : Int)) =
  Dy.sameD (Dy.Dyd.mk s m e)
  (Dy.Dyd.mk s' m' e')) then
  Q (AV.bool true)
  else Q (AV.bool false)
  else
  bif
  decide
  (decide (n5 = (0 : Int)) =
  Dy.sameD (Dy.Dyd.mk s m e)
  (Dy.Dyd.mk s' m' e')) then
  Q (AV.bool true)
  else Q (AV.bool false)
  else
  bif
  decide
  (decide (n5 = (0 : Int)) =
  Dy.sameD (Dy.Dyd.mk s m e)
  (Dy.Dyd.mk s' m' e')) then
  Q (AV.bool true)
  else Q (AV.bool false)
  else
  bif decide (n5 < (0 : Int)) then
  bif decide (n9 ≤ (0 : Int)) then
  bif decide (n11 ≥ (0 : Int)) then
  Q (AV.bool false)
  else
  bif
  decide
  (decide (n5 = (0 : Int)) =
  Dy.sameD (Dy.Dyd.mk s m e)
  (Dy.Dyd.mk s' m' e')) then
  Q (AV.bool true)
  else Q (AV.bool false)
  else
  bif
  decide
  (decide (n5 = (0 : Int)) =
  Dy.sameD (Dy.Dyd.mk s m e)
  (Dy.Dyd.mk s' m' e')) then
  Q (AV.bool true)
  else Q (AV.bool false)
  else
  bif
  decide
  (decide (n5 = (0 : Int)) =
  Dy.sameD (Dy.Dyd.mk s m e)
  (Dy.Dyd.mk s' m' e')) then
  Q (AV.bool true)
  else Q (AV.bool false)
  else
  bif decide (n5 < (0 : Int)) then
  bif decide (n9 ≤ (0 : Int)) then
  bif decide (n11 ≥ (0 : Int)) then
  Q (AV.bool false)
  else
  bif
  decide
  (decide (n5 = (0 : Int)) =
  Dy.sameD (Dy.Dyd.mk s m e)
  (Dy.Dyd.mk s' m' e')) then
  Q (AV.bool true)
  else Q (AV.bool false)
  else
  bif
  decide
  (decide (n5 = (0 : Int)) =
  Dy.sameD (Dy.Dyd.mk s m e)
  (Dy.Dyd.mk s' m' e')) then
  Q (AV.bool true)
  else Q (AV.bool false)
  else
  bif
  decide
  (decide (n5 = (0 : Int)) =
  Dy.sameD (Dy.Dyd.mk s m e)
  (Dy.Dyd.mk s' m' e')) then
  Q (AV.bool true)
  else Q (AV.bool false)) := by kernel_rfl
end Go.AI

namespace Go.AI
open Go Go.RowKit Go.Proofs
set_option linter.unusedVariables false
set_option maxRecDepth 100000
theorem sameD_self (d : Dy.Dyd) : Dy.sameD d d = true := Dy.sameD_iff.2 rfl
theorem ok_law_DyadInts (n : Int) (s : Bool) (m : List Nat) (e : Int) : Contract Tryd.prog Inv 4 [.num .i64 n, .agg [.bool s, .dig [2] m, .num .i64 e]] (.bool true) := by
  refine contract0 false ok_tab17 Tryd.func4 (by kernel_rfl) (by kernel_rfl) fun hok => ?_
  rw [vc_law2_DyadInts]
  refine cond_i (fun h => cond_t h rfl) (fun h => ?_)
  have h' := of_decide_eq_false h
  rintro _ rfl _ rfl _ rfl _ rfl _ rfl _ rfl
  refine cond_f (by rw [sameD_self]; rfl) ⟨by omega, ?_⟩
  rintro _ rfl _ rfl _ rfl _ rfl _ rfl
  refine cond_i (fun h1 => ⟨h1, ?_⟩) (fun h1 => ?_)
  · rintro _ rfl _ rfl
    exact cond_t (decide_eq_true rfl) (cond_t (decide_eq_true rfl) rfl)
  · unfold Dy.int64D
    rw [h1]
    exact cond_t (decide_eq_true rfl) (cond_t (decide_eq_true rfl) rfl)
end Go.AI

namespace Go.AI
open Go Go.RowKit Go.Proofs
set_option linter.unusedVariables false
set_option maxRecDepth 100000
theorem same_self (d : Dy.Dyd) : Dy.sameD d d = true := Dy.sameD_iff.2 rfl
/-- what a call yielded, under one name -/
theorem peel {x : Dy.Dyd × Int} {d0 : Dy.Dyd} {k0 : Int} (hx : x = (d0, k0)) {P : Bool → List Nat → Int → Int → Prop} (h : ∀ b l n, Dy.Dyd.mk b l n = d0 → P b l n k0) :
    ∀ b, b = x.1.neg → ∀ l, l = x.1.mag → ∀ n, n = x.1.exp → ∀ k, k = x.2 → P b l n k := by
  subst hx
  rintro _ rfl _ rfl _ rfl _ rfl
  exact h _ _ _ rfl
theorem peel1 {x k0 : Int} (hx : x = k0) {P : Int → Prop} (h : P k0) : ∀ k, k = x → P k := by
  subst hx
  rintro _ rfl
  exact h
theorem t0 {p q : Prop} (h : q) : bif !decide ((0 : Int) = 0) then p else q := h
theorem t1 {p q : Prop} (h : p) : bif decide ((0 : Int) = 0) then p else q := h
theorem ok_law_DyadRing (s : Bool) (m : List Nat) (e : Int) (s' : Bool) (m' : List Nat) (e' : Int) (s2 : Bool) (m2 : List Nat) (e2 : Int) :
    Contract Tryd.prog Inv 5 [.agg [.bool s, .dig [1] m, .num .i64 e], .agg [.bool s', .dig [2] m', .num .i64 e'], .agg [.bool s2, .dig [3] m2, .num .i64 e2]] (.bool true) := by
  refine contract0 false ok_tab17 Tryd.func5 (by kernel_rfl) (by kernel_rfl) fun hok => ?_
  rw [vc_law2_DyadRing]
  refine cond_i (fun h => rfl) (fun h => ?_)
  simp only [Bool.not_eq_false', Bool.and_eq_true] at h
  obtain ⟨n1, n2, n3⟩ := h
  have fa := Dy.near_fit n1
  have fb := Dy.near_fit n2
  have fc := Dy.near_fit n3
  generalize Dy.Dyd.mk s m e = a at *
  generalize Dy.Dyd.mk s' m' e' = b at *
  generalize Dy.Dyd.mk s2 m2 e2 = c at *
  have fab := (Dy.fit_add fa fb (by decide) (by decide)).1
  have fbc := (Dy.fit_add fb fc (by decide) (by decide)).1
  refine peel (Dy.boundIf_add fa fb (by decide) (by decide)) fun _ _ _ h1 => ?_
  refine peel (Dy.boundIf_add fb fa (by decide) (by decide)) fun _ _ _ h2 => ?_
  refine peel (Dy.boundIf_add fb fc (by decide) (by decide)) fun _ _ _ h3 => ?_
  rw [h1, h2, h3]
  refine peel (Dy.boundIf_add fab (fc.mono (by decide) (by decide)) (by decide) (by decide)) fun _ _ _ h4 => ?_
  refine peel (Dy.boundIf_add (fa.mono (by decide) (by decide)) fbc (by decide) (by decide)) fun _ _ _ h5 => ?_
  refine peel (Dy.boundIf_sub fab (fb.mono (by decide) (by decide)) (by decide) (by decide)) fun _ _ _ h6 => ?_
  rw [h4, h5, h6]
  refine t0 (t0 (t0 (t0 (t0 (t0 (cond_f (by rw [Dy.addD_comm b a, same_self]; rfl) (cond_f (by rw [Dy.ring_assoc fa fb fc, same_self]; rfl) (cond_f (by rw [Dy.ring_back fa fb, same_self]; rfl) ?_))))))))
  have pab := (Dy.fit_mul fa fb (by decide) (by decide)).1
  have pac := (Dy.fit_mul fa fc (by decide) (by decide)).1
  have pbc := (Dy.fit_mul fb fc (by decide) (by decide)).1
  refine peel (Dy.boundIf_mul fa fb (by decide) (by decide)) fun _ _ _ g1 => ?_
  refine peel (Dy.boundIf_mul fb fa (by decide) (by decide)) fun _ _ _ g2 => ?_
  refine peel (Dy.boundIf_mul fa fc (by decide) (by decide)) fun _ _ _ g3 => ?_
  refine peel (Dy.boundIf_mul (fa.mono (by decide) (by decide)) fbc (by decide) (by decide)) fun _ _ _ g4 => ?_
  rw [g1, g2, g3, g4]
  refine peel (Dy.boundIf_add pab pac (by decide) (by decide)) fun _ _ _ g5 => ?_
  refine peel (Dy.boundIf_mul pab (fc.mono (by decide) (by decide)) (by decide) (by decide)) fun _ _ _ g6 => ?_
  refine peel (Dy.boundIf_mul fb fc (by decide) (by decide)) fun _ _ _ g7 => ?_
  rw [g5, g6, g7]
  refine peel (Dy.boundIf_mul (fa.mono (by decide) (by decide)) pbc (by decide) (by decide)) fun _ _ _ g8 => ?_
  rw [g8]
  exact t1 (t1 (t1 (t1 (t1 (t1 (t1 (t1 (cond_t (by rw [Dy.mulD_comm b a, same_self]) (cond_t (by rw [Dy.ring_dist fa fb fc, same_self]) (cond_t (by rw [Dy.ring_mul fa fb fc, same_self]) rfl))))))))))
theorem cmpZ_spec (a b : Int) : (a < b ∧ Dy.cmpZ a b = -1) ∨ (a = b ∧ Dy.cmpZ a b = 0) ∨ (b < a ∧ Dy.cmpZ a b = 1) := by
  unfold Dy.cmpZ
  by_cases h1 : a < b
  · exact .inl ⟨h1, if_pos h1⟩
  · by_cases h2 : b < a
    · exact .inr (.inr ⟨h2, by rw [if_neg h1, if_pos h2]⟩)
    · exact .inr (.inl ⟨by omega, by rw [if_neg h1, if_neg h2]⟩)
theorem cmp_chain (X Y Z : Int) : (Dy.cmpZ X Y ≤ 0 → Dy.cmpZ Y Z ≤ 0 → Dy.cmpZ X Z ≤ 0) ∧ (Dy.cmpZ X Y < 0 → Dy.cmpZ Y Z ≤ 0 → Dy.cmpZ X Z < 0) ∧ Dy.cmpZ Y X = -Dy.cmpZ X Y ∧ (Dy.cmpZ X Y = 0 ↔ X = Y) ∧ Dy.cmpZ (X + -Y) 0 = Dy.cmpZ X Y := by
  have h1 := cmpZ_spec X Y
  have h2 := cmpZ_spec Y Z
  have h3 := cmpZ_spec X Z
  have h4 := cmpZ_spec Y X
  have h5 := cmpZ_spec (X + -Y) 0
  omega
theorem ok_law_DyadOrder (s : Bool) (m : List Nat) (e : Int) (s' : Bool) (m' : List Nat) (e' : Int) (s2 : Bool) (m2 : List Nat) (e2 : Int) :
    Contract Tryd.prog Inv 7 [.agg [.bool s, .dig [1] m, .num .i64 e], .agg [.bool s', .dig [2] m', .num .i64 e'], .agg [.bool s2, .dig [3] m2, .num .i64 e2]] (.bool true) := by
  refine contract0 false ok_tab17 Tryd.func7 (by kernel_rfl) (by kernel_rfl) fun hok => ?_
  rw [vc_law2_DyadOrder]
  refine cond_i (fun h => rfl) (fun h => ?_)
  simp only [Bool.not_eq_false', Bool.and_eq_true] at h
  obtain ⟨n1, n2, n3⟩ := h
  have fa := Dy.near_fit n1
  have fb := Dy.near_fit n2
  have fc := Dy.near_fit n3
  generalize Dy.Dyd.mk s m e = a at *
  generalize Dy.Dyd.mk s' m' e' = b at *
  generalize Dy.Dyd.mk s2 m2 e2 = c at *
  have fd := (Dy.fit_add fa (Dy.fit_neg fb) (by decide) (by decide)).1
  refine peel (Dy.boundIf_sub fa fb (by decide) (by decide)) fun _ _ _ h1 => ?_
  have a1 := fa.lo
  have b1 := fb.lo
  have c1 := fc.lo
  have d1 := fd.lo
  have nb := (Dy.fit_neg fb).lo
  rw [h1, fa.may, fb.may, fc.may, fd.may]
  simp only [Bool.and_self, if_true]
  rw [Dy.cmpD_at (a := a) (b := b) (u := -20000) (by omega) (by omega), Dy.cmpD_at (a := b) (b := a) (u := -20000) (by omega) (by omega), Dy.cmpD_at (a := b) (b := c) (u := -20000) (by omega) (by omega), Dy.cmpD_at (a := a) (b := c) (u := -20000) (by omega) (by omega),
    Dy.signD_at fd.may (u := -20000) (by omega), Dy.at_addD (by omega) (by omega), Dy.at_negD]
  have hsame : Dy.sameD a b = decide (Dy.cmpZ (Dy.at_ a (-20000)) (Dy.at_ b (-20000)) = 0) := by
    rw [Bool.eq_iff_iff, Dy.sameD_iff, decide_eq_true_eq, (cmp_chain _ _ 0).2.2.2.1]
    constructor
    · intro h; rw [h]
    · intro h; exact Dy.fit_inj fa fb (by omega) (by omega) h
  rw [hsame]
  obtain ⟨k1, k2, k3, _, k5⟩ := cmp_chain (Dy.at_ a (-20000)) (Dy.at_ b (-20000)) (Dy.at_ c (-20000))
  rw [k5, k3]
  have q1 := Dy.cmpZ_vals (Dy.at_ a (-20000)) (Dy.at_ b (-20000))
  have q2 := Dy.cmpZ_vals (Dy.at_ b (-20000)) (Dy.at_ c (-20000))
  have q3 := Dy.cmpZ_vals (Dy.at_ a (-20000)) (Dy.at_ c (-20000))
  clear hsame k5 k3
  generalize Dy.cmpZ (Dy.at_ a (-20000)) (Dy.at_ b (-20000)) = p at *
  generalize Dy.cmpZ (Dy.at_ b (-20000)) (Dy.at_ c (-20000)) = q at *
  generalize Dy.cmpZ (Dy.at_ a (-20000)) (Dy.at_ c (-20000)) = r at *
  rintro _ rfl _ rfl _ rfl _ rfl _ rfl _ rfl _ rfl _ rfl
  rcases q1 with rfl | rfl | rfl <;> rcases q2 with rfl | rfl | rfl <;> rcases q3 with rfl | rfl | rfl <;> first | (exfalso; omega) | exact trivial
end Go.AI

namespace Go.AI
open Go Go.RowKit Go.Proofs Go.ChangeShapes Go.WideShapes Go.ChangeAt
set_option linter.unusedVariables false
set_option maxRecDepth 100000
theorem rowOwn : ownKnob Tryd.prog.godebug = none := by kernel_rfl
theorem rowOut : laidOutB Tryd.prog = true := by kernel_rfl
theorem gTab : Tryd.prog.globalNamed "math/bits.deBruijn32tab" = some 0 := by kernel_rfl
/-- the one listed variable, as the rows list it -/
abbrev tabLaid : List (String × DataW Unit) := [("math/bits.deBruijn32tab", YtnhbdcnnanfacaaDoor.Rows.laid_math_bits_deBruijn32tab)]
theorem tab_eq : (YtnhbdcnnanfacaaDoor.Rows.laid_math_bits_deBruijn32tab : DataW Unit) = Lib.tabData .u8 (Lib.deBruijn32tab.map fun (x : Nat) => (x : Int)) := by rfl
theorem inv_of_laid {W : World} (h : laidMetH Tryd.prog tabLaid W) : Inv W := by
  rw [MakeChecks.laidMetH_plain _ _ _ (by kernel_rfl)] at h
  unfold tabLaid at h
  rw [tab_eq] at h
  have hT := Lib.tabIs_of_head (rest := []) gTab (by kernel_rfl : (Tryd.prog.globals[0]?).map (·.type) = some 102) Tryd.underlying102 Tryd.underlying5 (by kernel_rfl) (by kernel_rfl) h
  intro j hj
  have := hT.cell gTab j (by rw [List.length_map, show Lib.deBruijn32tab.length = 32 from rfl]; exact hj)
  rw [this]
  have hl : j < Lib.deBruijn32tab.length := hj
  simp [List.getD_eq_getElem?_getD, hl]
/-- all memory that there is -/
abbrev allβ (W : World) : Nat → Nat → Prop := fun _ x => x < W.heap.size
theorem weights_part {H : Type} {P : Program} {ts : List TypeId} {ds : List (DataW H)} (h : (DataW.weightsEach P ts ds).all (· ≤ reachBytes) = true) {j : Nat} {t : TypeId} {d : DataW H} (ht : ts[j]? = some t) (hd : ds[j]? = some d) {n : Nat} (hn : n ∈ d.weights P t) : n ≤ reachBytes := by
  have := List.all_eq_true.1 h n (DataW.weights_mem_each ht hd n hn)
  simpa using this
/-- a number, as a row hands it in -/
theorem open_num {H : Type} {enc : TypeId × Value → H} {W : World} {b0 na : Nat} {t : TypeId} {k : IntKind} {v : Value} {d : DataW H} {ps : List MemPlace} (hu : Tryd.prog.underlying t = some (.int k)) (hval : Value.okWide Tryd.prog W .any b0 t v) (hd : DataW.Trod enc Tryd.prog W 0 (fun _ => true) true t v d ps) :
    ∃ n, V ⟨argBs na, allβ W, W⟩ (.num k n) v := by
  obtain ⟨n, rfl, _, _, hw⟩ := open_int hu hval hd
  refine ⟨n, ?_⟩
  simp only [V]
  simp only [Lit.wf, Bool.and_eq_true, decide_eq_true_eq] at hw
  exact ⟨trivial, hw⟩
theorem dyTypes : Tryd.prog.cellTypes Tryd.prog.depth 24 = some [4, 22, 3] := by kernel_rfl
theorem dyCells : Tryd.prog.cellsOf 24 = 3 := by kernel_rfl
theorem oneBool : Tryd.prog.cellsOf 4 = 1 := by kernel_rfl
theorem oneSlice : Tryd.prog.cellsOf 22 = 1 := by kernel_rfl
theorem oneU32 : Tryd.prog.cellsOf 63 = 1 := by kernel_rfl
theorem bytesU32 : Tryd.prog.bytesOf 63 = 4 := by kernel_rfl
/-- a dyadic number, as a row hands it in -/
theorem open_dy {H : Type} {enc : TypeId × Value → H} {W : World} {b0 na : Nat} {v : Value} {d : DataW H} {ps : List MemPlace} {ts : List TypeId} {ds : List (DataW H)} (i : Nat) (hi : i ≤ na) (hval : Value.okWide Tryd.prog W .any b0 24 v)
    (hd : DataW.Trod enc Tryd.prog W 0 (fun _ => true) true 24 v d ps) (hsz : (DataW.weightsEach Tryd.prog ts ds).all (· ≤ reachBytes) = true) {j : Nat} (ht : ts[j]? = some 24) (hdj : ds[j]? = some d) :
    ∃ s l e, V ⟨argBs na, allβ W, W⟩ (.agg [.bool s, .dig [i] l, .num .i64 e]) v := by
  simp only [Value.okWide, Tryd.underlying24] at hval
  obtain ⟨cs, rfl, hcs, ts', hct, _, hrow⟩ := hval
  rw [dyTypes] at hct
  cases hct
  rw [dyCells] at hcs
  obtain ⟨c0, c1, c2, rfl⟩ : ∃ c0 c1 c2, cs = #[c0, c1, c2] := by
    obtain ⟨l⟩ := cs
    match l, hcs with
    | [a, b, c], _ => exact ⟨a, b, c, rfl⟩
  obtain ⟨u0, hu0, k0⟩ := hrow 0 c0 rfl
  obtain ⟨u1, hu1, k1⟩ := hrow 1 c1 rfl
  obtain ⟨u2, hu2, k2⟩ := hrow 2 c2 rfl
  simp at hu0 hu1 hu2
  subst hu0 hu1 hu2
  obtain ⟨fuel, hf⟩ := hd
  obtain ⟨y0, y1, y2, n, hx, _, g0, g1, g2⟩ := Deep.trod_struct3 Tryd.underlying24 hf
  simp only [Value.cells, oneSlice] at g1
  simp only [Prod.mk.injEq] at hx
  obtain ⟨rfl, -⟩ := hx
  have hb : ∃ s, c0 = .bool s := by
    simp only [Cell.okWide, Cell.ok, Tryd.underlying4] at k0
    cases c0 <;> simp at k0
    exact ⟨_, rfl⟩
  have he : ∃ e, c2 = .int .i64 e ∧ IntKind.i64.min ≤ e ∧ e ≤ IntKind.i64.max := by
    simp only [Cell.okWide, Cell.ok, Tryd.underlying3] at k2
    cases c2 <;> simp at k2
    obtain ⟨rfl, h⟩ := k2
    exact ⟨_, rfl, h.1, h.2⟩
  obtain ⟨s, rfl⟩ := hb
  obtain ⟨e, rfl, he⟩ := he
  have g1' : DataW.trod enc Tryd.prog W 0 (fun _ => true) true n 22 [c1] = some y1 := g1
  have hborn : Ctx.born ⟨argBs na, allβ W, W⟩ [i] := fun j hj => by
    simp at hj; subst hj
    show argBs na j ≠ _
    unfold argBs
    rw [if_pos hi]
    simp
  rcases open_ints Tryd.underlying22 Tryd.underlying63 oneU32 g1' with ⟨hc, _⟩ | ⟨a, len, cap, zs, hc, _, hlen, hcap, hzl, hy, hcell, hwf⟩
  · cases hc
    refine ⟨s, [], e, ?_⟩
    simp only [V]
    refine ⟨[.bool s, .slice none 0 0, .int .i64 e], rfl, ?_⟩
    simp only [Vs, V]
    exact ⟨trivial, ⟨hborn, ⟨by simp, by simp⟩, none, 0, rfl, fun _ => .inl ⟨rfl, rfl⟩⟩, ⟨trivial, he⟩, trivial⟩
  · cases hc
    simp only [if_true] at hzl
    have hspot : a.spot = none ∧ ∃ cells T fr, W.heap[a.block]? = some (.cells cells T fr) := by
      simp only [Cell.okWide, Cell.ok, Tryd.underlying22] at k1
      obtain ⟨_, _, h3⟩ := k1
      unfold World.has at h3
      obtain ⟨_, h4, row, cells, h5, _⟩ := h3
      refine ⟨h4, ?_⟩
      unfold World.shape? at h5
      split at h5
      · rename_i c el fr hh
        exact ⟨c, el, fr, hh⟩
      · cases h5
    obtain ⟨hsp, cells, T, fr, hheap⟩ := hspot
    obtain ⟨b, off, sp⟩ := a
    simp only at hsp hheap
    subst hsp
    have hwz : ∀ z ∈ zs, 0 ≤ z ∧ z < 4294967296 := fun z hz => by
      have := hwf z hz
      simp only [Lit.wf, Bool.and_eq_true, decide_eq_true_eq] at this
      exact range_u32 this
    have hll : ((zs.take len).map Int.toNat).length = len := by simp; omega
    refine ⟨s, (zs.take len).map Int.toNat, e, ?_⟩
    simp only [V]
    refine ⟨[.bool s, .slice (some ⟨b, off, none⟩) len cap, .int .i64 e], rfl, ?_⟩
    simp only [Vs, V]
    refine ⟨trivial, ⟨hborn, ⟨?_, fun x hx => ?_⟩, some ⟨b, off, none⟩, cap, by rw [hll], fun _ => .inr ⟨b, off, cells, T, fr, rfl, ⟨i, by simp, ?_⟩, hheap, by omega, fun j x hj => ?_⟩⟩, ⟨trivial, he⟩, trivial⟩
    · rw [hll]
      have hw : (((lits .u32 (zs.take len) : List (DataW H)).length + (lits .u32 (zs.drop len) : List (DataW H)).length) * 4) ≤ reachBytes := by
        refine weights_part hsz ht hdj ?_
        have hy1 := congrArg Prod.fst hy
        simp only at hy1
        simp only [DataW.weights, Tryd.underlying24, DataW.weightsEach, hy1, Tryd.underlying22, bytesU32, List.map_cons, List.map_nil]
        simp
      have := reachBytes_lt
      simp [lits] at hw
      omega
    · simp only [List.mem_map] at hx
      obtain ⟨z, hz, rfl⟩ := hx
      have := hwz z (List.mem_of_mem_take hz)
      omega
    · exact (Array.getElem?_eq_some_iff.1 hheap).1
    · have hjl : j < len := by
        have := (List.getElem?_eq_some_iff.1 hj).1
        omega
      have hc := hcell j (by omega)
      rw [add_none, cell?_of_block hheap] at hc
      rw [hc]
      simp only [List.getElem?_map, List.getElem?_take, if_pos hjl] at hj
      obtain ⟨z, hz, rfl⟩ := Option.map_eq_some_iff.1 hj
      have := hwz z (List.mem_of_getElem? hz)
      simp only [List.getD_eq_getElem?_getD, hz, Option.getD_some]
      congr 2
      omega
end Go.AI

namespace Go.Dy
/-- the greatest whole number that is not above it -/
def floorD (d : Dyd) : Dyd := if 0 ≤ d.exp then d else formZ (d.int / 2 ^ (-d.exp).toNat) 0
/-- a number times 2^n, if that may be -/
def shiftD (d : Dyd) (n : Int) : Dyd × Int :=
  if mayD d then (if d.mag = [] then (zeroD, 0) else if inside (d.exp + n) then (⟨d.neg, d.mag, d.exp + n⟩, 0) else (zeroD, 20)) else (zeroD, 2)
def askD (b : Int) : Int := if b < 1 then 2 else if 8192 < b then 3 else 0
/-- the bits that are too many -/
def overD (d : Dyd) (b : Int) : Int := (bl (val d.mag) : Int) - b
/-- a number without its lowest bits -/
def headD (d : Dyd) (b : Int) : Dyd := form d.neg (val d.mag / 2 ^ (overD d b).toNat) (d.exp + overD d b)
structure Cutd where
  num : Dyd
  lost : Bool
  err : Int
def cutL (d : Dyd) (b : Int) : Cutd := if overD d b ≤ 0 then ⟨d, false, 0⟩ else ⟨(boundD (headD d b)).1, decide ((boundD (headD d b)).2 = 0), (boundD (headD d b)).2⟩
def cutD (d : Dyd) (b : Int) : Cutd := if mayD d then (if askD b = 0 then cutL d b else ⟨zeroD, false, askD b⟩) else ⟨zeroD, false, 2⟩
end Go.Dy
namespace Go.AI
open Go Go.RowKit Go.Proofs
set_option linter.unusedVariables false
def dFloor : List AV → Option Spec
  | [.agg [.bool s, .dig [1] m, .num .i64 e]] => some ⟨none, .tup [avD [0] (Dy.okIf (Dy.mayD ⟨s, m, e⟩) (Dy.floorD ⟨s, m, e⟩)).1, .num .i64 (Dy.okIf (Dy.mayD ⟨s, m, e⟩) (Dy.floorD ⟨s, m, e⟩)).2]⟩
  | _ => none
def dShift : List AV → Option Spec
  | [.agg [.bool s, .dig [1] m, .num .i64 e], .num .i64 n] => some ⟨none, .tup [avD [0] (Dy.shiftD ⟨s, m, e⟩ n).1, .num .i64 (Dy.shiftD ⟨s, m, e⟩ n).2]⟩
  | _ => none
def dAsked : List AV → Option Spec
  | [.num .i64 b] => some ⟨none, .num .i64 (Dy.askD b)⟩
  | _ => none
def dCutL : List AV → Option Spec
  | [.agg [.bool s, .dig [1] m, .num .i64 e], .num .i64 b] => some ⟨some (Dy.mayD ⟨s, m, e⟩ = true ∧ 1 ≤ b),
      .tup [avD [0] (Dy.cutL ⟨s, m, e⟩ b).num, .bool (Dy.cutL ⟨s, m, e⟩ b).lost, .num .i64 (Dy.cutL ⟨s, m, e⟩ b).err]⟩
  | _ => none
def dCut : List AV → Option Spec
  | [.agg [.bool s, .dig [1] m, .num .i64 e], .num .i64 b] => some ⟨none,
      .tup [avD [0] (Dy.cutD ⟨s, m, e⟩ b).num, .bool (Dy.cutD ⟨s, m, e⟩ b).lost, .num .i64 (Dy.cutD ⟨s, m, e⟩ b).err]⟩
  | _ => none
def tab18 : List (Nat × (List AV → Option Spec)) := (33, dFloor) :: (32, dShift) :: (74, dAsked) :: (75, dCutL) :: tab17
def tab19 : List (Nat × (List AV → Option Spec)) := (34, dCut) :: tab18
end Go.AI

namespace Go.AI
open Go Go.RowKit Go.Proofs
set_option linter.unusedVariables false
set_option maxRecDepth 100000
set_option maxHeartbeats 0
theorem vc_dyad_Floor (s : Bool) (m : List
  Nat) (e : Int) (Q : AV →
  Prop) : (evF Tryd.prog (look tab17) (lam []) false Tryd.f33
  [AV.agg [AV.bool s, AV.dig [(1 : Nat)] m, AV.num IntKind.i64 e]] Q) =
  (bif !Dy.mayD (Dy.Dyd.mk s m e) then
  Q (AV.tup [AV.agg [AV.bool false, AV.dig [(0 : Nat)] [], AV.num IntKind.i64 (0 : Int)], AV.num IntKind.i64 (2 : Int)])
 else
  bif decide (e ≥ (0 : Int)) then
  m.length ≤ (1048576 : Nat) ∧
  ∀ (b1 : Bool),
  b1 = s →
  ∀ (l2 : List Nat),
  l2 = m →
  ∀ (n3 : Int),
  n3 = e →
  Q
  (AV.tup
  [AV.agg [AV.bool b1, AV.dig [(0 : Nat)] l2, AV.num IntKind.i64 n3], AV.num IntKind.i64 (0 : Int)])
  else
  ∀ (l4 : List Nat),
  l4 = (Dy.shiftN m e).mag →
  ∀ (b5 : Bool),
  b5 = (Dy.shiftN m e).lost →
  ∀ (n6 : Int),
  n6 = (Dy.shiftN m e).err →
  bif s then
  bif b5 then
  ∀ (l7 : List Nat),
  l7 = (Dy.addR l4 (Dy.dg (1 : Nat))).fst →
  ∀ (n8 : Int),
  n8 = (Dy.addR l4 (Dy.dg (1 : Nat))).snd →
  ∀ (b9 : Bool),
  b9 = (Dy.makeD s l7 (0 : Int)).1.neg →
  ∀ (l10 : List Nat),
  l10 = (Dy.makeD s l7 (0 : Int)).1.mag →
  ∀ (n11 : Int),
  n11 = (Dy.makeD s l7 (0 : Int)).1.exp →
  ∀ (n12 : Int),
  n12 = (Dy.makeD s l7 (0 : Int)).snd →
  Q
  (AV.tup
  [AV.agg [AV.bool b9, AV.dig [(0 : Nat)] l10, AV.num IntKind.i64 n11],
  AV.num IntKind.i64 n12])
  else
  ∀ (b13 : Bool),
  b13 = (Dy.makeD s l4 (0 : Int)).1.neg →
  ∀ (l14 : List Nat),
  l14 = (Dy.makeD s l4 (0 : Int)).1.mag →
  ∀ (n15 : Int),
  n15 = (Dy.makeD s l4 (0 : Int)).1.exp →
  ∀ (n16 : Int),
  n16 = (Dy.makeD s l4 (0 : Int)).snd →
  Q
  (AV.tup
  [AV.agg [AV.bool b13, AV.dig [(0 : Nat)] l14, AV.num IntKind.i64 n15],
  AV.num IntKind.i64 n16])
  else
  ∀ (b17 : Bool),
  b17 = (Dy.makeD s l4 (0 : Int)).1.neg →
  ∀ (l18 : List Nat),
  l18 = (Dy.makeD s l4 (0 : Int)).1.mag →
  ∀ (n19 : Int),
  n19 = (Dy.makeD s l4 (0 : Int)).1.exp →
  ∀ (n20 : Int),
  n20 = (Dy.makeD s l4 (0 : Int)).snd →
  Q
  (AV.tup
  [AV.agg [AV.bool b17, AV.dig [(0 : Nat)] l18, AV.num IntKind.i64 n19],
  AV.num IntKind.i64 n20])) := by kernel_rfl
theorem vc_dyad_Shift (s : Bool) (m : List
  Nat) (e : Int) (n : Int) (Q : AV →
  Prop) : (evF Tryd.prog (look tab17) (lam []) false Tryd.f32
  [AV.agg [AV.bool s, AV.dig [(1 : Nat)] m, AV.num IntKind.i64 e], AV.num IntKind.i64 n] Q) =
  (bif !Dy.mayD (Dy.Dyd.mk s m e) then
  Q (AV.tup [AV.agg [AV.bool false, AV.dig [(0 : Nat)] [], AV.num IntKind.i64 (0 : Int)], AV.num IntKind.i64 (2 : Int)])
 else
  bif decide ((↑m.length : Int) = (0 : Int)) then
  Q
  (AV.tup
  [AV.agg [AV.bool false, AV.dig [(0 : Nat)] [], AV.num IntKind.i64 (0 : Int)], AV.num IntKind.i64 (0 : Int)])
  else
  bif decide (n > IntKind.i64.wrap ((16777216 : Int) - e)) then
  Q
  (AV.tup
  [AV.agg [AV.bool false, AV.dig [(0 : Nat)] [], AV.num IntKind.i64 (0 : Int)], AV.num IntKind.i64 (20 : Int)])
  else
  bif decide (n < IntKind.i64.wrap ((-16777216 : Int) - e)) then
  Q
  (AV.tup
  [AV.agg [AV.bool false, AV.dig [(0 : Nat)] [], AV.num IntKind.i64 (0 : Int)],
  AV.num IntKind.i64 (20 : Int)])
  else
  m.length ≤ (1048576 : Nat) ∧
  ∀ (b1 : Bool),
  b1 = s →
  ∀ (l2 : List Nat),
  l2 = m →
  ∀ (n3 : Int),
  n3 = e →
  Q
  (AV.tup
  [AV.agg [AV.bool b1, AV.dig [(0 : Nat)] l2, AV.num IntKind.i64 (IntKind.i64.wrap (n3 + n))],
  AV.num IntKind.i64 (0 : Int)])) := by kernel_rfl
theorem vc_dyad_asked (b : Int) (Q : AV →
  Prop) : (evF Tryd.prog (look tab17) (lam []) false Tryd.f74 [AV.num IntKind.i64 b] Q) =
  (bif decide (b < (1 : Int)) then Q (AV.num IntKind.i64 (2 : Int))
 else
  bif decide (b > (8192 : Int)) then Q (AV.num IntKind.i64 (3 : Int))
  else Q (AV.num IntKind.i64 (0 : Int))) := by kernel_rfl
theorem vc_dyad_cut (s : Bool) (m : List
  Nat) (e : Int) (b : Int) (Q : AV →
  Prop) : (evF Tryd.prog (look tab17) (lam []) false Tryd.f75
  [AV.agg [AV.bool s, AV.dig [(1 : Nat)] m, AV.num IntKind.i64 e], AV.num IntKind.i64 b] Q) =
  (bif decide (IntKind.i64.wrap ((↑(Dy.lenN m) : Int) - b) ≤ (0 : Int)) then
  m.length ≤ (1048576 : Nat) ∧
  ∀ (b1 : Bool),
  b1 = s →
  ∀ (l2 : List Nat),
  l2 = m →
  ∀ (n3 : Int),
  n3 = e →
  Q
  (AV.tup
  [AV.agg [AV.bool b1, AV.dig [(0 : Nat)] l2, AV.num IntKind.i64 n3], AV.bool false,
  AV.num IntKind.i64 (0 : Int)])
 else
  ∀ (l4 : List Nat),
  l4 = (Dy.shiftN m (IntKind.i64.wrap ((0 : Int) - IntKind.i64.wrap ((↑(Dy.lenN m) : Int) - b)))).mag →
  ∀ (b5 : Bool),
  b5 = (Dy.shiftN m (IntKind.i64.wrap ((0 : Int) - IntKind.i64.wrap ((↑(Dy.lenN m) : Int) - b)))).lost →
  ∀ (n6 : Int),
  n6 = (Dy.shiftN m (IntKind.i64.wrap ((0 : Int) - IntKind.i64.wrap ((↑(Dy.lenN m) : Int) - b)))).err →
  ∀ (b7 : Bool),
  b7 = (Dy.makeD s l4 (IntKind.i64.wrap (e + IntKind.i64.wrap ((↑(Dy.lenN m) : Int) - b)))).1.neg →
  ∀ (l8 : List Nat),
  l8 = (Dy.makeD s l4 (IntKind.i64.wrap (e + IntKind.i64.wrap ((↑(Dy.lenN m) : Int) - b)))).1.mag →
  ∀ (n9 : Int),
  n9 =
  (Dy.makeD s l4 (IntKind.i64.wrap (e + IntKind.i64.wrap ((↑(Dy.lenN m) : Int) - b)))).1.exp →
  ∀ (n10 : Int),
  n10 =
  (Dy.makeD s l4
  (IntKind.i64.wrap (e + IntKind.i64.wrap ((↑(Dy.lenN m) : Int) - b)))).snd →
  Q
  (AV.tup
  [AV.agg [AV.bool b7, AV.dig [(0 : Nat)] l8, AV.num IntKind.i64 n9],
  AV.bool (n10 == (0 : Int)), AV.num IntKind.i64 n10])) := by kernel_rfl
theorem vc_dyad_Cut (s : Bool) (m : List
  Nat) (e : Int) (b : Int) (Q : AV →
  Prop) : (evF Tryd.prog (look tab18) (lam []) false Tryd.f34
  [AV.agg [AV.bool s, AV.dig [(1 : Nat)] m, AV.num IntKind.i64 e], AV.num IntKind.i64 b] Q) =
  (bif !Dy.mayD (Dy.Dyd.mk s m e) then
  Q
  (AV.tup
  [AV.agg [AV.bool false, AV.dig [(0 : Nat)] [], AV.num IntKind.i64 (0 : Int)], AV.bool false,
  AV.num IntKind.i64 (2 : Int)])
 else
  bif !decide (Dy.askD b = (0 : Int)) then
  Q
  (AV.tup
  [AV.agg [AV.bool false, AV.dig [(0 : Nat)] [], AV.num IntKind.i64 (0 : Int)], AV.bool false,
  AV.num IntKind.i64 (Dy.askD b)])
  else
  (Dy.mayD (Dy.Dyd.mk s m e) = true ∧ (1 : Int) ≤ b) ∧
  ∀ (b1 : Bool),
  b1 = (Dy.cutL (Dy.Dyd.mk s m e) b).num.neg →
  ∀ (l2 : List Nat),
  l2 = (Dy.cutL (Dy.Dyd.mk s m e) b).num.mag →
  ∀ (n3 : Int),
  n3 = (Dy.cutL (Dy.Dyd.mk s m e) b).num.exp →
  ∀ (b4 : Bool),
  b4 = (Dy.cutL (Dy.Dyd.mk s m e) b).lost →
  ∀ (n5 : Int),
  n5 = (Dy.cutL (Dy.Dyd.mk s m e) b).err →
  Q
  (AV.tup
  [AV.agg [AV.bool b1, AV.dig [(0 : Nat)] l2, AV.num IntKind.i64 n3], AV.bool b4,
  AV.num IntKind.i64 n5])) := by kernel_rfl
theorem vc_law2_DyadFloors (s : Bool) (m : List
  Nat) (e : Int) (Q : AV →
  Prop) : (evF Tryd.prog (look tab18) (lam []) false Tryd.f8
  [AV.agg [AV.bool s, AV.dig [(1 : Nat)] m, AV.num IntKind.i64 e]] Q) =
  (bif !Dy.nearD (Dy.Dyd.mk s m e) then Q (AV.bool true)
 else
  ∀ (b1 : Bool),
  b1 = (Dy.okIf (Dy.mayD (Dy.Dyd.mk s m e)) (Dy.floorD (Dy.Dyd.mk s m e))).1.neg →
  ∀ (l2 : List Nat),
  l2 = (Dy.okIf (Dy.mayD (Dy.Dyd.mk s m e)) (Dy.floorD (Dy.Dyd.mk s m e))).1.mag →
  ∀ (n3 : Int),
  n3 = (Dy.okIf (Dy.mayD (Dy.Dyd.mk s m e)) (Dy.floorD (Dy.Dyd.mk s m e))).1.exp →
  ∀ (n4 : Int),
  n4 = (Dy.okIf (Dy.mayD (Dy.Dyd.mk s m e)) (Dy.floorD (Dy.Dyd.mk s m e))).snd →
  ∀ (n5 : Int),
  (n5 =
  if (Dy.mayD (Dy.Dyd.mk b1 l2 n3) && Dy.mayD (Dy.Dyd.mk s m e)) = true then
  Dy.cmpD (Dy.Dyd.mk b1 l2 n3) (Dy.Dyd.mk s m e)
  else (0 : Int)) →
  ∀ (n6 : Int),
  (n6 =
  if (Dy.mayD (Dy.Dyd.mk b1 l2 n3) && Dy.mayD (Dy.Dyd.mk s m e)) = true then (0 : Int)
  else (2 : Int)) →
  ∀ (b7 : Bool),
  b7 = (Dy.intD (1 : Int)).neg →
  ∀ (l8 : List Nat),
  l8 = (Dy.intD (1 : Int)).mag →
  ∀ (n9 : Int),
  n9 = (Dy.intD (1 : Int)).exp →
  ∀ (b10 : Bool),
  b10 =
  (Dy.boundIf (Dy.mayD (Dy.Dyd.mk b1 l2 n3) && Dy.mayD (Dy.Dyd.mk b7 l8 n9))
  (Dy.addD (Dy.Dyd.mk b1 l2 n3) (Dy.Dyd.mk b7 l8 n9))).1.neg →
  ∀ (l11 : List Nat),
  l11 =
  (Dy.boundIf
  (Dy.mayD (Dy.Dyd.mk b1 l2 n3) && Dy.mayD (Dy.Dyd.mk b7 l8 n9))
  (Dy.addD (Dy.Dyd.mk b1 l2 n3) (Dy.Dyd.mk b7 l8 n9))).1.mag →
  ∀ (n12 : Int),
  n12 =
  (Dy.boundIf
  (Dy.mayD (Dy.Dyd.mk b1 l2 n3) && Dy.mayD (Dy.Dyd.mk b7 l8 n9))
  (Dy.addD (Dy.Dyd.mk b1 l2 n3) (Dy.Dyd.mk b7 l8 n9))).1.exp →
  ∀ (n13 : Int),
  n13 =
  (Dy.boundIf
  (Dy.mayD (Dy.Dyd.mk b1 l2 n3) &&
  Dy.mayD (Dy.Dyd.mk b7 l8 n9))
  (Dy.addD (Dy.Dyd.mk b1 l2 n3) (Dy.Dyd.mk b7 l8 n9))).snd →
  ∀ (n14 : Int),
  (n14 =
  if
  (Dy.mayD (Dy.Dyd.mk b10 l11 n12) &&
  Dy.mayD (Dy.Dyd.mk s m e)) =
  true then
  Dy.cmpD (Dy.Dyd.mk b10 l11 n12) (Dy.Dyd.mk s m e)
  else (0 : Int)) →
  ∀ (n15 : Int),
  (n15 =
  if
  (Dy.mayD (Dy.Dyd.mk b10 l11 n12) &&
  Dy.mayD (Dy.Dyd.mk s m e)) =
  true then
  (0 : Int)
  else (2 : Int)) →
  bif !decide (n4 = (0 : Int)) then Q (AV.bool false)
  else
  bif !decide (n6 = (0 : Int)) then Q (AV.bool false)
  else
  bif !decide (n13 = (0 : Int)) then Q (AV.bool false)
  else
  bif !decide (n15 = (0 : Int)) then Q (AV.bool false)
  else
  bif decide (n5 > (0 : Int)) then Q (AV.bool false)
  else
  bif decide (n14 ≤ (0 : Int)) then
  Q (AV.bool false)
  else
  bif decide (n3 < (0 : Int)) then
  Q (AV.bool false)
  else
  bif
  decide
  (decide (n5 = (0 : Int)) =
  decide (e ≥ (0 : Int))) then
  Q (AV.bool true)
  else Q (AV.bool false)) := by kernel_rfl
end Go.AI

namespace Go.Dy
set_option maxRecDepth 100000
theorem ediv_eq {x P z : Int} (hP : 0 < P) (h1 : z * P ≤ x) (h2 : x < (z + 1) * P) : x / P = z := by
  have a1 := (Int.le_ediv_iff_mul_le (a := z) (b := x) hP).2 h1
  have a2 := (Int.ediv_lt_iff_lt_mul (a := x) (b := z + 1) hP).2 h2
  omega
/-- the whole number below -/
theorem floor_sgn (s : Bool) (M k : Nat) : sgn s M / 2 ^ k = sgn s (if s && decide (M % 2 ^ k ≠ 0) then M / 2 ^ k + 1 else M / 2 ^ k) := by
  have hp := Nat.two_pow_pos k
  rw [show ((2 : Int) ^ k) = ((2 ^ k : Nat) : Int) by simp]
  have hM := Nat.div_add_mod M (2 ^ k)
  have hr := Nat.mod_lt M hp
  generalize 2 ^ k = P at *
  unfold sgn
  cases s
  · simp
  · simp only [if_true, Bool.true_and]
    by_cases c : M % P = 0
    · simp only [c, ne_eq, not_true, decide_false, Bool.false_eq_true, if_false]
      refine ediv_eq (by omega) ?_ ?_
      · rw [c, Nat.add_zero] at hM
        rw [Int.neg_mul, ← Int.natCast_mul, Nat.mul_comm]
        omega
      · rw [c, Nat.add_zero] at hM
        rw [Int.add_mul, Int.neg_mul, ← Int.natCast_mul, Nat.mul_comm]
        omega
    · simp only [ne_eq, c, not_false_eq_true, decide_true, if_true]
      refine ediv_eq (by omega) ?_ ?_
      · rw [Int.neg_mul, ← Int.natCast_mul, Nat.add_mul, Nat.one_mul, Nat.mul_comm]
        omega
      · rw [Int.add_mul, Int.neg_mul, ← Int.natCast_mul, Nat.add_mul, Nat.one_mul, Nat.mul_comm]
        omega
theorem lost_iff {M k : Nat} (h : M ≠ 0) : decide ((tz M : Int) < (k : Int)) = decide (M % 2 ^ k ≠ 0) := by
  rw [decide_eq_decide]
  have := dvd_iff_le_tz h k
  constructor
  · intro h1 h2; have := this.1 h2; omega
  · intro h1
    by_cases c : k ≤ tz M
    · exact absurd (this.2 c) h1
    · omega
theorem shiftN_lost {a : List Nat} (h : may a = true) (n : Nat) (h0 : val a ≠ 0) (hn : 0 < n) : (shiftN a (-(n : Int))).lost = decide (val a % 2 ^ n ≠ 0) := by
  unfold shiftN
  rw [if_pos h, if_neg h0, if_pos (by omega)]
  simp only [Int.neg_neg]
  exact lost_iff h0
theorem bl_half_succ {n k : Nat} (h : bl n ≤ k) : bl (n + 1) ≤ k + 1 := by
  have := bl_le.1 h
  exact bl_le.2 (by rw [Nat.pow_succ]; omega)
end Go.Dy
namespace Go.AI
open Go Go.RowKit Go.Proofs
set_option linter.unusedVariables false
set_option maxRecDepth 100000
theorem ok_dyad_Floor (args : List AV) (s : Spec) (h : dFloor args = some s) (hp : andO s.pre True) : Contract Tryd.prog Inv 33 args s.res := by
  unfold dFloor at h
  split at h
  · cases h
    rename_i s m e
    refine contract0 false ok_tab17 Tryd.func33 (by kernel_rfl) (by kernel_rfl) fun hok => ?_
    rw [vc_dyad_Floor]
    unfold Dy.okIf Dy.floorD
    refine cond_i (fun h => ?_) (fun h => ?_)
    · simp only [Bool.not_eq_true'] at h
      rw [h]; rfl
    · simp only [Bool.not_eq_false'] at h
      rw [h]
      have hm := Dy.mayD_may h
      have hl := Dy.may_len hm
      have hx := Dy.mayD_exp h
      have hb := Dy.may_bl hm
      simp only [if_true]
      refine cond_i (fun h1 => ?_) (fun h1 => ?_)
      · have h1 := of_decide_eq_true h1
        rw [if_pos (by omega)]
        refine ⟨by omega, ?_⟩
        rintro _ rfl _ rfl _ rfl
        rfl
      · have h1 := of_decide_eq_false h1
        rw [if_neg (by omega)]
        have hm0 : m ≠ [] := fun e0 => by subst e0; have := (Dy.mayD_nil h).2; omega
        have hv := Dy.val_ne hm hm0
        obtain ⟨k, hk⟩ : ∃ k : Nat, e = -(k : Int) := ⟨(-e).toNat, by omega⟩
        subst hk
        have hk0 : 0 < k := by omega
        rw [Dy.shiftN_neg hm, Dy.shiftN_lost hm k hv hk0, Dy.int_mk, show (- -(k : Int)).toNat = k by omega, Dy.floor_sgn, Dy.formZ_sgn]
        have hq : Dy.bl (Dy.val m / 2 ^ k) ≤ 131071 := by rw [Dy.bl_div_two_pow]; omega
        have fin : ∀ X : Nat, Dy.bl X ≤ 131072 → Dy.makeD s (Dy.dg X) 0 = (Dy.form s X 0, 0) := fun X hX => by
          rw [Dy.makeD_dg hX]
          exact (Dy.fit_form (L := 131072) (E := 16777216) hX (by omega) (by omega) (by omega) (by omega)).2
        intro l1 e1 b2 e2 _ _
        rw [e1, e2]
        cases s
        · refine cond_f rfl ?_
          simp only [Bool.false_and, Bool.false_eq_true, if_false]
          rw [fin _ (by omega)]
          rintro _ rfl _ rfl _ rfl _ rfl
          rfl
        · refine cond_t rfl (cond_i (fun h2 => ?_) (fun h2 => ?_))
          · rw [h2]
            simp only [Bool.true_and, if_true]
            have m1 : Dy.may (Dy.dg (Dy.val m / 2 ^ k)) = true := Dy.may_dgn.2 (Dy.len_bl.2 (by omega))
            have mo : Dy.may (Dy.dg 1) = true := Dy.may_dgn.2 (Dy.len_bl.2 (by decide))
            have hq1 := Dy.bl_half_succ hq
            rw [Dy.addR_dg m1 mo, Dy.val_dg, Dy.val_dg]
            simp only [if_pos hq1]
            rintro _ rfl _ -
            rw [fin _ (by omega)]
            rintro _ rfl _ rfl _ rfl _ rfl
            rfl
          · rw [h2]
            simp only [Bool.true_and, Bool.false_eq_true, if_false]
            rw [fin _ (by omega)]
            rintro _ rfl _ rfl _ rfl _ rfl
            rfl
  · cases h
theorem ok_dyad_Shift (args : List AV) (s : Spec) (h : dShift args = some s) (hp : andO s.pre True) : Contract Tryd.prog Inv 32 args s.res := by
  unfold dShift at h
  split at h
  · cases h
    rename_i s m e n
    refine contract0 false ok_tab17 Tryd.func32 (by kernel_rfl) (by kernel_rfl) fun hok => ?_
    obtain ⟨-, -, h5⟩ := oks_d hok
    have hn := range_i64 (oks1_num h5).1
    rw [vc_dyad_Shift]
    unfold Dy.shiftD
    refine cond_i (fun h => ?_) (fun h => ?_)
    · simp only [Bool.not_eq_true'] at h
      simp only [h, Bool.false_eq_true, if_false]
      rfl
    · simp only [Bool.not_eq_false'] at h
      have hl := Dy.may_len (Dy.mayD_may h)
      have hx := Dy.mayD_exp h
      simp only [h, if_true]
      rw [wrap_i64 (n := 16777216 - e) (by omega) (by omega), wrap_i64 (n := -16777216 - e) (by omega) (by omega)]
      have far : ¬ (-16777216 ≤ e + n ∧ e + n ≤ 16777216) → (if Dy.inside (e + n) = true then ((⟨s, m, e + n⟩ : Dy.Dyd), (0 : Int)) else (Dy.zeroD, 20)) = (Dy.zeroD, 20) := fun hf => by rw [if_neg (fun h => hf (Dy.inside_iff.1 h))]
      refine cond_i (fun h1 => ?_) (fun h1 => ?_)
      · have h1 := List.length_eq_zero_iff.1 (Int.ofNat_eq_zero.1 (of_decide_eq_true h1))
        subst h1
        rfl
      · have h1 := of_decide_eq_false h1
        have h1' : m ≠ [] := fun e => h1 (by rw [e]; rfl)
        simp only [if_neg h1']
        refine cond_i (fun h2 => ?_) (fun h2 => cond_i (fun h3 => ?_) (fun h3 => ?_))
        · have h2 := of_decide_eq_true h2
          rw [far (by omega)]
          rfl
        · have h3 := of_decide_eq_true h3
          rw [far (by omega)]
          rfl
        · have h2 := of_decide_eq_false h2
          have h3 := of_decide_eq_false h3
          rw [if_pos (Dy.inside_iff.2 (by omega))]
          refine ⟨by omega, ?_⟩
          rintro _ rfl _ rfl _ rfl
          rw [wrap_i64 (by omega) (by omega)]
          rfl
  · cases h
theorem ok_dyad_asked (args : List AV) (s : Spec) (h : dAsked args = some s) (hp : andO s.pre True) : Contract Tryd.prog Inv 74 args s.res := by
  unfold dAsked at h
  split at h
  · cases h
    rename_i b
    refine contract0 false ok_tab17 Tryd.func74 (by kernel_rfl) (by kernel_rfl) fun hok => ?_
    rw [vc_dyad_asked]
    unfold Dy.askD
    refine cond_i (fun h => ?_) (fun h => cond_i (fun h1 => ?_) (fun h1 => ?_))
    · rw [if_pos (of_decide_eq_true h)]
    · rw [if_neg (of_decide_eq_false h), if_pos (of_decide_eq_true h1)]
    · rw [if_neg (of_decide_eq_false h), if_neg (of_decide_eq_false h1)]
  · cases h
theorem ok_dyad_cut (args : List AV) (s : Spec) (h : dCutL args = some s) (hp : andO s.pre True) : Contract Tryd.prog Inv 75 args s.res := by
  unfold dCutL at h
  split at h
  · cases h
    rename_i s m e b
    have h := hp.1.1
    have hb1 := hp.1.2
    refine contract0 false ok_tab17 Tryd.func75 (by kernel_rfl) (by kernel_rfl) fun hok => ?_
    have h5 := (oks_d hok).2.2
    have hn := range_i64 (oks1_num h5).1
    have hm := Dy.mayD_may h
    have hl := Dy.may_len hm
    have hx := Dy.mayD_exp h
    have hb := Dy.may_bl hm
    have l1 : Dy.lenN m = Dy.bl (Dy.val m) := by unfold Dy.lenN; rw [if_pos hm]
    rw [vc_dyad_cut, l1]
    unfold Dy.cutL Dy.headD Dy.overD
    simp only
    rw [wrap_i64 (n := (Dy.bl (Dy.val m) : Int) - b) (by omega) (by omega)]
    refine cond_i (fun h1 => ?_) (fun h1 => ?_)
    · have h1 := of_decide_eq_true h1
      rw [if_pos h1]
      refine ⟨by omega, ?_⟩
      rintro _ rfl _ rfl _ rfl
      rfl
    · have h1 := of_decide_eq_false h1
      rw [if_neg h1]
      obtain ⟨n, hn'⟩ : ∃ n : Nat, (Dy.bl (Dy.val m) : Int) - b = n := ⟨((Dy.bl (Dy.val m) : Int) - b).toNat, by omega⟩
      rw [hn', wrap_i64 (n := (0 : Int) - n) (by omega) (by omega), wrap_i64 (by omega) (by omega), show (0 : Int) - (n : Int) = -(n : Int) by omega, Dy.shiftN_neg hm, Int.toNat_natCast]
      rintro _ rfl _ - _ -
      rw [Dy.makeD_dg (by rw [Dy.bl_div_two_pow]; omega)]
      rintro _ rfl _ rfl _ rfl _ rfl
      rfl
  · cases h
theorem ok_tab18 : PhiOk Tryd.prog Inv (look tab18) := look_cons (look_cons (look_cons (look_cons ok_tab17 ok_dyad_cut) ok_dyad_asked) ok_dyad_Shift) ok_dyad_Floor
theorem ok_dyad_Cut (args : List AV) (s : Spec) (h : dCut args = some s) (hp : andO s.pre True) : Contract Tryd.prog Inv 34 args s.res := by
  unfold dCut at h
  split at h
  · cases h
    rename_i s m e b
    refine contract0 false ok_tab18 Tryd.func34 (by kernel_rfl) (by kernel_rfl) fun hok => ?_
    rw [vc_dyad_Cut]
    unfold Dy.cutD
    refine cond_i (fun h => ?_) (fun h => ?_)
    · simp only [Bool.not_eq_true'] at h
      simp only [h, Bool.false_eq_true, if_false]
      rfl
    · simp only [Bool.not_eq_false'] at h
      simp only [h, if_true]
      refine cond_i (fun h1 => ?_) (fun h1 => ?_)
      · simp only [Bool.not_eq_true', decide_eq_false_iff_not] at h1
        rw [if_neg h1]
        rfl
      · simp only [Bool.not_eq_false', decide_eq_true_eq] at h1
        rw [if_pos h1]
        have hb1 : 1 ≤ b := by
          unfold Dy.askD at h1
          split at h1
          · omega
          · omega
        refine ⟨⟨trivial, hb1⟩, ?_⟩
        rintro _ rfl _ rfl _ rfl _ rfl _ rfl
        rfl
  · cases h
theorem ok_tab19 : PhiOk Tryd.prog Inv (look tab19) := look_cons ok_tab18 ok_dyad_Cut
end Go.AI

namespace Go.Dy
set_option maxRecDepth 100000
theorem form_exp (s : Bool) (n : Nat) {e : Int} (h : 0 ≤ e) : 0 ≤ (form s n e).exp := by
  by_cases c : n = 0
  · subst c; exact Int.le_refl _
  · rw [form_pos c]; simp only; omega
theorem floor_mag (M k : Nat) (hM : 0 < M) (hk : 0 < k) : M / 2 ^ k + 1 ≤ M := by
  have h2 : 2 ≤ 2 ^ k := by
    calc 2 = 2 ^ 1 := rfl
      _ ≤ 2 ^ k := Nat.pow_le_pow_right (by decide) hk
  have : M / 2 ^ k ≤ M / 2 := Nat.div_le_div_left h2 (by decide)
  by_cases c : M = 1
  · subst c
    have : 1 / 2 ^ k = 0 := Nat.div_eq_of_lt (by omega)
    omega
  · omega
theorem floor_neg {d : Dyd} (h : mayD d = true) (he : d.exp < 0) : ∃ (k X : Nat), d.exp = -(k : Int) ∧ 0 < k ∧ d.int / 2 ^ k = sgn d.neg X ∧ X ≤ val d.mag ∧ floorD d = form d.neg X 0 ∧ val d.mag % 2 = 1 := by
  obtain ⟨s, m, e⟩ := d
  simp only at he ⊢
  have hm := mayD_may h
  have hm0 : m ≠ [] := fun e0 => by subst e0; have := (mayD_nil h).2; omega
  have hv := val_ne hm hm0
  obtain ⟨k, hk⟩ : ∃ k : Nat, e = -(k : Int) := ⟨(-e).toNat, by omega⟩
  subst hk
  have hk0 : 0 < k := by omega
  refine ⟨k, if s && decide (val m % 2 ^ k ≠ 0) then val m / 2 ^ k + 1 else val m / 2 ^ k, rfl, hk0, by rw [int_mk, floor_sgn], ?_, ?_, mayD_odd h hm0⟩
  · split
    · exact floor_mag _ _ (by omega) hk0
    · exact Nat.div_le_self _ _
  · unfold floorD
    rw [if_neg (by simp only; omega)]
    simp only
    rw [int_mk, show (- -(k : Int)).toNat = k by omega, floor_sgn, formZ_sgn]
theorem floor_fit {d : Dyd} {L E : Nat} (h : Fit d L E) (hL : L ≤ 131072) (hE : E + L ≤ 16777216) : Fit (floorD d) L (E + L) ∧ 0 ≤ (floorD d).exp := by
  by_cases c : 0 ≤ d.exp
  · have : floorD d = d := by unfold floorD; rw [if_pos c]
    rw [this]
    exact ⟨h.mono (Nat.le_refl _) (by omega), c⟩
  · obtain ⟨k, X, hk, hk0, hq, hX, hf, _⟩ := floor_neg h.may (by omega)
    rw [hf]
    have hb : bl X ≤ L := Nat.le_trans (bl_mono hX) h.bits
    exact ⟨(fit_form hb (by omega) (by omega) hL hE).1, form_exp _ _ (Int.le_refl _)⟩
theorem floor_at {d : Dyd} (h : mayD d = true) (n : Nat) (hu : -(n : Int) ≤ d.exp) :
    at_ (floorD d) (-(n : Int)) ≤ at_ d (-(n : Int)) ∧ at_ d (-(n : Int)) < at_ (floorD d) (-(n : Int)) + 2 ^ n ∧ (at_ (floorD d) (-(n : Int)) = at_ d (-(n : Int)) ↔ 0 ≤ d.exp) := by
  have hp : (0 : Int) < 2 ^ n := Int.pow_pos (by decide)
  by_cases c : 0 ≤ d.exp
  · have : floorD d = d := by unfold floorD; rw [if_pos c]
    rw [this]
    exact ⟨Int.le_refl _, by omega, by simp [c]⟩
  · obtain ⟨k, X, hk, hk0, hq, hX, hf, hodd⟩ := floor_neg h (by omega)
    have hkn : k ≤ n := by omega
    have hpk : (0 : Int) < 2 ^ k := Int.pow_pos (by decide)
    have hpn : (0 : Int) < 2 ^ (n - k) := Int.pow_pos (by decide)
    have hsplit : (2 : Int) ^ n = 2 ^ k * 2 ^ (n - k) := by rw [← Int.pow_add]; congr 1; omega
    have e1 : at_ (floorD d) (-(n : Int)) = sgn d.neg X * 2 ^ k * 2 ^ (n - k) := by
      rw [hf, at_form (by omega), ← sgn_mul, show (0 - -(n : Int)).toNat = n by omega, show (((2 ^ n : Nat)) : Int) = (2 : Int) ^ n by simp, hsplit, Int.mul_assoc]
    have e2 : at_ d (-(n : Int)) = d.int * 2 ^ (n - k) := by
      unfold at_
      rw [hk, show (-(k : Int) - -(n : Int)).toNat = n - k by omega]
    have l1 : sgn d.neg X * 2 ^ k ≤ d.int := by rw [← hq]; exact (Int.le_ediv_iff_mul_le hpk).1 (Int.le_refl _)
    have l2 : d.int < (sgn d.neg X + 1) * 2 ^ k := by rw [← hq]; exact (Int.ediv_lt_iff_lt_mul hpk).1 (by omega)
    have l3 : sgn d.neg X * 2 ^ k ≠ d.int := by
      intro e
      obtain ⟨j, rfl⟩ : ∃ j, k = j + 1 := ⟨k - 1, by omega⟩
      rw [Int.pow_succ, ← Int.mul_assoc, Dyd.int_eq] at e
      generalize sgn d.neg X * 2 ^ j = Y at e
      unfold sgn at e
      split at e <;> omega
    rw [e1, e2, hsplit]
    have l4 : sgn d.neg X * 2 ^ k < d.int := by omega
    have g1 := Int.mul_lt_mul_of_pos_right l4 hpn
    have g2 := Int.mul_lt_mul_of_pos_right l2 hpn
    rw [Int.add_mul, Int.one_mul, Int.add_mul] at g2
    exact ⟨by omega, g2, by constructor <;> intro <;> omega⟩
theorem one_fit : Fit (intD 1) 1 1 := (fit_formZ (z := 1) (e := 0) (L := 1) (E := 1) (by decide) (by decide) (by decide) (by decide) (by decide)).1
theorem at_one (n : Nat) : at_ (intD 1) (-(n : Int)) = 2 ^ n := by
  unfold intD
  rw [at_formZ (by omega), show (0 - -(n : Int)).toNat = n by omega, Int.one_mul]
end Go.Dy

namespace Go.AI
open Go Go.RowKit Go.Proofs
set_option linter.unusedVariables false
set_option maxRecDepth 100000
theorem peel3 {d0 : Dy.Dyd} {P : Bool → List Nat → Int → Prop} (h : ∀ b l n, Dy.Dyd.mk b l n = d0 → P b l n) : ∀ b, b = d0.neg → ∀ l, l = d0.mag → ∀ n, n = d0.exp → P b l n := by
  rintro _ rfl _ rfl _ rfl
  exact h _ _ _ rfl
theorem ok_law_DyadFloors (s : Bool) (m : List Nat) (e : Int) : Contract Tryd.prog Inv 8 [.agg [.bool s, .dig [1] m, .num .i64 e]] (.bool true) := by
  refine contract0 false ok_tab18 Tryd.func8 (by kernel_rfl) (by kernel_rfl) fun hok => ?_
  rw [vc_law2_DyadFloors]
  refine cond_i (fun h => rfl) (fun h => ?_)
  simp only [Bool.not_eq_false'] at h
  have fd := Dy.near_fit h
  obtain ⟨d, hd⟩ : ∃ d, d = Dy.Dyd.mk s m e := ⟨_, rfl⟩
  have he : e = d.exp := by rw [hd]
  rw [← hd] at fd ⊢
  rw [he]
  clear he hd h
  obtain ⟨fw, hw0⟩ := Dy.floor_fit fd (by decide) (by decide)
  have f1 := Dy.one_fit
  have fm := (Dy.fit_add fw (f1.mono (by decide) (by decide)) (by decide) (by decide)).1
  refine peel (x := Dy.okIf (Dy.mayD d) (Dy.floorD d)) (by unfold Dy.okIf; rw [if_pos fd.may]) fun b l n h1 => ?_
  have hn : n = (Dy.floorD d).exp := congrArg Dy.Dyd.exp h1
  rw [h1, hn]
  refine peel1 (k0 := Dy.cmpD (Dy.floorD d) d) (by rw [fw.may, fd.may]; rfl) ?_
  refine peel1 (k0 := 0) (by rw [fw.may, fd.may]; rfl) ?_
  refine peel3 fun _ _ _ h2 => ?_
  rw [h2]
  refine peel (Dy.boundIf_add fw (f1.mono (by decide) (by decide)) (by decide) (by decide)) fun _ _ _ h3 => ?_
  rw [h3]
  refine peel1 (k0 := Dy.cmpD (Dy.addD (Dy.floorD d) (Dy.intD 1)) d) (by rw [fm.may, fd.may]; rfl) ?_
  refine peel1 (k0 := 0) (by rw [fm.may, fd.may]; rfl) ?_
  have d1 := fd.lo
  have m1 := fm.lo
  obtain ⟨k1, k2, k3⟩ := Dy.floor_at fd.may 30000 (by omega)
  have k4 := Dy.at_one 30000
  have hu : -((30000 : Nat) : Int) = -30000 := rfl
  rw [hu] at k1 k2 k3 k4
  rw [Dy.cmpD_at (a := Dy.floorD d) (b := d) (u := -30000) (by omega) (by omega), Dy.cmpD_at (b := d) (u := -30000) (by omega) (by omega), Dy.at_addD (by omega) (by have := f1.lo; omega), k4]
  have c1 := cmpZ_spec (Dy.at_ (Dy.floorD d) (-30000)) (Dy.at_ d (-30000))
  have c2 := cmpZ_spec (Dy.at_ (Dy.floorD d) (-30000) + 2 ^ 30000) (Dy.at_ d (-30000))
  generalize (2 : Int) ^ 30000 = P at *
  generalize Dy.at_ (Dy.floorD d) (-30000) = X at *
  generalize Dy.at_ d (-30000) = Y at *
  refine t0 (t0 (t0 (t0 (cond_f (decide_eq_false (by omega)) (cond_f (decide_eq_false (by omega)) (cond_f (decide_eq_false (by omega)) (cond_t ?_ rfl)))))))
  rw [decide_eq_true_eq, decide_eq_decide]
  omega
end Go.AI
