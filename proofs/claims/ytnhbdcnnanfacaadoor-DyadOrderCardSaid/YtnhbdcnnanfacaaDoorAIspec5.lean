/- What is known of the document's layer 2, its first functions, and of the statements' own helpers. -/
import Derived.Test.YtnhbdcnnanfacaaDoorAIdyad4
namespace Go.Dy
def sameD (a b : Dyd) : Bool := (a.neg == b.neg && a.exp == b.exp) && decide (a.mag = b.mag)
theorem sameD_iff {a b : Dyd} : sameD a b = true ↔ a = b := by
  obtain ⟨s, m, e⟩ := a
  obtain ⟨s', m', e'⟩ := b
  simp [sameD, and_assoc]
  intro _
  constructor
  · rintro ⟨h2, h3⟩; exact ⟨h3, h2⟩
  · rintro ⟨h2, h3⟩; exact ⟨h3, h2⟩
/-- as the statements' guard asks -/
def nearD (d : Dyd) : Bool := decide (d.mag.length ≤ 100 ∧ -3000 ≤ d.exp ∧ d.exp ≤ 3000) && mayD d
end Go.Dy
namespace Go.AI
open Go Go.RowKit Go.Proofs
set_option linter.unusedVariables false
def rSameD : List AV → Option Spec
  | [.agg [.bool s, .dig [1] m, .num .i64 e], .agg [.bool s', .dig [2] m', .num .i64 e']] => some ⟨none, .bool (Dy.sameD ⟨s, m, e⟩ ⟨s', m', e'⟩)⟩
  | _ => none
def rForm : List AV → Option Spec
  | [.bool s, .dig [2] m, .num .i64 e] => some ⟨some (Dy.dg (Dy.val m) = m ∧ m.length ≤ 1048576 ∧ -1099511627776 ≤ e ∧ e ≤ 1099511627776), avD [0] (Dy.form s (Dy.val m) e)⟩
  | _ => none
def rSign : List AV → Option Spec
  | [.agg [.bool s, .dig [1] m, .num .i64 e]] => some ⟨none, .num .i64 (Dy.signD ⟨s, m, e⟩)⟩
  | _ => none
def rTop : List AV → Option Spec
  | [.agg [.bool s, .dig [1] m, .num .i64 e]] => some ⟨some (Dy.dg (Dy.val m) = m ∧ m.length ≤ 1048576 ∧ -1099511627776 ≤ e ∧ e ≤ 1099511627776), .num .i64 (Dy.topD ⟨s, m, e⟩)⟩
  | _ => none
def rNeg : List AV → Option Spec
  | [.agg [.bool s, .dig [1] m, .num .i64 e]] => some ⟨none, .agg [.bool (if m = [] then s else !s), .dig [0, 1] m, .num .i64 e]⟩
  | _ => none
def rAbs : List AV → Option Spec
  | [.agg [.bool s, .dig [1] m, .num .i64 e]] => some ⟨none, .agg [.bool false, .dig [0, 1] m, .num .i64 e]⟩
  | _ => none
def rInt64 : List AV → Option Spec
  | [.agg [.bool s, .dig [1] m, .num .i64 e]] => some ⟨some (Dy.mayD ⟨s, m, e⟩ = true), .tup [.num .i64 (Dy.int64D ⟨s, m, e⟩).1, .bool (Dy.int64D ⟨s, m, e⟩).2]⟩
  | _ => none
def lLent : List AV → Option Spec
  | [.agg [.bool s, .dig [1] m, .num .i64 e]] => some ⟨some (m.length ≤ 1048576), .agg [.bool s, .dig [0] m, .num .i64 e]⟩
  | _ => none
def lKnown : List AV → Option Spec
  | [] => some ⟨none, .bool true⟩
  | _ => none
def lNear : List AV → Option Spec
  | [.vec [1] 3 [.agg [.bool s, .dig [1] m, .num .i64 e]]] => some ⟨none, .bool (Dy.nearD ⟨s, m, e⟩)⟩
  | [.vec [1] 3 [.agg [.bool s, .dig [1] m, .num .i64 e], .agg [.bool s', .dig [1] m', .num .i64 e']]] => some ⟨none, .bool (Dy.nearD ⟨s, m, e⟩ && Dy.nearD ⟨s', m', e'⟩)⟩
  | [.vec [1] 3 [.agg [.bool s, .dig [1] m, .num .i64 e], .agg [.bool s', .dig [1] m', .num .i64 e'], .agg [.bool s2, .dig [1] m2, .num .i64 e2]]] => some ⟨none, .bool (Dy.nearD ⟨s, m, e⟩ && (Dy.nearD ⟨s', m', e'⟩ && Dy.nearD ⟨s2, m2, e2⟩))⟩
  | _ => none
def tab16 : List (Nat × (List AV → Option Spec)) := (21, rSameD) :: (15, dMay) :: (22, rForm) :: (46, rSign) :: (47, rTop) :: (44, rNeg) :: (45, rAbs) ::
  (13, lLent) :: (28, lNear) :: tab15
def tab17 : List (Nat × (List AV → Option Spec)) := (25, dInt) :: (27, rInt64) :: (12, lKnown) :: tab16
end Go.AI
