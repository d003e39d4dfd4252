/- My texts AIspec7, AVref2, AIref2, AIref3, AImark, AVmark, AImark2, AImark3, AImark4, AImark5, AIspec8, in one. -/
import Derived.Test.YtnhbdcnnanfacaaDoorK5
namespace Go.Dy
def farD (a b : Dyd) : Bool := decide (a.mag ≠ [] ∧ b.mag ≠ [] ∧ (131074 < topD a - b.exp ∨ 131074 < topD b - a.exp))
/-- the sum of the products that fall into a column -/
def column (a b : List Nat) (k : Nat) : Nat → Nat
  | 0 => 0
  | n + 1 => column a b k n + (if n ≤ k then a.getD n 0 * b.getD (k - n) 0 else 0)
def cutR (d : Dyd) (b : Int) : Dyd × Bool := if overD d b ≤ 0 then (d, false) else (headD d b, true)
end Go.Dy
namespace Go.AI
open Go Go.RowKit Go.Proofs
set_option linter.unusedVariables false
def rMul : List AV → Option Spec
  | [.dig [1] a, .dig [2] b] => some ⟨some (a.length ≤ 524288 ∧ b.length ≤ 524288), .dig [0] (Dy.dg (Dy.val a * Dy.val b))⟩
  | _ => none
def rAddD : List AV → Option Spec
  | [.agg [.bool s, .dig [1] m, .num .i64 e], .agg [.bool s', .dig [2] m', .num .i64 e']] =>
    some ⟨some (Dy.mayD ⟨s, m, e⟩ = true ∧ Dy.mayD ⟨s', m', e'⟩ = true ∧ (m = [] ∨ m' = [] ∨ (-300000 ≤ e - e' ∧ e - e' ≤ 300000))), avD [0, 1, 2] (Dy.addD ⟨s, m, e⟩ ⟨s', m', e'⟩)⟩
  | _ => none
def rSubD : List AV → Option Spec
  | [.agg [.bool s, .dig [1] m, .num .i64 e], .agg [.bool s', .dig [2] m', .num .i64 e']] =>
    some ⟨some (Dy.mayD ⟨s, m, e⟩ = true ∧ Dy.mayD ⟨s', m', e'⟩ = true ∧ (m = [] ∨ m' = [] ∨ (-300000 ≤ e - e' ∧ e - e' ≤ 300000))), avD [0, 1, 2] (Dy.addD ⟨s, m, e⟩ (Dy.negD ⟨s', m', e'⟩))⟩
  | _ => none
def rMulD : List AV → Option Spec
  | [.agg [.bool s, .dig [1] m, .num .i64 e], .agg [.bool s', .dig [2] m', .num .i64 e']] =>
    some ⟨some (Dy.mayD ⟨s, m, e⟩ = true ∧ Dy.mayD ⟨s', m', e'⟩ = true), avD [0] (Dy.mulD ⟨s, m, e⟩ ⟨s', m', e'⟩)⟩
  | _ => none
def rFar : List AV → Option Spec
  | [.agg [.bool s, .dig [1] m, .num .i64 e], .agg [.bool s', .dig [2] m', .num .i64 e']] =>
    some ⟨some (Dy.mayD ⟨s, m, e⟩ = true ∧ Dy.mayD ⟨s', m', e'⟩ = true), .bool (Dy.farD ⟨s, m, e⟩ ⟨s', m', e'⟩)⟩
  | _ => none
def rCmpD : List AV → Option Spec
  | [.agg [.bool s, .dig [1] m, .num .i64 e], .agg [.bool s', .dig [2] m', .num .i64 e']] =>
    some ⟨some (Dy.mayD ⟨s, m, e⟩ = true ∧ Dy.mayD ⟨s', m', e'⟩ = true), .num .i64 (Dy.cmpD ⟨s, m, e⟩ ⟨s', m', e'⟩)⟩
  | _ => none
def rBound : List AV → Option Spec
  | [.agg [.bool s, .dig [1] m, .num .i64 e]] => some ⟨none, .tup [avD [0, 1] (Dy.boundD ⟨s, m, e⟩).1, .num .i64 (Dy.boundD ⟨s, m, e⟩).2]⟩
  | _ => none
def rShiftD : List AV → Option Spec
  | [.agg [.bool s, .dig [1] m, .num .i64 e], .num .i64 n] => some ⟨some (m = [] ∨ (-1099511627776 ≤ e ∧ e ≤ 1099511627776 ∧ -1099511627776 ≤ n ∧ n ≤ 1099511627776)), .agg [.bool s, .dig [0, 1, 2] m, .num .i64 (if m = [] then e else e + n)]⟩
  | _ => none
def rCut : List AV → Option Spec
  | [.agg [.bool s, .dig [1] m, .num .i64 e], .num .i64 b] => some ⟨some (Dy.mayD ⟨s, m, e⟩ = true ∧ 1 ≤ b), .tup [avD [0, 1, 2] (Dy.cutR ⟨s, m, e⟩ b).1, .bool (Dy.cutR ⟨s, m, e⟩ b).2]⟩
  | _ => none
def rFloor : List AV → Option Spec
  | [.agg [.bool s, .dig [1] m, .num .i64 e]] => some ⟨some (Dy.mayD ⟨s, m, e⟩ = true), avD [0, 1] (Dy.floorD ⟨s, m, e⟩)⟩
  | _ => none
def lNone : List AV → Option Spec
  | [.agg [.bool s, .dig [1] m, .num .i64 e], .bool l, .num .i64 f, .num .i64 w] => some ⟨none, .bool (Dy.sameD ⟨s, m, e⟩ Dy.zeroD && (!l && decide (f = w)))⟩
  | _ => none
def lBound : List AV → Option Spec
  | [.agg [.bool s, .dig [1] m, .num .i64 e], .num .i64 f, .agg [.bool s', .dig [3] m', .num .i64 e']] => some ⟨none, .bool (Dy.sameD ⟨s, m, e⟩ (Dy.boundD ⟨s', m', e'⟩).1 && decide (f = (Dy.boundD ⟨s', m', e'⟩).2))⟩
  | _ => none
def tab20 : List (Nat × (List AV → Option Spec)) := (81, rMul) :: (51, rAddD) :: (50, rFar) :: (76, rBound) :: (35, rShiftD) :: (38, rCut) ::
  (37, rFloor) :: (19, lNone) :: tab19
def tab21 : List (Nat × (List AV → Option Spec)) := (52, rSubD) :: (49, rMulD) :: (36, lBound) :: tab20
def tab22 : List (Nat × (List AV → Option Spec)) := (48, rCmpD) :: tab21
end Go.AI

namespace Go.AI
open Go Go.RowKit Go.Proofs
set_option linter.unusedVariables false
set_option maxRecDepth 100000
set_option maxHeartbeats 0
theorem vc_ref2_Add (s : Bool) (s' : Bool) (m : List
  Nat) (m' : List
  Nat) (e : Int) (e' : Int) (Q : AV →
  Prop) : (evF Tryd.prog (look tab19) (lam []) true Tryd.f51
  [AV.agg [AV.bool s, AV.dig [(1 : Nat)] m, AV.num IntKind.i64 e],
  AV.agg [AV.bool s', AV.dig [(2 : Nat)] m', AV.num IntKind.i64 e']]
  Q) =
  (bif decide ((↑m.length : Int) = (0 : Int)) then
  Q (AV.agg [AV.bool s', AV.dig [(0 : Nat), (1 : Nat), (2 : Nat)] m', AV.num IntKind.i64 e'])
 else
  bif decide ((↑m'.length : Int) = (0 : Int)) then
  Q (AV.agg [AV.bool s, AV.dig [(0 : Nat), (1 : Nat), (2 : Nat)] m, AV.num IntKind.i64 e])
  else
  bif decide (e' < e) then
  ((0 : Int) ≤ IntKind.i64.wrap (e - e') ∧
  IntKind.i64.wrap (e - e') ≤ (33554432 : Int) ∧ m.length ≤ (1048576 : Nat)) ∧
  ((0 : Int) ≤ IntKind.i64.wrap (e' - e') ∧
  IntKind.i64.wrap (e' - e') ≤ (33554432 : Int) ∧ m'.length ≤ (1048576 : Nat)) ∧
  bif decide (s = s') then
  ((Dy.dg (Dy.val m * (2 : Nat) ^ (IntKind.i64.wrap (e - e')).toNat)).length ≤ (1048576 : Nat) ∧
  (Dy.dg (Dy.val m' * (2 : Nat) ^ (IntKind.i64.wrap (e' - e')).toNat)).length ≤ (1048576 : Nat)) ∧
  (Dy.dg
  (Dy.val
  (Dy.dg
  (Dy.val (Dy.dg (Dy.val m * (2 : Nat) ^ (IntKind.i64.wrap (e - e')).toNat)) +
  Dy.val (Dy.dg (Dy.val m' * (2 : Nat) ^ (IntKind.i64.wrap (e' - e')).toNat))))) =
  Dy.dg
  (Dy.val (Dy.dg (Dy.val m * (2 : Nat) ^ (IntKind.i64.wrap (e - e')).toNat)) +
  Dy.val (Dy.dg (Dy.val m' * (2 : Nat) ^ (IntKind.i64.wrap (e' - e')).toNat))) ∧
  (Dy.dg
  (Dy.val (Dy.dg (Dy.val m * (2 : Nat) ^ (IntKind.i64.wrap (e - e')).toNat)) +
  Dy.val (Dy.dg (Dy.val m' * (2 : Nat) ^ (IntKind.i64.wrap (e' - e')).toNat)))).length ≤
  (1048576 : Nat) ∧
  (-1099511627776 : Int) ≤ e' ∧ e' ≤ (1099511627776 : Int)) ∧
  ∀ (b1 : Bool),
  b1 =
  (Dy.form s
  (Dy.val
  (Dy.dg
  (Dy.val (Dy.dg (Dy.val m * (2 : Nat) ^ (IntKind.i64.wrap (e - e')).toNat)) +
  Dy.val (Dy.dg (Dy.val m' * (2 : Nat) ^ (IntKind.i64.wrap (e' - e')).toNat)))))
  e').neg →
  ∀ (l2 : List Nat),
  l2 =
  (Dy.form s
  (Dy.val
  (Dy.dg
  (Dy.val (Dy.dg (Dy.val m * (2 : Nat) ^ (IntKind.i64.wrap (e - e')).toNat)) +
  Dy.val (Dy.dg (Dy.val m' * (2 : Nat) ^ (IntKind.i64.wrap (e' - e')).toNat)))))
  e').mag →
  ∀ (n3 : Int),
  n3 =
  (Dy.form s
  (Dy.val
  (Dy.dg
  (Dy.val (Dy.dg (Dy.val m * (2 : Nat) ^ (IntKind.i64.wrap (e - e')).toNat)) +
  Dy.val (Dy.dg (Dy.val m' * (2 : Nat) ^ (IntKind.i64.wrap (e' - e')).toNat)))))
  e').exp →
  Q (AV.agg [AV.bool b1, AV.dig [(0 : Nat), (1 : Nat), (2 : Nat)] l2, AV.num IntKind.i64 n3])
  else
  (Dy.dg (Dy.val (Dy.dg (Dy.val m * (2 : Nat) ^ (IntKind.i64.wrap (e - e')).toNat))) =
  Dy.dg (Dy.val m * (2 : Nat) ^ (IntKind.i64.wrap (e - e')).toNat) ∧
  Dy.dg (Dy.val (Dy.dg (Dy.val m' * (2 : Nat) ^ (IntKind.i64.wrap (e' - e')).toNat))) =
  Dy.dg (Dy.val m' * (2 : Nat) ^ (IntKind.i64.wrap (e' - e')).toNat)) ∧
  bif
  decide
  (Dy.cmpN (Dy.val (Dy.dg (Dy.val m * (2 : Nat) ^ (IntKind.i64.wrap (e - e')).toNat)))
  (Dy.val (Dy.dg (Dy.val m' * (2 : Nat) ^ (IntKind.i64.wrap (e' - e')).toNat))) ≥
  (0 : Int)) then
  (Dy.val (Dy.dg (Dy.val m' * (2 : Nat) ^ (IntKind.i64.wrap (e' - e')).toNat)) ≤
  Dy.val (Dy.dg (Dy.val m * (2 : Nat) ^ (IntKind.i64.wrap (e - e')).toNat)) ∧
  (Dy.dg (Dy.val m * (2 : Nat) ^ (IntKind.i64.wrap (e - e')).toNat)).length ≤ (1048576 : Nat)) ∧
  (Dy.dg
  (Dy.val
  (Dy.dg
  (Dy.val (Dy.dg (Dy.val m * (2 : Nat) ^ (IntKind.i64.wrap (e - e')).toNat)) -
  Dy.val (Dy.dg (Dy.val m' * (2 : Nat) ^ (IntKind.i64.wrap (e' - e')).toNat))))) =
  Dy.dg
  (Dy.val (Dy.dg (Dy.val m * (2 : Nat) ^ (IntKind.i64.wrap (e - e')).toNat)) -
  Dy.val (Dy.dg (Dy.val m' * (2 : Nat) ^ (IntKind.i64.wrap (e' - e')).toNat))) ∧
  (Dy.dg
  (Dy.val (Dy.dg (Dy.val m * (2 : Nat) ^ (IntKind.i64.wrap (e - e')).toNat)) -
  Dy.val (Dy.dg (Dy.val m' * (2 : Nat) ^ (IntKind.i64.wrap (e' - e')).toNat)))).length ≤
  (1048576 : Nat) ∧
  (-1099511627776 : Int) ≤ e' ∧ e' ≤ (1099511627776 : Int)) ∧
  ∀ (b4 : Bool),
  b4 =
  (Dy.form s
  (Dy.val
  (Dy.dg
  (Dy.val (Dy.dg (Dy.val m * (2 : Nat) ^ (IntKind.i64.wrap (e - e')).toNat)) -
  Dy.val (Dy.dg (Dy.val m' * (2 : Nat) ^ (IntKind.i64.wrap (e' - e')).toNat)))))
  e').neg →
  ∀ (l5 : List Nat),
  l5 =
  (Dy.form s
  (Dy.val
  (Dy.dg
  (Dy.val (Dy.dg (Dy.val m * (2 : Nat) ^ (IntKind.i64.wrap (e - e')).toNat)) -
  Dy.val (Dy.dg (Dy.val m' * (2 : Nat) ^ (IntKind.i64.wrap (e' - e')).toNat)))))
  e').mag →
  ∀ (n6 : Int),
  n6 =
  (Dy.form s
  (Dy.val
  (Dy.dg
  (Dy.val (Dy.dg (Dy.val m * (2 : Nat) ^ (IntKind.i64.wrap (e - e')).toNat)) -
  Dy.val
  (Dy.dg (Dy.val m' * (2 : Nat) ^ (IntKind.i64.wrap (e' - e')).toNat)))))
  e').exp →
  Q
  (AV.agg
  [AV.bool b4, AV.dig [(0 : Nat), (1 : Nat), (2 : Nat)] l5, AV.num IntKind.i64 n6])
  else
  (Dy.val (Dy.dg (Dy.val m * (2 : Nat) ^ (IntKind.i64.wrap (e - e')).toNat)) ≤
  Dy.val (Dy.dg (Dy.val m' * (2 : Nat) ^ (IntKind.i64.wrap (e' - e')).toNat)) ∧
  (Dy.dg (Dy.val m' * (2 : Nat) ^ (IntKind.i64.wrap (e' - e')).toNat)).length ≤ (1048576 : Nat)) ∧
  (Dy.dg
  (Dy.val
  (Dy.dg
  (Dy.val (Dy.dg (Dy.val m' * (2 : Nat) ^ (IntKind.i64.wrap (e' - e')).toNat)) -
  Dy.val (Dy.dg (Dy.val m * (2 : Nat) ^ (IntKind.i64.wrap (e - e')).toNat))))) =
  Dy.dg
  (Dy.val (Dy.dg (Dy.val m' * (2 : Nat) ^ (IntKind.i64.wrap (e' - e')).toNat)) -
  Dy.val (Dy.dg (Dy.val m * (2 : Nat) ^ (IntKind.i64.wrap (e - e')).toNat))) ∧
  (Dy.dg
  (Dy.val (Dy.dg (Dy.val m' * (2 : Nat) ^ (IntKind.i64.wrap (e' - e')).toNat)) -
  Dy.val (Dy.dg (Dy.val m * (2 : Nat) ^ (IntKind.i64.wrap (e - e')).toNat)))).length ≤
  (1048576 : Nat) ∧
  (-1099511627776 : Int) ≤ e' ∧ e' ≤ (1099511627776 : Int)) ∧
  ∀ (b7 : Bool),
  b7 =
  (Dy.form s'
  (Dy.val
  (Dy.dg
  (Dy.val (Dy.dg (Dy.val m' * (2 : Nat) ^ (IntKind.i64.wrap (e' - e')).toNat)) -
  Dy.val (Dy.dg (Dy.val m * (2 : Nat) ^ (IntKind.i64.wrap (e - e')).toNat)))))
  e').neg →
  ∀ (l8 : List Nat),
  l8 =
  (Dy.form s'
  (Dy.val
  (Dy.dg
  (Dy.val (Dy.dg (Dy.val m' * (2 : Nat) ^ (IntKind.i64.wrap (e' - e')).toNat)) -
  Dy.val (Dy.dg (Dy.val m * (2 : Nat) ^ (IntKind.i64.wrap (e - e')).toNat)))))
  e').mag →
  ∀ (n9 : Int),
  n9 =
  (Dy.form s'
  (Dy.val
  (Dy.dg
  (Dy.val (Dy.dg (Dy.val m' * (2 : Nat) ^ (IntKind.i64.wrap (e' - e')).toNat)) -
  Dy.val (Dy.dg (Dy.val m * (2 : Nat) ^ (IntKind.i64.wrap (e - e')).toNat)))))
  e').exp →
  Q
  (AV.agg
  [AV.bool b7, AV.dig [(0 : Nat), (1 : Nat), (2 : Nat)] l8, AV.num IntKind.i64 n9])
  else
  ((0 : Int) ≤ IntKind.i64.wrap (e - e) ∧
  IntKind.i64.wrap (e - e) ≤ (33554432 : Int) ∧ m.length ≤ (1048576 : Nat)) ∧
  ((0 : Int) ≤ IntKind.i64.wrap (e' - e) ∧
  IntKind.i64.wrap (e' - e) ≤ (33554432 : Int) ∧ m'.length ≤ (1048576 : Nat)) ∧
  bif decide (s = s') then
  ((Dy.dg (Dy.val m * (2 : Nat) ^ (IntKind.i64.wrap (e - e)).toNat)).length ≤ (1048576 : Nat) ∧
  (Dy.dg (Dy.val m' * (2 : Nat) ^ (IntKind.i64.wrap (e' - e)).toNat)).length ≤ (1048576 : Nat)) ∧
  (Dy.dg
  (Dy.val
  (Dy.dg
  (Dy.val (Dy.dg (Dy.val m * (2 : Nat) ^ (IntKind.i64.wrap (e - e)).toNat)) +
  Dy.val (Dy.dg (Dy.val m' * (2 : Nat) ^ (IntKind.i64.wrap (e' - e)).toNat))))) =
  Dy.dg
  (Dy.val (Dy.dg (Dy.val m * (2 : Nat) ^ (IntKind.i64.wrap (e - e)).toNat)) +
  Dy.val (Dy.dg (Dy.val m' * (2 : Nat) ^ (IntKind.i64.wrap (e' - e)).toNat))) ∧
  (Dy.dg
  (Dy.val (Dy.dg (Dy.val m * (2 : Nat) ^ (IntKind.i64.wrap (e - e)).toNat)) +
  Dy.val (Dy.dg (Dy.val m' * (2 : Nat) ^ (IntKind.i64.wrap (e' - e)).toNat)))).length ≤
  (1048576 : Nat) ∧
  (-1099511627776 : Int) ≤ e ∧ e ≤ (1099511627776 : Int)) ∧
  ∀ (b10 : Bool),
  b10 =
  (Dy.form s
  (Dy.val
  (Dy.dg
  (Dy.val (Dy.dg (Dy.val m * (2 : Nat) ^ (IntKind.i64.wrap (e - e)).toNat)) +
  Dy.val (Dy.dg (Dy.val m' * (2 : Nat) ^ (IntKind.i64.wrap (e' - e)).toNat)))))
  e).neg →
  ∀ (l11 : List Nat),
  l11 =
  (Dy.form s
  (Dy.val
  (Dy.dg
  (Dy.val (Dy.dg (Dy.val m * (2 : Nat) ^ (IntKind.i64.wrap (e - e)).toNat)) +
  Dy.val (Dy.dg (Dy.val m' * (2 : Nat) ^ (IntKind.i64.wrap (e' - e)).toNat)))))
  e).mag →
  ∀ (n12 : Int),
  n12 =
  (Dy.form s
  (Dy.val
  (Dy.dg
  (Dy.val (Dy.dg (Dy.val m * (2 : Nat) ^ (IntKind.i64.wrap (e - e)).toNat)) +
  Dy.val (Dy.dg (Dy.val m' * (2 : Nat) ^ (IntKind.i64.wrap (e' - e)).toNat)))))
  e).exp →
  Q
  (AV.agg
  [AV.bool b10, AV.dig [(0 : Nat), (1 : Nat), (2 : Nat)] l11, AV.num IntKind.i64 n12])
  else
  (Dy.dg (Dy.val (Dy.dg (Dy.val m * (2 : Nat) ^ (IntKind.i64.wrap (e - e)).toNat))) =
  Dy.dg (Dy.val m * (2 : Nat) ^ (IntKind.i64.wrap (e - e)).toNat) ∧
  Dy.dg (Dy.val (Dy.dg (Dy.val m' * (2 : Nat) ^ (IntKind.i64.wrap (e' - e)).toNat))) =
  Dy.dg (Dy.val m' * (2 : Nat) ^ (IntKind.i64.wrap (e' - e)).toNat)) ∧
  bif
  decide
  (Dy.cmpN (Dy.val (Dy.dg (Dy.val m * (2 : Nat) ^ (IntKind.i64.wrap (e - e)).toNat)))
  (Dy.val (Dy.dg (Dy.val m' * (2 : Nat) ^ (IntKind.i64.wrap (e' - e)).toNat))) ≥
  (0 : Int)) then
  (Dy.val (Dy.dg (Dy.val m' * (2 : Nat) ^ (IntKind.i64.wrap (e' - e)).toNat)) ≤
  Dy.val (Dy.dg (Dy.val m * (2 : Nat) ^ (IntKind.i64.wrap (e - e)).toNat)) ∧
  (Dy.dg (Dy.val m * (2 : Nat) ^ (IntKind.i64.wrap (e - e)).toNat)).length ≤ (1048576 : Nat)) ∧
  (Dy.dg
  (Dy.val
  (Dy.dg
  (Dy.val (Dy.dg (Dy.val m * (2 : Nat) ^ (IntKind.i64.wrap (e - e)).toNat)) -
  Dy.val (Dy.dg (Dy.val m' * (2 : Nat) ^ (IntKind.i64.wrap (e' - e)).toNat))))) =
  Dy.dg
  (Dy.val (Dy.dg (Dy.val m * (2 : Nat) ^ (IntKind.i64.wrap (e - e)).toNat)) -
  Dy.val (Dy.dg (Dy.val m' * (2 : Nat) ^ (IntKind.i64.wrap (e' - e)).toNat))) ∧
  (Dy.dg
  (Dy.val (Dy.dg (Dy.val m * (2 : Nat) ^ (IntKind.i64.wrap (e - e)).toNat)) -
  Dy.val (Dy.dg (Dy.val m' * (2 : Nat) ^ (IntKind.i64.wrap (e' - e)).toNat)))).length ≤
  (1048576 : Nat) ∧
  (-1099511627776 : Int) ≤ e ∧ e ≤ (1099511627776 : Int)) ∧
  ∀ (b13 : Bool),
  b13 =
  (Dy.form s
  (Dy.val
  (Dy.dg
  (Dy.val (Dy.dg (Dy.val m * (2 : Nat) ^ (IntKind.i64.wrap (e - e)).toNat)) -
  Dy.val (Dy.dg (Dy.val m' * (2 : Nat) ^ (IntKind.i64.wrap (e' - e)).toNat)))))
  e).neg →
  ∀ (l14 : List Nat),
  l14 =
  (Dy.form s
  (Dy.val
  (Dy.dg
  (Dy.val (Dy.dg (Dy.val m * (2 : Nat) ^ (IntKind.i64.wrap (e - e)).toNat)) -
  Dy.val (Dy.dg (Dy.val m' * (2 : Nat) ^ (IntKind.i64.wrap (e' - e)).toNat)))))
  e).mag →
  ∀ (n15 : Int),
  n15 =
  (Dy.form s
  (Dy.val
  (Dy.dg
  (Dy.val (Dy.dg (Dy.val m * (2 : Nat) ^ (IntKind.i64.wrap (e - e)).toNat)) -
  Dy.val
  (Dy.dg (Dy.val m' * (2 : Nat) ^ (IntKind.i64.wrap (e' - e)).toNat)))))
  e).exp →
  Q
  (AV.agg
  [AV.bool b13, AV.dig [(0 : Nat), (1 : Nat), (2 : Nat)] l14, AV.num IntKind.i64 n15])
  else
  (Dy.val (Dy.dg (Dy.val m * (2 : Nat) ^ (IntKind.i64.wrap (e - e)).toNat)) ≤
  Dy.val (Dy.dg (Dy.val m' * (2 : Nat) ^ (IntKind.i64.wrap (e' - e)).toNat)) ∧
  (Dy.dg (Dy.val m' * (2 : Nat) ^ (IntKind.i64.wrap (e' - e)).toNat)).length ≤ (1048576 : Nat)) ∧
  (Dy.dg
  (Dy.val
  (Dy.dg
  (Dy.val (Dy.dg (Dy.val m' * (2 : Nat) ^ (IntKind.i64.wrap (e' - e)).toNat)) -
  Dy.val (Dy.dg (Dy.val m * (2 : Nat) ^ (IntKind.i64.wrap (e - e)).toNat))))) =
  Dy.dg
  (Dy.val (Dy.dg (Dy.val m' * (2 : Nat) ^ (IntKind.i64.wrap (e' - e)).toNat)) -
  Dy.val (Dy.dg (Dy.val m * (2 : Nat) ^ (IntKind.i64.wrap (e - e)).toNat))) ∧
  (Dy.dg
  (Dy.val (Dy.dg (Dy.val m' * (2 : Nat) ^ (IntKind.i64.wrap (e' - e)).toNat)) -
  Dy.val (Dy.dg (Dy.val m * (2 : Nat) ^ (IntKind.i64.wrap (e - e)).toNat)))).length ≤
  (1048576 : Nat) ∧
  (-1099511627776 : Int) ≤ e ∧ e ≤ (1099511627776 : Int)) ∧
  ∀ (b16 : Bool),
  b16 =
  (Dy.form s'
  (Dy.val
  (Dy.dg
  (Dy.val (Dy.dg (Dy.val m' * (2 : Nat) ^ (IntKind.i64.wrap (e' - e)).toNat)) -
  Dy.val (Dy.dg (Dy.val m * (2 : Nat) ^ (IntKind.i64.wrap (e - e)).toNat)))))
  e).neg →
  ∀ (l17 : List Nat),
  l17 =
  (Dy.form s'
  (Dy.val
  (Dy.dg
  (Dy.val (Dy.dg (Dy.val m' * (2 : Nat) ^ (IntKind.i64.wrap (e' - e)).toNat)) -
  Dy.val (Dy.dg (Dy.val m * (2 : Nat) ^ (IntKind.i64.wrap (e - e)).toNat)))))
  e).mag →
  ∀ (n18 : Int),
  n18 =
  (Dy.form s'
  (Dy.val
  (Dy.dg
  (Dy.val (Dy.dg (Dy.val m' * (2 : Nat) ^ (IntKind.i64.wrap (e' - e)).toNat)) -
  Dy.val (Dy.dg (Dy.val m * (2 : Nat) ^ (IntKind.i64.wrap (e - e)).toNat)))))
  e).exp →
  Q
  (AV.agg
  [AV.bool b16, AV.dig [(0 : Nat), (1 : Nat), (2 : Nat)] l17,
  AV.num IntKind.i64 n18])) := by kernel_rfl
theorem vc_ref2_Far (s : Bool) (s' : Bool) (m : List
  Nat) (m' : List
  Nat) (e : Int) (e' : Int) (Q : AV →
  Prop) : (evF Tryd.prog (look tab19) (lam []) false Tryd.f50
  [AV.agg [AV.bool s, AV.dig [(1 : Nat)] m, AV.num IntKind.i64 e],
  AV.agg [AV.bool s', AV.dig [(2 : Nat)] m', AV.num IntKind.i64 e']]
  Q) =
  (bif decide ((↑m.length : Int) = (0 : Int)) then Q (AV.bool false)
 else
  bif decide ((↑m'.length : Int) = (0 : Int)) then Q (AV.bool false)
  else
  (Dy.dg (Dy.val m) = m ∧ m.length ≤ (1048576 : Nat) ∧ (-1099511627776 : Int) ≤ e ∧ e ≤ (1099511627776 : Int)) ∧
  bif decide (IntKind.i64.wrap (Dy.topD (Dy.Dyd.mk s m e) - e') > (131074 : Int)) then Q (AV.bool true)
  else
  (Dy.dg (Dy.val m') = m' ∧
  m'.length ≤ (1048576 : Nat) ∧ (-1099511627776 : Int) ≤ e' ∧ e' ≤ (1099511627776 : Int)) ∧
  Q (AV.bool (decide (IntKind.i64.wrap (Dy.topD (Dy.Dyd.mk s' m' e') - e) > (131074 : Int))))) := by kernel_rfl
theorem vc_ref2_Bound (s : Bool) (m : List
  Nat) (e : Int) (Q : AV →
  Prop) : (evF Tryd.prog (look tab19) (lam []) true Tryd.f76
  [AV.agg [AV.bool s, AV.dig [(1 : Nat)] m, AV.num IntKind.i64 e]] Q) =
  (bif decide ((↑m.length : Int) > (4096 : Int)) then
  Q
  (AV.tup
  [AV.agg [AV.bool false, AV.dig [(0 : Nat), (1 : Nat)] [], AV.num IntKind.i64 (0 : Int)],
  AV.num IntKind.i64 (3 : Int)])
 else
  bif decide (e < (-16777216 : Int)) then
  Q
  (AV.tup
  [AV.agg [AV.bool false, AV.dig [(0 : Nat), (1 : Nat)] [], AV.num IntKind.i64 (0 : Int)],
  AV.num IntKind.i64 (20 : Int)])
  else
  bif decide (e > (16777216 : Int)) then
  Q
  (AV.tup
  [AV.agg [AV.bool false, AV.dig [(0 : Nat), (1 : Nat)] [], AV.num IntKind.i64 (0 : Int)],
  AV.num IntKind.i64 (20 : Int)])
  else
  Q
  (AV.tup
  [AV.agg [AV.bool s, AV.dig [(0 : Nat), (1 : Nat)] m, AV.num IntKind.i64 e],
  AV.num IntKind.i64 (0 : Int)])) := by kernel_rfl
theorem vc_ref2_Shift (s : Bool) (m : List
  Nat) (e : Int) (n : Int) (Q : AV →
  Prop) : (evF Tryd.prog (look tab19) (lam []) true Tryd.f35
  [AV.agg [AV.bool s, AV.dig [(1 : Nat)] m, AV.num IntKind.i64 e], AV.num IntKind.i64 n] Q) =
  (bif decide ((↑m.length : Int) > (0 : Int)) then
  Q (AV.agg [AV.bool s, AV.dig [(0 : Nat), (1 : Nat), (2 : Nat)] m, AV.num IntKind.i64 (IntKind.i64.wrap (e + n))])
 else Q (AV.agg [AV.bool s, AV.dig [(0 : Nat), (1 : Nat), (2 : Nat)] m, AV.num IntKind.i64 e])) := by kernel_rfl
theorem vc_ref2_Cut (s : Bool) (m : List
  Nat) (e : Int) (b : Int) (Q : AV →
  Prop) : (evF Tryd.prog (look tab19) (lam []) true Tryd.f38
  [AV.agg [AV.bool s, AV.dig [(1 : Nat)] m, AV.num IntKind.i64 e], AV.num IntKind.i64 b] Q) =
  ((Dy.dg (Dy.val m) = m ∧ m.length ≤ (1048576 : Nat)) ∧
  bif decide (IntKind.i64.wrap ((↑(Dy.bl (Dy.val m)) : Int) - b) ≤ (0 : Int)) then
  Q (AV.tup [AV.agg [AV.bool s, AV.dig [(0 : Nat), (1 : Nat), (2 : Nat)] m, AV.num IntKind.i64 e], AV.bool false])
  else
  (Dy.dg (Dy.val m) = m ∧
  (0 : Int) ≤ IntKind.i64.wrap ((↑(Dy.bl (Dy.val m)) : Int) - b) ∧ m.length ≤ (1048576 : Nat)) ∧
  ∀ (l1 : List Nat),
  l1 = Dy.dg (Dy.val m / (2 : Nat) ^ (IntKind.i64.wrap ((↑(Dy.bl (Dy.val m)) : Int) - b)).toNat) →
  ∀ (b2 : Bool),
  b2 =
  decide
  (Dy.val m ≠ (0 : Nat) ∧
  (↑(Dy.tz (Dy.val m)) : Int) < IntKind.i64.wrap ((↑(Dy.bl (Dy.val m)) : Int) - b)) →
  (Dy.dg (Dy.val l1) = l1 ∧
  l1.length ≤ (1048576 : Nat) ∧
  (-1099511627776 : Int) ≤ IntKind.i64.wrap (e + IntKind.i64.wrap ((↑(Dy.bl (Dy.val m)) : Int) - b)) ∧
  IntKind.i64.wrap (e + IntKind.i64.wrap ((↑(Dy.bl (Dy.val m)) : Int) - b)) ≤
  (1099511627776 : Int)) ∧
  ∀ (b3 : Bool),
  b3 =
  (Dy.form s (Dy.val l1)
  (IntKind.i64.wrap (e + IntKind.i64.wrap ((↑(Dy.bl (Dy.val m)) : Int) - b)))).neg →
  ∀ (l4 : List Nat),
  l4 =
  (Dy.form s (Dy.val l1)
  (IntKind.i64.wrap (e + IntKind.i64.wrap ((↑(Dy.bl (Dy.val m)) : Int) - b)))).mag →
  ∀ (n5 : Int),
  n5 =
  (Dy.form s (Dy.val l1)
  (IntKind.i64.wrap (e + IntKind.i64.wrap ((↑(Dy.bl (Dy.val m)) : Int) - b)))).exp →
  Q
  (AV.tup
  [AV.agg
  [AV.bool b3, AV.dig [(0 : Nat), (1 : Nat), (2 : Nat)] l4, AV.num IntKind.i64 n5],
  AV.bool b2])) := by kernel_rfl
theorem vc_ref2_Floor (s : Bool) (m : List
  Nat) (e : Int) (Q : AV →
  Prop) : (evF Tryd.prog (look tab19) (lam []) true Tryd.f37
  [AV.agg [AV.bool s, AV.dig [(1 : Nat)] m, AV.num IntKind.i64 e]] Q) =
  (bif decide (e ≥ (0 : Int)) then Q (AV.agg [AV.bool s, AV.dig [(0 : Nat), (1 : Nat)] m, AV.num IntKind.i64 e])
 else
  (Dy.dg (Dy.val m) = m ∧ (0 : Int) ≤ IntKind.i64.wrap ((0 : Int) - e) ∧ m.length ≤ (1048576 : Nat)) ∧
  ∀ (l1 : List Nat),
  l1 = Dy.dg (Dy.val m / (2 : Nat) ^ (IntKind.i64.wrap ((0 : Int) - e)).toNat) →
  ∀ (b2 : Bool),
  b2 = decide (Dy.val m ≠ (0 : Nat) ∧ (↑(Dy.tz (Dy.val m)) : Int) < IntKind.i64.wrap ((0 : Int) - e)) →
  bif s then
  bif b2 then
  (l1.length ≤ (1048576 : Nat) ∧ (1 : Nat) ≤ (1048576 : Nat)) ∧
  (Dy.dg (Dy.val (Dy.dg (Dy.val l1 + (1 : Nat)))) = Dy.dg (Dy.val l1 + (1 : Nat)) ∧
  (Dy.dg (Dy.val l1 + (1 : Nat))).length ≤ (1048576 : Nat) ∧
  (-1099511627776 : Int) ≤ (0 : Int) ∧ (0 : Int) ≤ (1099511627776 : Int)) ∧
  ∀ (b3 : Bool),
  b3 = (Dy.form s (Dy.val (Dy.dg (Dy.val l1 + (1 : Nat)))) (0 : Int)).neg →
  ∀ (l4 : List Nat),
  l4 = (Dy.form s (Dy.val (Dy.dg (Dy.val l1 + (1 : Nat)))) (0 : Int)).mag →
  ∀ (n5 : Int),
  n5 = (Dy.form s (Dy.val (Dy.dg (Dy.val l1 + (1 : Nat)))) (0 : Int)).exp →
  Q (AV.agg [AV.bool b3, AV.dig [(0 : Nat), (1 : Nat)] l4, AV.num IntKind.i64 n5])
  else
  (Dy.dg (Dy.val l1) = l1 ∧
  l1.length ≤ (1048576 : Nat) ∧
  (-1099511627776 : Int) ≤ (0 : Int) ∧ (0 : Int) ≤ (1099511627776 : Int)) ∧
  ∀ (b6 : Bool),
  b6 = (Dy.form s (Dy.val l1) (0 : Int)).neg →
  ∀ (l7 : List Nat),
  l7 = (Dy.form s (Dy.val l1) (0 : Int)).mag →
  ∀ (n8 : Int),
  n8 = (Dy.form s (Dy.val l1) (0 : Int)).exp →
  Q (AV.agg [AV.bool b6, AV.dig [(0 : Nat), (1 : Nat)] l7, AV.num IntKind.i64 n8])
  else
  (Dy.dg (Dy.val l1) = l1 ∧
  l1.length ≤ (1048576 : Nat) ∧
  (-1099511627776 : Int) ≤ (0 : Int) ∧ (0 : Int) ≤ (1099511627776 : Int)) ∧
  ∀ (b9 : Bool),
  b9 = (Dy.form s (Dy.val l1) (0 : Int)).neg →
  ∀ (l10 : List Nat),
  l10 = (Dy.form s (Dy.val l1) (0 : Int)).mag →
  ∀ (n11 : Int),
  n11 = (Dy.form s (Dy.val l1) (0 : Int)).exp →
  Q
  (AV.agg
  [AV.bool b9, AV.dig [(0 : Nat), (1 : Nat)] l10,
  AV.num IntKind.i64 n11])) := by kernel_rfl
theorem vc_law2_none (s : Bool) (l : Bool) (m : List
  Nat) (e : Int) (f : Int) (w : Int) (Q : AV →
  Prop) : (evF Tryd.prog (look tab19) (lam []) false Tryd.f19
  [AV.agg [AV.bool s, AV.dig [(1 : Nat)] m, AV.num IntKind.i64 e], AV.bool l, AV.num IntKind.i64 f,
  AV.num IntKind.i64 w]
  Q) =
  (bif Dy.sameD (Dy.Dyd.mk s m e) (Dy.Dyd.mk false [] (0 : Int)) then
  bif !l then Q (AV.bool (decide (f = w))) else Q (AV.bool false)
 else Q (AV.bool false)) := by kernel_rfl
theorem vc_ref2_Sub (s : Bool) (s' : Bool) (m : List
  Nat) (m' : List
  Nat) (e : Int) (e' : Int) (Q : AV →
  Prop) : (evF Tryd.prog (look tab20) (lam []) true Tryd.f52
  [AV.agg [AV.bool s, AV.dig [(1 : Nat)] m, AV.num IntKind.i64 e],
  AV.agg [AV.bool s', AV.dig [(2 : Nat)] m', AV.num IntKind.i64 e']]
  Q) =
  (∀ (b1 : Bool),
  (b1 = if m' = [] then s' else !s') →
  ∀ (l2 : List Nat),
  l2 = m' →
  ∀ (n3 : Int),
  n3 = e' →
  (Dy.mayD (Dy.Dyd.mk s m e) = true ∧
  Dy.mayD (Dy.Dyd.mk b1 l2 n3) = true ∧
  (m = [] ∨ l2 = [] ∨ (-300000 : Int) ≤ e - n3 ∧ e - n3 ≤ (300000 : Int))) ∧
  ∀ (b4 : Bool),
  b4 = (Dy.addD (Dy.Dyd.mk s m e) (Dy.Dyd.mk b1 l2 n3)).neg →
  ∀ (l5 : List Nat),
  l5 = (Dy.addD (Dy.Dyd.mk s m e) (Dy.Dyd.mk b1 l2 n3)).mag →
  ∀ (n6 : Int),
  n6 = (Dy.addD (Dy.Dyd.mk s m e) (Dy.Dyd.mk b1 l2 n3)).exp →
  Q
  (AV.agg
  [AV.bool b4, AV.dig [(0 : Nat), (1 : Nat), (2 : Nat)] l5,
  AV.num IntKind.i64 n6])) := by kernel_rfl
theorem vc_ref2_Mul (s : Bool) (s' : Bool) (m : List
  Nat) (m' : List
  Nat) (e : Int) (e' : Int) (Q : AV →
  Prop) : (evF Tryd.prog (look tab20) (lam []) false Tryd.f49
  [AV.agg [AV.bool s, AV.dig [(1 : Nat)] m, AV.num IntKind.i64 e],
  AV.agg [AV.bool s', AV.dig [(2 : Nat)] m', AV.num IntKind.i64 e']]
  Q) =
  ((m.length ≤ (524288 : Nat) ∧ m'.length ≤ (524288 : Nat)) ∧
  (Dy.dg (Dy.val (Dy.dg (Dy.val m * Dy.val m'))) = Dy.dg (Dy.val m * Dy.val m') ∧
  (Dy.dg (Dy.val m * Dy.val m')).length ≤ (1048576 : Nat) ∧
  (-1099511627776 : Int) ≤ IntKind.i64.wrap (e + e') ∧ IntKind.i64.wrap (e + e') ≤ (1099511627776 : Int)) ∧
  ∀ (b1 : Bool),
  b1 = (Dy.form (!s == s') (Dy.val (Dy.dg (Dy.val m * Dy.val m'))) (IntKind.i64.wrap (e + e'))).neg →
  ∀ (l2 : List Nat),
  l2 = (Dy.form (!s == s') (Dy.val (Dy.dg (Dy.val m * Dy.val m'))) (IntKind.i64.wrap (e + e'))).mag →
  ∀ (n3 : Int),
  n3 = (Dy.form (!s == s') (Dy.val (Dy.dg (Dy.val m * Dy.val m'))) (IntKind.i64.wrap (e + e'))).exp →
  Q (AV.agg [AV.bool b1, AV.dig [(0 : Nat)] l2, AV.num IntKind.i64 n3])) := by kernel_rfl
theorem vc_law2_bound (s : Bool) (s' : Bool) (m : List
  Nat) (m' : List
  Nat) (e : Int) (e' : Int) (f : Int) (Q : AV →
  Prop) : (evF Tryd.prog (look tab20) (lam []) false Tryd.f36
  [AV.agg [AV.bool s, AV.dig [(1 : Nat)] m, AV.num IntKind.i64 e], AV.num IntKind.i64 f,
  AV.agg [AV.bool s', AV.dig [(3 : Nat)] m', AV.num IntKind.i64 e']]
  Q) =
  (∀ (b1 : Bool),
  b1 = (Dy.boundD (Dy.Dyd.mk s' m' e')).1.neg →
  ∀ (l2 : List Nat),
  l2 = (Dy.boundD (Dy.Dyd.mk s' m' e')).1.mag →
  ∀ (n3 : Int),
  n3 = (Dy.boundD (Dy.Dyd.mk s' m' e')).1.exp →
  ∀ (n4 : Int),
  n4 = (Dy.boundD (Dy.Dyd.mk s' m' e')).snd →
  bif Dy.sameD (Dy.Dyd.mk s m e) (Dy.Dyd.mk b1 l2 n3) then Q (AV.bool (decide (f = n4)))
  else Q (AV.bool false)) := by kernel_rfl
theorem vc_ref2_Cmp (s : Bool) (s' : Bool) (m : List
  Nat) (m' : List
  Nat) (e : Int) (e' : Int) (Q : AV →
  Prop) : (evF Tryd.prog (look tab21) (lam []) false Tryd.f48
  [AV.agg [AV.bool s, AV.dig [(1 : Nat)] m, AV.num IntKind.i64 e],
  AV.agg [AV.bool s', AV.dig [(2 : Nat)] m', AV.num IntKind.i64 e']]
  Q) =
  (bif !decide (Dy.signD (Dy.Dyd.mk s m e) = Dy.signD (Dy.Dyd.mk s' m' e')) then
  bif decide (Dy.signD (Dy.Dyd.mk s m e) < Dy.signD (Dy.Dyd.mk s' m' e')) then Q (AV.num IntKind.i64 (-1 : Int))
  else Q (AV.num IntKind.i64 (1 : Int))
 else
  bif decide (Dy.signD (Dy.Dyd.mk s m e) = (0 : Int)) then Q (AV.num IntKind.i64 (0 : Int))
  else
  (Dy.dg (Dy.val m) = m ∧ m.length ≤ (1048576 : Nat) ∧ (-1099511627776 : Int) ≤ e ∧ e ≤ (1099511627776 : Int)) ∧
  (Dy.dg (Dy.val m') = m' ∧
  m'.length ≤ (1048576 : Nat) ∧ (-1099511627776 : Int) ≤ e' ∧ e' ≤ (1099511627776 : Int)) ∧
  bif !decide (Dy.topD (Dy.Dyd.mk s m e) = Dy.topD (Dy.Dyd.mk s' m' e')) then
  (Dy.dg (Dy.val m) = m ∧ m.length ≤ (1048576 : Nat) ∧ (-1099511627776 : Int) ≤ e ∧ e ≤ (1099511627776 : Int)) ∧
  (Dy.dg (Dy.val m') = m' ∧
  m'.length ≤ (1048576 : Nat) ∧ (-1099511627776 : Int) ≤ e' ∧ e' ≤ (1099511627776 : Int)) ∧
  bif
  decide
  (decide (Dy.topD (Dy.Dyd.mk s m e) < Dy.topD (Dy.Dyd.mk s' m' e')) =
  decide (Dy.signD (Dy.Dyd.mk s m e) > (0 : Int))) then
  Q (AV.num IntKind.i64 (-1 : Int))
  else Q (AV.num IntKind.i64 (1 : Int))
  else
  (Dy.mayD (Dy.Dyd.mk s m e) = true ∧
  Dy.mayD (Dy.Dyd.mk s' m' e') = true ∧
  (m = [] ∨ m' = [] ∨ (-300000 : Int) ≤ e - e' ∧ e - e' ≤ (300000 : Int))) ∧
  ∀ (b1 : Bool),
  b1 = (Dy.addD (Dy.Dyd.mk s m e) (Dy.negD (Dy.Dyd.mk s' m' e'))).neg →
  ∀ (l2 : List Nat),
  l2 = (Dy.addD (Dy.Dyd.mk s m e) (Dy.negD (Dy.Dyd.mk s' m' e'))).mag →
  ∀ (n3 : Int),
  n3 = (Dy.addD (Dy.Dyd.mk s m e) (Dy.negD (Dy.Dyd.mk s' m' e'))).exp →
  Q (AV.num IntKind.i64 (Dy.signD (Dy.Dyd.mk b1 l2 n3)))) := by kernel_rfl
def lsRMO : List AV → Option LR
  | [.dig [1, 2, 3] a, .dig [1, 2, 3] b, .grown 63 o, .num .u64 low, .num .u64 high, .num .i64 k] =>
  some (.need (Dy.okl a ∧ Dy.okl b ∧ a.length ≤ 524288 ∧ b.length ≤ 524288 ∧ 0 < a.length ∧ 0 < b.length ∧ o = [] ∧ low = 0 ∧ high = 0 ∧ k = 0)
  (.done (.exit 0) [.dig [1, 2, 3] a, .dig [1, 2, 3] b, .grown 63 (Dy.dgN (a.length + b.length) (Dy.val a * Dy.val b)), .num .u64 0, .num .u64 0, .num .i64 ((a.length + b.length : Nat) : Int)]))
  | _ => none
def keepRMO : List (Nat × Keep) := [(0, .same), (1, .same), (5, .grow 63), (6, .same), (7, .same), (8, .same)]
def lsRMI : List AV → Option LR
  | [.dig [1, 2, 3] a, .dig [1, 2, 3] b, .num .u64 low, .num .u64 high, .num .i64 k, .num .i64 i, .grown 63 o] =>
  some (.need (Dy.okl a ∧ Dy.okl b ∧ a.length ≤ 524288 ∧ b.length ≤ 524288 ∧ 0 ≤ low ∧ low < 18446744073709551616 ∧ 0 ≤ high ∧ high ≤ 16 ∧ 0 ≤ k ∧ k < a.length + b.length ∧ 0 < b.length ∧ i = (if (b.length : Int) ≤ k then k - b.length + 1 else 0))
  (.done (.exit 2) [.dig [1, 2, 3] a, .dig [1, 2, 3] b, .num .u64 ((low.toNat + 18446744073709551616 * high.toNat + Dy.column a b k.toNat a.length) % 18446744073709551616 : Nat), .num .u64 ((low.toNat + 18446744073709551616 * high.toNat + Dy.column a b k.toNat a.length) / 18446744073709551616 : Nat),
  .num .i64 k, .num .i64 (min (k + 1) a.length), .grown 63 o]))
  | _ => none
def keepRMI : List (Nat × Keep) := [(0, .same), (1, .same), (6, .same), (7, .same), (8, .same), (10, .same), (5, .same)]
def lamRM := lam [(7, .spec keepRMO lsRMO), (13, .spec keepRMI lsRMI)]
theorem vc_ref_Mul (a : List
  Nat) (b : List
  Nat) (Q : AV →
  Prop) : (evF Tryd.prog (look tab19) lamRM false Tryd.f81 [AV.dig [(1 : Nat)] a, AV.dig [(2 : Nat)] b] Q) =
  (bif decide ((↑a.length : Int) = (0 : Int)) then Q (AV.dig [(0 : Nat)] [])
 else
  bif decide ((↑b.length : Int) = (0 : Int)) then Q (AV.dig [(0 : Nat)] [])
  else
  (Dy.okl a ∧
  Dy.okl b ∧
  a.length ≤ (524288 : Nat) ∧
  b.length ≤ (524288 : Nat) ∧
  (0 : Nat) < a.length ∧
  (0 : Nat) < b.length ∧
  ([] : List Nat) = [] ∧ (0 : Int) = (0 : Int) ∧ (0 : Int) = (0 : Int) ∧ (0 : Int) = (0 : Int)) ∧
  Q (AV.dig [(0 : Nat)] (Dy.dg (Dy.val (Dy.dgN (a.length + b.length) (Dy.val a * Dy.val b)))))) := by kernel_rfl
theorem vc_ref_Mul_1 (a : List
  Nat) (b : List
  Nat) (o : List
  Nat) (low : Int) (high : Int) (k : Int) (K : Exit →
  List AV →
  Prop) : (evIter Tryd.prog (look tab19) lamRM (2 : Nat) (85 : Nat) keepRMO (bodyN Tryd.f81 (0 : Nat))
  [AV.dig [(1 : Nat), (2 : Nat), (3 : Nat)] a, AV.dig [(1 : Nat), (2 : Nat), (3 : Nat)] b, AV.grown (63 : TypeId) o,
  AV.num IntKind.u64 low, AV.num IntKind.u64 high, AV.num IntKind.i64 k]
  K) =
  (bif decide (k < IntKind.i64.wrap ((↑a.length : Int) + (↑b.length : Int))) then
  bif decide (k ≥ (↑b.length : Int)) then
  (Dy.okl a ∧
  Dy.okl b ∧
  a.length ≤ (524288 : Nat) ∧
  b.length ≤ (524288 : Nat) ∧
  (0 : Int) ≤ low ∧
  low < (18446744073709551616 : Int) ∧
  (0 : Int) ≤ high ∧
  high ≤ (16 : Int) ∧
  (0 : Int) ≤ k ∧
  k < (↑a.length : Int) + (↑b.length : Int) ∧
  (0 : Nat) < b.length ∧
  IntKind.i64.wrap (IntKind.i64.wrap (k - (↑b.length : Int)) + (1 : Int)) =
  if (↑b.length : Int) ≤ k then k - (↑b.length : Int) + (1 : Int) else (0 : Int)) ∧
  ((0 : Nat) ≤
  [(IntKind.u32.wrap
  (↑((low.toNat + (18446744073709551616 : Nat) * high.toNat + Dy.column a b k.toNat a.length) %
  (18446744073709551616 : Nat)) :
  Int)).toNat].length ∧
  o.length +
  [(IntKind.u32.wrap
  (↑((low.toNat + (18446744073709551616 : Nat) * high.toNat + Dy.column a b k.toNat a.length) %
  (18446744073709551616 : Nat)) :
  Int)).toNat].length ≤
  (1099511627776 : Nat)) ∧
  K Exit.normal
  [AV.dig [(1 : Nat), (2 : Nat), (3 : Nat)] a, AV.dig [(1 : Nat), (2 : Nat), (3 : Nat)] b,
  AV.grown (63 : Nat)
  (o ++
  [(IntKind.u32.wrap
  (↑((low.toNat + (18446744073709551616 : Nat) * high.toNat + Dy.column a b k.toNat a.length) %
  (18446744073709551616 : Nat)) :
  Int)).toNat]),
  AV.num IntKind.u64
  (IntKind.u64.wrap
  (↑(BitVec.ofInt (64 : Nat)
  ((↑((low.toNat + (18446744073709551616 : Nat) * high.toNat + Dy.column a b k.toNat a.length) %
  (18446744073709551616 : Nat)) :
  Int).fdiv
  ((2 : Int) ^ (32 : Nat))) |||
  BitVec.ofInt (64 : Nat)
  (IntKind.u64.wrap
  ((↑((low.toNat + (18446744073709551616 : Nat) * high.toNat +
  Dy.column a b k.toNat a.length) /
  (18446744073709551616 : Nat)) :
  Int) *
  (2 : Int) ^ (32 : Nat)))).toNat :
  Int)),
  AV.num IntKind.u64
  ((↑((low.toNat + (18446744073709551616 : Nat) * high.toNat + Dy.column a b k.toNat a.length) /
  (18446744073709551616 : Nat)) :
  Int).fdiv
  ((2 : Int) ^ (32 : Nat))),
  AV.num IntKind.i64 (IntKind.i64.wrap (k + (1 : Int)))]
  else
  (Dy.okl a ∧
  Dy.okl b ∧
  a.length ≤ (524288 : Nat) ∧
  b.length ≤ (524288 : Nat) ∧
  (0 : Int) ≤ low ∧
  low < (18446744073709551616 : Int) ∧
  (0 : Int) ≤ high ∧
  high ≤ (16 : Int) ∧
  (0 : Int) ≤ k ∧
  k < (↑a.length : Int) + (↑b.length : Int) ∧
  (0 : Nat) < b.length ∧
  (0 : Int) =
  if (↑b.length : Int) ≤ k then k - (↑b.length : Int) + (1 : Int) else (0 : Int)) ∧
  ((0 : Nat) ≤
  [(IntKind.u32.wrap
  (↑((low.toNat + (18446744073709551616 : Nat) * high.toNat + Dy.column a b k.toNat a.length) %
  (18446744073709551616 : Nat)) :
  Int)).toNat].length ∧
  o.length +
  [(IntKind.u32.wrap
  (↑((low.toNat + (18446744073709551616 : Nat) * high.toNat + Dy.column a b k.toNat a.length) %
  (18446744073709551616 : Nat)) :
  Int)).toNat].length ≤
  (1099511627776 : Nat)) ∧
  K Exit.normal
  [AV.dig [(1 : Nat), (2 : Nat), (3 : Nat)] a, AV.dig [(1 : Nat), (2 : Nat), (3 : Nat)] b,
  AV.grown (63 : Nat)
  (o ++
  [(IntKind.u32.wrap
  (↑((low.toNat + (18446744073709551616 : Nat) * high.toNat + Dy.column a b k.toNat a.length) %
  (18446744073709551616 : Nat)) :
  Int)).toNat]),
  AV.num IntKind.u64
  (IntKind.u64.wrap
  (↑(BitVec.ofInt (64 : Nat)
  ((↑((low.toNat + (18446744073709551616 : Nat) * high.toNat + Dy.column a b k.toNat a.length) %
  (18446744073709551616 : Nat)) :
  Int).fdiv
  ((2 : Int) ^ (32 : Nat))) |||
  BitVec.ofInt (64 : Nat)
  (IntKind.u64.wrap
  ((↑((low.toNat + (18446744073709551616 : Nat) * high.toNat +
  Dy.column a b k.toNat a.length) /
  (18446744073709551616 : Nat)) :
  Int) *
  (2 : Int) ^ (32 : Nat)))).toNat :
  Int)),
  AV.num IntKind.u64
  ((↑((low.toNat + (18446744073709551616 : Nat) * high.toNat + Dy.column a b k.toNat a.length) /
  (18446744073709551616 : Nat)) :
  Int).fdiv
  ((2 : Int) ^ (32 : Nat))),
  AV.num IntKind.i64 (IntKind.i64.wrap (k + (1 : Int)))]
 else
  K (Exit.exit (0 : Nat))
  [AV.dig [(1 : Nat), (2 : Nat), (3 : Nat)] a, AV.dig [(1 : Nat), (2 : Nat), (3 : Nat)] b, AV.grown (63 : Nat) o,
  AV.num IntKind.u64 low, AV.num IntKind.u64 high, AV.num IntKind.i64 k]) := by kernel_rfl
theorem vc_ref_Mul_2 (a : List
  Nat) (b : List
  Nat) (o : List
  Nat) (low : Int) (high : Int) (k : Int) (i : Int) (K : Exit →
  List AV →
  Prop) : (evIter Tryd.prog (look tab19) lamRM (2 : Nat) (85 : Nat) keepRMI (bodyN Tryd.f81 (1 : Nat))
  [AV.dig [(1 : Nat), (2 : Nat), (3 : Nat)] a, AV.dig [(1 : Nat), (2 : Nat), (3 : Nat)] b, AV.num IntKind.u64 low,
  AV.num IntKind.u64 high, AV.num IntKind.i64 k, AV.num IntKind.i64 i, AV.grown (63 : TypeId) o]
  K) =
  (bif decide (i ≤ k) then
  bif decide (i < (↑a.length : Int)) then
  ((0 : Int) ≤ i ∧ i < (↑a.length : Int)) ∧
  ((0 : Int) ≤ IntKind.i64.wrap (k - i) ∧ IntKind.i64.wrap (k - i) < (↑b.length : Int)) ∧
  bif
  decide
  (IntKind.u64.wrap
  (low +
  IntKind.u64.wrap
  (IntKind.u64.wrap (↑(a.getD i.toNat (0 : Nat)) : Int) *
  IntKind.u64.wrap (↑(b.getD (IntKind.i64.wrap (k - i)).toNat (0 : Nat)) : Int))) <
  IntKind.u64.wrap
  (IntKind.u64.wrap (↑(a.getD i.toNat (0 : Nat)) : Int) *
  IntKind.u64.wrap (↑(b.getD (IntKind.i64.wrap (k - i)).toNat (0 : Nat)) : Int))) then
  K Exit.normal
  [AV.dig [(1 : Nat), (2 : Nat), (3 : Nat)] a, AV.dig [(1 : Nat), (2 : Nat), (3 : Nat)] b,
  AV.num IntKind.u64
  (IntKind.u64.wrap
  (low +
  IntKind.u64.wrap
  (IntKind.u64.wrap (↑(a.getD i.toNat (0 : Nat)) : Int) *
  IntKind.u64.wrap (↑(b.getD (IntKind.i64.wrap (k - i)).toNat (0 : Nat)) : Int)))),
  AV.num IntKind.u64 (IntKind.u64.wrap (high + (1 : Int))), AV.num IntKind.i64 k,
  AV.num IntKind.i64 (IntKind.i64.wrap (i + (1 : Int))), AV.grown (63 : Nat) o]
  else
  K Exit.normal
  [AV.dig [(1 : Nat), (2 : Nat), (3 : Nat)] a, AV.dig [(1 : Nat), (2 : Nat), (3 : Nat)] b,
  AV.num IntKind.u64
  (IntKind.u64.wrap
  (low +
  IntKind.u64.wrap
  (IntKind.u64.wrap (↑(a.getD i.toNat (0 : Nat)) : Int) *
  IntKind.u64.wrap (↑(b.getD (IntKind.i64.wrap (k - i)).toNat (0 : Nat)) : Int)))),
  AV.num IntKind.u64 high, AV.num IntKind.i64 k, AV.num IntKind.i64 (IntKind.i64.wrap (i + (1 : Int))),
  AV.grown (63 : Nat) o]
  else
  K (Exit.exit (2 : Nat))
  [AV.dig [(1 : Nat), (2 : Nat), (3 : Nat)] a, AV.dig [(1 : Nat), (2 : Nat), (3 : Nat)] b, AV.num IntKind.u64 low,
  AV.num IntKind.u64 high, AV.num IntKind.i64 k, AV.num IntKind.i64 i, AV.grown (63 : Nat) o]
 else
  K (Exit.exit (2 : Nat))
  [AV.dig [(1 : Nat), (2 : Nat), (3 : Nat)] a, AV.dig [(1 : Nat), (2 : Nat), (3 : Nat)] b, AV.num IntKind.u64 low,
  AV.num IntKind.u64 high, AV.num IntKind.i64 k, AV.num IntKind.i64 i, AV.grown (63 : Nat) o]) := by kernel_rfl
end Go.AI

namespace Go.Dy
theorem column_cons (x : Nat) (a b : List Nat) (k : Nat) : ∀ n, column (x :: a) b (k + 1) (n + 1) = x * b.getD (k + 1) 0 + column a b k n
  | 0 => by simp [column]
  | n + 1 => by
    rw [column, column_cons x a b k n]
    show _ + (if n + 1 ≤ k + 1 then a.getD n 0 * b.getD (k + 1 - (n + 1)) 0 else 0) = x * b.getD (k + 1) 0 + (column a b k n + (if n ≤ k then a.getD n 0 * b.getD (k - n) 0 else 0))
    rw [show k + 1 - (n + 1) = k - n by omega]
    by_cases c : n ≤ k
    · rw [if_pos c, if_pos (by omega)]; omega
    · rw [if_neg c, if_neg (by omega)]; omega
theorem column_zero (x : Nat) (a b : List Nat) : ∀ n, column (x :: a) b 0 (n + 1) = x * b.getD 0 0
  | 0 => by simp [column]
  | n + 1 => by rw [column, column_zero x a b n, if_neg (by omega)]; rfl
def cols (a b : List Nat) (m : Nat) : Nat → Nat
  | 0 => 0
  | n + 1 => cols a b m n + 2 ^ (32 * n) * column a b n m
theorem val_take_step (b : List Nat) (n : Nat) : val (b.take (n + 1)) = val (b.take n) + 2 ^ (32 * n) * b.getD n 0 := by
  by_cases c : n < b.length
  · exact val_take_succ c
  · rw [List.take_of_length_le (by omega), List.take_of_length_le (by omega), List.getD_eq_getElem?_getD, List.getElem?_eq_none (by omega)]
    simp
theorem cols_cons (x : Nat) (a b : List Nat) (m : Nat) : ∀ n, cols (x :: a) b (m + 1) (n + 1) = x * val (b.take (n + 1)) + 4294967296 * cols a b m n
  | 0 => by
    rw [val_take_step]
    simp [cols, column_zero, val]
  | n + 1 => by
    rw [cols, cols_cons x a b m n, val_take_step b (n + 1), column_cons, cols]
    have e : 2 ^ (32 * (n + 1)) = 2 ^ (32 * n) * 4294967296 := pow_split n
    rw [e]
    generalize 2 ^ (32 * n) = P
    generalize val (List.take (n + 1) b) = V
    generalize b.getD (n + 1) 0 = y
    generalize column a b n m = C
    generalize cols a b m n = D
    have h1 : P * 4294967296 * (x * y) = x * (P * 4294967296 * y) := Nat.mul_left_comm _ _ _
    have h2 : P * 4294967296 * C = 4294967296 * (P * C) := by rw [Nat.mul_comm P, Nat.mul_assoc]
    rw [Nat.mul_add (P * 4294967296), h1, h2, Nat.mul_add, Nat.mul_add]
    omega
theorem cols_mul (b : List Nat) : ∀ (a : List Nat) (n : Nat), a.length + b.length ≤ n → cols a b a.length n = val a * val b
  | [], n, _ => by
    have : ∀ n, cols [] b 0 n = 0 := by
      intro n
      induction n with
      | zero => rfl
      | succ n ih => rw [cols, ih]; simp [column]
    simp [val, this]
  | x :: a, n, h => by
    obtain ⟨n, rfl⟩ : ∃ j, n = j + 1 := ⟨n - 1, by simp at h; omega⟩
    simp only [List.length_cons] at h ⊢
    rw [cols_cons, cols_mul b a n (by omega), List.take_of_length_le (by omega)]
    simp only [val]
    rw [Nat.add_mul, Nat.mul_assoc]
theorem column_le {a b : List Nat} (ha : digs a) (hb : digs b) (k : Nat) : ∀ n, column a b k n ≤ n * 18446744065119617025
  | 0 => by simp [column]
  | n + 1 => by
    rw [column, Nat.add_mul, Nat.one_mul]
    refine Nat.add_le_add (column_le ha hb k n) ?_
    split
    · have h1 := digs_getD ha n
      have h2 := digs_getD hb (k - n)
      exact Nat.le_trans (Nat.mul_le_mul (show _ ≤ 4294967295 by omega) (show _ ≤ 4294967295 by omega)) (by decide)
    · omega
theorem column_low {a b : List Nat} {k : Nat} : ∀ {n}, n + b.length ≤ k + 1 → column a b k n = 0
  | 0, _ => rfl
  | n + 1, h => by
    rw [column, column_low (by omega)]
    by_cases c : n ≤ k
    · rw [if_pos c, List.getD_eq_getElem?_getD (l := b), List.getElem?_eq_none (by omega)]; simp
    · rw [if_neg c]
theorem column_stop {a b : List Nat} {k i : Nat} (hi : k < i) : ∀ n, i ≤ n → column a b k n = column a b k i
  | 0, h => by
    have : i = 0 := by omega
    rw [this]
  | n + 1, h => by
    by_cases c : i = n + 1
    · rw [c]
    · rw [column, if_neg (by omega), column_stop hi n (by omega)]; rfl
end Go.Dy
namespace Go.AI
open Go Go.RowKit Go.Proofs
set_option linter.unusedVariables false
set_option maxRecDepth 100000
theorem loop_ref_Mul_in : LoopOk Tryd.prog (look tab19) lamRM 2 85 keepRMI (bodyN Tryd.f81 1) lsRMI := by
  intro vals r h K hK
  unfold lsRMI at h
  split at h
  · cases h
    rename_i a b low high k i o
    simp only [evLR] at hK
    obtain ⟨⟨ha, hb, hal, hbl, hlow, hlow1, hhi, hhi1, hk, hkl, hb0, hi⟩, hK⟩ := hK
    obtain ⟨low, rfl⟩ := Int.eq_ofNat_of_zero_le hlow
    obtain ⟨high, rfl⟩ := Int.eq_ofNat_of_zero_le hhi
    obtain ⟨k, rfl⟩ := Int.eq_ofNat_of_zero_le hk
    simp only [Int.toNat_natCast] at hK
    have hcl := fun n => Dy.column_le ha.2 hb.2 k n
    have key : ∀ (u i : Nat), min (k + 1) a.length = u + i → (b.length ≤ k + i + 1 ∨ True) → (k < i + b.length) →
        ∃ m, iterN Tryd.prog (look tab19) lamRM 2 85 keepRMI (bodyN Tryd.f81 1) m [.dig [1, 2, 3] a, .dig [1, 2, 3] b, .num .u64 ((low + 18446744073709551616 * high + Dy.column a b k i) % 18446744073709551616 : Nat),
          .num .u64 ((low + 18446744073709551616 * high + Dy.column a b k i) / 18446744073709551616 : Nat), .num .i64 k, .num .i64 i, .grown 63 o] K := by
      intro u
      induction u with
      | zero =>
        intro i hu _ hbi
        refine iterN_last ?_
        rw [vc_ref_Mul_2]
        have hfin : Dy.column a b k a.length = Dy.column a b k i := by
          by_cases c : k < i
          · exact Dy.column_stop c _ (by omega)
          · rw [show i = a.length by omega]
        have hmin : min ((k : Int) + 1) (a.length : Int) = (i : Int) := by omega
        rw [hfin, hmin] at hK
        by_cases c : i ≤ k
        · exact cond_t (decide_eq_true (by omega)) (cond_f (decide_eq_false (by omega)) hK)
        · exact cond_f (decide_eq_false (by omega)) hK
      | succ u ih =>
        intro i hu _ hbi
        obtain ⟨m, hm⟩ := ih (i + 1) (by omega) (.inr trivial) (by omega)
        refine iterN_next m ?_
        rw [vc_ref_Mul_2]
        have hc1 := hcl i
        have hcol : Dy.column a b k (i + 1) = Dy.column a b k i + a.getD i 0 * b.getD (k - i) 0 := by rw [Dy.column, if_pos (by omega)]
        rw [hcol] at hm
        have hx := Dy.digs_getD ha.2 i
        have hy := Dy.digs_getD hb.2 (k - i)
        have ew : IntKind.i64.wrap ((k : Int) - (i : Int)) = ((k - i : Nat) : Int) := by rw [wrap_i64 (by omega) (by omega)]; omega
        rw [ew, Int.toNat_natCast, Int.toNat_natCast]
        have hp : a.getD i 0 * b.getD (k - i) 0 ≤ 18446744065119617025 := Nat.le_trans (Nat.mul_le_mul (show _ ≤ 4294967295 by omega) (show _ ≤ 4294967295 by omega)) (by decide)
        have hmul : IntKind.u64.wrap (IntKind.u64.wrap ((a.getD i 0 : Nat) : Int) * IntKind.u64.wrap ((b.getD (k - i) 0 : Nat) : Int)) = ((a.getD i 0 * b.getD (k - i) 0 : Nat) : Int) := by
          have e1 : IntKind.u64.wrap ((a.getD i 0 : Nat) : Int) = ((a.getD i 0 : Nat) : Int) := by rw [wrap_u64]; omega
          have e2 : IntKind.u64.wrap ((b.getD (k - i) 0 : Nat) : Int) = ((b.getD (k - i) 0 : Nat) : Int) := by rw [wrap_u64]; omega
          rw [e1, e2, ← Int.natCast_mul, wrap_u64]
          omega
        rw [hmul]
        generalize a.getD i 0 * b.getD (k - i) 0 = p at *
        have hT : low + 18446744073709551616 * high + (Dy.column a b k i + p) = (low + 18446744073709551616 * high + Dy.column a b k i) + p := by omega
        rw [hT] at hm
        have hTb : low + 18446744073709551616 * high + Dy.column a b k i ≤ 18446744073709551616 * 600000 := by
          have : i * 18446744065119617025 ≤ 524288 * 18446744065119617025 := Nat.mul_le_mul_right _ (by omega)
          omega
        generalize low + 18446744073709551616 * high + Dy.column a b k i = T at *
        have e3 : IntKind.u64.wrap (((T % 18446744073709551616 : Nat) : Int) + (p : Int)) = (((T + p) % 18446744073709551616 : Nat) : Int) := by rw [wrap_u64]; omega
        have e4 : IntKind.i64.wrap ((i : Int) + 1) = ((i + 1 : Nat) : Int) := by rw [wrap_i64 (by omega) (by omega)]; omega
        rw [e3, e4]
        refine cond_t (decide_eq_true (by omega)) (cond_t (decide_eq_true (by omega)) ⟨by omega, by omega, ?_⟩)
        by_cases c : (T + p) % 18446744073709551616 < p
        · refine cond_t (decide_eq_true (by omega)) ?_
          have e5 : IntKind.u64.wrap (((T / 18446744073709551616 : Nat) : Int) + 1) = (((T + p) / 18446744073709551616 : Nat) : Int) := by rw [wrap_u64]; omega
          rw [e5]
          exact hm
        · refine cond_f (decide_eq_false (by omega)) ?_
          have e5 : (T + p) / 18446744073709551616 = T / 18446744073709551616 := by omega
          rw [e5] at hm
          exact hm
    have start : ∃ i0 : Nat, i = (i0 : Int) ∧ Dy.column a b k i0 = 0 ∧ i0 ≤ min (k + 1) a.length ∧ k < i0 + b.length := by
      by_cases c : b.length ≤ k
      · rw [if_pos (by omega)] at hi
        exact ⟨k - b.length + 1, by omega, Dy.column_low (by omega), by omega, by omega⟩
      · rw [if_neg (by omega)] at hi
        exact ⟨0, by omega, rfl, by omega, by omega⟩
    obtain ⟨i0, rfl, hz, hle, hbk⟩ := start
    have := key (min (k + 1) a.length - i0) i0 (by omega) (.inr trivial) hbk
    rw [hz, Nat.add_zero, show (low + 18446744073709551616 * high) % 18446744073709551616 = low by omega, show (low + 18446744073709551616 * high) / 18446744073709551616 = high by omega] at this
    exact this
  · cases h
theorem loop_ref_Mul : LoopOk Tryd.prog (look tab19) lamRM 2 85 keepRMO (bodyN Tryd.f81 0) lsRMO := by
  intro vals r h K hK
  unfold lsRMO at h
  split at h
  · cases h
    rename_i a b o low high k
    simp only [evLR] at hK
    obtain ⟨⟨ha, hb, hal, hbl, ha0, hb0, rfl, rfl, rfl, rfl⟩, hK⟩ := hK
    have key : ∀ (u k : Nat) (o : List Nat) (c : Nat), a.length + b.length = u + k → o.length = k → Dy.digs o → c < 18446744073709551616 → Dy.val o + 2 ^ (32 * k) * c = Dy.cols a b a.length k →
        ∃ m, iterN Tryd.prog (look tab19) lamRM 2 85 keepRMO (bodyN Tryd.f81 0) m [.dig [1, 2, 3] a, .dig [1, 2, 3] b, .grown 63 o, .num .u64 c, .num .u64 0, .num .i64 k] K := by
      intro u
      induction u with
      | zero =>
        intro k o c hu hol hod hc hv
        refine iterN_last ?_
        rw [vc_ref_Mul_1, wrap_i64 (by omega) (by omega)]
        refine cond_f (decide_eq_false (by omega)) ?_
        rw [Dy.cols_mul b a k (by omega)] at hv
        have hlt : Dy.val a * Dy.val b < 2 ^ (32 * k) := by
          rw [show k = a.length + b.length by omega, Nat.mul_add, Nat.pow_add]
          exact Nat.mul_lt_mul'' (Dy.val_lt ha.2) (Dy.val_lt hb.2)
        have hc0 : c = 0 := by
          by_cases h0 : c = 0
          · exact h0
          · have : 2 ^ (32 * k) * 1 ≤ 2 ^ (32 * k) * c := Nat.mul_le_mul_left _ (by omega)
            omega
        subst hc0
        rw [Nat.mul_zero, Nat.add_zero] at hv
        rw [← hv, show a.length + b.length = k by omega, Dy.dgN_val' hod hol] at hK
        exact hK
      | succ u ih =>
        intro k o c hu hol hod hc hv
        have hcb := Dy.column_le ha.2 hb.2 k a.length
        have hcb2 : a.length * 18446744065119617025 ≤ 524288 * 18446744065119617025 := Nat.mul_le_mul_right _ hal
        have hcols : Dy.cols a b a.length (k + 1) = Dy.cols a b a.length k + 2 ^ (32 * k) * Dy.column a b k a.length := rfl
        generalize hC : Dy.column a b k a.length = C at *
        have hd : (c + C) % 4294967296 < 4294967296 := Nat.mod_lt _ (by decide)
        obtain ⟨m, hm⟩ := ih (k + 1) (o ++ [(c + C) % 4294967296]) ((c + C) / 4294967296) (by omega) (by simp [hol]) (Dy.digs_append.2 ⟨hod, by intro x hx; simp at hx; rw [hx]; exact hd⟩) (by omega) (by
          rw [Dy.val_snoc, hol, hcols, ← hv, Dy.pow_split, Nat.mul_assoc, Nat.add_assoc, ← Nat.mul_add, Nat.mod_add_div, Nat.mul_add]
          omega)
        refine iterN_next m ?_
        rw [vc_ref_Mul_1]
        rw [wrap_i64 (n := (a.length : Int) + b.length) (by omega) (by omega), wrap_i64 (n := (k : Int) + 1) (by omega) (by omega), wrap_i64 (n := (k : Int) - b.length) (by omega) (by omega), wrap_i64 (n := (k : Int) - b.length + 1) (by omega) (by omega)]
        simp only [Int.toNat_natCast, show (0 : Int).toNat = 0 from rfl, Nat.mul_zero, Nat.add_zero, hC]
        have e1 : (IntKind.u32.wrap (((c + C) % 18446744073709551616 : Nat) : Int)).toNat = (c + C) % 4294967296 := by rw [wrap_u32]; omega
        have e2 : IntKind.u64.wrap ((((c + C) / 18446744073709551616 : Nat) : Int) * 2 ^ 32) = (((c + C) / 18446744073709551616 * 4294967296 : Nat) : Int) := by rw [wrap_u64]; omega
        have e3 : ((((c + C) % 18446744073709551616 : Nat) : Int)).fdiv (2 ^ 32) = (((c + C) % 18446744073709551616 / 4294967296 : Nat) : Int) := by rw [fdiv_pow (by omega), Int.toNat_natCast]
        have e4 : ((((c + C) / 18446744073709551616 : Nat) : Int)).fdiv (2 ^ 32) = 0 := by rw [fdiv_pow (by omega), Int.toNat_natCast]; omega
        have e5 : (c + C) % 18446744073709551616 / 4294967296 ||| (c + C) / 18446744073709551616 * 4294967296 = (c + C) / 4294967296 := by
          rw [Nat.or_comm]
          have := or_low (a := (c + C) / 18446744073709551616) (b := (c + C) % 18446744073709551616 / 4294967296) (k := 32) (by omega)
          rw [show (2 : Nat) ^ 32 = 4294967296 from rfl] at this
          rw [this]
          omega
        rw [e1, e2, e3, e4, w64_or (by omega) (by omega) (by omega) (by omega)]
        simp only [Int.toNat_natCast]
        rw [e5]
        have goal : (0 ≤ [(c + C) % 4294967296].length ∧ o.length + [(c + C) % 4294967296].length ≤ 1099511627776) := ⟨Nat.zero_le _, by simp only [List.length_cons, List.length_nil]; omega⟩
        refine cond_t (decide_eq_true (by omega)) ?_
        by_cases hk : b.length ≤ k
        · exact cond_t (decide_eq_true (by omega)) ⟨⟨ha, hb, hal, hbl, by omega, by omega, by omega, by omega, by omega, by omega, hb0, by rw [if_pos (by omega)]⟩, goal, hm⟩
        · exact cond_f (decide_eq_false (by omega)) ⟨⟨ha, hb, hal, hbl, by omega, by omega, by omega, by omega, by omega, by omega, hb0, by rw [if_neg (by omega)]⟩, goal, hm⟩
    exact key (a.length + b.length) 0 [] 0 (by omega) rfl Dy.digs_nil (by omega) (by simp [Dy.val, Dy.cols])
  · cases h
theorem ok_ref_Mul (args : List AV) (s : Spec) (h : rMul args = some s) (hp : andO s.pre True) : Contract Tryd.prog Inv 81 args s.res := by
  unfold rMul at h
  split at h
  · cases h
    rename_i a b
    obtain ⟨⟨hal, hbl⟩, -⟩ := hp
    refine contract_at false 85 lamRM ok_tab19 Tryd.func81 (by kernel_rfl) rfl (loops2 (by kernel_rfl) (by kernel_rfl) loop_ref_Mul (by kernel_rfl) loop_ref_Mul_in) fun hok => ?_
    obtain ⟨ha, h2⟩ := oks1_dig hok
    have hb := (oks1_dig h2).1
    rw [vc_ref_Mul]
    refine cond_i (fun h => ?_) (fun h => cond_i (fun h1 => ?_) (fun h1 => ?_))
    · have h := List.length_eq_zero_iff.1 (Int.ofNat_eq_zero.1 (of_decide_eq_true h))
      subst h
      simp [Dy.val, Dy.dg_zero]
    · have h1 := List.length_eq_zero_iff.1 (Int.ofNat_eq_zero.1 (of_decide_eq_true h1))
      subst h1
      simp [Dy.val, Dy.dg_zero]
    · have h := of_decide_eq_false h
      have h1 := of_decide_eq_false h1
      refine ⟨⟨ha, hb, hal, hbl, by omega, by omega, rfl, rfl, rfl, rfl⟩, ?_⟩
      rw [Dy.dg_val_dgN]
      rw [Nat.mul_add, Nat.pow_add]
      exact Nat.mul_lt_mul'' (Dy.val_lt ha.2) (Dy.val_lt hb.2)
  · cases h
end Go.AI

namespace Go.Dy
set_option maxRecDepth 100000
theorem addD_ways {s s' : Bool} {m m' : List Nat} {e e' u : Int} {X Y : Nat} (hu : u = min e e') (hX : val m * 2 ^ (e - u).toNat = X) (hY : val m' * 2 ^ (e' - u).toNat = Y) :
    addD ⟨s, m, e⟩ ⟨s', m', e'⟩ = if s = s' then form s (X + Y) u else if Y ≤ X then form s (X - Y) u else form s' (Y - X) u := by
  unfold addD
  rw [at_mk, at_mk]
  simp only [unit]
  rw [← hu, hX, hY]
  by_cases c : s = s'
  · subst c
    rw [if_pos rfl, sgn_add_same, formZ_sgn]
  · rw [if_neg c]
    by_cases c2 : Y ≤ X
    · rw [if_pos c2, sgn_sub c c2, formZ_sgn]
    · rw [if_neg c2, sgn_sub' c (by omega), formZ_sgn]
theorem cmpN_ge {a b : Nat} : cmpN a b ≥ 0 ↔ b ≤ a := by
  have := cmpN_neg (a := a) (b := b)
  constructor
  · intro h
    by_cases c : a < b
    · have := this.2 c; omega
    · omega
  · intro h
    by_cases c : cmpN a b < 0
    · have := this.1 c; omega
    · omega
theorem dg_len {n : Nat} (h : bl n ≤ 33554432) : (dg n).length ≤ 1048576 := length_dg_bl.2 (by omega)
theorem bl_add_le {x y k : Nat} (hx : bl x ≤ k) (hy : bl y ≤ k) : bl (x + y) ≤ k + 1 := by
  have h1 := bl_le.1 hx
  have h2 := bl_le.1 hy
  exact bl_le.2 (by rw [Nat.pow_succ]; omega)
theorem bl_mul_le {n k j : Nat} (h : bl n ≤ j) : bl (n * 2 ^ k) ≤ j + k := by
  by_cases c : n = 0
  · rw [c, Nat.zero_mul, bl_zero]; omega
  · rw [bl_mul_two_pow c]; omega
theorem signD_formZ (z e : Int) : signD (formZ z e) = cmpZ z 0 := by
  by_cases c : z = 0
  · subst c; rfl
  · have hn : z.natAbs ≠ 0 := by omega
    unfold formZ
    rw [form_pos hn]
    unfold signD
    simp only
    have : dg (z.natAbs / 2 ^ tz z.natAbs) ≠ [] := fun e0 => by
      have h0 := dg_eq_nil.1 e0
      have h1 := div_tz_odd hn
      omega
    rw [if_neg this]
    by_cases h : z < 0
    · rw [decide_eq_true h, if_pos rfl, cmpZ_lt h]
    · rw [decide_eq_false h, if_neg (by simp), cmpZ_gt (by omega)]
end Go.Dy
namespace Go.AI
open Go Go.RowKit Go.Proofs
set_option linter.unusedVariables false
set_option maxRecDepth 100000
theorem add_tail {s s' : Bool} {X Y : Nat} {u : Int} {d : Dy.Dyd} (hd : d = if s = s' then Dy.form s (X + Y) u else if Y ≤ X then Dy.form s (X - Y) u else Dy.form s' (Y - X) u)
    (hX : Dy.bl X ≤ 500000) (hY : Dy.bl Y ≤ 500000) (hu : -16777216 ≤ u ∧ u ≤ 16777216) {Q : AV → Prop} (hQ : Q (avD [0, 1, 2] d)) :
    bif decide (s = s') then ((Dy.dg X).length ≤ 1048576 ∧ (Dy.dg Y).length ≤ 1048576) ∧ (True ∧ (Dy.dg (X + Y)).length ≤ 1048576 ∧ -1099511627776 ≤ u ∧ u ≤ 1099511627776) ∧
        ∀ b1, b1 = (Dy.form s (X + Y) u).neg → ∀ l2, l2 = (Dy.form s (X + Y) u).mag → ∀ n3, n3 = (Dy.form s (X + Y) u).exp → Q (.agg [.bool b1, .dig [0, 1, 2] l2, .num .i64 n3])
    else (True ∧ True) ∧ bif decide (Dy.cmpN X Y ≥ 0) then (Y ≤ X ∧ (Dy.dg X).length ≤ 1048576) ∧ (True ∧ (Dy.dg (X - Y)).length ≤ 1048576 ∧ -1099511627776 ≤ u ∧ u ≤ 1099511627776) ∧
          ∀ b1, b1 = (Dy.form s (X - Y) u).neg → ∀ l2, l2 = (Dy.form s (X - Y) u).mag → ∀ n3, n3 = (Dy.form s (X - Y) u).exp → Q (.agg [.bool b1, .dig [0, 1, 2] l2, .num .i64 n3])
      else (X ≤ Y ∧ (Dy.dg Y).length ≤ 1048576) ∧ (True ∧ (Dy.dg (Y - X)).length ≤ 1048576 ∧ -1099511627776 ≤ u ∧ u ≤ 1099511627776) ∧
          ∀ b1, b1 = (Dy.form s' (Y - X) u).neg → ∀ l2, l2 = (Dy.form s' (Y - X) u).mag → ∀ n3, n3 = (Dy.form s' (Y - X) u).exp → Q (.agg [.bool b1, .dig [0, 1, 2] l2, .num .i64 n3]) := by
  have hs := Dy.bl_add_le hX hY
  have h1 := Dy.bl_mono (Nat.sub_le X Y)
  have h2 := Dy.bl_mono (Nat.sub_le Y X)
  have l1 := Dy.dg_len (n := X) (by omega)
  have l2 := Dy.dg_len (n := Y) (by omega)
  have l3 := Dy.dg_len (n := X + Y) (by omega)
  have l4 := Dy.dg_len (n := X - Y) (by omega)
  have l5 := Dy.dg_len (n := Y - X) (by omega)
  refine cond_i (fun h => ?_) (fun h => ?_)
  · rw [if_pos (of_decide_eq_true h)] at hd
    refine ⟨⟨l1, l2⟩, ⟨trivial, l3, by omega, by omega⟩, ?_⟩
    rintro _ rfl _ rfl _ rfl
    rw [hd] at hQ
    exact hQ
  · rw [if_neg (of_decide_eq_false h)] at hd
    refine ⟨⟨trivial, trivial⟩, cond_i (fun h3 => ?_) (fun h3 => ?_)⟩
    · have h3 := Dy.cmpN_ge.1 (of_decide_eq_true h3)
      rw [if_pos h3] at hd
      refine ⟨⟨h3, l1⟩, ⟨trivial, l4, by omega, by omega⟩, ?_⟩
      rintro _ rfl _ rfl _ rfl
      rw [hd] at hQ
      exact hQ
    · have h3 := mt Dy.cmpN_ge.2 (of_decide_eq_false h3)
      rw [if_neg h3] at hd
      refine ⟨⟨by omega, l2⟩, ⟨trivial, l5, by omega, by omega⟩, ?_⟩
      rintro _ rfl _ rfl _ rfl
      rw [hd] at hQ
      exact hQ
theorem ok_ref2_Add (args : List AV) (s : Spec) (h : rAddD args = some s) (hp : andO s.pre True) : Contract Tryd.prog Inv 51 args s.res := by
  unfold rAddD at h
  split at h
  · cases h
    rename_i s m e s' m' e'
    have hd := hp.1.1
    have hd' := hp.1.2.1
    have hg := hp.1.2.2
    refine contract0 true ok_tab19 Tryd.func51 (by kernel_rfl) (by kernel_rfl) fun hok => ?_
    have may1 := Dy.mayD_may hd
    have may2 := Dy.mayD_may hd'
    have n1 := Dy.may_len may1
    have n2 := Dy.may_len may2
    have b1 := Dy.may_bl may1
    have b2 := Dy.may_bl may2
    have x1 := Dy.mayD_exp hd
    have x2 := Dy.mayD_exp hd'
    rw [vc_ref2_Add]
    simp only [Dy.val_dg]
    refine cond_i (fun h => ?_) (fun h => cond_i (fun h1 => ?_) (fun h1 => ?_))
    · have h := List.length_eq_zero_iff.1 (Int.ofNat_eq_zero.1 (of_decide_eq_true h))
      subst h
      rw [Dy.addD_comm, Dy.addD_nil hd' hd]
      rfl
    · have h1 := List.length_eq_zero_iff.1 (Int.ofNat_eq_zero.1 (of_decide_eq_true h1))
      subst h1
      rw [Dy.addD_nil hd hd']
      rfl
    · have hg : -300000 ≤ e - e' ∧ e - e' ≤ 300000 := by
        rcases hg with c | c | c
        · subst c; exact absurd rfl (of_decide_eq_false h)
        · subst c; exact absurd rfl (of_decide_eq_false h1)
        · exact c
      obtain ⟨hg1, hg2⟩ := hg
      refine cond_i (fun h2 => ?_) (fun h2 => ?_)
      · have h2 := of_decide_eq_true h2
        rw [wrap_i64 (n := e - e') (by omega) (by omega), wrap_i64 (n := e' - e') (by omega) (by omega)]
        refine ⟨⟨by omega, by omega, by omega⟩, ⟨by omega, by omega, by omega⟩, ?_⟩
        refine add_tail (Q := fun r => r = avD [0, 1, 2] (Dy.addD ⟨s, m, e⟩ ⟨s', m', e'⟩)) (Dy.addD_ways (s := s) (s' := s') (m := m) (m' := m') (e := e) (e' := e') (u := e') (by omega) rfl rfl) ?_ ?_ (by omega) rfl
        · exact Nat.le_trans (Dy.bl_mul_le b1) (by omega)
        · exact Nat.le_trans (Dy.bl_mul_le b2) (by omega)
      · have h2 := of_decide_eq_false h2
        rw [wrap_i64 (n := e - e) (by omega) (by omega), wrap_i64 (n := e' - e) (by omega) (by omega)]
        refine ⟨⟨by omega, by omega, by omega⟩, ⟨by omega, by omega, by omega⟩, ?_⟩
        refine add_tail (Q := fun r => r = avD [0, 1, 2] (Dy.addD ⟨s, m, e⟩ ⟨s', m', e'⟩)) (Dy.addD_ways (s := s) (s' := s') (m := m) (m' := m') (e := e) (e' := e') (u := e) (by omega) rfl rfl) ?_ ?_ (by omega) rfl
        · exact Nat.le_trans (Dy.bl_mul_le b1) (by omega)
        · exact Nat.le_trans (Dy.bl_mul_le b2) (by omega)
  · cases h
theorem ok_ref2_Far (args : List AV) (s : Spec) (h : rFar args = some s) (hp : andO s.pre True) : Contract Tryd.prog Inv 50 args s.res := by
  unfold rFar at h
  split at h
  · cases h
    rename_i s m e s' m' e'
    have hd := hp.1.1
    have hd' := hp.1.2
    refine contract0 false ok_tab19 Tryd.func50 (by kernel_rfl) (by kernel_rfl) fun hok => ?_
    have may1 := Dy.mayD_may hd
    have may2 := Dy.mayD_may hd'
    have n1 := Dy.may_len may1
    have n2 := Dy.may_len may2
    have b1 := Dy.may_bl may1
    have b2 := Dy.may_bl may2
    have x1 := Dy.mayD_exp hd
    have x2 := Dy.mayD_exp hd'
    rw [vc_ref2_Far]
    unfold Dy.farD
    simp only
    refine cond_i (fun h => ?_) (fun h => cond_i (fun h1 => ?_) (fun h1 => ?_))
    · have h := List.length_eq_zero_iff.1 (Int.ofNat_eq_zero.1 (of_decide_eq_true h))
      rw [decide_eq_false (fun hh => hh.1 h)]
    · have h1 := List.length_eq_zero_iff.1 (Int.ofNat_eq_zero.1 (of_decide_eq_true h1))
      rw [decide_eq_false (fun hh => hh.2.1 h1)]
    · have h := of_decide_eq_false h
      have h1 := of_decide_eq_false h1
      have m1 : m ≠ [] := fun e => h (by rw [e]; rfl)
      have m2 : m' ≠ [] := fun e => h1 (by rw [e]; rfl)
      have t1 : Dy.topD ⟨s, m, e⟩ = e + Dy.bl (Dy.val m) := by unfold Dy.topD; simp only [if_neg m1]
      have t2 : Dy.topD ⟨s', m', e'⟩ = e' + Dy.bl (Dy.val m') := by unfold Dy.topD; simp only [if_neg m2]
      rw [t1, t2, wrap_i64 (by omega) (by omega), wrap_i64 (by omega) (by omega)]
      refine ⟨⟨Dy.may_dg may1, by omega, by omega, by omega⟩, cond_i (fun h2 => ?_) (fun h2 => ⟨⟨Dy.may_dg may2, by omega, by omega, by omega⟩, ?_⟩)⟩
      · have h2 := of_decide_eq_true h2
        rw [decide_eq_true (show _ ∧ _ ∧ _ from ⟨m1, m2, .inl h2⟩)]
      · have h2 := of_decide_eq_false h2
        congr 1
        rw [decide_eq_decide]
        exact ⟨fun h => ⟨m1, m2, .inr h⟩, fun h => h.2.2.resolve_left h2⟩
  · cases h
theorem ok_ref2_Bound (args : List AV) (s : Spec) (h : rBound args = some s) (hp : andO s.pre True) : Contract Tryd.prog Inv 76 args s.res := by
  unfold rBound at h
  split at h
  · cases h
    rename_i s m e
    refine contract0 true ok_tab19 Tryd.func76 (by kernel_rfl) (by kernel_rfl) fun hok => ?_
    rw [vc_ref2_Bound]
    unfold Dy.boundD
    simp only
    have no : ¬ (-16777216 ≤ e ∧ e ≤ 16777216) → ¬ Dy.inside e = true := fun h h' => h (Dy.inside_iff.1 h')
    refine cond_i (fun h => ?_) (fun h => ?_)
    · have h := of_decide_eq_true h
      rw [if_neg (by omega)]
      rfl
    · have h := of_decide_eq_false h
      rw [if_pos (by omega)]
      refine cond_i (fun h1 => ?_) (fun h1 => cond_i (fun h2 => ?_) (fun h2 => ?_))
      · have h1 := of_decide_eq_true h1
        rw [if_neg (no (by omega))]
        rfl
      · have h2 := of_decide_eq_true h2
        rw [if_neg (no (by omega))]
        rfl
      · have h1 := of_decide_eq_false h1
        have h2 := of_decide_eq_false h2
        rw [if_pos (Dy.inside_iff.2 (by omega))]
        rfl
  · cases h
theorem ok_ref2_Shift (args : List AV) (s : Spec) (h : rShiftD args = some s) (hp : andO s.pre True) : Contract Tryd.prog Inv 35 args s.res := by
  unfold rShiftD at h
  split at h
  · cases h
    rename_i s m e n
    have hpp := hp.1
    refine contract0 true ok_tab19 Tryd.func35 (by kernel_rfl) (by kernel_rfl) fun hok => ?_
    rw [vc_ref2_Shift]
    refine cond_i (fun h => ?_) (fun h => ?_)
    · have h := of_decide_eq_true h
      have hm : m ≠ [] := fun e => by rw [e] at h; simp at h
      obtain ⟨p1, p2, p3, p4⟩ := hpp.resolve_left hm
      rw [wrap_i64 (by omega) (by omega)]
      simp only [if_neg hm]
    · have h := of_decide_eq_false h
      have hm : m = [] := List.length_eq_zero_iff.1 (by omega)
      simp only [if_pos hm]
  · cases h
theorem ok_ref2_Cut (args : List AV) (s : Spec) (h : rCut args = some s) (hp : andO s.pre True) : Contract Tryd.prog Inv 38 args s.res := by
  unfold rCut at h
  split at h
  · cases h
    rename_i s m e b
    have hd := hp.1.1
    have hb1 := hp.1.2
    refine contract0 true ok_tab19 Tryd.func38 (by kernel_rfl) (by kernel_rfl) fun hok => ?_
    have h5 := (oks_d hok).2.2
    have hn := range_i64 (oks1_num h5).1
    have may1 := Dy.mayD_may hd
    have n1 := Dy.may_len may1
    have b1 := Dy.may_bl may1
    have x1 := Dy.mayD_exp hd
    rw [vc_ref2_Cut, wrap_i64 (n := (Dy.bl (Dy.val m) : Int) - b) (by omega) (by omega)]
    unfold Dy.cutR Dy.headD Dy.overD
    simp only
    refine ⟨⟨Dy.may_dg may1, by omega⟩, cond_i (fun h => ?_) (fun h => ?_)⟩
    · have h := of_decide_eq_true h
      rw [if_pos h]
      rfl
    · have h := of_decide_eq_false h
      rw [if_neg h]
      have hv : Dy.val m ≠ 0 := fun e0 => by rw [e0, Dy.bl_zero] at h; omega
      have hm0 : m ≠ [] := fun e0 => hv (by rw [e0]; rfl)
      have hz : Dy.tz (Dy.val m) = 0 := Dy.tz_odd (Dy.mayD_odd hd hm0)
      obtain ⟨n, hn'⟩ : ∃ n : Nat, (Dy.bl (Dy.val m) : Int) - b = n := ⟨((Dy.bl (Dy.val m) : Int) - b).toNat, by omega⟩
      rw [hn'] at h ⊢
      rw [wrap_i64 (by omega) (by omega), Int.toNat_natCast, hz, decide_eq_true (show Dy.val m ≠ 0 ∧ ((0 : Nat) : Int) < (n : Int) from ⟨hv, by omega⟩)]
      refine ⟨⟨Dy.may_dg may1, by omega, by omega⟩, ?_⟩
      rintro _ rfl _ rfl
      rw [Dy.val_dg]
      have hb2 : Dy.bl (Dy.val m / 2 ^ n) ≤ 131072 := by rw [Dy.bl_div_two_pow]; omega
      refine ⟨⟨rfl, Dy.dg_len (by omega), by omega, by omega⟩, ?_⟩
      rintro _ rfl _ rfl _ rfl
      rfl
  · cases h
theorem ok_ref2_Floor (args : List AV) (s : Spec) (h : rFloor args = some s) (hp : andO s.pre True) : Contract Tryd.prog Inv 37 args s.res := by
  unfold rFloor at h
  split at h
  · cases h
    rename_i s m e
    have hd := hp.1
    refine contract0 true ok_tab19 Tryd.func37 (by kernel_rfl) (by kernel_rfl) fun hok => ?_
    have may1 := Dy.mayD_may hd
    have n1 := Dy.may_len may1
    have b1 := Dy.may_bl may1
    have x1 := Dy.mayD_exp hd
    rw [vc_ref2_Floor]
    unfold Dy.floorD
    simp only
    refine cond_i (fun h => ?_) (fun h => ?_)
    · have h := of_decide_eq_true h
      rw [if_pos (by omega)]
      rfl
    · have h := of_decide_eq_false h
      rw [if_neg (by omega)]
      have hm0 : m ≠ [] := fun e0 => by subst e0; have := (Dy.mayD_nil hd).2; omega
      have hv := Dy.val_ne may1 hm0
      obtain ⟨k, hk⟩ : ∃ k : Nat, e = -(k : Int) := ⟨(-e).toNat, by omega⟩
      subst hk
      rw [wrap_i64 (n := 0 - -(k : Int)) (by omega) (by omega), show (0 : Int) - -(k : Int) = (k : Int) by omega, Int.toNat_natCast, Dy.int_mk, show (- -(k : Int)).toNat = k by omega, Dy.floor_sgn, Dy.formZ_sgn]
      have hq : Dy.bl (Dy.val m / 2 ^ k) ≤ 131072 := by rw [Dy.bl_div_two_pow]; omega
      have hq1 := Dy.bl_half_succ hq
      have hdec : decide (Dy.val m ≠ 0 ∧ (Dy.tz (Dy.val m) : Int) < (k : Int)) = decide (Dy.val m % 2 ^ k ≠ 0) := by
        rw [← Dy.lost_iff hv, decide_eq_decide]
        exact ⟨fun h => h.2, fun h => ⟨hv, h⟩⟩
      refine ⟨⟨Dy.may_dg may1, by omega, by omega⟩, ?_⟩
      rintro _ rfl _ rfl
      rw [hdec]
      simp only [Dy.val_dg]
      cases s
      · refine cond_f rfl ⟨⟨trivial, Dy.dg_len (by omega), by omega, by omega⟩, ?_⟩
        simp only [Bool.false_and, Bool.false_eq_true, if_false]
        rintro _ rfl _ rfl _ rfl
        rfl
      · refine cond_t rfl (cond_i (fun h2 => ?_) (fun h2 => ?_))
        · rw [h2]
          simp only [Bool.and_self, if_true]
          refine ⟨⟨Dy.dg_len (by omega), by omega⟩, ⟨trivial, Dy.dg_len (by omega), by omega, by omega⟩, ?_⟩
          rintro _ rfl _ rfl _ rfl
          rfl
        · rw [h2]
          simp only [Bool.and_false, Bool.false_eq_true, if_false]
          refine ⟨⟨trivial, Dy.dg_len (by omega), by omega, by omega⟩, ?_⟩
          rintro _ rfl _ rfl _ rfl
          rfl
  · cases h
theorem ok_law2_none (args : List AV) (s : Spec) (h : lNone args = some s) (hp : andO s.pre True) : Contract Tryd.prog Inv 19 args s.res := by
  unfold lNone at h
  split at h
  · cases h
    rename_i s m e l f w
    refine contract0 false ok_tab19 Tryd.func19 (by kernel_rfl) (by kernel_rfl) fun hok => ?_
    rw [vc_law2_none]
    unfold Dy.zeroD
    refine cond_i (fun h => cond_i (fun h1 => ?_) (fun h1 => ?_)) (fun h => ?_)
    · rw [h, h1, Bool.true_and, Bool.true_and]
    · rw [h1, Bool.false_and, Bool.and_false]
    · rw [h, Bool.false_and]
  · cases h
theorem ok_tab20 : PhiOk Tryd.prog Inv (look tab20) :=
  look_cons (look_cons (look_cons (look_cons (look_cons (look_cons (look_cons (look_cons ok_tab19 ok_law2_none) ok_ref2_Floor) ok_ref2_Cut) ok_ref2_Shift) ok_ref2_Bound) ok_ref2_Far) ok_ref2_Add) ok_ref_Mul
theorem ok_ref2_Sub (args : List AV) (s : Spec) (h : rSubD args = some s) (hp : andO s.pre True) : Contract Tryd.prog Inv 52 args s.res := by
  unfold rSubD at h
  split at h
  · cases h
    rename_i s m e s' m' e'
    have hd := hp.1.1
    have hd' := hp.1.2.1
    have hg := hp.1.2.2
    refine contract0 true ok_tab20 Tryd.func52 (by kernel_rfl) (by kernel_rfl) fun hok => ?_
    have hneg : (if m' = [] then s' else !s') = (!s' && decide (m' ≠ [])) := by
      by_cases c : m' = []
      · subst c
        rw [(Dy.mayD_nil hd').1]
        rfl
      · simp [c]
    rw [vc_ref2_Sub, hneg]
    rintro _ rfl _ rfl _ rfl
    refine ⟨⟨hd, mayD_neg hd', hg⟩, ?_⟩
    rintro _ rfl _ rfl _ rfl
    rfl
  · cases h
theorem ok_ref2_Mul (args : List AV) (s : Spec) (h : rMulD args = some s) (hp : andO s.pre True) : Contract Tryd.prog Inv 49 args s.res := by
  unfold rMulD at h
  split at h
  · cases h
    rename_i s m e s' m' e'
    have hd := hp.1.1
    have hd' := hp.1.2
    refine contract0 false ok_tab20 Tryd.func49 (by kernel_rfl) (by kernel_rfl) fun hok => ?_
    have may1 := Dy.mayD_may hd
    have may2 := Dy.mayD_may hd'
    have n1 := Dy.may_len may1
    have n2 := Dy.may_len may2
    have b1 := Dy.may_bl may1
    have b2 := Dy.may_bl may2
    have x1 := Dy.mayD_exp hd
    have x2 := Dy.mayD_exp hd'
    have hb : Dy.bl (Dy.val m * Dy.val m') ≤ 262144 := by
      have gen : ∀ K : Nat, Dy.bl (Dy.val m) ≤ K → Dy.bl (Dy.val m') ≤ K → Dy.bl (Dy.val m * Dy.val m') ≤ K + K := fun K h1 h2 => by
        refine Dy.bl_le.2 ?_
        rw [Nat.pow_add]
        exact Nat.mul_lt_mul'' (Dy.bl_le.1 h1) (Dy.bl_le.1 h2)
      exact gen _ b1 b2
    rw [vc_ref2_Mul, wrap_i64 (by omega) (by omega)]
    simp only [Dy.val_dg]
    refine ⟨⟨by omega, by omega⟩, ⟨trivial, Dy.dg_len (by omega), by omega, by omega⟩, ?_⟩
    rintro _ rfl _ rfl _ rfl
    rfl
  · cases h
theorem ok_law2_bound (args : List AV) (s : Spec) (h : lBound args = some s) (hp : andO s.pre True) : Contract Tryd.prog Inv 36 args s.res := by
  unfold lBound at h
  split at h
  · cases h
    refine contract0 false ok_tab20 Tryd.func36 (by kernel_rfl) (by kernel_rfl) fun hok => ?_
    rw [vc_law2_bound]
    rintro _ rfl _ rfl _ rfl _ rfl
    refine cond_i (fun h => ?_) (fun h => ?_)
    · have h' : Dy.sameD _ (Dy.boundD _).1 = true := h
      rw [h', Bool.true_and]
    · have h' : Dy.sameD _ (Dy.boundD _).1 = false := h
      rw [h', Bool.false_and]
  · cases h
theorem ok_tab21 : PhiOk Tryd.prog Inv (look tab21) := look_cons (look_cons (look_cons ok_tab20 ok_law2_bound) ok_ref2_Mul) ok_ref2_Sub
theorem neg_alt {s' : Bool} {m' : List Nat} {e' : Int} (hd' : Dy.mayD ⟨s', m', e'⟩ = true) : Dy.mayD (Dy.negD ⟨s', m', e'⟩) = true := mayD_neg hd'
theorem ok_ref2_Cmp (args : List AV) (s : Spec) (h : rCmpD args = some s) (hp : andO s.pre True) : Contract Tryd.prog Inv 48 args s.res := by
  unfold rCmpD at h
  split at h
  · cases h
    rename_i s m e s' m' e'
    have hd := hp.1.1
    have hd' := hp.1.2
    refine contract0 false ok_tab21 Tryd.func48 (by kernel_rfl) (by kernel_rfl) fun hok => ?_
    have may1 := Dy.mayD_may hd
    have may2 := Dy.mayD_may hd'
    have n1 := Dy.may_len may1
    have n2 := Dy.may_len may2
    have b1 := Dy.may_bl may1
    have b2 := Dy.may_bl may2
    have x1 := Dy.mayD_exp hd
    have x2 := Dy.mayD_exp hd'
    obtain ⟨k1, k2, k3⟩ := Dy.cmpD_sign hd hd'
    rw [vc_ref2_Cmp]
    refine cond_i (fun h => ?_) (fun h => ?_)
    · simp only [Bool.not_eq_true', decide_eq_false_iff_not] at h
      refine cond_i (fun h1 => ?_) (fun h1 => ?_)
      · rw [k1 (of_decide_eq_true h1)]
      · have h1 := of_decide_eq_false h1
        rw [k2 (by omega)]
    · simp only [Bool.not_eq_false', decide_eq_true_eq] at h
      obtain ⟨k4, k5⟩ := k3 h
      refine cond_i (fun h1 => ?_) (fun h1 => ?_)
      · have h1 := of_decide_eq_true h1
        rw [k5, h1, Int.zero_mul]
      · have h1 := of_decide_eq_false h1
        have hm : m ≠ [] := fun e0 => h1 (by unfold Dy.signD; simp only [if_pos e0])
        have hm' : m' ≠ [] := fun e0 => hm (k4.2 e0)
        have v1 := Dy.val_ne may1 hm
        have v2 := Dy.val_ne may2 hm'
        have t1 : Dy.topD ⟨s, m, e⟩ = e + Dy.bl (Dy.val m) := by unfold Dy.topD; simp only [if_neg hm]
        have t2 : Dy.topD ⟨s', m', e'⟩ = e' + Dy.bl (Dy.val m') := by unfold Dy.topD; simp only [if_neg hm']
        have sg : Dy.signD ⟨s, m, e⟩ = -1 ∨ Dy.signD ⟨s, m, e⟩ = 1 := by
          unfold Dy.signD at h1 ⊢
          simp only [if_neg hm] at h1 ⊢
          cases s <;> simp
        have q1 := Dy.bl_mul_two_pow v1 (e - min e e').toNat
        have q2 := Dy.bl_mul_two_pow v2 (e' - min e e').toNat
        rw [t1, t2]
        refine ⟨⟨Dy.may_dg may1, by omega, by omega, by omega⟩, ⟨Dy.may_dg may2, by omega, by omega, by omega⟩, cond_i (fun h2 => ?_) (fun h2 => ?_)⟩
        · simp only [Bool.not_eq_true', decide_eq_false_iff_not] at h2
          refine ⟨⟨Dy.may_dg may1, by omega, by omega, by omega⟩, ⟨Dy.may_dg may2, by omega, by omega, by omega⟩, ?_⟩
          have hcmp : Dy.cmpZ (Dy.val m * 2 ^ (e - min e e').toNat : Nat) (Dy.val m' * 2 ^ (e' - min e e').toNat : Nat) = if e + Dy.bl (Dy.val m) < e' + Dy.bl (Dy.val m') then -1 else 1 := by
            by_cases c : e + (Dy.bl (Dy.val m) : Int) < e' + (Dy.bl (Dy.val m') : Int)
            · rw [if_pos c]
              have := Dy.bl_lt (a := Dy.val m * 2 ^ (e - min e e').toNat) (b := Dy.val m' * 2 ^ (e' - min e e').toNat) (by omega)
              exact Dy.cmpZ_lt (by omega)
            · rw [if_neg c]
              have := Dy.bl_lt (a := Dy.val m' * 2 ^ (e' - min e e').toNat) (b := Dy.val m * 2 ^ (e - min e e').toNat) (by omega)
              exact Dy.cmpZ_gt (by omega)
          rw [k5, hcmp]
          by_cases c : e + (Dy.bl (Dy.val m) : Int) < e' + (Dy.bl (Dy.val m') : Int)
          · rw [if_pos c, decide_eq_true c]
            rcases sg with g | g <;> rw [g] <;> rfl
          · rw [if_neg c, decide_eq_false c]
            rcases sg with g | g <;> rw [g] <;> rfl
        · simp only [Bool.not_eq_false', decide_eq_true_eq] at h2
          refine ⟨⟨hd, hd', .inr (.inr ⟨by omega, by omega⟩)⟩, ?_⟩
          rintro _ rfl _ rfl _ rfl
          have hn := mayD_neg hd'
          have u1 : min e e' ≤ e := by omega
          have u2 : min e e' ≤ e' := by omega
          have key : Dy.signD (Dy.addD ⟨s, m, e⟩ (Dy.negD ⟨s', m', e'⟩)) = Dy.cmpZ (Dy.at_ ⟨s, m, e⟩ (min e e') + -Dy.at_ ⟨s', m', e'⟩ (min e e')) 0 := by
            rw [Dy.addD_at (u := min e e') (by exact u1) (by exact u2), Dy.at_negD]
            exact Dy.signD_formZ _ _
          have fin : Dy.cmpD ⟨s, m, e⟩ ⟨s', m', e'⟩ = Dy.cmpZ (Dy.at_ ⟨s, m, e⟩ (min e e')) (Dy.at_ ⟨s', m', e'⟩ (min e e')) := Dy.cmpD_at u1 u2
          have := (cmp_chain (Dy.at_ ⟨s, m, e⟩ (min e e')) (Dy.at_ ⟨s', m', e'⟩ (min e e')) 0).2.2.2.2
          rw [fin, ← this, ← key]
  · cases h
theorem ok_tab22 : PhiOk Tryd.prog Inv (look tab22) := look_cons ok_tab21 ok_ref2_Cmp
end Go.AI

namespace Go.AI
open Go Go.RowKit Go.Proofs
set_option linter.unusedVariables false
set_option maxRecDepth 100000
section
variable {P : Program} {Inv : World → Prop} {na : Nat} {β0 : Nat → Nat → Prop} {w0 : World} {Φ : Nat → List AV → Option Spec} {ops : Array Oper}
/-- the first operations of a region in the text's order -/
theorem evR_tail (hΦ : PhiOk P Inv Φ) (hGrow : ∀ w', GrowS (β0 (na + 1)) w0 w' → Inv w') {Q : Exit → Act → World → Prop} {K : St → Prop} {T : List Oper}
    (hK : ∀ σ β a w, R na β0 w0 σ β a w → K σ → wpList P ops Q T a w) (lim : Nat) : ∀ (L : List Oper) (m : Nat) (σ : St) (β : Nat → Nat → Prop) (a : Act) (w : World), R na β0 w0 σ β a w → Ready na σ m L →
    evR P Φ na false lim ops (number m L) σ K → wpList P ops Q (L ++ T) a w
  | [], m, σ, β, a, w, hR, _, h => hK σ β a w hR h
  | o :: L, m, σ, β, a, w, hR, hrd, h => by
    have hInv : Inv w := hGrow _ hR.grow
    simp only [number, evR] at h
    have take : ∀ {k}, stepK P Φ na false (sees lim ops o) σ (m, o) k → (∀ σ', k σ' → evR P Φ na false lim ops (number (if allocates o.op then m + 1 else m) L) σ' K) → Region.wanted o (yielded ops a.tmps) = true → wpList P ops Q (o :: L ++ T) a w := by
      intro k hs hk hw
      obtain ⟨e, he, _, h2, h3⟩ := step_sound hR hInv hΦ hs (fun ha => hrd.free ha)
      rw [List.cons_append]
      unfold wpList
      rw [if_pos hw]
      refine .inl (h3 _ _ fun β' a' w' hR' => ?_)
      exact evR_tail hΦ hGrow hK lim L _ _ β' a' w' hR' (hrd.step (Sub.refl _) he) (hk _ h2)
    have pass : evR P Φ na false lim ops (number (if allocates o.op then m + 1 else m) L) (σ.put o.dst (.tup [])) K → Region.wanted o (yielded ops a.tmps) = false → wpList P ops Q (o :: L ++ T) a w := by
      intro hs hw
      rw [List.cons_append]
      unfold wpList
      rw [if_neg (by simp [hw])]
      exact evR_tail hΦ hGrow hK lim L _ _ β _ w (hR.put o.dst V_undef) (hrd.put _ _) hs
    split at h
    · rename_i hg
      exact take h (fun _ h => h) (by simp [Region.wanted, hg])
    · rename_i j want hg
      split at h
      · exact h.elim
      · rename_i d hj
        split at h
        · rename_i b hd
          have hw := wanted_of (ops := ops) hR hg hj hd
          obtain ⟨hput, _⟩ := hR.put_same hd
          cases b <;> simp only [cond_true, cond_false] at h <;> rw [hput] at h <;> cases want <;> simp only [cond_true, cond_false] at h
          · exact take h (fun _ h => h) hw
          · exact pass h hw
          · exact pass h hw
          · exact take h (fun _ h => h) hw
        · rename_i hd
          exact pass h (unwanted_of hR hg hj hd)
        · exact h.elim
end

/-! the helper's code, in its parts -/
noncomputable def mcode : Code := Tryd.f23.body.getD .skip
noncomputable def partL : Code → Code
  | .seq a _ => a
  | c => c
noncomputable def partR : Code → Code
  | .seq _ b => b
  | c => c
noncomputable def inside : Code → Code
  | .block _ c => c
  | .loop c => c
  | c => c
noncomputable def regOps : Code → Array Oper
  | .region _ ops _ => ops
  | _ => #[]
noncomputable def mR0 : Array Oper := regOps (partL mcode)
noncomputable def mL1 : Code := inside (inside (partR mcode))
noncomputable def mR1 : Array Oper := regOps (partL (partL mL1))
noncomputable def mB1 : Code := inside (partL (partR mL1))
noncomputable def mR2 : Array Oper := regOps (partR (partR mL1))
noncomputable def mR3 : Array Oper := regOps (partL mB1)
noncomputable def mL2 : Code := inside (inside (partR mB1))
noncomputable def mR4 : Array Oper := regOps (partL (partL mL2))
noncomputable def mR6 : Array Oper := regOps (inside (partL (partR mL2)))
noncomputable def mR5 : Array Oper := regOps (partR (partR mL2))
theorem mbody : Tryd.f23.body = some (.seq (.region 0 mR0 false) (.block 0 (.loop (.seq (.seq (.region 1 mR1 false) (.cond (.tmp 7) .skip (.exit 0)))
    (.seq (.block 1 (.seq (.region 3 mR3 false) (.block 2 (.loop (.seq (.seq (.region 4 mR4 false) (.cond (.tmp 17) .skip (.exit 2))) (.seq (.block 3 (.region 6 mR6 false)) (.region 5 mR5 false))))))) (.region 2 mR2 false)))))) := by kernel_rfl

/-- a number of the list that is handed in -/
structure Mk where
  neg : Bool
  mag : List Nat
  exp : Int
def mkAV (d : Mk) : AV := .agg [.bool d.neg, .dig [1] d.mag, .num .i64 d.exp]
def mkL (ds : List Mk) : List AV := ds.map mkAV
/-- the frame at a loop's head -/
def mhead (ds : List Mk) (i k : AV) : St := ⟨.vec [1] 3 (mkL ds) :: .junk :: i :: k :: List.replicate 23 .junk, [.arena, .arena]⟩
end Go.AI

namespace Go.AI
open Go Go.RowKit Go.Proofs
set_option linter.unusedVariables false
set_option maxRecDepth 100000
set_option maxHeartbeats 0
theorem ev_m0 (ds : List
  Mk) (K : St →
  Prop) : (evR Tryd.prog (look []) (1 : Nat) false (2 : Nat) mR0 (number (2 : Nat) mR0.toList)
  (St.mk (AV.vec [(1 : Nat)] (3 : Nat) (mkL ds) :: List.replicate (26 : Nat) AV.junk) [Box.arena, Box.arena]) K) =
  (K
  (St.mk
  [AV.vec [(1 : Nat)] (3 : Nat) (List.map mkAV ds), AV.junk, AV.num IntKind.i64 (0 : Int), AV.junk, AV.junk, AV.junk,
  AV.junk, AV.junk, AV.junk, AV.junk, AV.junk, AV.junk, AV.junk, AV.junk, AV.junk, AV.junk, AV.junk, AV.junk,
  AV.junk, AV.junk, AV.junk, AV.junk, AV.junk, AV.junk, AV.junk, AV.junk, AV.junk]
  [Box.arena, Box.arena])) := by kernel_rfl
theorem ev_m2 (ds : List
  Mk) (i : Int) (k : AV) (K : St →
  Prop) : (evR Tryd.prog (look []) (1 : Nat) false (2 : Nat) mR2 (number (2 : Nat) mR2.toList)
  (mhead ds (AV.num IntKind.i64 i) k) K) =
  (K
  (St.mk
  [AV.vec [(1 : Nat)] (3 : Nat) (List.map mkAV ds), AV.junk, AV.num IntKind.i64 (IntKind.i64.wrap (i + (1 : Int))), k,
  AV.junk, AV.junk, AV.junk, AV.junk, AV.num IntKind.i64 i, AV.num IntKind.i64 (IntKind.i64.wrap (i + (1 : Int))),
  AV.junk, AV.junk, AV.junk, AV.junk, AV.junk, AV.junk, AV.junk, AV.junk, AV.junk, AV.junk, AV.junk, AV.junk,
  AV.junk, AV.junk, AV.junk, AV.junk, AV.junk]
  [Box.arena, Box.arena])) := by kernel_rfl
theorem ev_m3 (ds : List
  Mk) (i : Int) (k : AV) (K : St →
  Prop) : (evR Tryd.prog (look []) (1 : Nat) false (2 : Nat) mR3 (number (2 : Nat) mR3.toList)
  (mhead ds (AV.num IntKind.i64 i) k) K) =
  (K
  (St.mk
  [AV.vec [(1 : Nat)] (3 : Nat) (List.map mkAV ds), AV.junk, AV.num IntKind.i64 i, AV.num IntKind.i64 (0 : Int),
  AV.junk, AV.junk, AV.junk, AV.junk, AV.junk, AV.junk, AV.junk, AV.junk, AV.junk, AV.junk, AV.junk, AV.junk,
  AV.junk, AV.junk, AV.junk, AV.junk, AV.junk, AV.junk, AV.junk, AV.junk, AV.junk, AV.junk, AV.junk]
  [Box.arena, Box.arena])) := by kernel_rfl
theorem ev_m5 (ds : List
  Mk) (i : Int) (k : Int) (K : St →
  Prop) : (evR Tryd.prog (look []) (1 : Nat) false (2 : Nat) mR5 (number (2 : Nat) mR5.toList)
  (mhead ds (AV.num IntKind.i64 i) (AV.num IntKind.i64 k)) K) =
  (K
  (St.mk
  [AV.vec [(1 : Nat)] (3 : Nat) (List.map mkAV ds), AV.junk, AV.num IntKind.i64 i,
  AV.num IntKind.i64 (IntKind.i64.wrap (k + (1 : Int))), AV.junk, AV.junk, AV.junk, AV.junk, AV.junk, AV.junk,
  AV.junk, AV.junk, AV.junk, AV.junk, AV.junk, AV.junk, AV.junk, AV.junk, AV.num IntKind.i64 k,
  AV.num IntKind.i64 (IntKind.i64.wrap (k + (1 : Int))), AV.junk, AV.junk, AV.junk, AV.junk, AV.junk, AV.junk,
  AV.junk]
  [Box.arena, Box.arena])) := by kernel_rfl
theorem ev_m1_1 (d0 : Mk) (i : Int) (k : AV) (K : St →
  Prop) : (evR Tryd.prog (look []) (1 : Nat) false (2 : Nat) mR1 (number (2 : Nat) mR1.toList)
  (mhead [d0] (AV.num IntKind.i64 i) k) K) =
  (K
  (St.mk
  [AV.vec [(1 : Nat)] (3 : Nat) [AV.agg [AV.bool d0.1, AV.dig [(1 : Nat)] d0.2, AV.num IntKind.i64 d0.3]], AV.junk,
  AV.num IntKind.i64 i, k, AV.num IntKind.i64 i,
  AV.vec [(1 : Nat)] (3 : Nat) [AV.agg [AV.bool d0.1, AV.dig [(1 : Nat)] d0.2, AV.num IntKind.i64 d0.3]],
  AV.num IntKind.i64 (↑[AV.agg [AV.bool d0.1, AV.dig [(1 : Nat)] d0.2, AV.num IntKind.i64 d0.3]].length : Int),
  AV.bool (decide (i < (↑[AV.agg [AV.bool d0.1, AV.dig [(1 : Nat)] d0.2, AV.num IntKind.i64 d0.3]].length : Int))),
  AV.junk, AV.junk, AV.junk, AV.junk, AV.junk, AV.junk, AV.junk, AV.junk, AV.junk, AV.junk, AV.junk, AV.junk,
  AV.junk, AV.junk, AV.junk, AV.junk, AV.junk, AV.junk, AV.junk]
  [Box.arena, Box.arena])) := by kernel_rfl
theorem ev_m4_1_0 (d0 : Mk) (k : Int) (K : St →
  Prop) : (evR Tryd.prog (look []) (1 : Nat) false (2 : Nat) mR4 (number (2 : Nat) mR4.toList)
  (mhead [d0] (AV.num IntKind.i64 (0 : Int)) (AV.num IntKind.i64 k)) K) =
  (((0 : Int) ≤ (0 : Int) ∧
  (0 : Int) < (↑[AV.agg [AV.bool d0.1, AV.dig [(1 : Nat)] d0.2, AV.num IntKind.i64 d0.3]].length : Int)) ∧
  K
  (St.mk
  [AV.vec [(1 : Nat)] (3 : Nat) [AV.agg [AV.bool d0.1, AV.dig [(1 : Nat)] d0.2, AV.num IntKind.i64 d0.3]], AV.junk,
  AV.num IntKind.i64 (0 : Int), AV.num IntKind.i64 k, AV.junk, AV.junk, AV.junk, AV.junk, AV.junk, AV.junk,
  AV.num IntKind.i64 k,
  AV.vec [(1 : Nat)] (3 : Nat) [AV.agg [AV.bool d0.1, AV.dig [(1 : Nat)] d0.2, AV.num IntKind.i64 d0.3]],
  AV.num IntKind.i64 (0 : Int),
  AV.cref [(1 : Nat)] [AV.bool d0.1, AV.dig [(1 : Nat)] d0.2, AV.num IntKind.i64 d0.3],
  AV.cref [(1 : Nat)] [AV.dig [(1 : Nat)] d0.2, AV.num IntKind.i64 d0.3], AV.dig [(1 : Nat)] d0.2,
  AV.num IntKind.i64 (↑d0.2.length : Int), AV.bool (decide (k < (↑d0.2.length : Int))), AV.junk, AV.junk, AV.junk,
  AV.junk, AV.junk, AV.junk, AV.junk, AV.junk, AV.junk]
  [Box.arena, Box.arena])) := by kernel_rfl
theorem ev_m6_1_0 (d0 : Mk) (k : Int) (K : St →
  Prop) : (evR Tryd.prog (look []) (1 : Nat) false (2 : Nat) mR6 (number (2 : Nat) (List.take (7 : Nat) mR6.toList))
  (mhead [d0] (AV.num IntKind.i64 (0 : Int)) (AV.num IntKind.i64 k)) K) =
  (((0 : Int) ≤ (0 : Int) ∧
  (0 : Int) < (↑[AV.agg [AV.bool d0.1, AV.dig [(1 : Nat)] d0.2, AV.num IntKind.i64 d0.3]].length : Int)) ∧
  ((0 : Int) ≤ k ∧ k < (↑d0.2.length : Int)) ∧
  K
  (St.mk
  [AV.vec [(1 : Nat)] (3 : Nat) [AV.agg [AV.bool d0.1, AV.dig [(1 : Nat)] d0.2, AV.num IntKind.i64 d0.3]],
  AV.junk, AV.num IntKind.i64 (0 : Int), AV.num IntKind.i64 k, AV.junk, AV.junk, AV.junk, AV.junk, AV.junk,
  AV.junk, AV.junk, AV.junk, AV.junk, AV.junk, AV.junk, AV.junk, AV.junk, AV.junk, AV.junk, AV.junk,
  AV.vec [(1 : Nat)] (3 : Nat) [AV.agg [AV.bool d0.1, AV.dig [(1 : Nat)] d0.2, AV.num IntKind.i64 d0.3]],
  AV.num IntKind.i64 (0 : Int),
  AV.cref [(1 : Nat)] [AV.bool d0.1, AV.dig [(1 : Nat)] d0.2, AV.num IntKind.i64 d0.3],
  AV.cref [(1 : Nat)] [AV.dig [(1 : Nat)] d0.2, AV.num IntKind.i64 d0.3], AV.dig [(1 : Nat)] d0.2,
  AV.num IntKind.i64 k, AV.cref [(1 : Nat)] [AV.num IntKind.u32 (↑(d0.2.getD k.toNat (0 : Nat)) : Int)]]
  [Box.arena, Box.arena])) := by kernel_rfl
theorem ev_m1_2 (d0 : Mk) (d1 : Mk) (i : Int) (k : AV) (K : St →
  Prop) : (evR Tryd.prog (look []) (1 : Nat) false (2 : Nat) mR1 (number (2 : Nat) mR1.toList)
  (mhead [d0, d1] (AV.num IntKind.i64 i) k) K) =
  (K
  (St.mk
  [AV.vec [(1 : Nat)] (3 : Nat)
  [AV.agg [AV.bool d0.1, AV.dig [(1 : Nat)] d0.2, AV.num IntKind.i64 d0.3],
  AV.agg [AV.bool d1.1, AV.dig [(1 : Nat)] d1.2, AV.num IntKind.i64 d1.3]],
  AV.junk, AV.num IntKind.i64 i, k, AV.num IntKind.i64 i,
  AV.vec [(1 : Nat)] (3 : Nat)
  [AV.agg [AV.bool d0.1, AV.dig [(1 : Nat)] d0.2, AV.num IntKind.i64 d0.3],
  AV.agg [AV.bool d1.1, AV.dig [(1 : Nat)] d1.2, AV.num IntKind.i64 d1.3]],
  AV.num IntKind.i64
  (↑[AV.agg [AV.bool d0.1, AV.dig [(1 : Nat)] d0.2, AV.num IntKind.i64 d0.3],
  AV.agg [AV.bool d1.1, AV.dig [(1 : Nat)] d1.2, AV.num IntKind.i64 d1.3]].length :
  Int),
  AV.bool
  (decide
  (i <
  (↑[AV.agg [AV.bool d0.1, AV.dig [(1 : Nat)] d0.2, AV.num IntKind.i64 d0.3],
  AV.agg [AV.bool d1.1, AV.dig [(1 : Nat)] d1.2, AV.num IntKind.i64 d1.3]].length :
  Int))),
  AV.junk, AV.junk, AV.junk, AV.junk, AV.junk, AV.junk, AV.junk, AV.junk, AV.junk, AV.junk, AV.junk, AV.junk,
  AV.junk, AV.junk, AV.junk, AV.junk, AV.junk, AV.junk, AV.junk]
  [Box.arena, Box.arena])) := by kernel_rfl
theorem ev_m4_2_0 (d0 : Mk) (d1 : Mk) (k : Int) (K : St →
  Prop) : (evR Tryd.prog (look []) (1 : Nat) false (2 : Nat) mR4 (number (2 : Nat) mR4.toList)
  (mhead [d0, d1] (AV.num IntKind.i64 (0 : Int)) (AV.num IntKind.i64 k)) K) =
  (((0 : Int) ≤ (0 : Int) ∧
  (0 : Int) <
  (↑[AV.agg [AV.bool d0.1, AV.dig [(1 : Nat)] d0.2, AV.num IntKind.i64 d0.3],
  AV.agg [AV.bool d1.1, AV.dig [(1 : Nat)] d1.2, AV.num IntKind.i64 d1.3]].length :
  Int)) ∧
  K
  (St.mk
  [AV.vec [(1 : Nat)] (3 : Nat)
  [AV.agg [AV.bool d0.1, AV.dig [(1 : Nat)] d0.2, AV.num IntKind.i64 d0.3],
  AV.agg [AV.bool d1.1, AV.dig [(1 : Nat)] d1.2, AV.num IntKind.i64 d1.3]],
  AV.junk, AV.num IntKind.i64 (0 : Int), AV.num IntKind.i64 k, AV.junk, AV.junk, AV.junk, AV.junk, AV.junk,
  AV.junk, AV.num IntKind.i64 k,
  AV.vec [(1 : Nat)] (3 : Nat)
  [AV.agg [AV.bool d0.1, AV.dig [(1 : Nat)] d0.2, AV.num IntKind.i64 d0.3],
  AV.agg [AV.bool d1.1, AV.dig [(1 : Nat)] d1.2, AV.num IntKind.i64 d1.3]],
  AV.num IntKind.i64 (0 : Int),
  AV.cref [(1 : Nat)] [AV.bool d0.1, AV.dig [(1 : Nat)] d0.2, AV.num IntKind.i64 d0.3],
  AV.cref [(1 : Nat)] [AV.dig [(1 : Nat)] d0.2, AV.num IntKind.i64 d0.3], AV.dig [(1 : Nat)] d0.2,
  AV.num IntKind.i64 (↑d0.2.length : Int), AV.bool (decide (k < (↑d0.2.length : Int))), AV.junk, AV.junk, AV.junk,
  AV.junk, AV.junk, AV.junk, AV.junk, AV.junk, AV.junk]
  [Box.arena, Box.arena])) := by kernel_rfl
theorem ev_m6_2_0 (d0 : Mk) (d1 : Mk) (k : Int) (K : St →
  Prop) : (evR Tryd.prog (look []) (1 : Nat) false (2 : Nat) mR6 (number (2 : Nat) (List.take (7 : Nat) mR6.toList))
  (mhead [d0, d1] (AV.num IntKind.i64 (0 : Int)) (AV.num IntKind.i64 k)) K) =
  (((0 : Int) ≤ (0 : Int) ∧
  (0 : Int) <
  (↑[AV.agg [AV.bool d0.1, AV.dig [(1 : Nat)] d0.2, AV.num IntKind.i64 d0.3],
  AV.agg [AV.bool d1.1, AV.dig [(1 : Nat)] d1.2, AV.num IntKind.i64 d1.3]].length :
  Int)) ∧
  ((0 : Int) ≤ k ∧ k < (↑d0.2.length : Int)) ∧
  K
  (St.mk
  [AV.vec [(1 : Nat)] (3 : Nat)
  [AV.agg [AV.bool d0.1, AV.dig [(1 : Nat)] d0.2, AV.num IntKind.i64 d0.3],
  AV.agg [AV.bool d1.1, AV.dig [(1 : Nat)] d1.2, AV.num IntKind.i64 d1.3]],
  AV.junk, AV.num IntKind.i64 (0 : Int), AV.num IntKind.i64 k, AV.junk, AV.junk, AV.junk, AV.junk, AV.junk,
  AV.junk, AV.junk, AV.junk, AV.junk, AV.junk, AV.junk, AV.junk, AV.junk, AV.junk, AV.junk, AV.junk,
  AV.vec [(1 : Nat)] (3 : Nat)
  [AV.agg [AV.bool d0.1, AV.dig [(1 : Nat)] d0.2, AV.num IntKind.i64 d0.3],
  AV.agg [AV.bool d1.1, AV.dig [(1 : Nat)] d1.2, AV.num IntKind.i64 d1.3]],
  AV.num IntKind.i64 (0 : Int),
  AV.cref [(1 : Nat)] [AV.bool d0.1, AV.dig [(1 : Nat)] d0.2, AV.num IntKind.i64 d0.3],
  AV.cref [(1 : Nat)] [AV.dig [(1 : Nat)] d0.2, AV.num IntKind.i64 d0.3], AV.dig [(1 : Nat)] d0.2,
  AV.num IntKind.i64 k, AV.cref [(1 : Nat)] [AV.num IntKind.u32 (↑(d0.2.getD k.toNat (0 : Nat)) : Int)]]
  [Box.arena, Box.arena])) := by kernel_rfl
theorem ev_m4_2_1 (d0 : Mk) (d1 : Mk) (k : Int) (K : St →
  Prop) : (evR Tryd.prog (look []) (1 : Nat) false (2 : Nat) mR4 (number (2 : Nat) mR4.toList)
  (mhead [d0, d1] (AV.num IntKind.i64 (1 : Int)) (AV.num IntKind.i64 k)) K) =
  (((0 : Int) ≤ (1 : Int) ∧
  (1 : Int) <
  (↑[AV.agg [AV.bool d0.1, AV.dig [(1 : Nat)] d0.2, AV.num IntKind.i64 d0.3],
  AV.agg [AV.bool d1.1, AV.dig [(1 : Nat)] d1.2, AV.num IntKind.i64 d1.3]].length :
  Int)) ∧
  K
  (St.mk
  [AV.vec [(1 : Nat)] (3 : Nat)
  [AV.agg [AV.bool d0.1, AV.dig [(1 : Nat)] d0.2, AV.num IntKind.i64 d0.3],
  AV.agg [AV.bool d1.1, AV.dig [(1 : Nat)] d1.2, AV.num IntKind.i64 d1.3]],
  AV.junk, AV.num IntKind.i64 (1 : Int), AV.num IntKind.i64 k, AV.junk, AV.junk, AV.junk, AV.junk, AV.junk,
  AV.junk, AV.num IntKind.i64 k,
  AV.vec [(1 : Nat)] (3 : Nat)
  [AV.agg [AV.bool d0.1, AV.dig [(1 : Nat)] d0.2, AV.num IntKind.i64 d0.3],
  AV.agg [AV.bool d1.1, AV.dig [(1 : Nat)] d1.2, AV.num IntKind.i64 d1.3]],
  AV.num IntKind.i64 (1 : Int),
  AV.cref [(1 : Nat)] [AV.bool d1.1, AV.dig [(1 : Nat)] d1.2, AV.num IntKind.i64 d1.3],
  AV.cref [(1 : Nat)] [AV.dig [(1 : Nat)] d1.2, AV.num IntKind.i64 d1.3], AV.dig [(1 : Nat)] d1.2,
  AV.num IntKind.i64 (↑d1.2.length : Int), AV.bool (decide (k < (↑d1.2.length : Int))), AV.junk, AV.junk, AV.junk,
  AV.junk, AV.junk, AV.junk, AV.junk, AV.junk, AV.junk]
  [Box.arena, Box.arena])) := by kernel_rfl
theorem ev_m6_2_1 (d0 : Mk) (d1 : Mk) (k : Int) (K : St →
  Prop) : (evR Tryd.prog (look []) (1 : Nat) false (2 : Nat) mR6 (number (2 : Nat) (List.take (7 : Nat) mR6.toList))
  (mhead [d0, d1] (AV.num IntKind.i64 (1 : Int)) (AV.num IntKind.i64 k)) K) =
  (((0 : Int) ≤ (1 : Int) ∧
  (1 : Int) <
  (↑[AV.agg [AV.bool d0.1, AV.dig [(1 : Nat)] d0.2, AV.num IntKind.i64 d0.3],
  AV.agg [AV.bool d1.1, AV.dig [(1 : Nat)] d1.2, AV.num IntKind.i64 d1.3]].length :
  Int)) ∧
  ((0 : Int) ≤ k ∧ k < (↑d1.2.length : Int)) ∧
  K
  (St.mk
  [AV.vec [(1 : Nat)] (3 : Nat)
  [AV.agg [AV.bool d0.1, AV.dig [(1 : Nat)] d0.2, AV.num IntKind.i64 d0.3],
  AV.agg [AV.bool d1.1, AV.dig [(1 : Nat)] d1.2, AV.num IntKind.i64 d1.3]],
  AV.junk, AV.num IntKind.i64 (1 : Int), AV.num IntKind.i64 k, AV.junk, AV.junk, AV.junk, AV.junk, AV.junk,
  AV.junk, AV.junk, AV.junk, AV.junk, AV.junk, AV.junk, AV.junk, AV.junk, AV.junk, AV.junk, AV.junk,
  AV.vec [(1 : Nat)] (3 : Nat)
  [AV.agg [AV.bool d0.1, AV.dig [(1 : Nat)] d0.2, AV.num IntKind.i64 d0.3],
  AV.agg [AV.bool d1.1, AV.dig [(1 : Nat)] d1.2, AV.num IntKind.i64 d1.3]],
  AV.num IntKind.i64 (1 : Int),
  AV.cref [(1 : Nat)] [AV.bool d1.1, AV.dig [(1 : Nat)] d1.2, AV.num IntKind.i64 d1.3],
  AV.cref [(1 : Nat)] [AV.dig [(1 : Nat)] d1.2, AV.num IntKind.i64 d1.3], AV.dig [(1 : Nat)] d1.2,
  AV.num IntKind.i64 k, AV.cref [(1 : Nat)] [AV.num IntKind.u32 (↑(d1.2.getD k.toNat (0 : Nat)) : Int)]]
  [Box.arena, Box.arena])) := by kernel_rfl
theorem ev_m1_3 (d0 : Mk) (d1 : Mk) (d2 : Mk) (i : Int) (k : AV) (K : St →
  Prop) : (evR Tryd.prog (look []) (1 : Nat) false (2 : Nat) mR1 (number (2 : Nat) mR1.toList)
  (mhead [d0, d1, d2] (AV.num IntKind.i64 i) k) K) =
  (K
  (St.mk
  [AV.vec [(1 : Nat)] (3 : Nat)
  [AV.agg [AV.bool d0.1, AV.dig [(1 : Nat)] d0.2, AV.num IntKind.i64 d0.3],
  AV.agg [AV.bool d1.1, AV.dig [(1 : Nat)] d1.2, AV.num IntKind.i64 d1.3],
  AV.agg [AV.bool d2.1, AV.dig [(1 : Nat)] d2.2, AV.num IntKind.i64 d2.3]],
  AV.junk, AV.num IntKind.i64 i, k, AV.num IntKind.i64 i,
  AV.vec [(1 : Nat)] (3 : Nat)
  [AV.agg [AV.bool d0.1, AV.dig [(1 : Nat)] d0.2, AV.num IntKind.i64 d0.3],
  AV.agg [AV.bool d1.1, AV.dig [(1 : Nat)] d1.2, AV.num IntKind.i64 d1.3],
  AV.agg [AV.bool d2.1, AV.dig [(1 : Nat)] d2.2, AV.num IntKind.i64 d2.3]],
  AV.num IntKind.i64
  (↑[AV.agg [AV.bool d0.1, AV.dig [(1 : Nat)] d0.2, AV.num IntKind.i64 d0.3],
  AV.agg [AV.bool d1.1, AV.dig [(1 : Nat)] d1.2, AV.num IntKind.i64 d1.3],
  AV.agg [AV.bool d2.1, AV.dig [(1 : Nat)] d2.2, AV.num IntKind.i64 d2.3]].length :
  Int),
  AV.bool
  (decide
  (i <
  (↑[AV.agg [AV.bool d0.1, AV.dig [(1 : Nat)] d0.2, AV.num IntKind.i64 d0.3],
  AV.agg [AV.bool d1.1, AV.dig [(1 : Nat)] d1.2, AV.num IntKind.i64 d1.3],
  AV.agg [AV.bool d2.1, AV.dig [(1 : Nat)] d2.2, AV.num IntKind.i64 d2.3]].length :
  Int))),
  AV.junk, AV.junk, AV.junk, AV.junk, AV.junk, AV.junk, AV.junk, AV.junk, AV.junk, AV.junk, AV.junk, AV.junk,
  AV.junk, AV.junk, AV.junk, AV.junk, AV.junk, AV.junk, AV.junk]
  [Box.arena, Box.arena])) := by kernel_rfl
theorem ev_m4_3_0 (d0 : Mk) (d1 : Mk) (d2 : Mk) (k : Int) (K : St →
  Prop) : (evR Tryd.prog (look []) (1 : Nat) false (2 : Nat) mR4 (number (2 : Nat) mR4.toList)
  (mhead [d0, d1, d2] (AV.num IntKind.i64 (0 : Int)) (AV.num IntKind.i64 k)) K) =
  (((0 : Int) ≤ (0 : Int) ∧
  (0 : Int) <
  (↑[AV.agg [AV.bool d0.1, AV.dig [(1 : Nat)] d0.2, AV.num IntKind.i64 d0.3],
  AV.agg [AV.bool d1.1, AV.dig [(1 : Nat)] d1.2, AV.num IntKind.i64 d1.3],
  AV.agg [AV.bool d2.1, AV.dig [(1 : Nat)] d2.2, AV.num IntKind.i64 d2.3]].length :
  Int)) ∧
  K
  (St.mk
  [AV.vec [(1 : Nat)] (3 : Nat)
  [AV.agg [AV.bool d0.1, AV.dig [(1 : Nat)] d0.2, AV.num IntKind.i64 d0.3],
  AV.agg [AV.bool d1.1, AV.dig [(1 : Nat)] d1.2, AV.num IntKind.i64 d1.3],
  AV.agg [AV.bool d2.1, AV.dig [(1 : Nat)] d2.2, AV.num IntKind.i64 d2.3]],
  AV.junk, AV.num IntKind.i64 (0 : Int), AV.num IntKind.i64 k, AV.junk, AV.junk, AV.junk, AV.junk, AV.junk,
  AV.junk, AV.num IntKind.i64 k,
  AV.vec [(1 : Nat)] (3 : Nat)
  [AV.agg [AV.bool d0.1, AV.dig [(1 : Nat)] d0.2, AV.num IntKind.i64 d0.3],
  AV.agg [AV.bool d1.1, AV.dig [(1 : Nat)] d1.2, AV.num IntKind.i64 d1.3],
  AV.agg [AV.bool d2.1, AV.dig [(1 : Nat)] d2.2, AV.num IntKind.i64 d2.3]],
  AV.num IntKind.i64 (0 : Int),
  AV.cref [(1 : Nat)] [AV.bool d0.1, AV.dig [(1 : Nat)] d0.2, AV.num IntKind.i64 d0.3],
  AV.cref [(1 : Nat)] [AV.dig [(1 : Nat)] d0.2, AV.num IntKind.i64 d0.3], AV.dig [(1 : Nat)] d0.2,
  AV.num IntKind.i64 (↑d0.2.length : Int), AV.bool (decide (k < (↑d0.2.length : Int))), AV.junk, AV.junk, AV.junk,
  AV.junk, AV.junk, AV.junk, AV.junk, AV.junk, AV.junk]
  [Box.arena, Box.arena])) := by kernel_rfl
theorem ev_m6_3_0 (d0 : Mk) (d1 : Mk) (d2 : Mk) (k : Int) (K : St →
  Prop) : (evR Tryd.prog (look []) (1 : Nat) false (2 : Nat) mR6 (number (2 : Nat) (List.take (7 : Nat) mR6.toList))
  (mhead [d0, d1, d2] (AV.num IntKind.i64 (0 : Int)) (AV.num IntKind.i64 k)) K) =
  (((0 : Int) ≤ (0 : Int) ∧
  (0 : Int) <
  (↑[AV.agg [AV.bool d0.1, AV.dig [(1 : Nat)] d0.2, AV.num IntKind.i64 d0.3],
  AV.agg [AV.bool d1.1, AV.dig [(1 : Nat)] d1.2, AV.num IntKind.i64 d1.3],
  AV.agg [AV.bool d2.1, AV.dig [(1 : Nat)] d2.2, AV.num IntKind.i64 d2.3]].length :
  Int)) ∧
  ((0 : Int) ≤ k ∧ k < (↑d0.2.length : Int)) ∧
  K
  (St.mk
  [AV.vec [(1 : Nat)] (3 : Nat)
  [AV.agg [AV.bool d0.1, AV.dig [(1 : Nat)] d0.2, AV.num IntKind.i64 d0.3],
  AV.agg [AV.bool d1.1, AV.dig [(1 : Nat)] d1.2, AV.num IntKind.i64 d1.3],
  AV.agg [AV.bool d2.1, AV.dig [(1 : Nat)] d2.2, AV.num IntKind.i64 d2.3]],
  AV.junk, AV.num IntKind.i64 (0 : Int), AV.num IntKind.i64 k, AV.junk, AV.junk, AV.junk, AV.junk, AV.junk,
  AV.junk, AV.junk, AV.junk, AV.junk, AV.junk, AV.junk, AV.junk, AV.junk, AV.junk, AV.junk, AV.junk,
  AV.vec [(1 : Nat)] (3 : Nat)
  [AV.agg [AV.bool d0.1, AV.dig [(1 : Nat)] d0.2, AV.num IntKind.i64 d0.3],
  AV.agg [AV.bool d1.1, AV.dig [(1 : Nat)] d1.2, AV.num IntKind.i64 d1.3],
  AV.agg [AV.bool d2.1, AV.dig [(1 : Nat)] d2.2, AV.num IntKind.i64 d2.3]],
  AV.num IntKind.i64 (0 : Int),
  AV.cref [(1 : Nat)] [AV.bool d0.1, AV.dig [(1 : Nat)] d0.2, AV.num IntKind.i64 d0.3],
  AV.cref [(1 : Nat)] [AV.dig [(1 : Nat)] d0.2, AV.num IntKind.i64 d0.3], AV.dig [(1 : Nat)] d0.2,
  AV.num IntKind.i64 k, AV.cref [(1 : Nat)] [AV.num IntKind.u32 (↑(d0.2.getD k.toNat (0 : Nat)) : Int)]]
  [Box.arena, Box.arena])) := by kernel_rfl
theorem ev_m4_3_1 (d0 : Mk) (d1 : Mk) (d2 : Mk) (k : Int) (K : St →
  Prop) : (evR Tryd.prog (look []) (1 : Nat) false (2 : Nat) mR4 (number (2 : Nat) mR4.toList)
  (mhead [d0, d1, d2] (AV.num IntKind.i64 (1 : Int)) (AV.num IntKind.i64 k)) K) =
  (((0 : Int) ≤ (1 : Int) ∧
  (1 : Int) <
  (↑[AV.agg [AV.bool d0.1, AV.dig [(1 : Nat)] d0.2, AV.num IntKind.i64 d0.3],
  AV.agg [AV.bool d1.1, AV.dig [(1 : Nat)] d1.2, AV.num IntKind.i64 d1.3],
  AV.agg [AV.bool d2.1, AV.dig [(1 : Nat)] d2.2, AV.num IntKind.i64 d2.3]].length :
  Int)) ∧
  K
  (St.mk
  [AV.vec [(1 : Nat)] (3 : Nat)
  [AV.agg [AV.bool d0.1, AV.dig [(1 : Nat)] d0.2, AV.num IntKind.i64 d0.3],
  AV.agg [AV.bool d1.1, AV.dig [(1 : Nat)] d1.2, AV.num IntKind.i64 d1.3],
  AV.agg [AV.bool d2.1, AV.dig [(1 : Nat)] d2.2, AV.num IntKind.i64 d2.3]],
  AV.junk, AV.num IntKind.i64 (1 : Int), AV.num IntKind.i64 k, AV.junk, AV.junk, AV.junk, AV.junk, AV.junk,
  AV.junk, AV.num IntKind.i64 k,
  AV.vec [(1 : Nat)] (3 : Nat)
  [AV.agg [AV.bool d0.1, AV.dig [(1 : Nat)] d0.2, AV.num IntKind.i64 d0.3],
  AV.agg [AV.bool d1.1, AV.dig [(1 : Nat)] d1.2, AV.num IntKind.i64 d1.3],
  AV.agg [AV.bool d2.1, AV.dig [(1 : Nat)] d2.2, AV.num IntKind.i64 d2.3]],
  AV.num IntKind.i64 (1 : Int),
  AV.cref [(1 : Nat)] [AV.bool d1.1, AV.dig [(1 : Nat)] d1.2, AV.num IntKind.i64 d1.3],
  AV.cref [(1 : Nat)] [AV.dig [(1 : Nat)] d1.2, AV.num IntKind.i64 d1.3], AV.dig [(1 : Nat)] d1.2,
  AV.num IntKind.i64 (↑d1.2.length : Int), AV.bool (decide (k < (↑d1.2.length : Int))), AV.junk, AV.junk, AV.junk,
  AV.junk, AV.junk, AV.junk, AV.junk, AV.junk, AV.junk]
  [Box.arena, Box.arena])) := by kernel_rfl
theorem ev_m6_3_1 (d0 : Mk) (d1 : Mk) (d2 : Mk) (k : Int) (K : St →
  Prop) : (evR Tryd.prog (look []) (1 : Nat) false (2 : Nat) mR6 (number (2 : Nat) (List.take (7 : Nat) mR6.toList))
  (mhead [d0, d1, d2] (AV.num IntKind.i64 (1 : Int)) (AV.num IntKind.i64 k)) K) =
  (((0 : Int) ≤ (1 : Int) ∧
  (1 : Int) <
  (↑[AV.agg [AV.bool d0.1, AV.dig [(1 : Nat)] d0.2, AV.num IntKind.i64 d0.3],
  AV.agg [AV.bool d1.1, AV.dig [(1 : Nat)] d1.2, AV.num IntKind.i64 d1.3],
  AV.agg [AV.bool d2.1, AV.dig [(1 : Nat)] d2.2, AV.num IntKind.i64 d2.3]].length :
  Int)) ∧
  ((0 : Int) ≤ k ∧ k < (↑d1.2.length : Int)) ∧
  K
  (St.mk
  [AV.vec [(1 : Nat)] (3 : Nat)
  [AV.agg [AV.bool d0.1, AV.dig [(1 : Nat)] d0.2, AV.num IntKind.i64 d0.3],
  AV.agg [AV.bool d1.1, AV.dig [(1 : Nat)] d1.2, AV.num IntKind.i64 d1.3],
  AV.agg [AV.bool d2.1, AV.dig [(1 : Nat)] d2.2, AV.num IntKind.i64 d2.3]],
  AV.junk, AV.num IntKind.i64 (1 : Int), AV.num IntKind.i64 k, AV.junk, AV.junk, AV.junk, AV.junk, AV.junk,
  AV.junk, AV.junk, AV.junk, AV.junk, AV.junk, AV.junk, AV.junk, AV.junk, AV.junk, AV.junk, AV.junk,
  AV.vec [(1 : Nat)] (3 : Nat)
  [AV.agg [AV.bool d0.1, AV.dig [(1 : Nat)] d0.2, AV.num IntKind.i64 d0.3],
  AV.agg [AV.bool d1.1, AV.dig [(1 : Nat)] d1.2, AV.num IntKind.i64 d1.3],
  AV.agg [AV.bool d2.1, AV.dig [(1 : Nat)] d2.2, AV.num IntKind.i64 d2.3]],
  AV.num IntKind.i64 (1 : Int),
  AV.cref [(1 : Nat)] [AV.bool d1.1, AV.dig [(1 : Nat)] d1.2, AV.num IntKind.i64 d1.3],
  AV.cref [(1 : Nat)] [AV.dig [(1 : Nat)] d1.2, AV.num IntKind.i64 d1.3], AV.dig [(1 : Nat)] d1.2,
  AV.num IntKind.i64 k, AV.cref [(1 : Nat)] [AV.num IntKind.u32 (↑(d1.2.getD k.toNat (0 : Nat)) : Int)]]
  [Box.arena, Box.arena])) := by kernel_rfl
theorem ev_m4_3_2 (d0 : Mk) (d1 : Mk) (d2 : Mk) (k : Int) (K : St →
  Prop) : (evR Tryd.prog (look []) (1 : Nat) false (2 : Nat) mR4 (number (2 : Nat) mR4.toList)
  (mhead [d0, d1, d2] (AV.num IntKind.i64 (2 : Int)) (AV.num IntKind.i64 k)) K) =
  (((0 : Int) ≤ (2 : Int) ∧
  (2 : Int) <
  (↑[AV.agg [AV.bool d0.1, AV.dig [(1 : Nat)] d0.2, AV.num IntKind.i64 d0.3],
  AV.agg [AV.bool d1.1, AV.dig [(1 : Nat)] d1.2, AV.num IntKind.i64 d1.3],
  AV.agg [AV.bool d2.1, AV.dig [(1 : Nat)] d2.2, AV.num IntKind.i64 d2.3]].length :
  Int)) ∧
  K
  (St.mk
  [AV.vec [(1 : Nat)] (3 : Nat)
  [AV.agg [AV.bool d0.1, AV.dig [(1 : Nat)] d0.2, AV.num IntKind.i64 d0.3],
  AV.agg [AV.bool d1.1, AV.dig [(1 : Nat)] d1.2, AV.num IntKind.i64 d1.3],
  AV.agg [AV.bool d2.1, AV.dig [(1 : Nat)] d2.2, AV.num IntKind.i64 d2.3]],
  AV.junk, AV.num IntKind.i64 (2 : Int), AV.num IntKind.i64 k, AV.junk, AV.junk, AV.junk, AV.junk, AV.junk,
  AV.junk, AV.num IntKind.i64 k,
  AV.vec [(1 : Nat)] (3 : Nat)
  [AV.agg [AV.bool d0.1, AV.dig [(1 : Nat)] d0.2, AV.num IntKind.i64 d0.3],
  AV.agg [AV.bool d1.1, AV.dig [(1 : Nat)] d1.2, AV.num IntKind.i64 d1.3],
  AV.agg [AV.bool d2.1, AV.dig [(1 : Nat)] d2.2, AV.num IntKind.i64 d2.3]],
  AV.num IntKind.i64 (2 : Int),
  AV.cref [(1 : Nat)] [AV.bool d2.1, AV.dig [(1 : Nat)] d2.2, AV.num IntKind.i64 d2.3],
  AV.cref [(1 : Nat)] [AV.dig [(1 : Nat)] d2.2, AV.num IntKind.i64 d2.3], AV.dig [(1 : Nat)] d2.2,
  AV.num IntKind.i64 (↑d2.2.length : Int), AV.bool (decide (k < (↑d2.2.length : Int))), AV.junk, AV.junk, AV.junk,
  AV.junk, AV.junk, AV.junk, AV.junk, AV.junk, AV.junk]
  [Box.arena, Box.arena])) := by kernel_rfl
theorem ev_m6_3_2 (d0 : Mk) (d1 : Mk) (d2 : Mk) (k : Int) (K : St →
  Prop) : (evR Tryd.prog (look []) (1 : Nat) false (2 : Nat) mR6 (number (2 : Nat) (List.take (7 : Nat) mR6.toList))
  (mhead [d0, d1, d2] (AV.num IntKind.i64 (2 : Int)) (AV.num IntKind.i64 k)) K) =
  (((0 : Int) ≤ (2 : Int) ∧
  (2 : Int) <
  (↑[AV.agg [AV.bool d0.1, AV.dig [(1 : Nat)] d0.2, AV.num IntKind.i64 d0.3],
  AV.agg [AV.bool d1.1, AV.dig [(1 : Nat)] d1.2, AV.num IntKind.i64 d1.3],
  AV.agg [AV.bool d2.1, AV.dig [(1 : Nat)] d2.2, AV.num IntKind.i64 d2.3]].length :
  Int)) ∧
  ((0 : Int) ≤ k ∧ k < (↑d2.2.length : Int)) ∧
  K
  (St.mk
  [AV.vec [(1 : Nat)] (3 : Nat)
  [AV.agg [AV.bool d0.1, AV.dig [(1 : Nat)] d0.2, AV.num IntKind.i64 d0.3],
  AV.agg [AV.bool d1.1, AV.dig [(1 : Nat)] d1.2, AV.num IntKind.i64 d1.3],
  AV.agg [AV.bool d2.1, AV.dig [(1 : Nat)] d2.2, AV.num IntKind.i64 d2.3]],
  AV.junk, AV.num IntKind.i64 (2 : Int), AV.num IntKind.i64 k, AV.junk, AV.junk, AV.junk, AV.junk, AV.junk,
  AV.junk, AV.junk, AV.junk, AV.junk, AV.junk, AV.junk, AV.junk, AV.junk, AV.junk, AV.junk, AV.junk,
  AV.vec [(1 : Nat)] (3 : Nat)
  [AV.agg [AV.bool d0.1, AV.dig [(1 : Nat)] d0.2, AV.num IntKind.i64 d0.3],
  AV.agg [AV.bool d1.1, AV.dig [(1 : Nat)] d1.2, AV.num IntKind.i64 d1.3],
  AV.agg [AV.bool d2.1, AV.dig [(1 : Nat)] d2.2, AV.num IntKind.i64 d2.3]],
  AV.num IntKind.i64 (2 : Int),
  AV.cref [(1 : Nat)] [AV.bool d2.1, AV.dig [(1 : Nat)] d2.2, AV.num IntKind.i64 d2.3],
  AV.cref [(1 : Nat)] [AV.dig [(1 : Nat)] d2.2, AV.num IntKind.i64 d2.3], AV.dig [(1 : Nat)] d2.2,
  AV.num IntKind.i64 k, AV.cref [(1 : Nat)] [AV.num IntKind.u32 (↑(d2.2.getD k.toNat (0 : Nat)) : Int)]]
  [Box.arena, Box.arena])) := by kernel_rfl
end Go.AI

namespace Go.AI
open Go Go.RowKit Go.Proofs
set_option linter.unusedVariables false
set_option maxRecDepth 100000
/-- one word of a block is another word -/
structure Ink (b p : Nat) (w w' : World) : Prop where
  meta0 : Below 0 w w'
  size : w'.heap.size = w.heap.size
  other : ∀ x, x ≠ b → w'.heap[x]? = w.heap[x]?
  at_ : ∃ cs cs' T, w.heap[b]? = some (.cells cs T (0, 0)) ∧ w'.heap[b]? = some (.cells cs' T (0, 0)) ∧ (∀ j, j ≠ p → cs'[j]? = cs[j]?) ∧ (∃ x : Nat, cs[p]? = some (.int .u32 (x : Int))) ∧ cs'[p]? = some (.int .u32 77)
theorem ink_size {cs cs' : Array Value} {p : Nat} {u v : Value} (h3 : ∀ j, j ≠ p → cs'[j]? = cs[j]?) (h4 : cs[p]? = some u) (h5 : cs'[p]? = some v) : cs'.size = cs.size := by
  have hp := (Array.getElem?_eq_some_iff.1 h4).1
  have hp' := (Array.getElem?_eq_some_iff.1 h5).1
  rcases Nat.lt_trichotomy cs'.size cs.size with c | c | c
  · have := h3 cs'.size (by omega)
    rw [Array.getElem?_eq_none (Nat.le_refl _), Array.getElem?_eq_getElem c] at this
    cases this
  · exact c
  · have := h3 cs.size (by omega)
    rw [Array.getElem?_eq_none (Nat.le_refl cs.size), Array.getElem?_eq_getElem c] at this
    cases this
theorem Ink.turn {b p : Nat} {w w' : World} {S : Nat → Prop} (h : Ink b p w w') (hb : S b) : Turn S w w' := by
  refine ⟨h.meta0, fun x _ hx => h.other x fun e => hx (e ▸ hb), fun x c T hs hc => ?_, fun k h1 h2 => by rw [h.size] at h2; omega⟩
  by_cases e : x = b
  · subst e
    obtain ⟨cs, cs', T', h1, h2, h3, ⟨y, h4⟩, h5⟩ := h.at_
    rw [h1] at hc
    cases hc
    exact ⟨cs', h2, ink_size h3 h4 h5⟩
  · exact ⟨c, (h.other x e).trans hc, rfl⟩
theorem Turn.trans {S : Nat → Prop} {a b c : World} (h : Turn S a b) (k : Turn S b c) (hS : ∀ x, S x → x < a.heap.size) : Turn S a c := by
  have hs := h.meta0.size
  refine ⟨h.meta0.trans k.meta0, fun x hl hx => (k.other x (by omega) hx).trans (h.other x hl hx), fun x cs T hx hc => ?_, fun j h1 h2 => ?_⟩
  · obtain ⟨c1, e1, s1⟩ := h.inS x cs T hx hc
    obtain ⟨c2, e2, s2⟩ := k.inS x c1 T hx e1
    exact ⟨c2, e2, by omega⟩
  · by_cases hj : j < b.heap.size
    · obtain ⟨c1, T, e1⟩ := h.fresh j h1 hj
      exact ⟨c1, T, (k.other j hj fun hx => by have := hS j hx; omega).trans e1⟩
    · exact k.fresh j (by omega) h2
theorem Grow.turn {a b : World} (h : Grow a b) (S : Nat → Prop) : Turn S a b :=
  ⟨⟨h.below.os, h.below.tape, h.below.output, h.below.size, fun k hk => by omega⟩, fun x hl _ => h.below.block x hl, fun x c T _ hc => ⟨c, (h.below.block x (Array.getElem?_eq_some_iff.1 hc).1).trans hc, rfl⟩, h.fresh⟩
theorem Ink.cell {b p : Nat} {w w' : World} (h : Ink b p w w') {q : Addr} {v : Value} (hc : w.cell? q = some v) (hv : ∀ x : Int, v ≠ .int .u32 x) : w'.cell? q = some v := by
  obtain ⟨blk, off, sp⟩ := q
  by_cases e : blk = b
  · subst e
    obtain ⟨cs, cs', T, h1, h2, h3, ⟨x, h4⟩, _⟩ := h.at_
    cases sp with
    | some s => simp [World.cell?, h1] at hc
    | none =>
      rw [cell?_of_block h1] at hc
      rw [cell?_of_block h2, h3 off fun e => by subst e; rw [h4] at hc; cases hc; exact hv _ rfl]
      exact hc
  · have := h.other blk e
    simp only [World.cell?, this]
    exact hc
/-- digits: some are others, there are as many -/
theorem Ink.dig {b p : Nat} {w w' : World} (h : Ink b p w w') {β : Nat → Nat → Prop} {m : List Nat} {u : Value} (hV : V ⟨argBs 1, β, w⟩ (.dig [1] m) u) : ∃ m', m'.length = m.length ∧ V ⟨argBs 1, β, w'⟩ (.dig [1] m') u := by
  simp only [V] at hV
  obtain ⟨hb, hok, base, cap, rfl, hd⟩ := hV
  have hal : Ctx.alive ⟨argBs 1, β, w⟩ [1] := fun i hi => by simp at hi; subst hi; rfl
  rcases hd hal with ⟨rfl, rfl⟩ | ⟨blk, off, cells, T, fr, rfl, hin, hheap, hle, hcp, hdig⟩
  · refine ⟨[], rfl, ?_⟩
    simp only [V]
    exact ⟨hb, hok, none, cap, rfl, fun _ => .inl ⟨rfl, rfl⟩⟩
  · by_cases e : blk = b
    · subst e
      obtain ⟨cs, cs', T', h1, h2, h3, ⟨x, h4⟩, h5⟩ := h.at_
      rw [h1] at hheap
      cases hheap
      let m' : List Nat := m.mapIdx fun j y => if off + j = p then 77 else y
      have hlen : m'.length = m.length := by simp [m']
      refine ⟨m', hlen, ?_⟩
      simp only [V]
      refine ⟨hb, ⟨by rw [hlen]; exact hok.1, fun y hy => ?_⟩, some ⟨blk, off, none⟩, cap, by rw [hlen], fun _ => .inr ⟨blk, off, cs', _, (0, 0), rfl, hin, h2, by rw [hlen]; exact hle, fun j hj => ?_, fun j y hj => ?_⟩⟩
      · obtain ⟨j, hj⟩ := List.getElem?_of_mem hy
        simp only [m', List.getElem?_mapIdx] at hj
        obtain ⟨z, hz, rfl⟩ := Option.map_eq_some_iff.1 hj
        split
        · decide
        · exact hok.2 z (List.mem_of_getElem? hz)
      · have h6 := hcp j hj
        by_cases c : off + j = p
        · rw [c]; exact (Array.getElem?_eq_some_iff.1 h5).1
        · have h7 := h3 _ c
          rw [Array.getElem?_eq_getElem h6] at h7
          exact (Array.getElem?_eq_some_iff.1 h7).1
      · simp only [m', List.getElem?_mapIdx] at hj
        obtain ⟨z, hz, rfl⟩ := Option.map_eq_some_iff.1 hj
        by_cases c : off + j = p
        · rw [if_pos c, c]; exact h5
        · rw [if_neg c, h3 _ c]; exact hdig j z hz
    · refine ⟨m, rfl, ?_⟩
      simp only [V]
      exact ⟨hb, hok, _, cap, rfl, fun _ => .inr ⟨blk, off, cells, T, fr, rfl, hin, (h.other blk e).trans hheap, hle, hcp, hdig⟩⟩
theorem Ink.mks {b p : Nat} {w w' : World} (h : Ink b p w w') {β : Nat → Nat → Prop} : ∀ {ds : List Mk} {us : List Value}, Vs ⟨argBs 1, β, w⟩ (mkL ds) us →
    ∃ ds', (ds'.map fun d => d.mag.length) = (ds.map fun d => d.mag.length) ∧ Vs ⟨argBs 1, β, w'⟩ (mkL ds') us ∧ ∀ u ∈ us, ∀ x ∈ u.cells.toList, ∀ y : Int, x ≠ .int .u32 y
  | [], [], _ => ⟨[], rfl, by simp [mkL, Vs], by simp⟩
  | [], _ :: _, hV => by simp [mkL, Vs] at hV
  | _ :: _, [], hV => by simp [mkL, Vs] at hV
  | d :: ds, u :: us, hV => by
    obtain ⟨hu, hus⟩ : V ⟨argBs 1, β, w⟩ (mkAV d) u ∧ Vs ⟨argBs 1, β, w⟩ (mkL ds) us := by simpa only [mkL, List.map_cons, Vs] using hV
    obtain ⟨ds', hl, hV', hc⟩ := Ink.mks h hus
    unfold mkAV at hu
    simp only [V] at hu
    obtain ⟨vs, rfl, hvs⟩ := hu
    match vs, hvs with
    | [x0, x1, x2], hvs =>
      simp only [Vs] at hvs
      obtain ⟨q0, q1, q2, _⟩ := hvs
      obtain ⟨m', hm', hVm⟩ := h.dig q1
      simp only [V] at q0 q2
      obtain ⟨rfl⟩ := q0
      obtain ⟨rfl, q2⟩ := q2
      have hsl : ∃ base n cap, x1 = .slice base n cap := by
        simp only [V] at q1
        obtain ⟨_, _, base, cap, e, _⟩ := q1
        exact ⟨base, _, cap, e⟩
      obtain ⟨base, n, cap, rfl⟩ := hsl
      refine ⟨⟨d.neg, m', d.exp⟩ :: ds', by simp [hm', hl], ?_, ?_⟩
      · simp only [mkL, List.map_cons, Vs]
        refine ⟨?_, hV'⟩
        unfold mkAV
        simp only [V]
        refine ⟨_, rfl, ?_⟩
        simp only [Vs]
        exact ⟨by simp only [V], hVm, by simp only [V]; exact ⟨trivial, q2⟩, trivial⟩
      · intro u hu x hx y
        rcases List.mem_cons.1 hu with rfl | hu
        · simp [Value.cells] at hx
          rcases hx with rfl | rfl | rfl <;> simp
        · exact hc u hu x hx y
    | [], hvs => simp [Vs] at hvs
    | [_], hvs => simp [Vs] at hvs
    | [_, _], hvs => simp [Vs] at hvs
    | _ :: _ :: _ :: _ :: _, hvs => simp [Vs] at hvs
theorem Ink.vec {b p : Nat} {w w' : World} (h : Ink b p w w') {β : Nat → Nat → Prop} {ds : List Mk} {v : Value} (hV : V ⟨argBs 1, β, w⟩ (.vec [1] 3 (mkL ds)) v) :
    ∃ ds', (ds'.map fun d => d.mag.length) = (ds.map fun d => d.mag.length) ∧ V ⟨argBs 1, β, w'⟩ (.vec [1] 3 (mkL ds')) v := by
  simp only [V] at hV
  obtain ⟨hb, hlen, hn, base, cap, us, rfl, hus, hsz, hd⟩ := hV
  obtain ⟨ds', hl, hV', hc⟩ := h.mks hus
  have hll : ds'.length = ds.length := by simpa using congrArg List.length hl
  have hal : Ctx.alive ⟨argBs 1, β, w⟩ [1] := fun i hi => by simp at hi; subst hi; rfl
  refine ⟨ds', hl, ?_⟩
  simp only [V]
  refine ⟨hb, by simpa [mkL, hll] using hlen, hn, base, cap, us, by simp [mkL, hll], hV', hsz, fun _ => ?_⟩
  rcases hd hal with h0 | ⟨blk, off, h1, h2, h3, h4⟩
  · exact .inl h0
  · exact .inr ⟨blk, off, h1, h2, h3, fun i u j x hi hj => h.cell (h4 i u j x hi hj) (hc u (List.mem_of_getElem? hi) x (List.mem_of_getElem? (l := u.cells.toList) (i := j) (by simpa using hj)))⟩
end Go.AI

namespace Go.AI
open Go Go.RowKit Go.Proofs
set_option linter.unusedVariables false
set_option maxRecDepth 100000
def forgets : List AV → List AV → Prop
  | [], [] => True
  | c :: l, d :: m => (c = .junk ∨ c = d) ∧ forgets l m
  | _, _ => False
theorem Vs.forget {C : Ctx} : ∀ {l m : List AV} {vs : List Value}, Vs C m vs → forgets l m → Vs C l vs
  | [], [], vs, h, _ => h
  | c :: l, d :: m, v :: vs, h, hf => by
    simp only [Vs] at h ⊢
    refine ⟨?_, Vs.forget h.2 hf.2⟩
    rcases hf.1 with e | e
    · rw [e]; simp only [V]
    · rw [e]; exact h.1
  | _ :: _, _ :: _, [], h, _ => by simp only [Vs] at h
  | [], _ :: _, _, _, hf => by simp only [forgets] at hf
  | _ :: _, [], _, _, hf => by simp only [forgets] at hf
abbrev mE (K : St → Prop) (L : List Oper) (ops : Array Oper) (σ : St) : Prop := evR Tryd.prog (look []) 1 false 2 ops (number 2 L) σ K
/-- what the rounds come to, for a list of n, at its place i -/
structure MEq (n i : Nat) : Prop where
  e4 : ∀ ds : List Mk, ds.length = n → ∀ k : Int, ∃ σ' : St, (∀ K : St → Prop, K σ' → mE K mR4.toList mR4 (mhead ds (.num .i64 (i : Int)) (.num .i64 k))) ∧ σ'.boxes = [.arena, .arena] ∧
    forgets (mhead ds (.num .i64 (i : Int)) (.num .i64 k)).tmps σ'.tmps ∧ σ'.tmps.getD 17 .junk = .bool (decide (k < (((ds.map fun d => d.mag.length).getD i 0 : Nat) : Int)))
  e6 : ∀ ds : List Mk, ds.length = n → ∀ k : Int, 0 ≤ k → k < (((ds.map fun d => d.mag.length).getD i 0 : Nat) : Int) → ∃ (σ' : St) (x : Nat), (∀ K : St → Prop, K σ' → mE K (mR6.toList.take 7) mR6 (mhead ds (.num .i64 (i : Int)) (.num .i64 k))) ∧ σ'.boxes = [.arena, .arena] ∧
    forgets (mhead ds (.num .i64 (i : Int)) (.num .i64 k)).tmps σ'.tmps ∧ σ'.tmps.getD 26 .junk = .cref [1] [.num .u32 (x : Int)]
theorem m1 (n : Nat) (hn : n = 1 ∨ n = 2 ∨ n = 3) : ∀ ds : List Mk, ds.length = n → ∀ (i : Int) (k : AV), ∃ σ' : St, (∀ K : St → Prop, K σ' → mE K mR1.toList mR1 (mhead ds (.num .i64 i) k)) ∧ σ'.boxes = [.arena, .arena] ∧
    forgets (mhead ds (.num .i64 i) k).tmps σ'.tmps ∧ σ'.tmps.getD 7 .junk = .bool (decide (i < (n : Int))) := by
  intro ds hds i k
  rcases hn with rfl | rfl | rfl
  · match ds, hds with
    | [d0], _ =>
      apply Exists.intro
      refine ⟨fun K hK => ?_, ?_, ?_, ?_⟩
      · unfold mE; rw [ev_m1_1 d0 i k K]; exact hK
      · rfl
      · (repeat' first | exact True.intro | (refine And.intro (by first | exact Or.inl rfl | exact Or.inr rfl) ?_))
      · rfl
  · match ds, hds with
    | [d0, d1], _ =>
      apply Exists.intro
      refine ⟨fun K hK => ?_, ?_, ?_, ?_⟩
      · unfold mE; rw [ev_m1_2 d0 d1 i k K]; exact hK
      · rfl
      · (repeat' first | exact True.intro | (refine And.intro (by first | exact Or.inl rfl | exact Or.inr rfl) ?_))
      · rfl
  · match ds, hds with
    | [d0, d1, d2], _ =>
      apply Exists.intro
      refine ⟨fun K hK => ?_, ?_, ?_, ?_⟩
      · unfold mE; rw [ev_m1_3 d0 d1 d2 i k K]; exact hK
      · rfl
      · (repeat' first | exact True.intro | (refine And.intro (by first | exact Or.inl rfl | exact Or.inr rfl) ?_))
      · rfl
theorem meq_1_0 : MEq 1 0 where
  e4 := by
    intro ds hds k
    match ds, hds with
    | [d0], _ =>
      apply Exists.intro
      refine ⟨fun K hK => ?_, ?_, ?_, ?_⟩
      · unfold mE; rw [show ((0 : Nat) : Int) = (0 : Int) from rfl, ev_m4_1_0 d0 k K]; exact ⟨by simp, hK⟩
      · rfl
      · (repeat' first | exact True.intro | (refine And.intro (by first | exact Or.inl rfl | exact Or.inr rfl) ?_))
      · rfl
  e6 := by
    intro ds hds k h0 h1
    match ds, hds, h1 with
    | [d0], _, h1 =>
      apply Exists.intro
      refine ⟨d0.mag.getD k.toNat 0, fun K hK => ?_, ?_, ?_, ?_⟩
      · unfold mE; rw [show ((0 : Nat) : Int) = (0 : Int) from rfl, ev_m6_1_0 d0 k K]; exact ⟨by simp, ⟨h0, h1⟩, hK⟩
      · rfl
      · (repeat' first | exact True.intro | (refine And.intro (by first | exact Or.inl rfl | exact Or.inr rfl) ?_))
      · rfl
theorem meq_2_0 : MEq 2 0 where
  e4 := by
    intro ds hds k
    match ds, hds with
    | [d0, d1], _ =>
      apply Exists.intro
      refine ⟨fun K hK => ?_, ?_, ?_, ?_⟩
      · unfold mE; rw [show ((0 : Nat) : Int) = (0 : Int) from rfl, ev_m4_2_0 d0 d1 k K]; exact ⟨by simp, hK⟩
      · rfl
      · (repeat' first | exact True.intro | (refine And.intro (by first | exact Or.inl rfl | exact Or.inr rfl) ?_))
      · rfl
  e6 := by
    intro ds hds k h0 h1
    match ds, hds, h1 with
    | [d0, d1], _, h1 =>
      apply Exists.intro
      refine ⟨d0.mag.getD k.toNat 0, fun K hK => ?_, ?_, ?_, ?_⟩
      · unfold mE; rw [show ((0 : Nat) : Int) = (0 : Int) from rfl, ev_m6_2_0 d0 d1 k K]; exact ⟨by simp, ⟨h0, h1⟩, hK⟩
      · rfl
      · (repeat' first | exact True.intro | (refine And.intro (by first | exact Or.inl rfl | exact Or.inr rfl) ?_))
      · rfl
theorem meq_2_1 : MEq 2 1 where
  e4 := by
    intro ds hds k
    match ds, hds with
    | [d0, d1], _ =>
      apply Exists.intro
      refine ⟨fun K hK => ?_, ?_, ?_, ?_⟩
      · unfold mE; rw [show ((1 : Nat) : Int) = (1 : Int) from rfl, ev_m4_2_1 d0 d1 k K]; exact ⟨by simp, hK⟩
      · rfl
      · (repeat' first | exact True.intro | (refine And.intro (by first | exact Or.inl rfl | exact Or.inr rfl) ?_))
      · rfl
  e6 := by
    intro ds hds k h0 h1
    match ds, hds, h1 with
    | [d0, d1], _, h1 =>
      apply Exists.intro
      refine ⟨d1.mag.getD k.toNat 0, fun K hK => ?_, ?_, ?_, ?_⟩
      · unfold mE; rw [show ((1 : Nat) : Int) = (1 : Int) from rfl, ev_m6_2_1 d0 d1 k K]; exact ⟨by simp, ⟨h0, h1⟩, hK⟩
      · rfl
      · (repeat' first | exact True.intro | (refine And.intro (by first | exact Or.inl rfl | exact Or.inr rfl) ?_))
      · rfl
theorem meq_3_0 : MEq 3 0 where
  e4 := by
    intro ds hds k
    match ds, hds with
    | [d0, d1, d2], _ =>
      apply Exists.intro
      refine ⟨fun K hK => ?_, ?_, ?_, ?_⟩
      · unfold mE; rw [show ((0 : Nat) : Int) = (0 : Int) from rfl, ev_m4_3_0 d0 d1 d2 k K]; exact ⟨by simp, hK⟩
      · rfl
      · (repeat' first | exact True.intro | (refine And.intro (by first | exact Or.inl rfl | exact Or.inr rfl) ?_))
      · rfl
  e6 := by
    intro ds hds k h0 h1
    match ds, hds, h1 with
    | [d0, d1, d2], _, h1 =>
      apply Exists.intro
      refine ⟨d0.mag.getD k.toNat 0, fun K hK => ?_, ?_, ?_, ?_⟩
      · unfold mE; rw [show ((0 : Nat) : Int) = (0 : Int) from rfl, ev_m6_3_0 d0 d1 d2 k K]; exact ⟨by simp, ⟨h0, h1⟩, hK⟩
      · rfl
      · (repeat' first | exact True.intro | (refine And.intro (by first | exact Or.inl rfl | exact Or.inr rfl) ?_))
      · rfl
theorem meq_3_1 : MEq 3 1 where
  e4 := by
    intro ds hds k
    match ds, hds with
    | [d0, d1, d2], _ =>
      apply Exists.intro
      refine ⟨fun K hK => ?_, ?_, ?_, ?_⟩
      · unfold mE; rw [show ((1 : Nat) : Int) = (1 : Int) from rfl, ev_m4_3_1 d0 d1 d2 k K]; exact ⟨by simp, hK⟩
      · rfl
      · (repeat' first | exact True.intro | (refine And.intro (by first | exact Or.inl rfl | exact Or.inr rfl) ?_))
      · rfl
  e6 := by
    intro ds hds k h0 h1
    match ds, hds, h1 with
    | [d0, d1, d2], _, h1 =>
      apply Exists.intro
      refine ⟨d1.mag.getD k.toNat 0, fun K hK => ?_, ?_, ?_, ?_⟩
      · unfold mE; rw [show ((1 : Nat) : Int) = (1 : Int) from rfl, ev_m6_3_1 d0 d1 d2 k K]; exact ⟨by simp, ⟨h0, h1⟩, hK⟩
      · rfl
      · (repeat' first | exact True.intro | (refine And.intro (by first | exact Or.inl rfl | exact Or.inr rfl) ?_))
      · rfl
theorem meq_3_2 : MEq 3 2 where
  e4 := by
    intro ds hds k
    match ds, hds with
    | [d0, d1, d2], _ =>
      apply Exists.intro
      refine ⟨fun K hK => ?_, ?_, ?_, ?_⟩
      · unfold mE; rw [show ((2 : Nat) : Int) = (2 : Int) from rfl, ev_m4_3_2 d0 d1 d2 k K]; exact ⟨by simp, hK⟩
      · rfl
      · (repeat' first | exact True.intro | (refine And.intro (by first | exact Or.inl rfl | exact Or.inr rfl) ?_))
      · rfl
  e6 := by
    intro ds hds k h0 h1
    match ds, hds, h1 with
    | [d0, d1, d2], _, h1 =>
      apply Exists.intro
      refine ⟨d2.mag.getD k.toNat 0, fun K hK => ?_, ?_, ?_, ?_⟩
      · unfold mE; rw [show ((2 : Nat) : Int) = (2 : Int) from rfl, ev_m6_3_2 d0 d1 d2 k K]; exact ⟨by simp, ⟨h0, h1⟩, hK⟩
      · rfl
      · (repeat' first | exact True.intro | (refine And.intro (by first | exact Or.inl rfl | exact Or.inr rfl) ?_))
      · rfl
theorem meq {n i : Nat} (hn : n = 1 ∨ n = 2 ∨ n = 3) (hi : i < n) : MEq n i := by
  rcases hn with rfl | rfl | rfl
  · have : i = 0 := by omega
    subst this; exact meq_1_0
  · rcases (by omega : i = 0 ∨ i = 1) with rfl | rfl
    · exact meq_2_0
    · exact meq_2_1
  · rcases (by omega : i = 0 ∨ i = 1 ∨ i = 2) with rfl | rfl | rfl
    · exact meq_3_0
    · exact meq_3_1
    · exact meq_3_2
end Go.AI

namespace Go.AI
open Go Go.RowKit Go.Proofs
set_option linter.unusedVariables false
set_option maxRecDepth 100000

/-- a new beginning: the frame as it is known again -/
theorem mrestart {β : Nat → Nat → Prop} (hβ : ∀ i x, β i x → i ≤ 1) {w0 w' : World} {σ' σ2 : St} {β' : Nat → Nat → Prop} {a' : Act} (hlt : ∀ i x, β i x → x < w0.heap.size) (hR : R 1 β w0 σ' β' a' w')
    (hb' : σ'.boxes = [.arena, .arena]) (hb2 : σ2.boxes = [.arena, .arena]) (hf : forgets σ2.tmps σ'.tmps) : R 1 β w' σ2 β a' w' := by
  have hbox : σ2.box = σ'.box := by funext i; show σ2.boxes.getD i .unborn = σ'.boxes.getD i .unborn; rw [hb', hb2]
  have hb : ∀ i, σ2.box i = if i ≤ 1 then .arena else .unborn := by
    intro i
    show σ2.boxes.getD i .unborn = _
    rw [hb2]
    match i with
    | 0 => rfl
    | 1 => rfl
    | i + 2 => rw [if_neg (by omega)]; rfl
  have hle : Le ⟨σ'.box, β', w'⟩ ⟨σ2.box, β, w'⟩ := by
    rw [hbox]
    have hb1 : ∀ i, σ'.box i = if i ≤ 1 then .arena else .unborn := fun i => by rw [← hbox]; exact hb i
    refine ⟨fun _ h => h, fun i hi ha => ⟨ha, fun x hx => ⟨hR.arg0 i x ?_ hx, rfl⟩⟩, fun i T l hi hd => ?_, fun i cs hi hc => ?_⟩
    · have : σ'.box i ≠ .unborn := hi
      rw [hb1] at this
      split at this
      · assumption
      · exact absurd rfl this
    · have hd : σ'.box i = .digs T l := hd
      rw [hb1] at hd; split at hd <;> cases hd
    · have hc : σ'.box i = .cells cs := hc
      rw [hb1] at hc; split at hc <;> cases hc
  refine ⟨Vs.forget (Vs.mono hle _ _ hR.tmps) hf, hR.defers, fun i => ?_, fun i hi => by rw [hb, if_pos hi], fun i x _ hx => ⟨Nat.lt_of_lt_of_le (hlt i x hx) hR.grow.meta0.size, fun h => by have := hβ _ _ h; omega⟩, fun i x hi hx => ?_, fun i j x hi _ hx _ => ?_, fun i x hi hx => ?_, GrowS.refl fun x h => (by have := hβ _ _ h; omega), fun i x _ hx => hx⟩
  · rw [hb]; split <;> trivial
  · have := hβ i x hx; omega
  · have := hβ i x hx; omega
  · rw [hb, if_pos (hβ i x hx)] at hi; cases hi

theorem mreg {β : Nat → Nat → Prop} {n : Nat} {ops : Array Oper} {σ : St} {a : Act} {w : World} {Q : Exit → Act → World → Prop} {K : St → Prop} (hR : R 1 β w σ β a w) (hS : ∀ x, ¬ β 2 x) (hb : σ.boxes = [.arena, .arena])
    (hc : countAllocs ops.toList = 0) (hI : Inv w) (h : mE K ops.toList ops σ) (hQ : ∀ σ' β' a' w', R 1 β w σ' β' a' w' → K σ' → Q .normal a' w') : (Code.region n ops false).wp Tryd.prog Q a w := by
  refine wp_region_list (evR_seq look_nil (fun w' hg => Inv_grow _ _ hI (hg.toGrow hS)) (K := K) (fun σ' β' a' w' hR' hK => hQ _ _ _ _ hR' hK) 2 ops.toList 2 σ β a w hR ⟨by omega, fun i hi => ?_, by rw [hb, hc]; exact Nat.le_refl _⟩ h)
  show σ.boxes.getD i .unborn = _
  rw [hb]
  match i, hi with
  | i + 2, _ => rfl

/-- what is known at a loop's head -/
structure MS (β : Nat → Nat → Prop) (lens : List Nat) (w0 : World) (i k : AV) (a : Act) (w : World) : Prop where
  inv : Inv w
  turn : Turn (fun x => ∃ i, β i x) w0 w
  frame : ∃ ds : List Mk, (ds.map fun d => d.mag.length) = lens ∧ R 1 β w (mhead ds i k) β a w

section
variable {β : Nat → Nat → Prop} {lens : List Nat} {w0 : World} {i k i' k' : AV} {a : Act} {w : World}
theorem MS.next (hβ : ∀ i x, β i x → i ≤ 1) (hlt : ∀ i x, β i x → x < w0.heap.size) {n : Nat} {ops : Array Oper} {Q : Exit → Act → World → Prop} (h : MS β lens w0 i k a w) (hc : countAllocs ops.toList = 0) (t : Nat) (c : Bool)
    (hE : ∀ ds : List Mk, (ds.map fun d => d.mag.length) = lens → ∃ σ' : St, (∀ K : St → Prop, K σ' → mE K ops.toList ops (mhead ds i k)) ∧ σ'.boxes = [.arena, .arena] ∧ forgets (mhead ds i' k').tmps σ'.tmps ∧ (σ'.tmps.getD t .junk = .bool c ∨ t = 0))
    (hQ : ∀ a' w', MS β lens w0 i' k' a' w' → (a'.eval (.tmp t) = .bool c ∨ t = 0) → Q .normal a' w') : (Code.region n ops false).wp Tryd.prog Q a w := by
  obtain ⟨ds, hds, hR⟩ := h.frame
  obtain ⟨σ', h1, h2, h3, h4⟩ := hE ds hds
  have hlt' : ∀ i x, β i x → x < w.heap.size := fun i x hx => Nat.lt_of_lt_of_le (hlt i x hx) h.turn.meta0.size
  have hS : ∀ x, ¬ β 2 x := fun x hx => by have := hβ 2 x hx; omega
  refine mreg hR hS rfl hc h.inv (h1 (fun s => s = σ') rfl) fun s β' a' w' hR' e => ?_
  subst e
  refine hQ a' w' ⟨Inv_grow _ _ h.inv (hR'.grow.toGrow hS), h.turn.trans ((hR'.grow.toGrow hS).turn _) (fun x ⟨i, hx⟩ => hlt i x hx), ds, hds, mrestart hβ hlt' hR' h2 rfl h3⟩ ?_
  rcases h4 with h4 | h4
  · left
    have hV := hR'.V_eval (.tmp t)
    have e : s.eval (.tmp t) = .bool c := h4
    rw [e] at hV
    exact hV.bool_inv
  · exact .inr h4
end

/-- the frame after a word was written over -/
theorem Ink.head {β : Nat → Nat → Prop} (hβ : ∀ i x, β i x → i ≤ 1) {b p : Nat} {w w' : World} (h : Ink b p w w') {ds : List Mk} {i k : Int} {a : Act} (hR : R 1 β w (mhead ds (.num .i64 i) (.num .i64 k)) β a w) :
    ∃ ds', (ds'.map fun d => d.mag.length) = (ds.map fun d => d.mag.length) ∧ R 1 β w' (mhead ds' (.num .i64 i) (.num .i64 k)) β a w' := by
  have hb : ∀ ds', (mhead ds' (.num .i64 i) (.num .i64 k)).box = argBs 1 := by
    intro ds'
    funext j
    show List.getD [Box.arena, Box.arena] j .unborn = _
    match j with
    | 0 => rfl
    | 1 => rfl
    | j + 2 => unfold argBs; rw [if_neg (by omega)]; rfl
  have hV := hR.tmps
  rw [hb] at hV
  unfold mhead at hV
  simp only at hV
  cases hL : a.tmps.toList with
  | nil => rw [hL] at hV; simp only [Vs] at hV
  | cons v vs =>
    rw [hL] at hV
    obtain ⟨h1, h2⟩ : V ⟨argBs 1, β, w⟩ (.vec [1] 3 (mkL ds)) v ∧ Vs ⟨argBs 1, β, w⟩ (.junk :: .num .i64 i :: .num .i64 k :: List.replicate 23 .junk) vs := by simpa only [Vs] using hV
    obtain ⟨ds', e, h3⟩ := h.vec h1
    refine ⟨ds', e, ?_, hR.defers, fun j => ?_, fun j hj => ?_, fun j x hj hx => ?_, fun j x hj hx => ?_, fun j l x hj _ hx _ => ?_, fun j x hj hx => ?_, GrowS.refl fun x h => (by have := hβ _ _ h; omega), fun j x _ hx => hx⟩
    · rw [hb, hL]
      unfold mhead
      simp only
      have h4 : Vs ⟨argBs 1, β, w'⟩ (.junk :: .num .i64 i :: .num .i64 k :: List.replicate 23 .junk) vs := by
        refine Vs.of h2.length fun j c u hc hu => ?_
        have hcu := h2.at hc hu
        match j, hc with
        | 0, hc => cases hc; simp only [V]
        | 1, hc => cases hc; simp only [V] at hcu ⊢; exact hcu
        | 2, hc => cases hc; simp only [V] at hcu ⊢; exact hcu
        | j + 3, hc =>
          simp only [List.getElem?_cons_succ, List.getElem?_replicate] at hc
          split at hc
          · cases hc; simp only [V]
          · cases hc
      simp only [Vs] at h4 ⊢
      exact ⟨h3, h4⟩
    · rw [hb]; unfold argBs; split <;> trivial
    · rw [hb]; unfold argBs; rw [if_pos hj]
    · have := hR.old j x hj hx; rw [h.size]; exact ⟨this.1, fun h => by have := hβ _ _ h; omega⟩
    · have := hβ j x hx; omega
    · have := hβ j x hx; omega
    · rw [hb] at hj; unfold argBs at hj; rw [if_pos (hβ j x hx)] at hj; cases hj

/-! the store -/
noncomputable def mS : Oper := mR6.toList.getD 7 default
theorem m6_split : mR6.toList.take 7 ++ [mS] = mR6.toList := by kernel_rfl
theorem mS_op : mS.op = .store 63 (.tmp 26) (.const (.int .u32 77)) := by kernel_rfl
theorem mS_guard : mS.guard = none := by kernel_rfl
theorem mS_dst : mS.dst = none := by kernel_rfl
theorem mS_size : size? Tryd.prog 63 = some 1 := by kernel_rfl
theorem mc : countAllocs mR0.toList = 0 ∧ countAllocs mR1.toList = 0 ∧ countAllocs mR2.toList = 0 ∧ countAllocs mR3.toList = 0 ∧ countAllocs mR4.toList = 0 ∧ countAllocs mR5.toList = 0 ∧ countAllocs (mR6.toList.take 7) = 0 :=
  ⟨by kernel_rfl, by kernel_rfl, by kernel_rfl, by kernel_rfl, by kernel_rfl, by kernel_rfl, by kernel_rfl⟩

section
variable {β : Nat → Nat → Prop} {lens : List Nat} {w0 : World} {a : Act} {w : World}
theorem MS.ink (hβ : ∀ i x, β i x → i ≤ 1) (hlt : ∀ i x, β i x → x < w0.heap.size) (hfz : ∀ i x, β i x → ∃ c T, w0.heap[x]? = some (.cells c T (0, 0))) {n : Nat} {Q : Exit → Act → World → Prop} {i k : Int}
    (h : MS β lens w0 (.num .i64 i) (.num .i64 k) a w)
    (hE : ∀ ds : List Mk, (ds.map fun d => d.mag.length) = lens → ∃ (σ' : St) (x : Nat), (∀ K : St → Prop, K σ' → mE K (mR6.toList.take 7) mR6 (mhead ds (.num .i64 i) (.num .i64 k))) ∧ σ'.boxes = [.arena, .arena] ∧
      forgets (mhead ds (.num .i64 i) (.num .i64 k)).tmps σ'.tmps ∧ σ'.tmps.getD 26 .junk = .cref [1] [.num .u32 (x : Int)])
    (hQ : ∀ a' w', MS β lens w0 (.num .i64 i) (.num .i64 k) a' w' → Q .normal a' w') : (Code.region n mR6 false).wp Tryd.prog Q a w := by
  obtain ⟨ds, hds, hR⟩ := h.frame
  obtain ⟨σ', x, h1, h2, h3, h4⟩ := hE ds hds
  have hlt' : ∀ i x, β i x → x < w.heap.size := fun i x hx => Nat.lt_of_lt_of_le (hlt i x hx) h.turn.meta0.size
  have hS : ∀ x, ¬ β 2 x := fun x hx => by have := hβ 2 x hx; omega
  have key := evR_tail (Q := Q) (T := [mS]) look_nil (fun w' hg => Inv_grow _ _ h.inv (hg.toGrow hS)) (K := fun s => s = σ') (fun s β' a' w' hR' e => ?_) 2 (mR6.toList.take 7) 2 _ β a w hR ⟨by omega, fun j hj => ?_, by rw [mc.2.2.2.2.2.2]; exact Nat.le_refl _⟩ (h1 (fun s => s = σ') rfl)
  · rw [m6_split] at key
    exact wp_region_list key
  · subst e
    have hV := hR'.V_eval (.tmp 26)
    rw [show s.eval (.tmp 26) = .cref [1] [.num .u32 (x : Int)] from h4] at hV
    simp only [V] at hV
    obtain ⟨-, vs, hvs, b, off, hp, hd⟩ := hV
    have hal : Ctx.alive ⟨s.box, β', w'⟩ [1] := fun j hj => by
      have : j = 1 := by simpa using hj
      subst this
      show s.boxes.getD 1 .unborn = _
      rw [h2]; rfl
    obtain ⟨⟨j, hj, hin⟩, hcell⟩ := hd hal
    have hj1 : j = 1 := by simpa using hj
    subst hj1
    have hin1 : β 1 b := hR'.arg0 1 b (Nat.le_refl _) hin
    obtain ⟨c0, T, hc0⟩ := hfz 1 b hin1
    obtain ⟨c1, hc1, -⟩ := h.turn.inS b c0 T ⟨1, hin1⟩ hc0
    have hheap : w'.heap[b]? = some (.cells c1 T (0, 0)) := ((hR'.grow.toGrow hS).below.block b (hlt' 1 b hin1)).trans hc1
    match vs, hvs, hcell with
    | [u], hvs, hcell =>
      simp only [Vs, V] at hvs
      obtain ⟨⟨rfl, hu⟩, -⟩ := hvs
      have hcl := hcell 0 _ rfl
      rw [Nat.add_zero, cell?_of_block hheap] at hcl
      have hoff : off < c1.size := (Array.getElem?_eq_some_iff.1 hcl).1
      have hst := run_storeCells_at Tryd.prog b off T [.int .u32 77] 0 c1 w' hheap (by simp; omega) (fun u hu => by simp at hu; subst hu; rfl)
      simp only [Nat.add_zero] at hst
      let cs' : Array Value := (c1.toList.take off ++ [Value.int .u32 77] ++ c1.toList.drop (off + [Value.int .u32 77].length)).toArray
      have hp : a'.eval (.tmp 26) = .pointer (some ⟨b, off, none⟩) := hp
      have hrun : (execOp a'.eval mS).run Tryd.prog w' = .ok .skip (w'.setRow b cs') := by
        simp only [execOp, mS_op, hp, Instr.storeAt, Instr.sureAddr, Sem.run_bind, Sem.run_pure, Result.andThen_ok, storeVar, run_sizeOf mS_size, show a'.eval (.const (.int .u32 77)) = .int .u32 77 from rfl, Value.cells, List.size_toArray, List.length_cons, List.length_nil, ne_eq, Nat.zero_add, not_true_eq_false, if_false, hst, cs']
      have hink : Ink b off w' (w'.setRow b cs') := by
        refine ⟨⟨rfl, rfl, rfl, by simp, fun k hk => by omega⟩, by simp, fun y hy => setRow_other _ _ _ _ hy, c1, cs', T, hheap, setRow_heap w' b c1 cs' T (0, 0) hheap, fun j hj => ?_, ⟨x, hcl⟩, ?_⟩
        · simp only [cs', List.getElem?_toArray]
          rcases Nat.lt_or_ge j off with c | c
          · rw [List.append_assoc, List.getElem?_append_left (by simp; omega), List.getElem?_take, if_pos c]; simp
          · rw [List.getElem?_append_right (by simp; omega), List.getElem?_drop]
            have : off + [Value.int IntKind.u32 77].length + (j - (c1.toList.take off ++ [Value.int IntKind.u32 77]).length) = j := by simp; omega
            rw [this]; simp
        · simp only [cs', List.getElem?_toArray]
          rw [List.append_assoc, List.getElem?_append_right (by simp; omega)]
          have : off - (c1.toList.take off).length = 0 := by simp; omega
          rw [this]; rfl
      have hR2 : R 1 β w' (mhead ds (.num .i64 i) (.num .i64 k)) β a' w' := mrestart hβ hlt' hR' h2 rfl h3
      obtain ⟨ds', e, hR3⟩ := hink.head hβ hR2
      have ht : Turn (fun x => ∃ i, β i x) w0 (w'.setRow b cs') :=
        (h.turn.trans ((hR'.grow.toGrow hS).turn _) (fun x ⟨i, hx⟩ => hlt i x hx)).trans (hink.turn ⟨1, hin1⟩) (fun x ⟨i, hx⟩ => hlt i x hx)
      have hI : Inv (w'.setRow b cs') := fun j hj => hink.cell (Inv_grow _ _ h.inv (hR'.grow.toGrow hS) j hj) (by intro y hy; cases hy)
      unfold wpList
      rw [if_pos (by simp [Region.wanted, mS_guard])]
      refine .inl ?_
      unfold Oper.wp
      rw [hrun]
      have := hQ (a'.put mS.dst undef) (w'.setRow b cs') ⟨hI, ht, ds', by rw [e, hds], by rw [mS_dst]; exact hR3⟩
      exact this
    | [], hvs, _ => simp only [Vs] at hvs
    | _ :: _ :: _, hvs, _ => simp [Vs] at hvs
  · show List.getD [Box.arena, Box.arena] j .unborn = _
    match j, hj with
    | j + 2, _ => rfl
end
end Go.AI

namespace Go.AI
open Go Go.RowKit Go.Proofs
set_option linter.unusedVariables false
set_option maxRecDepth 100000

section
variable {β : Nat → Nat → Prop} {lens : List Nat} {w0 : World} {a : Act} {w : World}
theorem mlen {n : Nat} (hl : lens.length = n) {ds : List Mk} (h : (ds.map fun d => d.mag.length) = lens) : ds.length = n := by rw [← hl, ← h]; simp

/-- the inner loop: the words of one number -/
theorem minner (hβ : ∀ i x, β i x → i ≤ 1) (hlt : ∀ i x, β i x → x < w0.heap.size) (hfz : ∀ i x, β i x → ∃ c T, w0.heap[x]? = some (.cells c T (0, 0))) {Q : Exit → Act → World → Prop} {i : Nat} {n : Nat} (hl : lens.length = n) (hq : MEq n i) (hcap : lens.getD i 0 ≤ 2 ^ 45) {k : Nat} (hk : k ≤ lens.getD i 0)
    (h : MS β lens w0 (.num .i64 (i : Int)) (.num .i64 (k : Int)) a w) (hQ : ∀ a' w', MS β lens w0 (.num .i64 (i : Int)) .junk a' w' → Q .normal a' w') :
    (Code.block 2 (.loop (.seq (.seq (.region 4 mR4 false) (.cond (.tmp 17) .skip (.exit 2))) (.seq (.block 3 (.region 6 mR6 false)) (.region 5 mR5 false))))).wp Tryd.prog Q a w := by
  refine wp_block ?_
  refine wp_loop_nat (fun m a w => ∃ k : Nat, k + m = lens.getD i 0 ∧ MS β lens w0 (.num .i64 (i : Int)) (.num .i64 (k : Int)) a w) (fun m a w ⟨k, hm, h⟩ => ?_) (n := lens.getD i 0 - k) ⟨k, by omega, h⟩
  refine wp_seq ?_
  refine wp_seq ?_
  refine h.next hβ hlt mc.2.2.2.2.1 17 (decide ((k : Int) < ((lens.getD i 0 : Nat) : Int))) (i' := .num .i64 (i : Int)) (k' := .num .i64 (k : Int)) (fun ds hds => ?_) (fun a1 w1 h1 hc => ?_)
  · obtain ⟨σ', q1, q2, q3, q4⟩ := hq.e4 ds (mlen hl hds) k
    rw [hds] at q4
    exact ⟨σ', q1, q2, q3, .inl q4⟩
  · have hc := hc.resolve_right (by omega)
    refine wp_cond_split hc (fun ht => ?_) (fun hf => ?_)
    · have hlt1 : k < lens.getD i 0 := by simpa using ht
      refine wp_skip ?_
      refine wp_seq ?_
      refine wp_block ?_
      refine h1.ink hβ hlt hfz (fun ds hds => ?_) (fun a2 w2 h2 => ?_)
      · obtain ⟨σ', x, q⟩ := hq.e6 ds (mlen hl hds) k (by omega) (by rw [hds]; omega)
        exact ⟨σ', x, q⟩
      · refine h2.next hβ hlt mc.2.2.2.2.2.1 0 true (i' := .num .i64 (i : Int)) (k' := .num .i64 ((k + 1 : Nat) : Int)) (fun ds hds => ?_) (fun a3 w3 h3 _ => ?_)
        · apply Exists.intro
          refine ⟨fun K hK => ?_, ?_, ?_, .inr rfl⟩
          · unfold mE; rw [ev_m5 ds i k K]; exact hK
          · rfl
          · have e : IntKind.i64.wrap ((k : Int) + 1) = ((k + 1 : Nat) : Int) := by rw [wrap_i64 (by omega) (by omega)]; omega
            rw [e]
            (repeat' first | exact True.intro | (refine And.intro (by first | exact Or.inl rfl | exact Or.inr rfl) ?_))
        · exact ⟨m - 1, by omega, k + 1, by omega, h3⟩
    · refine wp_exit ?_
      exact hQ a1 w1 ⟨h1.inv, h1.turn, by
        obtain ⟨ds, e, hR⟩ := h1.frame
        refine ⟨ds, e, ?_⟩
        exact mrestart hβ (fun i x hx => Nat.lt_of_lt_of_le (hlt i x hx) h1.turn.meta0.size) hR rfl rfl (by unfold mhead; refine ⟨.inr rfl, .inr rfl, .inr rfl, .inl rfl, ?_⟩; simp only [List.replicate]; (repeat' first | exact True.intro | (refine And.intro (by first | exact Or.inl rfl | exact Or.inr rfl) ?_)))⟩

/-- the outer loop -/
theorem mouter (hβ : ∀ i x, β i x → i ≤ 1) (hlt : ∀ i x, β i x → x < w0.heap.size) (hfz : ∀ i x, β i x → ∃ c T, w0.heap[x]? = some (.cells c T (0, 0))) {Q : Exit → Act → World → Prop} {n : Nat} (hn : n = 1 ∨ n = 2 ∨ n = 3) (hl : lens.length = n) (hcap : ∀ m ∈ lens, m ≤ 2 ^ 45)
    (h : MS β lens w0 (.num .i64 0) .junk a w) (hQ : ∀ a' w', a'.defers = [] → Turn (fun x => ∃ i, β i x) w0 w' → Q .normal a' w') :
    (Code.block 0 (.loop (.seq (.seq (.region 1 mR1 false) (.cond (.tmp 7) .skip (.exit 0)))
    (.seq (.block 1 (.seq (.region 3 mR3 false) (.block 2 (.loop (.seq (.seq (.region 4 mR4 false) (.cond (.tmp 17) .skip (.exit 2))) (.seq (.block 3 (.region 6 mR6 false)) (.region 5 mR5 false))))))) (.region 2 mR2 false))))).wp Tryd.prog Q a w := by
  refine wp_block ?_
  refine wp_loop_nat (fun m a w => ∃ i : Nat, i + m = n ∧ MS β lens w0 (.num .i64 (i : Int)) .junk a w) (fun m a w ⟨i, hm, h⟩ => ?_) (n := n) ⟨0, by omega, h⟩
  refine wp_seq ?_
  refine wp_seq ?_
  refine h.next hβ hlt mc.2.1 7 (decide ((i : Int) < (n : Int))) (i' := .num .i64 (i : Int)) (k' := .junk) (fun ds hds => ?_) (fun a1 w1 h1 hc => ?_)
  · obtain ⟨σ', q1, q2, q3, q4⟩ := m1 n hn ds (mlen hl hds) i .junk
    exact ⟨σ', q1, q2, q3, .inl q4⟩
  · have hc := hc.resolve_right (by omega)
    refine wp_cond_split hc (fun ht => ?_) (fun hf => ?_)
    · have hi : i < n := by simpa using ht
      refine wp_skip ?_
      refine wp_seq ?_
      refine wp_block ?_
      refine wp_seq ?_
      refine h1.next hβ hlt mc.2.2.2.1 0 true (i' := .num .i64 (i : Int)) (k' := .num .i64 ((0 : Nat) : Int)) (fun ds hds => ?_) (fun a2 w2 h2 _ => ?_)
      · apply Exists.intro
        refine ⟨fun K hK => ?_, ?_, ?_, .inr rfl⟩
        · unfold mE; rw [ev_m3 ds i .junk K]; exact hK
        · rfl
        · (repeat' first | exact True.intro | (refine And.intro (by first | exact Or.inl rfl | exact Or.inr rfl) ?_))
      · refine minner hβ hlt hfz hl (meq hn hi) (hcap _ ?_) (Nat.zero_le _) h2 fun a3 w3 h3 => ?_
        · rw [List.getD, List.getElem?_eq_getElem (by omega)]
          simp
        · refine h3.next hβ hlt mc.2.2.1 0 true (i' := .num .i64 ((i + 1 : Nat) : Int)) (k' := .junk) (fun ds hds => ?_) (fun a4 w4 h4 _ => ?_)
          · apply Exists.intro
            refine ⟨fun K hK => ?_, ?_, ?_, .inr rfl⟩
            · unfold mE; rw [ev_m2 ds i .junk K]; exact hK
            · rfl
            · have e : IntKind.i64.wrap ((i : Int) + 1) = ((i + 1 : Nat) : Int) := by rw [wrap_i64 (by omega) (by omega)]; omega
              rw [e]
              (repeat' first | exact True.intro | (refine And.intro (by first | exact Or.inl rfl | exact Or.inr rfl) ?_))
          · exact ⟨m - 1, by omega, i + 1, by omega, h4⟩
    · refine wp_exit ?_
      obtain ⟨ds, e, hR⟩ := h1.frame
      exact hQ a1 w1 hR.defers h1.turn
end

theorem mresults (tmps : Array Value) (w : World) : (results Tryd.f23 tmps).run Tryd.prog w = .ok (.tuple #[]) w := by kernel_rfl
theorem mfuncs : Tryd.prog.funcs[23]? = some Tryd.f23 := by kernel_rfl
theorem mntmps : Tryd.f23.ntmps = 27 := by kernel_rfl

theorem mcap : ∀ {ds : List Mk} {d : Mk}, AV.oks (mkL ds) → d ∈ ds → d.mag.length ≤ 2 ^ 45
  | [], _, _, h => by cases h
  | e :: l, d, h1, h => by
    unfold mkL at h1
    simp only [List.map_cons, AV.oks] at h1
    rcases List.mem_cons.1 h with rfl | h
    · have := h1.1
      unfold mkAV at this
      simp only [AV.ok, AV.oks] at this
      exact this.2.1.1
    · exact mcap h1.2 h

theorem ok_marked (ds : List Mk) (hn : ds.length = 1 ∨ ds.length = 2 ∨ ds.length = 3) : Contract Tryd.prog Inv 23 [.vec [1] 3 (mkL ds)] (.boxv []) := by
  refine ⟨fun cs w => Tryd.call23 cs w, fun w cargs β hInv hlt hV hask => ?_⟩
  let β1 : Nat → Nat → Prop := fun i x => i ≤ 1 ∧ β i x
  have hβ : ∀ i x, β1 i x → i ≤ 1 := fun i x h => h.1
  have hfz : ∀ i x, β1 i x → ∃ c T, w.heap[x]? = some (.cells c T (0, 0)) := fun i x h => by
    have hask : ∀ i x, β i x → ∃ c T, w.heap[x]? = some (.cells c T (0, 0)) := hask
    exact hask i x h.2
  have hle : Le ⟨argBs 1, β, w⟩ ⟨argBs 1, β1, w⟩ := by
    have hb : ∀ i, argBs 1 i ≠ .unborn → i ≤ 1 := fun i hi => by
      unfold argBs at hi
      rcases Nat.lt_or_ge 1 i with h' | h'
      · rw [if_neg (by omega)] at hi; exact absurd rfl hi
      · exact h'
    exact ⟨fun _ h => h, fun i hi ha => ⟨ha, fun x hx => ⟨⟨hb i hi, hx⟩, rfl⟩⟩, fun i T l hi hd => ⟨l, hd, rfl, fun x hx => ⟨⟨hb i hi, hx⟩, fun cs hc => ⟨cs, hc, rfl⟩⟩⟩, fun i cs hi hc => ⟨cs, hc, fun x hx => ⟨hb i hi, hx⟩⟩⟩
  have hok := Vs.ok _ _ hV
  have hV1 := Vs.mono hle _ _ hV
  match cargs, hV1 with
  | [v], hV1 =>
    have hcap : ∀ m ∈ ds.map (fun d => d.mag.length), m ≤ 2 ^ 45 := by
      have h1 : AV.oks (mkL ds) := by
        simp only [AV.oks, AV.ok] at hok
        exact hok.1.2
      clear hV hV1 hok
      intro m hm
      obtain ⟨d, hd, rfl⟩ := List.mem_map.1 hm
      exact mcap h1 hd
    let σ : St := ⟨.vec [1] 3 (mkL ds) :: List.replicate 26 .junk, [.arena, .arena]⟩
    have hb : σ.box = argBs 1 := by
      funext j
      show List.getD [Box.arena, Box.arena] j .unborn = _
      match j with
      | 0 => rfl
      | 1 => rfl
      | j + 2 => unfold argBs; rw [if_neg (by omega)]; rfl
    let a0 : Act := { tmps := #[v] ++ Array.replicate (Tryd.f23.ntmps - (#[v] : Array Value).size) undef, defers := [] }
    have ht : a0.tmps.toList = v :: List.replicate 26 undef := by
      show (#[v] ++ Array.replicate (Tryd.f23.ntmps - (#[v] : Array Value).size) undef).toList = _
      rw [mntmps]
      simp
    have hR : R 1 β1 w σ β1 a0 w := by
      refine ⟨?_, rfl, fun i => ?_, fun i hi => ?_, fun i x _ hx => ⟨hlt i x hx.2, fun h => absurd h.1 (by omega)⟩, fun i x hi hx => absurd hx.1 (by omega), fun i j x hi _ hx _ => absurd hx.1 (by omega), fun i x hi hx => ?_, GrowS.refl fun x hx => absurd hx.1 (by omega), fun i x _ hx => hx⟩
      · rw [hb, ht]
        simp only [σ, Vs] at hV1 ⊢
        refine ⟨hV1.1, Vs.of (by simp) fun i c v hc _ => ?_⟩
        rw [List.getElem?_replicate] at hc
        split at hc
        · cases hc; simp only [V]
        · cases hc
      · rw [hb]; unfold argBs; split <;> trivial
      · rw [hb]; unfold argBs; rw [if_pos hi]
      · rw [hb] at hi; unfold argBs at hi; rw [if_pos hx.1] at hi; cases hi
    have hS : ∀ x, ¬ β1 2 x := fun x hx => absurd hx.1 (by omega)
    refine calls_of_wp mfuncs mbody ?_
    refine wp_seq ?_
    refine mreg (K := fun s => s.boxes = [.arena, .arena] ∧ forgets (mhead ds (.num .i64 0) .junk).tmps s.tmps) hR hS rfl mc.1 hInv ?_ fun s β' a' w' hR' hK => ?_
    · unfold mE
      rw [ev_m0 ds]
      refine ⟨rfl, ?_⟩
      (repeat' first | exact True.intro | (refine And.intro (by first | exact Or.inl rfl | exact Or.inr rfl) ?_))
    · have hms : MS β1 (ds.map fun d => d.mag.length) w (.num .i64 0) .junk a' w' :=
        ⟨Inv_grow _ _ hInv (hR'.grow.toGrow hS), (hR'.grow.toGrow hS).turn _, ds, rfl, mrestart hβ (fun i x h => hlt i x h.2) hR' hK.1 rfl hK.2⟩
      refine mouter hβ (fun i x h => hlt i x h.2) hfz hn (by simp) hcap hms fun a2 w2 hd ht2 => ?_
      refine ⟨hd, .tuple #[], mresults _ _, .tuple #[], rfl, rfl, ht2.mono fun x ⟨i, h⟩ => ⟨i, h.2⟩⟩
  | [], hV1 => simp only [Vs] at hV1
  | _ :: _ :: _, hV1 => simp [Vs] at hV1
end Go.AI

namespace Go.AI
open Go Go.RowKit Go.Proofs
set_option linter.unusedVariables false
def lMarked : List AV → Option Spec
  | [.vec [1] 3 [.agg [.bool s, .dig [1] m, .num .i64 e]]] => some ⟨none, .boxv []⟩
  | [.vec [1] 3 [.agg [.bool s, .dig [1] m, .num .i64 e], .agg [.bool s', .dig [1] m', .num .i64 e']]] => some ⟨none, .boxv []⟩
  | [.vec [1] 3 [.agg [.bool s, .dig [1] m, .num .i64 e], .agg [.bool s', .dig [1] m', .num .i64 e'], .agg [.bool s2, .dig [1] m2, .num .i64 e2]]] => some ⟨none, .boxv []⟩
  | _ => none
def tab23 : List (Nat × (List AV → Option Spec)) := (23, lMarked) :: tab22
theorem ok_lMarked (args : List AV) (s : Spec) (h : lMarked args = some s) (hp : andO s.pre True) : Contract Tryd.prog Inv 23 args s.res := by
  unfold lMarked at h
  split at h
  · rename_i s m e
    cases h
    exact ok_marked [⟨s, m, e⟩] (.inl rfl)
  · rename_i s m e s' m' e'
    cases h
    exact ok_marked [⟨s, m, e⟩, ⟨s', m', e'⟩] (.inr (.inl rfl))
  · rename_i s m e s' m' e' s2 m2 e2
    cases h
    exact ok_marked [⟨s, m, e⟩, ⟨s', m', e'⟩, ⟨s2, m2, e2⟩] (.inr (.inr rfl))
  · cases h
theorem ok_tab23 : PhiOk Tryd.prog Inv (look tab23) := look_cons ok_tab22 ok_lMarked
end Go.AI
