/- My texts AIspecG, AVclose, AIclose0, AIclose, in one. -/
import Derived.Test.YtnhbdcnnanfacaaDoorK9
namespace Go.Dy
def timesD (n y : Dyd) : Dyd × Int := if (if mayD y = true then signD y else 0) = 0 then boundIf (mayD n && mayD n) (mulD n n) else boundIf (mayD n && mayD y) (mulD n y)
/-- one unit of a number's last bit of so many -/
def unitD (q : Dyd) (k : Int) : Dyd := ⟨false, [1], topD q - k⟩
/-- a number is nearest from within, and what is told of it is true -/
def WithinP (q : Dyd) (lost : Bool) (k : Int) (y x : Dyd) : Prop :=
  mayD q = true ∧ mayD y = true ∧ mayD x = true ∧ 1 ≤ k ∧ k ≤ 8192 ∧ (cutD q k).num = q ∧ (cutD q k).err = 0 ∧
  (timesD q y).2 = 0 ∧ mayD (timesD q y).1 = true ∧ cmpD (timesD q y).1 x ≤ 0 ∧ lost = decide (cmpD (timesD q y).1 x < 0) ∧ (signD q = 0 ↔ signD x = 0) ∧
  (signD q = 0 ∨ (boundIf (mayD q && mayD (unitD q k)) (addD q (unitD q k)) = (addD q (unitD q k), 0) ∧ (timesD (addD q (unitD q k)) y).2 = 0 ∧ mayD (timesD (addD q (unitD q k)) y).1 = true ∧ 0 < cmpD (timesD (addD q (unitD q k)) y).1 x))
end Go.Dy
namespace Go.AI
open Go Go.RowKit Go.Proofs
set_option linter.unusedVariables false
def lTimes : List AV → Option Spec
  | [.agg [.bool s, .dig [1] m, .num .i64 e], .agg [.bool s', .dig [2] m', .num .i64 e']] =>
    some ⟨none, .tup [avD [0] (Dy.timesD ⟨s, m, e⟩ ⟨s', m', e'⟩).1, .num .i64 (Dy.timesD ⟨s, m, e⟩ ⟨s', m', e'⟩).2]⟩
  | _ => none
def lWithin : List AV → Option Spec
  | [.agg [.bool s, .dig [1] m, .num .i64 e], .bool lost, .num .i64 k, .agg [.bool s', .dig [4] m', .num .i64 e'], .agg [.bool s2, .dig [5] m2, .num .i64 e2]] =>
    some ⟨some (Dy.WithinP ⟨s, m, e⟩ lost k ⟨s', m', e'⟩ ⟨s2, m2, e2⟩), .bool true⟩
  | _ => none
def tabG0 : List (Nat × (List AV → Option Spec)) := (90, lTimes) :: tabF
def tabG : List (Nat × (List AV → Option Spec)) := (57, lWithin) :: tabG0
end Go.AI

namespace Go.AI
open Go Go.RowKit Go.Proofs
set_option linter.unusedVariables false
set_option maxRecDepth 100000
set_option maxHeartbeats 0
theorem vc_law2_times (s : Bool) (s' : Bool) (m : List
  Nat) (m' : List
  Nat) (e : Int) (e' : Int) (Q : AV →
  Prop) : (evF Tryd.prog (look tabF) (lam []) false Tryd.f90
  [AV.agg [AV.bool s, AV.dig [(1 : Nat)] m, AV.num IntKind.i64 e],
  AV.agg [AV.bool s', AV.dig [(2 : Nat)] m', AV.num IntKind.i64 e']]
  Q) =
  (bif
  decide ((if Dy.mayD (Dy.Dyd.mk s' m' e') = true then Dy.signD (Dy.Dyd.mk s' m' e') else (0 : Int)) = (0 : Int)) then
  ∀ (b1 : Bool),
  b1 =
  (Dy.boundIf (Dy.mayD (Dy.Dyd.mk s m e) && Dy.mayD (Dy.Dyd.mk s m e))
  (Dy.mulD (Dy.Dyd.mk s m e) (Dy.Dyd.mk s m e))).1.neg →
  ∀ (l2 : List Nat),
  l2 =
  (Dy.boundIf (Dy.mayD (Dy.Dyd.mk s m e) && Dy.mayD (Dy.Dyd.mk s m e))
  (Dy.mulD (Dy.Dyd.mk s m e) (Dy.Dyd.mk s m e))).1.mag →
  ∀ (n3 : Int),
  n3 =
  (Dy.boundIf (Dy.mayD (Dy.Dyd.mk s m e) && Dy.mayD (Dy.Dyd.mk s m e))
  (Dy.mulD (Dy.Dyd.mk s m e) (Dy.Dyd.mk s m e))).1.exp →
  ∀ (n4 : Int),
  n4 =
  (Dy.boundIf (Dy.mayD (Dy.Dyd.mk s m e) && Dy.mayD (Dy.Dyd.mk s m e))
  (Dy.mulD (Dy.Dyd.mk s m e) (Dy.Dyd.mk s m e))).snd →
  Q (AV.tup [AV.agg [AV.bool b1, AV.dig [(0 : Nat)] l2, AV.num IntKind.i64 n3], AV.num IntKind.i64 n4])
 else
  ∀ (b5 : Bool),
  b5 =
  (Dy.boundIf (Dy.mayD (Dy.Dyd.mk s m e) && Dy.mayD (Dy.Dyd.mk s' m' e'))
  (Dy.mulD (Dy.Dyd.mk s m e) (Dy.Dyd.mk s' m' e'))).1.neg →
  ∀ (l6 : List Nat),
  l6 =
  (Dy.boundIf (Dy.mayD (Dy.Dyd.mk s m e) && Dy.mayD (Dy.Dyd.mk s' m' e'))
  (Dy.mulD (Dy.Dyd.mk s m e) (Dy.Dyd.mk s' m' e'))).1.mag →
  ∀ (n7 : Int),
  n7 =
  (Dy.boundIf (Dy.mayD (Dy.Dyd.mk s m e) && Dy.mayD (Dy.Dyd.mk s' m' e'))
  (Dy.mulD (Dy.Dyd.mk s m e) (Dy.Dyd.mk s' m' e'))).1.exp →
  ∀ (n8 : Int),
  n8 =
  (Dy.boundIf (Dy.mayD (Dy.Dyd.mk s m e) && Dy.mayD (Dy.Dyd.mk s' m' e'))
  (Dy.mulD (Dy.Dyd.mk s m e) (Dy.Dyd.mk s' m' e'))).snd →
  Q
  (AV.tup
  [AV.agg [AV.bool b5, AV.dig [(0 : Nat)] l6, AV.num IntKind.i64 n7],
  AV.num IntKind.i64 n8])) := by kernel_rfl
theorem vc_law2_within (s : Bool) (lost : Bool) (s' : Bool) (s2 : Bool) (m : List
  Nat) (m' : List
  Nat) (m2 : List
  Nat) (e : Int) (k : Int) (e' : Int) (e2 : Int) (Q : AV →
  Prop) : (evF Tryd.prog (look tabG0) (lam []) false Tryd.f57
  [AV.agg [AV.bool s, AV.dig [(1 : Nat)] m, AV.num IntKind.i64 e], AV.bool lost, AV.num IntKind.i64 k,
  AV.agg [AV.bool s', AV.dig [(4 : Nat)] m', AV.num IntKind.i64 e'],
  AV.agg [AV.bool s2, AV.dig [(5 : Nat)] m2, AV.num IntKind.i64 e2]]
  Q) =
  (∀ (b1 : Bool),
  b1 = (Dy.cutD (Dy.Dyd.mk s m e) k).num.neg →
  ∀ (l2 : List Nat),
  l2 = (Dy.cutD (Dy.Dyd.mk s m e) k).num.mag →
  ∀ (n3 : Int),
  n3 = (Dy.cutD (Dy.Dyd.mk s m e) k).num.exp →
  ∀ (b4 : Bool),
  b4 = (Dy.cutD (Dy.Dyd.mk s m e) k).lost →
  ∀ (n5 : Int),
  n5 = (Dy.cutD (Dy.Dyd.mk s m e) k).err →
  ∀ (b6 : Bool),
  b6 = (Dy.timesD (Dy.Dyd.mk s m e) (Dy.Dyd.mk s' m' e')).1.neg →
  ∀ (l7 : List Nat),
  l7 = (Dy.timesD (Dy.Dyd.mk s m e) (Dy.Dyd.mk s' m' e')).1.mag →
  ∀ (n8 : Int),
  n8 = (Dy.timesD (Dy.Dyd.mk s m e) (Dy.Dyd.mk s' m' e')).1.exp →
  ∀ (n9 : Int),
  n9 = (Dy.timesD (Dy.Dyd.mk s m e) (Dy.Dyd.mk s' m' e')).snd →
  ∀ (n10 : Int),
  (n10 =
  if (Dy.mayD (Dy.Dyd.mk b6 l7 n8) && Dy.mayD (Dy.Dyd.mk s2 m2 e2)) = true then
  Dy.cmpD (Dy.Dyd.mk b6 l7 n8) (Dy.Dyd.mk s2 m2 e2)
  else (0 : Int)) →
  ∀ (n11 : Int),
  (n11 =
  if
  (Dy.mayD (Dy.Dyd.mk b6 l7 n8) && Dy.mayD (Dy.Dyd.mk s2 m2 e2)) =
  true then
  (0 : Int)
  else (2 : Int)) →
  bif !decide (n5 = (0 : Int)) then Q (AV.bool false)
  else
  bif !decide (n9 = (0 : Int)) then Q (AV.bool false)
  else
  bif !decide (n11 = (0 : Int)) then Q (AV.bool false)
  else
  bif !Dy.sameD (Dy.Dyd.mk b1 l2 n3) (Dy.Dyd.mk s m e) then
  Q (AV.bool false)
  else
  bif decide (n10 > (0 : Int)) then Q (AV.bool false)
  else
  bif !decide (lost = decide (n10 < (0 : Int))) then
  Q (AV.bool false)
  else
  bif
  !decide
  (decide
  ((if Dy.mayD (Dy.Dyd.mk s m e) = true then
  Dy.signD (Dy.Dyd.mk s m e)
  else (0 : Int)) =
  (0 : Int)) =
  decide
  ((if Dy.mayD (Dy.Dyd.mk s2 m2 e2) = true then
  Dy.signD (Dy.Dyd.mk s2 m2 e2)
  else (0 : Int)) =
  (0 : Int))) then
  Q (AV.bool false)
  else
  bif
  decide
  ((if Dy.mayD (Dy.Dyd.mk s m e) = true then
  Dy.signD (Dy.Dyd.mk s m e)
  else (0 : Int)) =
  (0 : Int)) then
  Q (AV.bool true)
  else
  ∀ (b12 : Bool),
  b12 =
  (Dy.boundIf
  (Dy.mayD (Dy.Dyd.mk s m e) &&
  Dy.mayD
  (Dy.Dyd.mk false [(1 : Nat)]
  (IntKind.i64.wrap
  ((if
  Dy.mayD (Dy.Dyd.mk s m e) =
  true then
  Dy.topD (Dy.Dyd.mk s m e)
  else (0 : Int)) -
  k))))
  (Dy.addD (Dy.Dyd.mk s m e)
  (Dy.Dyd.mk false [(1 : Nat)]
  (IntKind.i64.wrap
  ((if Dy.mayD (Dy.Dyd.mk s m e) = true then
  Dy.topD (Dy.Dyd.mk s m e)
  else (0 : Int)) -
  k))))).1.neg →
  ∀ (l13 : List Nat),
  l13 =
  (Dy.boundIf
  (Dy.mayD (Dy.Dyd.mk s m e) &&
  Dy.mayD
  (Dy.Dyd.mk false [(1 : Nat)]
  (IntKind.i64.wrap
  ((if
  Dy.mayD (Dy.Dyd.mk s m e) =
  true then
  Dy.topD (Dy.Dyd.mk s m e)
  else (0 : Int)) -
  k))))
  (Dy.addD (Dy.Dyd.mk s m e)
  (Dy.Dyd.mk false [(1 : Nat)]
  (IntKind.i64.wrap
  ((if
  Dy.mayD (Dy.Dyd.mk s m e) =
  true then
  Dy.topD (Dy.Dyd.mk s m e)
  else (0 : Int)) -
  k))))).1.mag →
  ∀ (n14 : Int),
  n14 =
  (Dy.boundIf
  (Dy.mayD (Dy.Dyd.mk s m e) &&
  Dy.mayD
  (Dy.Dyd.mk false [(1 : Nat)]
  (IntKind.i64.wrap
  ((if
  Dy.mayD
  (Dy.Dyd.mk s m e) =
  true then
  Dy.topD (Dy.Dyd.mk s m e)
  else (0 : Int)) -
  k))))
  (Dy.addD (Dy.Dyd.mk s m e)
  (Dy.Dyd.mk false [(1 : Nat)]
  (IntKind.i64.wrap
  ((if
  Dy.mayD (Dy.Dyd.mk s m e) =
  true then
  Dy.topD (Dy.Dyd.mk s m e)
  else (0 : Int)) -
  k))))).1.exp →
  ∀ (n15 : Int),
  n15 =
  (Dy.boundIf
  (Dy.mayD (Dy.Dyd.mk s m e) &&
  Dy.mayD
  (Dy.Dyd.mk false [(1 : Nat)]
  (IntKind.i64.wrap
  ((if
  Dy.mayD
  (Dy.Dyd.mk s m e) =
  true then
  Dy.topD (Dy.Dyd.mk s m e)
  else (0 : Int)) -
  k))))
  (Dy.addD (Dy.Dyd.mk s m e)
  (Dy.Dyd.mk false [(1 : Nat)]
  (IntKind.i64.wrap
  ((if
  Dy.mayD
  (Dy.Dyd.mk s m e) =
  true then
  Dy.topD (Dy.Dyd.mk s m e)
  else (0 : Int)) -
  k))))).snd →
  ∀ (b16 : Bool),
  b16 =
  (Dy.timesD (Dy.Dyd.mk b12 l13 n14)
  (Dy.Dyd.mk s' m' e')).1.neg →
  ∀ (l17 : List Nat),
  l17 =
  (Dy.timesD (Dy.Dyd.mk b12 l13 n14)
  (Dy.Dyd.mk s' m'
  e')).1.mag →
  ∀ (n18 : Int),
  n18 =
  (Dy.timesD
  (Dy.Dyd.mk b12 l13 n14)
  (Dy.Dyd.mk s' m'
  e')).1.exp →
  ∀ (n19 : Int),
  n19 =
  (Dy.timesD
  (Dy.Dyd.mk b12 l13
  n14)
  (Dy.Dyd.mk s' m'
  e')).snd →
  ∀ (n20 : Int),
  (n20 =
  if
  (Dy.mayD
  (Dy.Dyd.mk
  b16 l17
  n18) &&
  Dy.mayD
  (Dy.Dyd.mk
  s2 m2
  e2)) =
  true then
  Dy.cmpD
  (Dy.Dyd.mk b16 l17
  n18)
  (Dy.Dyd.mk s2 m2
  e2)
  else (0 : Int)) →
  ∀ (n21 : Int),
  (n21 =
  if
  (Dy.mayD
  (Dy.Dyd.mk
  b16
  l17
  n18) &&
  Dy.mayD
  (Dy.Dyd.mk
  s2 m2
  e2)) =
  true then
  (0 : Int)
  else (2 : Int)) →
  bif
  decide
  (n15 =
  (0 :
  Int)) then
  bif
  decide
  (n19 =
  (0 :
  Int)) then
  bif
  decide
  (n21 =
  (0 :
  Int)) then
  Q
  (AV.bool
  (decide
  (n20 >
  (0 :
  Int))))
  else
  Q
  (AV.bool
  false)
  else
  Q
  (AV.bool
  false)
  else
  Q
  (AV.bool
  false)) := by kernel_rfl
theorem vc_law2_DyadCloses (s : Bool) (s' : Bool) (m : List
  Nat) (m' : List
  Nat) (e : Int) (e' : Int) (k : Int) (Q : AV →
  Prop) : (evF Tryd.prog (look tabG) (lam []) false Tryd.f11
  [AV.agg [AV.bool s, AV.dig [(1 : Nat)] m, AV.num IntKind.i64 e],
  AV.agg [AV.bool s', AV.dig [(2 : Nat)] m', AV.num IntKind.i64 e'], AV.num IntKind.i64 k]
  Q) =
  (bif !(Dy.nearD (Dy.Dyd.mk s m e) && Dy.nearD (Dy.Dyd.mk s' m' e')) then Q (AV.bool true)
 else
  bif decide (k < (1 : Int)) then Q (AV.bool true)
  else
  bif decide (k > (600 : Int)) then Q (AV.bool true)
  else
  ∀ (b1 : Bool),
  b1 = (Dy.okIf (Dy.mayD (Dy.Dyd.mk s m e)) (Dy.absD (Dy.Dyd.mk s m e))).1.neg →
  ∀ (l2 : List Nat),
  l2 = (Dy.okIf (Dy.mayD (Dy.Dyd.mk s m e)) (Dy.absD (Dy.Dyd.mk s m e))).1.mag →
  ∀ (n3 : Int),
  n3 = (Dy.okIf (Dy.mayD (Dy.Dyd.mk s m e)) (Dy.absD (Dy.Dyd.mk s m e))).1.exp →
  ∀ (n4 : Int),
  n4 = (Dy.okIf (Dy.mayD (Dy.Dyd.mk s m e)) (Dy.absD (Dy.Dyd.mk s m e))).snd →
  ∀ (b5 : Bool),
  b5 = (Dy.okIf (Dy.mayD (Dy.Dyd.mk s' m' e')) (Dy.absD (Dy.Dyd.mk s' m' e'))).1.neg →
  ∀ (l6 : List Nat),
  l6 = (Dy.okIf (Dy.mayD (Dy.Dyd.mk s' m' e')) (Dy.absD (Dy.Dyd.mk s' m' e'))).1.mag →
  ∀ (n7 : Int),
  n7 = (Dy.okIf (Dy.mayD (Dy.Dyd.mk s' m' e')) (Dy.absD (Dy.Dyd.mk s' m' e'))).1.exp →
  ∀ (n8 : Int),
  n8 = (Dy.okIf (Dy.mayD (Dy.Dyd.mk s' m' e')) (Dy.absD (Dy.Dyd.mk s' m' e'))).snd →
  bif
  !decide
  ((if Dy.mayD (Dy.Dyd.mk b5 l6 n7) = true then
  Dy.signD (Dy.Dyd.mk b5 l6 n7)
  else (0 : Int)) =
  (0 : Int)) then
  (l2.length ≤ (1000 : Nat) ∧ l6.length ≤ (1000 : Nat)) ∧
  ∀ (b9 : Bool),
  b9 = (Dy.quoD (Dy.Dyd.mk b1 l2 n3) (Dy.Dyd.mk b5 l6 n7) k).num.neg →
  ∀ (l10 : List Nat),
  l10 = (Dy.quoD (Dy.Dyd.mk b1 l2 n3) (Dy.Dyd.mk b5 l6 n7) k).num.mag →
  ∀ (n11 : Int),
  n11 =
  (Dy.quoD (Dy.Dyd.mk b1 l2 n3) (Dy.Dyd.mk b5 l6 n7) k).num.exp →
  ∀ (b12 : Bool),
  b12 =
  (Dy.quoD (Dy.Dyd.mk b1 l2 n3) (Dy.Dyd.mk b5 l6 n7) k).lost →
  ∀ (n13 : Int),
  n13 =
  (Dy.quoD (Dy.Dyd.mk b1 l2 n3) (Dy.Dyd.mk b5 l6 n7)
  k).err →
  bif !decide (n13 = (0 : Int)) then Q (AV.bool false)
  else
  Dy.WithinP (Dy.Dyd.mk b9 l10 n11) b12 k
  (Dy.Dyd.mk b5 l6 n7) (Dy.Dyd.mk b1 l2 n3) ∧
  (m.length ≤ (1000 : Nat) ∧ m'.length ≤ (1000 : Nat)) ∧
  ∀ (b14 : Bool),
  b14 =
  (Dy.quoD (Dy.Dyd.mk s m e)
  (Dy.Dyd.mk s' m' e') k).num.neg →
  ∀ (l15 : List Nat),
  l15 =
  (Dy.quoD (Dy.Dyd.mk s m e)
  (Dy.Dyd.mk s' m' e') k).num.mag →
  ∀ (n16 : Int),
  n16 =
  (Dy.quoD (Dy.Dyd.mk s m e)
  (Dy.Dyd.mk s' m' e')
  k).num.exp →
  ∀ (b17 : Bool),
  b17 =
  (Dy.quoD (Dy.Dyd.mk s m e)
  (Dy.Dyd.mk s' m' e') k).lost →
  ∀ (n18 : Int),
  n18 =
  (Dy.quoD (Dy.Dyd.mk s m e)
  (Dy.Dyd.mk s' m' e')
  k).err →
  ∀ (b19 : Bool),
  b19 =
  (Dy.okIf
  (Dy.mayD
  (Dy.Dyd.mk b14 l15
  n16))
  (Dy.absD
  (Dy.Dyd.mk b14 l15
  n16))).1.neg →
  ∀ (l20 : List Nat),
  l20 =
  (Dy.okIf
  (Dy.mayD
  (Dy.Dyd.mk b14
  l15 n16))
  (Dy.absD
  (Dy.Dyd.mk b14
  l15
  n16))).1.mag →
  ∀ (n21 : Int),
  n21 =
  (Dy.okIf
  (Dy.mayD
  (Dy.Dyd.mk
  b14 l15
  n16))
  (Dy.absD
  (Dy.Dyd.mk
  b14 l15
  n16))).1.exp →
  ∀ (n22 : Int),
  n22 =
  (Dy.okIf
  (Dy.mayD
  (Dy.Dyd.mk
  b14
  l15
  n16))
  (Dy.absD
  (Dy.Dyd.mk
  b14
  l15
  n16))).snd →
  bif
  !decide
  (n18 =
  (0 :
  Int)) then
  Q
  (AV.bool
  false)
  else
  bif
  !decide
  (b17 =
  b12) then
  Q
  (AV.bool
  false)
  else
  bif
  !Dy.sameD
  (Dy.Dyd.mk
  b19
  l20
  n21)
  (Dy.Dyd.mk
  b9
  l10
  n11) then
  Q
  (AV.bool
  false)
  else
  bif
  !decide
  ((if
  Dy.mayD
  (Dy.Dyd.mk
  b14
  l15
  n16) =
  true then
  Dy.signD
  (Dy.Dyd.mk
  b14
  l15
  n16)
  else
  (0 :
  Int)) =
  IntKind.i64.wrap
  ((if
  Dy.mayD
  (Dy.Dyd.mk
  s
  m
  e) =
  true then
  Dy.signD
  (Dy.Dyd.mk
  s
  m
  e)
  else
  (0 :
  Int)) *
  if
  Dy.mayD
  (Dy.Dyd.mk
  s'
  m'
  e') =
  true then
  Dy.signD
  (Dy.Dyd.mk
  s'
  m'
  e')
  else
  (0 :
  Int))) then
  Q
  (AV.bool
  false)
  else
  ∀
  (b23 :
  Bool),
  b23 =
  (Dy.rootD
  (Dy.Dyd.mk
  b1
  l2
  n3)
  k).num.neg →
  ∀
  (l24 :
  List
  Nat),
  l24 =
  (Dy.rootD
  (Dy.Dyd.mk
  b1
  l2
  n3)
  k).num.mag →
  ∀
  (n25 :
  Int),
  n25 =
  (Dy.rootD
  (Dy.Dyd.mk
  b1
  l2
  n3)
  k).num.exp →
  ∀
  (b26 :
  Bool),
  b26 =
  (Dy.rootD
  (Dy.Dyd.mk
  b1
  l2
  n3)
  k).lost →
  ∀
  (n27 :
  Int),
  n27 =
  (Dy.rootD
  (Dy.Dyd.mk
  b1
  l2
  n3)
  k).err →
  bif
  decide
  (n27 =
  (0 :
  Int)) then
  Dy.WithinP
  (Dy.Dyd.mk
  b23
  l24
  n25)
  b26
  k
  (Dy.Dyd.mk
  false
  []
  (0 :
  Int))
  (Dy.Dyd.mk
  b1
  l2
  n3) ∧
  Q
  (AV.bool
  true)
  else
  Q
  (AV.bool
  false)
  else
  ∀ (b28 : Bool),
  b28 = (Dy.rootD (Dy.Dyd.mk b1 l2 n3) k).num.neg →
  ∀ (l29 : List Nat),
  l29 = (Dy.rootD (Dy.Dyd.mk b1 l2 n3) k).num.mag →
  ∀ (n30 : Int),
  n30 = (Dy.rootD (Dy.Dyd.mk b1 l2 n3) k).num.exp →
  ∀ (b31 : Bool),
  b31 = (Dy.rootD (Dy.Dyd.mk b1 l2 n3) k).lost →
  ∀ (n32 : Int),
  n32 = (Dy.rootD (Dy.Dyd.mk b1 l2 n3) k).err →
  bif decide (n32 = (0 : Int)) then
  Dy.WithinP (Dy.Dyd.mk b28 l29 n30) b31 k
  (Dy.Dyd.mk false [] (0 : Int)) (Dy.Dyd.mk b1 l2 n3) ∧
  Q (AV.bool true)
  else Q (AV.bool false)) := by kernel_rfl
end Go.AI

namespace Go.Dy
theorem pow_split2 (P : Nat) {i j k : Nat} (h : i = j + k) : P * 2 ^ i = P * 2 ^ j * 2 ^ k := by rw [h, Nat.pow_add, ← Nat.mul_assoc]
theorem exp_form {s : Bool} {n : Nat} {e v : Int} (h1 : v ≤ e) (h2 : v ≤ 0) : v ≤ (form s n e).exp := by
  have := (form_dg (s := s) (n := n) (e := e)).2.2.2.1
  omega
/-- two forms' order -/
theorem cmp_forms {A B t n : Nat} {a b : Int} (h : a + n = b + t) : cmpD (form false A a) (form false B b) = cmpZ ((A * 2 ^ t : Nat) : Int) ((B * 2 ^ n : Nat) : Int) := by
  obtain ⟨v, hv1, hv2, hv3⟩ : ∃ v : Int, v ≤ a ∧ v ≤ b ∧ v ≤ 0 := ⟨min (min a b) 0, by omega, by omega, by omega⟩
  rw [cmpD_at (exp_form hv1 hv3) (exp_form hv2 hv3), at_form hv1, at_form hv2]
  have e1 : sgn false (A * 2 ^ (a - v).toNat) = ((A * 2 ^ (a - v).toNat : Nat) : Int) := rfl
  have e2 : sgn false (B * 2 ^ (b - v).toNat) = ((B * 2 ^ (b - v).toNat : Nat) : Int) := rfl
  rw [e1, e2, ← cmpZ_mul _ _ n]
  have h2 : ((2 : Int) ^ n) = ((2 ^ n : Nat) : Int) := by simp
  rw [h2, ← Int.natCast_mul, ← Int.natCast_mul, ← pow_split2 A (i := (a - v).toNat + n) rfl, ← pow_split2 B (i := (b - v).toNat + n) rfl]
  rw [pow_split2 A (j := t) (k := (b - v).toNat) (by omega), pow_split2 B (j := n) (k := (b - v).toNat) (by omega)]
  rw [Int.natCast_mul, Int.natCast_mul (B * 2 ^ n), Int.natCast_pow]
  exact cmpZ_mul _ _ _
theorem mul_forms (A B : Nat) (a b : Int) : mulD (form false A a) (form false B b) = form false (A * B) (a + b) := by
  by_cases hA : A = 0
  · subst hA
    rw [Nat.zero_mul, form_zero, form_zero]
    unfold mulD
    rw [show val zeroD.mag = 0 from rfl, Nat.zero_mul, form_zero]
  by_cases hB : B = 0
  · subst hB
    rw [Nat.mul_zero, form_zero, form_zero]
    unfold mulD
    rw [show val zeroD.mag = 0 from rfl, Nat.mul_zero, form_zero]
  · rw [form_pos hA, form_pos hB]
    unfold mulD
    simp only [val_dg]
    have h1 := Nat.div_mul_cancel (Nat.dvd_of_mod_eq_zero ((dvd_iff_le_tz hA (tz A)).2 (Nat.le_refl _)))
    have h2 := Nat.div_mul_cancel (Nat.dvd_of_mod_eq_zero ((dvd_iff_le_tz hB (tz B)).2 (Nat.le_refl _)))
    have h3 : A * B = A / 2 ^ tz A * (B / 2 ^ tz B) * 2 ^ (tz A + tz B) := by
      conv => lhs; rw [← h1, ← h2]
      rw [Nat.pow_add, Nat.mul_mul_mul_comm]
    rw [h3, form_mul]
    congr 1
    omega
theorem sign_form {s : Bool} {n : Nat} {e : Int} : signD (form s n e) = if n = 0 then 0 else if s then -1 else 1 := by
  by_cases h : n = 0
  · subst h; rfl
  · rw [form_pos h, if_neg h]
    unfold signD
    simp only
    have : dg (n / 2 ^ tz n) ≠ [] := fun e0 => by
      have h0 := dg_eq_nil.1 e0
      have h1 := div_tz_odd h
      omega
    rw [if_neg this]
theorem abs_form (s : Bool) (n : Nat) (e : Int) : absD (form s n e) = form false n e := by
  by_cases h : n = 0
  · subst h; rfl
  · rw [form_pos h, form_pos h]; rfl
theorem top_form {s : Bool} {n : Nat} {e : Int} (h : n ≠ 0) : topD (form s n e) = e + bl n := by
  rw [form_pos h]
  unfold topD
  simp only
  have : dg (n / 2 ^ tz n) ≠ [] := fun e0 => by
    have h0 := dg_eq_nil.1 e0
    have h1 := div_tz_odd h
    omega
  rw [if_neg this, val_dg, bl_div_two_pow]
  have := tz_lt_bl h
  omega
theorem unit_form (u : Int) : (⟨false, [1], u⟩ : Dyd) = form false 1 u := by
  rw [form_odd (by decide)]
  rfl
theorem add_forms (A B : Nat) {u : Int} (hA : u ≤ (form false A u).exp) (hB : u ≤ (form false B u).exp) : addD (form false A u) (form false B u) = form false (A + B) u := by
  rw [addD_at hA hB, at_form (Int.le_refl _), at_form (Int.le_refl _), Int.sub_self]
  show formZ (((A * 2 ^ 0 : Nat) : Int) + ((B * 2 ^ 0 : Nat) : Int)) u = _
  rw [Nat.pow_zero, Nat.mul_one, Nat.mul_one, ← Int.natCast_add]
  exact formZ_sgn false (A + B) u
theorem exp_form_pos {s : Bool} {n : Nat} {e : Int} (h : n ≠ 0) : e ≤ (form s n e).exp := by
  rw [form_pos h]
  simp only
  omega
theorem cmpZ_lt_iff {x y : Nat} : cmpZ (x : Int) (y : Int) < 0 ↔ x < y := by
  unfold cmpZ
  split
  · constructor
    · intro _; omega
    · intro _; decide
  · split
    · constructor
      · intro h; exact absurd h (by decide)
      · intro _; omega
    · constructor
      · intro h; exact absurd h (by decide)
      · intro _; omega
theorem cmpZ_le_iff {x y : Nat} (h : x ≤ y) : cmpZ (x : Int) (y : Int) ≤ 0 := by
  unfold cmpZ
  split
  · decide
  · split
    · omega
    · decide
theorem cmpZ_gt_iff {x y : Nat} (h : y < x) : 0 < cmpZ (x : Int) (y : Int) := by
  unfold cmpZ
  rw [if_neg (by omega), if_pos (by omega)]
  decide
/-- near from within, out of plain numbers -/
theorem withinP_of {W M t n : Nat} {u k a ex : Int} {y x : Dyd} {lost : Bool} {f : Nat → Nat} (hk1 : 1 ≤ k) (hk : k ≤ 600) (hW : (bl W : Int) = k) (hu : -20000 ≤ u ∧ u ≤ 20000) (hy : mayD y = true) (hx : x = form false M ex) (hxm : mayD x = true) (hM : M ≠ 0)
    (hmul : ∀ V, bl V ≤ 601 → timesD (form false V u) y = (form false (f V) a, 0) ∧ mayD (form false (f V) a) = true)
    (han : a + n = ex + t) (h1 : f W * 2 ^ t ≤ M * 2 ^ n) (hl : lost = decide (f W * 2 ^ t < M * 2 ^ n)) (h2 : M * 2 ^ n < f (W + 1) * 2 ^ t) : WithinP (form false W u) lost k y x := by
  have hW0 : W ≠ 0 := fun e => by rw [e, bl_zero] at hW; omega
  have hb1 : bl W ≤ 600 := by omega
  have fitW := fit_form (s := false) (n := W) (e := u) (L := 601) (E := 40000) (by omega) (by omega) (by omega) (by decide) (by decide)
  have b11 : bl 1 = 1 := by decide
  have fit1 := fit_form (s := false) (n := 1) (e := u) (L := 601) (E := 40000) (by omega) (by omega) (by omega) (by decide) (by decide)
  have hask : askD k = 0 := by unfold askD; rw [if_neg (by omega), if_neg (by omega)]
  have hun : unitD (form false W u) k = form false 1 u := by
    unfold unitD
    rw [top_form hW0, hW, show u + k - k = u by omega, unit_form]
  have hadd : addD (form false W u) (form false 1 u) = form false (W + 1) u := add_forms W 1 (exp_form_pos hW0) (exp_form_pos (by decide))
  have hW1 : bl (W + 1) ≤ 601 := bl_half_succ hb1
  obtain ⟨m1, m2⟩ := hmul W (by omega)
  obtain ⟨m3, m4⟩ := hmul (W + 1) hW1
  subst hx
  have c1 : cmpD (form false (f W) a) (form false M ex) = cmpZ ((f W * 2 ^ t : Nat) : Int) ((M * 2 ^ n : Nat) : Int) := cmp_forms han
  have c2 : cmpD (form false (f (W + 1)) a) (form false M ex) = cmpZ ((f (W + 1) * 2 ^ t : Nat) : Int) ((M * 2 ^ n : Nat) : Int) := cmp_forms han
  have hcut : cutD (form false W u) k = ⟨form false W u, false, 0⟩ := by
    unfold cutD
    rw [if_pos fitW.1.may, if_pos hask]
    unfold cutL overD
    have := form_mag false W u
    rw [if_pos (by omega)]
  refine ⟨fitW.1.may, hy, hxm, hk1, by omega, by rw [hcut], by rw [hcut], by rw [m1], by rw [m1]; exact m2, by rw [m1]; show cmpD (form false (f W) a) _ ≤ 0; rw [c1]; exact cmpZ_le_iff h1, ?_, ?_, .inr ⟨?_, ?_, ?_, ?_⟩⟩
  · rw [m1]
    show lost = decide (cmpD (form false (f W) a) _ < 0)
    rw [c1, hl, decide_eq_decide]
    exact cmpZ_lt_iff.symm
  · rw [sign_form, sign_form, if_neg hW0, if_neg hM]
  · rw [hun, hadd]
    have := boundIf_add fitW.1 fit1.1 (by decide) (by decide)
    rw [hadd] at this
    exact this
  · rw [hun, hadd, m3]
  · rw [hun, hadd, m3]; exact m4
  · rw [hun, hadd, m3]
    show 0 < cmpD (form false (f (W + 1)) a) _
    rw [c2]
    exact cmpZ_gt_iff h2
theorem withinP_zero {k : Int} {y : Dyd} (hk1 : 1 ≤ k) (hk : k ≤ 600) (hy : mayD y = true) : WithinP zeroD false k y zeroD := by
  have h0 : ∀ d, mulD zeroD d = zeroD := fun d => by unfold mulD; rw [show val zeroD.mag = 0 from rfl, Nat.zero_mul, form_zero]
  have ht : timesD zeroD y = (zeroD, 0) := by
    unfold timesD
    rw [if_pos hy, h0, h0, hy]
    split <;> rfl
  have hc : cmpD zeroD zeroD = 0 := rfl
  have hask : askD k = 0 := by unfold askD; rw [if_neg (by omega), if_neg (by omega)]
  have hcut : cutD zeroD k = ⟨zeroD, false, 0⟩ := by
    unfold cutD
    rw [if_pos mayD_zero, if_pos hask]
    unfold cutL overD
    rw [if_pos (by show (0 : Int) - k ≤ 0; omega)]
  exact ⟨mayD_zero, hy, mayD_zero, hk1, by omega, by rw [hcut], by rw [hcut], by rw [ht], by rw [ht]; rfl, by rw [ht]; decide, by rw [ht]; rfl, by decide, .inl rfl⟩
theorem quo_near {m m' : List Nat} {ex ey k : Int} (hx : nearD ⟨false, m, ex⟩ = true) (hy : nearD ⟨false, m', ey⟩ = true) (m0 : m ≠ []) (m0' : m' ≠ []) (hk1 : 1 ≤ k) (hk : k ≤ 600) :
    ∃ W u lost, W ≠ 0 ∧ (∀ s s', mayD ⟨s, m, ex⟩ = true → mayD ⟨s', m', ey⟩ = true → quoD ⟨s, m, ex⟩ ⟨s', m', ey⟩ k = ⟨form (s != s') W u, lost, 0⟩) ∧ WithinP (form false W u) lost k ⟨false, m', ey⟩ ⟨false, m, ex⟩ := by
  have fx := near_fit hx
  have fy := near_fit hy
  have hM := val_ne (mayD_may fx.may) m0
  have hN := val_ne (mayD_may fy.may) m0'
  have sx : form false (val m) ex = ⟨false, m, ex⟩ := form_self fx.may
  have sy : form false (val m') ey = ⟨false, m', ey⟩ := form_self fy.may
  obtain ⟨xl, xe1, xe2⟩ : bl (val m) ≤ 3200 ∧ -3000 ≤ ex ∧ ex ≤ 3000 := ⟨fx.bits, fx.lo, fx.hi⟩
  obtain ⟨yl, ye1, ye2⟩ : bl (val m') ≤ 3200 ∧ -3000 ≤ ey ∧ ey ≤ 3000 := ⟨fy.bits, fy.lo, fy.hi⟩
  have hn : quoS (val m) (val m') k = (k + 1 + (bl (val m') : Int) - (bl (val m) : Int)).toNat := rfl
  have hF : ∀ s s', mayD ⟨s, m, ex⟩ = true → mayD ⟨s', m', ey⟩ = true → quoF ⟨s, m, ex⟩ ⟨s', m', ey⟩ k =
      (form (s != s') (val m * 2 ^ quoS (val m) (val m') k / val m' / 2 ^ ((bl (val m * 2 ^ quoS (val m) (val m') k / val m') : Int) - k).toNat) (ex - ey - quoS (val m) (val m') k + (((bl (val m * 2 ^ quoS (val m) (val m') k / val m') : Int) - k).toNat : Int)),
        decide (val m * 2 ^ quoS (val m) (val m') k / val m' % 2 ^ ((bl (val m * 2 ^ quoS (val m) (val m') k / val m') : Int) - k).toNat ≠ 0) || decide (val m * 2 ^ quoS (val m) (val m') k % val m' ≠ 0)) := by
    intro s s' _ _
    unfold quoF
    dsimp only
    rw [if_neg m0, cutR_form _ _ _ _ hk1]
  generalize quoS (val m) (val m') k = n at *
  generalize val m = M at *
  generalize val m' = N at *
  have hNp : 0 < N := by omega
  have hX := Nat.div_add_mod (M * 2 ^ n) N
  have hr := Nat.mod_lt (M * 2 ^ n) hNp
  have hbX : bl (M * 2 ^ n) = bl M + n := bl_mul_two_pow hM n
  obtain ⟨kk, hkk⟩ : ∃ kk : Nat, k = (kk : Int) := ⟨k.toNat, by omega⟩
  have hQ2 : 2 ^ kk ≤ M * 2 ^ n / N := by
    rw [Nat.le_div_iff_mul_le hNp]
    have h1 := lt_two_bl N
    have h2 := two_bl_le (n := M * 2 ^ n) (Nat.mul_ne_zero hM (Nat.pos_iff_ne_zero.1 (Nat.two_pow_pos n)))
    have h3 : 2 ^ kk * N ≤ 2 ^ kk * 2 ^ bl N := Nat.mul_le_mul_left _ (Nat.le_of_lt h1)
    rw [← Nat.pow_add] at h3
    have h4 : 2 ^ (kk + bl N) ≤ 2 ^ (bl (M * 2 ^ n) - 1) := Nat.pow_le_pow_right (by decide) (by omega)
    omega
  have hQu : bl (M * 2 ^ n / N) ≤ 20000 := Nat.le_trans (bl_mono (Nat.div_le_self _ _)) (by omega)
  have hbq := lt_bl.2 hQ2
  generalize hQq : M * 2 ^ n / N = Q at *
  obtain ⟨t, ht⟩ : ∃ t : Nat, ((bl Q : Int) - k).toNat = t := ⟨_, rfl⟩
  rw [ht] at hF
  have hbW : bl (Q / 2 ^ t) = bl Q - t := bl_div_two_pow Q t
  have hW := Nat.div_add_mod Q (2 ^ t)
  have hWr := Nat.mod_lt Q (Nat.two_pow_pos t)
  have hW0 : Q / 2 ^ t ≠ 0 := fun e => by rw [e, bl_zero] at hbW; omega
  have t600 : t ≤ 20000 := by omega
  have hu : -20000 ≤ ex - ey - (n : Int) + (t : Int) ∧ ex - ey - (n : Int) + (t : Int) ≤ 20000 := by
    have := bl_mono (Nat.div_le_self (M * 2 ^ n) N)
    rw [hQq] at this
    omega
  refine ⟨Q / 2 ^ t, ex - ey - n + t, (decide (Q % 2 ^ t ≠ 0) || decide (M * 2 ^ n % N ≠ 0)), hW0, fun s s' h1 h2 => ?_, ?_⟩
  · rw [quoD_eq h1 h2 m0' hk1 (by omega), hF s s' h1 h2]
    have f := form_dg (s := s != s') (n := Q / 2 ^ t) (e := ex - ey - n + t)
    rw [if_pos (inside_iff.2 ⟨by have := f.2.2.2.1; show -16777216 ≤ (form (s != s') (Q / 2 ^ t) (ex - ey - n + t)).exp; omega, by have := f.2.2.2.2; show (form (s != s') (Q / 2 ^ t) (ex - ey - n + t)).exp ≤ 16777216; omega⟩)]
  · have hmN : (Q / 2 ^ t) * N * 2 ^ t = (2 ^ t * (Q / 2 ^ t)) * N := by rw [Nat.mul_right_comm, Nat.mul_comm (2 ^ t)]
    have hmN1 : (Q / 2 ^ t + 1) * N * 2 ^ t = (2 ^ t * (Q / 2 ^ t) + 2 ^ t) * N := by rw [Nat.mul_right_comm, Nat.mul_comm (2 ^ t), Nat.add_mul, Nat.one_mul]
    refine withinP_of (f := fun V => V * N) (M := M) (a := ex - ey - n + t + ey) (t := t) (n := n) (ex := ex) hk1 hk (by omega) hu fy.may sx.symm fx.may hM ?_ (by omega) ?_ ?_ ?_
    · intro V hV
      have fV := (fit_form (s := false) (n := V) (e := ex - ey - n + t) (L := 4000) (E := 40000) (by omega) (by omega) (by omega) (by decide) (by decide)).1
      have fy' : Fit ⟨false, m', ey⟩ 4000 40000 := fy.mono (by decide) (by decide)
      have hm := boundIf_mul fV fy' (by decide) (by decide)
      have hf := (fit_mul fV fy' (by decide) (by decide)).1.may
      rw [← sy, mul_forms] at hm hf
      have hs : ¬ (if mayD (⟨false, m', ey⟩ : Dyd) = true then signD (⟨false, m', ey⟩ : Dyd) else 0) = 0 := by
        rw [if_pos fy.may, ← sy, sign_form, if_neg hN]
        decide
      unfold timesD
      rw [if_neg hs, ← sy, mul_forms]
      exact ⟨hm, hf⟩
    · show Q / 2 ^ t * N * 2 ^ t ≤ M * 2 ^ n
      rw [hmN]
      have : 2 ^ t * (Q / 2 ^ t) * N ≤ Q * N := Nat.mul_le_mul_right _ (by omega)
      rw [Nat.mul_comm Q] at this
      omega
    · show _ = decide (Q / 2 ^ t * N * 2 ^ t < M * 2 ^ n)
      rw [hmN, Bool.eq_iff_iff]
      simp only [Bool.or_eq_true, decide_eq_true_eq]
      generalize 2 ^ t * (Q / 2 ^ t) = Y at *
      constructor
      · rintro (h | h)
        · have : (Y + 1) * N ≤ Q * N := Nat.mul_le_mul_right _ (by omega)
          rw [Nat.add_mul, Nat.one_mul, Nat.mul_comm Q] at this
          omega
        · have : Y * N ≤ Q * N := Nat.mul_le_mul_right _ (by omega)
          rw [Nat.mul_comm Q] at this
          omega
      · intro h
        refine Decidable.byContradiction fun c => ?_
        have c1 : Q % 2 ^ t = 0 := Decidable.byContradiction fun d => c (.inl d)
        have c2 : M * 2 ^ n % N = 0 := Decidable.byContradiction fun d => c (.inr d)
        have : Y = Q := by omega
        rw [this, Nat.mul_comm Q] at h
        omega
    · show M * 2 ^ n < (Q / 2 ^ t + 1) * N * 2 ^ t
      rw [hmN1]
      have : (Q + 1) * N ≤ (2 ^ t * (Q / 2 ^ t) + 2 ^ t) * N := Nat.mul_le_mul_right _ (by omega)
      rw [Nat.add_mul Q, Nat.one_mul, Nat.mul_comm Q] at this
      omega
theorem root_near {m : List Nat} {ex k : Int} (hx : nearD ⟨false, m, ex⟩ = true) (m0 : m ≠ []) (hk1 : 1 ≤ k) (hk : k ≤ 600) :
    ∃ W u lost, rootD ⟨false, m, ex⟩ k = ⟨form false W u, lost, 0⟩ ∧ WithinP (form false W u) lost k zeroD ⟨false, m, ex⟩ := by
  have fx := near_fit hx
  have hM := val_ne (mayD_may fx.may) m0
  have sx : form false (val m) ex = ⟨false, m, ex⟩ := form_self fx.may
  obtain ⟨xl, xe1, xe2⟩ : bl (val m) ≤ 3200 ∧ -3000 ≤ ex ∧ ex ≤ 3000 := ⟨fx.bits, fx.lo, fx.hi⟩
  have hR := rootD_eq (d := ⟨false, m, ex⟩) fx.may rfl m0 hk1 (by omega)
  rw [rootF_inside fx.may hk1 (by omega), if_pos rfl] at hR
  unfold rootF at hR
  dsimp only at hR
  rw [cutR_form _ _ _ _ hk1] at hR
  dsimp only at hR
  obtain ⟨z0, hz0, hz1⟩ : ∃ z0 : Int, (if 2 * k + 2 - (bl (val m) : Int) < 0 then (0 : Int) else 2 * k + 2 - (bl (val m) : Int)) = z0 ∧ 0 ≤ z0 ∧ 2 * k + 2 - (bl (val m) : Int) ≤ z0 ∧ z0 ≤ 2 * k + 2 := by
    refine ⟨_, rfl, ?_⟩
    split <;> omega
  have hZ : rootZ (val m) ex k = (evenS ex z0).toNat := by rw [← hz0]; rfl
  obtain ⟨hZ1, hZ2, hZ3⟩ := evenS_spec ex z0
  generalize rootZ (val m) ex k = z at *
  have hzz : (z : Int) = evenS ex z0 := by omega
  rw [← hzz] at hZ1 hZ2 hZ3
  generalize val m = M at *
  have hbX : bl (M * 2 ^ z) = bl M + z := bl_mul_two_pow hM z
  obtain ⟨kk, hkk⟩ : ∃ kk : Nat, k = (kk : Int) := ⟨k.toNat, by omega⟩
  have hX0 : M * 2 ^ z ≠ 0 := Nat.mul_ne_zero hM (Nat.pos_iff_ne_zero.1 (Nat.two_pow_pos z))
  have hR2 : 2 ^ kk ≤ isq (M * 2 ^ z) := by
    refine le_isq ?_
    rw [← Nat.pow_add]
    exact Nat.le_trans (Nat.pow_le_pow_right (by decide) (by omega)) (two_bl_le hX0)
  obtain ⟨hi1, hi2⟩ := isq_spec (M * 2 ^ z)
  have hRu : bl (isq (M * 2 ^ z)) ≤ 10000 := Nat.le_trans (bl_mono (isq_le _)) (by omega)
  have hbr := lt_bl.2 hR2
  generalize isq (M * 2 ^ z) = R at *
  obtain ⟨t, ht⟩ : ∃ t : Nat, ((bl R : Int) - k).toNat = t := ⟨_, rfl⟩
  rw [ht] at hR
  have hbW : bl (R / 2 ^ t) = bl R - t := bl_div_two_pow R t
  have hW := Nat.div_add_mod R (2 ^ t)
  have hWr := Nat.mod_lt R (Nat.two_pow_pos t)
  refine ⟨R / 2 ^ t, (ex - z) / 2 + t, _, hR, ?_⟩
  have e2 : 2 ^ (2 * t) = 2 ^ t * 2 ^ t := by rw [← Nat.pow_add, show 2 * t = t + t by omega]
  refine withinP_of (f := fun V => V * V) (M := M) (a := (ex - z) / 2 + t + ((ex - z) / 2 + t)) (t := 2 * t) (n := z) (ex := ex) hk1 hk (by omega) (by omega) mayD_zero sx.symm fx.may hM ?_ (by omega) ?_ ?_ ?_
  · intro V hV
    have fV := (fit_form (s := false) (n := V) (e := (ex - z) / 2 + t) (L := 4000) (E := 40000) (by omega) (by omega) (by omega) (by decide) (by decide)).1
    have hm := boundIf_mul fV fV (by decide) (by decide)
    have hf := (fit_mul fV fV (by decide) (by decide)).1.may
    rw [mul_forms] at hm hf
    unfold timesD
    rw [if_pos (by rfl), mul_forms]
    exact ⟨hm, hf⟩
  · show R / 2 ^ t * (R / 2 ^ t) * 2 ^ (2 * t) ≤ M * 2 ^ z
    rw [e2, Nat.mul_mul_mul_comm, Nat.mul_comm (R / 2 ^ t)]
    have : 2 ^ t * (R / 2 ^ t) ≤ R := by omega
    have := Nat.mul_le_mul this this
    omega
  · show _ = decide (R / 2 ^ t * (R / 2 ^ t) * 2 ^ (2 * t) < M * 2 ^ z)
    rw [e2, Nat.mul_mul_mul_comm, Nat.mul_comm (R / 2 ^ t), Bool.eq_iff_iff]
    simp only [Bool.or_eq_true, decide_eq_true_eq]
    generalize 2 ^ t * (R / 2 ^ t) = Y at *
    constructor
    · rintro (h | h)
      · have h3 : Y < R := by omega
        have := Nat.mul_lt_mul'' h3 h3
        omega
      · have h3 : Y ≤ R := by omega
        have := Nat.mul_le_mul h3 h3
        omega
    · intro h
      refine Decidable.byContradiction fun c => ?_
      have c1 : R % 2 ^ t = 0 := Decidable.byContradiction fun d => c (.inl d)
      have c2 : R * R = M * 2 ^ z := Decidable.byContradiction fun d => c (.inr d)
      have : Y = R := by omega
      rw [this] at h
      omega
  · show M * 2 ^ z < (R / 2 ^ t + 1) * (R / 2 ^ t + 1) * 2 ^ (2 * t)
    rw [e2, Nat.mul_mul_mul_comm]
    have h3 : R + 1 ≤ (R / 2 ^ t + 1) * 2 ^ t := by rw [Nat.add_mul, Nat.one_mul, Nat.mul_comm (R / 2 ^ t)]; omega
    have := Nat.mul_le_mul h3 h3
    omega
end Go.Dy

namespace Go.Dy
theorem mayD_sign {s : Bool} (s' : Bool) {m : List Nat} {e : Int} (h : mayD ⟨s, m, e⟩ = true) (h0 : m ≠ []) : mayD ⟨s', m, e⟩ = true := by
  obtain ⟨h1, h2⟩ := mayD_iff.1 h
  rcases h2 with h2 | h2
  · exact absurd h2.1 h0
  · exact mayD_iff.2 ⟨h1, .inr h2⟩
theorem near_abs {s : Bool} {m : List Nat} {e : Int} (h : nearD ⟨s, m, e⟩ = true) : nearD ⟨false, m, e⟩ = true := by
  by_cases h0 : m = []
  · subst h0
    have := (mayD_nil (near_fit h).may).1
    subst this
    exact h
  · have hm := mayD_sign false (near_fit h).may h0
    unfold nearD at h ⊢
    rw [hm, Bool.and_true]
    exact (Bool.and_eq_true _ _ ▸ h : _ ∧ _).1
theorem near_len {d : Dyd} (h : nearD d = true) : d.mag.length ≤ 100 := by
  unfold nearD at h
  exact (of_decide_eq_true (Bool.and_eq_true _ _ ▸ h : _ ∧ _).1).1
theorem mayD_form_sign {W : Nat} {u : Int} (hW : W ≠ 0) (h : mayD (form false W u) = true) (s : Bool) : mayD (form s W u) = true := by
  rw [form_pos hW] at h ⊢
  refine mayD_sign s h fun e0 => ?_
  have h0 := dg_eq_nil.1 e0
  have h1 := div_tz_odd hW
  omega
end Go.Dy
namespace Go.AI
open Go Go.RowKit Go.Proofs
set_option linter.unusedVariables false
set_option maxRecDepth 100000
set_option maxHeartbeats 1000000
theorem peelk {x : Dy.Cutd} {d0 : Dy.Dyd} {l0 : Bool} {k0 : Int} (hx : x = ⟨d0, l0, k0⟩) {P : Bool → List Nat → Int → Bool → Int → Prop} (h : ∀ b l n, Dy.Dyd.mk b l n = d0 → P b l n l0 k0) :
    ∀ b, b = x.num.neg → ∀ l, l = x.num.mag → ∀ n, n = x.num.exp → ∀ o, o = x.lost → ∀ k, k = x.err → P b l n o k := by
  subst hx
  rintro _ rfl _ rfl _ rfl _ rfl _ rfl
  exact h _ _ _ rfl
/-- the whole number below a number is inside -/
theorem ok_law2_times (args : List AV) (s : Spec) (h : lTimes args = some s) (hp : andO s.pre True) : Contract Tryd.prog Inv 90 args s.res := by
  unfold lTimes at h
  split at h
  · cases h
    rename_i s m e s' m' e'
    refine contract0 false ok_tabF Tryd.func90 (by kernel_rfl) (by kernel_rfl) fun hok => ?_
    rw [vc_law2_times]
    unfold Dy.timesD
    refine cond_i (fun h => ?_) (fun h => ?_)
    · rw [if_pos (of_decide_eq_true h)]
      rintro _ rfl _ rfl _ rfl _ rfl
      rfl
    · rw [if_neg (of_decide_eq_false h)]
      rintro _ rfl _ rfl _ rfl _ rfl
      rfl
  · cases h
theorem ok_tabG0 : PhiOk Tryd.prog Inv (look tabG0) := look_cons ok_tabF ok_law2_times

theorem ok_law2_within (args : List AV) (s : Spec) (h : lWithin args = some s) (hp : andO s.pre True) : Contract Tryd.prog Inv 57 args s.res := by
  unfold lWithin at h
  split at h
  · cases h
    rename_i s m e lost k s' m' e' s2 m2 e2
    obtain ⟨⟨p1, p2, p3, p4, p5, p6, p7, p8, p9, p10, p11, p12, p13⟩, -⟩ := hp
    refine contract0 false ok_tabG0 Tryd.func57 (by kernel_rfl) (by kernel_rfl) fun hok => ?_
    have hb := Dy.may_bl (Dy.mayD_may p1)
    have hx := Dy.mayD_exp p1
    have ht : -16777216 ≤ Dy.topD ⟨s, m, e⟩ ∧ Dy.topD ⟨s, m, e⟩ ≤ 16777216 + 131072 := by
      unfold Dy.topD
      dsimp only
      split <;> omega
    rw [vc_law2_within, if_pos p1, if_pos p1, if_pos p3, wrap_i64 (n := Dy.topD ⟨s, m, e⟩ - k) (by omega) (by omega)]
    rcases hc : Dy.cutD ⟨s, m, e⟩ k with ⟨d0, l0, k0⟩
    rw [hc] at p6 p7
    have p6 : d0 = ⟨s, m, e⟩ := p6
    have p7 : k0 = 0 := p7
    subst p6 p7
    rw [← hc]
    refine peelk hc fun _ _ _ h1 => ?_
    rw [h1]
    rcases hm : Dy.timesD ⟨s, m, e⟩ ⟨s', m', e'⟩ with ⟨p, pk⟩
    rw [hm] at p8 p9 p10 p11
    have p8 : pk = 0 := p8
    have p9 : Dy.mayD p = true := p9
    have p10 : Dy.cmpD p ⟨s2, m2, e2⟩ ≤ 0 := p10
    have p11 : lost = decide (Dy.cmpD p ⟨s2, m2, e2⟩ < 0) := p11
    subst p8
    rw [← hm]
    refine peel hm fun _ _ _ h2 => ?_
    rw [h2]
    refine peel1 (k0 := Dy.cmpD p ⟨s2, m2, e2⟩) (by rw [p9, p3]; rfl) (peel1 (k0 := 0) (by rw [p9, p3]; rfl) ?_)
    refine cond_f rfl (cond_f rfl (cond_f rfl (cond_f (congrArg not (same_self _)) (cond_f (decide_eq_false (by omega)) (cond_f (by rw [p11]; simp) (cond_f ?_ (cond_i (fun h => rfl) (fun h => ?_))))))))
    · by_cases c : Dy.signD ⟨s, m, e⟩ = 0
      · rw [decide_eq_true c, decide_eq_true (p12.1 c)]; rfl
      · rw [decide_eq_false c, decide_eq_false (fun d => c (p12.2 d))]; rfl
    · have h := of_decide_eq_false h
      obtain ⟨q1, q2, q3, q4⟩ := p13.resolve_left h
      refine peel (d0 := Dy.addD ⟨s, m, e⟩ (Dy.unitD ⟨s, m, e⟩ k)) (k0 := 0) q1 fun _ _ _ h3 => ?_
      rw [h3]
      generalize Dy.addD ⟨s, m, e⟩ (Dy.unitD ⟨s, m, e⟩ k) = more at *
      rcases hw : Dy.timesD more ⟨s', m', e'⟩ with ⟨r, rk⟩
      rw [hw] at q2 q3 q4
      have q2 : rk = 0 := q2
      have q3 : Dy.mayD r = true := q3
      have q4 : 0 < Dy.cmpD r ⟨s2, m2, e2⟩ := q4
      subst q2
      rw [← hw]
      refine peel hw fun _ _ _ h4 => ?_
      rw [h4]
      refine peel1 (k0 := Dy.cmpD r ⟨s2, m2, e2⟩) (by rw [q3, p3]; rfl) (peel1 (k0 := 0) (by rw [q3, p3]; rfl) ?_)
      refine cond_t rfl (cond_t rfl (cond_t rfl ?_))
      rw [decide_eq_true (show Dy.cmpD r ⟨s2, m2, e2⟩ > 0 from q4)]
  · cases h
theorem ok_tabG : PhiOk Tryd.prog Inv (look tabG) := look_cons ok_tabG0 ok_law2_within

theorem root_part {m : List Nat} {e k : Int} {T F : Prop} (hT : T) (hx : Dy.nearD ⟨false, m, e⟩ = true) (hk1 : 1 ≤ k) (hk : k ≤ 600) :
    ∀ b23, b23 = (Dy.rootD ⟨false, m, e⟩ k).num.neg → ∀ l24, l24 = (Dy.rootD ⟨false, m, e⟩ k).num.mag → ∀ n25, n25 = (Dy.rootD ⟨false, m, e⟩ k).num.exp → ∀ b26, b26 = (Dy.rootD ⟨false, m, e⟩ k).lost → ∀ n27, n27 = (Dy.rootD ⟨false, m, e⟩ k).err →
      bif decide (n27 = 0) then Dy.WithinP (Dy.Dyd.mk b23 l24 n25) b26 k (Dy.Dyd.mk false [] 0) (Dy.Dyd.mk false m e) ∧ T else F := by
  by_cases m0 : m = []
  · subst m0
    have he := (Dy.mayD_nil (Dy.near_fit hx).may).2
    subst he
    refine peelk (Dy.rootD_nil (Dy.near_fit hx).may hk1 (by omega)) fun _ _ _ h => ?_
    rw [h]
    exact cond_t rfl ⟨Dy.withinP_zero hk1 hk Dy.mayD_zero, hT⟩
  · obtain ⟨W, u, lost, h1, h2⟩ := Dy.root_near hx m0 hk1 hk
    refine peelk h1 fun _ _ _ h => ?_
    rw [h]
    exact cond_t rfl ⟨h2, hT⟩

theorem ok_law_DyadCloses (s : Bool) (m : List Nat) (e : Int) (s' : Bool) (m' : List Nat) (e' k : Int) : Contract Tryd.prog Inv 11 [.agg [.bool s, .dig [1] m, .num .i64 e], .agg [.bool s', .dig [2] m', .num .i64 e'], .num .i64 k] (.bool true) := by
  refine contract0 false ok_tabG Tryd.func11 (by kernel_rfl) (by kernel_rfl) fun hok => ?_
  rw [vc_law2_DyadCloses]
  refine cond_i (fun h => rfl) (fun h => ?_)
  simp only [Bool.not_eq_false'] at h
  obtain ⟨ha, hb⟩ := (Bool.and_eq_true _ _ ▸ h : _ ∧ _)
  clear h
  refine cond_i (fun h => rfl) (fun h => ?_)
  have hk1 : 1 ≤ k := by have := of_decide_eq_false h; omega
  clear h
  refine cond_i (fun h => rfl) (fun h => ?_)
  have hk : k ≤ 600 := by have := of_decide_eq_false h; omega
  clear h
  have hA := (Dy.near_fit ha).may
  have hB := (Dy.near_fit hb).may
  have hx := Dy.near_abs ha
  have hy := Dy.near_abs hb
  have hX := (Dy.near_fit hx).may
  have hY := (Dy.near_fit hy).may
  have l1 : m.length ≤ 100 := Dy.near_len ha
  have l2 : m'.length ≤ 100 := Dy.near_len hb
  refine peel (x := Dy.okIf _ _) (d0 := ⟨false, m, e⟩) (k0 := 0) (by rw [hA]; rfl) fun b1 x1 n1 h1 => ?_
  refine peel (x := Dy.okIf _ _) (d0 := ⟨false, m', e'⟩) (k0 := 0) (by rw [hB]; rfl) fun b2 x2 n2 h2 => ?_
  have hx1 : x1 = m := congrArg Dy.Dyd.mag h1
  have hx2 : x2 = m' := congrArg Dy.Dyd.mag h2
  rw [h1, h2, hx1, hx2, if_pos hY, if_pos hA, if_pos hB]
  clear h1 h2 hx1 hx2
  by_cases m0' : m' = []
  · subst m0'
    exact cond_f rfl (root_part rfl hx hk1 hk)
  · have hsy : ∀ t, Dy.signD ⟨t, m', e'⟩ = if t then -1 else 1 := fun t => by unfold Dy.signD; dsimp only; rw [if_neg m0']
    refine cond_t (by rw [hsy]; rfl) ⟨⟨by omega, by omega⟩, ?_⟩
    by_cases m0 : m = []
    · subst m0
      obtain ⟨rfl, rfl⟩ := Dy.mayD_nil hA
      have hz : ∀ t, Dy.mayD ⟨t, m', e'⟩ = true → Dy.quoD ⟨false, [], 0⟩ ⟨t, m', e'⟩ k = ⟨Dy.zeroD, false, 0⟩ := fun t h => by
        unfold Dy.quoD
        rw [hA, h, if_pos (by simp; omega), if_pos (by omega), if_neg m0', if_pos rfl]
      refine peelk (hz false hY) fun _ _ _ h3 => ?_
      rw [h3]
      refine cond_f rfl ⟨Dy.withinP_zero hk1 hk hY, ⟨by simp, by omega⟩, ?_⟩
      refine peelk (hz s' hB) fun _ _ _ h4 => ?_
      rw [h4]
      refine peel (x := Dy.okIf _ _) (d0 := Dy.zeroD) (k0 := 0) rfl fun _ _ _ h5 => ?_
      rw [h5]
      refine cond_f rfl (cond_f rfl (cond_f (congrArg not (same_self _)) (cond_f ?_ (root_part rfl hx hk1 hk))))
      rw [hsy]
      cases s' <;> rfl
    · have hsx : ∀ t, Dy.signD ⟨t, m, e⟩ = if t then -1 else 1 := fun t => by unfold Dy.signD; dsimp only; rw [if_neg m0]
      obtain ⟨W, u, lost, hW, hq, hP⟩ := Dy.quo_near hx hy m0 m0' hk1 hk
      refine peelk (hq false false hX hY) fun _ _ _ h3 => ?_
      rw [h3]
      refine cond_f rfl ⟨hP, ⟨by omega, by omega⟩, ?_⟩
      refine peelk (hq s s' hA hB) fun _ _ _ h4 => ?_
      rw [h4]
      have hf := Dy.mayD_form_sign hW hP.1 (s != s')
      refine peel (x := Dy.okIf _ _) (d0 := Dy.form false W u) (k0 := 0) (by rw [hf]; unfold Dy.okIf; rw [if_pos rfl, Dy.abs_form]) fun _ _ _ h5 => ?_
      rw [h5]
      refine cond_f rfl (cond_f (by simp) (cond_f (congrArg not (same_self (Dy.form false W u))) (cond_f ?_ (root_part rfl hx hk1 hk))))
      rw [if_pos hf, Dy.sign_form, if_neg hW, hsx, hsy]
      cases s <;> cases s' <;> rfl
end Go.AI
