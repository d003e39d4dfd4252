/- My texts AVlaw3, AIlaw5, AIlaw6, AIlaw7, in one. -/
import Derived.Test.YtnhbdcnnanfacaaDoorK6
namespace Go.AI
open Go Go.RowKit Go.Proofs
set_option linter.unusedVariables false
set_option maxRecDepth 100000
set_option maxHeartbeats 0
theorem vc_law2_DyadMakes (s : Bool) (m : List
  Nat) (e : Int) (Q : AV →
  Prop) : (evF Tryd.prog (look tab23) (lam []) false Tryd.f3
  [AV.agg [AV.bool s, AV.dig [(1 : Nat)] m, AV.num IntKind.i64 e]] Q) =
  (bif decide ((↑m.length : Int) > (4100 : Int)) then Q (AV.bool true)
 else
  m.length ≤ (1048576 : Nat) ∧
  ∀ (b1 : Bool),
  b1 = s →
  ∀ (l2 : List Nat),
  l2 = m →
  ∀ (n3 : Int),
  n3 = e →
  bif !decide (Dy.mayD (Dy.Dyd.mk b1 l2 n3) = Dy.mayD (Dy.Dyd.mk s m e)) then Q (AV.bool false)
  else
  ∀ (b4 : Bool),
  b4 = (Dy.makeD b1 l2 n3).1.neg →
  ∀ (l5 : List Nat),
  l5 = (Dy.makeD b1 l2 n3).1.mag →
  ∀ (n6 : Int),
  n6 = (Dy.makeD b1 l2 n3).1.exp →
  ∀ (n7 : Int),
  n7 = (Dy.makeD b1 l2 n3).snd →
  bif !decide (l2 = m) then Q (AV.bool false)
  else
  bif !Dy.may m then
  bif Dy.sameD (Dy.Dyd.mk b4 l5 n6) Dy.zeroD && decide (n7 = (2 : Int)) then
  Q (AV.bool true)
  else Q (AV.bool false)
  else
  bif decide ((↑m.length : Int) = (0 : Int)) then
  bif Dy.sameD (Dy.Dyd.mk b4 l5 n6) Dy.zeroD && decide (n7 = (0 : Int)) then
  Q (AV.bool true)
  else Q (AV.bool false)
  else
  (Dy.dg (Dy.val m) = m ∧ m.length ≤ (1048576 : Nat)) ∧
  bif
  decide
  (e <
  IntKind.i64.wrap
  ((-16777216 : Int) - (↑(Dy.tz (Dy.val m)) : Int))) then
  bif Dy.sameD (Dy.Dyd.mk b4 l5 n6) Dy.zeroD && decide (n7 = (20 : Int)) then
  Q (AV.bool true)
  else Q (AV.bool false)
  else
  bif
  decide
  (e >
  IntKind.i64.wrap
  ((16777216 : Int) - (↑(Dy.tz (Dy.val m)) : Int))) then
  bif
  Dy.sameD (Dy.Dyd.mk b4 l5 n6) Dy.zeroD &&
  decide (n7 = (20 : Int)) then
  Q (AV.bool true)
  else Q (AV.bool false)
  else
  (Dy.dg (Dy.val m) = m ∧
  m.length ≤ (1048576 : Nat) ∧
  (-1099511627776 : Int) ≤ e ∧ e ≤ (1099511627776 : Int)) ∧
  ∀ (b8 : Bool),
  b8 = (Dy.form s (Dy.val m) e).neg →
  ∀ (l9 : List Nat),
  l9 = (Dy.form s (Dy.val m) e).mag →
  ∀ (n10 : Int),
  n10 = (Dy.form s (Dy.val m) e).exp →
  bif Dy.sameD (Dy.Dyd.mk b4 l5 n6) (Dy.Dyd.mk b8 l9 n10) then
  bif decide (n7 = (0 : Int)) then
  bif decide (l2 = m) then Q (AV.bool true)
  else Q (AV.bool false)
  else Q (AV.bool false)
  else Q (AV.bool false)) := by kernel_rfl
theorem vc_law2_DyadCuts (s : Bool) (m : List
  Nat) (e : Int) (n : Int) (b : Int) (Q : AV →
  Prop) : (evF Tryd.prog (look tab23) (lam []) false Tryd.f6
  [AV.agg [AV.bool s, AV.dig [(1 : Nat)] m, AV.num IntKind.i64 e], AV.num IntKind.i64 n, AV.num IntKind.i64 b] Q) =
  (bif decide ((↑m.length : Int) > (4100 : Int)) then Q (AV.bool true)
 else
  m.length ≤ (1048576 : Nat) ∧
  ∀ (b1 : Bool),
  b1 = s →
  ∀ (l2 : List Nat),
  l2 = m →
  ∀ (n3 : Int),
  n3 = e →
  ∀ (b4 : Bool),
  b4 = (Dy.shiftD (Dy.Dyd.mk b1 l2 n3) n).1.neg →
  ∀ (l5 : List Nat),
  l5 = (Dy.shiftD (Dy.Dyd.mk b1 l2 n3) n).1.mag →
  ∀ (n6 : Int),
  n6 = (Dy.shiftD (Dy.Dyd.mk b1 l2 n3) n).1.exp →
  ∀ (n7 : Int),
  n7 = (Dy.shiftD (Dy.Dyd.mk b1 l2 n3) n).snd →
  ∀ (b8 : Bool),
  b8 = (Dy.okIf (Dy.mayD (Dy.Dyd.mk b1 l2 n3)) (Dy.floorD (Dy.Dyd.mk b1 l2 n3))).1.neg →
  ∀ (l9 : List Nat),
  l9 =
  (Dy.okIf (Dy.mayD (Dy.Dyd.mk b1 l2 n3))
  (Dy.floorD (Dy.Dyd.mk b1 l2 n3))).1.mag →
  ∀ (n10 : Int),
  n10 =
  (Dy.okIf (Dy.mayD (Dy.Dyd.mk b1 l2 n3))
  (Dy.floorD (Dy.Dyd.mk b1 l2 n3))).1.exp →
  ∀ (n11 : Int),
  n11 =
  (Dy.okIf (Dy.mayD (Dy.Dyd.mk b1 l2 n3))
  (Dy.floorD (Dy.Dyd.mk b1 l2 n3))).snd →
  ∀ (b12 : Bool),
  b12 = (Dy.cutD (Dy.Dyd.mk b1 l2 n3) b).num.neg →
  ∀ (l13 : List Nat),
  l13 = (Dy.cutD (Dy.Dyd.mk b1 l2 n3) b).num.mag →
  ∀ (n14 : Int),
  n14 = (Dy.cutD (Dy.Dyd.mk b1 l2 n3) b).num.exp →
  ∀ (b15 : Bool),
  b15 = (Dy.cutD (Dy.Dyd.mk b1 l2 n3) b).lost →
  ∀ (n16 : Int),
  n16 = (Dy.cutD (Dy.Dyd.mk b1 l2 n3) b).err →
  bif
  !Dy.sameD (Dy.Dyd.mk b1 l2 n3)
  (Dy.Dyd.mk s m e) then
  Q (AV.bool false)
  else
  bif !Dy.mayD (Dy.Dyd.mk s m e) then
  bif
  Dy.sameD (Dy.Dyd.mk b4 l5 n6) Dy.zeroD &&
  decide (n7 = (2 : Int)) then
  bif
  Dy.sameD (Dy.Dyd.mk b8 l9 n10) Dy.zeroD &&
  decide (n11 = (2 : Int)) then
  bif
  Dy.sameD (Dy.Dyd.mk b12 l13 n14)
  Dy.zeroD &&
  (!b15 &&
  decide (n16 = (2 : Int))) then
  Q (AV.bool true)
  else Q (AV.bool false)
  else Q (AV.bool false)
  else Q (AV.bool false)
  else
  bif decide ((↑m.length : Int) > (0 : Int)) then
  bif
  decide
  (n <
  IntKind.i64.wrap
  ((-16777216 : Int) - e)) then
  bif
  !(Dy.sameD (Dy.Dyd.mk b4 l5 n6)
  Dy.zeroD &&
  decide (n7 = (20 : Int))) then
  Q (AV.bool false)
  else
  Dy.mayD (Dy.Dyd.mk s m e) = true ∧
  ∀ (b17 : Bool),
  b17 =
  (Dy.floorD
  (Dy.Dyd.mk s m e)).neg →
  ∀ (l18 : List Nat),
  l18 =
  (Dy.floorD
  (Dy.Dyd.mk s m e)).mag →
  ∀ (n19 : Int),
  n19 =
  (Dy.floorD
  (Dy.Dyd.mk s m
  e)).exp →
  bif
  !(Dy.sameD
  (Dy.Dyd.mk b8 l9
  n10)
  (Dy.boundD
  (Dy.Dyd.mk b17
  l18
  n19)).fst &&
  decide
  (n11 =
  (Dy.boundD
  (Dy.Dyd.mk
  b17 l18
  n19)).snd)) then
  Q (AV.bool false)
  else
  bif
  decide
  (b < (1 : Int)) then
  bif
  Dy.sameD
  (Dy.Dyd.mk b12
  l13 n14)
  Dy.zeroD &&
  (!b15 &&
  decide
  (n16 =
  (2 :
  Int))) then
  Q (AV.bool true)
  else Q (AV.bool false)
  else
  bif
  decide
  (b >
  (8192 :
  Int)) then
  bif
  Dy.sameD
  (Dy.Dyd.mk b12
  l13 n14)
  Dy.zeroD &&
  (!b15 &&
  decide
  (n16 =
  (3 :
  Int))) then
  Q (AV.bool true)
  else Q (AV.bool false)
  else
  (Dy.mayD
  (Dy.Dyd.mk s m
  e) =
  true ∧
  (1 : Int) ≤ b) ∧
  ∀ (b20 : Bool),
  b20 =
  (Dy.cutR
  (Dy.Dyd.mk
  s m e)
  b).1.neg →
  ∀
  (l21 :
  List Nat),
  l21 =
  (Dy.cutR
  (Dy.Dyd.mk
  s
  m
  e)
  b).1.mag →
  ∀
  (n22 :
  Int),
  n22 =
  (Dy.cutR
  (Dy.Dyd.mk
  s
  m
  e)
  b).1.exp →
  ∀
  (b23 :
  Bool),
  b23 =
  (Dy.cutR
  (Dy.Dyd.mk
  s
  m
  e)
  b).snd →
  bif
  decide
  (n22 >
  (16777216 :
  Int)) then
  bif
  Dy.sameD
  (Dy.Dyd.mk
  b12
  l13
  n14)
  Dy.zeroD &&
  (!b15 &&
  decide
  (n16 =
  (20 :
  Int))) then
  Q
  (AV.bool
  true)
  else
  Q
  (AV.bool
  false)
  else
  bif
  Dy.sameD
  (Dy.Dyd.mk
  b12
  l13
  n14)
  (Dy.Dyd.mk
  b20
  l21
  n22) then
  bif
  decide
  (b15 =
  b23) then
  bif
  decide
  (n16 =
  (0 :
  Int)) then
  bif
  Dy.sameD
  (Dy.Dyd.mk
  b1
  l2
  n3)
  (Dy.Dyd.mk
  s
  m
  e) then
  Q
  (AV.bool
  true)
  else
  Q
  (AV.bool
  false)
  else
  Q
  (AV.bool
  false)
  else
  Q
  (AV.bool
  false)
  else
  Q
  (AV.bool
  false)
  else
  bif
  decide
  (n >
  IntKind.i64.wrap
  ((16777216 : Int) - e)) then
  bif
  !(Dy.sameD (Dy.Dyd.mk b4 l5 n6)
  Dy.zeroD &&
  decide (n7 = (20 : Int))) then
  Q (AV.bool false)
  else
  Dy.mayD (Dy.Dyd.mk s m e) = true ∧
  ∀ (b24 : Bool),
  b24 =
  (Dy.floorD
  (Dy.Dyd.mk s m e)).neg →
  ∀ (l25 : List Nat),
  l25 =
  (Dy.floorD
  (Dy.Dyd.mk s m e)).mag →
  ∀ (n26 : Int),
  n26 =
  (Dy.floorD
  (Dy.Dyd.mk s m
  e)).exp →
  bif
  !(Dy.sameD
  (Dy.Dyd.mk b8 l9
  n10)
  (Dy.boundD
  (Dy.Dyd.mk
  b24 l25
  n26)).fst &&
  decide
  (n11 =
  (Dy.boundD
  (Dy.Dyd.mk
  b24 l25
  n26)).snd)) then
  Q (AV.bool false)
  else
  bif
  decide
  (b <
  (1 : Int)) then
  bif
  Dy.sameD
  (Dy.Dyd.mk b12
  l13 n14)
  Dy.zeroD &&
  (!b15 &&
  decide
  (n16 =
  (2 :
  Int))) then
  Q (AV.bool true)
  else Q (AV.bool false)
  else
  bif
  decide
  (b >
  (8192 :
  Int)) then
  bif
  Dy.sameD
  (Dy.Dyd.mk
  b12 l13
  n14)
  Dy.zeroD &&
  (!b15 &&
  decide
  (n16 =
  (3 :
  Int))) then
  Q (AV.bool true)
  else
  Q (AV.bool false)
  else
  (Dy.mayD
  (Dy.Dyd.mk s
  m e) =
  true ∧
  (1 : Int) ≤ b) ∧
  ∀ (b27 : Bool),
  b27 =
  (Dy.cutR
  (Dy.Dyd.mk
  s m
  e)
  b).1.neg →
  ∀
  (l28 :
  List Nat),
  l28 =
  (Dy.cutR
  (Dy.Dyd.mk
  s
  m
  e)
  b).1.mag →
  ∀
  (n29 :
  Int),
  n29 =
  (Dy.cutR
  (Dy.Dyd.mk
  s
  m
  e)
  b).1.exp →
  ∀
  (b30 :
  Bool),
  b30 =
  (Dy.cutR
  (Dy.Dyd.mk
  s
  m
  e)
  b).snd →
  bif
  decide
  (n29 >
  (16777216 :
  Int)) then
  bif
  Dy.sameD
  (Dy.Dyd.mk
  b12
  l13
  n14)
  Dy.zeroD &&
  (!b15 &&
  decide
  (n16 =
  (20 :
  Int))) then
  Q
  (AV.bool
  true)
  else
  Q
  (AV.bool
  false)
  else
  bif
  Dy.sameD
  (Dy.Dyd.mk
  b12
  l13
  n14)
  (Dy.Dyd.mk
  b27
  l28
  n29) then
  bif
  decide
  (b15 =
  b30) then
  bif
  decide
  (n16 =
  (0 :
  Int)) then
  bif
  Dy.sameD
  (Dy.Dyd.mk
  b1
  l2
  n3)
  (Dy.Dyd.mk
  s
  m
  e) then
  Q
  (AV.bool
  true)
  else
  Q
  (AV.bool
  false)
  else
  Q
  (AV.bool
  false)
  else
  Q
  (AV.bool
  false)
  else
  Q
  (AV.bool
  false)
  else
  (m = [] ∨
  (-1099511627776 : Int) ≤ e ∧
  e ≤ (1099511627776 : Int) ∧
  (-1099511627776 : Int) ≤ n ∧
  n ≤ (1099511627776 : Int)) ∧
  ∀ (b31 : Bool),
  b31 = s →
  ∀ (l32 : List Nat),
  l32 = m →
  ∀ (n33 : Int),
  (n33 =
  if m = [] then e
  else e + n) →
  bif
  !Dy.sameD
  (Dy.Dyd.mk b4 l5 n6)
  (Dy.Dyd.mk b31 l32
  n33) then
  Q (AV.bool false)
  else
  bif
  !decide
  (n7 =
  (0 : Int)) then
  Q (AV.bool false)
  else
  Dy.mayD
  (Dy.Dyd.mk s m
  e) =
  true ∧
  ∀ (b34 : Bool),
  b34 =
  (Dy.floorD
  (Dy.Dyd.mk s
  m
  e)).neg →
  ∀
  (l35 :
  List Nat),
  l35 =
  (Dy.floorD
  (Dy.Dyd.mk
  s m
  e)).mag →
  ∀ (n36 : Int),
  n36 =
  (Dy.floorD
  (Dy.Dyd.mk
  s
  m
  e)).exp →
  bif
  !(Dy.sameD
  (Dy.Dyd.mk
  b8
  l9
  n10)
  (Dy.boundD
  (Dy.Dyd.mk
  b34
  l35
  n36)).fst &&
  decide
  (n11 =
  (Dy.boundD
  (Dy.Dyd.mk
  b34
  l35
  n36)).snd)) then
  Q
  (AV.bool
  false)
  else
  bif
  decide
  (b <
  (1 :
  Int)) then
  bif
  Dy.sameD
  (Dy.Dyd.mk
  b12
  l13
  n14)
  Dy.zeroD &&
  (!b15 &&
  decide
  (n16 =
  (2 :
  Int))) then
  Q
  (AV.bool
  true)
  else
  Q
  (AV.bool
  false)
  else
  bif
  decide
  (b >
  (8192 :
  Int)) then
  bif
  Dy.sameD
  (Dy.Dyd.mk
  b12
  l13
  n14)
  Dy.zeroD &&
  (!b15 &&
  decide
  (n16 =
  (3 :
  Int))) then
  Q
  (AV.bool
  true)
  else
  Q
  (AV.bool
  false)
  else
  (Dy.mayD
  (Dy.Dyd.mk
  s
  m
  e) =
  true ∧
  (1 :
  Int) ≤
  b) ∧
  ∀
  (b37 :
  Bool),
  b37 =
  (Dy.cutR
  (Dy.Dyd.mk
  s
  m
  e)
  b).1.neg →
  ∀
  (l38 :
  List
  Nat),
  l38 =
  (Dy.cutR
  (Dy.Dyd.mk
  s
  m
  e)
  b).1.mag →
  ∀
  (n39 :
  Int),
  n39 =
  (Dy.cutR
  (Dy.Dyd.mk
  s
  m
  e)
  b).1.exp →
  ∀
  (b40 :
  Bool),
  b40 =
  (Dy.cutR
  (Dy.Dyd.mk
  s
  m
  e)
  b).snd →
  bif
  decide
  (n39 >
  (16777216 :
  Int)) then
  bif
  Dy.sameD
  (Dy.Dyd.mk
  b12
  l13
  n14)
  Dy.zeroD &&
  (!b15 &&
  decide
  (n16 =
  (20 :
  Int))) then
  Q
  (AV.bool
  true)
  else
  Q
  (AV.bool
  false)
  else
  bif
  Dy.sameD
  (Dy.Dyd.mk
  b12
  l13
  n14)
  (Dy.Dyd.mk
  b37
  l38
  n39) then
  bif
  decide
  (b15 =
  b40) then
  bif
  decide
  (n16 =
  (0 :
  Int)) then
  bif
  Dy.sameD
  (Dy.Dyd.mk
  b1
  l2
  n3)
  (Dy.Dyd.mk
  s
  m
  e) then
  Q
  (AV.bool
  true)
  else
  Q
  (AV.bool
  false)
  else
  Q
  (AV.bool
  false)
  else
  Q
  (AV.bool
  false)
  else
  Q
  (AV.bool
  false)
  else
  (m = [] ∨
  (-1099511627776 : Int) ≤ e ∧
  e ≤ (1099511627776 : Int) ∧
  (-1099511627776 : Int) ≤ n ∧
  n ≤ (1099511627776 : Int)) ∧
  ∀ (b41 : Bool),
  b41 = s →
  ∀ (l42 : List Nat),
  l42 = m →
  ∀ (n43 : Int),
  (n43 =
  if m = [] then e else e + n) →
  bif
  !Dy.sameD
  (Dy.Dyd.mk b4 l5 n6)
  (Dy.Dyd.mk b41 l42
  n43) then
  Q (AV.bool false)
  else
  bif
  !decide
  (n7 = (0 : Int)) then
  Q (AV.bool false)
  else
  Dy.mayD (Dy.Dyd.mk s m e) =
  true ∧
  ∀ (b44 : Bool),
  b44 =
  (Dy.floorD
  (Dy.Dyd.mk s m
  e)).neg →
  ∀ (l45 : List Nat),
  l45 =
  (Dy.floorD
  (Dy.Dyd.mk s
  m
  e)).mag →
  ∀ (n46 : Int),
  n46 =
  (Dy.floorD
  (Dy.Dyd.mk
  s m
  e)).exp →
  bif
  !(Dy.sameD
  (Dy.Dyd.mk
  b8
  l9
  n10)
  (Dy.boundD
  (Dy.Dyd.mk
  b44
  l45
  n46)).fst &&
  decide
  (n11 =
  (Dy.boundD
  (Dy.Dyd.mk
  b44
  l45
  n46)).snd)) then
  Q
  (AV.bool
  false)
  else
  bif
  decide
  (b <
  (1 :
  Int)) then
  bif
  Dy.sameD
  (Dy.Dyd.mk
  b12
  l13
  n14)
  Dy.zeroD &&
  (!b15 &&
  decide
  (n16 =
  (2 :
  Int))) then
  Q
  (AV.bool
  true)
  else
  Q
  (AV.bool
  false)
  else
  bif
  decide
  (b >
  (8192 :
  Int)) then
  bif
  Dy.sameD
  (Dy.Dyd.mk
  b12
  l13
  n14)
  Dy.zeroD &&
  (!b15 &&
  decide
  (n16 =
  (3 :
  Int))) then
  Q
  (AV.bool
  true)
  else
  Q
  (AV.bool
  false)
  else
  (Dy.mayD
  (Dy.Dyd.mk
  s
  m
  e) =
  true ∧
  (1 :
  Int) ≤
  b) ∧
  ∀
  (b47 :
  Bool),
  b47 =
  (Dy.cutR
  (Dy.Dyd.mk
  s
  m
  e)
  b).1.neg →
  ∀
  (l48 :
  List
  Nat),
  l48 =
  (Dy.cutR
  (Dy.Dyd.mk
  s
  m
  e)
  b).1.mag →
  ∀
  (n49 :
  Int),
  n49 =
  (Dy.cutR
  (Dy.Dyd.mk
  s
  m
  e)
  b).1.exp →
  ∀
  (b50 :
  Bool),
  b50 =
  (Dy.cutR
  (Dy.Dyd.mk
  s
  m
  e)
  b).snd →
  bif
  decide
  (n49 >
  (16777216 :
  Int)) then
  bif
  Dy.sameD
  (Dy.Dyd.mk
  b12
  l13
  n14)
  Dy.zeroD &&
  (!b15 &&
  decide
  (n16 =
  (20 :
  Int))) then
  Q
  (AV.bool
  true)
  else
  Q
  (AV.bool
  false)
  else
  bif
  Dy.sameD
  (Dy.Dyd.mk
  b12
  l13
  n14)
  (Dy.Dyd.mk
  b47
  l48
  n49) then
  bif
  decide
  (b15 =
  b50) then
  bif
  decide
  (n16 =
  (0 :
  Int)) then
  bif
  Dy.sameD
  (Dy.Dyd.mk
  b1
  l2
  n3)
  (Dy.Dyd.mk
  s
  m
  e) then
  Q
  (AV.bool
  true)
  else
  Q
  (AV.bool
  false)
  else
  Q
  (AV.bool
  false)
  else
  Q
  (AV.bool
  false)
  else
  Q
  (AV.bool
  false)) := by kernel_rfl
theorem vc_law2_DyadSums (s : Bool) (s' : Bool) (m : List
  Nat) (m' : List
  Nat) (e : Int) (e' : Int) (Q : AV →
  Prop) : (evF Tryd.prog (look tab23) (lam []) false Tryd.f9
  [AV.agg [AV.bool s, AV.dig [(1 : Nat)] m, AV.num IntKind.i64 e],
  AV.agg [AV.bool s', AV.dig [(2 : Nat)] m', AV.num IntKind.i64 e']]
  Q) =
  (bif decide ((↑m.length : Int) > (4100 : Int)) then Q (AV.bool true)
 else
  bif decide ((↑m'.length : Int) > (4100 : Int)) then Q (AV.bool true)
  else
  bif decide (IntKind.i64.wrap ((↑m.length : Int) * (↑m'.length : Int)) > (1048576 : Int)) then Q (AV.bool true)
  else
  m.length ≤ (1048576 : Nat) ∧
  ∀ (b1 : Bool),
  b1 = s →
  ∀ (l2 : List Nat),
  l2 = m →
  ∀ (n3 : Int),
  n3 = e →
  m'.length ≤ (1048576 : Nat) ∧
  ∀ (b4 : Bool),
  b4 = s' →
  ∀ (l5 : List Nat),
  l5 = m' →
  ∀ (n6 : Int),
  n6 = e' →
  ∀ (b7 : Bool),
  b7 = (Dy.okIf (Dy.mayD (Dy.Dyd.mk b1 l2 n3)) (Dy.negD (Dy.Dyd.mk b1 l2 n3))).1.neg →
  ∀ (l8 : List Nat),
  l8 =
  (Dy.okIf (Dy.mayD (Dy.Dyd.mk b1 l2 n3))
  (Dy.negD (Dy.Dyd.mk b1 l2 n3))).1.mag →
  ∀ (n9 : Int),
  n9 =
  (Dy.okIf (Dy.mayD (Dy.Dyd.mk b1 l2 n3))
  (Dy.negD (Dy.Dyd.mk b1 l2 n3))).1.exp →
  ∀ (n10 : Int),
  n10 =
  (Dy.okIf (Dy.mayD (Dy.Dyd.mk b1 l2 n3))
  (Dy.negD (Dy.Dyd.mk b1 l2 n3))).snd →
  ∀ (b11 : Bool),
  b11 =
  (Dy.okIf (Dy.mayD (Dy.Dyd.mk b1 l2 n3))
  (Dy.absD (Dy.Dyd.mk b1 l2 n3))).1.neg →
  ∀ (l12 : List Nat),
  l12 =
  (Dy.okIf (Dy.mayD (Dy.Dyd.mk b1 l2 n3))
  (Dy.absD (Dy.Dyd.mk b1 l2 n3))).1.mag →
  ∀ (n13 : Int),
  n13 =
  (Dy.okIf (Dy.mayD (Dy.Dyd.mk b1 l2 n3))
  (Dy.absD (Dy.Dyd.mk b1 l2 n3))).1.exp →
  ∀ (n14 : Int),
  n14 =
  (Dy.okIf (Dy.mayD (Dy.Dyd.mk b1 l2 n3))
  (Dy.absD (Dy.Dyd.mk b1 l2 n3))).snd →
  bif !Dy.mayD (Dy.Dyd.mk s m e) then
  bif
  !(Dy.sameD (Dy.Dyd.mk b7 l8 n9) Dy.zeroD &&
  decide (n10 = (2 : Int))) then
  Q (AV.bool false)
  else
  bif
  !(Dy.sameD (Dy.Dyd.mk b11 l12 n13) Dy.zeroD &&
  decide (n14 = (2 : Int))) then
  Q (AV.bool false)
  else
  bif
  !decide
  ((if
  Dy.mayD (Dy.Dyd.mk b1 l2 n3) =
  true then
  Dy.signD (Dy.Dyd.mk b1 l2 n3)
  else (0 : Int)) =
  (0 : Int)) then
  Q (AV.bool false)
  else
  bif
  !decide
  ((if
  Dy.mayD (Dy.Dyd.mk b1 l2 n3) =
  true then
  Dy.topD (Dy.Dyd.mk b1 l2 n3)
  else (0 : Int)) =
  (0 : Int)) then
  Q (AV.bool false)
  else
  ∀ (n15 : Int),
  (n15 =
  if
  (Dy.mayD (Dy.Dyd.mk b1 l2 n3) &&
  Dy.mayD
  (Dy.Dyd.mk b4 l5 n6)) =
  true then
  Dy.cmpD (Dy.Dyd.mk b1 l2 n3)
  (Dy.Dyd.mk b4 l5 n6)
  else (0 : Int)) →
  ∀ (n16 : Int),
  (n16 =
  if
  (Dy.mayD
  (Dy.Dyd.mk b1 l2 n3) &&
  Dy.mayD
  (Dy.Dyd.mk b4 l5 n6)) =
  true then
  (0 : Int)
  else (2 : Int)) →
  ∀ (b17 : Bool),
  b17 =
  (Dy.boundIf
  (Dy.mayD
  (Dy.Dyd.mk b1 l2
  n3) &&
  Dy.mayD
  (Dy.Dyd.mk b4 l5
  n6))
  (Dy.addD
  (Dy.Dyd.mk b1 l2 n3)
  (Dy.Dyd.mk b4 l5
  n6))).1.neg →
  ∀ (l18 : List Nat),
  l18 =
  (Dy.boundIf
  (Dy.mayD
  (Dy.Dyd.mk b1 l2
  n3) &&
  Dy.mayD
  (Dy.Dyd.mk b4 l5
  n6))
  (Dy.addD
  (Dy.Dyd.mk b1 l2
  n3)
  (Dy.Dyd.mk b4 l5
  n6))).1.mag →
  ∀ (n19 : Int),
  n19 =
  (Dy.boundIf
  (Dy.mayD
  (Dy.Dyd.mk
  b1 l2
  n3) &&
  Dy.mayD
  (Dy.Dyd.mk
  b4 l5 n6))
  (Dy.addD
  (Dy.Dyd.mk b1
  l2 n3)
  (Dy.Dyd.mk b4
  l5
  n6))).1.exp →
  ∀ (n20 : Int),
  n20 =
  (Dy.boundIf
  (Dy.mayD
  (Dy.Dyd.mk
  b1 l2
  n3) &&
  Dy.mayD
  (Dy.Dyd.mk
  b4 l5
  n6))
  (Dy.addD
  (Dy.Dyd.mk
  b1 l2 n3)
  (Dy.Dyd.mk
  b4 l5
  n6))).snd →
  ∀ (b21 : Bool),
  b21 =
  (Dy.boundIf
  (Dy.mayD
  (Dy.Dyd.mk
  b1
  l2
  n3) &&
  Dy.mayD
  (Dy.Dyd.mk
  b4
  l5
  n6))
  (Dy.addD
  (Dy.Dyd.mk
  b1
  l2
  n3)
  (Dy.negD
  (Dy.Dyd.mk
  b4
  l5
  n6)))).1.neg →
  ∀
  (l22 :
  List Nat),
  l22 =
  (Dy.boundIf
  (Dy.mayD
  (Dy.Dyd.mk
  b1
  l2
  n3) &&
  Dy.mayD
  (Dy.Dyd.mk
  b4
  l5
  n6))
  (Dy.addD
  (Dy.Dyd.mk
  b1
  l2
  n3)
  (Dy.negD
  (Dy.Dyd.mk
  b4
  l5
  n6)))).1.mag →
  ∀
  (n23 :
  Int),
  n23 =
  (Dy.boundIf
  (Dy.mayD
  (Dy.Dyd.mk
  b1
  l2
  n3) &&
  Dy.mayD
  (Dy.Dyd.mk
  b4
  l5
  n6))
  (Dy.addD
  (Dy.Dyd.mk
  b1
  l2
  n3)
  (Dy.negD
  (Dy.Dyd.mk
  b4
  l5
  n6)))).1.exp →
  ∀
  (n24 :
  Int),
  n24 =
  (Dy.boundIf
  (Dy.mayD
  (Dy.Dyd.mk
  b1
  l2
  n3) &&
  Dy.mayD
  (Dy.Dyd.mk
  b4
  l5
  n6))
  (Dy.addD
  (Dy.Dyd.mk
  b1
  l2
  n3)
  (Dy.negD
  (Dy.Dyd.mk
  b4
  l5
  n6)))).snd →
  ∀
  (b25 :
  Bool),
  b25 =
  (Dy.boundIf
  (Dy.mayD
  (Dy.Dyd.mk
  b1
  l2
  n3) &&
  Dy.mayD
  (Dy.Dyd.mk
  b4
  l5
  n6))
  (Dy.mulD
  (Dy.Dyd.mk
  b1
  l2
  n3)
  (Dy.Dyd.mk
  b4
  l5
  n6))).1.neg →
  ∀
  (l26 :
  List
  Nat),
  l26 =
  (Dy.boundIf
  (Dy.mayD
  (Dy.Dyd.mk
  b1
  l2
  n3) &&
  Dy.mayD
  (Dy.Dyd.mk
  b4
  l5
  n6))
  (Dy.mulD
  (Dy.Dyd.mk
  b1
  l2
  n3)
  (Dy.Dyd.mk
  b4
  l5
  n6))).1.mag →
  ∀
  (n27 :
  Int),
  n27 =
  (Dy.boundIf
  (Dy.mayD
  (Dy.Dyd.mk
  b1
  l2
  n3) &&
  Dy.mayD
  (Dy.Dyd.mk
  b4
  l5
  n6))
  (Dy.mulD
  (Dy.Dyd.mk
  b1
  l2
  n3)
  (Dy.Dyd.mk
  b4
  l5
  n6))).1.exp →
  ∀
  (n28 :
  Int),
  n28 =
  (Dy.boundIf
  (Dy.mayD
  (Dy.Dyd.mk
  b1
  l2
  n3) &&
  Dy.mayD
  (Dy.Dyd.mk
  b4
  l5
  n6))
  (Dy.mulD
  (Dy.Dyd.mk
  b1
  l2
  n3)
  (Dy.Dyd.mk
  b4
  l5
  n6))).snd →
  bif
  !Dy.mayD
  (Dy.Dyd.mk
  s
  m
  e) then
  bif
  decide
  (n15 =
  (0 :
  Int)) then
  bif
  decide
  (n16 =
  (2 :
  Int)) then
  bif
  Dy.sameD
  (Dy.Dyd.mk
  b17
  l18
  n19)
  Dy.zeroD &&
  decide
  (n20 =
  (2 :
  Int)) then
  bif
  Dy.sameD
  (Dy.Dyd.mk
  b21
  l22
  n23)
  Dy.zeroD &&
  decide
  (n24 =
  (2 :
  Int)) then
  bif
  Dy.sameD
  (Dy.Dyd.mk
  b25
  l26
  n27)
  Dy.zeroD &&
  decide
  (n28 =
  (2 :
  Int)) then
  Q
  (AV.bool
  true)
  else
  Q
  (AV.bool
  false)
  else
  Q
  (AV.bool
  false)
  else
  Q
  (AV.bool
  false)
  else
  Q
  (AV.bool
  false)
  else
  Q
  (AV.bool
  false)
  else
  bif
  !Dy.mayD
  (Dy.Dyd.mk
  s'
  m'
  e') then
  bif
  decide
  (n15 =
  (0 :
  Int)) then
  bif
  decide
  (n16 =
  (2 :
  Int)) then
  bif
  Dy.sameD
  (Dy.Dyd.mk
  b17
  l18
  n19)
  Dy.zeroD &&
  decide
  (n20 =
  (2 :
  Int)) then
  bif
  Dy.sameD
  (Dy.Dyd.mk
  b21
  l22
  n23)
  Dy.zeroD &&
  decide
  (n24 =
  (2 :
  Int)) then
  bif
  Dy.sameD
  (Dy.Dyd.mk
  b25
  l26
  n27)
  Dy.zeroD &&
  decide
  (n28 =
  (2 :
  Int)) then
  Q
  (AV.bool
  true)
  else
  Q
  (AV.bool
  false)
  else
  Q
  (AV.bool
  false)
  else
  Q
  (AV.bool
  false)
  else
  Q
  (AV.bool
  false)
  else
  Q
  (AV.bool
  false)
  else
  (Dy.mayD
  (Dy.Dyd.mk
  s
  m
  e) =
  true ∧
  Dy.mayD
  (Dy.Dyd.mk
  s'
  m'
  e') =
  true) ∧
  bif
  !decide
  (n15 =
  Dy.cmpD
  (Dy.Dyd.mk
  s
  m
  e)
  (Dy.Dyd.mk
  s'
  m'
  e')) then
  Q
  (AV.bool
  false)
  else
  bif
  !decide
  (n16 =
  (0 :
  Int)) then
  Q
  (AV.bool
  false)
  else
  (Dy.mayD
  (Dy.Dyd.mk
  s
  m
  e) =
  true ∧
  Dy.mayD
  (Dy.Dyd.mk
  s'
  m'
  e') =
  true) ∧
  ∀
  (b29 :
  Bool),
  b29 =
  (Dy.mulD
  (Dy.Dyd.mk
  s
  m
  e)
  (Dy.Dyd.mk
  s'
  m'
  e')).neg →
  ∀
  (l30 :
  List
  Nat),
  l30 =
  (Dy.mulD
  (Dy.Dyd.mk
  s
  m
  e)
  (Dy.Dyd.mk
  s'
  m'
  e')).mag →
  ∀
  (n31 :
  Int),
  n31 =
  (Dy.mulD
  (Dy.Dyd.mk
  s
  m
  e)
  (Dy.Dyd.mk
  s'
  m'
  e')).exp →
  bif
  !(Dy.sameD
  (Dy.Dyd.mk
  b25
  l26
  n27)
  (Dy.boundD
  (Dy.Dyd.mk
  b29
  l30
  n31)).fst &&
  decide
  (n28 =
  (Dy.boundD
  (Dy.Dyd.mk
  b29
  l30
  n31)).snd)) then
  Q
  (AV.bool
  false)
  else
  (Dy.mayD
  (Dy.Dyd.mk
  s
  m
  e) =
  true ∧
  Dy.mayD
  (Dy.Dyd.mk
  s'
  m'
  e') =
  true) ∧
  bif
  Dy.farD
  (Dy.Dyd.mk
  s
  m
  e)
  (Dy.Dyd.mk
  s'
  m'
  e') then
  bif
  Dy.sameD
  (Dy.Dyd.mk
  b17
  l18
  n19)
  Dy.zeroD &&
  decide
  (n20 =
  (3 :
  Int)) then
  bif
  Dy.sameD
  (Dy.Dyd.mk
  b21
  l22
  n23)
  Dy.zeroD &&
  decide
  (n24 =
  (3 :
  Int)) then
  Q
  (AV.bool
  true)
  else
  Q
  (AV.bool
  false)
  else
  Q
  (AV.bool
  false)
  else
  (Dy.mayD
  (Dy.Dyd.mk
  s
  m
  e) =
  true ∧
  Dy.mayD
  (Dy.Dyd.mk
  s'
  m'
  e') =
  true ∧
  (m =
  [] ∨
  m' =
  [] ∨
  (-300000 :
  Int) ≤
  e -
  e' ∧
  e -
  e' ≤
  (300000 :
  Int))) ∧
  ∀
  (b32 :
  Bool),
  b32 =
  (Dy.addD
  (Dy.Dyd.mk
  s
  m
  e)
  (Dy.Dyd.mk
  s'
  m'
  e')).neg →
  ∀
  (l33 :
  List
  Nat),
  l33 =
  (Dy.addD
  (Dy.Dyd.mk
  s
  m
  e)
  (Dy.Dyd.mk
  s'
  m'
  e')).mag →
  ∀
  (n34 :
  Int),
  n34 =
  (Dy.addD
  (Dy.Dyd.mk
  s
  m
  e)
  (Dy.Dyd.mk
  s'
  m'
  e')).exp →
  bif
  Dy.sameD
  (Dy.Dyd.mk
  b17
  l18
  n19)
  (Dy.boundD
  (Dy.Dyd.mk
  b32
  l33
  n34)).fst &&
  decide
  (n20 =
  (Dy.boundD
  (Dy.Dyd.mk
  b32
  l33
  n34)).snd) then
  (Dy.mayD
  (Dy.Dyd.mk
  s
  m
  e) =
  true ∧
  Dy.mayD
  (Dy.Dyd.mk
  s'
  m'
  e') =
  true ∧
  (m =
  [] ∨
  m' =
  [] ∨
  (-300000 :
  Int) ≤
  e -
  e' ∧
  e -
  e' ≤
  (300000 :
  Int))) ∧
  ∀
  (b35 :
  Bool),
  b35 =
  (Dy.addD
  (Dy.Dyd.mk
  s
  m
  e)
  (Dy.negD
  (Dy.Dyd.mk
  s'
  m'
  e'))).neg →
  ∀
  (l36 :
  List
  Nat),
  l36 =
  (Dy.addD
  (Dy.Dyd.mk
  s
  m
  e)
  (Dy.negD
  (Dy.Dyd.mk
  s'
  m'
  e'))).mag →
  ∀
  (n37 :
  Int),
  n37 =
  (Dy.addD
  (Dy.Dyd.mk
  s
  m
  e)
  (Dy.negD
  (Dy.Dyd.mk
  s'
  m'
  e'))).exp →
  bif
  Dy.sameD
  (Dy.Dyd.mk
  b21
  l22
  n23)
  (Dy.boundD
  (Dy.Dyd.mk
  b35
  l36
  n37)).fst &&
  decide
  (n24 =
  (Dy.boundD
  (Dy.Dyd.mk
  b35
  l36
  n37)).snd) then
  bif
  Dy.sameD
  (Dy.Dyd.mk
  b1
  l2
  n3)
  (Dy.Dyd.mk
  s
  m
  e) then
  bif
  Dy.sameD
  (Dy.Dyd.mk
  b4
  l5
  n6)
  (Dy.Dyd.mk
  s'
  m'
  e') then
  Q
  (AV.bool
  true)
  else
  Q
  (AV.bool
  false)
  else
  Q
  (AV.bool
  false)
  else
  Q
  (AV.bool
  false)
  else
  Q
  (AV.bool
  false)
  else
  ∀ (b38 : Bool),
  (b38 = if m = [] then s else !s) →
  ∀ (l39 : List Nat),
  l39 = m →
  ∀ (n40 : Int),
  n40 = e →
  bif
  !Dy.sameD (Dy.Dyd.mk b7 l8 n9)
  (Dy.Dyd.mk b38 l39 n40) then
  Q (AV.bool false)
  else
  bif !decide (n10 = (0 : Int)) then
  Q (AV.bool false)
  else
  ∀ (b41 : Bool),
  b41 = false →
  ∀ (l42 : List Nat),
  l42 = m →
  ∀ (n43 : Int),
  n43 = e →
  bif
  !Dy.sameD
  (Dy.Dyd.mk b11
  l12 n13)
  (Dy.Dyd.mk b41
  l42 n43) then
  Q (AV.bool false)
  else
  bif
  !decide
  (n14 =
  (0 :
  Int)) then
  Q (AV.bool false)
  else
  bif
  !decide
  ((if
  Dy.mayD
  (Dy.Dyd.mk
  b1
  l2
  n3) =
  true then
  Dy.signD
  (Dy.Dyd.mk
  b1
  l2
  n3)
  else
  (0 :
  Int)) =
  Dy.signD
  (Dy.Dyd.mk
  s m
  e)) then
  Q (AV.bool false)
  else
  (Dy.dg
  (Dy.val
  m) =
  m ∧
  m.length ≤
  (1048576 :
  Nat) ∧
  (-1099511627776 :
  Int) ≤
  e ∧
  e ≤
  (1099511627776 :
  Int)) ∧
  bif
  !decide
  ((if
  Dy.mayD
  (Dy.Dyd.mk
  b1
  l2
  n3) =
  true then
  Dy.topD
  (Dy.Dyd.mk
  b1
  l2
  n3)
  else
  (0 :
  Int)) =
  Dy.topD
  (Dy.Dyd.mk
  s
  m
  e)) then
  Q
  (AV.bool
  false)
  else
  ∀ (n44 : Int),
  (n44 =
  if
  (Dy.mayD
  (Dy.Dyd.mk
  b1
  l2
  n3) &&
  Dy.mayD
  (Dy.Dyd.mk
  b4
  l5
  n6)) =
  true then
  Dy.cmpD
  (Dy.Dyd.mk
  b1
  l2
  n3)
  (Dy.Dyd.mk
  b4
  l5
  n6)
  else
  (0 :
  Int)) →
  ∀
  (n45 :
  Int),
  (n45 =
  if
  (Dy.mayD
  (Dy.Dyd.mk
  b1
  l2
  n3) &&
  Dy.mayD
  (Dy.Dyd.mk
  b4
  l5
  n6)) =
  true then
  (0 :
  Int)
  else
  (2 :
  Int)) →
  ∀
  (b46 :
  Bool),
  b46 =
  (Dy.boundIf
  (Dy.mayD
  (Dy.Dyd.mk
  b1
  l2
  n3) &&
  Dy.mayD
  (Dy.Dyd.mk
  b4
  l5
  n6))
  (Dy.addD
  (Dy.Dyd.mk
  b1
  l2
  n3)
  (Dy.Dyd.mk
  b4
  l5
  n6))).1.neg →
  ∀
  (l47 :
  List
  Nat),
  l47 =
  (Dy.boundIf
  (Dy.mayD
  (Dy.Dyd.mk
  b1
  l2
  n3) &&
  Dy.mayD
  (Dy.Dyd.mk
  b4
  l5
  n6))
  (Dy.addD
  (Dy.Dyd.mk
  b1
  l2
  n3)
  (Dy.Dyd.mk
  b4
  l5
  n6))).1.mag →
  ∀
  (n48 :
  Int),
  n48 =
  (Dy.boundIf
  (Dy.mayD
  (Dy.Dyd.mk
  b1
  l2
  n3) &&
  Dy.mayD
  (Dy.Dyd.mk
  b4
  l5
  n6))
  (Dy.addD
  (Dy.Dyd.mk
  b1
  l2
  n3)
  (Dy.Dyd.mk
  b4
  l5
  n6))).1.exp →
  ∀
  (n49 :
  Int),
  n49 =
  (Dy.boundIf
  (Dy.mayD
  (Dy.Dyd.mk
  b1
  l2
  n3) &&
  Dy.mayD
  (Dy.Dyd.mk
  b4
  l5
  n6))
  (Dy.addD
  (Dy.Dyd.mk
  b1
  l2
  n3)
  (Dy.Dyd.mk
  b4
  l5
  n6))).snd →
  ∀
  (b50 :
  Bool),
  b50 =
  (Dy.boundIf
  (Dy.mayD
  (Dy.Dyd.mk
  b1
  l2
  n3) &&
  Dy.mayD
  (Dy.Dyd.mk
  b4
  l5
  n6))
  (Dy.addD
  (Dy.Dyd.mk
  b1
  l2
  n3)
  (Dy.negD
  (Dy.Dyd.mk
  b4
  l5
  n6)))).1.neg →
  ∀
  (l51 :
  List
  Nat),
  l51 =
  (Dy.boundIf
  (Dy.mayD
  (Dy.Dyd.mk
  b1
  l2
  n3) &&
  Dy.mayD
  (Dy.Dyd.mk
  b4
  l5
  n6))
  (Dy.addD
  (Dy.Dyd.mk
  b1
  l2
  n3)
  (Dy.negD
  (Dy.Dyd.mk
  b4
  l5
  n6)))).1.mag →
  ∀
  (n52 :
  Int),
  n52 =
  (Dy.boundIf
  (Dy.mayD
  (Dy.Dyd.mk
  b1
  l2
  n3) &&
  Dy.mayD
  (Dy.Dyd.mk
  b4
  l5
  n6))
  (Dy.addD
  (Dy.Dyd.mk
  b1
  l2
  n3)
  (Dy.negD
  (Dy.Dyd.mk
  b4
  l5
  n6)))).1.exp →
  ∀
  (n53 :
  Int),
  n53 =
  (Dy.boundIf
  (Dy.mayD
  (Dy.Dyd.mk
  b1
  l2
  n3) &&
  Dy.mayD
  (Dy.Dyd.mk
  b4
  l5
  n6))
  (Dy.addD
  (Dy.Dyd.mk
  b1
  l2
  n3)
  (Dy.negD
  (Dy.Dyd.mk
  b4
  l5
  n6)))).snd →
  ∀
  (b54 :
  Bool),
  b54 =
  (Dy.boundIf
  (Dy.mayD
  (Dy.Dyd.mk
  b1
  l2
  n3) &&
  Dy.mayD
  (Dy.Dyd.mk
  b4
  l5
  n6))
  (Dy.mulD
  (Dy.Dyd.mk
  b1
  l2
  n3)
  (Dy.Dyd.mk
  b4
  l5
  n6))).1.neg →
  ∀
  (l55 :
  List
  Nat),
  l55 =
  (Dy.boundIf
  (Dy.mayD
  (Dy.Dyd.mk
  b1
  l2
  n3) &&
  Dy.mayD
  (Dy.Dyd.mk
  b4
  l5
  n6))
  (Dy.mulD
  (Dy.Dyd.mk
  b1
  l2
  n3)
  (Dy.Dyd.mk
  b4
  l5
  n6))).1.mag →
  ∀
  (n56 :
  Int),
  n56 =
  (Dy.boundIf
  (Dy.mayD
  (Dy.Dyd.mk
  b1
  l2
  n3) &&
  Dy.mayD
  (Dy.Dyd.mk
  b4
  l5
  n6))
  (Dy.mulD
  (Dy.Dyd.mk
  b1
  l2
  n3)
  (Dy.Dyd.mk
  b4
  l5
  n6))).1.exp →
  ∀
  (n57 :
  Int),
  n57 =
  (Dy.boundIf
  (Dy.mayD
  (Dy.Dyd.mk
  b1
  l2
  n3) &&
  Dy.mayD
  (Dy.Dyd.mk
  b4
  l5
  n6))
  (Dy.mulD
  (Dy.Dyd.mk
  b1
  l2
  n3)
  (Dy.Dyd.mk
  b4
  l5
  n6))).snd →
  bif
  !Dy.mayD
  (Dy.Dyd.mk
  s
  m
  e) then
  bif
  decide
  (n44 =
  (0 :
  Int)) then
  bif
  decide
  (n45 =
  (2 :
  Int)) then
  bif
  Dy.sameD
  (Dy.Dyd.mk
  b46
  l47
  n48)
  Dy.zeroD &&
  decide
  (n49 =
  (2 :
  Int)) then
  bif
  Dy.sameD
  (Dy.Dyd.mk
  b50
  l51
  n52)
  Dy.zeroD &&
  decide
  (n53 =
  (2 :
  Int)) then
  bif
  Dy.sameD
  (Dy.Dyd.mk
  b54
  l55
  n56)
  Dy.zeroD &&
  decide
  (n57 =
  (2 :
  Int)) then
  Q
  (AV.bool
  true)
  else
  Q
  (AV.bool
  false)
  else
  Q
  (AV.bool
  false)
  else
  Q
  (AV.bool
  false)
  else
  Q
  (AV.bool
  false)
  else
  Q
  (AV.bool
  false)
  else
  bif
  !Dy.mayD
  (Dy.Dyd.mk
  s'
  m'
  e') then
  bif
  decide
  (n44 =
  (0 :
  Int)) then
  bif
  decide
  (n45 =
  (2 :
  Int)) then
  bif
  Dy.sameD
  (Dy.Dyd.mk
  b46
  l47
  n48)
  Dy.zeroD &&
  decide
  (n49 =
  (2 :
  Int)) then
  bif
  Dy.sameD
  (Dy.Dyd.mk
  b50
  l51
  n52)
  Dy.zeroD &&
  decide
  (n53 =
  (2 :
  Int)) then
  bif
  Dy.sameD
  (Dy.Dyd.mk
  b54
  l55
  n56)
  Dy.zeroD &&
  decide
  (n57 =
  (2 :
  Int)) then
  Q
  (AV.bool
  true)
  else
  Q
  (AV.bool
  false)
  else
  Q
  (AV.bool
  false)
  else
  Q
  (AV.bool
  false)
  else
  Q
  (AV.bool
  false)
  else
  Q
  (AV.bool
  false)
  else
  (Dy.mayD
  (Dy.Dyd.mk
  s
  m
  e) =
  true ∧
  Dy.mayD
  (Dy.Dyd.mk
  s'
  m'
  e') =
  true) ∧
  bif
  !decide
  (n44 =
  Dy.cmpD
  (Dy.Dyd.mk
  s
  m
  e)
  (Dy.Dyd.mk
  s'
  m'
  e')) then
  Q
  (AV.bool
  false)
  else
  bif
  !decide
  (n45 =
  (0 :
  Int)) then
  Q
  (AV.bool
  false)
  else
  (Dy.mayD
  (Dy.Dyd.mk
  s
  m
  e) =
  true ∧
  Dy.mayD
  (Dy.Dyd.mk
  s'
  m'
  e') =
  true) ∧
  ∀
  (b58 :
  Bool),
  b58 =
  (Dy.mulD
  (Dy.Dyd.mk
  s
  m
  e)
  (Dy.Dyd.mk
  s'
  m'
  e')).neg →
  ∀
  (l59 :
  List
  Nat),
  l59 =
  (Dy.mulD
  (Dy.Dyd.mk
  s
  m
  e)
  (Dy.Dyd.mk
  s'
  m'
  e')).mag →
  ∀
  (n60 :
  Int),
  n60 =
  (Dy.mulD
  (Dy.Dyd.mk
  s
  m
  e)
  (Dy.Dyd.mk
  s'
  m'
  e')).exp →
  bif
  !(Dy.sameD
  (Dy.Dyd.mk
  b54
  l55
  n56)
  (Dy.boundD
  (Dy.Dyd.mk
  b58
  l59
  n60)).fst &&
  decide
  (n57 =
  (Dy.boundD
  (Dy.Dyd.mk
  b58
  l59
  n60)).snd)) then
  Q
  (AV.bool
  false)
  else
  (Dy.mayD
  (Dy.Dyd.mk
  s
  m
  e) =
  true ∧
  Dy.mayD
  (Dy.Dyd.mk
  s'
  m'
  e') =
  true) ∧
  bif
  Dy.farD
  (Dy.Dyd.mk
  s
  m
  e)
  (Dy.Dyd.mk
  s'
  m'
  e') then
  bif
  Dy.sameD
  (Dy.Dyd.mk
  b46
  l47
  n48)
  Dy.zeroD &&
  decide
  (n49 =
  (3 :
  Int)) then
  bif
  Dy.sameD
  (Dy.Dyd.mk
  b50
  l51
  n52)
  Dy.zeroD &&
  decide
  (n53 =
  (3 :
  Int)) then
  Q
  (AV.bool
  true)
  else
  Q
  (AV.bool
  false)
  else
  Q
  (AV.bool
  false)
  else
  (Dy.mayD
  (Dy.Dyd.mk
  s
  m
  e) =
  true ∧
  Dy.mayD
  (Dy.Dyd.mk
  s'
  m'
  e') =
  true ∧
  (m =
  [] ∨
  m' =
  [] ∨
  (-300000 :
  Int) ≤
  e -
  e' ∧
  e -
  e' ≤
  (300000 :
  Int))) ∧
  ∀
  (b61 :
  Bool),
  b61 =
  (Dy.addD
  (Dy.Dyd.mk
  s
  m
  e)
  (Dy.Dyd.mk
  s'
  m'
  e')).neg →
  ∀
  (l62 :
  List
  Nat),
  l62 =
  (Dy.addD
  (Dy.Dyd.mk
  s
  m
  e)
  (Dy.Dyd.mk
  s'
  m'
  e')).mag →
  ∀
  (n63 :
  Int),
  n63 =
  (Dy.addD
  (Dy.Dyd.mk
  s
  m
  e)
  (Dy.Dyd.mk
  s'
  m'
  e')).exp →
  bif
  Dy.sameD
  (Dy.Dyd.mk
  b46
  l47
  n48)
  (Dy.boundD
  (Dy.Dyd.mk
  b61
  l62
  n63)).fst &&
  decide
  (n49 =
  (Dy.boundD
  (Dy.Dyd.mk
  b61
  l62
  n63)).snd) then
  (Dy.mayD
  (Dy.Dyd.mk
  s
  m
  e) =
  true ∧
  Dy.mayD
  (Dy.Dyd.mk
  s'
  m'
  e') =
  true ∧
  (m =
  [] ∨
  m' =
  [] ∨
  (-300000 :
  Int) ≤
  e -
  e' ∧
  e -
  e' ≤
  (300000 :
  Int))) ∧
  ∀
  (b64 :
  Bool),
  b64 =
  (Dy.addD
  (Dy.Dyd.mk
  s
  m
  e)
  (Dy.negD
  (Dy.Dyd.mk
  s'
  m'
  e'))).neg →
  ∀
  (l65 :
  List
  Nat),
  l65 =
  (Dy.addD
  (Dy.Dyd.mk
  s
  m
  e)
  (Dy.negD
  (Dy.Dyd.mk
  s'
  m'
  e'))).mag →
  ∀
  (n66 :
  Int),
  n66 =
  (Dy.addD
  (Dy.Dyd.mk
  s
  m
  e)
  (Dy.negD
  (Dy.Dyd.mk
  s'
  m'
  e'))).exp →
  bif
  Dy.sameD
  (Dy.Dyd.mk
  b50
  l51
  n52)
  (Dy.boundD
  (Dy.Dyd.mk
  b64
  l65
  n66)).fst &&
  decide
  (n53 =
  (Dy.boundD
  (Dy.Dyd.mk
  b64
  l65
  n66)).snd) then
  bif
  Dy.sameD
  (Dy.Dyd.mk
  b1
  l2
  n3)
  (Dy.Dyd.mk
  s
  m
  e) then
  bif
  Dy.sameD
  (Dy.Dyd.mk
  b4
  l5
  n6)
  (Dy.Dyd.mk
  s'
  m'
  e') then
  Q
  (AV.bool
  true)
  else
  Q
  (AV.bool
  false)
  else
  Q
  (AV.bool
  false)
  else
  Q
  (AV.bool
  false)
  else
  Q
  (AV.bool
  false)) := by kernel_rfl
end Go.AI

namespace Go.AI
open Go Go.RowKit Go.Proofs
set_option linter.unusedVariables false
set_option maxRecDepth 100000
theorem may_len {m : List Nat} (h : Dy.may m = true) : m.length ≤ 4096 := by unfold Dy.may at h; exact (of_decide_eq_true h).1
theorem may_dg {m : List Nat} (h : Dy.may m = true) : Dy.dg (Dy.val m) = m := by unfold Dy.may at h; exact (of_decide_eq_true h).2
theorem form_len {s : Bool} {m : List Nat} {e : Int} (h : Dy.may m = true) : (Dy.form s (Dy.val m) e).mag.length ≤ 4096 := by
  by_cases h0 : Dy.val m = 0
  · rw [h0, Dy.form_zero]; decide
  · rw [Dy.form_pos h0]
    show (Dy.dg (Dy.val m / 2 ^ Dy.tz (Dy.val m))).length ≤ 4096
    rw [Dy.len_bl]
    exact Nat.le_trans (Dy.bl_mono (Nat.div_le_self _ _)) (Dy.may_bl h)
theorem ok_law_DyadMakes (s : Bool) (m : List Nat) (e : Int) : Contract Tryd.prog Inv 3 [.agg [.bool s, .dig [1] m, .num .i64 e]] (.bool true) := by
  refine contract0 false ok_tab23 Tryd.func3 (by kernel_rfl) (by kernel_rfl) fun hok => ?_
  obtain ⟨hm, he, -⟩ := oks_d hok
  rw [vc_law2_DyadMakes]
  refine cond_i (fun h => rfl) (fun h => ?_)
  have hl : m.length ≤ 4100 := by have := of_decide_eq_false h; omega
  clear h
  refine ⟨by omega, ?_⟩
  intro b1 h1 l2 h2 n3 h3
  rw [h1, h2, h3]
  refine cond_f (by simp) ?_
  cases hmay : Dy.may m with
  | false =>
    refine peel (x := Dy.makeD s m e) (d0 := Dy.zeroD) (k0 := 2) (by unfold Dy.makeD; rw [hmay]; rfl) fun b l n h1 => ?_
    rw [h1]
    exact cond_f (by simp) (cond_t rfl (cond_t (by rw [same_self]; rfl) rfl))
  | true =>
    by_cases h0 : m = []
    · subst h0
      refine peel (x := Dy.makeD s [] e) (d0 := Dy.zeroD) (k0 := 0) (by unfold Dy.makeD; rw [hmay]; rfl) fun b l n h1 => ?_
      rw [h1]
      exact cond_f (by simp) (cond_f rfl (cond_t (by simp) (cond_t (by rw [same_self]; rfl) rfl)))
    · have hv := Dy.val_ne hmay h0
      have ht := Dy.tz_lt_bl hv
      have hb := Dy.may_bl hmay
      have hln : (m.length : Int) ≠ 0 := fun e => h0 (List.length_eq_zero_iff.1 (by omega))
      have hlen := form_len (s := s) (e := e) hmay
      have hexp : (Dy.form s (Dy.val m) e).exp = e + Dy.tz (Dy.val m) := by rw [Dy.form_pos hv]
      have hmk : Dy.makeD s m e = if Dy.inside (e + Dy.tz (Dy.val m)) then (Dy.form s (Dy.val m) e, 0) else (Dy.zeroD, 20) := by
        unfold Dy.makeD
        rw [if_pos hmay]
        unfold Dy.boundD
        rw [if_pos hlen, hexp]
      have w1 : IntKind.i64.wrap ((-16777216 : Int) - (↑(Dy.tz (Dy.val m)) : Int)) = -16777216 - Dy.tz (Dy.val m) := wrap_i64 (by omega) (by omega)
      have w2 : IntKind.i64.wrap ((16777216 : Int) - (↑(Dy.tz (Dy.val m)) : Int)) = 16777216 - Dy.tz (Dy.val m) := wrap_i64 (by omega) (by omega)
      rw [w1, w2]
      cases hin : Dy.inside (e + Dy.tz (Dy.val m)) with
      | false =>
        have hout : ¬ (-16777216 ≤ e + Dy.tz (Dy.val m) ∧ e + Dy.tz (Dy.val m) ≤ 16777216) := fun h => by rw [Dy.inside_iff.2 h] at hin; cases hin
        rw [hin] at hmk
        refine peel (x := Dy.makeD s m e) hmk fun b l n h1 => ?_
        rw [h1]
        refine cond_f (by simp) (cond_f rfl (cond_f (decide_eq_false hln) ⟨⟨may_dg hmay, by omega⟩, ?_⟩))
        have fin : ∀ {p q : Prop}, p → (bif Dy.sameD Dy.zeroD Dy.zeroD && decide ((20 : Int) = 20) then p else q) := fun hp => cond_t (by rw [same_self]; rfl) hp
        refine cond_i (fun _ => fin rfl) (fun h2 => ?_)
        have h2 := of_decide_eq_false h2
        exact cond_t (decide_eq_true (by omega)) (fin rfl)
      | true =>
        have hi := Dy.inside_iff.1 hin
        rw [hin] at hmk
        refine peel (x := Dy.makeD s m e) hmk fun b l n h1 => ?_
        rw [h1]
        refine cond_f (by simp) (cond_f rfl (cond_f (decide_eq_false hln) ⟨⟨may_dg hmay, by omega⟩, ?_⟩))
        refine cond_f (decide_eq_false (by omega)) (cond_f (decide_eq_false (by omega)) ⟨⟨may_dg hmay, by omega, by omega, by omega⟩, ?_⟩)
        refine peel3 fun _ _ _ h4 => ?_
        rw [h4]
        exact cond_t (same_self _) (cond_t rfl (cond_t (by simp) rfl))
end Go.AI

namespace Go.AI
open Go Go.RowKit Go.Proofs
set_option linter.unusedVariables false
set_option maxRecDepth 100000
theorem peelc {x : Dy.Cutd} {d0 : Dy.Dyd} {l0 : Bool} {k0 : Int} (hx : x = ⟨d0, l0, k0⟩) {P : Bool → List Nat → Int → Bool → Int → Prop} (h : ∀ b l n, Dy.Dyd.mk b l n = d0 → P b l n l0 k0) :
    ∀ b, b = x.num.neg → ∀ l, l = x.num.mag → ∀ n, n = x.num.exp → ∀ o, o = x.lost → ∀ k, k = x.err → P b l n o k := by
  subst hx
  rintro _ rfl _ rfl _ rfl _ rfl _ rfl
  exact h _ _ _ rfl
/-- the whole number below a number is inside -/
theorem floor_bound {d : Dy.Dyd} (h : Dy.mayD d = true) : Dy.boundD (Dy.floorD d) = (Dy.floorD d, 0) := by
  by_cases he : 0 ≤ d.exp
  · have : Dy.floorD d = d := by unfold Dy.floorD; rw [if_pos he]
    rw [this]
    exact Dy.boundD_self h
  · obtain ⟨k, X, _, _, _, hX, hf, _⟩ := Dy.floor_neg h (by omega)
    rw [hf]
    obtain ⟨s, m, e⟩ := d
    have hb := Dy.may_bl (Dy.mayD_may h)
    have hX : X ≤ Dy.val m := hX
    have hx := Nat.le_trans (Dy.bl_mono hX) hb
    exact (Dy.fit_form (L := 131072) (E := 131072) hx (by omega) (by omega) (by decide) (by decide)).2
/-- a number without its lowest bits: too great, or inside -/
theorem head_bound {s : Bool} {m : List Nat} {e b : Int} (h : Dy.mayD ⟨s, m, e⟩ = true) (hb : 1 ≤ b) (ho : ¬ Dy.overD ⟨s, m, e⟩ b ≤ 0) :
    Dy.boundD (Dy.headD ⟨s, m, e⟩ b) = if (Dy.headD ⟨s, m, e⟩ b).exp > 16777216 then (Dy.zeroD, 20) else (Dy.headD ⟨s, m, e⟩ b, 0) := by
  have hbl := Dy.may_bl (Dy.mayD_may h)
  have hx := Dy.mayD_exp h
  unfold Dy.overD at ho
  simp only at ho
  have hov : Dy.overD ⟨s, m, e⟩ b = (Dy.bl (Dy.val m) : Int) - b := rfl
  have hd : Dy.headD ⟨s, m, e⟩ b = Dy.form s (Dy.val m / 2 ^ ((Dy.bl (Dy.val m) : Int) - b).toNat) (e + ((Dy.bl (Dy.val m) : Int) - b)) := rfl
  rw [hd]
  generalize hk : ((Dy.bl (Dy.val m) : Int) - b).toNat = k
  have h0 : Dy.val m / 2 ^ k ≠ 0 := fun e0 => by
    have := Dy.bl_div_two_pow (Dy.val m) k
    rw [e0] at this
    have z : Dy.bl 0 = 0 := rfl
    omega
  have hlen : (Dy.form s (Dy.val m / 2 ^ k) (e + ((Dy.bl (Dy.val m) : Int) - b))).mag.length ≤ 4096 := by
    rw [Dy.form_pos h0]
    show (Dy.dg _).length ≤ 4096
    rw [Dy.len_bl]
    exact Nat.le_trans (Dy.bl_mono (Nat.le_trans (Nat.div_le_self _ _) (Nat.div_le_self _ _))) hbl
  have hexp : (Dy.form s (Dy.val m / 2 ^ k) (e + ((Dy.bl (Dy.val m) : Int) - b))).exp = e + ((Dy.bl (Dy.val m) : Int) - b) + Dy.tz (Dy.val m / 2 ^ k) := by rw [Dy.form_pos h0]
  unfold Dy.boundD
  rw [if_pos hlen, hexp]
  by_cases c : e + ((Dy.bl (Dy.val m) : Int) - b) + Dy.tz (Dy.val m / 2 ^ k) > 16777216
  · rw [if_pos c, if_neg (fun hi => by have := (Dy.inside_iff.1 hi).2; omega)]
  · rw [if_neg c, if_pos (Dy.inside_iff.2 ⟨by omega, by omega⟩)]
/-- a cut, as the law asks for it -/
def CutSays (d : Dy.Dyd) (b : Int) (d0 : Dy.Dyd) (l0 : Bool) (k0 : Int) : Prop :=
  (b < 1 ∧ d0 = Dy.zeroD ∧ l0 = false ∧ k0 = 2) ∨ (8192 < b ∧ d0 = Dy.zeroD ∧ l0 = false ∧ k0 = 3) ∨
  (1 ≤ b ∧ b ≤ 8192 ∧ (Dy.cutR d b).1.exp > 16777216 ∧ d0 = Dy.zeroD ∧ l0 = false ∧ k0 = 20) ∨
  (1 ≤ b ∧ b ≤ 8192 ∧ ¬ (Dy.cutR d b).1.exp > 16777216 ∧ d0 = (Dy.cutR d b).1 ∧ l0 = (Dy.cutR d b).2 ∧ k0 = 0)
theorem cut_says {s : Bool} {m : List Nat} {e b : Int} (h : Dy.mayD ⟨s, m, e⟩ = true) : ∃ d0 l0 k0, Dy.cutD ⟨s, m, e⟩ b = ⟨d0, l0, k0⟩ ∧ CutSays ⟨s, m, e⟩ b d0 l0 k0 := by
  unfold Dy.cutD Dy.askD
  rw [if_pos h]
  by_cases c1 : b < 1
  · rw [if_pos c1]
    exact ⟨Dy.zeroD, false, 2, rfl, .inl ⟨c1, rfl, rfl, rfl⟩⟩
  rw [if_neg c1]
  by_cases c2 : 8192 < b
  · rw [if_pos c2]
    exact ⟨Dy.zeroD, false, 3, rfl, .inr (.inl ⟨c2, rfl, rfl, rfl⟩)⟩
  rw [if_neg c2, if_pos rfl]
  unfold CutSays Dy.cutL Dy.cutR
  by_cases c3 : Dy.overD ⟨s, m, e⟩ b ≤ 0
  · rw [if_pos c3, if_pos c3]
    exact ⟨_, _, _, rfl, .inr (.inr (.inr ⟨by omega, by omega, by have := (Dy.mayD_exp h).2; show ¬ e > 16777216; omega, rfl, rfl, rfl⟩))⟩
  rw [if_neg c3, if_neg c3, head_bound h (by omega) c3]
  by_cases c4 : (Dy.headD ⟨s, m, e⟩ b).exp > 16777216
  · rw [if_pos c4]
    exact ⟨_, _, _, rfl, .inr (.inr (.inl ⟨by omega, by omega, c4, rfl, rfl, rfl⟩))⟩
  · rw [if_neg c4]
    exact ⟨_, _, _, rfl, .inr (.inr (.inr ⟨by omega, by omega, c4, rfl, rfl, rfl⟩))⟩
theorem cuts_tail {d : Dy.Dyd} {b : Int} {T F M : Prop} (hT : T) (hd : M) {d0 : Dy.Dyd} {l0 : Bool} {k0 : Int} (H : CutSays d b d0 l0 k0) {A : Bool} (hA : A = true) :
    bif decide (b < 1) then (bif Dy.sameD d0 Dy.zeroD && (!l0 && decide (k0 = 2)) then T else F)
    else bif decide (b > 8192) then (bif Dy.sameD d0 Dy.zeroD && (!l0 && decide (k0 = 3)) then T else F)
    else (M ∧ 1 ≤ b) ∧ ∀ b20, b20 = (Dy.cutR d b).1.neg → ∀ l21, l21 = (Dy.cutR d b).1.mag → ∀ n22, n22 = (Dy.cutR d b).1.exp → ∀ b23, b23 = (Dy.cutR d b).2 →
      bif decide (n22 > 16777216) then (bif Dy.sameD d0 Dy.zeroD && (!l0 && decide (k0 = 20)) then T else F)
      else bif Dy.sameD d0 (Dy.Dyd.mk b20 l21 n22) then bif decide (l0 = b23) then bif decide (k0 = 0) then bif A then T else F else F else F else F := by
  rcases H with ⟨h1, rfl, rfl, rfl⟩ | ⟨h1, rfl, rfl, rfl⟩ | ⟨h1, h2, h3, rfl, rfl, rfl⟩ | ⟨h1, h2, h3, rfl, rfl, rfl⟩
  · exact cond_t (decide_eq_true h1) (cond_t (by rw [same_self]; rfl) hT)
  · exact cond_f (decide_eq_false (by omega)) (cond_t (decide_eq_true h1) (cond_t (by rw [same_self]; rfl) hT))
  · refine cond_f (decide_eq_false (by omega)) (cond_f (decide_eq_false (by omega)) ⟨⟨hd, h1⟩, ?_⟩)
    rintro _ rfl _ rfl _ rfl _ rfl
    exact cond_t (decide_eq_true h3) (cond_t (by rw [same_self]; rfl) hT)
  · refine cond_f (decide_eq_false (by omega)) (cond_f (decide_eq_false (by omega)) ⟨⟨hd, h1⟩, ?_⟩)
    rintro _ rfl _ rfl _ rfl _ rfl
    exact cond_f (decide_eq_false h3) (cond_t (same_self _) (cond_t (by simp) (cond_t rfl (cond_t hA hT))))
theorem ok_law_DyadCuts (s : Bool) (m : List Nat) (e n b : Int) : Contract Tryd.prog Inv 6 [.agg [.bool s, .dig [1] m, .num .i64 e], .num .i64 n, .num .i64 b] (.bool true) := by
  refine contract0 false ok_tab23 Tryd.func6 (by kernel_rfl) (by kernel_rfl) fun hok => ?_
  obtain ⟨hm, he, hok2⟩ := oks_d hok
  have hn := (oks1_num hok2).1
  simp [IntKind.min, IntKind.max, IntKind.bits, IntKind.signed] at hn
  rw [vc_law2_DyadCuts]
  refine cond_i (fun h => rfl) (fun h => ?_)
  have hl : m.length ≤ 4100 := by have := of_decide_eq_false h; omega
  clear h
  refine ⟨by omega, ?_⟩
  intro b1 h1 l2 h2 n3 h3
  rw [h1, h2, h3]
  clear h1 h2 h3
  cases hd : Dy.mayD ⟨s, m, e⟩ with
  | false =>
    refine peel (x := Dy.shiftD ⟨s, m, e⟩ n) (d0 := Dy.zeroD) (k0 := 2) (by unfold Dy.shiftD; rw [hd]; rfl) fun _ _ _ h1 => ?_
    rw [h1]
    refine peel (x := Dy.okIf _ _) (d0 := Dy.zeroD) (k0 := 2) (by unfold Dy.okIf; rfl) fun _ _ _ h2 => ?_
    rw [h2]
    refine peelc (x := Dy.cutD ⟨s, m, e⟩ b) (d0 := Dy.zeroD) (l0 := false) (k0 := 2) (by unfold Dy.cutD; rw [hd]; rfl) fun _ _ _ h3 => ?_
    rw [h3]
    exact cond_f (by rw [same_self]; rfl) (cond_t rfl (cond_t (by rw [same_self]; rfl) (cond_t (by rw [same_self]; rfl) (cond_t (by rw [same_self]; rfl) rfl))))
  | true =>
    have hx := Dy.mayD_exp hd
    obtain ⟨c0, l0, k0, hc, hcs⟩ := cut_says (b := b) hd
    have hfb := floor_bound hd
    have w1 : IntKind.i64.wrap ((-16777216 : Int) - e) = -16777216 - e := wrap_i64 (by omega) (by omega)
    have w2 : IntKind.i64.wrap ((16777216 : Int) - e) = 16777216 - e := wrap_i64 (by omega) (by omega)
    rw [w1, w2]
    -- what the shift answers
    have hs : ∃ d0 k1, Dy.shiftD ⟨s, m, e⟩ n = (d0, k1) ∧ ((m ≠ [] ∧ (n < -16777216 - e ∨ 16777216 - e < n) ∧ d0 = Dy.zeroD ∧ k1 = 20) ∨ ((m = [] ∨ (-16777216 - e ≤ n ∧ n ≤ 16777216 - e)) ∧ d0 = ⟨s, m, if m = [] then e else e + n⟩ ∧ k1 = 0)) := by
      unfold Dy.shiftD
      rw [if_pos hd]
      by_cases c : m = []
      · subst c
        obtain ⟨q1, q2⟩ := Dy.mayD_nil hd
        rw [if_pos rfl, q1, q2]
        exact ⟨_, _, rfl, .inr ⟨.inl rfl, rfl, rfl⟩⟩
      · rw [if_neg c]
        cases hi : Dy.inside (e + n) with
        | true =>
          have := Dy.inside_iff.1 hi
          exact ⟨_, _, rfl, .inr ⟨.inr ⟨by omega, by omega⟩, by rw [if_neg c], rfl⟩⟩
        | false =>
          refine ⟨_, _, rfl, .inl ⟨c, ?_, rfl, rfl⟩⟩
          by_cases c1 : n < -16777216 - e
          · exact .inl c1
          · refine .inr (Decidable.byContradiction fun c2 => ?_)
            rw [Dy.inside_iff.2 ⟨by omega, by omega⟩] at hi
            cases hi
    obtain ⟨s0, k1, hs1, hs2⟩ := hs
    refine peel hs1 fun _ _ _ h1 => ?_
    rw [h1]
    refine peel (x := Dy.okIf _ _) (d0 := Dy.floorD ⟨s, m, e⟩) (k0 := 0) (by unfold Dy.okIf; rfl) fun _ _ _ h2 => ?_
    rw [h2]
    refine peelc hc fun _ _ _ h3 => ?_
    rw [h3]
    refine cond_f (by rw [same_self]; rfl) (cond_f rfl ?_)
    have hlen : decide ((m.length : Int) > 0) = decide (m ≠ []) := by
      rw [decide_eq_decide]
      constructor
      · intro h c; subst c; simp at h
      · intro h; have : m.length ≠ 0 := fun e => h (List.length_eq_zero_iff.1 e); omega
    rw [hlen]
    rcases hs2 with ⟨hm0, hn2, rfl, rfl⟩ | ⟨hn2, rfl, rfl⟩
    · refine cond_t (decide_eq_true hm0) ?_
      rcases hn2 with c | c
      · refine cond_t (decide_eq_true c) (cond_f (by rw [same_self]; rfl) ⟨rfl, peel3 fun _ _ _ h4 => ?_⟩)
        rw [h4, hfb]
        exact cond_f (by rw [same_self]; rfl) (cuts_tail rfl rfl hcs (same_self _))
      · refine cond_f (decide_eq_false (by omega)) (cond_t (decide_eq_true c) (cond_f (by rw [same_self]; rfl) ⟨rfl, peel3 fun _ _ _ h4 => ?_⟩))
        rw [h4, hfb]
        exact cond_f (by rw [same_self]; rfl) (cuts_tail rfl rfl hcs (same_self _))
    · refine cond_i (fun h => ?_) (fun h => ?_)
      · have hm0 := of_decide_eq_true h
        have hn2 := hn2.resolve_left hm0
        refine cond_f (decide_eq_false (by omega)) (cond_f (decide_eq_false (by omega)) ⟨.inr ⟨by omega, by omega, by omega, by omega⟩, ?_⟩)
        rintro _ rfl _ rfl _ rfl
        refine cond_f (by rw [same_self]; rfl) (cond_f rfl ⟨rfl, peel3 fun _ _ _ h4 => ?_⟩)
        rw [h4, hfb]
        exact cond_f (by rw [same_self]; rfl) (cuts_tail rfl rfl hcs (same_self _))
      · have hm0 : m = [] := Decidable.byContradiction fun c => of_decide_eq_false h c
        refine ⟨.inl hm0, ?_⟩
        rintro _ rfl _ rfl _ rfl
        refine cond_f (by rw [same_self]; rfl) (cond_f rfl ⟨rfl, peel3 fun _ _ _ h4 => ?_⟩)
        rw [h4, hfb]
        exact cond_f (by rw [same_self]; rfl) (cuts_tail rfl rfl hcs (same_self _))
end Go.AI

namespace Go.AI
open Go Go.RowKit Go.Proofs
set_option linter.unusedVariables false
set_option maxRecDepth 100000
theorem far_both {s s' : Bool} {m m' : List Nat} {e e' : Int} (h : Dy.mayD ⟨s, m, e⟩ = true) (h' : Dy.mayD ⟨s', m', e'⟩ = true) (hf : Dy.farD ⟨s, m, e⟩ ⟨s', m', e'⟩ = true) :
    Dy.boundD (Dy.addD ⟨s, m, e⟩ ⟨s', m', e'⟩) = (Dy.zeroD, 3) := by
  unfold Dy.farD at hf
  obtain ⟨h1, h2, h3⟩ := of_decide_eq_true hf
  have h1 : m ≠ [] := h1
  have h2 : m' ≠ [] := h2
  have t1 : Dy.topD ⟨s, m, e⟩ = e + Dy.bl (Dy.val m) := by unfold Dy.topD; exact if_neg h1
  have t2 : Dy.topD ⟨s', m', e'⟩ = e' + Dy.bl (Dy.val m') := by unfold Dy.topD; exact if_neg h2
  rw [t1, t2] at h3
  simp only at h3
  rcases h3 with h3 | h3
  · exact Dy.far_long h h' h1 h2 (by omega)
  · rw [Dy.addD_comm]; exact Dy.far_long h' h h2 h1 (by omega)
theorem far_not {s s' : Bool} {m m' : List Nat} {e e' : Int} (h : Dy.mayD ⟨s, m, e⟩ = true) (h' : Dy.mayD ⟨s', m', e'⟩ = true) (hf : Dy.farD ⟨s, m, e⟩ ⟨s', m', e'⟩ = false) :
    m = [] ∨ m' = [] ∨ (-300000 ≤ e - e' ∧ e - e' ≤ 300000) := by
  by_cases h1 : m = []
  · exact .inl h1
  by_cases h2 : m' = []
  · exact .inr (.inl h2)
  unfold Dy.farD at hf
  have hf := of_decide_eq_false hf
  have t1 : Dy.topD ⟨s, m, e⟩ = e + Dy.bl (Dy.val m) := by unfold Dy.topD; exact if_neg h1
  have t2 : Dy.topD ⟨s', m', e'⟩ = e' + Dy.bl (Dy.val m') := by unfold Dy.topD; exact if_neg h2
  rw [t1, t2] at hf
  refine .inr (.inr ⟨?_, ?_⟩)
  · refine Decidable.byContradiction fun c => hf ⟨h1, h2, .inr ?_⟩
    show 131074 < e' + _ - e
    omega
  · refine Decidable.byContradiction fun c => hf ⟨h1, h2, .inl ?_⟩
    show 131074 < e + _ - e'
    omega
theorem farD_neg (a b : Dy.Dyd) : Dy.farD a (Dy.negD b) = Dy.farD a b := rfl
theorem peelb {x : Dy.Dyd × Int} {P : Bool → List Nat → Int → Int → Prop} (h : ∀ b l n, Dy.Dyd.mk b l n = x.1 → P b l n x.2) : ∀ b, b = x.1.neg → ∀ l, l = x.1.mag → ∀ n, n = x.1.exp → ∀ k, k = x.2 → P b l n k := by
  rintro _ rfl _ rfl _ rfl _ rfl
  exact h _ _ _ rfl
set_option maxHeartbeats 1000000 in
theorem ok_law_DyadSums (s : Bool) (m : List Nat) (e : Int) (s' : Bool) (m' : List Nat) (e' : Int) : Contract Tryd.prog Inv 9 [.agg [.bool s, .dig [1] m, .num .i64 e], .agg [.bool s', .dig [2] m', .num .i64 e']] (.bool true) := by
  refine contract0 false ok_tab23 Tryd.func9 (by kernel_rfl) (by kernel_rfl) fun hok => ?_
  obtain ⟨hm, he, hok2⟩ := oks_d hok
  obtain ⟨hm', he', -⟩ := oks_d hok2
  rw [vc_law2_DyadSums]
  refine cond_i (fun h => rfl) (fun h => ?_)
  have hl : m.length ≤ 4100 := by have := of_decide_eq_false h; omega
  clear h
  refine cond_i (fun h => rfl) (fun h => ?_)
  have hl' : m'.length ≤ 4100 := by have := of_decide_eq_false h; omega
  clear h
  refine cond_i (fun h => rfl) (fun h => ?_)
  clear h
  refine ⟨by omega, ?_⟩
  intro b1 h1 l2 h2 n3 h3
  refine ⟨by omega, ?_⟩
  intro b4 h4 l5 h5 n6 h6
  rw [h1, h2, h3, h4, h5, h6]
  clear h1 h2 h3 h4 h5 h6
  cases hd : Dy.mayD ⟨s, m, e⟩ with
  | false =>
    refine peel (x := Dy.okIf _ _) (d0 := Dy.zeroD) (k0 := 2) (by unfold Dy.okIf; rfl) fun _ _ _ h1 => ?_
    rw [h1]
    refine peel (x := Dy.okIf _ _) (d0 := Dy.zeroD) (k0 := 2) (by unfold Dy.okIf; rfl) fun _ _ _ h1 => ?_
    rw [h1]
    refine cond_t rfl (cond_f (by rw [same_self]; rfl) (cond_f (by rw [same_self]; rfl) (cond_f rfl (cond_f rfl ?_))))
    refine peel1 (k0 := 0) rfl (peel1 (k0 := 2) rfl ?_)
    refine peel (x := Dy.boundIf _ _) (d0 := Dy.zeroD) (k0 := 2) (by unfold Dy.boundIf; rfl) fun _ _ _ h1 => ?_
    rw [h1]
    refine peel (x := Dy.boundIf _ _) (d0 := Dy.zeroD) (k0 := 2) (by unfold Dy.boundIf; rfl) fun _ _ _ h1 => ?_
    rw [h1]
    refine peel (x := Dy.boundIf _ _) (d0 := Dy.zeroD) (k0 := 2) (by unfold Dy.boundIf; rfl) fun _ _ _ h1 => ?_
    rw [h1]
    exact cond_t rfl (cond_t rfl (cond_t rfl (cond_t (by rw [same_self]; rfl) (cond_t (by rw [same_self]; rfl) (cond_t (by rw [same_self]; rfl) rfl)))))
  | true =>
    have hx := Dy.mayD_exp hd
    have may1 := Dy.mayD_may hd
    have hneg : (if m = [] then s else !s) = (!s && decide (m ≠ [])) := by
      by_cases c : m = []
      · subst c
        rw [(Dy.mayD_nil hd).1]
        rfl
      · simp [c]
    refine peel (x := Dy.okIf _ _) (d0 := Dy.negD ⟨s, m, e⟩) (k0 := 0) (by unfold Dy.okIf; rfl) fun _ _ _ h1 => ?_
    rw [h1]
    refine peel (x := Dy.okIf _ _) (d0 := Dy.absD ⟨s, m, e⟩) (k0 := 0) (by unfold Dy.okIf; rfl) fun _ _ _ h1 => ?_
    rw [h1]
    refine cond_f rfl ?_
    intro b38 q1 l39 q2 n40 q3
    have q4 : Dy.Dyd.mk b38 l39 n40 = Dy.negD ⟨s, m, e⟩ := by rw [q1, q2, q3, hneg]; rfl
    rw [q4]
    refine cond_f (by rw [same_self]; rfl) (cond_f rfl ?_)
    intro b41 q1 l42 q2 n43 q3
    have q4 : Dy.Dyd.mk b41 l42 n43 = Dy.absD ⟨s, m, e⟩ := by rw [q1, q2, q3]; rfl
    rw [q4]
    refine cond_f (by rw [same_self]; rfl) (cond_f rfl (cond_f (by simp) ⟨⟨may_dg may1, by omega, by omega, by omega⟩, cond_f (by simp) ?_⟩))
    cases hd' : Dy.mayD ⟨s', m', e'⟩ with
    | false =>
      refine peel1 (k0 := 0) rfl (peel1 (k0 := 2) rfl ?_)
      refine peel (x := Dy.boundIf _ _) (d0 := Dy.zeroD) (k0 := 2) (by unfold Dy.boundIf; rfl) fun _ _ _ h1 => ?_
      rw [h1]
      refine peel (x := Dy.boundIf _ _) (d0 := Dy.zeroD) (k0 := 2) (by unfold Dy.boundIf; rfl) fun _ _ _ h1 => ?_
      rw [h1]
      refine peel (x := Dy.boundIf _ _) (d0 := Dy.zeroD) (k0 := 2) (by unfold Dy.boundIf; rfl) fun _ _ _ h1 => ?_
      rw [h1]
      exact cond_f rfl (cond_t rfl (cond_t rfl (cond_t rfl (cond_t (by rw [same_self]; rfl) (cond_t (by rw [same_self]; rfl) (cond_t (by rw [same_self]; rfl) rfl))))))
    | true =>
      refine peel1 (k0 := Dy.cmpD ⟨s, m, e⟩ ⟨s', m', e'⟩) rfl (peel1 (k0 := 0) rfl ?_)
      refine peelb (x := Dy.boundIf _ _) fun _ _ _ h1 => ?_
      rw [h1]
      refine peelb (x := Dy.boundIf _ _) fun _ _ _ h2 => ?_
      rw [h2]
      refine peelb (x := Dy.boundIf _ _) fun _ _ _ h3 => ?_
      rw [h3]
      have hb : ∀ x, Dy.boundIf (true && true) x = Dy.boundD x := fun x => rfl
      rw [hb, hb, hb]
      refine cond_f rfl (cond_f rfl ⟨⟨rfl, rfl⟩, cond_f (by simp) (cond_f rfl ⟨⟨rfl, rfl⟩, peel3 fun _ _ _ h4 => ?_⟩)⟩)
      rw [h4]
      refine cond_f (by rw [same_self]; simp) ⟨⟨rfl, rfl⟩, ?_⟩
      have hdn : Dy.mayD (Dy.negD ⟨s', m', e'⟩) = true := mayD_neg hd'
      refine cond_i (fun h => ?_) (fun h => ?_)
      · rw [far_both hd hd' h]
        have h' : Dy.farD ⟨s, m, e⟩ (Dy.negD ⟨s', m', e'⟩) = true := by rw [farD_neg]; exact h
        have : Dy.boundD (Dy.addD ⟨s, m, e⟩ (Dy.negD ⟨s', m', e'⟩)) = (Dy.zeroD, 3) := far_both hd hdn h'
        rw [this]
        exact cond_t (by rw [same_self]; rfl) (cond_t (by rw [same_self]; rfl) rfl)
      · have hg := far_not hd hd' h
        refine ⟨⟨rfl, rfl, hg⟩, peel3 fun _ _ _ h5 => ?_⟩
        rw [h5]
        refine cond_t (by rw [same_self]; simp) ⟨⟨rfl, rfl, hg⟩, peel3 fun _ _ _ h6 => ?_⟩
        rw [h6]
        exact cond_t (by rw [same_self]; simp) (cond_t (same_self _) (cond_t (same_self _) rfl))
end Go.AI
