/- My texts AVlaw4, AIlaw8, in one. -/
import Derived.Test.YtnhbdcnnanfacaaDoorK9
import Derived.Test.YtnhbdcnnanfacaaDoorK7
namespace Go.AI
open Go Go.RowKit Go.Proofs
set_option linter.unusedVariables false
set_option maxRecDepth 100000
set_option maxHeartbeats 0
theorem vc_law2_DyadQuotients_t (s' : Bool) (m : List
  Nat) (m' : List
  Nat) (e : Int) (e' : Int) (k : Int) (Q : AV →
  Prop) : (evF Tryd.prog (look tabF) (lam []) false Tryd.f10
  [AV.agg [AV.bool true, AV.dig [(1 : Nat)] m, AV.num IntKind.i64 e],
  AV.agg [AV.bool s', AV.dig [(2 : Nat)] m', AV.num IntKind.i64 e'], AV.num IntKind.i64 k]
  Q) =
  (bif decide ((↑m.length : Int) > (40 : Int)) then Q (AV.bool true)
 else
  bif decide ((↑m'.length : Int) > (40 : Int)) then Q (AV.bool true)
  else
  bif decide (k > (1500 : Int)) then
  bif decide (k ≤ (8192 : Int)) then Q (AV.bool true)
  else
  m.length ≤ (1048576 : Nat) ∧
  ∀ (b1 : Bool),
  b1 = true →
  ∀ (l2 : List Nat),
  l2 = m →
  ∀ (n3 : Int),
  n3 = e →
  m'.length ≤ (1048576 : Nat) ∧
  ∀ (b4 : Bool),
  b4 = s' →
  ∀ (l5 : List Nat),
  l5 = m' →
  ∀ (n6 : Int),
  n6 = e' →
  (l2.length ≤ (1000 : Nat) ∧ l5.length ≤ (1000 : Nat)) ∧
  ∀ (b7 : Bool),
  b7 = (Dy.quoD (Dy.Dyd.mk b1 l2 n3) (Dy.Dyd.mk b4 l5 n6) k).num.neg →
  ∀ (l8 : List Nat),
  l8 = (Dy.quoD (Dy.Dyd.mk b1 l2 n3) (Dy.Dyd.mk b4 l5 n6) k).num.mag →
  ∀ (n9 : Int),
  n9 = (Dy.quoD (Dy.Dyd.mk b1 l2 n3) (Dy.Dyd.mk b4 l5 n6) k).num.exp →
  ∀ (b10 : Bool),
  b10 = (Dy.quoD (Dy.Dyd.mk b1 l2 n3) (Dy.Dyd.mk b4 l5 n6) k).lost →
  ∀ (n11 : Int),
  n11 =
  (Dy.quoD (Dy.Dyd.mk b1 l2 n3) (Dy.Dyd.mk b4 l5 n6) k).err →
  ∀ (b12 : Bool),
  b12 = (Dy.rootD (Dy.Dyd.mk b1 l2 n3) k).num.neg →
  ∀ (l13 : List Nat),
  l13 = (Dy.rootD (Dy.Dyd.mk b1 l2 n3) k).num.mag →
  ∀ (n14 : Int),
  n14 = (Dy.rootD (Dy.Dyd.mk b1 l2 n3) k).num.exp →
  ∀ (b15 : Bool),
  b15 = (Dy.rootD (Dy.Dyd.mk b1 l2 n3) k).lost →
  ∀ (n16 : Int),
  n16 =
  (Dy.rootD (Dy.Dyd.mk b1 l2 n3) k).err →
  bif !Dy.mayD (Dy.Dyd.mk true m e) then
  bif
  Dy.sameD (Dy.Dyd.mk b7 l8 n9)
  Dy.zeroD &&
  (!b10 &&
  decide (n11 = (2 : Int))) then
  bif
  Dy.sameD (Dy.Dyd.mk b12 l13 n14)
  Dy.zeroD &&
  (!b15 &&
  decide (n16 = (2 : Int))) then
  Q (AV.bool true)
  else Q (AV.bool false)
  else Q (AV.bool false)
  else
  bif decide (k < (1 : Int)) then
  bif
  Dy.sameD (Dy.Dyd.mk b7 l8 n9)
  Dy.zeroD &&
  (!b10 &&
  decide (n11 = (2 : Int))) then
  bif
  Dy.sameD (Dy.Dyd.mk b12 l13 n14)
  Dy.zeroD &&
  (!b15 &&
  decide
  (n16 = (2 : Int))) then
  Q (AV.bool true)
  else Q (AV.bool false)
  else Q (AV.bool false)
  else
  bif decide (k > (8192 : Int)) then
  bif
  !(Dy.sameD
  (Dy.Dyd.mk b12 l13 n14)
  Dy.zeroD &&
  (!b15 &&
  decide
  (n16 = (3 : Int)))) then
  Q (AV.bool false)
  else
  bif
  !Dy.mayD
  (Dy.Dyd.mk s' m' e') then
  bif
  Dy.sameD
  (Dy.Dyd.mk b7 l8 n9)
  Dy.zeroD &&
  (!b10 &&
  decide
  (n11 =
  (2 : Int))) then
  Q (AV.bool true)
  else Q (AV.bool false)
  else
  bif
  decide
  (k > (8192 : Int)) then
  bif
  Dy.sameD
  (Dy.Dyd.mk b7 l8 n9)
  Dy.zeroD &&
  (!b10 &&
  decide
  (n11 =
  (3 : Int))) then
  Q (AV.bool true)
  else Q (AV.bool false)
  else
  bif
  decide
  ((↑m'.length : Int) =
  (0 : Int)) then
  bif
  Dy.sameD
  (Dy.Dyd.mk b7 l8 n9)
  Dy.zeroD &&
  (!b10 &&
  decide
  (n11 =
  (11 :
  Int))) then
  Q (AV.bool true)
  else Q (AV.bool false)
  else
  (Dy.mayD
  (Dy.Dyd.mk true m
  e) =
  true ∧
  Dy.mayD
  (Dy.Dyd.mk s' m'
  e') =
  true ∧
  m' ≠ [] ∧
  (1 : Int) ≤ k ∧
  k ≤ (8192 : Int) ∧
  m.length ≤
  (1000 :
  Nat) ∧
  m'.length ≤
  (1000 :
  Nat)) ∧
  ∀ (b17 : Bool),
  b17 =
  (Dy.quoF
  (Dy.Dyd.mk
  true m e)
  (Dy.Dyd.mk s'
  m' e')
  k).1.neg →
  ∀ (l18 : List Nat),
  l18 =
  (Dy.quoF
  (Dy.Dyd.mk
  true m
  e)
  (Dy.Dyd.mk
  s' m'
  e')
  k).1.mag →
  ∀ (n19 : Int),
  n19 =
  (Dy.quoF
  (Dy.Dyd.mk
  true
  m e)
  (Dy.Dyd.mk
  s'
  m'
  e')
  k).1.exp →
  ∀
  (b20 :
  Bool),
  b20 =
  (Dy.quoF
  (Dy.Dyd.mk
  true
  m
  e)
  (Dy.Dyd.mk
  s'
  m'
  e')
  k).snd →
  bif
  decide
  (n19 <
  (-16777216 :
  Int)) then
  bif
  Dy.sameD
  (Dy.Dyd.mk
  b7
  l8
  n9)
  Dy.zeroD &&
  (!b10 &&
  decide
  (n11 =
  (20 :
  Int))) then
  Q
  (AV.bool
  true)
  else
  Q
  (AV.bool
  false)
  else
  bif
  decide
  (n19 >
  (16777216 :
  Int)) then
  bif
  Dy.sameD
  (Dy.Dyd.mk
  b7
  l8
  n9)
  Dy.zeroD &&
  (!b10 &&
  decide
  (n11 =
  (20 :
  Int))) then
  Q
  (AV.bool
  true)
  else
  Q
  (AV.bool
  false)
  else
  bif
  Dy.sameD
  (Dy.Dyd.mk
  b7
  l8
  n9)
  (Dy.Dyd.mk
  b17
  l18
  n19) then
  bif
  decide
  (b10 =
  b20) then
  bif
  decide
  (n11 =
  (0 :
  Int)) then
  bif
  Dy.sameD
  (Dy.Dyd.mk
  b1
  l2
  n3)
  (Dy.Dyd.mk
  true
  m
  e) then
  bif
  Dy.sameD
  (Dy.Dyd.mk
  b4
  l5
  n6)
  (Dy.Dyd.mk
  s'
  m'
  e') then
  Q
  (AV.bool
  true)
  else
  Q
  (AV.bool
  false)
  else
  Q
  (AV.bool
  false)
  else
  Q
  (AV.bool
  false)
  else
  Q
  (AV.bool
  false)
  else
  Q
  (AV.bool
  false)
  else
  bif
  !(Dy.sameD
  (Dy.Dyd.mk b12 l13 n14)
  Dy.zeroD &&
  (!b15 &&
  decide
  (n16 =
  (10 : Int)))) then
  Q (AV.bool false)
  else
  bif
  !Dy.mayD
  (Dy.Dyd.mk s' m' e') then
  bif
  Dy.sameD
  (Dy.Dyd.mk b7 l8 n9)
  Dy.zeroD &&
  (!b10 &&
  decide
  (n11 =
  (2 : Int))) then
  Q (AV.bool true)
  else Q (AV.bool false)
  else
  bif
  decide
  (k > (8192 : Int)) then
  bif
  Dy.sameD
  (Dy.Dyd.mk b7 l8 n9)
  Dy.zeroD &&
  (!b10 &&
  decide
  (n11 =
  (3 : Int))) then
  Q (AV.bool true)
  else Q (AV.bool false)
  else
  bif
  decide
  ((↑m'.length : Int) =
  (0 : Int)) then
  bif
  Dy.sameD
  (Dy.Dyd.mk b7 l8 n9)
  Dy.zeroD &&
  (!b10 &&
  decide
  (n11 =
  (11 :
  Int))) then
  Q (AV.bool true)
  else Q (AV.bool false)
  else
  (Dy.mayD
  (Dy.Dyd.mk true m
  e) =
  true ∧
  Dy.mayD
  (Dy.Dyd.mk s' m'
  e') =
  true ∧
  m' ≠ [] ∧
  (1 : Int) ≤ k ∧
  k ≤ (8192 : Int) ∧
  m.length ≤
  (1000 :
  Nat) ∧
  m'.length ≤
  (1000 :
  Nat)) ∧
  ∀ (b21 : Bool),
  b21 =
  (Dy.quoF
  (Dy.Dyd.mk
  true m e)
  (Dy.Dyd.mk s'
  m' e')
  k).1.neg →
  ∀ (l22 : List Nat),
  l22 =
  (Dy.quoF
  (Dy.Dyd.mk
  true m
  e)
  (Dy.Dyd.mk
  s' m'
  e')
  k).1.mag →
  ∀ (n23 : Int),
  n23 =
  (Dy.quoF
  (Dy.Dyd.mk
  true
  m e)
  (Dy.Dyd.mk
  s'
  m'
  e')
  k).1.exp →
  ∀
  (b24 :
  Bool),
  b24 =
  (Dy.quoF
  (Dy.Dyd.mk
  true
  m
  e)
  (Dy.Dyd.mk
  s'
  m'
  e')
  k).snd →
  bif
  decide
  (n23 <
  (-16777216 :
  Int)) then
  bif
  Dy.sameD
  (Dy.Dyd.mk
  b7
  l8
  n9)
  Dy.zeroD &&
  (!b10 &&
  decide
  (n11 =
  (20 :
  Int))) then
  Q
  (AV.bool
  true)
  else
  Q
  (AV.bool
  false)
  else
  bif
  decide
  (n23 >
  (16777216 :
  Int)) then
  bif
  Dy.sameD
  (Dy.Dyd.mk
  b7
  l8
  n9)
  Dy.zeroD &&
  (!b10 &&
  decide
  (n11 =
  (20 :
  Int))) then
  Q
  (AV.bool
  true)
  else
  Q
  (AV.bool
  false)
  else
  bif
  Dy.sameD
  (Dy.Dyd.mk
  b7
  l8
  n9)
  (Dy.Dyd.mk
  b21
  l22
  n23) then
  bif
  decide
  (b10 =
  b24) then
  bif
  decide
  (n11 =
  (0 :
  Int)) then
  bif
  Dy.sameD
  (Dy.Dyd.mk
  b1
  l2
  n3)
  (Dy.Dyd.mk
  true
  m
  e) then
  bif
  Dy.sameD
  (Dy.Dyd.mk
  b4
  l5
  n6)
  (Dy.Dyd.mk
  s'
  m'
  e') then
  Q
  (AV.bool
  true)
  else
  Q
  (AV.bool
  false)
  else
  Q
  (AV.bool
  false)
  else
  Q
  (AV.bool
  false)
  else
  Q
  (AV.bool
  false)
  else
  Q
  (AV.bool
  false)
  else
  m.length ≤ (1048576 : Nat) ∧
  ∀ (b25 : Bool),
  b25 = true →
  ∀ (l26 : List Nat),
  l26 = m →
  ∀ (n27 : Int),
  n27 = e →
  m'.length ≤ (1048576 : Nat) ∧
  ∀ (b28 : Bool),
  b28 = s' →
  ∀ (l29 : List Nat),
  l29 = m' →
  ∀ (n30 : Int),
  n30 = e' →
  (l26.length ≤ (1000 : Nat) ∧ l29.length ≤ (1000 : Nat)) ∧
  ∀ (b31 : Bool),
  b31 = (Dy.quoD (Dy.Dyd.mk b25 l26 n27) (Dy.Dyd.mk b28 l29 n30) k).num.neg →
  ∀ (l32 : List Nat),
  l32 = (Dy.quoD (Dy.Dyd.mk b25 l26 n27) (Dy.Dyd.mk b28 l29 n30) k).num.mag →
  ∀ (n33 : Int),
  n33 =
  (Dy.quoD (Dy.Dyd.mk b25 l26 n27) (Dy.Dyd.mk b28 l29 n30) k).num.exp →
  ∀ (b34 : Bool),
  b34 =
  (Dy.quoD (Dy.Dyd.mk b25 l26 n27) (Dy.Dyd.mk b28 l29 n30) k).lost →
  ∀ (n35 : Int),
  n35 =
  (Dy.quoD (Dy.Dyd.mk b25 l26 n27) (Dy.Dyd.mk b28 l29 n30)
  k).err →
  ∀ (b36 : Bool),
  b36 = (Dy.rootD (Dy.Dyd.mk b25 l26 n27) k).num.neg →
  ∀ (l37 : List Nat),
  l37 = (Dy.rootD (Dy.Dyd.mk b25 l26 n27) k).num.mag →
  ∀ (n38 : Int),
  n38 = (Dy.rootD (Dy.Dyd.mk b25 l26 n27) k).num.exp →
  ∀ (b39 : Bool),
  b39 = (Dy.rootD (Dy.Dyd.mk b25 l26 n27) k).lost →
  ∀ (n40 : Int),
  n40 =
  (Dy.rootD (Dy.Dyd.mk b25 l26 n27) k).err →
  bif !Dy.mayD (Dy.Dyd.mk true m e) then
  bif
  Dy.sameD (Dy.Dyd.mk b31 l32 n33)
  Dy.zeroD &&
  (!b34 &&
  decide (n35 = (2 : Int))) then
  bif
  Dy.sameD (Dy.Dyd.mk b36 l37 n38)
  Dy.zeroD &&
  (!b39 &&
  decide (n40 = (2 : Int))) then
  Q (AV.bool true)
  else Q (AV.bool false)
  else Q (AV.bool false)
  else
  bif decide (k < (1 : Int)) then
  bif
  Dy.sameD (Dy.Dyd.mk b31 l32 n33)
  Dy.zeroD &&
  (!b34 &&
  decide (n35 = (2 : Int))) then
  bif
  Dy.sameD (Dy.Dyd.mk b36 l37 n38)
  Dy.zeroD &&
  (!b39 &&
  decide (n40 = (2 : Int))) then
  Q (AV.bool true)
  else Q (AV.bool false)
  else Q (AV.bool false)
  else
  bif decide (k > (8192 : Int)) then
  bif
  !(Dy.sameD (Dy.Dyd.mk b36 l37 n38)
  Dy.zeroD &&
  (!b39 &&
  decide
  (n40 = (3 : Int)))) then
  Q (AV.bool false)
  else
  bif
  !Dy.mayD
  (Dy.Dyd.mk s' m' e') then
  bif
  Dy.sameD
  (Dy.Dyd.mk b31 l32 n33)
  Dy.zeroD &&
  (!b34 &&
  decide
  (n35 = (2 : Int))) then
  Q (AV.bool true)
  else Q (AV.bool false)
  else
  bif decide (k > (8192 : Int)) then
  bif
  Dy.sameD
  (Dy.Dyd.mk b31 l32 n33)
  Dy.zeroD &&
  (!b34 &&
  decide
  (n35 =
  (3 : Int))) then
  Q (AV.bool true)
  else Q (AV.bool false)
  else
  bif
  decide
  ((↑m'.length : Int) =
  (0 : Int)) then
  bif
  Dy.sameD
  (Dy.Dyd.mk b31 l32
  n33)
  Dy.zeroD &&
  (!b34 &&
  decide
  (n35 =
  (11 : Int))) then
  Q (AV.bool true)
  else Q (AV.bool false)
  else
  (Dy.mayD
  (Dy.Dyd.mk true m e) =
  true ∧
  Dy.mayD
  (Dy.Dyd.mk s' m'
  e') =
  true ∧
  m' ≠ [] ∧
  (1 : Int) ≤ k ∧
  k ≤ (8192 : Int) ∧
  m.length ≤
  (1000 : Nat) ∧
  m'.length ≤
  (1000 :
  Nat)) ∧
  ∀ (b41 : Bool),
  b41 =
  (Dy.quoF
  (Dy.Dyd.mk true
  m e)
  (Dy.Dyd.mk s' m'
  e')
  k).1.neg →
  ∀ (l42 : List Nat),
  l42 =
  (Dy.quoF
  (Dy.Dyd.mk
  true m e)
  (Dy.Dyd.mk
  s' m' e')
  k).1.mag →
  ∀ (n43 : Int),
  n43 =
  (Dy.quoF
  (Dy.Dyd.mk
  true m
  e)
  (Dy.Dyd.mk
  s' m'
  e')
  k).1.exp →
  ∀ (b44 : Bool),
  b44 =
  (Dy.quoF
  (Dy.Dyd.mk
  true
  m e)
  (Dy.Dyd.mk
  s'
  m'
  e')
  k).snd →
  bif
  decide
  (n43 <
  (-16777216 :
  Int)) then
  bif
  Dy.sameD
  (Dy.Dyd.mk
  b31
  l32
  n33)
  Dy.zeroD &&
  (!b34 &&
  decide
  (n35 =
  (20 :
  Int))) then
  Q
  (AV.bool
  true)
  else
  Q
  (AV.bool
  false)
  else
  bif
  decide
  (n43 >
  (16777216 :
  Int)) then
  bif
  Dy.sameD
  (Dy.Dyd.mk
  b31
  l32
  n33)
  Dy.zeroD &&
  (!b34 &&
  decide
  (n35 =
  (20 :
  Int))) then
  Q
  (AV.bool
  true)
  else
  Q
  (AV.bool
  false)
  else
  bif
  Dy.sameD
  (Dy.Dyd.mk
  b31
  l32
  n33)
  (Dy.Dyd.mk
  b41
  l42
  n43) then
  bif
  decide
  (b34 =
  b44) then
  bif
  decide
  (n35 =
  (0 :
  Int)) then
  bif
  Dy.sameD
  (Dy.Dyd.mk
  b25
  l26
  n27)
  (Dy.Dyd.mk
  true
  m
  e) then
  bif
  Dy.sameD
  (Dy.Dyd.mk
  b28
  l29
  n30)
  (Dy.Dyd.mk
  s'
  m'
  e') then
  Q
  (AV.bool
  true)
  else
  Q
  (AV.bool
  false)
  else
  Q
  (AV.bool
  false)
  else
  Q
  (AV.bool
  false)
  else
  Q
  (AV.bool
  false)
  else
  Q
  (AV.bool
  false)
  else
  bif
  !(Dy.sameD (Dy.Dyd.mk b36 l37 n38)
  Dy.zeroD &&
  (!b39 &&
  decide
  (n40 = (10 : Int)))) then
  Q (AV.bool false)
  else
  bif
  !Dy.mayD
  (Dy.Dyd.mk s' m' e') then
  bif
  Dy.sameD
  (Dy.Dyd.mk b31 l32 n33)
  Dy.zeroD &&
  (!b34 &&
  decide
  (n35 = (2 : Int))) then
  Q (AV.bool true)
  else Q (AV.bool false)
  else
  bif decide (k > (8192 : Int)) then
  bif
  Dy.sameD
  (Dy.Dyd.mk b31 l32 n33)
  Dy.zeroD &&
  (!b34 &&
  decide
  (n35 =
  (3 : Int))) then
  Q (AV.bool true)
  else Q (AV.bool false)
  else
  bif
  decide
  ((↑m'.length : Int) =
  (0 : Int)) then
  bif
  Dy.sameD
  (Dy.Dyd.mk b31 l32
  n33)
  Dy.zeroD &&
  (!b34 &&
  decide
  (n35 =
  (11 : Int))) then
  Q (AV.bool true)
  else Q (AV.bool false)
  else
  (Dy.mayD
  (Dy.Dyd.mk true m e) =
  true ∧
  Dy.mayD
  (Dy.Dyd.mk s' m'
  e') =
  true ∧
  m' ≠ [] ∧
  (1 : Int) ≤ k ∧
  k ≤ (8192 : Int) ∧
  m.length ≤
  (1000 : Nat) ∧
  m'.length ≤
  (1000 :
  Nat)) ∧
  ∀ (b45 : Bool),
  b45 =
  (Dy.quoF
  (Dy.Dyd.mk true
  m e)
  (Dy.Dyd.mk s' m'
  e')
  k).1.neg →
  ∀ (l46 : List Nat),
  l46 =
  (Dy.quoF
  (Dy.Dyd.mk
  true m e)
  (Dy.Dyd.mk
  s' m' e')
  k).1.mag →
  ∀ (n47 : Int),
  n47 =
  (Dy.quoF
  (Dy.Dyd.mk
  true m
  e)
  (Dy.Dyd.mk
  s' m'
  e')
  k).1.exp →
  ∀ (b48 : Bool),
  b48 =
  (Dy.quoF
  (Dy.Dyd.mk
  true
  m e)
  (Dy.Dyd.mk
  s'
  m'
  e')
  k).snd →
  bif
  decide
  (n47 <
  (-16777216 :
  Int)) then
  bif
  Dy.sameD
  (Dy.Dyd.mk
  b31
  l32
  n33)
  Dy.zeroD &&
  (!b34 &&
  decide
  (n35 =
  (20 :
  Int))) then
  Q
  (AV.bool
  true)
  else
  Q
  (AV.bool
  false)
  else
  bif
  decide
  (n47 >
  (16777216 :
  Int)) then
  bif
  Dy.sameD
  (Dy.Dyd.mk
  b31
  l32
  n33)
  Dy.zeroD &&
  (!b34 &&
  decide
  (n35 =
  (20 :
  Int))) then
  Q
  (AV.bool
  true)
  else
  Q
  (AV.bool
  false)
  else
  bif
  Dy.sameD
  (Dy.Dyd.mk
  b31
  l32
  n33)
  (Dy.Dyd.mk
  b45
  l46
  n47) then
  bif
  decide
  (b34 =
  b48) then
  bif
  decide
  (n35 =
  (0 :
  Int)) then
  bif
  Dy.sameD
  (Dy.Dyd.mk
  b25
  l26
  n27)
  (Dy.Dyd.mk
  true
  m
  e) then
  bif
  Dy.sameD
  (Dy.Dyd.mk
  b28
  l29
  n30)
  (Dy.Dyd.mk
  s'
  m'
  e') then
  Q
  (AV.bool
  true)
  else
  Q
  (AV.bool
  false)
  else
  Q
  (AV.bool
  false)
  else
  Q
  (AV.bool
  false)
  else
  Q
  (AV.bool
  false)
  else
  Q
  (AV.bool
  false)) := by kernel_rfl
theorem vc_law2_DyadQuotients_f (s' : Bool) (m : List
  Nat) (m' : List
  Nat) (e : Int) (e' : Int) (k : Int) (Q : AV →
  Prop) : (evF Tryd.prog (look tabF) (lam []) false Tryd.f10
  [AV.agg [AV.bool false, AV.dig [(1 : Nat)] m, AV.num IntKind.i64 e],
  AV.agg [AV.bool s', AV.dig [(2 : Nat)] m', AV.num IntKind.i64 e'], AV.num IntKind.i64 k]
  Q) =
  (bif decide ((↑m.length : Int) > (40 : Int)) then Q (AV.bool true)
 else
  bif decide ((↑m'.length : Int) > (40 : Int)) then Q (AV.bool true)
  else
  bif decide (k > (1500 : Int)) then
  bif decide (k ≤ (8192 : Int)) then Q (AV.bool true)
  else
  m.length ≤ (1048576 : Nat) ∧
  ∀ (b1 : Bool),
  b1 = false →
  ∀ (l2 : List Nat),
  l2 = m →
  ∀ (n3 : Int),
  n3 = e →
  m'.length ≤ (1048576 : Nat) ∧
  ∀ (b4 : Bool),
  b4 = s' →
  ∀ (l5 : List Nat),
  l5 = m' →
  ∀ (n6 : Int),
  n6 = e' →
  (l2.length ≤ (1000 : Nat) ∧ l5.length ≤ (1000 : Nat)) ∧
  ∀ (b7 : Bool),
  b7 = (Dy.quoD (Dy.Dyd.mk b1 l2 n3) (Dy.Dyd.mk b4 l5 n6) k).num.neg →
  ∀ (l8 : List Nat),
  l8 = (Dy.quoD (Dy.Dyd.mk b1 l2 n3) (Dy.Dyd.mk b4 l5 n6) k).num.mag →
  ∀ (n9 : Int),
  n9 = (Dy.quoD (Dy.Dyd.mk b1 l2 n3) (Dy.Dyd.mk b4 l5 n6) k).num.exp →
  ∀ (b10 : Bool),
  b10 = (Dy.quoD (Dy.Dyd.mk b1 l2 n3) (Dy.Dyd.mk b4 l5 n6) k).lost →
  ∀ (n11 : Int),
  n11 =
  (Dy.quoD (Dy.Dyd.mk b1 l2 n3) (Dy.Dyd.mk b4 l5 n6) k).err →
  ∀ (b12 : Bool),
  b12 = (Dy.rootD (Dy.Dyd.mk b1 l2 n3) k).num.neg →
  ∀ (l13 : List Nat),
  l13 = (Dy.rootD (Dy.Dyd.mk b1 l2 n3) k).num.mag →
  ∀ (n14 : Int),
  n14 = (Dy.rootD (Dy.Dyd.mk b1 l2 n3) k).num.exp →
  ∀ (b15 : Bool),
  b15 = (Dy.rootD (Dy.Dyd.mk b1 l2 n3) k).lost →
  ∀ (n16 : Int),
  n16 =
  (Dy.rootD (Dy.Dyd.mk b1 l2 n3) k).err →
  bif !Dy.mayD (Dy.Dyd.mk false m e) then
  bif
  Dy.sameD (Dy.Dyd.mk b7 l8 n9)
  Dy.zeroD &&
  (!b10 &&
  decide (n11 = (2 : Int))) then
  bif
  Dy.sameD (Dy.Dyd.mk b12 l13 n14)
  Dy.zeroD &&
  (!b15 &&
  decide (n16 = (2 : Int))) then
  Q (AV.bool true)
  else Q (AV.bool false)
  else Q (AV.bool false)
  else
  bif decide (k < (1 : Int)) then
  bif
  Dy.sameD (Dy.Dyd.mk b7 l8 n9)
  Dy.zeroD &&
  (!b10 &&
  decide (n11 = (2 : Int))) then
  bif
  Dy.sameD (Dy.Dyd.mk b12 l13 n14)
  Dy.zeroD &&
  (!b15 &&
  decide
  (n16 = (2 : Int))) then
  Q (AV.bool true)
  else Q (AV.bool false)
  else Q (AV.bool false)
  else
  bif decide (k > (8192 : Int)) then
  bif
  !(Dy.sameD
  (Dy.Dyd.mk b12 l13 n14)
  Dy.zeroD &&
  (!b15 &&
  decide
  (n16 = (3 : Int)))) then
  Q (AV.bool false)
  else
  bif
  !Dy.mayD
  (Dy.Dyd.mk s' m' e') then
  bif
  Dy.sameD
  (Dy.Dyd.mk b7 l8 n9)
  Dy.zeroD &&
  (!b10 &&
  decide
  (n11 =
  (2 : Int))) then
  Q (AV.bool true)
  else Q (AV.bool false)
  else
  bif
  decide
  (k > (8192 : Int)) then
  bif
  Dy.sameD
  (Dy.Dyd.mk b7 l8 n9)
  Dy.zeroD &&
  (!b10 &&
  decide
  (n11 =
  (3 : Int))) then
  Q (AV.bool true)
  else Q (AV.bool false)
  else
  bif
  decide
  ((↑m'.length : Int) =
  (0 : Int)) then
  bif
  Dy.sameD
  (Dy.Dyd.mk b7 l8 n9)
  Dy.zeroD &&
  (!b10 &&
  decide
  (n11 =
  (11 :
  Int))) then
  Q (AV.bool true)
  else Q (AV.bool false)
  else
  (Dy.mayD
  (Dy.Dyd.mk false m
  e) =
  true ∧
  Dy.mayD
  (Dy.Dyd.mk s' m'
  e') =
  true ∧
  m' ≠ [] ∧
  (1 : Int) ≤ k ∧
  k ≤ (8192 : Int) ∧
  m.length ≤
  (1000 :
  Nat) ∧
  m'.length ≤
  (1000 :
  Nat)) ∧
  ∀ (b17 : Bool),
  b17 =
  (Dy.quoF
  (Dy.Dyd.mk
  false m e)
  (Dy.Dyd.mk s'
  m' e')
  k).1.neg →
  ∀ (l18 : List Nat),
  l18 =
  (Dy.quoF
  (Dy.Dyd.mk
  false m
  e)
  (Dy.Dyd.mk
  s' m'
  e')
  k).1.mag →
  ∀ (n19 : Int),
  n19 =
  (Dy.quoF
  (Dy.Dyd.mk
  false
  m e)
  (Dy.Dyd.mk
  s'
  m'
  e')
  k).1.exp →
  ∀
  (b20 :
  Bool),
  b20 =
  (Dy.quoF
  (Dy.Dyd.mk
  false
  m
  e)
  (Dy.Dyd.mk
  s'
  m'
  e')
  k).snd →
  bif
  decide
  (n19 <
  (-16777216 :
  Int)) then
  bif
  Dy.sameD
  (Dy.Dyd.mk
  b7
  l8
  n9)
  Dy.zeroD &&
  (!b10 &&
  decide
  (n11 =
  (20 :
  Int))) then
  Q
  (AV.bool
  true)
  else
  Q
  (AV.bool
  false)
  else
  bif
  decide
  (n19 >
  (16777216 :
  Int)) then
  bif
  Dy.sameD
  (Dy.Dyd.mk
  b7
  l8
  n9)
  Dy.zeroD &&
  (!b10 &&
  decide
  (n11 =
  (20 :
  Int))) then
  Q
  (AV.bool
  true)
  else
  Q
  (AV.bool
  false)
  else
  bif
  Dy.sameD
  (Dy.Dyd.mk
  b7
  l8
  n9)
  (Dy.Dyd.mk
  b17
  l18
  n19) then
  bif
  decide
  (b10 =
  b20) then
  bif
  decide
  (n11 =
  (0 :
  Int)) then
  bif
  Dy.sameD
  (Dy.Dyd.mk
  b1
  l2
  n3)
  (Dy.Dyd.mk
  false
  m
  e) then
  bif
  Dy.sameD
  (Dy.Dyd.mk
  b4
  l5
  n6)
  (Dy.Dyd.mk
  s'
  m'
  e') then
  Q
  (AV.bool
  true)
  else
  Q
  (AV.bool
  false)
  else
  Q
  (AV.bool
  false)
  else
  Q
  (AV.bool
  false)
  else
  Q
  (AV.bool
  false)
  else
  Q
  (AV.bool
  false)
  else
  (Dy.mayD (Dy.Dyd.mk false m e) =
  true ∧
  (1 : Int) ≤ k ∧
  k ≤ (8192 : Int)) ∧
  ∀ (b21 : Bool),
  b21 =
  (Dy.cutR
  (Dy.form false
  (Dy.isq
  (Dy.val
  (Dy.Dyd.mk
  false m
  e).mag *
  (2 : Nat) ^
  Dy.rootZ
  (Dy.val
  (Dy.Dyd.mk
  false
  m
  e).mag)
  (Dy.Dyd.mk
  false m
  e).exp
  k))
  (((Dy.Dyd.mk false m
  e).exp -
  (↑(Dy.rootZ
  (Dy.val
  (Dy.Dyd.mk
  false
  m
  e).mag)
  (Dy.Dyd.mk
  false
  m
  e).exp
  k) :
  Int)) /
  (2 : Int)))
  k).1.neg →
  ∀ (l22 : List Nat),
  l22 =
  (Dy.cutR
  (Dy.form false
  (Dy.isq
  (Dy.val
  (Dy.Dyd.mk
  false
  m
  e).mag *
  (2 : Nat) ^
  Dy.rootZ
  (Dy.val
  (Dy.Dyd.mk
  false
  m
  e).mag)
  (Dy.Dyd.mk
  false
  m
  e).exp
  k))
  (((Dy.Dyd.mk
  false m
  e).exp -
  (↑(Dy.rootZ
  (Dy.val
  (Dy.Dyd.mk
  false
  m
  e).mag)
  (Dy.Dyd.mk
  false
  m
  e).exp
  k) :
  Int)) /
  (2 : Int)))
  k).1.mag →
  ∀ (n23 : Int),
  n23 =
  (Dy.cutR
  (Dy.form false
  (Dy.isq
  (Dy.val
  (Dy.Dyd.mk
  false
  m
  e).mag *
  (2 :
  Nat) ^
  Dy.rootZ
  (Dy.val
  (Dy.Dyd.mk
  false
  m
  e).mag)
  (Dy.Dyd.mk
  false
  m
  e).exp
  k))
  (((Dy.Dyd.mk
  false
  m
  e).exp -
  (↑(Dy.rootZ
  (Dy.val
  (Dy.Dyd.mk
  false
  m
  e).mag)
  (Dy.Dyd.mk
  false
  m
  e).exp
  k) :
  Int)) /
  (2 :
  Int)))
  k).1.exp →
  ∀ (b24 : Bool),
  b24 =
  (Dy.rootF
  (Dy.Dyd.mk
  false m e)
  k).snd →
  bif
  decide
  ((↑m.length :
  Int) =
  (0 :
  Int)) then
  bif
  !Dy.sameD
  (Dy.Dyd.mk
  b12
  l13
  n14)
  (Dy.Dyd.mk
  false
  []
  (0 :
  Int)) then
  Q
  (AV.bool
  false)
  else
  bif
  !decide
  (b15 =
  false) then
  Q
  (AV.bool
  false)
  else
  bif
  !decide
  (n16 =
  (0 :
  Int)) then
  Q
  (AV.bool
  false)
  else
  bif
  !Dy.mayD
  (Dy.Dyd.mk
  s'
  m'
  e') then
  bif
  Dy.sameD
  (Dy.Dyd.mk
  b7
  l8
  n9)
  Dy.zeroD &&
  (!b10 &&
  decide
  (n11 =
  (2 :
  Int))) then
  Q
  (AV.bool
  true)
  else
  Q
  (AV.bool
  false)
  else
  bif
  decide
  (k >
  (8192 :
  Int)) then
  bif
  Dy.sameD
  (Dy.Dyd.mk
  b7
  l8
  n9)
  Dy.zeroD &&
  (!b10 &&
  decide
  (n11 =
  (3 :
  Int))) then
  Q
  (AV.bool
  true)
  else
  Q
  (AV.bool
  false)
  else
  bif
  decide
  ((↑m'.length :
  Int) =
  (0 :
  Int)) then
  bif
  Dy.sameD
  (Dy.Dyd.mk
  b7
  l8
  n9)
  Dy.zeroD &&
  (!b10 &&
  decide
  (n11 =
  (11 :
  Int))) then
  Q
  (AV.bool
  true)
  else
  Q
  (AV.bool
  false)
  else
  (Dy.mayD
  (Dy.Dyd.mk
  false
  m
  e) =
  true ∧
  Dy.mayD
  (Dy.Dyd.mk
  s'
  m'
  e') =
  true ∧
  m' ≠
  [] ∧
  (1 :
  Int) ≤
  k ∧
  k ≤
  (8192 :
  Int) ∧
  m.length ≤
  (1000 :
  Nat) ∧
  m'.length ≤
  (1000 :
  Nat)) ∧
  ∀
  (b25 :
  Bool),
  b25 =
  (Dy.quoF
  (Dy.Dyd.mk
  false
  m
  e)
  (Dy.Dyd.mk
  s'
  m'
  e')
  k).1.neg →
  ∀
  (l26 :
  List
  Nat),
  l26 =
  (Dy.quoF
  (Dy.Dyd.mk
  false
  m
  e)
  (Dy.Dyd.mk
  s'
  m'
  e')
  k).1.mag →
  ∀
  (n27 :
  Int),
  n27 =
  (Dy.quoF
  (Dy.Dyd.mk
  false
  m
  e)
  (Dy.Dyd.mk
  s'
  m'
  e')
  k).1.exp →
  ∀
  (b28 :
  Bool),
  b28 =
  (Dy.quoF
  (Dy.Dyd.mk
  false
  m
  e)
  (Dy.Dyd.mk
  s'
  m'
  e')
  k).snd →
  bif
  decide
  (n27 <
  (-16777216 :
  Int)) then
  bif
  Dy.sameD
  (Dy.Dyd.mk
  b7
  l8
  n9)
  Dy.zeroD &&
  (!b10 &&
  decide
  (n11 =
  (20 :
  Int))) then
  Q
  (AV.bool
  true)
  else
  Q
  (AV.bool
  false)
  else
  bif
  decide
  (n27 >
  (16777216 :
  Int)) then
  bif
  Dy.sameD
  (Dy.Dyd.mk
  b7
  l8
  n9)
  Dy.zeroD &&
  (!b10 &&
  decide
  (n11 =
  (20 :
  Int))) then
  Q
  (AV.bool
  true)
  else
  Q
  (AV.bool
  false)
  else
  bif
  Dy.sameD
  (Dy.Dyd.mk
  b7
  l8
  n9)
  (Dy.Dyd.mk
  b25
  l26
  n27) then
  bif
  decide
  (b10 =
  b28) then
  bif
  decide
  (n11 =
  (0 :
  Int)) then
  bif
  Dy.sameD
  (Dy.Dyd.mk
  b1
  l2
  n3)
  (Dy.Dyd.mk
  false
  m
  e) then
  bif
  Dy.sameD
  (Dy.Dyd.mk
  b4
  l5
  n6)
  (Dy.Dyd.mk
  s'
  m'
  e') then
  Q
  (AV.bool
  true)
  else
  Q
  (AV.bool
  false)
  else
  Q
  (AV.bool
  false)
  else
  Q
  (AV.bool
  false)
  else
  Q
  (AV.bool
  false)
  else
  Q
  (AV.bool
  false)
  else
  bif
  !Dy.sameD
  (Dy.Dyd.mk
  b12
  l13
  n14)
  (Dy.Dyd.mk
  b21
  l22
  n23) then
  Q
  (AV.bool
  false)
  else
  bif
  !decide
  (b15 =
  b24) then
  Q
  (AV.bool
  false)
  else
  bif
  !decide
  (n16 =
  (0 :
  Int)) then
  Q
  (AV.bool
  false)
  else
  bif
  !Dy.mayD
  (Dy.Dyd.mk
  s'
  m'
  e') then
  bif
  Dy.sameD
  (Dy.Dyd.mk
  b7
  l8
  n9)
  Dy.zeroD &&
  (!b10 &&
  decide
  (n11 =
  (2 :
  Int))) then
  Q
  (AV.bool
  true)
  else
  Q
  (AV.bool
  false)
  else
  bif
  decide
  (k >
  (8192 :
  Int)) then
  bif
  Dy.sameD
  (Dy.Dyd.mk
  b7
  l8
  n9)
  Dy.zeroD &&
  (!b10 &&
  decide
  (n11 =
  (3 :
  Int))) then
  Q
  (AV.bool
  true)
  else
  Q
  (AV.bool
  false)
  else
  bif
  decide
  ((↑m'.length :
  Int) =
  (0 :
  Int)) then
  bif
  Dy.sameD
  (Dy.Dyd.mk
  b7
  l8
  n9)
  Dy.zeroD &&
  (!b10 &&
  decide
  (n11 =
  (11 :
  Int))) then
  Q
  (AV.bool
  true)
  else
  Q
  (AV.bool
  false)
  else
  (Dy.mayD
  (Dy.Dyd.mk
  false
  m
  e) =
  true ∧
  Dy.mayD
  (Dy.Dyd.mk
  s'
  m'
  e') =
  true ∧
  m' ≠
  [] ∧
  (1 :
  Int) ≤
  k ∧
  k ≤
  (8192 :
  Int) ∧
  m.length ≤
  (1000 :
  Nat) ∧
  m'.length ≤
  (1000 :
  Nat)) ∧
  ∀
  (b29 :
  Bool),
  b29 =
  (Dy.quoF
  (Dy.Dyd.mk
  false
  m
  e)
  (Dy.Dyd.mk
  s'
  m'
  e')
  k).1.neg →
  ∀
  (l30 :
  List
  Nat),
  l30 =
  (Dy.quoF
  (Dy.Dyd.mk
  false
  m
  e)
  (Dy.Dyd.mk
  s'
  m'
  e')
  k).1.mag →
  ∀
  (n31 :
  Int),
  n31 =
  (Dy.quoF
  (Dy.Dyd.mk
  false
  m
  e)
  (Dy.Dyd.mk
  s'
  m'
  e')
  k).1.exp →
  ∀
  (b32 :
  Bool),
  b32 =
  (Dy.quoF
  (Dy.Dyd.mk
  false
  m
  e)
  (Dy.Dyd.mk
  s'
  m'
  e')
  k).snd →
  bif
  decide
  (n31 <
  (-16777216 :
  Int)) then
  bif
  Dy.sameD
  (Dy.Dyd.mk
  b7
  l8
  n9)
  Dy.zeroD &&
  (!b10 &&
  decide
  (n11 =
  (20 :
  Int))) then
  Q
  (AV.bool
  true)
  else
  Q
  (AV.bool
  false)
  else
  bif
  decide
  (n31 >
  (16777216 :
  Int)) then
  bif
  Dy.sameD
  (Dy.Dyd.mk
  b7
  l8
  n9)
  Dy.zeroD &&
  (!b10 &&
  decide
  (n11 =
  (20 :
  Int))) then
  Q
  (AV.bool
  true)
  else
  Q
  (AV.bool
  false)
  else
  bif
  Dy.sameD
  (Dy.Dyd.mk
  b7
  l8
  n9)
  (Dy.Dyd.mk
  b29
  l30
  n31) then
  bif
  decide
  (b10 =
  b32) then
  bif
  decide
  (n11 =
  (0 :
  Int)) then
  bif
  Dy.sameD
  (Dy.Dyd.mk
  b1
  l2
  n3)
  (Dy.Dyd.mk
  false
  m
  e) then
  bif
  Dy.sameD
  (Dy.Dyd.mk
  b4
  l5
  n6)
  (Dy.Dyd.mk
  s'
  m'
  e') then
  Q
  (AV.bool
  true)
  else
  Q
  (AV.bool
  false)
  else
  Q
  (AV.bool
  false)
  else
  Q
  (AV.bool
  false)
  else
  Q
  (AV.bool
  false)
  else
  Q
  (AV.bool
  false)
  else
  m.length ≤ (1048576 : Nat) ∧
  ∀ (b33 : Bool),
  b33 = false →
  ∀ (l34 : List Nat),
  l34 = m →
  ∀ (n35 : Int),
  n35 = e →
  m'.length ≤ (1048576 : Nat) ∧
  ∀ (b36 : Bool),
  b36 = s' →
  ∀ (l37 : List Nat),
  l37 = m' →
  ∀ (n38 : Int),
  n38 = e' →
  (l34.length ≤ (1000 : Nat) ∧ l37.length ≤ (1000 : Nat)) ∧
  ∀ (b39 : Bool),
  b39 = (Dy.quoD (Dy.Dyd.mk b33 l34 n35) (Dy.Dyd.mk b36 l37 n38) k).num.neg →
  ∀ (l40 : List Nat),
  l40 = (Dy.quoD (Dy.Dyd.mk b33 l34 n35) (Dy.Dyd.mk b36 l37 n38) k).num.mag →
  ∀ (n41 : Int),
  n41 =
  (Dy.quoD (Dy.Dyd.mk b33 l34 n35) (Dy.Dyd.mk b36 l37 n38) k).num.exp →
  ∀ (b42 : Bool),
  b42 =
  (Dy.quoD (Dy.Dyd.mk b33 l34 n35) (Dy.Dyd.mk b36 l37 n38) k).lost →
  ∀ (n43 : Int),
  n43 =
  (Dy.quoD (Dy.Dyd.mk b33 l34 n35) (Dy.Dyd.mk b36 l37 n38)
  k).err →
  ∀ (b44 : Bool),
  b44 = (Dy.rootD (Dy.Dyd.mk b33 l34 n35) k).num.neg →
  ∀ (l45 : List Nat),
  l45 = (Dy.rootD (Dy.Dyd.mk b33 l34 n35) k).num.mag →
  ∀ (n46 : Int),
  n46 = (Dy.rootD (Dy.Dyd.mk b33 l34 n35) k).num.exp →
  ∀ (b47 : Bool),
  b47 = (Dy.rootD (Dy.Dyd.mk b33 l34 n35) k).lost →
  ∀ (n48 : Int),
  n48 =
  (Dy.rootD (Dy.Dyd.mk b33 l34 n35) k).err →
  bif !Dy.mayD (Dy.Dyd.mk false m e) then
  bif
  Dy.sameD (Dy.Dyd.mk b39 l40 n41)
  Dy.zeroD &&
  (!b42 &&
  decide (n43 = (2 : Int))) then
  bif
  Dy.sameD (Dy.Dyd.mk b44 l45 n46)
  Dy.zeroD &&
  (!b47 &&
  decide (n48 = (2 : Int))) then
  Q (AV.bool true)
  else Q (AV.bool false)
  else Q (AV.bool false)
  else
  bif decide (k < (1 : Int)) then
  bif
  Dy.sameD (Dy.Dyd.mk b39 l40 n41)
  Dy.zeroD &&
  (!b42 &&
  decide (n43 = (2 : Int))) then
  bif
  Dy.sameD (Dy.Dyd.mk b44 l45 n46)
  Dy.zeroD &&
  (!b47 &&
  decide (n48 = (2 : Int))) then
  Q (AV.bool true)
  else Q (AV.bool false)
  else Q (AV.bool false)
  else
  bif decide (k > (8192 : Int)) then
  bif
  !(Dy.sameD (Dy.Dyd.mk b44 l45 n46)
  Dy.zeroD &&
  (!b47 &&
  decide
  (n48 = (3 : Int)))) then
  Q (AV.bool false)
  else
  bif
  !Dy.mayD
  (Dy.Dyd.mk s' m' e') then
  bif
  Dy.sameD
  (Dy.Dyd.mk b39 l40 n41)
  Dy.zeroD &&
  (!b42 &&
  decide
  (n43 = (2 : Int))) then
  Q (AV.bool true)
  else Q (AV.bool false)
  else
  bif decide (k > (8192 : Int)) then
  bif
  Dy.sameD
  (Dy.Dyd.mk b39 l40 n41)
  Dy.zeroD &&
  (!b42 &&
  decide
  (n43 =
  (3 : Int))) then
  Q (AV.bool true)
  else Q (AV.bool false)
  else
  bif
  decide
  ((↑m'.length : Int) =
  (0 : Int)) then
  bif
  Dy.sameD
  (Dy.Dyd.mk b39 l40
  n41)
  Dy.zeroD &&
  (!b42 &&
  decide
  (n43 =
  (11 : Int))) then
  Q (AV.bool true)
  else Q (AV.bool false)
  else
  (Dy.mayD
  (Dy.Dyd.mk false m
  e) =
  true ∧
  Dy.mayD
  (Dy.Dyd.mk s' m'
  e') =
  true ∧
  m' ≠ [] ∧
  (1 : Int) ≤ k ∧
  k ≤ (8192 : Int) ∧
  m.length ≤
  (1000 : Nat) ∧
  m'.length ≤
  (1000 :
  Nat)) ∧
  ∀ (b49 : Bool),
  b49 =
  (Dy.quoF
  (Dy.Dyd.mk false
  m e)
  (Dy.Dyd.mk s' m'
  e')
  k).1.neg →
  ∀ (l50 : List Nat),
  l50 =
  (Dy.quoF
  (Dy.Dyd.mk
  false m e)
  (Dy.Dyd.mk
  s' m' e')
  k).1.mag →
  ∀ (n51 : Int),
  n51 =
  (Dy.quoF
  (Dy.Dyd.mk
  false
  m e)
  (Dy.Dyd.mk
  s' m'
  e')
  k).1.exp →
  ∀ (b52 : Bool),
  b52 =
  (Dy.quoF
  (Dy.Dyd.mk
  false
  m e)
  (Dy.Dyd.mk
  s'
  m'
  e')
  k).snd →
  bif
  decide
  (n51 <
  (-16777216 :
  Int)) then
  bif
  Dy.sameD
  (Dy.Dyd.mk
  b39
  l40
  n41)
  Dy.zeroD &&
  (!b42 &&
  decide
  (n43 =
  (20 :
  Int))) then
  Q
  (AV.bool
  true)
  else
  Q
  (AV.bool
  false)
  else
  bif
  decide
  (n51 >
  (16777216 :
  Int)) then
  bif
  Dy.sameD
  (Dy.Dyd.mk
  b39
  l40
  n41)
  Dy.zeroD &&
  (!b42 &&
  decide
  (n43 =
  (20 :
  Int))) then
  Q
  (AV.bool
  true)
  else
  Q
  (AV.bool
  false)
  else
  bif
  Dy.sameD
  (Dy.Dyd.mk
  b39
  l40
  n41)
  (Dy.Dyd.mk
  b49
  l50
  n51) then
  bif
  decide
  (b42 =
  b52) then
  bif
  decide
  (n43 =
  (0 :
  Int)) then
  bif
  Dy.sameD
  (Dy.Dyd.mk
  b33
  l34
  n35)
  (Dy.Dyd.mk
  false
  m
  e) then
  bif
  Dy.sameD
  (Dy.Dyd.mk
  b36
  l37
  n38)
  (Dy.Dyd.mk
  s'
  m'
  e') then
  Q
  (AV.bool
  true)
  else
  Q
  (AV.bool
  false)
  else
  Q
  (AV.bool
  false)
  else
  Q
  (AV.bool
  false)
  else
  Q
  (AV.bool
  false)
  else
  Q
  (AV.bool
  false)
  else
  (Dy.mayD (Dy.Dyd.mk false m e) =
  true ∧
  (1 : Int) ≤ k ∧
  k ≤ (8192 : Int)) ∧
  ∀ (b53 : Bool),
  b53 =
  (Dy.cutR
  (Dy.form false
  (Dy.isq
  (Dy.val
  (Dy.Dyd.mk false
  m e).mag *
  (2 : Nat) ^
  Dy.rootZ
  (Dy.val
  (Dy.Dyd.mk
  false m
  e).mag)
  (Dy.Dyd.mk
  false m
  e).exp
  k))
  (((Dy.Dyd.mk false m
  e).exp -
  (↑(Dy.rootZ
  (Dy.val
  (Dy.Dyd.mk
  false
  m
  e).mag)
  (Dy.Dyd.mk
  false m
  e).exp
  k) :
  Int)) /
  (2 : Int)))
  k).1.neg →
  ∀ (l54 : List Nat),
  l54 =
  (Dy.cutR
  (Dy.form false
  (Dy.isq
  (Dy.val
  (Dy.Dyd.mk
  false m
  e).mag *
  (2 : Nat) ^
  Dy.rootZ
  (Dy.val
  (Dy.Dyd.mk
  false
  m
  e).mag)
  (Dy.Dyd.mk
  false
  m
  e).exp
  k))
  (((Dy.Dyd.mk false
  m e).exp -
  (↑(Dy.rootZ
  (Dy.val
  (Dy.Dyd.mk
  false
  m
  e).mag)
  (Dy.Dyd.mk
  false
  m
  e).exp
  k) :
  Int)) /
  (2 : Int)))
  k).1.mag →
  ∀ (n55 : Int),
  n55 =
  (Dy.cutR
  (Dy.form false
  (Dy.isq
  (Dy.val
  (Dy.Dyd.mk
  false
  m
  e).mag *
  (2 :
  Nat) ^
  Dy.rootZ
  (Dy.val
  (Dy.Dyd.mk
  false
  m
  e).mag)
  (Dy.Dyd.mk
  false
  m
  e).exp
  k))
  (((Dy.Dyd.mk
  false
  m
  e).exp -
  (↑(Dy.rootZ
  (Dy.val
  (Dy.Dyd.mk
  false
  m
  e).mag)
  (Dy.Dyd.mk
  false
  m
  e).exp
  k) :
  Int)) /
  (2 : Int)))
  k).1.exp →
  ∀ (b56 : Bool),
  b56 =
  (Dy.rootF
  (Dy.Dyd.mk
  false m e)
  k).snd →
  bif
  decide
  ((↑m.length :
  Int) =
  (0 :
  Int)) then
  bif
  !Dy.sameD
  (Dy.Dyd.mk
  b44 l45
  n46)
  (Dy.Dyd.mk
  false []
  (0 :
  Int)) then
  Q
  (AV.bool
  false)
  else
  bif
  !decide
  (b47 =
  false) then
  Q
  (AV.bool
  false)
  else
  bif
  !decide
  (n48 =
  (0 :
  Int)) then
  Q
  (AV.bool
  false)
  else
  bif
  !Dy.mayD
  (Dy.Dyd.mk
  s'
  m'
  e') then
  bif
  Dy.sameD
  (Dy.Dyd.mk
  b39
  l40
  n41)
  Dy.zeroD &&
  (!b42 &&
  decide
  (n43 =
  (2 :
  Int))) then
  Q
  (AV.bool
  true)
  else
  Q
  (AV.bool
  false)
  else
  bif
  decide
  (k >
  (8192 :
  Int)) then
  bif
  Dy.sameD
  (Dy.Dyd.mk
  b39
  l40
  n41)
  Dy.zeroD &&
  (!b42 &&
  decide
  (n43 =
  (3 :
  Int))) then
  Q
  (AV.bool
  true)
  else
  Q
  (AV.bool
  false)
  else
  bif
  decide
  ((↑m'.length :
  Int) =
  (0 :
  Int)) then
  bif
  Dy.sameD
  (Dy.Dyd.mk
  b39
  l40
  n41)
  Dy.zeroD &&
  (!b42 &&
  decide
  (n43 =
  (11 :
  Int))) then
  Q
  (AV.bool
  true)
  else
  Q
  (AV.bool
  false)
  else
  (Dy.mayD
  (Dy.Dyd.mk
  false
  m
  e) =
  true ∧
  Dy.mayD
  (Dy.Dyd.mk
  s'
  m'
  e') =
  true ∧
  m' ≠
  [] ∧
  (1 :
  Int) ≤
  k ∧
  k ≤
  (8192 :
  Int) ∧
  m.length ≤
  (1000 :
  Nat) ∧
  m'.length ≤
  (1000 :
  Nat)) ∧
  ∀
  (b57 :
  Bool),
  b57 =
  (Dy.quoF
  (Dy.Dyd.mk
  false
  m
  e)
  (Dy.Dyd.mk
  s'
  m'
  e')
  k).1.neg →
  ∀
  (l58 :
  List
  Nat),
  l58 =
  (Dy.quoF
  (Dy.Dyd.mk
  false
  m
  e)
  (Dy.Dyd.mk
  s'
  m'
  e')
  k).1.mag →
  ∀
  (n59 :
  Int),
  n59 =
  (Dy.quoF
  (Dy.Dyd.mk
  false
  m
  e)
  (Dy.Dyd.mk
  s'
  m'
  e')
  k).1.exp →
  ∀
  (b60 :
  Bool),
  b60 =
  (Dy.quoF
  (Dy.Dyd.mk
  false
  m
  e)
  (Dy.Dyd.mk
  s'
  m'
  e')
  k).snd →
  bif
  decide
  (n59 <
  (-16777216 :
  Int)) then
  bif
  Dy.sameD
  (Dy.Dyd.mk
  b39
  l40
  n41)
  Dy.zeroD &&
  (!b42 &&
  decide
  (n43 =
  (20 :
  Int))) then
  Q
  (AV.bool
  true)
  else
  Q
  (AV.bool
  false)
  else
  bif
  decide
  (n59 >
  (16777216 :
  Int)) then
  bif
  Dy.sameD
  (Dy.Dyd.mk
  b39
  l40
  n41)
  Dy.zeroD &&
  (!b42 &&
  decide
  (n43 =
  (20 :
  Int))) then
  Q
  (AV.bool
  true)
  else
  Q
  (AV.bool
  false)
  else
  bif
  Dy.sameD
  (Dy.Dyd.mk
  b39
  l40
  n41)
  (Dy.Dyd.mk
  b57
  l58
  n59) then
  bif
  decide
  (b42 =
  b60) then
  bif
  decide
  (n43 =
  (0 :
  Int)) then
  bif
  Dy.sameD
  (Dy.Dyd.mk
  b33
  l34
  n35)
  (Dy.Dyd.mk
  false
  m
  e) then
  bif
  Dy.sameD
  (Dy.Dyd.mk
  b36
  l37
  n38)
  (Dy.Dyd.mk
  s'
  m'
  e') then
  Q
  (AV.bool
  true)
  else
  Q
  (AV.bool
  false)
  else
  Q
  (AV.bool
  false)
  else
  Q
  (AV.bool
  false)
  else
  Q
  (AV.bool
  false)
  else
  Q
  (AV.bool
  false)
  else
  bif
  !Dy.sameD
  (Dy.Dyd.mk
  b44 l45
  n46)
  (Dy.Dyd.mk
  b53 l54
  n55) then
  Q
  (AV.bool
  false)
  else
  bif
  !decide
  (b47 =
  b56) then
  Q
  (AV.bool
  false)
  else
  bif
  !decide
  (n48 =
  (0 :
  Int)) then
  Q
  (AV.bool
  false)
  else
  bif
  !Dy.mayD
  (Dy.Dyd.mk
  s'
  m'
  e') then
  bif
  Dy.sameD
  (Dy.Dyd.mk
  b39
  l40
  n41)
  Dy.zeroD &&
  (!b42 &&
  decide
  (n43 =
  (2 :
  Int))) then
  Q
  (AV.bool
  true)
  else
  Q
  (AV.bool
  false)
  else
  bif
  decide
  (k >
  (8192 :
  Int)) then
  bif
  Dy.sameD
  (Dy.Dyd.mk
  b39
  l40
  n41)
  Dy.zeroD &&
  (!b42 &&
  decide
  (n43 =
  (3 :
  Int))) then
  Q
  (AV.bool
  true)
  else
  Q
  (AV.bool
  false)
  else
  bif
  decide
  ((↑m'.length :
  Int) =
  (0 :
  Int)) then
  bif
  Dy.sameD
  (Dy.Dyd.mk
  b39
  l40
  n41)
  Dy.zeroD &&
  (!b42 &&
  decide
  (n43 =
  (11 :
  Int))) then
  Q
  (AV.bool
  true)
  else
  Q
  (AV.bool
  false)
  else
  (Dy.mayD
  (Dy.Dyd.mk
  false
  m
  e) =
  true ∧
  Dy.mayD
  (Dy.Dyd.mk
  s'
  m'
  e') =
  true ∧
  m' ≠
  [] ∧
  (1 :
  Int) ≤
  k ∧
  k ≤
  (8192 :
  Int) ∧
  m.length ≤
  (1000 :
  Nat) ∧
  m'.length ≤
  (1000 :
  Nat)) ∧
  ∀
  (b61 :
  Bool),
  b61 =
  (Dy.quoF
  (Dy.Dyd.mk
  false
  m
  e)
  (Dy.Dyd.mk
  s'
  m'
  e')
  k).1.neg →
  ∀
  (l62 :
  List
  Nat),
  l62 =
  (Dy.quoF
  (Dy.Dyd.mk
  false
  m
  e)
  (Dy.Dyd.mk
  s'
  m'
  e')
  k).1.mag →
  ∀
  (n63 :
  Int),
  n63 =
  (Dy.quoF
  (Dy.Dyd.mk
  false
  m
  e)
  (Dy.Dyd.mk
  s'
  m'
  e')
  k).1.exp →
  ∀
  (b64 :
  Bool),
  b64 =
  (Dy.quoF
  (Dy.Dyd.mk
  false
  m
  e)
  (Dy.Dyd.mk
  s'
  m'
  e')
  k).snd →
  bif
  decide
  (n63 <
  (-16777216 :
  Int)) then
  bif
  Dy.sameD
  (Dy.Dyd.mk
  b39
  l40
  n41)
  Dy.zeroD &&
  (!b42 &&
  decide
  (n43 =
  (20 :
  Int))) then
  Q
  (AV.bool
  true)
  else
  Q
  (AV.bool
  false)
  else
  bif
  decide
  (n63 >
  (16777216 :
  Int)) then
  bif
  Dy.sameD
  (Dy.Dyd.mk
  b39
  l40
  n41)
  Dy.zeroD &&
  (!b42 &&
  decide
  (n43 =
  (20 :
  Int))) then
  Q
  (AV.bool
  true)
  else
  Q
  (AV.bool
  false)
  else
  bif
  Dy.sameD
  (Dy.Dyd.mk
  b39
  l40
  n41)
  (Dy.Dyd.mk
  b61
  l62
  n63) then
  bif
  decide
  (b42 =
  b64) then
  bif
  decide
  (n43 =
  (0 :
  Int)) then
  bif
  Dy.sameD
  (Dy.Dyd.mk
  b33
  l34
  n35)
  (Dy.Dyd.mk
  false
  m
  e) then
  bif
  Dy.sameD
  (Dy.Dyd.mk
  b36
  l37
  n38)
  (Dy.Dyd.mk
  s'
  m'
  e') then
  Q
  (AV.bool
  true)
  else
  Q
  (AV.bool
  false)
  else
  Q
  (AV.bool
  false)
  else
  Q
  (AV.bool
  false)
  else
  Q
  (AV.bool
  false)
  else
  Q
  (AV.bool
  false)) := by kernel_rfl
end Go.AI

namespace Go.AI
open Go Go.RowKit Go.Proofs
set_option linter.unusedVariables false
set_option maxRecDepth 100000
set_option maxHeartbeats 1000000
theorem quo_tail {s s' : Bool} {m m' : List Nat} {e e' k : Int} {T F : Prop} (hT : T) (hA : Dy.mayD ⟨s, m, e⟩ = true) (l1 : m.length ≤ 1000) (l2 : m'.length ≤ 1000) (h1 : 1 ≤ k) {d0 : Dy.Dyd} {l0 : Bool} {k0 : Int}
    (hq : Dy.quoD ⟨s, m, e⟩ ⟨s', m', e'⟩ k = ⟨d0, l0, k0⟩) :
    bif !Dy.mayD ⟨s', m', e'⟩ then (bif Dy.sameD d0 Dy.zeroD && (!l0 && decide (k0 = 2)) then T else F)
    else bif decide (k > 8192) then (bif Dy.sameD d0 Dy.zeroD && (!l0 && decide (k0 = 3)) then T else F)
    else bif decide ((m'.length : Int) = 0) then (bif Dy.sameD d0 Dy.zeroD && (!l0 && decide (k0 = 11)) then T else F)
    else (Dy.mayD ⟨s, m, e⟩ = true ∧ Dy.mayD ⟨s', m', e'⟩ = true ∧ m' ≠ [] ∧ 1 ≤ k ∧ k ≤ 8192 ∧ m.length ≤ 1000 ∧ m'.length ≤ 1000) ∧
      ∀ b17, b17 = (Dy.quoF ⟨s, m, e⟩ ⟨s', m', e'⟩ k).1.neg → ∀ l18, l18 = (Dy.quoF ⟨s, m, e⟩ ⟨s', m', e'⟩ k).1.mag → ∀ n19, n19 = (Dy.quoF ⟨s, m, e⟩ ⟨s', m', e'⟩ k).1.exp → ∀ b20, b20 = (Dy.quoF ⟨s, m, e⟩ ⟨s', m', e'⟩ k).snd →
        bif decide (n19 < -16777216) then (bif Dy.sameD d0 Dy.zeroD && (!l0 && decide (k0 = 20)) then T else F)
        else bif decide (n19 > 16777216) then (bif Dy.sameD d0 Dy.zeroD && (!l0 && decide (k0 = 20)) then T else F)
        else bif Dy.sameD d0 (Dy.Dyd.mk b17 l18 n19) then (bif decide (l0 = b20) then (bif decide (k0 = 0) then (bif Dy.sameD ⟨s, m, e⟩ ⟨s, m, e⟩ then (bif Dy.sameD ⟨s', m', e'⟩ ⟨s', m', e'⟩ then T else F) else F) else F) else F) else F := by
  by_cases hB : Dy.mayD ⟨s', m', e'⟩ = true
  · refine cond_f (by rw [hB]; rfl) ?_
    by_cases hk : k ≤ 8192
    · refine cond_f (decide_eq_false (by omega)) ?_
      by_cases h0 : m' = []
      · subst h0
        have : Dy.quoD ⟨s, m, e⟩ ⟨s', [], e'⟩ k = ⟨Dy.zeroD, false, 11⟩ := by
          unfold Dy.quoD
          rw [hA, hB, if_pos (by simp; omega), if_pos hk, if_pos rfl]
        rw [this] at hq
        cases hq
        exact cond_t rfl (cond_t (by rw [same_self]; rfl) hT)
      · have hl : (m'.length : Int) ≠ 0 := fun c => h0 (List.length_eq_zero_iff.1 (by omega))
        refine cond_f (decide_eq_false hl) ⟨⟨hA, hB, h0, h1, hk, l1, l2⟩, ?_⟩
        rw [Dy.quoD_eq hA hB h0 h1 hk] at hq
        generalize Dy.quoF ⟨s, m, e⟩ ⟨s', m', e'⟩ k = w at *
        rintro _ rfl _ rfl _ rfl _ rfl
        cases hi : Dy.inside w.1.exp with
        | true =>
          rw [hi] at hq
          cases hq
          have := Dy.inside_iff.1 hi
          exact cond_f (decide_eq_false (by omega)) (cond_f (decide_eq_false (by omega)) (cond_t (same_self _) (cond_t (by simp) (cond_t rfl (cond_t (same_self _) (cond_t (same_self _) hT))))))
        | false =>
          rw [hi] at hq
          cases hq
          have hno : ¬ (-16777216 ≤ w.1.exp ∧ w.1.exp ≤ 16777216) := fun c => by rw [Dy.inside_iff.2 c] at hi; cases hi
          refine cond_i (fun _ => cond_t (by rw [same_self]; rfl) hT) (fun h2 => ?_)
          have h2 := of_decide_eq_false h2
          exact cond_t (decide_eq_true (by omega)) (cond_t (by rw [same_self]; rfl) hT)
    · refine cond_t (decide_eq_true (by omega)) ?_
      have : Dy.quoD ⟨s, m, e⟩ ⟨s', m', e'⟩ k = ⟨Dy.zeroD, false, 3⟩ := by
        unfold Dy.quoD
        rw [hA, hB, if_pos (by simp; omega), if_neg hk]
      rw [this] at hq
      cases hq
      exact cond_t (by rw [same_self]; rfl) hT
  · have hB : Dy.mayD ⟨s', m', e'⟩ = false := by simpa using hB
    rw [Dy.quoD_not2 hB] at hq
    cases hq
    exact cond_t (by rw [hB]; rfl) (cond_t (by rw [same_self]; rfl) hT)

theorem law_quo_t (s' : Bool) (m : List Nat) (e : Int) (m' : List Nat) (e' k : Int) : Contract Tryd.prog Inv 10 [.agg [.bool true, .dig [1] m, .num .i64 e], .agg [.bool s', .dig [2] m', .num .i64 e'], .num .i64 k] (.bool true) := by
  refine contract0 false ok_tabF Tryd.func10 (by kernel_rfl) (by kernel_rfl) fun hok => ?_
  rw [vc_law2_DyadQuotients_t]
  refine cond_i (fun h => rfl) (fun h => ?_)
  have hl : m.length ≤ 40 := by have := of_decide_eq_false h; omega
  clear h
  refine cond_i (fun h => rfl) (fun h => ?_)
  have hl' : m'.length ≤ 40 := by have := of_decide_eq_false h; omega
  clear h
  refine cond_i (fun h => cond_i (fun h => rfl) (fun h2 => ?_)) (fun h => ?_)
  all_goals
    refine ⟨by omega, ?_⟩
    intro b1 h1 l2 h2 n3 h3
    refine ⟨by omega, ?_⟩
    intro b4 h4 l5 h5 n6 h6
    rw [h1, h2, h3, h4, h5, h6]
    clear h1 h2 h3 h4 h5 h6
    refine ⟨⟨by omega, by omega⟩, ?_⟩
    obtain ⟨d0, l0, k0, hq⟩ : ∃ d0 l0 k0, Dy.quoD ⟨true, m, e⟩ ⟨s', m', e'⟩ k = ⟨d0, l0, k0⟩ := ⟨_, _, _, rfl⟩
    refine peelc hq fun _ _ _ h7 => ?_
    rw [h7]
    clear h7
    by_cases hd : Dy.mayD ⟨true, m, e⟩ = true
    · by_cases c1 : k < 1
      · rw [Dy.quoD_low c1] at hq
        cases hq
        refine peelc (Dy.rootD_low c1) fun _ _ _ h8 => ?_
        rw [h8]
        exact cond_f (by rw [hd]; rfl) (cond_t (decide_eq_true c1) (cond_t (by rw [same_self]; rfl) (cond_t (by rw [same_self]; rfl) rfl)))
      by_cases c2 : 8192 < k
      · refine peelc (Dy.rootD_high hd c2) fun _ _ _ h8 => ?_
        rw [h8]
        exact cond_f (by rw [hd]; rfl) (cond_f (decide_eq_false c1) (cond_t (decide_eq_true c2) (cond_f (by rw [same_self]; rfl) (quo_tail rfl hd (by omega) (by omega) (by omega) hq))))
      · refine peelc (Dy.rootD_neg hd (by omega) (by omega)) fun _ _ _ h8 => ?_
        rw [h8]
        exact cond_f (by rw [hd]; rfl) (cond_f (decide_eq_false c1) (cond_f (decide_eq_false c2) (cond_f (by rw [same_self]; rfl) (quo_tail rfl hd (by omega) (by omega) (by omega) hq))))
    · have hd : Dy.mayD ⟨true, m, e⟩ = false := by simpa using hd
      rw [Dy.quoD_not hd] at hq
      cases hq
      refine peelc (Dy.rootD_not hd) fun _ _ _ h8 => ?_
      rw [h8]
      exact cond_t (by rw [hd]; rfl) (cond_t (by rw [same_self]; rfl) (cond_t (by rw [same_self]; rfl) rfl))

theorem law_quo_f (s' : Bool) (m : List Nat) (e : Int) (m' : List Nat) (e' k : Int) : Contract Tryd.prog Inv 10 [.agg [.bool false, .dig [1] m, .num .i64 e], .agg [.bool s', .dig [2] m', .num .i64 e'], .num .i64 k] (.bool true) := by
  refine contract0 false ok_tabF Tryd.func10 (by kernel_rfl) (by kernel_rfl) fun hok => ?_
  rw [vc_law2_DyadQuotients_f]
  refine cond_i (fun h => rfl) (fun h => ?_)
  have hl : m.length ≤ 40 := by have := of_decide_eq_false h; omega
  clear h
  refine cond_i (fun h => rfl) (fun h => ?_)
  have hl' : m'.length ≤ 40 := by have := of_decide_eq_false h; omega
  clear h
  refine cond_i (fun h => cond_i (fun h => rfl) (fun h2 => ?_)) (fun h => ?_)
  all_goals
    refine ⟨by omega, ?_⟩
    intro b1 h1 l2 h2 n3 h3
    refine ⟨by omega, ?_⟩
    intro b4 h4 l5 h5 n6 h6
    rw [h1, h2, h3, h4, h5, h6]
    clear h1 h2 h3 h4 h5 h6
    refine ⟨⟨by omega, by omega⟩, ?_⟩
    obtain ⟨d0, l0, k0, hq⟩ : ∃ d0 l0 k0, Dy.quoD ⟨false, m, e⟩ ⟨s', m', e'⟩ k = ⟨d0, l0, k0⟩ := ⟨_, _, _, rfl⟩
    refine peelc hq fun _ _ _ h7 => ?_
    rw [h7]
    clear h7
    by_cases hd : Dy.mayD ⟨false, m, e⟩ = true
    · by_cases c1 : k < 1
      · rw [Dy.quoD_low c1] at hq
        cases hq
        refine peelc (Dy.rootD_low c1) fun _ _ _ h8 => ?_
        rw [h8]
        exact cond_f (by rw [hd]; rfl) (cond_t (decide_eq_true c1) (cond_t (by rw [same_self]; rfl) (cond_t (by rw [same_self]; rfl) rfl)))
      by_cases c2 : 8192 < k
      · refine peelc (Dy.rootD_high hd c2) fun _ _ _ h8 => ?_
        rw [h8]
        exact cond_f (by rw [hd]; rfl) (cond_f (decide_eq_false c1) (cond_t (decide_eq_true c2) (cond_f (by rw [same_self]; rfl) (quo_tail rfl hd (by omega) (by omega) (by omega) hq))))
      · by_cases m0 : m = []
        · subst m0
          refine peelc (Dy.rootD_nil hd (by omega) (by omega)) fun _ _ _ h8 => ?_
          rw [h8]
          refine cond_f (by rw [hd]; rfl) (cond_f (decide_eq_false c1) (cond_f (decide_eq_false c2) ⟨⟨hd, by omega, by omega⟩, ?_⟩))
          intro _ _ _ _ _ _ _ _
          exact cond_t rfl (cond_f (congrArg not (same_self Dy.zeroD)) (cond_f rfl (cond_f rfl (quo_tail rfl hd (by omega) (by omega) (by omega) hq))))
        · have hr := Dy.rootD_eq hd rfl m0 (by omega : 1 ≤ k) (by omega)
          rw [Dy.rootF_inside hd (by omega) (by omega), if_pos rfl] at hr
          refine peelc hr fun _ _ _ h8 => ?_
          rw [h8]
          refine cond_f (by rw [hd]; rfl) (cond_f (decide_eq_false c1) (cond_f (decide_eq_false c2) ⟨⟨hd, by omega, by omega⟩, ?_⟩))
          have hl0 : (m.length : Int) ≠ 0 := fun c => m0 (List.length_eq_zero_iff.1 (by omega))
          rintro _ rfl _ rfl _ rfl _ rfl
          exact cond_f (decide_eq_false hl0) (cond_f (congrArg not (same_self (Dy.rootF ⟨false, m, e⟩ k).1)) (cond_f (by simp) (cond_f rfl (quo_tail rfl hd (by omega) (by omega) (by omega) hq))))
    · have hd : Dy.mayD ⟨false, m, e⟩ = false := by simpa using hd
      rw [Dy.quoD_not hd] at hq
      cases hq
      refine peelc (Dy.rootD_not hd) fun _ _ _ h8 => ?_
      rw [h8]
      exact cond_t (by rw [hd]; rfl) (cond_t (by rw [same_self]; rfl) (cond_t (by rw [same_self]; rfl) rfl))

theorem ok_law_DyadQuotients (s : Bool) (m : List Nat) (e : Int) (s' : Bool) (m' : List Nat) (e' k : Int) : Contract Tryd.prog Inv 10 [.agg [.bool s, .dig [1] m, .num .i64 e], .agg [.bool s', .dig [2] m', .num .i64 e'], .num .i64 k] (.bool true) := by
  cases s
  · exact law_quo_f s' m e m' e' k
  · exact law_quo_t s' m e m' e' k
end Go.AI
