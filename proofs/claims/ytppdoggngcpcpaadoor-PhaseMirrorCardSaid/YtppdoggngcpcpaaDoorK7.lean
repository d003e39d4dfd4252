/- My texts AVdyad1, AIdyad1, AVdyad2, AIdyad2, AIdyad3, AIdyad4, AIspec5, AVlaw1, AIlaw1, AIring, AIspec6, AVdyad3, AIdyad5, AVlaw2, AIlaw3, AIfloor, in one. -/
import Derived.Test.YtppdoggngcpcpaaDoorK6
namespace Go.AI
open Go Go.RowKit Go.Proofs
set_option linter.unusedVariables false
set_option maxRecDepth 100000
set_option maxHeartbeats 0
theorem vc_dyad_inside (e : Int) (Q : AV →
  Prop) : (evF Tryd.prog (look tab8) (lam []) false Tryd.f25 [AV.num IntKind.i64 e] Q) =
  (bif decide ((-16777216 : Int) ≤ e) then Q (AV.bool (decide (e ≤ (16777216 : Int))))
 else Q (AV.bool false)) := by kernel_rfl
theorem vc_dyad_May (s : Bool) (m : List
  Nat) (e : Int) (Q : AV →
  Prop) : (evF Tryd.prog (look tab9) (lam []) false Tryd.f13
  [AV.agg [AV.bool s, AV.dig [(1 : Nat)] m, AV.num IntKind.i64 e]] Q) =
  (bif !Dy.may m then Q (AV.bool false)
 else
  bif decide ((↑m.length : Int) = (0 : Int)) then
  bif !s then Q (AV.bool (decide (e = (0 : Int)))) else Q (AV.bool false)
  else
  ((0 : Int) ≤ (0 : Int) ∧ (0 : Int) < (↑m.length : Int)) ∧
  bif
  decide
  (IntKind.u32.wrap
  (↑(BitVec.ofInt (32 : Nat) (↑(m.getD (0 : Nat) (0 : Nat)) : Int) &&&
  BitVec.ofInt (32 : Nat) (1 : Int)).toNat :
  Int) =
  (1 : Int)) then
  Q (AV.bool (Dy.inside e))
  else Q (AV.bool false)) := by kernel_rfl
theorem vc_dyad_own (s : Bool) (m : List
  Nat) (e : Int) (Q : AV →
  Prop) : (evF Tryd.prog (look tab9) (lam []) false Tryd.f43
  [AV.agg [AV.bool s, AV.dig [(1 : Nat)] m, AV.num IntKind.i64 e]] Q) =
  (m.length ≤ (1099511627776 : Nat) ∧
  Q (AV.agg [AV.bool s, AV.dig [(0 : Nat)] m, AV.num IntKind.i64 e])) := by kernel_rfl
theorem vc_dyad_both (s : Bool) (s' : Bool) (m : List
  Nat) (m' : List
  Nat) (e : Int) (e' : Int) (Q : AV →
  Prop) : (evF Tryd.prog (look tab10) (lam [((2 : Nat), LoopAnn.unroll (3 : Nat))]) false Tryd.f58
  [AV.vec [(1 : Nat)] (3 : Nat)
  [AV.agg [AV.bool s, AV.dig [(1 : Nat)] m, AV.num IntKind.i64 e],
  AV.agg [AV.bool s', AV.dig [(1 : Nat)] m', AV.num IntKind.i64 e']]]
  Q) =
  (bif
  decide
  ((0 : Int) <
  (↑[AV.agg [AV.bool s, AV.dig [(1 : Nat)] m, AV.num IntKind.i64 e],
  AV.agg [AV.bool s', AV.dig [(1 : Nat)] m', AV.num IntKind.i64 e']].length :
  Int)) then
  ((0 : Int) ≤ (0 : Int) ∧
  (0 : Int) <
  (↑[AV.agg [AV.bool s, AV.dig [(1 : Nat)] m, AV.num IntKind.i64 e],
  AV.agg [AV.bool s', AV.dig [(1 : Nat)] m', AV.num IntKind.i64 e']].length :
  Int)) ∧
  bif !Dy.mayD (Dy.Dyd.mk s m e) then Q (AV.bool false)
  else
  bif
  decide
  (IntKind.i64.wrap ((0 : Int) + (1 : Int)) <
  (↑[AV.agg [AV.bool s, AV.dig [(1 : Nat)] m, AV.num IntKind.i64 e],
  AV.agg [AV.bool s', AV.dig [(1 : Nat)] m', AV.num IntKind.i64 e']].length :
  Int)) then
  ((0 : Int) ≤ IntKind.i64.wrap ((0 : Int) + (1 : Int)) ∧
  IntKind.i64.wrap ((0 : Int) + (1 : Int)) <
  (↑[AV.agg [AV.bool s, AV.dig [(1 : Nat)] m, AV.num IntKind.i64 e],
  AV.agg [AV.bool s', AV.dig [(1 : Nat)] m', AV.num IntKind.i64 e']].length :
  Int)) ∧
  bif !Dy.mayD (Dy.Dyd.mk s' m' e') then Q (AV.bool false)
  else
  bif
  decide
  (IntKind.i64.wrap (IntKind.i64.wrap ((0 : Int) + (1 : Int)) + (1 : Int)) <
  (↑[AV.agg [AV.bool s, AV.dig [(1 : Nat)] m, AV.num IntKind.i64 e],
  AV.agg [AV.bool s', AV.dig [(1 : Nat)] m', AV.num IntKind.i64 e']].length :
  Int)) then
  False
  else Q (AV.bool true)
  else Q (AV.bool true)
 else Q (AV.bool true)) := by kernel_rfl
theorem vc_dyad_Make (s : Bool) (m : List
  Nat) (e : Int) (Q : AV →
  Prop) : (evF Tryd.prog (look tab10) (lam []) false Tryd.f45 [AV.bool s, AV.dig [(2 : Nat)] m, AV.num IntKind.i64 e]
  Q) =
  (bif !Dy.may m then
  Q (AV.tup [AV.agg [AV.bool false, AV.dig [(0 : Nat)] [], AV.num IntKind.i64 (0 : Int)], AV.num IntKind.i64 (2 : Int)])
 else
  bif decide ((↑m.length : Int) = (0 : Int)) then
  Q
  (AV.tup
  [AV.agg [AV.bool false, AV.dig [(0 : Nat)] [], AV.num IntKind.i64 (0 : Int)], AV.num IntKind.i64 (0 : Int)])
  else
  bif decide (e > IntKind.i64.wrap ((16777216 : Int) - (↑(Dy.lowN m) : Int))) then
  Q
  (AV.tup
  [AV.agg [AV.bool false, AV.dig [(0 : Nat)] [], AV.num IntKind.i64 (0 : Int)], AV.num IntKind.i64 (20 : Int)])
  else
  bif decide (e < IntKind.i64.wrap ((-16777216 : Int) - (↑(Dy.lowN m) : Int))) then
  Q
  (AV.tup
  [AV.agg [AV.bool false, AV.dig [(0 : Nat)] [], AV.num IntKind.i64 (0 : Int)],
  AV.num IntKind.i64 (20 : Int)])
  else
  ∀ (l1 : List Nat),
  l1 = (Dy.shiftN m (IntKind.i64.wrap ((0 : Int) - (↑(Dy.lowN m) : Int)))).mag →
  ∀ (b2 : Bool),
  b2 = (Dy.shiftN m (IntKind.i64.wrap ((0 : Int) - (↑(Dy.lowN m) : Int)))).lost →
  ∀ (n3 : Int),
  n3 = (Dy.shiftN m (IntKind.i64.wrap ((0 : Int) - (↑(Dy.lowN m) : Int)))).err →
  Q
  (AV.tup
  [AV.agg
  [AV.bool s, AV.dig [(0 : Nat)] l1,
  AV.num IntKind.i64 (IntKind.i64.wrap (e + (↑(Dy.lowN m) : Int)))],
  AV.num IntKind.i64 (0 : Int)])) := by kernel_rfl
theorem vc_dyad_signed (s : Bool) (n : Bool) (m : List
  Nat) (e : Int) (Q : AV →
  Prop) : (evF Tryd.prog (look tab10) (lam []) false Tryd.f84
  [AV.agg [AV.bool s, AV.dig [(1 : Nat)] m, AV.num IntKind.i64 e], AV.bool n] Q) =
  (m.length ≤ (1048576 : Nat) ∧
  ∀ (b1 : Bool),
  b1 = s →
  ∀ (l2 : List Nat),
  l2 = m →
  ∀ (n3 : Int),
  n3 = e →
  bif n then
  Q
  (AV.agg
  [AV.bool (decide ((↑l2.length : Int) > (0 : Int))), AV.dig [(0 : Nat)] l2, AV.num IntKind.i64 n3])
  else Q (AV.agg [AV.bool false, AV.dig [(0 : Nat)] l2, AV.num IntKind.i64 n3])) := by kernel_rfl
theorem vc_dyad_Sign (s : Bool) (m : List
  Nat) (e : Int) (Q : AV →
  Prop) : (evF Tryd.prog (look tab10) (lam []) false Tryd.f15
  [AV.agg [AV.bool s, AV.dig [(1 : Nat)] m, AV.num IntKind.i64 e]] Q) =
  (bif !Dy.mayD (Dy.Dyd.mk s m e) then Q (AV.num IntKind.i64 (0 : Int))
 else
  bif decide ((↑m.length : Int) = (0 : Int)) then Q (AV.num IntKind.i64 (0 : Int))
  else bif s then Q (AV.num IntKind.i64 (-1 : Int)) else Q (AV.num IntKind.i64 (1 : Int))) := by kernel_rfl
theorem vc_dyad_Top (s : Bool) (m : List
  Nat) (e : Int) (Q : AV →
  Prop) : (evF Tryd.prog (look tab10) (lam []) false Tryd.f14
  [AV.agg [AV.bool s, AV.dig [(1 : Nat)] m, AV.num IntKind.i64 e]] Q) =
  (bif !Dy.mayD (Dy.Dyd.mk s m e) then Q (AV.num IntKind.i64 (0 : Int))
 else
  bif decide ((↑m.length : Int) = (0 : Int)) then Q (AV.num IntKind.i64 (0 : Int))
  else Q (AV.num IntKind.i64 (IntKind.i64.wrap (e + (↑(Dy.lenN m) : Int))))) := by kernel_rfl
theorem vc_dyad_Neg (s : Bool) (m : List
  Nat) (e : Int) (Q : AV →
  Prop) : (evF Tryd.prog (look tab11) (lam []) false Tryd.f71
  [AV.agg [AV.bool s, AV.dig [(1 : Nat)] m, AV.num IntKind.i64 e]] Q) =
  (bif !Dy.mayD (Dy.Dyd.mk s m e) then
  Q (AV.tup [AV.agg [AV.bool false, AV.dig [(0 : Nat)] [], AV.num IntKind.i64 (0 : Int)], AV.num IntKind.i64 (2 : Int)])
 else
  m.length ≤ (1048576 : Nat) ∧
  ∀ (b1 : Bool),
  b1 = (!s && decide (m ≠ [])) →
  ∀ (l2 : List Nat),
  l2 = m →
  ∀ (n3 : Int),
  n3 = e →
  Q
  (AV.tup
  [AV.agg [AV.bool b1, AV.dig [(0 : Nat)] l2, AV.num IntKind.i64 n3],
  AV.num IntKind.i64 (0 : Int)])) := by kernel_rfl
theorem vc_dyad_sizes (s : Bool) (s' : Bool) (m : List
  Nat) (m' : List
  Nat) (e : Int) (e' : Int) (Q : AV →
  Prop) : (evF Tryd.prog (look tab11) (lam []) false Tryd.f59
  [AV.agg [AV.bool s, AV.dig [(1 : Nat)] m, AV.num IntKind.i64 e],
  AV.agg [AV.bool s', AV.dig [(2 : Nat)] m', AV.num IntKind.i64 e']]
  Q) =
  (bif
  decide
  ((if Dy.mayD (Dy.Dyd.mk s m e) = true then Dy.topD (Dy.Dyd.mk s m e) else (0 : Int)) <
  if Dy.mayD (Dy.Dyd.mk s' m' e') = true then Dy.topD (Dy.Dyd.mk s' m' e') else (0 : Int)) then
  Q (AV.num IntKind.i64 (-1 : Int))
 else
  bif
  decide
  ((if Dy.mayD (Dy.Dyd.mk s m e) = true then Dy.topD (Dy.Dyd.mk s m e) else (0 : Int)) >
  if Dy.mayD (Dy.Dyd.mk s' m' e') = true then Dy.topD (Dy.Dyd.mk s' m' e') else (0 : Int)) then
  Q (AV.num IntKind.i64 (1 : Int))
  else
  bif decide (IntKind.i64.wrap ((↑(Dy.lenN m) : Int) - (↑(Dy.lenN m') : Int)) > (0 : Int)) then
  ∀ (l1 : List Nat),
  l1 = (Dy.shiftN m' (IntKind.i64.wrap ((↑(Dy.lenN m) : Int) - (↑(Dy.lenN m') : Int)))).mag →
  ∀ (b2 : Bool),
  b2 = (Dy.shiftN m' (IntKind.i64.wrap ((↑(Dy.lenN m) : Int) - (↑(Dy.lenN m') : Int)))).lost →
  ∀ (n3 : Int),
  n3 = (Dy.shiftN m' (IntKind.i64.wrap ((↑(Dy.lenN m) : Int) - (↑(Dy.lenN m') : Int)))).err →
  ∀ (n4 : Int),
  n4 = (Dy.cmpR m l1).fst → ∀ (n5 : Int), n5 = (Dy.cmpR m l1).snd → Q (AV.num IntKind.i64 n4)
  else
  ∀ (l6 : List Nat),
  l6 =
  (Dy.shiftN m
  (IntKind.i64.wrap ((0 : Int) - IntKind.i64.wrap ((↑(Dy.lenN m) : Int) - (↑(Dy.lenN m') : Int))))).mag →
  ∀ (b7 : Bool),
  b7 =
  (Dy.shiftN m
  (IntKind.i64.wrap
  ((0 : Int) - IntKind.i64.wrap ((↑(Dy.lenN m) : Int) - (↑(Dy.lenN m') : Int))))).lost →
  ∀ (n8 : Int),
  n8 =
  (Dy.shiftN m
  (IntKind.i64.wrap
  ((0 : Int) - IntKind.i64.wrap ((↑(Dy.lenN m) : Int) - (↑(Dy.lenN m') : Int))))).err →
  ∀ (n9 : Int),
  n9 = (Dy.cmpR l6 m').fst →
  ∀ (n10 : Int), n10 = (Dy.cmpR l6 m').snd → Q (AV.num IntKind.i64 n9)) := by kernel_rfl
theorem vc_dyad_Cmp (s : Bool) (s' : Bool) (m : List
  Nat) (m' : List
  Nat) (e : Int) (e' : Int) (Q : AV →
  Prop) : (evF Tryd.prog (look tab12) (lam []) false Tryd.f38
  [AV.agg [AV.bool s, AV.dig [(1 : Nat)] m, AV.num IntKind.i64 e],
  AV.agg [AV.bool s', AV.dig [(2 : Nat)] m', AV.num IntKind.i64 e']]
  Q) =
  (bif !(Dy.mayD (Dy.Dyd.mk s m e) && Dy.mayD (Dy.Dyd.mk s' m' e')) then
  Q (AV.tup [AV.num IntKind.i64 (0 : Int), AV.num IntKind.i64 (2 : Int)])
 else
  bif
  decide
  ((if Dy.mayD (Dy.Dyd.mk s m e) = true then Dy.signD (Dy.Dyd.mk s m e) else (0 : Int)) <
  if Dy.mayD (Dy.Dyd.mk s' m' e') = true then Dy.signD (Dy.Dyd.mk s' m' e') else (0 : Int)) then
  Q (AV.tup [AV.num IntKind.i64 (-1 : Int), AV.num IntKind.i64 (0 : Int)])
  else
  bif
  decide
  ((if Dy.mayD (Dy.Dyd.mk s m e) = true then Dy.signD (Dy.Dyd.mk s m e) else (0 : Int)) >
  if Dy.mayD (Dy.Dyd.mk s' m' e') = true then Dy.signD (Dy.Dyd.mk s' m' e') else (0 : Int)) then
  Q (AV.tup [AV.num IntKind.i64 (1 : Int), AV.num IntKind.i64 (0 : Int)])
  else
  (Dy.mayD (Dy.Dyd.mk s m e) = true ∧ Dy.mayD (Dy.Dyd.mk s' m' e') = true ∧ (m = [] ↔ m' = [])) ∧
  Q
  (AV.tup
  [AV.num IntKind.i64
  (IntKind.i64.wrap
  ((if Dy.mayD (Dy.Dyd.mk s m e) = true then Dy.signD (Dy.Dyd.mk s m e) else (0 : Int)) *
  Dy.cmpZ (↑(Dy.val m * (2 : Nat) ^ (e - min e e').toNat) : Int)
  (↑(Dy.val m' * (2 : Nat) ^ (e' - min e e').toNat) : Int))),
  AV.num IntKind.i64 (0 : Int)])) := by kernel_rfl
theorem vc_dyad_halved (p : Bool) (x : List
  Nat) (y : List
  Nat) (e : Int) (Q : AV →
  Prop) : (evF Tryd.prog (look tab11) (lam []) false Tryd.f95
  [AV.bool p, AV.dig [(2 : Nat)] x, AV.dig [(3 : Nat)] y, AV.num IntKind.i64 e] Q) =
  (((0 : Int) ≤ (0 : Int) ∧ (0 : Int) < (↑x.length : Int)) ∧
  ((0 : Int) ≤ (0 : Int) ∧ (0 : Int) < (↑y.length : Int)) ∧
  bif
  !decide
  (IntKind.u32.wrap
  (↑(BitVec.ofInt (32 : Nat) (↑(x.getD (0 : Nat) (0 : Nat)) : Int) &&&
  BitVec.ofInt (32 : Nat) (1 : Int)).toNat :
  Int) =
  IntKind.u32.wrap
  (↑(BitVec.ofInt (32 : Nat) (↑(y.getD (0 : Nat) (0 : Nat)) : Int) &&&
  BitVec.ofInt (32 : Nat) (1 : Int)).toNat :
  Int)) then
  Q
  (AV.tup
  [AV.agg [AV.bool false, AV.dig [(0 : Nat)] [], AV.num IntKind.i64 (0 : Int)], AV.num IntKind.i64 (3 : Int)])
  else
  ∀ (l1 : List Nat),
  l1 = (Dy.shiftN x (-1 : Int)).mag →
  ∀ (b2 : Bool),
  b2 = (Dy.shiftN x (-1 : Int)).lost →
  ∀ (n3 : Int),
  n3 = (Dy.shiftN x (-1 : Int)).err →
  ∀ (l4 : List Nat),
  l4 = (Dy.shiftN y (-1 : Int)).mag →
  ∀ (b5 : Bool),
  b5 = (Dy.shiftN y (-1 : Int)).lost →
  ∀ (n6 : Int),
  n6 = (Dy.shiftN y (-1 : Int)).err →
  ∀ (l7 : List Nat),
  l7 = (Dy.addR l1 l4).fst →
  ∀ (n8 : Int),
  n8 = (Dy.addR l1 l4).snd →
  ((0 : Int) ≤ (0 : Int) ∧ (0 : Int) < (↑x.length : Int)) ∧
  bif
  decide
  (IntKind.u32.wrap
  (↑(BitVec.ofInt (32 : Nat) (↑(x.getD (0 : Nat) (0 : Nat)) : Int) &&&
  BitVec.ofInt (32 : Nat) (1 : Int)).toNat :
  Int) =
  (1 : Int)) then
  ∀ (l9 : List Nat),
  l9 = (Dy.addR l7 (Dy.dg (1 : Nat))).fst →
  ∀ (n10 : Int),
  n10 = (Dy.addR l7 (Dy.dg (1 : Nat))).snd →
  ∀ (b11 : Bool),
  b11 = (Dy.makeD p l9 (IntKind.i64.wrap (e + (1 : Int)))).1.neg →
  ∀ (l12 : List Nat),
  l12 = (Dy.makeD p l9 (IntKind.i64.wrap (e + (1 : Int)))).1.mag →
  ∀ (n13 : Int),
  n13 =
  (Dy.makeD p l9
  (IntKind.i64.wrap (e + (1 : Int)))).1.exp →
  ∀ (n14 : Int),
  n14 =
  (Dy.makeD p l9
  (IntKind.i64.wrap (e + (1 : Int)))).snd →
  Q
  (AV.tup
  [AV.agg
  [AV.bool b11, AV.dig [(0 : Nat)] l12,
  AV.num IntKind.i64 n13],
  AV.num IntKind.i64 n14])
  else
  ∀ (b15 : Bool),
  b15 = (Dy.makeD p l7 (IntKind.i64.wrap (e + (1 : Int)))).1.neg →
  ∀ (l16 : List Nat),
  l16 = (Dy.makeD p l7 (IntKind.i64.wrap (e + (1 : Int)))).1.mag →
  ∀ (n17 : Int),
  n17 = (Dy.makeD p l7 (IntKind.i64.wrap (e + (1 : Int)))).1.exp →
  ∀ (n18 : Int),
  n18 = (Dy.makeD p l7 (IntKind.i64.wrap (e + (1 : Int)))).snd →
  Q
  (AV.tup
  [AV.agg
  [AV.bool b15, AV.dig [(0 : Nat)] l16,
  AV.num IntKind.i64 n17],
  AV.num IntKind.i64 n18])) := by kernel_rfl
theorem vc_dyad_join (p : Bool) (q : Bool) (x : List
  Nat) (y : List
  Nat) (e : Int) (Q : AV →
  Prop) : (evF Tryd.prog (look tab12) (lam []) false Tryd.f93
  [AV.bool p, AV.dig [(2 : Nat)] x, AV.bool q, AV.dig [(4 : Nat)] y, AV.num IntKind.i64 e] Q) =
  (bif decide (p = q) then
  ∀ (l1 : List Nat),
  l1 = (Dy.addR x y).fst →
  ∀ (n2 : Int),
  n2 = (Dy.addR x y).snd →
  bif !decide (n2 = (0 : Int)) then
  (Dy.may x = true ∧
  Dy.may y = true ∧ Dy.inside e = true ∧ (4096 : Nat) < (Dy.dg (Dy.val x + Dy.val y)).length) ∧
  ∀ (b3 : Bool),
  b3 = (Dy.boundD (Dy.form p (Dy.val x + Dy.val y) e)).1.neg →
  ∀ (l4 : List Nat),
  l4 = (Dy.boundD (Dy.form p (Dy.val x + Dy.val y) e)).1.mag →
  ∀ (n5 : Int),
  n5 = (Dy.boundD (Dy.form p (Dy.val x + Dy.val y) e)).1.exp →
  ∀ (n6 : Int),
  n6 = (Dy.boundD (Dy.form p (Dy.val x + Dy.val y) e)).snd →
  Q
  (AV.tup
  [AV.agg [AV.bool b3, AV.dig [(0 : Nat)] l4, AV.num IntKind.i64 n5],
  AV.num IntKind.i64 n6])
  else
  ∀ (b7 : Bool),
  b7 = (Dy.makeD p l1 e).1.neg →
  ∀ (l8 : List Nat),
  l8 = (Dy.makeD p l1 e).1.mag →
  ∀ (n9 : Int),
  n9 = (Dy.makeD p l1 e).1.exp →
  ∀ (n10 : Int),
  n10 = (Dy.makeD p l1 e).snd →
  Q
  (AV.tup
  [AV.agg [AV.bool b7, AV.dig [(0 : Nat)] l8, AV.num IntKind.i64 n9],
  AV.num IntKind.i64 n10])
 else
  ∀ (n11 : Int),
  n11 = (Dy.cmpR x y).fst →
  ∀ (n12 : Int),
  n12 = (Dy.cmpR x y).snd →
  bif decide (n11 < (0 : Int)) then
  ∀ (l13 : List Nat),
  l13 = (Dy.subR y x).fst →
  ∀ (n14 : Int),
  n14 = (Dy.subR y x).snd →
  ∀ (b15 : Bool),
  b15 = (Dy.makeD q l13 e).1.neg →
  ∀ (l16 : List Nat),
  l16 = (Dy.makeD q l13 e).1.mag →
  ∀ (n17 : Int),
  n17 = (Dy.makeD q l13 e).1.exp →
  ∀ (n18 : Int),
  n18 = (Dy.makeD q l13 e).snd →
  Q
  (AV.tup
  [AV.agg [AV.bool b15, AV.dig [(0 : Nat)] l16, AV.num IntKind.i64 n17],
  AV.num IntKind.i64 n18])
  else
  ∀ (l19 : List Nat),
  l19 = (Dy.subR x y).fst →
  ∀ (n20 : Int),
  n20 = (Dy.subR x y).snd →
  ∀ (b21 : Bool),
  b21 = (Dy.makeD p l19 e).1.neg →
  ∀ (l22 : List Nat),
  l22 = (Dy.makeD p l19 e).1.mag →
  ∀ (n23 : Int),
  n23 = (Dy.makeD p l19 e).1.exp →
  ∀ (n24 : Int),
  n24 = (Dy.makeD p l19 e).snd →
  Q
  (AV.tup
  [AV.agg [AV.bool b21, AV.dig [(0 : Nat)] l22, AV.num IntKind.i64 n23],
  AV.num IntKind.i64 n24])) := by kernel_rfl
theorem vc_dyad_add (s : Bool) (s' : Bool) (m : List
  Nat) (m' : List
  Nat) (e : Int) (e' : Int) (Q : AV →
  Prop) : (evF Tryd.prog (look tab13) (lam []) false Tryd.f83
  [AV.agg [AV.bool s, AV.dig [(1 : Nat)] m, AV.num IntKind.i64 e],
  AV.agg [AV.bool s', AV.dig [(2 : Nat)] m', AV.num IntKind.i64 e']]
  Q) =
  (bif decide ((↑m.length : Int) = (0 : Int)) then
  m'.length ≤ (1048576 : Nat) ∧
  ∀ (b1 : Bool),
  b1 = s' →
  ∀ (l2 : List Nat),
  l2 = m' →
  ∀ (n3 : Int),
  n3 = e' →
  Q
  (AV.tup
  [AV.agg [AV.bool b1, AV.dig [(0 : Nat)] l2, AV.num IntKind.i64 n3], AV.num IntKind.i64 (0 : Int)])
 else
  bif decide ((↑m'.length : Int) = (0 : Int)) then
  m.length ≤ (1048576 : Nat) ∧
  ∀ (b4 : Bool),
  b4 = s →
  ∀ (l5 : List Nat),
  l5 = m →
  ∀ (n6 : Int),
  n6 = e →
  Q
  (AV.tup
  [AV.agg [AV.bool b4, AV.dig [(0 : Nat)] l5, AV.num IntKind.i64 n6], AV.num IntKind.i64 (0 : Int)])
  else
  bif decide (e < e') then
  bif decide (IntKind.i64.wrap (IntKind.i64.wrap (e' - e) + (↑(Dy.lenN m') : Int)) > (131073 : Int)) then
  Q
  (AV.tup
  [AV.agg [AV.bool false, AV.dig [(0 : Nat)] [], AV.num IntKind.i64 (0 : Int)], AV.num IntKind.i64 (3 : Int)])
  else
  bif decide (IntKind.i64.wrap (IntKind.i64.wrap (e' - e) + (↑(Dy.lenN m') : Int)) > (131072 : Int)) then
  (Dy.mayD (Dy.Dyd.mk s' m' e') = true ∧
  Dy.mayD (Dy.Dyd.mk s m e) = true ∧
  m' ≠ [] ∧
  m ≠ [] ∧
  IntKind.i64.wrap (e' - e) = e' - e ∧
  (1 : Int) ≤ IntKind.i64.wrap (e' - e) ∧
  IntKind.i64.wrap (e' - e) + (↑(Dy.bl (Dy.val m')) : Int) = (131073 : Int)) ∧
  ∀ (b7 : Bool),
  b7 = (Dy.boundD (Dy.addD (Dy.Dyd.mk s' m' e') (Dy.Dyd.mk s m e))).1.neg →
  ∀ (l8 : List Nat),
  l8 = (Dy.boundD (Dy.addD (Dy.Dyd.mk s' m' e') (Dy.Dyd.mk s m e))).1.mag →
  ∀ (n9 : Int),
  n9 = (Dy.boundD (Dy.addD (Dy.Dyd.mk s' m' e') (Dy.Dyd.mk s m e))).1.exp →
  ∀ (n10 : Int),
  n10 = (Dy.boundD (Dy.addD (Dy.Dyd.mk s' m' e') (Dy.Dyd.mk s m e))).snd →
  Q
  (AV.tup
  [AV.agg [AV.bool b7, AV.dig [(0 : Nat)] l8, AV.num IntKind.i64 n9],
  AV.num IntKind.i64 n10])
  else
  ∀ (l11 : List Nat),
  l11 = (Dy.shiftN m' (IntKind.i64.wrap (e' - e))).mag →
  ∀ (b12 : Bool),
  b12 = (Dy.shiftN m' (IntKind.i64.wrap (e' - e))).lost →
  ∀ (n13 : Int),
  n13 = (Dy.shiftN m' (IntKind.i64.wrap (e' - e))).err →
  (Dy.may l11 = true ∧ Dy.may m = true ∧ l11 ≠ [] ∧ m ≠ [] ∧ Dy.inside e = true) ∧
  ∀ (b14 : Bool),
  b14 =
  (Dy.boundD
  (Dy.formZ ((Dy.Dyd.mk s' l11 (0 : Int)).int + (Dy.Dyd.mk s m (0 : Int)).int)
  e)).1.neg →
  ∀ (l15 : List Nat),
  l15 =
  (Dy.boundD
  (Dy.formZ ((Dy.Dyd.mk s' l11 (0 : Int)).int + (Dy.Dyd.mk s m (0 : Int)).int)
  e)).1.mag →
  ∀ (n16 : Int),
  n16 =
  (Dy.boundD
  (Dy.formZ ((Dy.Dyd.mk s' l11 (0 : Int)).int + (Dy.Dyd.mk s m (0 : Int)).int)
  e)).1.exp →
  ∀ (n17 : Int),
  n17 =
  (Dy.boundD
  (Dy.formZ
  ((Dy.Dyd.mk s' l11 (0 : Int)).int + (Dy.Dyd.mk s m (0 : Int)).int)
  e)).snd →
  Q
  (AV.tup
  [AV.agg [AV.bool b14, AV.dig [(0 : Nat)] l15, AV.num IntKind.i64 n16],
  AV.num IntKind.i64 n17])
  else
  bif decide (IntKind.i64.wrap (IntKind.i64.wrap (e - e') + (↑(Dy.lenN m) : Int)) > (131073 : Int)) then
  Q
  (AV.tup
  [AV.agg [AV.bool false, AV.dig [(0 : Nat)] [], AV.num IntKind.i64 (0 : Int)], AV.num IntKind.i64 (3 : Int)])
  else
  bif decide (IntKind.i64.wrap (IntKind.i64.wrap (e - e') + (↑(Dy.lenN m) : Int)) > (131072 : Int)) then
  (Dy.mayD (Dy.Dyd.mk s m e) = true ∧
  Dy.mayD (Dy.Dyd.mk s' m' e') = true ∧
  m ≠ [] ∧
  m' ≠ [] ∧
  IntKind.i64.wrap (e - e') = e - e' ∧
  (1 : Int) ≤ IntKind.i64.wrap (e - e') ∧
  IntKind.i64.wrap (e - e') + (↑(Dy.bl (Dy.val m)) : Int) = (131073 : Int)) ∧
  ∀ (b18 : Bool),
  b18 = (Dy.boundD (Dy.addD (Dy.Dyd.mk s m e) (Dy.Dyd.mk s' m' e'))).1.neg →
  ∀ (l19 : List Nat),
  l19 = (Dy.boundD (Dy.addD (Dy.Dyd.mk s m e) (Dy.Dyd.mk s' m' e'))).1.mag →
  ∀ (n20 : Int),
  n20 = (Dy.boundD (Dy.addD (Dy.Dyd.mk s m e) (Dy.Dyd.mk s' m' e'))).1.exp →
  ∀ (n21 : Int),
  n21 = (Dy.boundD (Dy.addD (Dy.Dyd.mk s m e) (Dy.Dyd.mk s' m' e'))).snd →
  Q
  (AV.tup
  [AV.agg [AV.bool b18, AV.dig [(0 : Nat)] l19, AV.num IntKind.i64 n20],
  AV.num IntKind.i64 n21])
  else
  ∀ (l22 : List Nat),
  l22 = (Dy.shiftN m (IntKind.i64.wrap (e - e'))).mag →
  ∀ (b23 : Bool),
  b23 = (Dy.shiftN m (IntKind.i64.wrap (e - e'))).lost →
  ∀ (n24 : Int),
  n24 = (Dy.shiftN m (IntKind.i64.wrap (e - e'))).err →
  (Dy.may l22 = true ∧ Dy.may m' = true ∧ l22 ≠ [] ∧ m' ≠ [] ∧ Dy.inside e' = true) ∧
  ∀ (b25 : Bool),
  b25 =
  (Dy.boundD
  (Dy.formZ ((Dy.Dyd.mk s l22 (0 : Int)).int + (Dy.Dyd.mk s' m' (0 : Int)).int)
  e')).1.neg →
  ∀ (l26 : List Nat),
  l26 =
  (Dy.boundD
  (Dy.formZ ((Dy.Dyd.mk s l22 (0 : Int)).int + (Dy.Dyd.mk s' m' (0 : Int)).int)
  e')).1.mag →
  ∀ (n27 : Int),
  n27 =
  (Dy.boundD
  (Dy.formZ
  ((Dy.Dyd.mk s l22 (0 : Int)).int + (Dy.Dyd.mk s' m' (0 : Int)).int)
  e')).1.exp →
  ∀ (n28 : Int),
  n28 =
  (Dy.boundD
  (Dy.formZ
  ((Dy.Dyd.mk s l22 (0 : Int)).int + (Dy.Dyd.mk s' m' (0 : Int)).int)
  e')).snd →
  Q
  (AV.tup
  [AV.agg [AV.bool b25, AV.dig [(0 : Nat)] l26, AV.num IntKind.i64 n27],
  AV.num IntKind.i64 n28])) := by kernel_rfl
theorem vc_dyad_Add (s : Bool) (s' : Bool) (m : List
  Nat) (m' : List
  Nat) (e : Int) (e' : Int) (Q : AV →
  Prop) : (evF Tryd.prog (look tab14) (lam []) false Tryd.f70
  [AV.agg [AV.bool s, AV.dig [(1 : Nat)] m, AV.num IntKind.i64 e],
  AV.agg [AV.bool s', AV.dig [(2 : Nat)] m', AV.num IntKind.i64 e']]
  Q) =
  (bif !(Dy.mayD (Dy.Dyd.mk s m e) && Dy.mayD (Dy.Dyd.mk s' m' e')) then
  Q (AV.tup [AV.agg [AV.bool false, AV.dig [(0 : Nat)] [], AV.num IntKind.i64 (0 : Int)], AV.num IntKind.i64 (2 : Int)])
 else
  (Dy.mayD (Dy.Dyd.mk s m e) = true ∧ Dy.mayD (Dy.Dyd.mk s' m' e') = true) ∧
  ∀ (b1 : Bool),
  b1 = (Dy.boundD (Dy.addD (Dy.Dyd.mk s m e) (Dy.Dyd.mk s' m' e'))).1.neg →
  ∀ (l2 : List Nat),
  l2 = (Dy.boundD (Dy.addD (Dy.Dyd.mk s m e) (Dy.Dyd.mk s' m' e'))).1.mag →
  ∀ (n3 : Int),
  n3 = (Dy.boundD (Dy.addD (Dy.Dyd.mk s m e) (Dy.Dyd.mk s' m' e'))).1.exp →
  ∀ (n4 : Int),
  n4 = (Dy.boundD (Dy.addD (Dy.Dyd.mk s m e) (Dy.Dyd.mk s' m' e'))).snd →
  Q
  (AV.tup
  [AV.agg [AV.bool b1, AV.dig [(0 : Nat)] l2, AV.num IntKind.i64 n3],
  AV.num IntKind.i64 n4])) := by kernel_rfl
theorem vc_dyad_Sub (s : Bool) (s' : Bool) (m : List
  Nat) (m' : List
  Nat) (e : Int) (e' : Int) (Q : AV →
  Prop) : (evF Tryd.prog (look tab14) (lam []) false Tryd.f68
  [AV.agg [AV.bool s, AV.dig [(1 : Nat)] m, AV.num IntKind.i64 e],
  AV.agg [AV.bool s', AV.dig [(2 : Nat)] m', AV.num IntKind.i64 e']]
  Q) =
  (bif !(Dy.mayD (Dy.Dyd.mk s m e) && Dy.mayD (Dy.Dyd.mk s' m' e')) then
  Q (AV.tup [AV.agg [AV.bool false, AV.dig [(0 : Nat)] [], AV.num IntKind.i64 (0 : Int)], AV.num IntKind.i64 (2 : Int)])
 else
  m'.length ≤ (1048576 : Nat) ∧
  ∀ (b1 : Bool),
  b1 = (!s' && decide (m' ≠ [])) →
  ∀ (l2 : List Nat),
  l2 = m' →
  ∀ (n3 : Int),
  n3 = e' →
  (Dy.mayD (Dy.Dyd.mk s m e) = true ∧ Dy.mayD (Dy.Dyd.mk b1 l2 n3) = true) ∧
  ∀ (b4 : Bool),
  b4 = (Dy.boundD (Dy.addD (Dy.Dyd.mk s m e) (Dy.Dyd.mk b1 l2 n3))).1.neg →
  ∀ (l5 : List Nat),
  l5 = (Dy.boundD (Dy.addD (Dy.Dyd.mk s m e) (Dy.Dyd.mk b1 l2 n3))).1.mag →
  ∀ (n6 : Int),
  n6 = (Dy.boundD (Dy.addD (Dy.Dyd.mk s m e) (Dy.Dyd.mk b1 l2 n3))).1.exp →
  ∀ (n7 : Int),
  n7 = (Dy.boundD (Dy.addD (Dy.Dyd.mk s m e) (Dy.Dyd.mk b1 l2 n3))).snd →
  Q
  (AV.tup
  [AV.agg [AV.bool b4, AV.dig [(0 : Nat)] l5, AV.num IntKind.i64 n6],
  AV.num IntKind.i64 n7])) := by kernel_rfl
theorem vc_dyad_Mul (s : Bool) (s' : Bool) (m : List
  Nat) (m' : List
  Nat) (e : Int) (e' : Int) (Q : AV →
  Prop) : (evF Tryd.prog (look tab11) (lam []) false Tryd.f73
  [AV.agg [AV.bool s, AV.dig [(1 : Nat)] m, AV.num IntKind.i64 e],
  AV.agg [AV.bool s', AV.dig [(2 : Nat)] m', AV.num IntKind.i64 e']]
  Q) =
  (bif !(Dy.mayD (Dy.Dyd.mk s m e) && Dy.mayD (Dy.Dyd.mk s' m' e')) then
  Q (AV.tup [AV.agg [AV.bool false, AV.dig [(0 : Nat)] [], AV.num IntKind.i64 (0 : Int)], AV.num IntKind.i64 (2 : Int)])
 else
  ∀ (l1 : List Nat),
  l1 = (Dy.mulR m m').fst →
  ∀ (n2 : Int),
  n2 = (Dy.mulR m m').snd →
  bif !decide (n2 = (0 : Int)) then
  Q
  (AV.tup
  [AV.agg [AV.bool false, AV.dig [(0 : Nat)] [], AV.num IntKind.i64 (0 : Int)], AV.num IntKind.i64 n2])
  else
  ∀ (b3 : Bool),
  b3 = (Dy.makeD (!s == s') l1 (IntKind.i64.wrap (e + e'))).1.neg →
  ∀ (l4 : List Nat),
  l4 = (Dy.makeD (!s == s') l1 (IntKind.i64.wrap (e + e'))).1.mag →
  ∀ (n5 : Int),
  n5 = (Dy.makeD (!s == s') l1 (IntKind.i64.wrap (e + e'))).1.exp →
  ∀ (n6 : Int),
  n6 = (Dy.makeD (!s == s') l1 (IntKind.i64.wrap (e + e'))).snd →
  Q
  (AV.tup
  [AV.agg [AV.bool b3, AV.dig [(0 : Nat)] l4, AV.num IntKind.i64 n5],
  AV.num IntKind.i64 n6])) := by kernel_rfl
end Go.AI

namespace Go.AI
open Go Go.RowKit Go.Proofs
set_option linter.unusedVariables false
set_option maxRecDepth 100000
theorem oks1_agg {cs r : List AV} (h : AV.oks (.agg cs :: r)) : AV.oks cs ∧ AV.oks r := by simp only [AV.oks, AV.ok] at h ⊢; exact h
theorem oks1_bool {b : Bool} {r : List AV} (h : AV.oks (.bool b :: r)) : AV.oks r := by simp only [AV.oks, AV.ok] at h ⊢; exact h.2
theorem oks_d {s : Bool} {p m : List Nat} {e : Int} {r : List AV} (h : AV.oks (.agg [.bool s, .dig p m, .num .i64 e] :: r)) : Dy.okl m ∧ (-9223372036854775808 ≤ e ∧ e < 9223372036854775808) ∧ AV.oks r := by
  obtain ⟨h1, h2⟩ := oks1_agg h
  obtain ⟨h3, h4⟩ := oks1_dig (oks1_bool h1)
  exact ⟨h3, range_i64 (oks1_num h4).1, h2⟩
/-- the lowest bit -/
theorem low_bit {l : List Nat} (h : Dy.digs l) : IntKind.u32.wrap ((BitVec.ofInt 32 ((l.getD 0 0 : Nat) : Int) &&& BitVec.ofInt 32 1).toNat : Int) = ((Dy.val l % 2 : Nat) : Int) := by
  have := Dy.digs_getD h 0
  rw [w32_and (by omega) (by omega) (by omega) (by omega)]
  rw [Int.toNat_natCast, show (1 : Int).toNat = 1 from rfl, Nat.and_one_is_mod, ← Dy.val_mod h]
  have : Dy.val l % 4294967296 % 2 = Dy.val l % 2 := by omega
  rw [this]
theorem ok_dyad_inside (args : List AV) (s : Spec) (h : dInside args = some s) (hp : andO s.pre True) : Contract Tryd.prog Inv 25 args s.res := by
  unfold dInside at h
  split at h
  · cases h
    rename_i e
    refine contract0 false ok_tab8 Tryd.func25 (by kernel_rfl) (by kernel_rfl) fun hok => ?_
    rw [vc_dyad_inside]
    unfold Dy.inside
    refine cond_i (fun h => ?_) (fun h => ?_)
    · have h := of_decide_eq_true h
      simp only [h, true_and]
    · have h := of_decide_eq_false h
      simp only [h, false_and, decide_false]
  · cases h
theorem ok_tab9 : PhiOk Tryd.prog Inv (look tab9) := look_cons ok_tab8 ok_dyad_inside
theorem ok_dyad_May (args : List AV) (s : Spec) (h : dMay args = some s) (hp : andO s.pre True) : Contract Tryd.prog Inv 13 args s.res := by
  unfold dMay at h
  split at h
  · cases h
    rename_i s m e
    refine contract0 false ok_tab9 Tryd.func13 (by kernel_rfl) (by kernel_rfl) fun hok => ?_
    obtain ⟨hm, he, -⟩ := oks_d hok
    rw [vc_dyad_May, low_bit hm.2]
    unfold Dy.mayD
    refine cond_i (fun h => ?_) (fun h => cond_i (fun h1 => cond_i (fun h2 => ?_) (fun h2 => ?_)) (fun h1 => ⟨?_, cond_i (fun h2 => ?_) (fun h2 => ?_)⟩))
    · simp only [Bool.not_eq_true'] at h
      simp only [h, Bool.false_and]
    · simp only [Bool.not_eq_false'] at h
      have h1 := List.length_eq_zero_iff.1 (Int.ofNat_eq_zero.1 (of_decide_eq_true h1))
      subst h1
      simp only [h, if_true, h2, Bool.true_and]
    · simp only [Bool.not_eq_false'] at h
      have h1 := List.length_eq_zero_iff.1 (Int.ofNat_eq_zero.1 (of_decide_eq_true h1))
      subst h1
      simp only [h, if_true, h2, Bool.true_and, Bool.false_and]
    · have h1 := of_decide_eq_false h1
      omega
    · simp only [Bool.not_eq_false'] at h
      have h1 := of_decide_eq_false h1
      have h2 := of_decide_eq_true h2
      have h1' : m ≠ [] := fun e => h1 (by rw [e]; rfl)
      simp only [h, if_neg h1', Bool.true_and]
      rw [decide_eq_true (by omega), Bool.true_and]
    · simp only [Bool.not_eq_false'] at h
      have h1 := of_decide_eq_false h1
      have h2 := of_decide_eq_false h2
      have h1' : m ≠ [] := fun e => h1 (by rw [e]; rfl)
      simp only [h, if_neg h1', Bool.true_and]
      rw [decide_eq_false (by omega), Bool.false_and]
  · cases h
theorem ok_dyad_own (args : List AV) (s : Spec) (h : dOwn args = some s) (hp : andO s.pre True) : Contract Tryd.prog Inv 43 args s.res := by
  unfold dOwn at h
  split at h
  · cases h
    rename_i s m e
    have hp := hp.1
    refine contract0 false ok_tab9 Tryd.func43 (by kernel_rfl) (by kernel_rfl) fun hok => ?_
    rw [vc_dyad_own]
    exact ⟨by omega, rfl⟩
  · cases h
theorem ok_tab10 : PhiOk Tryd.prog Inv (look tab10) := look_cons (look_cons ok_tab9 ok_dyad_May) ok_dyad_own
theorem ok_dyad_both (args : List AV) (s : Spec) (h : dBoth args = some s) (hp : andO s.pre True) : Contract Tryd.prog Inv 58 args s.res := by
  unfold dBoth at h
  split at h
  · cases h
    rename_i s m e s' m' e'
    refine contract_at false _ (lam [(2, .unroll 3)]) ok_tab10 Tryd.func58 (by kernel_rfl) rfl (loops1u (k := 3) (by kernel_rfl) (by kernel_rfl)) fun hok => ?_
    rw [vc_dyad_both]
    refine ⟨by simp, cond_i (fun h => ?_) (fun h => ⟨by rw [wrap_i64 (by omega) (by omega)]; simp, cond_i (fun h' => ?_) (fun h' => ?_)⟩)⟩
    · simp at h; rw [h]; rfl
    · simp at h h'; rw [h, h']; rfl
    · simp at h h'; rw [h, h']; rfl
  · cases h
theorem ok_dyad_Make (args : List AV) (s : Spec) (h : dMake args = some s) (hp : andO s.pre True) : Contract Tryd.prog Inv 45 args s.res := by
  unfold dMake at h
  split at h
  · cases h
    rename_i s m e
    refine contract0 false ok_tab10 Tryd.func45 (by kernel_rfl) (by kernel_rfl) fun hok => ?_
    obtain ⟨hm, h5⟩ := oks1_dig (oks1_bool hok)
    have he := range_i64 (oks1_num h5).1
    rw [vc_dyad_Make]
    unfold Dy.makeD
    refine cond_i (fun h => ?_) (fun h => ?_)
    · simp only [Bool.not_eq_true'] at h
      rw [h]; rfl
    · simp only [Bool.not_eq_false'] at h
      simp only [h, if_true]
      refine cond_i (fun h1 => ?_) (fun h1 => ?_)
      · have h1 := List.length_eq_zero_iff.1 (Int.ofNat_eq_zero.1 (of_decide_eq_true h1))
        subst h1
        rfl
      · have h1 := of_decide_eq_false h1
        have h1' : m ≠ [] := fun e => h1 (by rw [e]; rfl)
        have hv := Dy.val_ne h h1'
        have hb := Dy.may_bl h
        have ht := Dy.tz_lt_bl hv
        have hlow : Dy.lowN m = Dy.tz (Dy.val m) := by unfold Dy.lowN; rw [if_pos h]
        have hlen : (Dy.dg (Dy.val m / 2 ^ Dy.tz (Dy.val m))).length ≤ 4096 := by
          rw [Dy.len_bl, Dy.bl_div_two_pow]; omega
        rw [hlow, wrap_i64 (by omega) (by omega), wrap_i64 (by omega) (by omega), wrap_i64 (by omega) (by omega), Dy.form_pos hv]
        unfold Dy.boundD
        simp only [if_pos hlen]
        have hz : ∀ c : Bool, Dy.inside (e + (Dy.tz (Dy.val m) : Int)) = c → (if Dy.inside (e + (Dy.tz (Dy.val m) : Int)) = true then ((⟨s, Dy.dg (Dy.val m / 2 ^ Dy.tz (Dy.val m)), e + (Dy.tz (Dy.val m) : Int)⟩ : Dy.Dyd), (0 : Int)) else (Dy.zeroD, 20)) = if c = true then (⟨s, Dy.dg (Dy.val m / 2 ^ Dy.tz (Dy.val m)), e + (Dy.tz (Dy.val m) : Int)⟩, 0) else (Dy.zeroD, 20) := fun c hc => by rw [hc]
        refine cond_i (fun h2 => ?_) (fun h2 => cond_i (fun h3 => ?_) (fun h3 => ?_))
        · have h2 := of_decide_eq_true h2
          rw [hz false (by rw [← Bool.not_eq_true, Dy.inside_iff]; omega)]
          rfl
        · have h3 := of_decide_eq_true h3
          rw [hz false (by rw [← Bool.not_eq_true, Dy.inside_iff]; omega)]
          rfl
        · have h2 := of_decide_eq_false h2
          have h3 := of_decide_eq_false h3
          rw [hz true (by rw [Dy.inside_iff]; omega)]
          rw [show (0 : Int) - (Dy.tz (Dy.val m) : Int) = -(Dy.tz (Dy.val m) : Int) by omega, Dy.shiftN_neg h]
          rintro _ rfl _ - _ -
          rw [wrap_i64 (by omega) (by omega)]
          rfl
  · cases h
theorem ok_dyad_signed (args : List AV) (s : Spec) (h : dSigned args = some s) (hp : andO s.pre True) : Contract Tryd.prog Inv 84 args s.res := by
  unfold dSigned at h
  split at h
  · cases h
    rename_i s m e n
    have hp := hp.1
    refine contract0 false ok_tab10 Tryd.func84 (by kernel_rfl) (by kernel_rfl) fun hok => ?_
    rw [vc_dyad_signed]
    refine ⟨hp, ?_⟩
    intro _ _ l2 hl n3 hn
    subst hl hn
    refine cond_i (fun h => ?_) (fun h => ?_)
    · subst h
      have : decide ((l2.length : Int) > 0) = decide (l2 ≠ []) := by
        rw [decide_eq_decide]
        constructor
        · intro h e; rw [e] at h; simp at h
        · intro h; have := List.length_pos_iff.2 h; omega
      rw [this, Bool.true_and]
    · subst h
      rfl
  · cases h
theorem ok_dyad_Sign (args : List AV) (s : Spec) (h : dSign args = some s) (hp : andO s.pre True) : Contract Tryd.prog Inv 15 args s.res := by
  unfold dSign at h
  split at h
  · cases h
    rename_i s m e
    refine contract0 false ok_tab10 Tryd.func15 (by kernel_rfl) (by kernel_rfl) fun hok => ?_
    rw [vc_dyad_Sign]
    unfold Dy.signD
    refine cond_i (fun h => ?_) (fun h => cond_i (fun h1 => ?_) (fun h1 => ?_))
    · simp only [Bool.not_eq_true'] at h
      simp only [h, Bool.false_eq_true, if_false]
    · simp only [Bool.not_eq_false'] at h
      have h1 := List.length_eq_zero_iff.1 (Int.ofNat_eq_zero.1 (of_decide_eq_true h1))
      subst h1
      simp only [h, if_true]
    · simp only [Bool.not_eq_false'] at h
      have h1 := of_decide_eq_false h1
      have h1' : m ≠ [] := fun e => h1 (by rw [e]; rfl)
      simp only [h, if_neg h1', if_true]
      cases s <;> rfl
  · cases h
theorem ok_dyad_Top (args : List AV) (s : Spec) (h : dTop args = some s) (hp : andO s.pre True) : Contract Tryd.prog Inv 14 args s.res := by
  unfold dTop at h
  split at h
  · cases h
    rename_i s m e
    refine contract0 false ok_tab10 Tryd.func14 (by kernel_rfl) (by kernel_rfl) fun hok => ?_
    rw [vc_dyad_Top]
    unfold Dy.topD
    refine cond_i (fun h => ?_) (fun h => cond_i (fun h1 => ?_) (fun h1 => ?_))
    · simp only [Bool.not_eq_true'] at h
      simp only [h, Bool.false_eq_true, if_false]
    · simp only [Bool.not_eq_false'] at h
      have h1 := List.length_eq_zero_iff.1 (Int.ofNat_eq_zero.1 (of_decide_eq_true h1))
      subst h1
      simp only [h, if_true]
    · simp only [Bool.not_eq_false'] at h
      have h1 := of_decide_eq_false h1
      have h1' : m ≠ [] := fun e => h1 (by rw [e]; rfl)
      have := Dy.mayD_exp h
      have hb := Dy.may_bl (Dy.mayD_may h)
      simp only [h, if_neg h1', if_true, Dy.lenN, if_pos (Dy.mayD_may h)]
      rw [wrap_i64 (by omega) (by omega)]
  · cases h
theorem ok_tab11 : PhiOk Tryd.prog Inv (look tab11) := look_cons (look_cons (look_cons (look_cons (look_cons ok_tab10 ok_dyad_Top) ok_dyad_Sign) ok_dyad_signed) ok_dyad_Make) ok_dyad_both
end Go.AI

namespace Go.AI
open Go Go.RowKit Go.Proofs
set_option linter.unusedVariables false
set_option maxRecDepth 100000
set_option maxHeartbeats 0
theorem vc_dyad_edge (s : Bool) (s' : Bool) (m : List
  Nat) (m' : List
  Nat) (e : Int) (e' : Int) (g : Int) (Q : AV →
  Prop) : (evF Tryd.prog (look tab11) (lam []) false Tryd.f92
  [AV.agg [AV.bool s, AV.dig [(1 : Nat)] m, AV.num IntKind.i64 e],
  AV.agg [AV.bool s', AV.dig [(2 : Nat)] m', AV.num IntKind.i64 e'], AV.num IntKind.i64 g]
  Q) =
  (bif decide (s = s') then
  Q (AV.tup [AV.agg [AV.bool false, AV.dig [(0 : Nat)] [], AV.num IntKind.i64 (0 : Int)], AV.num IntKind.i64 (3 : Int)])
 else
  ∀ (l1 : List Nat),
  l1 = (Dy.shiftN m (IntKind.i64.wrap (g - (1 : Int)))).mag →
  ∀ (b2 : Bool),
  b2 = (Dy.shiftN m (IntKind.i64.wrap (g - (1 : Int)))).lost →
  ∀ (n3 : Int),
  n3 = (Dy.shiftN m (IntKind.i64.wrap (g - (1 : Int)))).err →
  ∀ (l4 : List Nat),
  l4 = (Dy.shiftN m' (-1 : Int)).mag →
  ∀ (b5 : Bool),
  b5 = (Dy.shiftN m' (-1 : Int)).lost →
  ∀ (n6 : Int),
  n6 = (Dy.shiftN m' (-1 : Int)).err →
  ∀ (l7 : List Nat),
  l7 = (Dy.subR l1 l4).fst →
  ∀ (n8 : Int),
  n8 = (Dy.subR l1 l4).snd →
  bif !decide (n8 = (0 : Int)) then
  Q
  (AV.tup
  [AV.agg [AV.bool false, AV.dig [(0 : Nat)] [], AV.num IntKind.i64 (0 : Int)],
  AV.num IntKind.i64 (3 : Int)])
  else
  ∀ (l9 : List Nat),
  l9 = (Dy.addR l7 l7).fst →
  ∀ (n10 : Int),
  n10 = (Dy.addR l7 l7).snd →
  bif decide (n10 = (0 : Int)) then
  ∀ (l11 : List Nat),
  l11 = (Dy.subR l9 (Dy.dg (1 : Nat))).fst →
  ∀ (n12 : Int),
  n12 = (Dy.subR l9 (Dy.dg (1 : Nat))).snd →
  ∀ (b13 : Bool),
  b13 = (Dy.makeD s l11 e').1.neg →
  ∀ (l14 : List Nat),
  l14 = (Dy.makeD s l11 e').1.mag →
  ∀ (n15 : Int),
  n15 = (Dy.makeD s l11 e').1.exp →
  ∀ (n16 : Int),
  n16 = (Dy.makeD s l11 e').snd →
  Q
  (AV.tup
  [AV.agg
  [AV.bool b13, AV.dig [(0 : Nat)] l14,
  AV.num IntKind.i64 n15],
  AV.num IntKind.i64 n16])
  else
  bif
  decide
  ((↑(Dy.lenN l7) : Int) =
  IntKind.i64.wrap ((↑(Dy.lowN l7) : Int) + (1 : Int))) then
  ∀ (l17 : List Nat),
  l17 = (Dy.subR l7 (Dy.dg (1 : Nat))).fst →
  ∀ (n18 : Int),
  n18 = (Dy.subR l7 (Dy.dg (1 : Nat))).snd →
  ∀ (l19 : List Nat),
  l19 = (Dy.addR l17 l7).fst →
  ∀ (n20 : Int),
  n20 = (Dy.addR l17 l7).snd →
  ∀ (b21 : Bool),
  b21 = (Dy.makeD s l19 e').1.neg →
  ∀ (l22 : List Nat),
  l22 = (Dy.makeD s l19 e').1.mag →
  ∀ (n23 : Int),
  n23 = (Dy.makeD s l19 e').1.exp →
  ∀ (n24 : Int),
  n24 = (Dy.makeD s l19 e').snd →
  Q
  (AV.tup
  [AV.agg
  [AV.bool b21,
  AV.dig [(0 : Nat)] l22,
  AV.num IntKind.i64 n23],
  AV.num IntKind.i64 n24])
  else
  Q
  (AV.tup
  [AV.agg
  [AV.bool false, AV.dig [(0 : Nat)] [],
  AV.num IntKind.i64 (0 : Int)],
  AV.num IntKind.i64 (3 : Int)])) := by kernel_rfl
end Go.AI

namespace Go.Dy
set_option maxRecDepth 100000
theorem halved_big {x y : List Nat} (hx : may x = true) (hy : may y = true) : bl (val x + val y) ≤ 131073 := by
  have h1 := bl_le.1 (may_bl hx)
  have h2 := bl_le.1 (may_bl hy)
  have gen : ∀ K : Nat, val x < 2 ^ K → val y < 2 ^ K → bl (val x + val y) ≤ K + 1 := fun K h1 h2 => bl_le.2 (by rw [Nat.pow_succ]; omega)
  exact gen _ h1 h2
theorem half_bl {n : Nat} (h : bl n ≤ 131073) : bl (n / 2) ≤ 131072 := by
  have := bl_div_two_pow n 1
  rw [Nat.pow_one] at this
  omega
theorem bl_dec {a b : Nat} (h : a ≤ b) {k : Nat} (hb : bl b ≤ k) : bl a ≤ k := Nat.le_trans (bl_mono h) hb
theorem edge_aux {X H K : Nat} (hX : bl X = K + 1) (hH : bl H ≤ K) : H < X ∧ 0 < 2 * (X - H) ∧ X - H < 2 ^ (K + 1) ∧ (K + 1 < bl (2 * (X - H)) → (bl (X - H) = tz (X - H) + 1 → X - H = 2 ^ K) ∧ (X - H ≠ 2 ^ K → K + 1 < bl (2 * (X - H) - 1))) ∧
    (X - H = 2 ^ K → bl (X - H) = tz (X - H) + 1 ∧ bl (2 * (X - H) - 1) ≤ K + 1) := by
  have h1 : 2 ^ K ≤ X := lt_bl.1 (by omega)
  have h2 : X < 2 ^ (K + 1) := bl_le.1 (by omega)
  have h3 : H < 2 ^ K := bl_le.1 hH
  have h5 : 2 ^ (K + 1) = 2 ^ K * 2 := Nat.pow_succ ..
  have h6 : 2 ^ (K + 1 + 1) = 2 ^ (K + 1) * 2 := Nat.pow_succ ..
  have hpos := Nat.two_pow_pos K
  refine ⟨by omega, by omega, by omega, fun hb => ⟨fun ht => ?_, fun hne => ?_⟩, fun he => ⟨?_, ?_⟩⟩
  · have h7 : 2 ^ (K + 1) ≤ 2 * (X - H) := lt_bl.1 hb
    have hS : X - H ≠ 0 := by omega
    obtain ⟨q, hq⟩ := tz_spec hS
    have hS1 : 2 ^ K ≤ X - H := by omega
    have hS2 : X - H < 2 ^ (K + 1) := by omega
    generalize X - H = S at *
    have h8 : bl S = K + 1 := bl_eq (by omega) (by omega)
    have hz : tz S = K := by omega
    rw [hz] at hq
    by_cases c : q = 0
    · rw [c] at hq; omega
    · exfalso
      have : 2 ^ K * 2 ≤ 2 ^ K * (2 * q + 1) := Nat.mul_le_mul_left _ (by omega)
      omega
  · have h7 : 2 ^ (K + 1) ≤ 2 * (X - H) := lt_bl.1 hb
    refine lt_bl.2 ?_
    omega
  · rw [he]
    have := tz_mul K 0
    rw [Nat.mul_zero, Nat.zero_add, Nat.mul_one] at this
    rw [this]
    exact bl_eq (Nat.le_refl _) (by omega)
  · rw [he]
    exact bl_le.2 (by omega)
theorem cmpZ_scale {a b : Nat} : cmpZ a b = if a < b then -1 else if b < a then 1 else 0 := by
  unfold cmpZ; simp only [Int.ofNat_lt]
end Go.Dy
namespace Go.AI
open Go Go.RowKit Go.Proofs
set_option linter.unusedVariables false
set_option maxRecDepth 100000
theorem makeD_small {s : Bool} {n : Nat} (h : n < 18446744073709551616) (e : Int) (he : -16777100 ≤ e ∧ e ≤ 16777100) : Dy.makeD s (Dy.dg n) e = (Dy.form s n e, 0) := by
  have hb : Dy.bl n ≤ 64 := Dy.bl_le.2 (by omega)
  rw [Dy.makeD_dg (by omega)]
  by_cases c : n = 0
  · subst c; rfl
  · have ht := Dy.tz_lt_bl c
    rw [Dy.form_pos c]
    unfold Dy.boundD
    have hl : (Dy.dg (n / 2 ^ Dy.tz n)).length ≤ 4096 := by rw [Dy.len_bl, Dy.bl_div_two_pow]; omega
    simp only [if_pos hl]
    rw [if_pos (by rw [Dy.inside_iff]; omega)]
theorem int64_end (N : Nat) (s : Bool) (K X Y : Int) (hK : K = 9223372036854775808) (hX : (N : Int) ≤ K → X = -(N : Int)) (hY : (N : Int) < K → Y = N) (r : Int × Bool) (hr : r = (if decide (-K ≤ Dy.sgn s N ∧ Dy.sgn s N < K) = true then (Dy.sgn s N, true) else (0, false))) :
    bif s then ∀ b1 : Bool, b1 = decide ((N : Int) ≤ K) → bif b1 then AV.tup [AV.num .i64 X, AV.bool true] = AV.tup [.num .i64 r.1, .bool r.2]
      else bif !s then ∀ b2 : Bool, b2 = decide ((N : Int) < K) → bif b2 then AV.tup [AV.num .i64 Y, AV.bool true] = AV.tup [.num .i64 r.1, .bool r.2]
          else AV.tup [AV.num .i64 0, AV.bool false] = AV.tup [.num .i64 r.1, .bool r.2]
        else AV.tup [AV.num .i64 0, AV.bool false] = AV.tup [.num .i64 r.1, .bool r.2]
    else bif !s then ∀ b2 : Bool, b2 = decide ((N : Int) < K) → bif b2 then AV.tup [AV.num .i64 Y, AV.bool true] = AV.tup [.num .i64 r.1, .bool r.2]
          else AV.tup [AV.num .i64 0, AV.bool false] = AV.tup [.num .i64 r.1, .bool r.2]
        else AV.tup [AV.num .i64 0, AV.bool false] = AV.tup [.num .i64 r.1, .bool r.2] := by
  subst hr
  cases s
  · simp only [cond_false, cond_true, Bool.not_false]
    have e : Dy.sgn false N = (N : Int) := rfl
    rw [e]
    intro b hb
    by_cases h3 : (N : Int) < K
    · rw [hb, decide_eq_true h3, cond_true, decide_eq_true (show -K ≤ (N : Int) ∧ (N : Int) < K from ⟨by omega, h3⟩), if_pos rfl, hY h3]
    · rw [hb, decide_eq_false h3, cond_false, decide_eq_false (fun h => h3 h.2), if_neg (by simp)]
  · simp only [cond_false, cond_true, Bool.not_true]
    have e : Dy.sgn true N = -(N : Int) := rfl
    rw [e]
    intro b hb
    by_cases h3 : (N : Int) ≤ K
    · rw [hb, decide_eq_true h3, cond_true, decide_eq_true (show -K ≤ -(N : Int) ∧ -(N : Int) < K from ⟨by omega, by omega⟩), if_pos rfl, hX h3]
    · rw [hb, decide_eq_false h3, cond_false, decide_eq_false (fun h => h3 (by omega)), if_neg (by simp)]
theorem neg64 {N : Nat} (h : (N : Int) ≤ 9223372036854775808) : IntKind.i64.wrap (IntKind.u64.wrap (0 - (N : Int))) = -(N : Int) := by
  rw [wrap_u64]
  simp [IntKind.wrap, IntKind.signed, IntKind.bits]
  omega
theorem ok_dyad_Neg (args : List AV) (s : Spec) (h : dNeg args = some s) (hp : andO s.pre True) : Contract Tryd.prog Inv 71 args s.res := by
  unfold dNeg at h
  split at h
  · cases h
    rename_i s m e
    refine contract0 false ok_tab11 Tryd.func71 (by kernel_rfl) (by kernel_rfl) fun hok => ?_
    rw [vc_dyad_Neg]
    unfold Dy.okIf
    refine cond_i (fun h => ?_) (fun h => ?_)
    · simp only [Bool.not_eq_true'] at h
      rw [h]; rfl
    · simp only [Bool.not_eq_false'] at h
      have := Dy.may_len (Dy.mayD_may h)
      refine ⟨by omega, ?_⟩
      rintro _ rfl _ rfl _ rfl
      rw [h]; rfl
  · cases h
theorem ok_dyad_sizes (args : List AV) (s : Spec) (h : dSizes args = some s) (hp : andO s.pre True) : Contract Tryd.prog Inv 59 args s.res := by
  unfold dSizes at h
  split at h
  · cases h
    rename_i s m e s' m' e'
    obtain ⟨⟨hd, hd', hnn⟩, -⟩ := hp
    refine contract0 false ok_tab11 Tryd.func59 (by kernel_rfl) (by kernel_rfl) fun hok => ?_
    have hm := Dy.mayD_may hd
    have hm' := Dy.mayD_may hd'
    have b1 := Dy.may_bl hm
    have b2 := Dy.may_bl hm'
    have x1 := Dy.mayD_exp hd
    have x2 := Dy.mayD_exp hd'
    rw [vc_dyad_sizes, if_pos hd, if_pos hd']
    have l1 : Dy.lenN m = Dy.bl (Dy.val m) := by unfold Dy.lenN; rw [if_pos hm]
    have l2 : Dy.lenN m' = Dy.bl (Dy.val m') := by unfold Dy.lenN; rw [if_pos hm']
    rw [l1, l2, wrap_i64 (n := (Dy.bl (Dy.val m) : Int) - _) (by omega) (by omega), wrap_i64 (by omega) (by omega)]
    by_cases c : m = []
    · have c' := hnn.1 c
      subst c c'
      refine cond_f rfl (cond_f rfl (cond_f rfl ?_))
      rintro _ rfl _ - _ - _ rfl _ -
      rw [show (0 : Int) - ((Dy.bl (Dy.val []) : Int) - (Dy.bl (Dy.val []) : Int)) = -((0 : Nat) : Int) by omega, Dy.shiftN_neg hm]
      simp [Dy.val, Dy.dg_zero, Dy.cmpZ]
      rfl
    · have c' : m' ≠ [] := fun e => c (hnn.2 e)
      have v1 := Dy.val_ne hm c
      have v2 := Dy.val_ne hm' c'
      unfold Dy.topD
      simp only [if_neg c, if_neg c']
      have k1 := Dy.bl_mul_two_pow v1 (e - min e e').toNat
      have k2 := Dy.bl_mul_two_pow v2 (e' - min e e').toNat
      rw [Dy.cmpZ_scale]
      refine cond_i (fun h => ?_) (fun h => cond_i (fun h1 => ?_) (fun h1 => cond_i (fun h2 => ?_) (fun h2 => ?_)))
      · have h := of_decide_eq_true h
        rw [if_pos (Dy.bl_lt (by omega))]
      · have h1 := of_decide_eq_true h1
        have := Dy.bl_lt (a := Dy.val m' * 2 ^ (e' - min e e').toNat) (b := Dy.val m * 2 ^ (e - min e e').toNat) (by omega)
        rw [if_neg (by omega), if_pos this]
      · have h := of_decide_eq_false h
        have h1 := of_decide_eq_false h1
        have h2 := of_decide_eq_true h2
        obtain ⟨n, hn⟩ : ∃ n : Nat, (Dy.bl (Dy.val m) : Int) - (Dy.bl (Dy.val m') : Int) = n := ⟨((Dy.bl (Dy.val m) : Int) - (Dy.bl (Dy.val m') : Int)).toNat, by omega⟩
        rw [hn, Dy.shiftN_up hm' n (by omega)]
        rintro _ rfl _ - _ - _ rfl _ -
        have hmay : Dy.may (Dy.dg (Dy.val m' * 2 ^ n)) = true := Dy.may_dgn.2 (Dy.len_bl.2 (by rw [Dy.bl_mul_two_pow v2]; omega))
        unfold Dy.cmpR
        rw [hm, hmay, Dy.val_dg]
        rw [show (e - min e e').toNat = 0 by omega, show (e' - min e e').toNat = n by omega, Nat.pow_zero, Nat.mul_one]
        rfl
      · have h := of_decide_eq_false h
        have h1 := of_decide_eq_false h1
        have h2 := of_decide_eq_false h2
        obtain ⟨n, hn⟩ : ∃ n : Nat, (0 : Int) - ((Dy.bl (Dy.val m) : Int) - (Dy.bl (Dy.val m') : Int)) = n := ⟨((Dy.bl (Dy.val m') : Int) - (Dy.bl (Dy.val m) : Int)).toNat, by omega⟩
        rw [hn, Dy.shiftN_up hm n (by omega)]
        rintro _ rfl _ - _ - _ rfl _ -
        have hmay : Dy.may (Dy.dg (Dy.val m * 2 ^ n)) = true := Dy.may_dgn.2 (Dy.len_bl.2 (by rw [Dy.bl_mul_two_pow v1]; omega))
        unfold Dy.cmpR
        rw [hm', hmay, Dy.val_dg]
        rw [show (e' - min e e').toNat = 0 by omega, show (e - min e e').toNat = n by omega, Nat.pow_zero, Nat.mul_one]
        rfl
  · cases h
end Go.AI

namespace Go.AI
open Go Go.RowKit Go.Proofs
set_option linter.unusedVariables false
set_option maxRecDepth 100000
theorem ok_dyad_halved (args : List AV) (s : Spec) (h : dHalved args = some s) (hp : andO s.pre True) : Contract Tryd.prog Inv 95 args s.res := by
  unfold dHalved at h
  split at h
  · cases h
    rename_i p x y e
    obtain ⟨⟨hx, hy, he, hl⟩, -⟩ := hp
    refine contract0 false ok_tab11 Tryd.func95 (by kernel_rfl) (by kernel_rfl) fun hok => ?_
    obtain ⟨ox, h5⟩ := oks1_dig (oks1_bool hok)
    obtain ⟨oy, -⟩ := oks1_dig h5
    have he := Dy.inside_iff.1 he
    have b1 := Dy.may_bl hx
    have b2 := Dy.may_bl hy
    have hbig : 131072 < Dy.bl (Dy.val x + Dy.val y) := by
      have := mt (Dy.len_bl (n := Dy.val x + Dy.val y)).2 (by omega)
      omega
    have b3 := Dy.halved_big hx hy
    have nx : x ≠ [] := fun e => by subst e; simp only [Dy.val, Nat.zero_add] at hbig; omega
    have ny : y ≠ [] := fun e => by subst e; simp only [Dy.val, Nat.add_zero] at hbig; omega
    have lx := List.length_pos_iff.2 nx
    have ly := List.length_pos_iff.2 ny
    rw [vc_dyad_halved, low_bit ox.2, low_bit oy.2, wrap_i64 (by omega) (by omega)]
    refine ⟨by omega, by omega, cond_i (fun h => ?_) (fun h => ?_)⟩
    · simp only [Bool.not_eq_true', decide_eq_false_iff_not] at h
      rw [Dy.boundD_long (by omega) hbig]
      rfl
    · simp only [Bool.not_eq_false', decide_eq_true_eq] at h
      rw [show (-1 : Int) = -((1 : Nat) : Int) from rfl, Dy.shiftN_neg hx, Dy.shiftN_neg hy, Nat.pow_one]
      intro l1 e1 _ _ _ _ l4 e4 _ _ _ _ l7 e7 _ _
      have hhx : Dy.bl (Dy.val x / 2) ≤ 131072 := Dy.bl_dec (Nat.div_le_self _ _) b1
      have hhy : Dy.bl (Dy.val y / 2) ≤ 131072 := Dy.bl_dec (Nat.div_le_self _ _) b2
      have hs : Dy.bl (Dy.val x / 2 + Dy.val y / 2) ≤ 131072 := Dy.bl_dec (by omega) (Dy.half_bl b3)
      have m1 : Dy.may l1 = true := by rw [e1]; exact Dy.may_dgn.2 (Dy.len_bl.2 hhx)
      have m4 : Dy.may l4 = true := by rw [e4]; exact Dy.may_dgn.2 (Dy.len_bl.2 hhy)
      have e7' : l7 = Dy.dg (Dy.val x / 2 + Dy.val y / 2) := by
        rw [e7, Dy.addR_dg m1 m4, e1, e4, Dy.val_dg, Dy.val_dg]
        simp only [if_pos hs]
      have m7 : Dy.may l7 = true := by rw [e7']; exact Dy.may_dgn.2 (Dy.len_bl.2 hs)
      refine ⟨by omega, cond_i (fun h1 => ?_) (fun h1 => ?_)⟩
      · have h1 := of_decide_eq_true h1
        have mo : Dy.may (Dy.dg 1) = true := Dy.may_dgn.2 (Dy.len_bl.2 (by decide))
        have hs2 : Dy.bl (Dy.val x / 2 + Dy.val y / 2 + 1) ≤ 131072 := Dy.bl_dec (by omega) (Dy.half_bl b3)
        intro l9 e9 _ _
        have e9' : l9 = Dy.dg (Dy.val x / 2 + Dy.val y / 2 + 1) := by
          rw [e9, Dy.addR_dg m7 mo, e7', Dy.val_dg, Dy.val_dg]
          simp only [if_pos hs2]
        have : Dy.val x + Dy.val y = 2 * (Dy.val x / 2 + Dy.val y / 2 + 1) := by omega
        rw [e9', Dy.makeD_dg hs2, this, Dy.form_two]
        rintro _ rfl _ rfl _ rfl _ rfl
        rfl
      · have h1 := of_decide_eq_false h1
        have : Dy.val x + Dy.val y = 2 * (Dy.val x / 2 + Dy.val y / 2) := by omega
        rw [e7', Dy.makeD_dg hs, this, Dy.form_two]
        rintro _ rfl _ rfl _ rfl _ rfl
        rfl
  · cases h
theorem ok_dyad_edge (args : List AV) (s : Spec) (h : dEdge args = some s) (hp : andO s.pre True) : Contract Tryd.prog Inv 92 args s.res := by
  unfold dEdge at h
  split at h
  · cases h
    rename_i s m e s' m' e' g
    obtain ⟨⟨hd, hd', hm, hm', hg, hg1, hgb⟩, -⟩ := hp
    refine contract0 false ok_tab11 Tryd.func92 (by kernel_rfl) (by kernel_rfl) fun hok => ?_
    have may1 := Dy.mayD_may hd
    have may2 := Dy.mayD_may hd'
    have b1 := Dy.may_bl may1
    have b2 := Dy.may_bl may2
    have odd := Dy.mayD_odd hd' hm'
    have v1 := Dy.val_ne may1 hm
    obtain ⟨g, rfl⟩ := Int.eq_ofNat_of_zero_le (show 0 ≤ g by omega)
    have hX : Dy.bl (Dy.val m * 2 ^ (g - 1)) = 131072 := by rw [Dy.bl_mul_two_pow v1]; omega
    have hA : Dy.val m * 2 ^ g = 2 * (Dy.val m * 2 ^ (g - 1)) := by
      rw [← Nat.mul_assoc, Nat.mul_comm 2, Nat.mul_assoc, ← Nat.pow_succ']
      congr 2; omega
    have hH : Dy.bl (Dy.val m' / 2) ≤ 131071 := by
      have := Dy.bl_div_two_pow (Dy.val m') 1
      rw [Nat.pow_one] at this
      omega
    rw [Dy.addD_gap (by omega), show (e - e').toNat = g by omega, vc_dyad_edge, wrap_i64 (by omega) (by omega), show (g : Int) - 1 = ((g - 1 : Nat) : Int) by omega,
      Dy.shiftN_up may1 (g - 1) (by omega), show (-1 : Int) = -((1 : Nat) : Int) from rfl, Dy.shiftN_neg may2, Nat.pow_one, hA]
    have hM : Dy.val m' = 2 * (Dy.val m' / 2) + 1 := by omega
    generalize Dy.val m * 2 ^ (g - 1) = X at *
    generalize Dy.val m' / 2 = H at *
    refine cond_i (fun h => ?_) (fun h => ?_)
    · have h := of_decide_eq_true h
      subst h
      rw [Dy.sgn_add_same, Dy.formZ_sgn]
      have hb : 131072 < Dy.bl (2 * X + Dy.val m') := by
        have : Dy.bl (2 * X) = 131073 := by
          have := Dy.bl_mul_two_pow (n := X) (fun e => by subst e; simp [Dy.bl_zero] at hX) 1
          rw [Nat.pow_one, Nat.mul_comm] at this
          omega
        have := Dy.bl_mono (show 2 * X ≤ 2 * X + Dy.val m' by omega)
        omega
      rw [Dy.boundD_long (by omega) hb]
      rfl
    · have h := of_decide_eq_false h
      obtain ⟨k1, k2, k3, k4, k5⟩ := Dy.edge_aux (K := 131071) hX hH
      clear k3
      have hHb : Dy.bl H ≤ 131072 := by omega
      have mX : Dy.may (Dy.dg X) = true := Dy.may_dgn.2 (Dy.len_bl.2 (by omega))
      have mH : Dy.may (Dy.dg H) = true := Dy.may_dgn.2 (Dy.len_bl.2 hHb)
      have mo : Dy.may (Dy.dg 1) = true := Dy.may_dgn.2 (Dy.len_bl.2 (by decide))
      have hD : Dy.sgn s (2 * X) + Dy.sgn s' (Dy.val m') = Dy.sgn s (2 * (X - H) - 1) := by
        rw [Dy.sgn_sub h (by omega)]
        congr 1
        omega
      rw [hD, Dy.formZ_sgn]
      intro l1 e1 _ _ _ _ l4 e4 _ _ _ _ l7 e7 n8 e8
      rw [e1, e4, Dy.subR_dg mX mH, Dy.val_dg, Dy.val_dg, if_neg (by omega)] at e7 e8
      simp only at e7 e8
      subst e7 e8
      refine cond_f (by simp) ?_
      have bS : Dy.bl (X - H) ≤ 131072 := Dy.bl_dec (b := X) (by omega) (by omega)
      generalize X - H = S at *
      have mS : Dy.may (Dy.dg S) = true := Dy.may_dgn.2 (Dy.len_bl.2 bS)
      rw [Dy.addR_dg mS mS, Dy.val_dg, show S + S = 2 * S by omega]
      intro l9 e9 n10 e10
      by_cases c : Dy.bl (2 * S) ≤ 131072
      · simp only [if_pos c] at e9 e10
        subst e9 e10
        refine cond_t (by simp) ?_
        rw [Dy.subR_dg (Dy.may_dgn.2 (Dy.len_bl.2 c)) mo, Dy.val_dg, Dy.val_dg, if_neg (by omega)]
        rintro _ rfl _ -
        rw [Dy.makeD_dg (Dy.bl_dec (by omega) c)]
        rintro _ rfl _ rfl _ rfl _ rfl
        rfl
      · simp only [if_neg c] at e9 e10
        subst e9 e10
        obtain ⟨k6, k7⟩ := k4 (by omega)
        have l1 : Dy.lenN (Dy.dg S) = Dy.bl S := by unfold Dy.lenN; rw [if_pos mS, Dy.val_dg]
        have l2 : Dy.lowN (Dy.dg S) = Dy.tz S := by unfold Dy.lowN; rw [if_pos mS, Dy.val_dg]
        have hlt := Dy.tz_lt_bl (n := S) (by omega)
        rw [l1, l2, wrap_i64 (by omega) (by omega)]
        refine cond_f (by simp) (cond_i (fun h1 => ?_) (fun h1 => ?_))
        · have h1 := of_decide_eq_true h1
          obtain ⟨-, k8⟩ := k5 (k6 (by omega))
          rw [Dy.subR_dg mS mo, Dy.val_dg, Dy.val_dg, if_neg (by omega)]
          rintro _ rfl _ -
          have mS1 : Dy.may (Dy.dg (S - 1)) = true := Dy.may_dgn.2 (Dy.len_bl.2 (Dy.bl_dec (by omega) bS))
          rw [Dy.addR_dg mS1 mS, Dy.val_dg, Dy.val_dg, show S - 1 + S = 2 * S - 1 by omega]
          simp only [if_pos (show Dy.bl (2 * S - 1) ≤ 131072 by omega)]
          rintro _ rfl _ -
          rw [Dy.makeD_dg (by omega)]
          rintro _ rfl _ rfl _ rfl _ rfl
          rfl
        · have h1 := of_decide_eq_false h1
          have hne : ∀ P : Nat, (S = P → Dy.bl S = Dy.tz S + 1 ∧ Dy.bl (2 * S - 1) ≤ 131071 + 1) → (S ≠ P → 131071 + 1 < Dy.bl (2 * S - 1)) → 131072 < Dy.bl (2 * S - 1) := by
            intro P q1 q2
            by_cases q : S = P
            · have := (q1 q).1
              omega
            · exact q2 q
          rw [Dy.boundD_long (by omega) (hne _ k5 k7)]
          rfl
  · cases h
theorem ok_dyad_Mul (args : List AV) (s : Spec) (h : dMul args = some s) (hp : andO s.pre True) : Contract Tryd.prog Inv 73 args s.res := by
  unfold dMul at h
  split at h
  · cases h
    rename_i s m e s' m' e'
    refine contract0 false ok_tab11 Tryd.func73 (by kernel_rfl) (by kernel_rfl) fun hok => ?_
    rw [vc_dyad_Mul]
    unfold Dy.boundIf
    refine cond_i (fun h => ?_) (fun h => ?_)
    · simp only [Bool.not_eq_true'] at h
      rw [h]; rfl
    · simp only [Bool.not_eq_false'] at h
      obtain ⟨hd, hd'⟩ := Bool.and_eq_true_iff.1 h
      have may1 := Dy.mayD_may hd
      have may2 := Dy.mayD_may hd'
      have x1 := Dy.mayD_exp hd
      have x2 := Dy.mayD_exp hd'
      rw [h, if_pos rfl, Dy.mulR_dg may1 may2, wrap_i64 (by omega) (by omega)]
      intro l1 e1 n2 e2
      unfold Dy.mulD
      simp only
      by_cases c : Dy.bl (Dy.val m * Dy.val m') ≤ 131072
      · simp only [if_pos c] at e1 e2
        subst e1 e2
        refine cond_f (by simp) ?_
        rw [Dy.makeD_dg c]
        rintro _ rfl _ rfl _ rfl _ rfl
        rfl
      · simp only [if_neg c] at e1 e2
        subst e1 e2
        refine cond_t (by simp) ?_
        have n1 : m ≠ [] := fun e => c (by rw [e]; simp only [Dy.val, Nat.zero_mul]; decide)
        have n2 : m' ≠ [] := fun e => c (by rw [e]; simp only [Dy.val, Nat.mul_zero]; decide)
        rw [Dy.boundD_long (Dy.odd_mul (Dy.mayD_odd hd n1) (Dy.mayD_odd hd' n2)) (by omega)]
        rfl
  · cases h
end Go.AI

namespace Go.Dy
theorem sgn_zero (s : Bool) : sgn s 0 = 0 := by cases s <;> rfl
theorem mul_sgn (s : Bool) (a b : Nat) : sgn s a = (if s then -1 else 1) * (a : Int) := by
  unfold sgn; cases s <;> simp
theorem cmp_sgn (s : Bool) (a b : Nat) : cmpZ (sgn s a) (sgn s b) = (if s then -1 else 1) * cmpZ a b := by
  unfold sgn
  cases s
  · simp
  · simp only [if_true]
    rw [cmpZ_neg]
    omega
theorem cmpZ_vals (a b : Int) : cmpZ a b = -1 ∨ cmpZ a b = 0 ∨ cmpZ a b = 1 := by
  unfold cmpZ
  split
  · exact .inl rfl
  · split
    · exact .inr (.inr rfl)
    · exact .inr (.inl rfl)
theorem cmpZ_lt {a b : Int} (h : a < b) : cmpZ a b = -1 := by unfold cmpZ; rw [if_pos h]
theorem cmpZ_gt {a b : Int} (h : b < a) : cmpZ a b = 1 := by unfold cmpZ; rw [if_neg (by omega), if_pos h]
/-- what the signs say of the order -/
theorem cmpD_sign {s s' : Bool} {m m' : List Nat} {e e' : Int} (h : mayD ⟨s, m, e⟩ = true) (h' : mayD ⟨s', m', e'⟩ = true) :
    (signD ⟨s, m, e⟩ < signD ⟨s', m', e'⟩ → cmpD ⟨s, m, e⟩ ⟨s', m', e'⟩ = -1) ∧ (signD ⟨s', m', e'⟩ < signD ⟨s, m, e⟩ → cmpD ⟨s, m, e⟩ ⟨s', m', e'⟩ = 1) ∧
    (signD ⟨s, m, e⟩ = signD ⟨s', m', e'⟩ → (m = [] ↔ m' = []) ∧ cmpD ⟨s, m, e⟩ ⟨s', m', e'⟩ = signD ⟨s, m, e⟩ * cmpZ (val m * 2 ^ (e - min e e').toNat : Nat) (val m' * 2 ^ (e' - min e e').toNat : Nat)) := by
  unfold cmpD
  rw [at_mk, at_mk]
  simp only [unit]
  unfold signD
  simp only
  have p1 := Nat.two_pow_pos (e - min e e').toNat
  have p2 := Nat.two_pow_pos (e' - min e e').toNat
  by_cases c : m = []
  · subst c
    obtain ⟨rfl, rfl⟩ := mayD_nil h
    by_cases c' : m' = []
    · subst c'
      obtain ⟨rfl, rfl⟩ := mayD_nil h'
      simp [val, sgn, cmpZ]
    · have v := val_ne (mayD_may h') c'
      simp only [if_neg c', if_true]
      have hp : 0 < val m' * 2 ^ (e' - min 0 e').toNat := Nat.mul_pos (by omega) p2
      generalize val m' * 2 ^ (e' - min 0 e').toNat = B at *
      simp only [val, Nat.zero_mul, sgn_zero]
      unfold sgn
      cases s'
      · simp only [Bool.false_eq_true, if_false]
        refine ⟨fun _ => cmpZ_lt (by omega), fun h => by omega, fun h => by omega⟩
      · simp only [if_true]
        refine ⟨fun h => by omega, fun h => cmpZ_gt (by omega), fun h => by omega⟩
  · have v := val_ne (mayD_may h) c
    have hp : 0 < val m * 2 ^ (e - min e e').toNat := Nat.mul_pos (by omega) p1
    simp only [if_neg c]
    by_cases c' : m' = []
    · subst c'
      obtain ⟨rfl, rfl⟩ := mayD_nil h'
      generalize val m * 2 ^ (e - min e 0).toNat = A at *
      simp only [val, Nat.zero_mul, sgn_zero, if_true]
      unfold sgn
      cases s
      · simp only [Bool.false_eq_true, if_false]
        refine ⟨fun h => by omega, fun _ => cmpZ_gt (by omega), fun h => by omega⟩
      · simp only [if_true]
        refine ⟨fun h => cmpZ_lt (by omega), fun h => by omega, fun h => by omega⟩
    · have v' := val_ne (mayD_may h') c'
      have hp' : 0 < val m' * 2 ^ (e' - min e e').toNat := Nat.mul_pos (by omega) p2
      simp only [if_neg c']
      generalize val m * 2 ^ (e - min e e').toNat = A at *
      generalize val m' * 2 ^ (e' - min e e').toNat = B at *
      by_cases hs : s = s'
      · subst hs
        refine ⟨fun h => by omega, fun h => by omega, fun _ => ⟨by simp [c, c'], cmp_sgn s A B⟩⟩
      · unfold sgn
        cases s <;> cases s' <;> simp at hs ⊢
        · exact cmpZ_gt (by omega)
        · exact cmpZ_lt (by omega)
end Go.Dy
namespace Go.AI
open Go Go.RowKit Go.Proofs
set_option linter.unusedVariables false
set_option maxRecDepth 100000
theorem ok_tab12 : PhiOk Tryd.prog Inv (look tab12) :=
  look_cons (look_cons (look_cons (look_cons (look_cons ok_tab11 ok_dyad_Mul) ok_dyad_edge) ok_dyad_halved) ok_dyad_sizes) ok_dyad_Neg
theorem ok_dyad_Cmp (args : List AV) (s : Spec) (h : dCmp args = some s) (hp : andO s.pre True) : Contract Tryd.prog Inv 38 args s.res := by
  unfold dCmp at h
  split at h
  · cases h
    rename_i s m e s' m' e'
    refine contract0 false ok_tab12 Tryd.func38 (by kernel_rfl) (by kernel_rfl) fun hok => ?_
    rw [vc_dyad_Cmp]
    refine cond_i (fun h => ?_) (fun h => ?_)
    · simp only [Bool.not_eq_true'] at h
      rw [h]; rfl
    · simp only [Bool.not_eq_false'] at h
      obtain ⟨hd, hd'⟩ := Bool.and_eq_true_iff.1 h
      rw [h, if_pos hd, if_pos hd', if_pos rfl, if_pos rfl]
      obtain ⟨k1, k2, k3⟩ := Dy.cmpD_sign hd hd'
      refine cond_i (fun h1 => ?_) (fun h1 => cond_i (fun h2 => ?_) (fun h2 => ?_))
      · rw [k1 (of_decide_eq_true h1)]
      · rw [k2 (of_decide_eq_true h2)]
      · have h1 := of_decide_eq_false h1
        have h2 := of_decide_eq_false h2
        obtain ⟨k4, k5⟩ := k3 (by omega)
        have hw : IntKind.i64.wrap (Dy.cmpD ⟨s, m, e⟩ ⟨s', m', e'⟩) = Dy.cmpD ⟨s, m, e⟩ ⟨s', m', e'⟩ := by
          have : Dy.cmpD ⟨s, m, e⟩ ⟨s', m', e'⟩ = -1 ∨ Dy.cmpD ⟨s, m, e⟩ ⟨s', m', e'⟩ = 0 ∨ Dy.cmpD ⟨s, m, e⟩ ⟨s', m', e'⟩ = 1 := Dy.cmpZ_vals _ _
          exact wrap_i64 (by omega) (by omega)
        rw [← k5, hw]
        exact ⟨⟨hd, hd', k4⟩, rfl⟩
  · cases h
theorem ok_dyad_join (args : List AV) (s : Spec) (h : dJoin args = some s) (hp : andO s.pre True) : Contract Tryd.prog Inv 93 args s.res := by
  unfold dJoin at h
  split at h
  · cases h
    rename_i p x q y e
    obtain ⟨⟨hx, hy, nx, ny, he⟩, -⟩ := hp
    refine contract0 false ok_tab12 Tryd.func93 (by kernel_rfl) (by kernel_rfl) fun hok => ?_
    have b1 := Dy.may_bl hx
    have b2 := Dy.may_bl hy
    rw [vc_dyad_join, Dy.addR_dg hx hy, Dy.subR_dg hx hy, Dy.subR_dg hy hx, Dy.int_mk, Dy.int_mk]
    refine cond_i (fun h => ?_) (fun h => ?_)
    · have h := of_decide_eq_true h
      subst h
      rw [Dy.sgn_add_same, Dy.formZ_sgn]
      intro l1 e1 n2 e2
      by_cases c : Dy.bl (Dy.val x + Dy.val y) ≤ 131072
      · simp only [if_pos c] at e1 e2
        subst e1 e2
        refine cond_f (by simp) ?_
        rw [Dy.makeD_dg c]
        rintro _ rfl _ rfl _ rfl _ rfl
        rfl
      · simp only [if_neg c] at e1 e2
        subst e1 e2
        refine cond_t (by simp) ⟨⟨hx, hy, he, ?_⟩, ?_⟩
        · have := mt (Dy.len_bl (n := Dy.val x + Dy.val y)).1 c
          omega
        · rintro _ rfl _ rfl _ rfl _ rfl
          rfl
    · have h := of_decide_eq_false h
      unfold Dy.cmpR
      rw [hx, hy, Bool.and_self, if_pos rfl]
      intro n11 e11 _ _
      subst e11
      refine cond_i (fun h1 => ?_) (fun h1 => ?_)
      · have h1 := Dy.cmpN_neg.1 (of_decide_eq_true h1)
        rw [Dy.sgn_sub' h (by omega), Dy.formZ_sgn, if_neg (by omega)]
        rintro _ rfl _ -
        rw [Dy.makeD_dg (Dy.bl_dec (by omega) b2)]
        rintro _ rfl _ rfl _ rfl _ rfl
        rfl
      · have h1 := mt Dy.cmpN_neg.2 (of_decide_eq_false h1)
        rw [Dy.sgn_sub h (by omega), Dy.formZ_sgn, if_neg (by omega)]
        rintro _ rfl _ -
        rw [Dy.makeD_dg (Dy.bl_dec (by omega) b1)]
        rintro _ rfl _ rfl _ rfl _ rfl
        rfl
  · cases h
theorem ok_tab13 : PhiOk Tryd.prog Inv (look tab13) := look_cons (look_cons ok_tab12 ok_dyad_join) ok_dyad_Cmp
theorem ok_dyad_add (args : List AV) (s : Spec) (h : dAddL args = some s) (hp : andO s.pre True) : Contract Tryd.prog Inv 83 args s.res := by
  unfold dAddL at h
  split at h
  · cases h
    rename_i s m e s' m' e'
    obtain ⟨⟨hd, hd'⟩, -⟩ := hp
    refine contract0 false ok_tab13 Tryd.func83 (by kernel_rfl) (by kernel_rfl) fun hok => ?_
    have may1 := Dy.mayD_may hd
    have may2 := Dy.mayD_may hd'
    have b1 := Dy.may_bl may1
    have b2 := Dy.may_bl may2
    have x1 := Dy.mayD_exp hd
    have x2 := Dy.mayD_exp hd'
    have n1 := Dy.may_len may1
    have n2 := Dy.may_len may2
    have l1 : Dy.lenN m = Dy.bl (Dy.val m) := by unfold Dy.lenN; rw [if_pos may1]
    have l2 : Dy.lenN m' = Dy.bl (Dy.val m') := by unfold Dy.lenN; rw [if_pos may2]
    rw [vc_dyad_add, l1, l2]
    refine cond_i (fun h => ?_) (fun h => cond_i (fun h1 => ?_) (fun h1 => ?_))
    · have h := List.length_eq_zero_iff.1 (Int.ofNat_eq_zero.1 (of_decide_eq_true h))
      subst h
      rw [Dy.addD_comm, Dy.addD_nil hd' hd, Dy.boundD_self hd']
      refine ⟨by omega, ?_⟩
      rintro _ rfl _ rfl _ rfl
      rfl
    · have h1 := List.length_eq_zero_iff.1 (Int.ofNat_eq_zero.1 (of_decide_eq_true h1))
      subst h1
      rw [Dy.addD_nil hd hd', Dy.boundD_self hd]
      refine ⟨by omega, ?_⟩
      rintro _ rfl _ rfl _ rfl
      rfl
    · have h := of_decide_eq_false h
      have h1 := of_decide_eq_false h1
      have m1 : m ≠ [] := fun e => h (by rw [e]; rfl)
      have m2 : m' ≠ [] := fun e => h1 (by rw [e]; rfl)
      have v1 := Dy.val_ne may1 m1
      have v2 := Dy.val_ne may2 m2
      have i1 : Dy.inside e = true := Dy.inside_iff.2 x1
      have i2 : Dy.inside e' = true := Dy.inside_iff.2 x2
      rw [wrap_i64 (n := e' - e) (by omega) (by omega), wrap_i64 (n := e - e') (by omega) (by omega), wrap_i64 (by omega) (by omega), wrap_i64 (by omega) (by omega)]
      refine cond_i (fun h2 => ?_) (fun h2 => ?_)
      · have h2 := of_decide_eq_true h2
        rw [Dy.addD_comm]
        refine cond_i (fun h3 => ?_) (fun h3 => cond_i (fun h4 => ?_) (fun h4 => ?_))
        · have h3 := of_decide_eq_true h3
          rw [Dy.far_long hd' hd m2 m1 (by omega)]
          rfl
        · have h3 := of_decide_eq_false h3
          have h4 := of_decide_eq_true h4
          refine ⟨⟨hd', hd, m2, m1, rfl, by omega, by omega⟩, ?_⟩
          rintro _ rfl _ rfl _ rfl _ rfl
          rfl
        · have h4 := of_decide_eq_false h4
          obtain ⟨g, hg⟩ : ∃ g : Nat, e' - e = g := ⟨(e' - e).toNat, by omega⟩
          rw [hg] at h4 ⊢
          rw [Dy.shiftN_up may2 g (by omega)]
          rintro _ rfl _ - _ -
          have hb := Dy.bl_mul_two_pow v2 g
          have hp := Nat.two_pow_pos g
          have hnn : Dy.dg (Dy.val m' * 2 ^ g) ≠ [] := fun e => (Nat.mul_ne_zero v2 (by omega)) (Dy.dg_eq_nil.1 e)
          refine ⟨⟨Dy.may_dgn.2 (Dy.len_bl.2 (by omega)), may1, hnn, m1, i1⟩, ?_⟩
          rw [Dy.addD_gap (by omega), hg, Int.toNat_natCast, Dy.int_mk, Dy.int_mk, Dy.val_dg]
          rintro _ rfl _ rfl _ rfl _ rfl
          rfl
      · have h2 := of_decide_eq_false h2
        refine cond_i (fun h3 => ?_) (fun h3 => cond_i (fun h4 => ?_) (fun h4 => ?_))
        · have h3 := of_decide_eq_true h3
          rw [Dy.far_long hd hd' m1 m2 (by omega)]
          rfl
        · have h3 := of_decide_eq_false h3
          have h4 := of_decide_eq_true h4
          refine ⟨⟨hd, hd', m1, m2, rfl, by omega, by omega⟩, ?_⟩
          rintro _ rfl _ rfl _ rfl _ rfl
          rfl
        · have h4 := of_decide_eq_false h4
          obtain ⟨g, hg⟩ : ∃ g : Nat, e - e' = g := ⟨(e - e').toNat, by omega⟩
          rw [hg] at h4 ⊢
          rw [Dy.shiftN_up may1 g (by omega)]
          rintro _ rfl _ - _ -
          have hb := Dy.bl_mul_two_pow v1 g
          have hp := Nat.two_pow_pos g
          have hnn : Dy.dg (Dy.val m * 2 ^ g) ≠ [] := fun e => (Nat.mul_ne_zero v1 (by omega)) (Dy.dg_eq_nil.1 e)
          refine ⟨⟨Dy.may_dgn.2 (Dy.len_bl.2 (by omega)), may2, hnn, m2, i2⟩, ?_⟩
          rw [Dy.addD_gap (by omega), hg, Int.toNat_natCast, Dy.int_mk, Dy.int_mk, Dy.val_dg]
          rintro _ rfl _ rfl _ rfl _ rfl
          rfl
  · cases h
theorem ok_tab14 : PhiOk Tryd.prog Inv (look tab14) := look_cons ok_tab13 ok_dyad_add
theorem ok_dyad_Add (args : List AV) (s : Spec) (h : dAdd args = some s) (hp : andO s.pre True) : Contract Tryd.prog Inv 70 args s.res := by
  unfold dAdd at h
  split at h
  · cases h
    rename_i s m e s' m' e'
    refine contract0 false ok_tab14 Tryd.func70 (by kernel_rfl) (by kernel_rfl) fun hok => ?_
    rw [vc_dyad_Add]
    unfold Dy.boundIf
    refine cond_i (fun h => ?_) (fun h => ?_)
    · simp only [Bool.not_eq_true'] at h
      rw [h]; rfl
    · simp only [Bool.not_eq_false'] at h
      rw [h, if_pos rfl]
      refine ⟨Bool.and_eq_true_iff.1 h, ?_⟩
      rintro _ rfl _ rfl _ rfl _ rfl
      rfl
  · cases h
theorem mayD_neg {s : Bool} {m : List Nat} {e : Int} (h : Dy.mayD ⟨s, m, e⟩ = true) : Dy.mayD ⟨!s && decide (m ≠ []), m, e⟩ = true := by
  rw [Dy.mayD_iff] at h ⊢
  obtain ⟨h1, h2⟩ := h
  refine ⟨h1, ?_⟩
  rcases h2 with ⟨h3, h4, h5⟩ | h2
  · exact .inl ⟨h3, by simp [h3], h5⟩
  · exact .inr h2
theorem ok_dyad_Sub (args : List AV) (s : Spec) (h : dSub args = some s) (hp : andO s.pre True) : Contract Tryd.prog Inv 68 args s.res := by
  unfold dSub at h
  split at h
  · cases h
    rename_i s m e s' m' e'
    refine contract0 false ok_tab14 Tryd.func68 (by kernel_rfl) (by kernel_rfl) fun hok => ?_
    rw [vc_dyad_Sub]
    unfold Dy.boundIf
    refine cond_i (fun h => ?_) (fun h => ?_)
    · simp only [Bool.not_eq_true'] at h
      rw [h]; rfl
    · simp only [Bool.not_eq_false'] at h
      rw [h, if_pos rfl]
      obtain ⟨h1, h2⟩ := Bool.and_eq_true_iff.1 h
      have := Dy.may_len (Dy.mayD_may h2)
      refine ⟨by omega, ?_⟩
      rintro _ rfl _ rfl _ rfl
      refine ⟨⟨h1, mayD_neg h2⟩, ?_⟩
      rintro _ rfl _ rfl _ rfl _ rfl
      rfl
  · cases h
theorem ok_tab15 : PhiOk Tryd.prog Inv (look tab15) := look_cons (look_cons ok_tab14 ok_dyad_Sub) ok_dyad_Add
end Go.AI

namespace Go.Dy
def sameD (a b : Dyd) : Bool := (a.neg == b.neg && a.exp == b.exp) && decide (a.mag = b.mag)
theorem sameD_iff {a b : Dyd} : sameD a b = true ↔ a = b := by
  obtain ⟨s, m, e⟩ := a
  obtain ⟨s', m', e'⟩ := b
  simp [sameD, and_assoc]
  intro _
  constructor
  · rintro ⟨h2, h3⟩; exact ⟨h3, h2⟩
  · rintro ⟨h2, h3⟩; exact ⟨h3, h2⟩
/-- as the statements' guard asks -/
def nearD (d : Dyd) : Bool := decide (d.mag.length ≤ 100 ∧ -3000 ≤ d.exp ∧ d.exp ≤ 3000) && mayD d
end Go.Dy
namespace Go.AI
open Go Go.RowKit Go.Proofs
set_option linter.unusedVariables false
def rSameD : List AV → Option Spec
  | [.agg [.bool s, .dig [1] m, .num .i64 e], .agg [.bool s', .dig [2] m', .num .i64 e']] => some ⟨none, .bool (Dy.sameD ⟨s, m, e⟩ ⟨s', m', e'⟩)⟩
  | _ => none
def rForm : List AV → Option Spec
  | [.bool s, .dig [2] m, .num .i64 e] => some ⟨some (Dy.dg (Dy.val m) = m ∧ m.length ≤ 1048576 ∧ -1099511627776 ≤ e ∧ e ≤ 1099511627776), avD [0] (Dy.form s (Dy.val m) e)⟩
  | _ => none
def rSign : List AV → Option Spec
  | [.agg [.bool s, .dig [1] m, .num .i64 e]] => some ⟨none, .num .i64 (Dy.signD ⟨s, m, e⟩)⟩
  | _ => none
def rTop : List AV → Option Spec
  | [.agg [.bool s, .dig [1] m, .num .i64 e]] => some ⟨some (Dy.dg (Dy.val m) = m ∧ m.length ≤ 1048576 ∧ -1099511627776 ≤ e ∧ e ≤ 1099511627776), .num .i64 (Dy.topD ⟨s, m, e⟩)⟩
  | _ => none
def rNeg : List AV → Option Spec
  | [.agg [.bool s, .dig [1] m, .num .i64 e]] => some ⟨none, .agg [.bool (if m = [] then s else !s), .dig [0, 1] m, .num .i64 e]⟩
  | _ => none
def rAbs : List AV → Option Spec
  | [.agg [.bool s, .dig [1] m, .num .i64 e]] => some ⟨none, .agg [.bool false, .dig [0, 1] m, .num .i64 e]⟩
  | _ => none
def rInt64 : List AV → Option Spec
  | [.agg [.bool s, .dig [1] m, .num .i64 e]] => some ⟨some (Dy.mayD ⟨s, m, e⟩ = true), .tup [.num .i64 (Dy.int64D ⟨s, m, e⟩).1, .bool (Dy.int64D ⟨s, m, e⟩).2]⟩
  | _ => none
def lLent : List AV → Option Spec
  | [.agg [.bool s, .dig [1] m, .num .i64 e]] => some ⟨some (m.length ≤ 1048576), .agg [.bool s, .dig [0] m, .num .i64 e]⟩
  | _ => none
def lKnown : List AV → Option Spec
  | [] => some ⟨none, .bool true⟩
  | _ => none
def lNear : List AV → Option Spec
  | [.vec [1] 3 [.agg [.bool s, .dig [1] m, .num .i64 e]]] => some ⟨none, .bool (Dy.nearD ⟨s, m, e⟩)⟩
  | [.vec [1] 3 [.agg [.bool s, .dig [1] m, .num .i64 e], .agg [.bool s', .dig [1] m', .num .i64 e']]] => some ⟨none, .bool (Dy.nearD ⟨s, m, e⟩ && Dy.nearD ⟨s', m', e'⟩)⟩
  | [.vec [1] 3 [.agg [.bool s, .dig [1] m, .num .i64 e], .agg [.bool s', .dig [1] m', .num .i64 e'], .agg [.bool s2, .dig [1] m2, .num .i64 e2]]] => some ⟨none, .bool (Dy.nearD ⟨s, m, e⟩ && (Dy.nearD ⟨s', m', e'⟩ && Dy.nearD ⟨s2, m2, e2⟩))⟩
  | _ => none
def tab16 : List (Nat × (List AV → Option Spec)) := (8, rSameD) :: (9, dMay) :: (22, rForm) :: (10, rTop) :: (7, rNeg) :: tab15
def tab17 : List (Nat × (List AV → Option Spec)) := (11, dInt) :: tab16
end Go.AI

namespace Go.AI
open Go Go.RowKit Go.Proofs
set_option linter.unusedVariables false
set_option maxRecDepth 100000
set_option maxHeartbeats 0
theorem vc_ref2_Same (s : Bool) (s' : Bool) (m : List
  Nat) (m' : List
  Nat) (e : Int) (e' : Int) (Q : AV →
  Prop) : (evF Tryd.prog (look tab15) (lam []) false Tryd.f8
  [AV.agg [AV.bool s, AV.dig [(1 : Nat)] m, AV.num IntKind.i64 e],
  AV.agg [AV.bool s', AV.dig [(2 : Nat)] m', AV.num IntKind.i64 e']]
  Q) =
  (bif decide (s = s') then bif decide (e = e') then Q (AV.bool (decide (m = m'))) else Q (AV.bool false)
 else Q (AV.bool false)) := by kernel_rfl
theorem vc_ref2_May (s : Bool) (m : List
  Nat) (e : Int) (Q : AV →
  Prop) : (evF Tryd.prog (look tab15) (lam []) false Tryd.f9
  [AV.agg [AV.bool s, AV.dig [(1 : Nat)] m, AV.num IntKind.i64 e]] Q) =
  (bif !Dy.may m then Q (AV.bool false)
 else
  bif decide ((↑m.length : Int) = (0 : Int)) then
  bif !s then Q (AV.bool (decide (e = (0 : Int)))) else Q (AV.bool false)
  else
  ((0 : Int) ≤ (0 : Int) ∧ (0 : Int) < (↑m.length : Int)) ∧
  bif decide ((↑(m.getD (0 : Nat) (0 : Nat)) : Int).tmod (2 : Int) = (1 : Int)) then
  bif decide (e ≥ (-16777216 : Int)) then Q (AV.bool (decide (e ≤ (16777216 : Int)))) else Q (AV.bool false)
  else Q (AV.bool false)) := by kernel_rfl
theorem vc_ref2_Form (s : Bool) (m : List
  Nat) (e : Int) (Q : AV →
  Prop) : (evF Tryd.prog (look tab15) (lam []) false Tryd.f22 [AV.bool s, AV.dig [(2 : Nat)] m, AV.num IntKind.i64 e]
  Q) =
  (bif decide ((↑m.length : Int) = (0 : Int)) then
  Q (AV.agg [AV.bool false, AV.dig [(0 : Nat)] [], AV.num IntKind.i64 (0 : Int)])
 else
  (Dy.dg (Dy.val m) = m ∧ m.length ≤ (1048576 : Nat)) ∧
  (Dy.dg (Dy.val m) = m ∧ (0 : Int) ≤ (↑(Dy.tz (Dy.val m)) : Int) ∧ m.length ≤ (1048576 : Nat)) ∧
  ∀ (l1 : List Nat),
  l1 = Dy.dg (Dy.val m / (2 : Nat) ^ (↑(Dy.tz (Dy.val m)) : Int).toNat) →
  ∀ (b2 : Bool),
  b2 = decide (Dy.val m ≠ (0 : Nat) ∧ (↑(Dy.tz (Dy.val m)) : Int) < (↑(Dy.tz (Dy.val m)) : Int)) →
  Q
  (AV.agg
  [AV.bool s, AV.dig [(0 : Nat)] l1,
  AV.num IntKind.i64 (IntKind.i64.wrap (e + (↑(Dy.tz (Dy.val m)) : Int)))])) := by kernel_rfl
theorem vc_ref2_Top (s : Bool) (m : List
  Nat) (e : Int) (Q : AV →
  Prop) : (evF Tryd.prog (look tab15) (lam []) false Tryd.f10
  [AV.agg [AV.bool s, AV.dig [(1 : Nat)] m, AV.num IntKind.i64 e]] Q) =
  (bif decide ((↑m.length : Int) = (0 : Int)) then Q (AV.num IntKind.i64 (0 : Int))
 else
  (Dy.dg (Dy.val m) = m ∧ m.length ≤ (1048576 : Nat)) ∧
  Q (AV.num IntKind.i64 (IntKind.i64.wrap (e + (↑(Dy.bl (Dy.val m)) : Int))))) := by kernel_rfl
theorem vc_ref2_Neg (s : Bool) (m : List
  Nat) (e : Int) (Q : AV →
  Prop) : (evF Tryd.prog (look tab15) (lam []) true Tryd.f7
  [AV.agg [AV.bool s, AV.dig [(1 : Nat)] m, AV.num IntKind.i64 e]] Q) =
  (bif decide ((↑m.length : Int) > (0 : Int)) then
  Q (AV.agg [AV.bool !s, AV.dig [(0 : Nat), (1 : Nat)] m, AV.num IntKind.i64 e])
 else Q (AV.agg [AV.bool s, AV.dig [(0 : Nat), (1 : Nat)] m, AV.num IntKind.i64 e])) := by kernel_rfl
theorem vc_ref2_Int (n : Int) (Q : AV →
  Prop) : (evF Tryd.prog (look tab16) (lam []) false Tryd.f11 [AV.num IntKind.i64 n] Q) =
  (bif decide (n < (0 : Int)) then
  (Dy.dg (Dy.val (Dy.dg (IntKind.u64.wrap ((0 : Int) - IntKind.u64.wrap n)).toNat)) =
  Dy.dg (IntKind.u64.wrap ((0 : Int) - IntKind.u64.wrap n)).toNat ∧
  (Dy.dg (IntKind.u64.wrap ((0 : Int) - IntKind.u64.wrap n)).toNat).length ≤ (1048576 : Nat) ∧
  (-1099511627776 : Int) ≤ (0 : Int) ∧ (0 : Int) ≤ (1099511627776 : Int)) ∧
  ∀ (b1 : Bool),
  b1 =
  (Dy.form (decide (n < (0 : Int))) (Dy.val (Dy.dg (IntKind.u64.wrap ((0 : Int) - IntKind.u64.wrap n)).toNat))
  (0 : Int)).neg →
  ∀ (l2 : List Nat),
  l2 =
  (Dy.form (decide (n < (0 : Int)))
  (Dy.val (Dy.dg (IntKind.u64.wrap ((0 : Int) - IntKind.u64.wrap n)).toNat)) (0 : Int)).mag →
  ∀ (n3 : Int),
  n3 =
  (Dy.form (decide (n < (0 : Int)))
  (Dy.val (Dy.dg (IntKind.u64.wrap ((0 : Int) - IntKind.u64.wrap n)).toNat)) (0 : Int)).exp →
  Q (AV.agg [AV.bool b1, AV.dig [(0 : Nat)] l2, AV.num IntKind.i64 n3])
 else
  (Dy.dg (Dy.val (Dy.dg (IntKind.u64.wrap n).toNat)) = Dy.dg (IntKind.u64.wrap n).toNat ∧
  (Dy.dg (IntKind.u64.wrap n).toNat).length ≤ (1048576 : Nat) ∧
  (-1099511627776 : Int) ≤ (0 : Int) ∧ (0 : Int) ≤ (1099511627776 : Int)) ∧
  ∀ (b4 : Bool),
  b4 = (Dy.form (decide (n < (0 : Int))) (Dy.val (Dy.dg (IntKind.u64.wrap n).toNat)) (0 : Int)).neg →
  ∀ (l5 : List Nat),
  l5 = (Dy.form (decide (n < (0 : Int))) (Dy.val (Dy.dg (IntKind.u64.wrap n).toNat)) (0 : Int)).mag →
  ∀ (n6 : Int),
  n6 = (Dy.form (decide (n < (0 : Int))) (Dy.val (Dy.dg (IntKind.u64.wrap n).toNat)) (0 : Int)).exp →
  Q (AV.agg [AV.bool b4, AV.dig [(0 : Nat)] l5, AV.num IntKind.i64 n6])) := by kernel_rfl
end Go.AI

namespace Go.AI
open Go Go.RowKit Go.Proofs
set_option linter.unusedVariables false
set_option maxRecDepth 100000
theorem ok_ref2_Same (args : List AV) (s : Spec) (h : rSameD args = some s) (hp : andO s.pre True) : Contract Tryd.prog Inv 8 args s.res := by
  unfold rSameD at h
  split at h
  · cases h
    refine contract0 false ok_tab15 Tryd.func8 (by kernel_rfl) (by kernel_rfl) fun hok => ?_
    rw [vc_ref2_Same]
    unfold Dy.sameD
    refine cond_i (fun h => cond_i (fun h1 => ?_) (fun h1 => ?_)) (fun h => ?_)
    · simp only [of_decide_eq_true h, of_decide_eq_true h1, BEq.rfl, Bool.true_and]
    · have h1 := of_decide_eq_false h1
      simp [h1]
    · have h := of_decide_eq_false h
      simp [h]
  · cases h
theorem ok_ref2_May (args : List AV) (s : Spec) (h : dMay args = some s) (hp : andO s.pre True) : Contract Tryd.prog Inv 9 args s.res := by
  unfold dMay at h
  split at h
  · cases h
    rename_i s m e
    refine contract0 false ok_tab15 Tryd.func9 (by kernel_rfl) (by kernel_rfl) fun hok => ?_
    obtain ⟨hm, he, -⟩ := oks_d hok
    have hlow : ((m.getD 0 0 : Nat) : Int).tmod 2 = ((Dy.val m % 2 : Nat) : Int) := by
      rw [Int.tmod_eq_emod_of_nonneg (by omega), ← Dy.val_mod hm.2]
      omega
    rw [vc_ref2_May, hlow]
    unfold Dy.mayD Dy.inside
    refine cond_i (fun h => ?_) (fun h => cond_i (fun h1 => cond_i (fun h2 => ?_) (fun h2 => ?_)) (fun h1 => ⟨?_, cond_i (fun h2 => cond_i (fun h3 => ?_) (fun h3 => ?_)) (fun h2 => ?_)⟩))
    · simp only [Bool.not_eq_true'] at h
      simp only [h, Bool.false_and]
    · simp only [Bool.not_eq_false'] at h
      have h1 := List.length_eq_zero_iff.1 (Int.ofNat_eq_zero.1 (of_decide_eq_true h1))
      subst h1
      simp only [h, if_true, h2, Bool.true_and]
    · simp only [Bool.not_eq_false'] at h
      have h1 := List.length_eq_zero_iff.1 (Int.ofNat_eq_zero.1 (of_decide_eq_true h1))
      subst h1
      simp only [h, if_true, h2, Bool.true_and, Bool.false_and]
    · have h1 := of_decide_eq_false h1
      omega
    · simp only [Bool.not_eq_false'] at h
      have h1 := of_decide_eq_false h1
      have h2 := of_decide_eq_true h2
      have h3 := of_decide_eq_true h3
      have h1' : m ≠ [] := fun e => h1 (by rw [e]; rfl)
      simp only [h, if_neg h1', Bool.true_and]
      rw [decide_eq_true (show Dy.val m % 2 = 1 by omega), Bool.true_and]
      simp only [show -16777216 ≤ e from h3, true_and]
    · simp only [Bool.not_eq_false'] at h
      have h1 := of_decide_eq_false h1
      have h3 := of_decide_eq_false h3
      have h1' : m ≠ [] := fun e => h1 (by rw [e]; rfl)
      simp only [h, if_neg h1', Bool.true_and]
      simp only [show ¬ -16777216 ≤ e from h3, false_and, decide_false, Bool.and_false]
    · simp only [Bool.not_eq_false'] at h
      have h1 := of_decide_eq_false h1
      have h2 := of_decide_eq_false h2
      have h1' : m ≠ [] := fun e => h1 (by rw [e]; rfl)
      simp only [h, if_neg h1', Bool.true_and]
      rw [decide_eq_false (show ¬ Dy.val m % 2 = 1 by omega), Bool.false_and]
  · cases h
theorem ok_ref2_Form (args : List AV) (s : Spec) (h : rForm args = some s) (hp : andO s.pre True) : Contract Tryd.prog Inv 22 args s.res := by
  unfold rForm at h
  split at h
  · cases h
    rename_i s m e
    obtain ⟨⟨hc, hl, he1, he2⟩, -⟩ := hp
    refine contract0 false ok_tab15 Tryd.func22 (by kernel_rfl) (by kernel_rfl) fun hok => ?_
    obtain ⟨hm, -⟩ := oks1_dig (oks1_bool hok)
    rw [vc_ref2_Form]
    refine cond_i (fun h => ?_) (fun h => ?_)
    · have h := List.length_eq_zero_iff.1 (Int.ofNat_eq_zero.1 (of_decide_eq_true h))
      subst h
      rfl
    · have h := of_decide_eq_false h
      have h1' : m ≠ [] := fun e => h (by rw [e]; rfl)
      have hv : Dy.val m ≠ 0 := fun e => h1' (by rw [← hc, e, Dy.dg_zero])
      have ht := Dy.tz_lt_bl hv
      have hb := Dy.bl_le.2 (Dy.val_lt hm.2)
      refine ⟨⟨hc, hl⟩, ⟨hc, by omega, hl⟩, ?_⟩
      rw [Int.toNat_natCast, wrap_i64 (by omega) (by omega), Dy.form_pos hv]
      rintro _ rfl _ -
      rfl
  · cases h
theorem ok_ref2_Top (args : List AV) (s : Spec) (h : rTop args = some s) (hp : andO s.pre True) : Contract Tryd.prog Inv 10 args s.res := by
  unfold rTop at h
  split at h
  · cases h
    rename_i s m e
    obtain ⟨⟨hc, hl, he1, he2⟩, -⟩ := hp
    refine contract0 false ok_tab15 Tryd.func10 (by kernel_rfl) (by kernel_rfl) fun hok => ?_
    obtain ⟨hm, -⟩ := oks_d hok
    have hb := Dy.bl_le.2 (Dy.val_lt hm.2)
    rw [vc_ref2_Top]
    unfold Dy.topD
    refine cond_i (fun h1 => ?_) (fun h1 => ?_)
    · have h1 := List.length_eq_zero_iff.1 (Int.ofNat_eq_zero.1 (of_decide_eq_true h1))
      subst h1
      rfl
    · have h1 := of_decide_eq_false h1
      have h1' : m ≠ [] := fun e => h1 (by rw [e]; rfl)
      simp only [if_neg h1']
      rw [wrap_i64 (by omega) (by omega)]
      exact ⟨⟨hc, hl⟩, rfl⟩
  · cases h
theorem ok_ref2_Neg (args : List AV) (s : Spec) (h : rNeg args = some s) (hp : andO s.pre True) : Contract Tryd.prog Inv 7 args s.res := by
  unfold rNeg at h
  split at h
  · cases h
    rename_i s m e
    refine contract0 true ok_tab15 Tryd.func7 (by kernel_rfl) (by kernel_rfl) fun hok => ?_
    rw [vc_ref2_Neg]
    refine cond_i (fun h => ?_) (fun h => ?_)
    · have h := of_decide_eq_true h
      have h1' : m ≠ [] := fun e => by rw [e] at h; simp at h
      simp only [if_neg h1']
    · have h := of_decide_eq_false h
      have h1' : m = [] := List.length_eq_zero_iff.1 (by omega)
      simp only [if_pos h1']
  · cases h
theorem near_step {i n : Int} {s : Bool} {m : List Nat} {e : Int} {P R : Prop} (hi : 0 ≤ i ∧ i < n) (hf : Dy.nearD ⟨s, m, e⟩ = false → P) (hr : Dy.nearD ⟨s, m, e⟩ = true → R) :
    (0 ≤ i ∧ i < n) ∧ bif decide ((m.length : Int) > 100) then P else (0 ≤ i ∧ i < n) ∧ bif decide (e < -3000) then P else (0 ≤ i ∧ i < n) ∧ bif decide (e > 3000) then P else (0 ≤ i ∧ i < n) ∧ bif !Dy.mayD ⟨s, m, e⟩ then P else R := by
  unfold Dy.nearD at hf hr
  simp only at hf hr
  refine ⟨hi, cond_i (fun h => hf ?_) fun h => ⟨hi, cond_i (fun h1 => hf ?_) fun h1 => ⟨hi, cond_i (fun h2 => hf ?_) fun h2 => ⟨hi, cond_i (fun h3 => hf ?_) fun h3 => hr ?_⟩⟩⟩⟩
  · have h := of_decide_eq_true h
    rw [decide_eq_false (by omega), Bool.false_and]
  · have h1 := of_decide_eq_true h1
    rw [decide_eq_false (by omega), Bool.false_and]
  · have h2 := of_decide_eq_true h2
    rw [decide_eq_false (by omega), Bool.false_and]
  · simp only [Bool.not_eq_true'] at h3
    rw [h3, Bool.and_false]
  · have h := of_decide_eq_false h
    have h1 := of_decide_eq_false h1
    have h2 := of_decide_eq_false h2
    simp only [Bool.not_eq_false'] at h3
    rw [h3, decide_eq_true (by omega), Bool.and_self]
theorem ok_tab16 : PhiOk Tryd.prog Inv (look tab16) :=
  look_cons (look_cons (look_cons (look_cons (look_cons (ok_tab15) ok_ref2_Neg) ok_ref2_Top) ok_ref2_Form) ok_ref2_May) ok_ref2_Same
theorem ok_ref2_Int (args : List AV) (s : Spec) (h : dInt args = some s) (hp : andO s.pre True) : Contract Tryd.prog Inv 11 args s.res := by
  unfold dInt at h
  split at h
  · cases h
    rename_i n
    refine contract0 false ok_tab16 Tryd.func11 (by kernel_rfl) (by kernel_rfl) fun hok => ?_
    have hn := range_i64 (oks1_num hok).1
    rw [vc_ref2_Int, wrap_u64, wrap_u64]
    unfold Dy.intD Dy.formZ
    have hlen : (Dy.dg n.natAbs).length ≤ 1048576 := Dy.length_dg_bl.2 (by have := (Dy.bl_le (n := n.natAbs) (k := 64)).2 (by omega); omega)
    refine cond_i (fun h => ?_) (fun h => ?_)
    · have h := of_decide_eq_true h
      rw [show ((0 - n % 18446744073709551616) % 18446744073709551616).toNat = n.natAbs by omega, Dy.val_dg]
      refine ⟨⟨rfl, hlen, by omega, by omega⟩, ?_⟩
      rintro _ rfl _ rfl _ rfl
      rfl
    · have h := of_decide_eq_false h
      rw [show (n % 18446744073709551616).toNat = n.natAbs by omega, Dy.val_dg]
      refine ⟨⟨rfl, hlen, by omega, by omega⟩, ?_⟩
      rintro _ rfl _ rfl _ rfl
      rfl
  · cases h
theorem neg64' {N : Nat} (h : (N : Int) ≤ 9223372036854775808) : IntKind.i64.wrap (0 - IntKind.i64.wrap (N : Int)) = -(N : Int) := by
  simp [IntKind.wrap, IntKind.signed, IntKind.bits]
  omega
theorem ok_tab17 : PhiOk Tryd.prog Inv (look tab17) := look_cons (ok_tab16) ok_ref2_Int
end Go.AI

namespace Go.Dy
set_option maxRecDepth 100000
set_option linter.unusedVariables false
theorem formZ_at {d : Dyd} {u : Int} (h : mayD d = true) (hu : u ≤ d.exp) : formZ (at_ d u) u = d := by
  obtain ⟨s, m, e⟩ := d
  unfold at_
  simp only at hu ⊢
  rw [formZ_mul, show u + ((e - u).toNat : Int) = e by omega]
  exact formZ_self h
theorem at_zero (u : Int) : at_ zeroD u = 0 := by unfold at_ Dyd.int zeroD; simp [val]
theorem at_form {s : Bool} {n : Nat} {e u : Int} (hu : u ≤ e) : at_ (form s n e) u = sgn s (n * 2 ^ (e - u).toNat) := by
  by_cases c : n = 0
  · subst c
    rw [form_zero, at_zero, Nat.zero_mul, sgn_zero]
  · rw [form_pos c, at_mk, val_dg, show (e + (tz n : Int) - u).toNat = tz n + (e - u).toNat by omega, Nat.pow_add, ← Nat.mul_assoc, Nat.div_mul_cancel (two_tz_dvd n)]
theorem at_formZ {z e u : Int} (hu : u ≤ e) : at_ (formZ z e) u = z * 2 ^ (e - u).toNat := by
  unfold formZ
  rw [at_form hu, ← sgn_mul, ← sgn_natAbs, show (((2 ^ (e - u).toNat : Nat) : Int)) = (2 : Int) ^ (e - u).toNat by simp]
theorem at_formZ_self (z u : Int) : at_ (formZ z u) u = z := by
  rw [at_formZ (Int.le_refl _), show (u - u).toNat = 0 by omega, Int.pow_zero, Int.mul_one]
theorem at_scale (d : Dyd) {u v : Int} (hv : v ≤ u) (hu : u ≤ d.exp) : at_ d v = at_ d u * 2 ^ (u - v).toNat := by
  unfold at_
  rw [Int.mul_assoc, ← Int.pow_add, show (d.exp - v).toNat = (d.exp - u).toNat + (u - v).toNat by omega]
theorem addD_at {a b : Dyd} {u : Int} (ha : u ≤ a.exp) (hb : u ≤ b.exp) : addD a b = formZ (at_ a u + at_ b u) u := by
  unfold addD
  have h1 : u ≤ unit a b := by unfold unit; omega
  have h2 : unit a b ≤ a.exp := by unfold unit; omega
  have h3 : unit a b ≤ b.exp := by unfold unit; omega
  rw [at_scale a h1 h2, at_scale b h1 h3, ← Int.add_mul, formZ_mul, show u + ((unit a b - u).toNat : Int) = unit a b by omega]
theorem at_addD {a b : Dyd} {u : Int} (ha : u ≤ a.exp) (hb : u ≤ b.exp) : at_ (addD a b) u = at_ a u + at_ b u := by rw [addD_at ha hb, at_formZ_self]
theorem at_mulD {a b : Dyd} {u v : Int} (ha : u ≤ a.exp) (hb : v ≤ b.exp) : at_ (mulD a b) (u + v) = at_ a u * at_ b v := by
  obtain ⟨s, m, e⟩ := a
  obtain ⟨s', m', e'⟩ := b
  unfold mulD
  simp only at ha hb ⊢
  rw [at_form (by omega), at_mk, at_mk, show (e + e' - (u + v)).toNat = (e - u).toNat + (e' - v).toNat by omega, Nat.pow_add]
  have hn : val m * val m' * (2 ^ (e - u).toNat * 2 ^ (e' - v).toNat) = (val m * 2 ^ (e - u).toNat) * (val m' * 2 ^ (e' - v).toNat) := by
    rw [Nat.mul_mul_mul_comm]
  rw [hn]
  generalize val m * 2 ^ (e - u).toNat = A
  generalize val m' * 2 ^ (e' - v).toNat = B
  unfold sgn
  cases s <;> cases s' <;> simp [Int.neg_mul, Int.mul_neg]
theorem at_negD {b : Dyd} (u : Int) : at_ (negD b) u = -at_ b u := by
  obtain ⟨s, m, e⟩ := b
  unfold negD
  simp only
  rw [at_mk, at_mk]
  by_cases c : m = []
  · subst c
    simp [val, sgn]
  · unfold sgn
    cases s <;> simp [c]
/-- a number of at most L bits, the exponent of at most E in size -/
structure Fit (d : Dyd) (L E : Nat) : Prop where
  may : mayD d = true
  bits : bl (val d.mag) ≤ L
  lo : -(E : Int) ≤ d.exp
  hi : d.exp ≤ E
theorem Fit.mono {d : Dyd} {L E L' E' : Nat} (h : Fit d L E) (hl : L ≤ L') (he : E ≤ E') : Fit d L' E' := ⟨h.may, Nat.le_trans h.bits hl, by have := h.lo; omega, by have := h.hi; omega⟩
theorem near_fit {d : Dyd} (h : nearD d = true) : Fit d 3200 3000 := by
  unfold nearD at h
  simp only [Bool.and_eq_true, decide_eq_true_eq] at h
  obtain ⟨⟨h1, h2, h3⟩, h4⟩ := h
  refine ⟨h4, ?_, by omega, by omega⟩
  have hm := mayD_may (s := d.neg) (m := d.mag) (e := d.exp) h4
  have := (length_dg_bl (n := val d.mag) (k := 100)).1 (by rw [may_dg hm]; exact h1)
  omega
theorem fit_form {s : Bool} {n : Nat} {e : Int} {L E : Nat} (hb : bl n ≤ L) (h1 : -(E : Int) ≤ e) (h2 : e + bl n ≤ E) (hL : L ≤ 131072) (hE : E ≤ 16777216) : Fit (form s n e) L E ∧ boundD (form s n e) = (form s n e, 0) := by
  have hf : Fit (form s n e) L E := by
    by_cases c : n = 0
    · subst c
      rw [form_zero]
      exact ⟨mayD_zero, by unfold zeroD; simp only [val, bl_zero]; omega, by unfold zeroD; simp only; omega, by unfold zeroD; simp only; omega⟩
    · have ht := tz_lt_bl c
      have hbl : bl (n / 2 ^ tz n) ≤ L := by rw [bl_div_two_pow]; omega
      rw [form_pos c]
      refine ⟨?_, by rw [val_dg]; exact hbl, by simp only; omega, by simp only; omega⟩
      rw [mayD_iff]
      refine ⟨may_dgn.2 (len_bl.2 (by omega)), .inr ⟨fun e => ?_, by rw [val_dg]; exact div_tz_odd c, inside_iff.2 (by omega)⟩⟩
      have := dg_eq_nil.1 e
      have h0 := div_tz_odd c
      omega
  exact ⟨hf, boundD_self hf.may⟩
theorem fit_formZ {z e : Int} {L E : Nat} (hb : bl z.natAbs ≤ L) (h1 : -(E : Int) ≤ e) (h2 : e + bl z.natAbs ≤ E) (hL : L ≤ 131072) (hE : E ≤ 16777216) : Fit (formZ z e) L E ∧ boundD (formZ z e) = (formZ z e, 0) := fit_form hb h1 h2 hL hE
theorem natAbs_sgn (s : Bool) (n : Nat) : (sgn s n).natAbs = n := by unfold sgn; cases s <;> simp
theorem at_bits {d : Dyd} {L E : Nat} (h : Fit d L E) {u : Int} (hu : u ≤ d.exp) : bl (at_ d u).natAbs ≤ L + (d.exp - u).toNat := by
  obtain ⟨s, m, e⟩ := d
  have h1 := h.bits
  simp only at h1 hu ⊢
  rw [at_mk, natAbs_sgn]
  by_cases c : val m = 0
  · rw [c, Nat.zero_mul, bl_zero]; omega
  · rw [bl_mul_two_pow c]; omega
theorem bl_sum {x y : Int} {k : Nat} (hx : bl x.natAbs ≤ k) (hy : bl y.natAbs ≤ k) : bl (x + y).natAbs ≤ k + 1 := by
  have h1 := bl_le.1 hx
  have h2 := bl_le.1 hy
  refine bl_le.2 ?_
  rw [Nat.pow_succ]
  omega
theorem fit_add {a b : Dyd} {L E : Nat} (ha : Fit a L E) (hb : Fit b L E) (hL : L + 2 * E + 1 ≤ 131072) (hE : L + 3 * E + 1 ≤ 16777216) :
    Fit (addD a b) (L + 2 * E + 1) (L + 3 * E + 1) ∧ boundD (addD a b) = (addD a b, 0) := by
  unfold addD
  have a1 := ha.lo
  have a2 := ha.hi
  have b1 := hb.lo
  have b2 := hb.hi
  have u1 : unit a b ≤ a.exp := by unfold unit; omega
  have u2 : unit a b ≤ b.exp := by unfold unit; omega
  have u3 : -(E : Int) ≤ unit a b := by unfold unit; omega
  have k1 := at_bits ha u1
  have k2 := at_bits hb u2
  have k3 := bl_sum (x := at_ a (unit a b)) (y := at_ b (unit a b)) (k := L + 2 * E) (by omega) (by omega)
  exact fit_formZ k3 (by omega) (by omega) hL hE
theorem fit_neg {b : Dyd} {L E : Nat} (h : Fit b L E) : Fit (negD b) L E := by
  obtain ⟨s, m, e⟩ := b
  exact ⟨AI.mayD_neg h.may, h.bits, h.lo, h.hi⟩
theorem fit_mul {a b : Dyd} {L E : Nat} (ha : Fit a L E) (hb : Fit b L E) (hL : 2 * L ≤ 131072) (hE : 2 * E + 2 * L ≤ 16777216) :
    Fit (mulD a b) (2 * L) (2 * E + 2 * L) ∧ boundD (mulD a b) = (mulD a b, 0) := by
  unfold mulD
  have a1 := ha.lo
  have a2 := ha.hi
  have b1 := hb.lo
  have b2 := hb.hi
  have k : bl (val a.mag * val b.mag) ≤ 2 * L := by
    refine bl_le.2 ?_
    rw [show 2 * L = L + L by omega, Nat.pow_add]
    exact Nat.mul_lt_mul'' (bl_le.1 ha.bits) (bl_le.1 hb.bits)
  exact fit_form k (by omega) (by omega) hL hE
theorem fit_inj {a b : Dyd} {L E L' E' : Nat} (ha : Fit a L E) (hb : Fit b L' E') {u : Int} (h1 : u ≤ -(E : Int)) (h2 : u ≤ -(E' : Int)) (h : at_ a u = at_ b u) : a = b := by
  have a1 := ha.lo
  have b1 := hb.lo
  rw [← formZ_at ha.may (show u ≤ a.exp by omega), ← formZ_at hb.may (show u ≤ b.exp by omega), h]
theorem boundIf_add {a b : Dyd} {L E : Nat} (ha : Fit a L E) (hb : Fit b L E) (hL : L + 2 * E + 1 ≤ 131072) (hE : L + 3 * E + 1 ≤ 16777216) : boundIf (mayD a && mayD b) (addD a b) = (addD a b, 0) := by
  unfold boundIf
  rw [ha.may, hb.may, (fit_add ha hb hL hE).2]
  rfl
theorem boundIf_sub {a b : Dyd} {L E : Nat} (ha : Fit a L E) (hb : Fit b L E) (hL : L + 2 * E + 1 ≤ 131072) (hE : L + 3 * E + 1 ≤ 16777216) : boundIf (mayD a && mayD b) (addD a (negD b)) = (addD a (negD b), 0) := by
  unfold boundIf
  rw [ha.may, hb.may, (fit_add ha (fit_neg hb) hL hE).2]
  rfl
theorem boundIf_mul {a b : Dyd} {L E : Nat} (ha : Fit a L E) (hb : Fit b L E) (hL : 2 * L ≤ 131072) (hE : 2 * E + 2 * L ≤ 16777216) : boundIf (mayD a && mayD b) (mulD a b) = (mulD a b, 0) := by
  unfold boundIf
  rw [ha.may, hb.may, (fit_mul ha hb hL hE).2]
  rfl
/-! the ring's laws -/
section
variable {a b c : Dyd} (ha : Fit a 3200 3000) (hb : Fit b 3200 3000) (hc : Fit c 3200 3000)
include ha hb hc
theorem ring_assoc : addD (addD a b) c = addD a (addD b c) := by
  have f1 := (fit_add ha hb (by decide) (by decide)).1
  have f2 := (fit_add hb hc (by decide) (by decide)).1
  have f3 := (fit_add f1 (hc.mono (by decide) (by decide)) (by decide) (by decide)).1
  have f4 := (fit_add (ha.mono (by decide) (by decide)) f2 (by decide) (by decide)).1
  have a1 := ha.lo
  have b1 := hb.lo
  have c1 := hc.lo
  have d1 := f1.lo
  have d2 := f2.lo
  refine fit_inj f3 f4 (u := -100000) (by omega) (by omega) ?_
  rw [at_addD (by omega) (by omega), at_addD (by omega) (by omega), at_addD (by omega) (by omega), at_addD (by omega) (by omega)]
  omega
omit hc in
theorem ring_back : addD (addD a b) (negD b) = a := by
  have f1 := (fit_add ha hb (by decide) (by decide)).1
  have f3 := (fit_add f1 ((fit_neg hb).mono (by decide) (by decide)) (by decide) (by decide)).1
  have a1 := ha.lo
  have b1 := hb.lo
  have n1 := (fit_neg hb).lo
  have d1 := f1.lo
  refine fit_inj f3 ha (u := -100000) (by omega) (by omega) ?_
  rw [at_addD (by omega) (by omega), at_addD (by omega) (by omega), at_negD]
  omega
theorem ring_dist : mulD a (addD b c) = addD (mulD a b) (mulD a c) := by
  have f2 := (fit_add hb hc (by decide) (by decide)).1
  have p1 := (fit_mul ha hb (by decide) (by decide)).1
  have p2 := (fit_mul ha hc (by decide) (by decide)).1
  have f3 := (fit_mul (ha.mono (by decide) (by decide)) f2 (by decide) (by decide)).1
  have f4 := (fit_add p1 p2 (by decide) (by decide)).1
  have a1 := ha.lo
  have b1 := hb.lo
  have c1 := hc.lo
  have d2 := f2.lo
  have q1 := p1.lo
  have q2 := p2.lo
  refine fit_inj f3 f4 (u := -200000 + -200000) (by omega) (by omega) ?_
  rw [at_mulD (by omega) (by omega), at_addD (by omega) (by omega), at_addD (by omega) (by omega), at_mulD (by omega) (by omega), at_mulD (by omega) (by omega), Int.mul_add]
theorem ring_mul : mulD (mulD a b) c = mulD a (mulD b c) := by
  have p1 := (fit_mul ha hb (by decide) (by decide)).1
  have p2 := (fit_mul hb hc (by decide) (by decide)).1
  have f3 := (fit_mul p1 (hc.mono (by decide) (by decide)) (by decide) (by decide)).1
  have f4 := (fit_mul (ha.mono (by decide) (by decide)) p2 (by decide) (by decide)).1
  have a1 := ha.lo
  have b1 := hb.lo
  have c1 := hc.lo
  have q1 := p1.lo
  have q2 := p2.lo
  refine fit_inj f3 f4 (u := (-50000 + -50000) + -50000) (by omega) (by omega) ?_
  rw [at_mulD (by omega) (by omega), show (-50000 + -50000 + -50000 : Int) = -50000 + (-50000 + -50000) by omega, at_mulD (by omega) (by omega), at_mulD (by omega) (by omega), at_mulD (by omega) (by omega), Int.mul_assoc]
end
theorem mulD_comm (a b : Dyd) : mulD a b = mulD b a := by
  unfold mulD
  rw [Nat.mul_comm, Int.add_comm]
  have : (a.neg != b.neg) = (b.neg != a.neg) := by cases a.neg <;> cases b.neg <;> rfl
  rw [this]
/-! the order's laws -/
theorem cmpZ_mul (a b : Int) (k : Nat) : cmpZ (a * 2 ^ k) (b * 2 ^ k) = cmpZ a b := by
  have hp : (0 : Int) < 2 ^ k := Int.pow_pos (by decide)
  unfold cmpZ
  by_cases h1 : a < b
  · rw [if_pos h1, if_pos (Int.mul_lt_mul_of_pos_right h1 hp)]
  · by_cases h2 : b < a
    · have := Int.mul_lt_mul_of_pos_right h2 hp
      rw [if_neg h1, if_pos h2, if_neg (by omega), if_pos this]
    · have : a = b := by omega
      subst this
      simp
theorem cmpD_at {a b : Dyd} {u : Int} (ha : u ≤ a.exp) (hb : u ≤ b.exp) : cmpD a b = cmpZ (at_ a u) (at_ b u) := by
  unfold cmpD
  have h1 : u ≤ unit a b := by unfold unit; omega
  have h2 : unit a b ≤ a.exp := by unfold unit; omega
  have h3 : unit a b ≤ b.exp := by unfold unit; omega
  rw [at_scale a h1 h2, at_scale b h1 h3, cmpZ_mul]
theorem signD_at {d : Dyd} {u : Int} (hd : mayD d = true) (hu : u ≤ d.exp) : signD d = cmpZ (at_ d u) 0 := by
  obtain ⟨s, m, e⟩ := d
  rw [at_mk]
  unfold signD
  simp only
  by_cases c : m = []
  · subst c
    simp [val, sgn, cmpZ]
  · have hv := val_ne (mayD_may hd) c
    have hp := Nat.two_pow_pos (e - u).toNat
    have : 0 < val m * 2 ^ (e - u).toNat := Nat.mul_pos (by omega) hp
    generalize val m * 2 ^ (e - u).toNat = A at *
    simp only [if_neg c]
    unfold sgn
    cases s
    · simp only [Bool.false_eq_true, if_false]
      exact (cmpZ_gt (by omega)).symm
    · simp only [if_true]
      exact (cmpZ_lt (by omega)).symm
end Go.Dy

namespace Go.Dy
/-- the greatest whole number that is not above it -/
def floorD (d : Dyd) : Dyd := if 0 ≤ d.exp then d else formZ (d.int / 2 ^ (-d.exp).toNat) 0
/-- a number times 2^n, if that may be -/
def shiftD (d : Dyd) (n : Int) : Dyd × Int :=
  if mayD d then (if d.mag = [] then (zeroD, 0) else if inside (d.exp + n) then (⟨d.neg, d.mag, d.exp + n⟩, 0) else (zeroD, 20)) else (zeroD, 2)
def askD (b : Int) : Int := if b < 1 then 2 else if 8192 < b then 3 else 0
/-- the bits that are too many -/
def overD (d : Dyd) (b : Int) : Int := (bl (val d.mag) : Int) - b
/-- a number without its lowest bits -/
def headD (d : Dyd) (b : Int) : Dyd := form d.neg (val d.mag / 2 ^ (overD d b).toNat) (d.exp + overD d b)
structure Cutd where
  num : Dyd
  lost : Bool
  err : Int
def cutL (d : Dyd) (b : Int) : Cutd := if overD d b ≤ 0 then ⟨d, false, 0⟩ else ⟨(boundD (headD d b)).1, decide ((boundD (headD d b)).2 = 0), (boundD (headD d b)).2⟩
def cutD (d : Dyd) (b : Int) : Cutd := if mayD d then (if askD b = 0 then cutL d b else ⟨zeroD, false, askD b⟩) else ⟨zeroD, false, 2⟩
end Go.Dy
namespace Go.AI
open Go Go.RowKit Go.Proofs
set_option linter.unusedVariables false
def dFloor : List AV → Option Spec
  | [.agg [.bool s, .dig [1] m, .num .i64 e]] => some ⟨none, .tup [avD [0] (Dy.okIf (Dy.mayD ⟨s, m, e⟩) (Dy.floorD ⟨s, m, e⟩)).1, .num .i64 (Dy.okIf (Dy.mayD ⟨s, m, e⟩) (Dy.floorD ⟨s, m, e⟩)).2]⟩
  | _ => none
def dShift : List AV → Option Spec
  | [.agg [.bool s, .dig [1] m, .num .i64 e], .num .i64 n] => some ⟨none, .tup [avD [0] (Dy.shiftD ⟨s, m, e⟩ n).1, .num .i64 (Dy.shiftD ⟨s, m, e⟩ n).2]⟩
  | _ => none
def dAsked : List AV → Option Spec
  | [.num .i64 b] => some ⟨none, .num .i64 (Dy.askD b)⟩
  | _ => none
def dCutL : List AV → Option Spec
  | [.agg [.bool s, .dig [1] m, .num .i64 e], .num .i64 b] => some ⟨some (Dy.mayD ⟨s, m, e⟩ = true ∧ 1 ≤ b),
      .tup [avD [0] (Dy.cutL ⟨s, m, e⟩ b).num, .bool (Dy.cutL ⟨s, m, e⟩ b).lost, .num .i64 (Dy.cutL ⟨s, m, e⟩ b).err]⟩
  | _ => none
def dCut : List AV → Option Spec
  | [.agg [.bool s, .dig [1] m, .num .i64 e], .num .i64 b] => some ⟨none,
      .tup [avD [0] (Dy.cutD ⟨s, m, e⟩ b).num, .bool (Dy.cutD ⟨s, m, e⟩ b).lost, .num .i64 (Dy.cutD ⟨s, m, e⟩ b).err]⟩
  | _ => none
def tab18 : List (Nat × (List AV → Option Spec)) := (54, dFloor) :: (46, dShift) :: (27, dAsked) :: (28, dCutL) :: tab17
def tab19 : List (Nat × (List AV → Option Spec)) := (16, dCut) :: tab18
end Go.AI

namespace Go.AI
open Go Go.RowKit Go.Proofs
set_option linter.unusedVariables false
set_option maxRecDepth 100000
set_option maxHeartbeats 0
theorem vc_dyad_Floor (s : Bool) (m : List
  Nat) (e : Int) (Q : AV →
  Prop) : (evF Tryd.prog (look tab17) (lam []) false Tryd.f54
  [AV.agg [AV.bool s, AV.dig [(1 : Nat)] m, AV.num IntKind.i64 e]] Q) =
  (bif !Dy.mayD (Dy.Dyd.mk s m e) then
  Q (AV.tup [AV.agg [AV.bool false, AV.dig [(0 : Nat)] [], AV.num IntKind.i64 (0 : Int)], AV.num IntKind.i64 (2 : Int)])
 else
  bif decide (e ≥ (0 : Int)) then
  m.length ≤ (1048576 : Nat) ∧
  ∀ (b1 : Bool),
  b1 = s →
  ∀ (l2 : List Nat),
  l2 = m →
  ∀ (n3 : Int),
  n3 = e →
  Q
  (AV.tup
  [AV.agg [AV.bool b1, AV.dig [(0 : Nat)] l2, AV.num IntKind.i64 n3], AV.num IntKind.i64 (0 : Int)])
  else
  ∀ (l4 : List Nat),
  l4 = (Dy.shiftN m e).mag →
  ∀ (b5 : Bool),
  b5 = (Dy.shiftN m e).lost →
  ∀ (n6 : Int),
  n6 = (Dy.shiftN m e).err →
  bif s then
  bif b5 then
  ∀ (l7 : List Nat),
  l7 = (Dy.addR l4 (Dy.dg (1 : Nat))).fst →
  ∀ (n8 : Int),
  n8 = (Dy.addR l4 (Dy.dg (1 : Nat))).snd →
  ∀ (b9 : Bool),
  b9 = (Dy.makeD s l7 (0 : Int)).1.neg →
  ∀ (l10 : List Nat),
  l10 = (Dy.makeD s l7 (0 : Int)).1.mag →
  ∀ (n11 : Int),
  n11 = (Dy.makeD s l7 (0 : Int)).1.exp →
  ∀ (n12 : Int),
  n12 = (Dy.makeD s l7 (0 : Int)).snd →
  Q
  (AV.tup
  [AV.agg [AV.bool b9, AV.dig [(0 : Nat)] l10, AV.num IntKind.i64 n11],
  AV.num IntKind.i64 n12])
  else
  ∀ (b13 : Bool),
  b13 = (Dy.makeD s l4 (0 : Int)).1.neg →
  ∀ (l14 : List Nat),
  l14 = (Dy.makeD s l4 (0 : Int)).1.mag →
  ∀ (n15 : Int),
  n15 = (Dy.makeD s l4 (0 : Int)).1.exp →
  ∀ (n16 : Int),
  n16 = (Dy.makeD s l4 (0 : Int)).snd →
  Q
  (AV.tup
  [AV.agg [AV.bool b13, AV.dig [(0 : Nat)] l14, AV.num IntKind.i64 n15],
  AV.num IntKind.i64 n16])
  else
  ∀ (b17 : Bool),
  b17 = (Dy.makeD s l4 (0 : Int)).1.neg →
  ∀ (l18 : List Nat),
  l18 = (Dy.makeD s l4 (0 : Int)).1.mag →
  ∀ (n19 : Int),
  n19 = (Dy.makeD s l4 (0 : Int)).1.exp →
  ∀ (n20 : Int),
  n20 = (Dy.makeD s l4 (0 : Int)).snd →
  Q
  (AV.tup
  [AV.agg [AV.bool b17, AV.dig [(0 : Nat)] l18, AV.num IntKind.i64 n19],
  AV.num IntKind.i64 n20])) := by kernel_rfl
theorem vc_dyad_Shift (s : Bool) (m : List
  Nat) (e : Int) (n : Int) (Q : AV →
  Prop) : (evF Tryd.prog (look tab17) (lam []) false Tryd.f46
  [AV.agg [AV.bool s, AV.dig [(1 : Nat)] m, AV.num IntKind.i64 e], AV.num IntKind.i64 n] Q) =
  (bif !Dy.mayD (Dy.Dyd.mk s m e) then
  Q (AV.tup [AV.agg [AV.bool false, AV.dig [(0 : Nat)] [], AV.num IntKind.i64 (0 : Int)], AV.num IntKind.i64 (2 : Int)])
 else
  bif decide ((↑m.length : Int) = (0 : Int)) then
  Q
  (AV.tup
  [AV.agg [AV.bool false, AV.dig [(0 : Nat)] [], AV.num IntKind.i64 (0 : Int)], AV.num IntKind.i64 (0 : Int)])
  else
  bif decide (n > IntKind.i64.wrap ((16777216 : Int) - e)) then
  Q
  (AV.tup
  [AV.agg [AV.bool false, AV.dig [(0 : Nat)] [], AV.num IntKind.i64 (0 : Int)], AV.num IntKind.i64 (20 : Int)])
  else
  bif decide (n < IntKind.i64.wrap ((-16777216 : Int) - e)) then
  Q
  (AV.tup
  [AV.agg [AV.bool false, AV.dig [(0 : Nat)] [], AV.num IntKind.i64 (0 : Int)],
  AV.num IntKind.i64 (20 : Int)])
  else
  m.length ≤ (1048576 : Nat) ∧
  ∀ (b1 : Bool),
  b1 = s →
  ∀ (l2 : List Nat),
  l2 = m →
  ∀ (n3 : Int),
  n3 = e →
  Q
  (AV.tup
  [AV.agg [AV.bool b1, AV.dig [(0 : Nat)] l2, AV.num IntKind.i64 (IntKind.i64.wrap (n3 + n))],
  AV.num IntKind.i64 (0 : Int)])) := by kernel_rfl
theorem vc_dyad_asked (b : Int) (Q : AV →
  Prop) : (evF Tryd.prog (look tab17) (lam []) false Tryd.f27 [AV.num IntKind.i64 b] Q) =
  (bif decide (b < (1 : Int)) then Q (AV.num IntKind.i64 (2 : Int))
 else
  bif decide (b > (8192 : Int)) then Q (AV.num IntKind.i64 (3 : Int))
  else Q (AV.num IntKind.i64 (0 : Int))) := by kernel_rfl
theorem vc_dyad_cut (s : Bool) (m : List
  Nat) (e : Int) (b : Int) (Q : AV →
  Prop) : (evF Tryd.prog (look tab17) (lam []) false Tryd.f28
  [AV.agg [AV.bool s, AV.dig [(1 : Nat)] m, AV.num IntKind.i64 e], AV.num IntKind.i64 b] Q) =
  (bif decide (IntKind.i64.wrap ((↑(Dy.lenN m) : Int) - b) ≤ (0 : Int)) then
  m.length ≤ (1048576 : Nat) ∧
  ∀ (b1 : Bool),
  b1 = s →
  ∀ (l2 : List Nat),
  l2 = m →
  ∀ (n3 : Int),
  n3 = e →
  Q
  (AV.tup
  [AV.agg [AV.bool b1, AV.dig [(0 : Nat)] l2, AV.num IntKind.i64 n3], AV.bool false,
  AV.num IntKind.i64 (0 : Int)])
 else
  ∀ (l4 : List Nat),
  l4 = (Dy.shiftN m (IntKind.i64.wrap ((0 : Int) - IntKind.i64.wrap ((↑(Dy.lenN m) : Int) - b)))).mag →
  ∀ (b5 : Bool),
  b5 = (Dy.shiftN m (IntKind.i64.wrap ((0 : Int) - IntKind.i64.wrap ((↑(Dy.lenN m) : Int) - b)))).lost →
  ∀ (n6 : Int),
  n6 = (Dy.shiftN m (IntKind.i64.wrap ((0 : Int) - IntKind.i64.wrap ((↑(Dy.lenN m) : Int) - b)))).err →
  ∀ (b7 : Bool),
  b7 = (Dy.makeD s l4 (IntKind.i64.wrap (e + IntKind.i64.wrap ((↑(Dy.lenN m) : Int) - b)))).1.neg →
  ∀ (l8 : List Nat),
  l8 = (Dy.makeD s l4 (IntKind.i64.wrap (e + IntKind.i64.wrap ((↑(Dy.lenN m) : Int) - b)))).1.mag →
  ∀ (n9 : Int),
  n9 =
  (Dy.makeD s l4 (IntKind.i64.wrap (e + IntKind.i64.wrap ((↑(Dy.lenN m) : Int) - b)))).1.exp →
  ∀ (n10 : Int),
  n10 =
  (Dy.makeD s l4
  (IntKind.i64.wrap (e + IntKind.i64.wrap ((↑(Dy.lenN m) : Int) - b)))).snd →
  Q
  (AV.tup
  [AV.agg [AV.bool b7, AV.dig [(0 : Nat)] l8, AV.num IntKind.i64 n9],
  AV.bool (n10 == (0 : Int)), AV.num IntKind.i64 n10])) := by kernel_rfl
theorem vc_dyad_Cut (s : Bool) (m : List
  Nat) (e : Int) (b : Int) (Q : AV →
  Prop) : (evF Tryd.prog (look tab18) (lam []) false Tryd.f16
  [AV.agg [AV.bool s, AV.dig [(1 : Nat)] m, AV.num IntKind.i64 e], AV.num IntKind.i64 b] Q) =
  (bif !Dy.mayD (Dy.Dyd.mk s m e) then
  Q
  (AV.tup
  [AV.agg [AV.bool false, AV.dig [(0 : Nat)] [], AV.num IntKind.i64 (0 : Int)], AV.bool false,
  AV.num IntKind.i64 (2 : Int)])
 else
  bif !decide (Dy.askD b = (0 : Int)) then
  Q
  (AV.tup
  [AV.agg [AV.bool false, AV.dig [(0 : Nat)] [], AV.num IntKind.i64 (0 : Int)], AV.bool false,
  AV.num IntKind.i64 (Dy.askD b)])
  else
  (Dy.mayD (Dy.Dyd.mk s m e) = true ∧ (1 : Int) ≤ b) ∧
  ∀ (b1 : Bool),
  b1 = (Dy.cutL (Dy.Dyd.mk s m e) b).num.neg →
  ∀ (l2 : List Nat),
  l2 = (Dy.cutL (Dy.Dyd.mk s m e) b).num.mag →
  ∀ (n3 : Int),
  n3 = (Dy.cutL (Dy.Dyd.mk s m e) b).num.exp →
  ∀ (b4 : Bool),
  b4 = (Dy.cutL (Dy.Dyd.mk s m e) b).lost →
  ∀ (n5 : Int),
  n5 = (Dy.cutL (Dy.Dyd.mk s m e) b).err →
  Q
  (AV.tup
  [AV.agg [AV.bool b1, AV.dig [(0 : Nat)] l2, AV.num IntKind.i64 n3], AV.bool b4,
  AV.num IntKind.i64 n5])) := by kernel_rfl
end Go.AI

namespace Go.Dy
set_option maxRecDepth 100000
theorem ediv_eq {x P z : Int} (hP : 0 < P) (h1 : z * P ≤ x) (h2 : x < (z + 1) * P) : x / P = z := by
  have a1 := (Int.le_ediv_iff_mul_le (a := z) (b := x) hP).2 h1
  have a2 := (Int.ediv_lt_iff_lt_mul (a := x) (b := z + 1) hP).2 h2
  omega
/-- the whole number below -/
theorem floor_sgn (s : Bool) (M k : Nat) : sgn s M / 2 ^ k = sgn s (if s && decide (M % 2 ^ k ≠ 0) then M / 2 ^ k + 1 else M / 2 ^ k) := by
  have hp := Nat.two_pow_pos k
  rw [show ((2 : Int) ^ k) = ((2 ^ k : Nat) : Int) by simp]
  have hM := Nat.div_add_mod M (2 ^ k)
  have hr := Nat.mod_lt M hp
  generalize 2 ^ k = P at *
  unfold sgn
  cases s
  · simp
  · simp only [if_true, Bool.true_and]
    by_cases c : M % P = 0
    · simp only [c, ne_eq, not_true, decide_false, Bool.false_eq_true, if_false]
      refine ediv_eq (by omega) ?_ ?_
      · rw [c, Nat.add_zero] at hM
        rw [Int.neg_mul, ← Int.natCast_mul, Nat.mul_comm]
        omega
      · rw [c, Nat.add_zero] at hM
        rw [Int.add_mul, Int.neg_mul, ← Int.natCast_mul, Nat.mul_comm]
        omega
    · simp only [ne_eq, c, not_false_eq_true, decide_true, if_true]
      refine ediv_eq (by omega) ?_ ?_
      · rw [Int.neg_mul, ← Int.natCast_mul, Nat.add_mul, Nat.one_mul, Nat.mul_comm]
        omega
      · rw [Int.add_mul, Int.neg_mul, ← Int.natCast_mul, Nat.add_mul, Nat.one_mul, Nat.mul_comm]
        omega
theorem lost_iff {M k : Nat} (h : M ≠ 0) : decide ((tz M : Int) < (k : Int)) = decide (M % 2 ^ k ≠ 0) := by
  rw [decide_eq_decide]
  have := dvd_iff_le_tz h k
  constructor
  · intro h1 h2; have := this.1 h2; omega
  · intro h1
    by_cases c : k ≤ tz M
    · exact absurd (this.2 c) h1
    · omega
theorem shiftN_lost {a : List Nat} (h : may a = true) (n : Nat) (h0 : val a ≠ 0) (hn : 0 < n) : (shiftN a (-(n : Int))).lost = decide (val a % 2 ^ n ≠ 0) := by
  unfold shiftN
  rw [if_pos h, if_neg h0, if_pos (by omega)]
  simp only [Int.neg_neg]
  exact lost_iff h0
theorem bl_half_succ {n k : Nat} (h : bl n ≤ k) : bl (n + 1) ≤ k + 1 := by
  have := bl_le.1 h
  exact bl_le.2 (by rw [Nat.pow_succ]; omega)
end Go.Dy
namespace Go.AI
open Go Go.RowKit Go.Proofs
set_option linter.unusedVariables false
set_option maxRecDepth 100000
theorem ok_dyad_Floor (args : List AV) (s : Spec) (h : dFloor args = some s) (hp : andO s.pre True) : Contract Tryd.prog Inv 54 args s.res := by
  unfold dFloor at h
  split at h
  · cases h
    rename_i s m e
    refine contract0 false ok_tab17 Tryd.func54 (by kernel_rfl) (by kernel_rfl) fun hok => ?_
    rw [vc_dyad_Floor]
    unfold Dy.okIf Dy.floorD
    refine cond_i (fun h => ?_) (fun h => ?_)
    · simp only [Bool.not_eq_true'] at h
      rw [h]; rfl
    · simp only [Bool.not_eq_false'] at h
      rw [h]
      have hm := Dy.mayD_may h
      have hl := Dy.may_len hm
      have hx := Dy.mayD_exp h
      have hb := Dy.may_bl hm
      simp only [if_true]
      refine cond_i (fun h1 => ?_) (fun h1 => ?_)
      · have h1 := of_decide_eq_true h1
        rw [if_pos (by omega)]
        refine ⟨by omega, ?_⟩
        rintro _ rfl _ rfl _ rfl
        rfl
      · have h1 := of_decide_eq_false h1
        rw [if_neg (by omega)]
        have hm0 : m ≠ [] := fun e0 => by subst e0; have := (Dy.mayD_nil h).2; omega
        have hv := Dy.val_ne hm hm0
        obtain ⟨k, hk⟩ : ∃ k : Nat, e = -(k : Int) := ⟨(-e).toNat, by omega⟩
        subst hk
        have hk0 : 0 < k := by omega
        rw [Dy.shiftN_neg hm, Dy.shiftN_lost hm k hv hk0, Dy.int_mk, show (- -(k : Int)).toNat = k by omega, Dy.floor_sgn, Dy.formZ_sgn]
        have hq : Dy.bl (Dy.val m / 2 ^ k) ≤ 131071 := by rw [Dy.bl_div_two_pow]; omega
        have fin : ∀ X : Nat, Dy.bl X ≤ 131072 → Dy.makeD s (Dy.dg X) 0 = (Dy.form s X 0, 0) := fun X hX => by
          rw [Dy.makeD_dg hX]
          exact (Dy.fit_form (L := 131072) (E := 16777216) hX (by omega) (by omega) (by omega) (by omega)).2
        intro l1 e1 b2 e2 _ _
        rw [e1, e2]
        cases s
        · refine cond_f rfl ?_
          simp only [Bool.false_and, Bool.false_eq_true, if_false]
          rw [fin _ (by omega)]
          rintro _ rfl _ rfl _ rfl _ rfl
          rfl
        · refine cond_t rfl (cond_i (fun h2 => ?_) (fun h2 => ?_))
          · rw [h2]
            simp only [Bool.true_and, if_true]
            have m1 : Dy.may (Dy.dg (Dy.val m / 2 ^ k)) = true := Dy.may_dgn.2 (Dy.len_bl.2 (by omega))
            have mo : Dy.may (Dy.dg 1) = true := Dy.may_dgn.2 (Dy.len_bl.2 (by decide))
            have hq1 := Dy.bl_half_succ hq
            rw [Dy.addR_dg m1 mo, Dy.val_dg, Dy.val_dg]
            simp only [if_pos hq1]
            rintro _ rfl _ -
            rw [fin _ (by omega)]
            rintro _ rfl _ rfl _ rfl _ rfl
            rfl
          · rw [h2]
            simp only [Bool.true_and, Bool.false_eq_true, if_false]
            rw [fin _ (by omega)]
            rintro _ rfl _ rfl _ rfl _ rfl
            rfl
  · cases h
theorem ok_dyad_Shift (args : List AV) (s : Spec) (h : dShift args = some s) (hp : andO s.pre True) : Contract Tryd.prog Inv 46 args s.res := by
  unfold dShift at h
  split at h
  · cases h
    rename_i s m e n
    refine contract0 false ok_tab17 Tryd.func46 (by kernel_rfl) (by kernel_rfl) fun hok => ?_
    obtain ⟨-, -, h5⟩ := oks_d hok
    have hn := range_i64 (oks1_num h5).1
    rw [vc_dyad_Shift]
    unfold Dy.shiftD
    refine cond_i (fun h => ?_) (fun h => ?_)
    · simp only [Bool.not_eq_true'] at h
      simp only [h, Bool.false_eq_true, if_false]
      rfl
    · simp only [Bool.not_eq_false'] at h
      have hl := Dy.may_len (Dy.mayD_may h)
      have hx := Dy.mayD_exp h
      simp only [h, if_true]
      rw [wrap_i64 (n := 16777216 - e) (by omega) (by omega), wrap_i64 (n := -16777216 - e) (by omega) (by omega)]
      have far : ¬ (-16777216 ≤ e + n ∧ e + n ≤ 16777216) → (if Dy.inside (e + n) = true then ((⟨s, m, e + n⟩ : Dy.Dyd), (0 : Int)) else (Dy.zeroD, 20)) = (Dy.zeroD, 20) := fun hf => by rw [if_neg (fun h => hf (Dy.inside_iff.1 h))]
      refine cond_i (fun h1 => ?_) (fun h1 => ?_)
      · have h1 := List.length_eq_zero_iff.1 (Int.ofNat_eq_zero.1 (of_decide_eq_true h1))
        subst h1
        rfl
      · have h1 := of_decide_eq_false h1
        have h1' : m ≠ [] := fun e => h1 (by rw [e]; rfl)
        simp only [if_neg h1']
        refine cond_i (fun h2 => ?_) (fun h2 => cond_i (fun h3 => ?_) (fun h3 => ?_))
        · have h2 := of_decide_eq_true h2
          rw [far (by omega)]
          rfl
        · have h3 := of_decide_eq_true h3
          rw [far (by omega)]
          rfl
        · have h2 := of_decide_eq_false h2
          have h3 := of_decide_eq_false h3
          rw [if_pos (Dy.inside_iff.2 (by omega))]
          refine ⟨by omega, ?_⟩
          rintro _ rfl _ rfl _ rfl
          rw [wrap_i64 (by omega) (by omega)]
          rfl
  · cases h
theorem ok_dyad_asked (args : List AV) (s : Spec) (h : dAsked args = some s) (hp : andO s.pre True) : Contract Tryd.prog Inv 27 args s.res := by
  unfold dAsked at h
  split at h
  · cases h
    rename_i b
    refine contract0 false ok_tab17 Tryd.func27 (by kernel_rfl) (by kernel_rfl) fun hok => ?_
    rw [vc_dyad_asked]
    unfold Dy.askD
    refine cond_i (fun h => ?_) (fun h => cond_i (fun h1 => ?_) (fun h1 => ?_))
    · rw [if_pos (of_decide_eq_true h)]
    · rw [if_neg (of_decide_eq_false h), if_pos (of_decide_eq_true h1)]
    · rw [if_neg (of_decide_eq_false h), if_neg (of_decide_eq_false h1)]
  · cases h
theorem ok_dyad_cut (args : List AV) (s : Spec) (h : dCutL args = some s) (hp : andO s.pre True) : Contract Tryd.prog Inv 28 args s.res := by
  unfold dCutL at h
  split at h
  · cases h
    rename_i s m e b
    have h := hp.1.1
    have hb1 := hp.1.2
    refine contract0 false ok_tab17 Tryd.func28 (by kernel_rfl) (by kernel_rfl) fun hok => ?_
    have h5 := (oks_d hok).2.2
    have hn := range_i64 (oks1_num h5).1
    have hm := Dy.mayD_may h
    have hl := Dy.may_len hm
    have hx := Dy.mayD_exp h
    have hb := Dy.may_bl hm
    have l1 : Dy.lenN m = Dy.bl (Dy.val m) := by unfold Dy.lenN; rw [if_pos hm]
    rw [vc_dyad_cut, l1]
    unfold Dy.cutL Dy.headD Dy.overD
    simp only
    rw [wrap_i64 (n := (Dy.bl (Dy.val m) : Int) - b) (by omega) (by omega)]
    refine cond_i (fun h1 => ?_) (fun h1 => ?_)
    · have h1 := of_decide_eq_true h1
      rw [if_pos h1]
      refine ⟨by omega, ?_⟩
      rintro _ rfl _ rfl _ rfl
      rfl
    · have h1 := of_decide_eq_false h1
      rw [if_neg h1]
      obtain ⟨n, hn'⟩ : ∃ n : Nat, (Dy.bl (Dy.val m) : Int) - b = n := ⟨((Dy.bl (Dy.val m) : Int) - b).toNat, by omega⟩
      rw [hn', wrap_i64 (n := (0 : Int) - n) (by omega) (by omega), wrap_i64 (by omega) (by omega), show (0 : Int) - (n : Int) = -(n : Int) by omega, Dy.shiftN_neg hm, Int.toNat_natCast]
      rintro _ rfl _ - _ -
      rw [Dy.makeD_dg (by rw [Dy.bl_div_two_pow]; omega)]
      rintro _ rfl _ rfl _ rfl _ rfl
      rfl
  · cases h
theorem ok_tab18 : PhiOk Tryd.prog Inv (look tab18) := look_cons (look_cons (look_cons (look_cons ok_tab17 ok_dyad_cut) ok_dyad_asked) ok_dyad_Shift) ok_dyad_Floor
theorem ok_dyad_Cut (args : List AV) (s : Spec) (h : dCut args = some s) (hp : andO s.pre True) : Contract Tryd.prog Inv 16 args s.res := by
  unfold dCut at h
  split at h
  · cases h
    rename_i s m e b
    refine contract0 false ok_tab18 Tryd.func16 (by kernel_rfl) (by kernel_rfl) fun hok => ?_
    rw [vc_dyad_Cut]
    unfold Dy.cutD
    refine cond_i (fun h => ?_) (fun h => ?_)
    · simp only [Bool.not_eq_true'] at h
      simp only [h, Bool.false_eq_true, if_false]
      rfl
    · simp only [Bool.not_eq_false'] at h
      simp only [h, if_true]
      refine cond_i (fun h1 => ?_) (fun h1 => ?_)
      · simp only [Bool.not_eq_true', decide_eq_false_iff_not] at h1
        rw [if_neg h1]
        rfl
      · simp only [Bool.not_eq_false', decide_eq_true_eq] at h1
        rw [if_pos h1]
        have hb1 : 1 ≤ b := by
          unfold Dy.askD at h1
          split at h1
          · omega
          · omega
        refine ⟨⟨trivial, hb1⟩, ?_⟩
        rintro _ rfl _ rfl _ rfl _ rfl _ rfl
        rfl
  · cases h
theorem ok_tab19 : PhiOk Tryd.prog Inv (look tab19) := look_cons ok_tab18 ok_dyad_Cut
end Go.AI

namespace Go.AI
open Go Go.RowKit Go.Proofs
set_option linter.unusedVariables false
set_option maxRecDepth 100000
set_option maxHeartbeats 0
end Go.AI

namespace Go.AI
open Go Go.RowKit Go.Proofs
set_option linter.unusedVariables false
set_option maxRecDepth 100000
theorem same_self (d : Dy.Dyd) : Dy.sameD d d = true := Dy.sameD_iff.2 rfl
/-- what a call yielded, under one name -/
theorem peel {x : Dy.Dyd × Int} {d0 : Dy.Dyd} {k0 : Int} (hx : x = (d0, k0)) {P : Bool → List Nat → Int → Int → Prop} (h : ∀ b l n, Dy.Dyd.mk b l n = d0 → P b l n k0) :
    ∀ b, b = x.1.neg → ∀ l, l = x.1.mag → ∀ n, n = x.1.exp → ∀ k, k = x.2 → P b l n k := by
  subst hx
  rintro _ rfl _ rfl _ rfl _ rfl
  exact h _ _ _ rfl
theorem peel1 {x k0 : Int} (hx : x = k0) {P : Int → Prop} (h : P k0) : ∀ k, k = x → P k := by
  subst hx
  rintro _ rfl
  exact h
theorem t0 {p q : Prop} (h : q) : bif !decide ((0 : Int) = 0) then p else q := h
theorem t1 {p q : Prop} (h : p) : bif decide ((0 : Int) = 0) then p else q := h
theorem cmpZ_spec (a b : Int) : (a < b ∧ Dy.cmpZ a b = -1) ∨ (a = b ∧ Dy.cmpZ a b = 0) ∨ (b < a ∧ Dy.cmpZ a b = 1) := by
  unfold Dy.cmpZ
  by_cases h1 : a < b
  · exact .inl ⟨h1, if_pos h1⟩
  · by_cases h2 : b < a
    · exact .inr (.inr ⟨h2, by rw [if_neg h1, if_pos h2]⟩)
    · exact .inr (.inl ⟨by omega, by rw [if_neg h1, if_neg h2]⟩)
theorem cmp_chain (X Y Z : Int) : (Dy.cmpZ X Y ≤ 0 → Dy.cmpZ Y Z ≤ 0 → Dy.cmpZ X Z ≤ 0) ∧ (Dy.cmpZ X Y < 0 → Dy.cmpZ Y Z ≤ 0 → Dy.cmpZ X Z < 0) ∧ Dy.cmpZ Y X = -Dy.cmpZ X Y ∧ (Dy.cmpZ X Y = 0 ↔ X = Y) ∧ Dy.cmpZ (X + -Y) 0 = Dy.cmpZ X Y := by
  have h1 := cmpZ_spec X Y
  have h2 := cmpZ_spec Y Z
  have h3 := cmpZ_spec X Z
  have h4 := cmpZ_spec Y X
  have h5 := cmpZ_spec (X + -Y) 0
  omega
end Go.AI

namespace Go.Dy
set_option maxRecDepth 100000
theorem form_exp (s : Bool) (n : Nat) {e : Int} (h : 0 ≤ e) : 0 ≤ (form s n e).exp := by
  by_cases c : n = 0
  · subst c; exact Int.le_refl _
  · rw [form_pos c]; simp only; omega
theorem floor_mag (M k : Nat) (hM : 0 < M) (hk : 0 < k) : M / 2 ^ k + 1 ≤ M := by
  have h2 : 2 ≤ 2 ^ k := by
    calc 2 = 2 ^ 1 := rfl
      _ ≤ 2 ^ k := Nat.pow_le_pow_right (by decide) hk
  have : M / 2 ^ k ≤ M / 2 := Nat.div_le_div_left h2 (by decide)
  by_cases c : M = 1
  · subst c
    have : 1 / 2 ^ k = 0 := Nat.div_eq_of_lt (by omega)
    omega
  · omega
theorem floor_neg {d : Dyd} (h : mayD d = true) (he : d.exp < 0) : ∃ (k X : Nat), d.exp = -(k : Int) ∧ 0 < k ∧ d.int / 2 ^ k = sgn d.neg X ∧ X ≤ val d.mag ∧ floorD d = form d.neg X 0 ∧ val d.mag % 2 = 1 := by
  obtain ⟨s, m, e⟩ := d
  simp only at he ⊢
  have hm := mayD_may h
  have hm0 : m ≠ [] := fun e0 => by subst e0; have := (mayD_nil h).2; omega
  have hv := val_ne hm hm0
  obtain ⟨k, hk⟩ : ∃ k : Nat, e = -(k : Int) := ⟨(-e).toNat, by omega⟩
  subst hk
  have hk0 : 0 < k := by omega
  refine ⟨k, if s && decide (val m % 2 ^ k ≠ 0) then val m / 2 ^ k + 1 else val m / 2 ^ k, rfl, hk0, by rw [int_mk, floor_sgn], ?_, ?_, mayD_odd h hm0⟩
  · split
    · exact floor_mag _ _ (by omega) hk0
    · exact Nat.div_le_self _ _
  · unfold floorD
    rw [if_neg (by simp only; omega)]
    simp only
    rw [int_mk, show (- -(k : Int)).toNat = k by omega, floor_sgn, formZ_sgn]
theorem floor_fit {d : Dyd} {L E : Nat} (h : Fit d L E) (hL : L ≤ 131072) (hE : E + L ≤ 16777216) : Fit (floorD d) L (E + L) ∧ 0 ≤ (floorD d).exp := by
  by_cases c : 0 ≤ d.exp
  · have : floorD d = d := by unfold floorD; rw [if_pos c]
    rw [this]
    exact ⟨h.mono (Nat.le_refl _) (by omega), c⟩
  · obtain ⟨k, X, hk, hk0, hq, hX, hf, _⟩ := floor_neg h.may (by omega)
    rw [hf]
    have hb : bl X ≤ L := Nat.le_trans (bl_mono hX) h.bits
    exact ⟨(fit_form hb (by omega) (by omega) hL hE).1, form_exp _ _ (Int.le_refl _)⟩
theorem floor_at {d : Dyd} (h : mayD d = true) (n : Nat) (hu : -(n : Int) ≤ d.exp) :
    at_ (floorD d) (-(n : Int)) ≤ at_ d (-(n : Int)) ∧ at_ d (-(n : Int)) < at_ (floorD d) (-(n : Int)) + 2 ^ n ∧ (at_ (floorD d) (-(n : Int)) = at_ d (-(n : Int)) ↔ 0 ≤ d.exp) := by
  have hp : (0 : Int) < 2 ^ n := Int.pow_pos (by decide)
  by_cases c : 0 ≤ d.exp
  · have : floorD d = d := by unfold floorD; rw [if_pos c]
    rw [this]
    exact ⟨Int.le_refl _, by omega, by simp [c]⟩
  · obtain ⟨k, X, hk, hk0, hq, hX, hf, hodd⟩ := floor_neg h (by omega)
    have hkn : k ≤ n := by omega
    have hpk : (0 : Int) < 2 ^ k := Int.pow_pos (by decide)
    have hpn : (0 : Int) < 2 ^ (n - k) := Int.pow_pos (by decide)
    have hsplit : (2 : Int) ^ n = 2 ^ k * 2 ^ (n - k) := by rw [← Int.pow_add]; congr 1; omega
    have e1 : at_ (floorD d) (-(n : Int)) = sgn d.neg X * 2 ^ k * 2 ^ (n - k) := by
      rw [hf, at_form (by omega), ← sgn_mul, show (0 - -(n : Int)).toNat = n by omega, show (((2 ^ n : Nat)) : Int) = (2 : Int) ^ n by simp, hsplit, Int.mul_assoc]
    have e2 : at_ d (-(n : Int)) = d.int * 2 ^ (n - k) := by
      unfold at_
      rw [hk, show (-(k : Int) - -(n : Int)).toNat = n - k by omega]
    have l1 : sgn d.neg X * 2 ^ k ≤ d.int := by rw [← hq]; exact (Int.le_ediv_iff_mul_le hpk).1 (Int.le_refl _)
    have l2 : d.int < (sgn d.neg X + 1) * 2 ^ k := by rw [← hq]; exact (Int.ediv_lt_iff_lt_mul hpk).1 (by omega)
    have l3 : sgn d.neg X * 2 ^ k ≠ d.int := by
      intro e
      obtain ⟨j, rfl⟩ : ∃ j, k = j + 1 := ⟨k - 1, by omega⟩
      rw [Int.pow_succ, ← Int.mul_assoc, Dyd.int_eq] at e
      generalize sgn d.neg X * 2 ^ j = Y at e
      unfold sgn at e
      split at e <;> omega
    rw [e1, e2, hsplit]
    have l4 : sgn d.neg X * 2 ^ k < d.int := by omega
    have g1 := Int.mul_lt_mul_of_pos_right l4 hpn
    have g2 := Int.mul_lt_mul_of_pos_right l2 hpn
    rw [Int.add_mul, Int.one_mul, Int.add_mul] at g2
    exact ⟨by omega, g2, by constructor <;> intro <;> omega⟩
theorem one_fit : Fit (intD 1) 1 1 := (fit_formZ (z := 1) (e := 0) (L := 1) (E := 1) (by decide) (by decide) (by decide) (by decide) (by decide)).1
theorem at_one (n : Nat) : at_ (intD 1) (-(n : Int)) = 2 ^ n := by
  unfold intD
  rw [at_formZ (by omega), show (0 - -(n : Int)).toNat = n by omega, Int.one_mul]
end Go.Dy
