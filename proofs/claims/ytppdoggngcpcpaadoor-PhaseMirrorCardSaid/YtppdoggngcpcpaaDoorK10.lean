/- My texts AVspan1, AIspecG, AIquo3, AIclose0, in one. -/
import Derived.Test.YtppdoggngcpcpaaDoorK9
namespace Go.AI
open Go Go.RowKit Go.Proofs
set_option linter.unusedVariables false
set_option maxRecDepth 100000
set_option maxHeartbeats 0
theorem vc_span_power (n : Int) (Q : AV →
  Prop) : (evF Tryd.prog (look tabF) (lam []) false Tryd.f55 [AV.num IntKind.i64 n] Q) =
  (Q (AV.agg [AV.bool false, AV.dig [(0 : Nat)] [(1 : Nat)], AV.num IntKind.i64 n])) := by kernel_rfl
theorem vc_span_Of (s : Bool) (m : List
  Nat) (e : Int) (Q : AV →
  Prop) : (evF Tryd.prog (look tabF) (lam []) true Tryd.f29
  [AV.agg [AV.bool s, AV.dig [(1 : Nat)] m, AV.num IntKind.i64 e]] Q) =
  (Q
  (AV.agg
  [AV.bool s, AV.dig [(0 : Nat), (1 : Nat)] m, AV.num IntKind.i64 e, AV.bool s, AV.dig [(0 : Nat), (1 : Nat)] m,
  AV.num IntKind.i64 e])) := by kernel_rfl
theorem vc_span_add (s : Bool) (s' : Bool) (m : List
  Nat) (m' : List
  Nat) (e : Int) (e' : Int) (Q : AV →
  Prop) : (evF Tryd.prog (look tabF) (lam []) false Tryd.f51
  [AV.agg [AV.bool s, AV.dig [(1 : Nat)] m, AV.num IntKind.i64 e],
  AV.agg [AV.bool s', AV.dig [(2 : Nat)] m', AV.num IntKind.i64 e']]
  Q) =
  (dyF
  (Dy.boundIf (Dy.mayD (Dy.Dyd.mk s m e) && Dy.mayD (Dy.Dyd.mk s' m' e'))
  (Dy.addD (Dy.Dyd.mk s m e) (Dy.Dyd.mk s' m' e'))).1
  fun b1 l2 n3 =>
  ∀ (n4 : Int),
  n4 =
  (Dy.boundIf (Dy.mayD (Dy.Dyd.mk s m e) && Dy.mayD (Dy.Dyd.mk s' m' e'))
  (Dy.addD (Dy.Dyd.mk s m e) (Dy.Dyd.mk s' m' e'))).snd →
  Q (AV.agg [AV.bool b1, AV.dig [(0 : Nat)] l2, AV.num IntKind.i64 n3])) := by kernel_rfl
theorem vc_span_sub (s : Bool) (s' : Bool) (m : List
  Nat) (m' : List
  Nat) (e : Int) (e' : Int) (Q : AV →
  Prop) : (evF Tryd.prog (look tabF) (lam []) false Tryd.f49
  [AV.agg [AV.bool s, AV.dig [(1 : Nat)] m, AV.num IntKind.i64 e],
  AV.agg [AV.bool s', AV.dig [(2 : Nat)] m', AV.num IntKind.i64 e']]
  Q) =
  (dyF
  (Dy.boundIf (Dy.mayD (Dy.Dyd.mk s m e) && Dy.mayD (Dy.Dyd.mk s' m' e'))
  (Dy.addD (Dy.Dyd.mk s m e) (Dy.negD (Dy.Dyd.mk s' m' e')))).1
  fun b1 l2 n3 =>
  ∀ (n4 : Int),
  n4 =
  (Dy.boundIf (Dy.mayD (Dy.Dyd.mk s m e) && Dy.mayD (Dy.Dyd.mk s' m' e'))
  (Dy.addD (Dy.Dyd.mk s m e) (Dy.negD (Dy.Dyd.mk s' m' e')))).snd →
  Q (AV.agg [AV.bool b1, AV.dig [(0 : Nat)] l2, AV.num IntKind.i64 n3])) := by kernel_rfl
theorem vc_span_mul (s : Bool) (s' : Bool) (m : List
  Nat) (m' : List
  Nat) (e : Int) (e' : Int) (Q : AV →
  Prop) : (evF Tryd.prog (look tabF) (lam []) false Tryd.f56
  [AV.agg [AV.bool s, AV.dig [(1 : Nat)] m, AV.num IntKind.i64 e],
  AV.agg [AV.bool s', AV.dig [(2 : Nat)] m', AV.num IntKind.i64 e']]
  Q) =
  (dyF
  (Dy.boundIf (Dy.mayD (Dy.Dyd.mk s m e) && Dy.mayD (Dy.Dyd.mk s' m' e'))
  (Dy.mulD (Dy.Dyd.mk s m e) (Dy.Dyd.mk s' m' e'))).1
  fun b1 l2 n3 =>
  ∀ (n4 : Int),
  n4 =
  (Dy.boundIf (Dy.mayD (Dy.Dyd.mk s m e) && Dy.mayD (Dy.Dyd.mk s' m' e'))
  (Dy.mulD (Dy.Dyd.mk s m e) (Dy.Dyd.mk s' m' e'))).snd →
  Q (AV.agg [AV.bool b1, AV.dig [(0 : Nat)] l2, AV.num IntKind.i64 n3])) := by kernel_rfl
theorem vc_span_less (s : Bool) (s' : Bool) (m : List
  Nat) (m' : List
  Nat) (e : Int) (e' : Int) (Q : AV →
  Prop) : (evF Tryd.prog (look tabF) (lam []) false Tryd.f57
  [AV.agg [AV.bool s, AV.dig [(1 : Nat)] m, AV.num IntKind.i64 e],
  AV.agg [AV.bool s', AV.dig [(2 : Nat)] m', AV.num IntKind.i64 e']]
  Q) =
  (∀ (n1 : Int),
  (n1 =
  if (Dy.mayD (Dy.Dyd.mk s m e) && Dy.mayD (Dy.Dyd.mk s' m' e')) = true then
  Dy.cmpD (Dy.Dyd.mk s m e) (Dy.Dyd.mk s' m' e')
  else (0 : Int)) →
  ∀ (n2 : Int),
  (n2 = if (Dy.mayD (Dy.Dyd.mk s m e) && Dy.mayD (Dy.Dyd.mk s' m' e')) = true then (0 : Int) else (2 : Int)) →
  Q (AV.bool (decide (n1 < (0 : Int))))) := by kernel_rfl
theorem vc_span_end (n : Int) (s : Bool) (high : Bool) (m : List
  Nat) (e : Int) (Q : AV →
  Prop) : (evF Tryd.prog (look tabR0) (lam []) false Tryd.f69
  [AV.num IntKind.i64 n, AV.agg [AV.bool s, AV.dig [(2 : Nat)] m, AV.num IntKind.i64 e], AV.bool high] Q) =
  (dyF (Dy.cutD (Dy.Dyd.mk s m e) n).num fun b1 l2 n3 =>
  ∀ (b4 : Bool),
  b4 = (Dy.cutD (Dy.Dyd.mk s m e) n).lost →
  ∀ (n5 : Int),
  n5 = (Dy.cutD (Dy.Dyd.mk s m e) n).err →
  bif !b4 then Q (AV.agg [AV.bool b1, AV.dig [(0 : Nat)] l2, AV.num IntKind.i64 n3])
  else
  bif decide (s = high) then Q (AV.agg [AV.bool b1, AV.dig [(0 : Nat)] l2, AV.num IntKind.i64 n3])
  else
  dyF
  (Dy.unitOf
  (IntKind.i64.wrap
  ((if Dy.mayD (Dy.Dyd.mk s m e) = true then Dy.topD (Dy.Dyd.mk s m e) else (0 : Int)) - n)))
  fun b6 l7 n8 =>
  bif high then
  (Dy.mayD (Dy.Dyd.mk b1 l2 n3) = true ∧
  Dy.mayD (Dy.Dyd.mk b6 l7 n8) = true ∧
  Dy.mayD (Dy.addD (Dy.Dyd.mk b1 l2 n3) (Dy.Dyd.mk b6 l7 n8)) = true) ∧
  dyF (Dy.addD (Dy.Dyd.mk b1 l2 n3) (Dy.Dyd.mk b6 l7 n8)) fun b9 l10 n11 =>
  Q (AV.agg [AV.bool b9, AV.dig [(0 : Nat)] l10, AV.num IntKind.i64 n11])
  else
  (Dy.mayD (Dy.Dyd.mk b1 l2 n3) = true ∧
  Dy.mayD (Dy.Dyd.mk b6 l7 n8) = true ∧
  Dy.mayD (Dy.subD (Dy.Dyd.mk b1 l2 n3) (Dy.Dyd.mk b6 l7 n8)) = true) ∧
  dyF (Dy.subD (Dy.Dyd.mk b1 l2 n3) (Dy.Dyd.mk b6 l7 n8)) fun b12 l13 n14 =>
  Q (AV.agg [AV.bool b12, AV.dig [(0 : Nat)] l13, AV.num IntKind.i64 n14])) := by kernel_rfl
theorem vc_span_quo (n : Int) (s : Bool) (s' : Bool) (high : Bool) (m : List
  Nat) (m' : List
  Nat) (e : Int) (e' : Int) (Q : AV →
  Prop) : (evF Tryd.prog (look tabR0) (lam []) false Tryd.f53
  [AV.num IntKind.i64 n, AV.agg [AV.bool s, AV.dig [(2 : Nat)] m, AV.num IntKind.i64 e],
  AV.agg [AV.bool s', AV.dig [(3 : Nat)] m', AV.num IntKind.i64 e'], AV.bool high]
  Q) =
  ((m.length ≤ (1000 : Nat) ∧ m'.length ≤ (1000 : Nat)) ∧
  dyF (Dy.quoD (Dy.Dyd.mk s m e) (Dy.Dyd.mk s' m' e') n).num fun b1 l2 n3 =>
  ∀ (b4 : Bool),
  b4 = (Dy.quoD (Dy.Dyd.mk s m e) (Dy.Dyd.mk s' m' e') n).lost →
  ∀ (n5 : Int),
  n5 = (Dy.quoD (Dy.Dyd.mk s m e) (Dy.Dyd.mk s' m' e') n).err →
  bif !b4 then Q (AV.agg [AV.bool b1, AV.dig [(0 : Nat)] l2, AV.num IntKind.i64 n3])
  else
  bif decide (b1 = high) then Q (AV.agg [AV.bool b1, AV.dig [(0 : Nat)] l2, AV.num IntKind.i64 n3])
  else
  dyF
  (Dy.unitOf
  (IntKind.i64.wrap
  ((if Dy.mayD (Dy.Dyd.mk b1 l2 n3) = true then Dy.topD (Dy.Dyd.mk b1 l2 n3) else (0 : Int)) - n)))
  fun b6 l7 n8 =>
  bif high then
  (Dy.mayD (Dy.Dyd.mk b1 l2 n3) = true ∧
  Dy.mayD (Dy.Dyd.mk b6 l7 n8) = true ∧
  Dy.mayD (Dy.addD (Dy.Dyd.mk b1 l2 n3) (Dy.Dyd.mk b6 l7 n8)) = true) ∧
  dyF (Dy.addD (Dy.Dyd.mk b1 l2 n3) (Dy.Dyd.mk b6 l7 n8)) fun b9 l10 n11 =>
  Q (AV.agg [AV.bool b9, AV.dig [(0 : Nat)] l10, AV.num IntKind.i64 n11])
  else
  (Dy.mayD (Dy.Dyd.mk b1 l2 n3) = true ∧
  Dy.mayD (Dy.Dyd.mk b6 l7 n8) = true ∧
  Dy.mayD (Dy.subD (Dy.Dyd.mk b1 l2 n3) (Dy.Dyd.mk b6 l7 n8)) = true) ∧
  dyF (Dy.subD (Dy.Dyd.mk b1 l2 n3) (Dy.Dyd.mk b6 l7 n8)) fun b12 l13 n14 =>
  Q (AV.agg [AV.bool b12, AV.dig [(0 : Nat)] l13, AV.num IntKind.i64 n14])) := by kernel_rfl
theorem vc_span_out (n : Int) (s : Bool) (s' : Bool) (m : List
  Nat) (m' : List
  Nat) (e : Int) (e' : Int) (Q : AV →
  Prop) : (evF Tryd.prog (look tabR1) (lam []) false Tryd.f50
  [AV.num IntKind.i64 n, AV.agg [AV.bool s, AV.dig [(2 : Nat)] m, AV.num IntKind.i64 e],
  AV.agg [AV.bool s', AV.dig [(3 : Nat)] m', AV.num IntKind.i64 e']]
  Q) =
  ((Dy.mid (Dy.Dyd.mk s m e) ∧ (1 : Int) ≤ n ∧ n ≤ (8192 : Int)) ∧
  dyF (Dy.endD (Dy.Dyd.mk s m e) n false) fun b1 l2 n3 =>
  (Dy.mid (Dy.Dyd.mk s' m' e') ∧ (1 : Int) ≤ n ∧ n ≤ (8192 : Int)) ∧
  dyF (Dy.endD (Dy.Dyd.mk s' m' e') n true) fun b4 l5 n6 =>
  Q
  (AV.agg
  [AV.bool b1, AV.dig [(0 : Nat)] l2, AV.num IntKind.i64 n3, AV.bool b4, AV.dig [(0 : Nat)] l5,
  AV.num IntKind.i64 n6])) := by kernel_rfl
theorem vc_span_Sign (s : Bool) (s' : Bool) (m : List
  Nat) (m' : List
  Nat) (e : Int) (e' : Int) (Q : AV →
  Prop) : (evF Tryd.prog (look tabR1) (lam []) false Tryd.f37
  [AV.agg
  [AV.bool s, AV.dig [(1 : Nat)] m, AV.num IntKind.i64 e, AV.bool s', AV.dig [(1 : Nat)] m', AV.num IntKind.i64 e']]
  Q) =
  (bif
  decide
  ((if Dy.mayD (Dy.Dyd.mk s m e) = true then Dy.signD (Dy.Dyd.mk s m e) else (0 : Int)) =
  if Dy.mayD (Dy.Dyd.mk s' m' e') = true then Dy.signD (Dy.Dyd.mk s' m' e') else (0 : Int)) then
  Q (AV.num IntKind.i64 (if Dy.mayD (Dy.Dyd.mk s m e) = true then Dy.signD (Dy.Dyd.mk s m e) else (0 : Int)))
 else Q (AV.num IntKind.i64 (0 : Int))) := by kernel_rfl
theorem vc_span_Neg (s : Bool) (s' : Bool) (m : List
  Nat) (m' : List
  Nat) (e : Int) (e' : Int) (Q : AV →
  Prop) : (evF Tryd.prog (look tabR1) (lam []) false Tryd.f52
  [AV.agg
  [AV.bool s, AV.dig [(1 : Nat)] m, AV.num IntKind.i64 e, AV.bool s', AV.dig [(1 : Nat)] m', AV.num IntKind.i64 e']]
  Q) =
  (dyF (Dy.okIf (Dy.mayD (Dy.Dyd.mk s' m' e')) (Dy.negD (Dy.Dyd.mk s' m' e'))).1 fun b1 l2 n3 =>
  ∀ (n4 : Int),
  n4 = (Dy.okIf (Dy.mayD (Dy.Dyd.mk s' m' e')) (Dy.negD (Dy.Dyd.mk s' m' e'))).snd →
  dyF (Dy.okIf (Dy.mayD (Dy.Dyd.mk s m e)) (Dy.negD (Dy.Dyd.mk s m e))).1 fun b5 l6 n7 =>
  ∀ (n8 : Int),
  n8 = (Dy.okIf (Dy.mayD (Dy.Dyd.mk s m e)) (Dy.negD (Dy.Dyd.mk s m e))).snd →
  Q
  (AV.agg
  [AV.bool b1, AV.dig [(0 : Nat)] l2, AV.num IntKind.i64 n3, AV.bool b5, AV.dig [(0 : Nat)] l6,
  AV.num IntKind.i64 n7])) := by kernel_rfl
theorem vc_span_Scale (k : Int) (s : Bool) (s' : Bool) (m : List
  Nat) (m' : List
  Nat) (e : Int) (e' : Int) (Q : AV →
  Prop) : (evF Tryd.prog (look tabR1) (lam []) false Tryd.f30
  [AV.agg
  [AV.bool s, AV.dig [(1 : Nat)] m, AV.num IntKind.i64 e, AV.bool s', AV.dig [(1 : Nat)] m', AV.num IntKind.i64 e'],
  AV.num IntKind.i64 k]
  Q) =
  (dyF (Dy.shiftD (Dy.Dyd.mk s m e) k).1 fun b1 l2 n3 =>
  ∀ (n4 : Int),
  n4 = (Dy.shiftD (Dy.Dyd.mk s m e) k).snd →
  dyF (Dy.shiftD (Dy.Dyd.mk s' m' e') k).1 fun b5 l6 n7 =>
  ∀ (n8 : Int),
  n8 = (Dy.shiftD (Dy.Dyd.mk s' m' e') k).snd →
  Q
  (AV.agg
  [AV.bool b1, AV.dig [(0 : Nat)] l2, AV.num IntKind.i64 n3, AV.bool b5, AV.dig [(0 : Nat)] l6,
  AV.num IntKind.i64 n7])) := by kernel_rfl
theorem vc_span_Nearest (s : Bool) (s' : Bool) (m : List
  Nat) (m' : List
  Nat) (e : Int) (e' : Int) (Q : AV →
  Prop) : (evF Tryd.prog (look tabR1) (lam []) false Tryd.f33
  [AV.agg
  [AV.bool s, AV.dig [(1 : Nat)] m, AV.num IntKind.i64 e, AV.bool s', AV.dig [(1 : Nat)] m', AV.num IntKind.i64 e']]
  Q) =
  (dyF (Dy.unitOf (-1 : Int)) fun b1 l2 n3 =>
  (Dy.mayD (Dy.Dyd.mk s m e) = true ∧
  Dy.mayD (Dy.Dyd.mk b1 l2 n3) = true ∧ Dy.mayD (Dy.addD (Dy.Dyd.mk s m e) (Dy.Dyd.mk b1 l2 n3)) = true) ∧
  dyF (Dy.addD (Dy.Dyd.mk s m e) (Dy.Dyd.mk b1 l2 n3)) fun b4 l5 n6 =>
  dyF (Dy.okIf (Dy.mayD (Dy.Dyd.mk b4 l5 n6)) (Dy.floorD (Dy.Dyd.mk b4 l5 n6))).1 fun b7 l8 n9 =>
  ∀ (n10 : Int),
  n10 = (Dy.okIf (Dy.mayD (Dy.Dyd.mk b4 l5 n6)) (Dy.floorD (Dy.Dyd.mk b4 l5 n6))).snd →
  dyF (Dy.unitOf (-1 : Int)) fun b11 l12 n13 =>
  (Dy.mayD (Dy.Dyd.mk s' m' e') = true ∧
  Dy.mayD (Dy.Dyd.mk b11 l12 n13) = true ∧
  Dy.mayD (Dy.addD (Dy.Dyd.mk s' m' e') (Dy.Dyd.mk b11 l12 n13)) = true) ∧
  dyF (Dy.addD (Dy.Dyd.mk s' m' e') (Dy.Dyd.mk b11 l12 n13)) fun b14 l15 n16 =>
  dyF (Dy.okIf (Dy.mayD (Dy.Dyd.mk b14 l15 n16)) (Dy.floorD (Dy.Dyd.mk b14 l15 n16))).1
  fun b17 l18 n19 =>
  ∀ (n20 : Int),
  n20 = (Dy.okIf (Dy.mayD (Dy.Dyd.mk b14 l15 n16)) (Dy.floorD (Dy.Dyd.mk b14 l15 n16))).snd →
  ∀ (n21 : Int),
  (n21 =
  if (Dy.mayD (Dy.Dyd.mk b7 l8 n9) && Dy.mayD (Dy.Dyd.mk b17 l18 n19)) = true then
  Dy.cmpD (Dy.Dyd.mk b7 l8 n9) (Dy.Dyd.mk b17 l18 n19)
  else (0 : Int)) →
  ∀ (n22 : Int),
  (n22 =
  if (Dy.mayD (Dy.Dyd.mk b7 l8 n9) && Dy.mayD (Dy.Dyd.mk b17 l18 n19)) = true then
  (0 : Int)
  else (2 : Int)) →
  Q
  (AV.tup
  [AV.agg [AV.bool b7, AV.dig [(0 : Nat)] l8, AV.num IntKind.i64 n9],
  AV.bool (n21 == (0 : Int))])) := by kernel_rfl
theorem vc_span_rest (s : Bool) (m : List
  Nat) (e : Int) (Q : AV →
  Prop) : (evF Tryd.prog (look tabR1) (lam []) false Tryd.f34
  [AV.agg [AV.bool s, AV.dig [(1 : Nat)] m, AV.num IntKind.i64 e]] Q) =
  (bif decide (e > (1 : Int)) then Q (AV.num IntKind.i64 (0 : Int))
 else
  bif decide ((if Dy.mayD (Dy.Dyd.mk s m e) = true then Dy.signD (Dy.Dyd.mk s m e) else (0 : Int)) = (0 : Int)) then
  Q (AV.num IntKind.i64 (0 : Int))
  else
  ((0 : Int) ≤ (0 : Int) ∧ (0 : Int) < (↑m.length : Int)) ∧
  (0 : Int) ≤ e ∧
  bif s then
  Q
  (AV.num IntKind.i64
  (IntKind.i64.wrap
  (↑(BitVec.ofInt (64 : Nat)
  (IntKind.i64.wrap
  ((0 : Int) -
  IntKind.i64.wrap
  (↑(BitVec.ofInt (64 : Nat)
  (IntKind.i64.wrap
  (IntKind.u32.wrap
  ((↑(m.getD (0 : Nat) (0 : Nat)) : Int) *
  (2 : Int) ^ min e.toNat (32 : Nat)))) &&&
  BitVec.ofInt (64 : Nat) (3 : Int)).toNat :
  Int))) &&&
  BitVec.ofInt (64 : Nat) (3 : Int)).toNat :
  Int)))
  else
  Q
  (AV.num IntKind.i64
  (IntKind.i64.wrap
  (↑(BitVec.ofInt (64 : Nat)
  (IntKind.i64.wrap
  (IntKind.u32.wrap
  ((↑(m.getD (0 : Nat) (0 : Nat)) : Int) * (2 : Int) ^ min e.toNat (32 : Nat)))) &&&
  BitVec.ofInt (64 : Nat) (3 : Int)).toNat :
  Int)))) := by kernel_rfl
theorem vc_span_Sub (n : Int) (s : Bool) (s' : Bool) (t : Bool) (t' : Bool) (m : List
  Nat) (m' : List
  Nat) (l : List
  Nat) (l' : List
  Nat) (e : Int) (e' : Int) (f : Int) (f' : Int) (Q : AV →
  Prop) : (evF Tryd.prog (look tabR2) (lam []) false Tryd.f35
  [AV.num IntKind.i64 n,
  AV.agg
  [AV.bool s, AV.dig [(2 : Nat)] m, AV.num IntKind.i64 e, AV.bool s', AV.dig [(2 : Nat)] m', AV.num IntKind.i64 e'],
  AV.agg
  [AV.bool t, AV.dig [(3 : Nat)] l, AV.num IntKind.i64 f, AV.bool t', AV.dig [(3 : Nat)] l', AV.num IntKind.i64 f']]
  Q) =
  ((Dy.mayD (Dy.Dyd.mk s m e) = true ∧
  Dy.mayD (Dy.Dyd.mk t' l' f') = true ∧ Dy.mayD (Dy.subD (Dy.Dyd.mk s m e) (Dy.Dyd.mk t' l' f')) = true) ∧
  dyF (Dy.subD (Dy.Dyd.mk s m e) (Dy.Dyd.mk t' l' f')) fun b1 l2 n3 =>
  (Dy.mayD (Dy.Dyd.mk s' m' e') = true ∧
  Dy.mayD (Dy.Dyd.mk t l f) = true ∧ Dy.mayD (Dy.subD (Dy.Dyd.mk s' m' e') (Dy.Dyd.mk t l f)) = true) ∧
  dyF (Dy.subD (Dy.Dyd.mk s' m' e') (Dy.Dyd.mk t l f)) fun b4 l5 n6 =>
  (Dy.mid (Dy.Dyd.mk b1 l2 n3) ∧ Dy.mid (Dy.Dyd.mk b4 l5 n6) ∧ (1 : Int) ≤ n ∧ n ≤ (8192 : Int)) ∧
  dyF (Dy.endD (Dy.Dyd.mk b1 l2 n3) n false) fun b7 l8 n9 =>
  dyF (Dy.endD (Dy.Dyd.mk b4 l5 n6) n true) fun b10 l11 n12 =>
  Q
  (AV.agg
  [AV.bool b7, AV.dig [(0 : Nat)] l8, AV.num IntKind.i64 n9, AV.bool b10, AV.dig [(0 : Nat)] l11,
  AV.num IntKind.i64 n12])) := by kernel_rfl
theorem vc_span_Mul (n : Int) (s : Bool) (s' : Bool) (t : Bool) (t' : Bool) (m : List
  Nat) (m' : List
  Nat) (l : List
  Nat) (l' : List
  Nat) (e : Int) (e' : Int) (f : Int) (f' : Int) (Q : AV →
  Prop) : (evF Tryd.prog (look tabR2) (lam [((6 : Nat), LoopAnn.unroll (4 : Nat))]) false Tryd.f36
  [AV.num IntKind.i64 n,
  AV.agg
  [AV.bool s, AV.dig [(2 : Nat)] m, AV.num IntKind.i64 e, AV.bool s', AV.dig [(2 : Nat)] m', AV.num IntKind.i64 e'],
  AV.agg
  [AV.bool t, AV.dig [(3 : Nat)] l, AV.num IntKind.i64 f, AV.bool t', AV.dig [(3 : Nat)] l', AV.num IntKind.i64 f']]
  Q) =
  (bif !s then
  bif !t then
  (Dy.mayD (Dy.Dyd.mk s m e) = true ∧
  Dy.mayD (Dy.Dyd.mk t l f) = true ∧ Dy.mayD (Dy.mulD (Dy.Dyd.mk s m e) (Dy.Dyd.mk t l f)) = true) ∧
  dyF (Dy.mulD (Dy.Dyd.mk s m e) (Dy.Dyd.mk t l f)) fun b1 l2 n3 =>
  (Dy.mayD (Dy.Dyd.mk s' m' e') = true ∧
  Dy.mayD (Dy.Dyd.mk t' l' f') = true ∧ Dy.mayD (Dy.mulD (Dy.Dyd.mk s' m' e') (Dy.Dyd.mk t' l' f')) = true) ∧
  dyF (Dy.mulD (Dy.Dyd.mk s' m' e') (Dy.Dyd.mk t' l' f')) fun b4 l5 n6 =>
  (Dy.mid (Dy.Dyd.mk b1 l2 n3) ∧ Dy.mid (Dy.Dyd.mk b4 l5 n6) ∧ (1 : Int) ≤ n ∧ n ≤ (8192 : Int)) ∧
  dyF (Dy.endD (Dy.Dyd.mk b1 l2 n3) n false) fun b7 l8 n9 =>
  dyF (Dy.endD (Dy.Dyd.mk b4 l5 n6) n true) fun b10 l11 n12 =>
  Q
  (AV.agg
  [AV.bool b7, AV.dig [(0 : Nat)] l8, AV.num IntKind.i64 n9, AV.bool b10, AV.dig [(0 : Nat)] l11,
  AV.num IntKind.i64 n12])
  else
  (Dy.mayD (Dy.Dyd.mk s m e) = true ∧
  Dy.mayD (Dy.Dyd.mk t l f) = true ∧ Dy.mayD (Dy.mulD (Dy.Dyd.mk s m e) (Dy.Dyd.mk t l f)) = true) ∧
  dyF (Dy.mulD (Dy.Dyd.mk s m e) (Dy.Dyd.mk t l f)) fun b13 l14 n15 =>
  (Dy.mayD (Dy.Dyd.mk s m e) = true ∧
  Dy.mayD (Dy.Dyd.mk t' l' f') = true ∧ Dy.mayD (Dy.mulD (Dy.Dyd.mk s m e) (Dy.Dyd.mk t' l' f')) = true) ∧
  dyF (Dy.mulD (Dy.Dyd.mk s m e) (Dy.Dyd.mk t' l' f')) fun b16 l17 n18 =>
  (Dy.mayD (Dy.Dyd.mk s' m' e') = true ∧
  Dy.mayD (Dy.Dyd.mk t l f) = true ∧ Dy.mayD (Dy.mulD (Dy.Dyd.mk s' m' e') (Dy.Dyd.mk t l f)) = true) ∧
  dyF (Dy.mulD (Dy.Dyd.mk s' m' e') (Dy.Dyd.mk t l f)) fun b19 l20 n21 =>
  (Dy.mayD (Dy.Dyd.mk s' m' e') = true ∧
  Dy.mayD (Dy.Dyd.mk t' l' f') = true ∧
  Dy.mayD (Dy.mulD (Dy.Dyd.mk s' m' e') (Dy.Dyd.mk t' l' f')) = true) ∧
  dyF (Dy.mulD (Dy.Dyd.mk s' m' e') (Dy.Dyd.mk t' l' f')) fun b22 l23 n24 =>
  (Dy.mayD (Dy.Dyd.mk b16 l17 n18) = true ∧ Dy.mayD (Dy.Dyd.mk b13 l14 n15) = true) ∧
  bif decide (Dy.cmpD (Dy.Dyd.mk b16 l17 n18) (Dy.Dyd.mk b13 l14 n15) < (0 : Int)) then
  (Dy.mayD (Dy.Dyd.mk b13 l14 n15) = true ∧ Dy.mayD (Dy.Dyd.mk b16 l17 n18) = true) ∧
  bif decide (Dy.cmpD (Dy.Dyd.mk b13 l14 n15) (Dy.Dyd.mk b16 l17 n18) < (0 : Int)) then
  (Dy.mayD (Dy.Dyd.mk b19 l20 n21) = true ∧ Dy.mayD (Dy.Dyd.mk b16 l17 n18) = true) ∧
  bif decide (Dy.cmpD (Dy.Dyd.mk b19 l20 n21) (Dy.Dyd.mk b16 l17 n18) < (0 : Int)) then
  (Dy.mayD (Dy.Dyd.mk b16 l17 n18) = true ∧ Dy.mayD (Dy.Dyd.mk b19 l20 n21) = true) ∧
  bif decide (Dy.cmpD (Dy.Dyd.mk b16 l17 n18) (Dy.Dyd.mk b19 l20 n21) < (0 : Int)) then
  (Dy.mayD (Dy.Dyd.mk b22 l23 n24) = true ∧ Dy.mayD (Dy.Dyd.mk b19 l20 n21) = true) ∧
  bif
  decide
  (Dy.cmpD (Dy.Dyd.mk b22 l23 n24) (Dy.Dyd.mk b19 l20 n21) < (0 : Int)) then
  (Dy.mayD (Dy.Dyd.mk b19 l20 n21) = true ∧
  Dy.mayD (Dy.Dyd.mk b22 l23 n24) = true) ∧
  bif
  decide
  (Dy.cmpD (Dy.Dyd.mk b19 l20 n21) (Dy.Dyd.mk b22 l23 n24) <
  (0 : Int)) then
  (Dy.mid (Dy.Dyd.mk b22 l23 n24) ∧
  Dy.mid (Dy.Dyd.mk b22 l23 n24) ∧ (1 : Int) ≤ n ∧ n ≤ (8192 : Int)) ∧
  dyF (Dy.endD (Dy.Dyd.mk b22 l23 n24) n false) fun b25 l26 n27 =>
  dyF (Dy.endD (Dy.Dyd.mk b22 l23 n24) n true) fun b28 l29 n30 =>
  Q
  (AV.agg
  [AV.bool b25, AV.dig [(0 : Nat)] l26, AV.num IntKind.i64 n27,
  AV.bool b28, AV.dig [(0 : Nat)] l29, AV.num IntKind.i64 n30])
  else
  (Dy.mid (Dy.Dyd.mk b22 l23 n24) ∧
  Dy.mid (Dy.Dyd.mk b19 l20 n21) ∧ (1 : Int) ≤ n ∧ n ≤ (8192 : Int)) ∧
  dyF (Dy.endD (Dy.Dyd.mk b22 l23 n24) n false) fun b31 l32 n33 =>
  dyF (Dy.endD (Dy.Dyd.mk b19 l20 n21) n true) fun b34 l35 n36 =>
  Q
  (AV.agg
  [AV.bool b31, AV.dig [(0 : Nat)] l32, AV.num IntKind.i64 n33,
  AV.bool b34, AV.dig [(0 : Nat)] l35, AV.num IntKind.i64 n36])
  else
  (Dy.mayD (Dy.Dyd.mk b19 l20 n21) = true ∧
  Dy.mayD (Dy.Dyd.mk b22 l23 n24) = true) ∧
  bif
  decide
  (Dy.cmpD (Dy.Dyd.mk b19 l20 n21) (Dy.Dyd.mk b22 l23 n24) <
  (0 : Int)) then
  (Dy.mid (Dy.Dyd.mk b19 l20 n21) ∧
  Dy.mid (Dy.Dyd.mk b22 l23 n24) ∧ (1 : Int) ≤ n ∧ n ≤ (8192 : Int)) ∧
  dyF (Dy.endD (Dy.Dyd.mk b19 l20 n21) n false) fun b37 l38 n39 =>
  dyF (Dy.endD (Dy.Dyd.mk b22 l23 n24) n true) fun b40 l41 n42 =>
  Q
  (AV.agg
  [AV.bool b37, AV.dig [(0 : Nat)] l38, AV.num IntKind.i64 n39,
  AV.bool b40, AV.dig [(0 : Nat)] l41, AV.num IntKind.i64 n42])
  else
  (Dy.mid (Dy.Dyd.mk b19 l20 n21) ∧
  Dy.mid (Dy.Dyd.mk b19 l20 n21) ∧ (1 : Int) ≤ n ∧ n ≤ (8192 : Int)) ∧
  dyF (Dy.endD (Dy.Dyd.mk b19 l20 n21) n false) fun b43 l44 n45 =>
  dyF (Dy.endD (Dy.Dyd.mk b19 l20 n21) n true) fun b46 l47 n48 =>
  Q
  (AV.agg
  [AV.bool b43, AV.dig [(0 : Nat)] l44, AV.num IntKind.i64 n45,
  AV.bool b46, AV.dig [(0 : Nat)] l47, AV.num IntKind.i64 n48])
  else
  (Dy.mayD (Dy.Dyd.mk b22 l23 n24) = true ∧ Dy.mayD (Dy.Dyd.mk b19 l20 n21) = true) ∧
  bif
  decide
  (Dy.cmpD (Dy.Dyd.mk b22 l23 n24) (Dy.Dyd.mk b19 l20 n21) < (0 : Int)) then
  (Dy.mayD (Dy.Dyd.mk b16 l17 n18) = true ∧
  Dy.mayD (Dy.Dyd.mk b22 l23 n24) = true) ∧
  bif
  decide
  (Dy.cmpD (Dy.Dyd.mk b16 l17 n18) (Dy.Dyd.mk b22 l23 n24) <
  (0 : Int)) then
  (Dy.mid (Dy.Dyd.mk b22 l23 n24) ∧
  Dy.mid (Dy.Dyd.mk b22 l23 n24) ∧ (1 : Int) ≤ n ∧ n ≤ (8192 : Int)) ∧
  dyF (Dy.endD (Dy.Dyd.mk b22 l23 n24) n false) fun b49 l50 n51 =>
  dyF (Dy.endD (Dy.Dyd.mk b22 l23 n24) n true) fun b52 l53 n54 =>
  Q
  (AV.agg
  [AV.bool b49, AV.dig [(0 : Nat)] l50, AV.num IntKind.i64 n51,
  AV.bool b52, AV.dig [(0 : Nat)] l53, AV.num IntKind.i64 n54])
  else
  (Dy.mid (Dy.Dyd.mk b22 l23 n24) ∧
  Dy.mid (Dy.Dyd.mk b16 l17 n18) ∧ (1 : Int) ≤ n ∧ n ≤ (8192 : Int)) ∧
  dyF (Dy.endD (Dy.Dyd.mk b22 l23 n24) n false) fun b55 l56 n57 =>
  dyF (Dy.endD (Dy.Dyd.mk b16 l17 n18) n true) fun b58 l59 n60 =>
  Q
  (AV.agg
  [AV.bool b55, AV.dig [(0 : Nat)] l56, AV.num IntKind.i64 n57,
  AV.bool b58, AV.dig [(0 : Nat)] l59, AV.num IntKind.i64 n60])
  else
  (Dy.mayD (Dy.Dyd.mk b16 l17 n18) = true ∧
  Dy.mayD (Dy.Dyd.mk b22 l23 n24) = true) ∧
  bif
  decide
  (Dy.cmpD (Dy.Dyd.mk b16 l17 n18) (Dy.Dyd.mk b22 l23 n24) <
  (0 : Int)) then
  (Dy.mid (Dy.Dyd.mk b19 l20 n21) ∧
  Dy.mid (Dy.Dyd.mk b22 l23 n24) ∧ (1 : Int) ≤ n ∧ n ≤ (8192 : Int)) ∧
  dyF (Dy.endD (Dy.Dyd.mk b19 l20 n21) n false) fun b61 l62 n63 =>
  dyF (Dy.endD (Dy.Dyd.mk b22 l23 n24) n true) fun b64 l65 n66 =>
  Q
  (AV.agg
  [AV.bool b61, AV.dig [(0 : Nat)] l62, AV.num IntKind.i64 n63,
  AV.bool b64, AV.dig [(0 : Nat)] l65, AV.num IntKind.i64 n66])
  else
  (Dy.mid (Dy.Dyd.mk b19 l20 n21) ∧
  Dy.mid (Dy.Dyd.mk b16 l17 n18) ∧ (1 : Int) ≤ n ∧ n ≤ (8192 : Int)) ∧
  dyF (Dy.endD (Dy.Dyd.mk b19 l20 n21) n false) fun b67 l68 n69 =>
  dyF (Dy.endD (Dy.Dyd.mk b16 l17 n18) n true) fun b70 l71 n72 =>
  Q
  (AV.agg
  [AV.bool b67, AV.dig [(0 : Nat)] l68, AV.num IntKind.i64 n69,
  AV.bool b70, AV.dig [(0 : Nat)] l71, AV.num IntKind.i64 n72])
  else
  (Dy.mayD (Dy.Dyd.mk b16 l17 n18) = true ∧ Dy.mayD (Dy.Dyd.mk b19 l20 n21) = true) ∧
  bif decide (Dy.cmpD (Dy.Dyd.mk b16 l17 n18) (Dy.Dyd.mk b19 l20 n21) < (0 : Int)) then
  (Dy.mayD (Dy.Dyd.mk b22 l23 n24) = true ∧ Dy.mayD (Dy.Dyd.mk b16 l17 n18) = true) ∧
  bif
  decide
  (Dy.cmpD (Dy.Dyd.mk b22 l23 n24) (Dy.Dyd.mk b16 l17 n18) < (0 : Int)) then
  (Dy.mayD (Dy.Dyd.mk b19 l20 n21) = true ∧
  Dy.mayD (Dy.Dyd.mk b22 l23 n24) = true) ∧
  bif
  decide
  (Dy.cmpD (Dy.Dyd.mk b19 l20 n21) (Dy.Dyd.mk b22 l23 n24) <
  (0 : Int)) then
  (Dy.mid (Dy.Dyd.mk b22 l23 n24) ∧
  Dy.mid (Dy.Dyd.mk b22 l23 n24) ∧ (1 : Int) ≤ n ∧ n ≤ (8192 : Int)) ∧
  dyF (Dy.endD (Dy.Dyd.mk b22 l23 n24) n false) fun b73 l74 n75 =>
  dyF (Dy.endD (Dy.Dyd.mk b22 l23 n24) n true) fun b76 l77 n78 =>
  Q
  (AV.agg
  [AV.bool b73, AV.dig [(0 : Nat)] l74, AV.num IntKind.i64 n75,
  AV.bool b76, AV.dig [(0 : Nat)] l77, AV.num IntKind.i64 n78])
  else
  (Dy.mid (Dy.Dyd.mk b22 l23 n24) ∧
  Dy.mid (Dy.Dyd.mk b19 l20 n21) ∧ (1 : Int) ≤ n ∧ n ≤ (8192 : Int)) ∧
  dyF (Dy.endD (Dy.Dyd.mk b22 l23 n24) n false) fun b79 l80 n81 =>
  dyF (Dy.endD (Dy.Dyd.mk b19 l20 n21) n true) fun b82 l83 n84 =>
  Q
  (AV.agg
  [AV.bool b79, AV.dig [(0 : Nat)] l80, AV.num IntKind.i64 n81,
  AV.bool b82, AV.dig [(0 : Nat)] l83, AV.num IntKind.i64 n84])
  else
  (Dy.mayD (Dy.Dyd.mk b19 l20 n21) = true ∧
  Dy.mayD (Dy.Dyd.mk b22 l23 n24) = true) ∧
  bif
  decide
  (Dy.cmpD (Dy.Dyd.mk b19 l20 n21) (Dy.Dyd.mk b22 l23 n24) <
  (0 : Int)) then
  (Dy.mid (Dy.Dyd.mk b16 l17 n18) ∧
  Dy.mid (Dy.Dyd.mk b22 l23 n24) ∧ (1 : Int) ≤ n ∧ n ≤ (8192 : Int)) ∧
  dyF (Dy.endD (Dy.Dyd.mk b16 l17 n18) n false) fun b85 l86 n87 =>
  dyF (Dy.endD (Dy.Dyd.mk b22 l23 n24) n true) fun b88 l89 n90 =>
  Q
  (AV.agg
  [AV.bool b85, AV.dig [(0 : Nat)] l86, AV.num IntKind.i64 n87,
  AV.bool b88, AV.dig [(0 : Nat)] l89, AV.num IntKind.i64 n90])
  else
  (Dy.mid (Dy.Dyd.mk b16 l17 n18) ∧
  Dy.mid (Dy.Dyd.mk b19 l20 n21) ∧ (1 : Int) ≤ n ∧ n ≤ (8192 : Int)) ∧
  dyF (Dy.endD (Dy.Dyd.mk b16 l17 n18) n false) fun b91 l92 n93 =>
  dyF (Dy.endD (Dy.Dyd.mk b19 l20 n21) n true) fun b94 l95 n96 =>
  Q
  (AV.agg
  [AV.bool b91, AV.dig [(0 : Nat)] l92, AV.num IntKind.i64 n93,
  AV.bool b94, AV.dig [(0 : Nat)] l95, AV.num IntKind.i64 n96])
  else
  (Dy.mayD (Dy.Dyd.mk b22 l23 n24) = true ∧ Dy.mayD (Dy.Dyd.mk b16 l17 n18) = true) ∧
  bif
  decide
  (Dy.cmpD (Dy.Dyd.mk b22 l23 n24) (Dy.Dyd.mk b16 l17 n18) < (0 : Int)) then
  (Dy.mayD (Dy.Dyd.mk b16 l17 n18) = true ∧
  Dy.mayD (Dy.Dyd.mk b22 l23 n24) = true) ∧
  bif
  decide
  (Dy.cmpD (Dy.Dyd.mk b16 l17 n18) (Dy.Dyd.mk b22 l23 n24) <
  (0 : Int)) then
  (Dy.mid (Dy.Dyd.mk b22 l23 n24) ∧
  Dy.mid (Dy.Dyd.mk b22 l23 n24) ∧ (1 : Int) ≤ n ∧ n ≤ (8192 : Int)) ∧
  dyF (Dy.endD (Dy.Dyd.mk b22 l23 n24) n false) fun b97 l98 n99 =>
  dyF (Dy.endD (Dy.Dyd.mk b22 l23 n24) n true) fun b100 l101 n102 =>
  Q
  (AV.agg
  [AV.bool b97, AV.dig [(0 : Nat)] l98, AV.num IntKind.i64 n99,
  AV.bool b100, AV.dig [(0 : Nat)] l101, AV.num IntKind.i64 n102])
  else
  (Dy.mid (Dy.Dyd.mk b22 l23 n24) ∧
  Dy.mid (Dy.Dyd.mk b16 l17 n18) ∧ (1 : Int) ≤ n ∧ n ≤ (8192 : Int)) ∧
  dyF (Dy.endD (Dy.Dyd.mk b22 l23 n24) n false) fun b103 l104 n105 =>
  dyF (Dy.endD (Dy.Dyd.mk b16 l17 n18) n true) fun b106 l107 n108 =>
  Q
  (AV.agg
  [AV.bool b103, AV.dig [(0 : Nat)] l104, AV.num IntKind.i64 n105,
  AV.bool b106, AV.dig [(0 : Nat)] l107, AV.num IntKind.i64 n108])
  else
  (Dy.mayD (Dy.Dyd.mk b16 l17 n18) = true ∧
  Dy.mayD (Dy.Dyd.mk b22 l23 n24) = true) ∧
  bif
  decide
  (Dy.cmpD (Dy.Dyd.mk b16 l17 n18) (Dy.Dyd.mk b22 l23 n24) <
  (0 : Int)) then
  (Dy.mid (Dy.Dyd.mk b16 l17 n18) ∧
  Dy.mid (Dy.Dyd.mk b22 l23 n24) ∧ (1 : Int) ≤ n ∧ n ≤ (8192 : Int)) ∧
  dyF (Dy.endD (Dy.Dyd.mk b16 l17 n18) n false) fun b109 l110 n111 =>
  dyF (Dy.endD (Dy.Dyd.mk b22 l23 n24) n true) fun b112 l113 n114 =>
  Q
  (AV.agg
  [AV.bool b109, AV.dig [(0 : Nat)] l110, AV.num IntKind.i64 n111,
  AV.bool b112, AV.dig [(0 : Nat)] l113, AV.num IntKind.i64 n114])
  else
  (Dy.mid (Dy.Dyd.mk b16 l17 n18) ∧
  Dy.mid (Dy.Dyd.mk b16 l17 n18) ∧ (1 : Int) ≤ n ∧ n ≤ (8192 : Int)) ∧
  dyF (Dy.endD (Dy.Dyd.mk b16 l17 n18) n false) fun b115 l116 n117 =>
  dyF (Dy.endD (Dy.Dyd.mk b16 l17 n18) n true) fun b118 l119 n120 =>
  Q
  (AV.agg
  [AV.bool b115, AV.dig [(0 : Nat)] l116, AV.num IntKind.i64 n117,
  AV.bool b118, AV.dig [(0 : Nat)] l119, AV.num IntKind.i64 n120])
  else
  (Dy.mayD (Dy.Dyd.mk b19 l20 n21) = true ∧ Dy.mayD (Dy.Dyd.mk b16 l17 n18) = true) ∧
  bif decide (Dy.cmpD (Dy.Dyd.mk b19 l20 n21) (Dy.Dyd.mk b16 l17 n18) < (0 : Int)) then
  (Dy.mayD (Dy.Dyd.mk b13 l14 n15) = true ∧ Dy.mayD (Dy.Dyd.mk b19 l20 n21) = true) ∧
  bif decide (Dy.cmpD (Dy.Dyd.mk b13 l14 n15) (Dy.Dyd.mk b19 l20 n21) < (0 : Int)) then
  (Dy.mayD (Dy.Dyd.mk b22 l23 n24) = true ∧ Dy.mayD (Dy.Dyd.mk b19 l20 n21) = true) ∧
  bif
  decide
  (Dy.cmpD (Dy.Dyd.mk b22 l23 n24) (Dy.Dyd.mk b19 l20 n21) < (0 : Int)) then
  (Dy.mayD (Dy.Dyd.mk b19 l20 n21) = true ∧
  Dy.mayD (Dy.Dyd.mk b22 l23 n24) = true) ∧
  bif
  decide
  (Dy.cmpD (Dy.Dyd.mk b19 l20 n21) (Dy.Dyd.mk b22 l23 n24) <
  (0 : Int)) then
  (Dy.mid (Dy.Dyd.mk b22 l23 n24) ∧
  Dy.mid (Dy.Dyd.mk b22 l23 n24) ∧ (1 : Int) ≤ n ∧ n ≤ (8192 : Int)) ∧
  dyF (Dy.endD (Dy.Dyd.mk b22 l23 n24) n false) fun b121 l122 n123 =>
  dyF (Dy.endD (Dy.Dyd.mk b22 l23 n24) n true) fun b124 l125 n126 =>
  Q
  (AV.agg
  [AV.bool b121, AV.dig [(0 : Nat)] l122, AV.num IntKind.i64 n123,
  AV.bool b124, AV.dig [(0 : Nat)] l125, AV.num IntKind.i64 n126])
  else
  (Dy.mid (Dy.Dyd.mk b22 l23 n24) ∧
  Dy.mid (Dy.Dyd.mk b19 l20 n21) ∧ (1 : Int) ≤ n ∧ n ≤ (8192 : Int)) ∧
  dyF (Dy.endD (Dy.Dyd.mk b22 l23 n24) n false) fun b127 l128 n129 =>
  dyF (Dy.endD (Dy.Dyd.mk b19 l20 n21) n true) fun b130 l131 n132 =>
  Q
  (AV.agg
  [AV.bool b127, AV.dig [(0 : Nat)] l128, AV.num IntKind.i64 n129,
  AV.bool b130, AV.dig [(0 : Nat)] l131, AV.num IntKind.i64 n132])
  else
  (Dy.mayD (Dy.Dyd.mk b19 l20 n21) = true ∧
  Dy.mayD (Dy.Dyd.mk b22 l23 n24) = true) ∧
  bif
  decide
  (Dy.cmpD (Dy.Dyd.mk b19 l20 n21) (Dy.Dyd.mk b22 l23 n24) <
  (0 : Int)) then
  (Dy.mid (Dy.Dyd.mk b19 l20 n21) ∧
  Dy.mid (Dy.Dyd.mk b22 l23 n24) ∧ (1 : Int) ≤ n ∧ n ≤ (8192 : Int)) ∧
  dyF (Dy.endD (Dy.Dyd.mk b19 l20 n21) n false) fun b133 l134 n135 =>
  dyF (Dy.endD (Dy.Dyd.mk b22 l23 n24) n true) fun b136 l137 n138 =>
  Q
  (AV.agg
  [AV.bool b133, AV.dig [(0 : Nat)] l134, AV.num IntKind.i64 n135,
  AV.bool b136, AV.dig [(0 : Nat)] l137, AV.num IntKind.i64 n138])
  else
  (Dy.mid (Dy.Dyd.mk b19 l20 n21) ∧
  Dy.mid (Dy.Dyd.mk b19 l20 n21) ∧ (1 : Int) ≤ n ∧ n ≤ (8192 : Int)) ∧
  dyF (Dy.endD (Dy.Dyd.mk b19 l20 n21) n false) fun b139 l140 n141 =>
  dyF (Dy.endD (Dy.Dyd.mk b19 l20 n21) n true) fun b142 l143 n144 =>
  Q
  (AV.agg
  [AV.bool b139, AV.dig [(0 : Nat)] l140, AV.num IntKind.i64 n141,
  AV.bool b142, AV.dig [(0 : Nat)] l143, AV.num IntKind.i64 n144])
  else
  (Dy.mayD (Dy.Dyd.mk b22 l23 n24) = true ∧ Dy.mayD (Dy.Dyd.mk b19 l20 n21) = true) ∧
  bif
  decide
  (Dy.cmpD (Dy.Dyd.mk b22 l23 n24) (Dy.Dyd.mk b19 l20 n21) < (0 : Int)) then
  (Dy.mayD (Dy.Dyd.mk b13 l14 n15) = true ∧
  Dy.mayD (Dy.Dyd.mk b22 l23 n24) = true) ∧
  bif
  decide
  (Dy.cmpD (Dy.Dyd.mk b13 l14 n15) (Dy.Dyd.mk b22 l23 n24) <
  (0 : Int)) then
  (Dy.mid (Dy.Dyd.mk b22 l23 n24) ∧
  Dy.mid (Dy.Dyd.mk b22 l23 n24) ∧ (1 : Int) ≤ n ∧ n ≤ (8192 : Int)) ∧
  dyF (Dy.endD (Dy.Dyd.mk b22 l23 n24) n false) fun b145 l146 n147 =>
  dyF (Dy.endD (Dy.Dyd.mk b22 l23 n24) n true) fun b148 l149 n150 =>
  Q
  (AV.agg
  [AV.bool b145, AV.dig [(0 : Nat)] l146, AV.num IntKind.i64 n147,
  AV.bool b148, AV.dig [(0 : Nat)] l149, AV.num IntKind.i64 n150])
  else
  (Dy.mid (Dy.Dyd.mk b22 l23 n24) ∧
  Dy.mid (Dy.Dyd.mk b13 l14 n15) ∧ (1 : Int) ≤ n ∧ n ≤ (8192 : Int)) ∧
  dyF (Dy.endD (Dy.Dyd.mk b22 l23 n24) n false) fun b151 l152 n153 =>
  dyF (Dy.endD (Dy.Dyd.mk b13 l14 n15) n true) fun b154 l155 n156 =>
  Q
  (AV.agg
  [AV.bool b151, AV.dig [(0 : Nat)] l152, AV.num IntKind.i64 n153,
  AV.bool b154, AV.dig [(0 : Nat)] l155, AV.num IntKind.i64 n156])
  else
  (Dy.mayD (Dy.Dyd.mk b13 l14 n15) = true ∧
  Dy.mayD (Dy.Dyd.mk b22 l23 n24) = true) ∧
  bif
  decide
  (Dy.cmpD (Dy.Dyd.mk b13 l14 n15) (Dy.Dyd.mk b22 l23 n24) <
  (0 : Int)) then
  (Dy.mid (Dy.Dyd.mk b19 l20 n21) ∧
  Dy.mid (Dy.Dyd.mk b22 l23 n24) ∧ (1 : Int) ≤ n ∧ n ≤ (8192 : Int)) ∧
  dyF (Dy.endD (Dy.Dyd.mk b19 l20 n21) n false) fun b157 l158 n159 =>
  dyF (Dy.endD (Dy.Dyd.mk b22 l23 n24) n true) fun b160 l161 n162 =>
  Q
  (AV.agg
  [AV.bool b157, AV.dig [(0 : Nat)] l158, AV.num IntKind.i64 n159,
  AV.bool b160, AV.dig [(0 : Nat)] l161, AV.num IntKind.i64 n162])
  else
  (Dy.mid (Dy.Dyd.mk b19 l20 n21) ∧
  Dy.mid (Dy.Dyd.mk b13 l14 n15) ∧ (1 : Int) ≤ n ∧ n ≤ (8192 : Int)) ∧
  dyF (Dy.endD (Dy.Dyd.mk b19 l20 n21) n false) fun b163 l164 n165 =>
  dyF (Dy.endD (Dy.Dyd.mk b13 l14 n15) n true) fun b166 l167 n168 =>
  Q
  (AV.agg
  [AV.bool b163, AV.dig [(0 : Nat)] l164, AV.num IntKind.i64 n165,
  AV.bool b166, AV.dig [(0 : Nat)] l167, AV.num IntKind.i64 n168])
  else
  (Dy.mayD (Dy.Dyd.mk b13 l14 n15) = true ∧ Dy.mayD (Dy.Dyd.mk b19 l20 n21) = true) ∧
  bif decide (Dy.cmpD (Dy.Dyd.mk b13 l14 n15) (Dy.Dyd.mk b19 l20 n21) < (0 : Int)) then
  (Dy.mayD (Dy.Dyd.mk b22 l23 n24) = true ∧ Dy.mayD (Dy.Dyd.mk b16 l17 n18) = true) ∧
  bif
  decide
  (Dy.cmpD (Dy.Dyd.mk b22 l23 n24) (Dy.Dyd.mk b16 l17 n18) < (0 : Int)) then
  (Dy.mayD (Dy.Dyd.mk b19 l20 n21) = true ∧
  Dy.mayD (Dy.Dyd.mk b22 l23 n24) = true) ∧
  bif
  decide
  (Dy.cmpD (Dy.Dyd.mk b19 l20 n21) (Dy.Dyd.mk b22 l23 n24) <
  (0 : Int)) then
  (Dy.mid (Dy.Dyd.mk b22 l23 n24) ∧
  Dy.mid (Dy.Dyd.mk b22 l23 n24) ∧ (1 : Int) ≤ n ∧ n ≤ (8192 : Int)) ∧
  dyF (Dy.endD (Dy.Dyd.mk b22 l23 n24) n false) fun b169 l170 n171 =>
  dyF (Dy.endD (Dy.Dyd.mk b22 l23 n24) n true) fun b172 l173 n174 =>
  Q
  (AV.agg
  [AV.bool b169, AV.dig [(0 : Nat)] l170, AV.num IntKind.i64 n171,
  AV.bool b172, AV.dig [(0 : Nat)] l173, AV.num IntKind.i64 n174])
  else
  (Dy.mid (Dy.Dyd.mk b22 l23 n24) ∧
  Dy.mid (Dy.Dyd.mk b19 l20 n21) ∧ (1 : Int) ≤ n ∧ n ≤ (8192 : Int)) ∧
  dyF (Dy.endD (Dy.Dyd.mk b22 l23 n24) n false) fun b175 l176 n177 =>
  dyF (Dy.endD (Dy.Dyd.mk b19 l20 n21) n true) fun b178 l179 n180 =>
  Q
  (AV.agg
  [AV.bool b175, AV.dig [(0 : Nat)] l176, AV.num IntKind.i64 n177,
  AV.bool b178, AV.dig [(0 : Nat)] l179, AV.num IntKind.i64 n180])
  else
  (Dy.mayD (Dy.Dyd.mk b19 l20 n21) = true ∧
  Dy.mayD (Dy.Dyd.mk b22 l23 n24) = true) ∧
  bif
  decide
  (Dy.cmpD (Dy.Dyd.mk b19 l20 n21) (Dy.Dyd.mk b22 l23 n24) <
  (0 : Int)) then
  (Dy.mid (Dy.Dyd.mk b16 l17 n18) ∧
  Dy.mid (Dy.Dyd.mk b22 l23 n24) ∧ (1 : Int) ≤ n ∧ n ≤ (8192 : Int)) ∧
  dyF (Dy.endD (Dy.Dyd.mk b16 l17 n18) n false) fun b181 l182 n183 =>
  dyF (Dy.endD (Dy.Dyd.mk b22 l23 n24) n true) fun b184 l185 n186 =>
  Q
  (AV.agg
  [AV.bool b181, AV.dig [(0 : Nat)] l182, AV.num IntKind.i64 n183,
  AV.bool b184, AV.dig [(0 : Nat)] l185, AV.num IntKind.i64 n186])
  else
  (Dy.mid (Dy.Dyd.mk b16 l17 n18) ∧
  Dy.mid (Dy.Dyd.mk b19 l20 n21) ∧ (1 : Int) ≤ n ∧ n ≤ (8192 : Int)) ∧
  dyF (Dy.endD (Dy.Dyd.mk b16 l17 n18) n false) fun b187 l188 n189 =>
  dyF (Dy.endD (Dy.Dyd.mk b19 l20 n21) n true) fun b190 l191 n192 =>
  Q
  (AV.agg
  [AV.bool b187, AV.dig [(0 : Nat)] l188, AV.num IntKind.i64 n189,
  AV.bool b190, AV.dig [(0 : Nat)] l191, AV.num IntKind.i64 n192])
  else
  (Dy.mayD (Dy.Dyd.mk b22 l23 n24) = true ∧ Dy.mayD (Dy.Dyd.mk b16 l17 n18) = true) ∧
  bif
  decide
  (Dy.cmpD (Dy.Dyd.mk b22 l23 n24) (Dy.Dyd.mk b16 l17 n18) < (0 : Int)) then
  (Dy.mayD (Dy.Dyd.mk b13 l14 n15) = true ∧
  Dy.mayD (Dy.Dyd.mk b22 l23 n24) = true) ∧
  bif
  decide
  (Dy.cmpD (Dy.Dyd.mk b13 l14 n15) (Dy.Dyd.mk b22 l23 n24) <
  (0 : Int)) then
  (Dy.mid (Dy.Dyd.mk b22 l23 n24) ∧
  Dy.mid (Dy.Dyd.mk b22 l23 n24) ∧ (1 : Int) ≤ n ∧ n ≤ (8192 : Int)) ∧
  dyF (Dy.endD (Dy.Dyd.mk b22 l23 n24) n false) fun b193 l194 n195 =>
  dyF (Dy.endD (Dy.Dyd.mk b22 l23 n24) n true) fun b196 l197 n198 =>
  Q
  (AV.agg
  [AV.bool b193, AV.dig [(0 : Nat)] l194, AV.num IntKind.i64 n195,
  AV.bool b196, AV.dig [(0 : Nat)] l197, AV.num IntKind.i64 n198])
  else
  (Dy.mid (Dy.Dyd.mk b22 l23 n24) ∧
  Dy.mid (Dy.Dyd.mk b13 l14 n15) ∧ (1 : Int) ≤ n ∧ n ≤ (8192 : Int)) ∧
  dyF (Dy.endD (Dy.Dyd.mk b22 l23 n24) n false) fun b199 l200 n201 =>
  dyF (Dy.endD (Dy.Dyd.mk b13 l14 n15) n true) fun b202 l203 n204 =>
  Q
  (AV.agg
  [AV.bool b199, AV.dig [(0 : Nat)] l200, AV.num IntKind.i64 n201,
  AV.bool b202, AV.dig [(0 : Nat)] l203, AV.num IntKind.i64 n204])
  else
  (Dy.mayD (Dy.Dyd.mk b13 l14 n15) = true ∧
  Dy.mayD (Dy.Dyd.mk b22 l23 n24) = true) ∧
  bif
  decide
  (Dy.cmpD (Dy.Dyd.mk b13 l14 n15) (Dy.Dyd.mk b22 l23 n24) <
  (0 : Int)) then
  (Dy.mid (Dy.Dyd.mk b16 l17 n18) ∧
  Dy.mid (Dy.Dyd.mk b22 l23 n24) ∧ (1 : Int) ≤ n ∧ n ≤ (8192 : Int)) ∧
  dyF (Dy.endD (Dy.Dyd.mk b16 l17 n18) n false) fun b205 l206 n207 =>
  dyF (Dy.endD (Dy.Dyd.mk b22 l23 n24) n true) fun b208 l209 n210 =>
  Q
  (AV.agg
  [AV.bool b205, AV.dig [(0 : Nat)] l206, AV.num IntKind.i64 n207,
  AV.bool b208, AV.dig [(0 : Nat)] l209, AV.num IntKind.i64 n210])
  else
  (Dy.mid (Dy.Dyd.mk b16 l17 n18) ∧
  Dy.mid (Dy.Dyd.mk b13 l14 n15) ∧ (1 : Int) ≤ n ∧ n ≤ (8192 : Int)) ∧
  dyF (Dy.endD (Dy.Dyd.mk b16 l17 n18) n false) fun b211 l212 n213 =>
  dyF (Dy.endD (Dy.Dyd.mk b13 l14 n15) n true) fun b214 l215 n216 =>
  Q
  (AV.agg
  [AV.bool b211, AV.dig [(0 : Nat)] l212, AV.num IntKind.i64 n213,
  AV.bool b214, AV.dig [(0 : Nat)] l215, AV.num IntKind.i64 n216])
  else
  (Dy.mayD (Dy.Dyd.mk b13 l14 n15) = true ∧ Dy.mayD (Dy.Dyd.mk b16 l17 n18) = true) ∧
  bif decide (Dy.cmpD (Dy.Dyd.mk b13 l14 n15) (Dy.Dyd.mk b16 l17 n18) < (0 : Int)) then
  (Dy.mayD (Dy.Dyd.mk b19 l20 n21) = true ∧ Dy.mayD (Dy.Dyd.mk b13 l14 n15) = true) ∧
  bif decide (Dy.cmpD (Dy.Dyd.mk b19 l20 n21) (Dy.Dyd.mk b13 l14 n15) < (0 : Int)) then
  (Dy.mayD (Dy.Dyd.mk b16 l17 n18) = true ∧ Dy.mayD (Dy.Dyd.mk b19 l20 n21) = true) ∧
  bif decide (Dy.cmpD (Dy.Dyd.mk b16 l17 n18) (Dy.Dyd.mk b19 l20 n21) < (0 : Int)) then
  (Dy.mayD (Dy.Dyd.mk b22 l23 n24) = true ∧ Dy.mayD (Dy.Dyd.mk b19 l20 n21) = true) ∧
  bif
  decide
  (Dy.cmpD (Dy.Dyd.mk b22 l23 n24) (Dy.Dyd.mk b19 l20 n21) < (0 : Int)) then
  (Dy.mayD (Dy.Dyd.mk b19 l20 n21) = true ∧
  Dy.mayD (Dy.Dyd.mk b22 l23 n24) = true) ∧
  bif
  decide
  (Dy.cmpD (Dy.Dyd.mk b19 l20 n21) (Dy.Dyd.mk b22 l23 n24) <
  (0 : Int)) then
  (Dy.mid (Dy.Dyd.mk b22 l23 n24) ∧
  Dy.mid (Dy.Dyd.mk b22 l23 n24) ∧ (1 : Int) ≤ n ∧ n ≤ (8192 : Int)) ∧
  dyF (Dy.endD (Dy.Dyd.mk b22 l23 n24) n false) fun b217 l218 n219 =>
  dyF (Dy.endD (Dy.Dyd.mk b22 l23 n24) n true) fun b220 l221 n222 =>
  Q
  (AV.agg
  [AV.bool b217, AV.dig [(0 : Nat)] l218, AV.num IntKind.i64 n219,
  AV.bool b220, AV.dig [(0 : Nat)] l221, AV.num IntKind.i64 n222])
  else
  (Dy.mid (Dy.Dyd.mk b22 l23 n24) ∧
  Dy.mid (Dy.Dyd.mk b19 l20 n21) ∧ (1 : Int) ≤ n ∧ n ≤ (8192 : Int)) ∧
  dyF (Dy.endD (Dy.Dyd.mk b22 l23 n24) n false) fun b223 l224 n225 =>
  dyF (Dy.endD (Dy.Dyd.mk b19 l20 n21) n true) fun b226 l227 n228 =>
  Q
  (AV.agg
  [AV.bool b223, AV.dig [(0 : Nat)] l224, AV.num IntKind.i64 n225,
  AV.bool b226, AV.dig [(0 : Nat)] l227, AV.num IntKind.i64 n228])
  else
  (Dy.mayD (Dy.Dyd.mk b19 l20 n21) = true ∧
  Dy.mayD (Dy.Dyd.mk b22 l23 n24) = true) ∧
  bif
  decide
  (Dy.cmpD (Dy.Dyd.mk b19 l20 n21) (Dy.Dyd.mk b22 l23 n24) <
  (0 : Int)) then
  (Dy.mid (Dy.Dyd.mk b19 l20 n21) ∧
  Dy.mid (Dy.Dyd.mk b22 l23 n24) ∧ (1 : Int) ≤ n ∧ n ≤ (8192 : Int)) ∧
  dyF (Dy.endD (Dy.Dyd.mk b19 l20 n21) n false) fun b229 l230 n231 =>
  dyF (Dy.endD (Dy.Dyd.mk b22 l23 n24) n true) fun b232 l233 n234 =>
  Q
  (AV.agg
  [AV.bool b229, AV.dig [(0 : Nat)] l230, AV.num IntKind.i64 n231,
  AV.bool b232, AV.dig [(0 : Nat)] l233, AV.num IntKind.i64 n234])
  else
  (Dy.mid (Dy.Dyd.mk b19 l20 n21) ∧
  Dy.mid (Dy.Dyd.mk b19 l20 n21) ∧ (1 : Int) ≤ n ∧ n ≤ (8192 : Int)) ∧
  dyF (Dy.endD (Dy.Dyd.mk b19 l20 n21) n false) fun b235 l236 n237 =>
  dyF (Dy.endD (Dy.Dyd.mk b19 l20 n21) n true) fun b238 l239 n240 =>
  Q
  (AV.agg
  [AV.bool b235, AV.dig [(0 : Nat)] l236, AV.num IntKind.i64 n237,
  AV.bool b238, AV.dig [(0 : Nat)] l239, AV.num IntKind.i64 n240])
  else
  (Dy.mayD (Dy.Dyd.mk b22 l23 n24) = true ∧ Dy.mayD (Dy.Dyd.mk b19 l20 n21) = true) ∧
  bif
  decide
  (Dy.cmpD (Dy.Dyd.mk b22 l23 n24) (Dy.Dyd.mk b19 l20 n21) < (0 : Int)) then
  (Dy.mayD (Dy.Dyd.mk b16 l17 n18) = true ∧
  Dy.mayD (Dy.Dyd.mk b22 l23 n24) = true) ∧
  bif
  decide
  (Dy.cmpD (Dy.Dyd.mk b16 l17 n18) (Dy.Dyd.mk b22 l23 n24) <
  (0 : Int)) then
  (Dy.mid (Dy.Dyd.mk b22 l23 n24) ∧
  Dy.mid (Dy.Dyd.mk b22 l23 n24) ∧ (1 : Int) ≤ n ∧ n ≤ (8192 : Int)) ∧
  dyF (Dy.endD (Dy.Dyd.mk b22 l23 n24) n false) fun b241 l242 n243 =>
  dyF (Dy.endD (Dy.Dyd.mk b22 l23 n24) n true) fun b244 l245 n246 =>
  Q
  (AV.agg
  [AV.bool b241, AV.dig [(0 : Nat)] l242, AV.num IntKind.i64 n243,
  AV.bool b244, AV.dig [(0 : Nat)] l245, AV.num IntKind.i64 n246])
  else
  (Dy.mid (Dy.Dyd.mk b22 l23 n24) ∧
  Dy.mid (Dy.Dyd.mk b16 l17 n18) ∧ (1 : Int) ≤ n ∧ n ≤ (8192 : Int)) ∧
  dyF (Dy.endD (Dy.Dyd.mk b22 l23 n24) n false) fun b247 l248 n249 =>
  dyF (Dy.endD (Dy.Dyd.mk b16 l17 n18) n true) fun b250 l251 n252 =>
  Q
  (AV.agg
  [AV.bool b247, AV.dig [(0 : Nat)] l248, AV.num IntKind.i64 n249,
  AV.bool b250, AV.dig [(0 : Nat)] l251, AV.num IntKind.i64 n252])
  else
  (Dy.mayD (Dy.Dyd.mk b16 l17 n18) = true ∧
  Dy.mayD (Dy.Dyd.mk b22 l23 n24) = true) ∧
  bif
  decide
  (Dy.cmpD (Dy.Dyd.mk b16 l17 n18) (Dy.Dyd.mk b22 l23 n24) <
  (0 : Int)) then
  (Dy.mid (Dy.Dyd.mk b19 l20 n21) ∧
  Dy.mid (Dy.Dyd.mk b22 l23 n24) ∧ (1 : Int) ≤ n ∧ n ≤ (8192 : Int)) ∧
  dyF (Dy.endD (Dy.Dyd.mk b19 l20 n21) n false) fun b253 l254 n255 =>
  dyF (Dy.endD (Dy.Dyd.mk b22 l23 n24) n true) fun b256 l257 n258 =>
  Q
  (AV.agg
  [AV.bool b253, AV.dig [(0 : Nat)] l254, AV.num IntKind.i64 n255,
  AV.bool b256, AV.dig [(0 : Nat)] l257, AV.num IntKind.i64 n258])
  else
  (Dy.mid (Dy.Dyd.mk b19 l20 n21) ∧
  Dy.mid (Dy.Dyd.mk b16 l17 n18) ∧ (1 : Int) ≤ n ∧ n ≤ (8192 : Int)) ∧
  dyF (Dy.endD (Dy.Dyd.mk b19 l20 n21) n false) fun b259 l260 n261 =>
  dyF (Dy.endD (Dy.Dyd.mk b16 l17 n18) n true) fun b262 l263 n264 =>
  Q
  (AV.agg
  [AV.bool b259, AV.dig [(0 : Nat)] l260, AV.num IntKind.i64 n261,
  AV.bool b262, AV.dig [(0 : Nat)] l263, AV.num IntKind.i64 n264])
  else
  (Dy.mayD (Dy.Dyd.mk b16 l17 n18) = true ∧ Dy.mayD (Dy.Dyd.mk b19 l20 n21) = true) ∧
  bif decide (Dy.cmpD (Dy.Dyd.mk b16 l17 n18) (Dy.Dyd.mk b19 l20 n21) < (0 : Int)) then
  (Dy.mayD (Dy.Dyd.mk b22 l23 n24) = true ∧ Dy.mayD (Dy.Dyd.mk b13 l14 n15) = true) ∧
  bif
  decide
  (Dy.cmpD (Dy.Dyd.mk b22 l23 n24) (Dy.Dyd.mk b13 l14 n15) < (0 : Int)) then
  (Dy.mayD (Dy.Dyd.mk b19 l20 n21) = true ∧
  Dy.mayD (Dy.Dyd.mk b22 l23 n24) = true) ∧
  bif
  decide
  (Dy.cmpD (Dy.Dyd.mk b19 l20 n21) (Dy.Dyd.mk b22 l23 n24) <
  (0 : Int)) then
  (Dy.mid (Dy.Dyd.mk b22 l23 n24) ∧
  Dy.mid (Dy.Dyd.mk b22 l23 n24) ∧ (1 : Int) ≤ n ∧ n ≤ (8192 : Int)) ∧
  dyF (Dy.endD (Dy.Dyd.mk b22 l23 n24) n false) fun b265 l266 n267 =>
  dyF (Dy.endD (Dy.Dyd.mk b22 l23 n24) n true) fun b268 l269 n270 =>
  Q
  (AV.agg
  [AV.bool b265, AV.dig [(0 : Nat)] l266, AV.num IntKind.i64 n267,
  AV.bool b268, AV.dig [(0 : Nat)] l269, AV.num IntKind.i64 n270])
  else
  (Dy.mid (Dy.Dyd.mk b22 l23 n24) ∧
  Dy.mid (Dy.Dyd.mk b19 l20 n21) ∧ (1 : Int) ≤ n ∧ n ≤ (8192 : Int)) ∧
  dyF (Dy.endD (Dy.Dyd.mk b22 l23 n24) n false) fun b271 l272 n273 =>
  dyF (Dy.endD (Dy.Dyd.mk b19 l20 n21) n true) fun b274 l275 n276 =>
  Q
  (AV.agg
  [AV.bool b271, AV.dig [(0 : Nat)] l272, AV.num IntKind.i64 n273,
  AV.bool b274, AV.dig [(0 : Nat)] l275, AV.num IntKind.i64 n276])
  else
  (Dy.mayD (Dy.Dyd.mk b19 l20 n21) = true ∧
  Dy.mayD (Dy.Dyd.mk b22 l23 n24) = true) ∧
  bif
  decide
  (Dy.cmpD (Dy.Dyd.mk b19 l20 n21) (Dy.Dyd.mk b22 l23 n24) <
  (0 : Int)) then
  (Dy.mid (Dy.Dyd.mk b13 l14 n15) ∧
  Dy.mid (Dy.Dyd.mk b22 l23 n24) ∧ (1 : Int) ≤ n ∧ n ≤ (8192 : Int)) ∧
  dyF (Dy.endD (Dy.Dyd.mk b13 l14 n15) n false) fun b277 l278 n279 =>
  dyF (Dy.endD (Dy.Dyd.mk b22 l23 n24) n true) fun b280 l281 n282 =>
  Q
  (AV.agg
  [AV.bool b277, AV.dig [(0 : Nat)] l278, AV.num IntKind.i64 n279,
  AV.bool b280, AV.dig [(0 : Nat)] l281, AV.num IntKind.i64 n282])
  else
  (Dy.mid (Dy.Dyd.mk b13 l14 n15) ∧
  Dy.mid (Dy.Dyd.mk b19 l20 n21) ∧ (1 : Int) ≤ n ∧ n ≤ (8192 : Int)) ∧
  dyF (Dy.endD (Dy.Dyd.mk b13 l14 n15) n false) fun b283 l284 n285 =>
  dyF (Dy.endD (Dy.Dyd.mk b19 l20 n21) n true) fun b286 l287 n288 =>
  Q
  (AV.agg
  [AV.bool b283, AV.dig [(0 : Nat)] l284, AV.num IntKind.i64 n285,
  AV.bool b286, AV.dig [(0 : Nat)] l287, AV.num IntKind.i64 n288])
  else
  (Dy.mayD (Dy.Dyd.mk b22 l23 n24) = true ∧ Dy.mayD (Dy.Dyd.mk b13 l14 n15) = true) ∧
  bif
  decide
  (Dy.cmpD (Dy.Dyd.mk b22 l23 n24) (Dy.Dyd.mk b13 l14 n15) < (0 : Int)) then
  (Dy.mayD (Dy.Dyd.mk b16 l17 n18) = true ∧
  Dy.mayD (Dy.Dyd.mk b22 l23 n24) = true) ∧
  bif
  decide
  (Dy.cmpD (Dy.Dyd.mk b16 l17 n18) (Dy.Dyd.mk b22 l23 n24) <
  (0 : Int)) then
  (Dy.mid (Dy.Dyd.mk b22 l23 n24) ∧
  Dy.mid (Dy.Dyd.mk b22 l23 n24) ∧ (1 : Int) ≤ n ∧ n ≤ (8192 : Int)) ∧
  dyF (Dy.endD (Dy.Dyd.mk b22 l23 n24) n false) fun b289 l290 n291 =>
  dyF (Dy.endD (Dy.Dyd.mk b22 l23 n24) n true) fun b292 l293 n294 =>
  Q
  (AV.agg
  [AV.bool b289, AV.dig [(0 : Nat)] l290, AV.num IntKind.i64 n291,
  AV.bool b292, AV.dig [(0 : Nat)] l293, AV.num IntKind.i64 n294])
  else
  (Dy.mid (Dy.Dyd.mk b22 l23 n24) ∧
  Dy.mid (Dy.Dyd.mk b16 l17 n18) ∧ (1 : Int) ≤ n ∧ n ≤ (8192 : Int)) ∧
  dyF (Dy.endD (Dy.Dyd.mk b22 l23 n24) n false) fun b295 l296 n297 =>
  dyF (Dy.endD (Dy.Dyd.mk b16 l17 n18) n true) fun b298 l299 n300 =>
  Q
  (AV.agg
  [AV.bool b295, AV.dig [(0 : Nat)] l296, AV.num IntKind.i64 n297,
  AV.bool b298, AV.dig [(0 : Nat)] l299, AV.num IntKind.i64 n300])
  else
  (Dy.mayD (Dy.Dyd.mk b16 l17 n18) = true ∧
  Dy.mayD (Dy.Dyd.mk b22 l23 n24) = true) ∧
  bif
  decide
  (Dy.cmpD (Dy.Dyd.mk b16 l17 n18) (Dy.Dyd.mk b22 l23 n24) <
  (0 : Int)) then
  (Dy.mid (Dy.Dyd.mk b13 l14 n15) ∧
  Dy.mid (Dy.Dyd.mk b22 l23 n24) ∧ (1 : Int) ≤ n ∧ n ≤ (8192 : Int)) ∧
  dyF (Dy.endD (Dy.Dyd.mk b13 l14 n15) n false) fun b301 l302 n303 =>
  dyF (Dy.endD (Dy.Dyd.mk b22 l23 n24) n true) fun b304 l305 n306 =>
  Q
  (AV.agg
  [AV.bool b301, AV.dig [(0 : Nat)] l302, AV.num IntKind.i64 n303,
  AV.bool b304, AV.dig [(0 : Nat)] l305, AV.num IntKind.i64 n306])
  else
  (Dy.mid (Dy.Dyd.mk b13 l14 n15) ∧
  Dy.mid (Dy.Dyd.mk b16 l17 n18) ∧ (1 : Int) ≤ n ∧ n ≤ (8192 : Int)) ∧
  dyF (Dy.endD (Dy.Dyd.mk b13 l14 n15) n false) fun b307 l308 n309 =>
  dyF (Dy.endD (Dy.Dyd.mk b16 l17 n18) n true) fun b310 l311 n312 =>
  Q
  (AV.agg
  [AV.bool b307, AV.dig [(0 : Nat)] l308, AV.num IntKind.i64 n309,
  AV.bool b310, AV.dig [(0 : Nat)] l311, AV.num IntKind.i64 n312])
  else
  (Dy.mayD (Dy.Dyd.mk b19 l20 n21) = true ∧ Dy.mayD (Dy.Dyd.mk b13 l14 n15) = true) ∧
  bif decide (Dy.cmpD (Dy.Dyd.mk b19 l20 n21) (Dy.Dyd.mk b13 l14 n15) < (0 : Int)) then
  (Dy.mayD (Dy.Dyd.mk b13 l14 n15) = true ∧ Dy.mayD (Dy.Dyd.mk b19 l20 n21) = true) ∧
  bif decide (Dy.cmpD (Dy.Dyd.mk b13 l14 n15) (Dy.Dyd.mk b19 l20 n21) < (0 : Int)) then
  (Dy.mayD (Dy.Dyd.mk b22 l23 n24) = true ∧ Dy.mayD (Dy.Dyd.mk b19 l20 n21) = true) ∧
  bif
  decide
  (Dy.cmpD (Dy.Dyd.mk b22 l23 n24) (Dy.Dyd.mk b19 l20 n21) < (0 : Int)) then
  (Dy.mayD (Dy.Dyd.mk b19 l20 n21) = true ∧
  Dy.mayD (Dy.Dyd.mk b22 l23 n24) = true) ∧
  bif
  decide
  (Dy.cmpD (Dy.Dyd.mk b19 l20 n21) (Dy.Dyd.mk b22 l23 n24) <
  (0 : Int)) then
  (Dy.mid (Dy.Dyd.mk b22 l23 n24) ∧
  Dy.mid (Dy.Dyd.mk b22 l23 n24) ∧ (1 : Int) ≤ n ∧ n ≤ (8192 : Int)) ∧
  dyF (Dy.endD (Dy.Dyd.mk b22 l23 n24) n false) fun b313 l314 n315 =>
  dyF (Dy.endD (Dy.Dyd.mk b22 l23 n24) n true) fun b316 l317 n318 =>
  Q
  (AV.agg
  [AV.bool b313, AV.dig [(0 : Nat)] l314, AV.num IntKind.i64 n315,
  AV.bool b316, AV.dig [(0 : Nat)] l317, AV.num IntKind.i64 n318])
  else
  (Dy.mid (Dy.Dyd.mk b22 l23 n24) ∧
  Dy.mid (Dy.Dyd.mk b19 l20 n21) ∧ (1 : Int) ≤ n ∧ n ≤ (8192 : Int)) ∧
  dyF (Dy.endD (Dy.Dyd.mk b22 l23 n24) n false) fun b319 l320 n321 =>
  dyF (Dy.endD (Dy.Dyd.mk b19 l20 n21) n true) fun b322 l323 n324 =>
  Q
  (AV.agg
  [AV.bool b319, AV.dig [(0 : Nat)] l320, AV.num IntKind.i64 n321,
  AV.bool b322, AV.dig [(0 : Nat)] l323, AV.num IntKind.i64 n324])
  else
  (Dy.mayD (Dy.Dyd.mk b19 l20 n21) = true ∧
  Dy.mayD (Dy.Dyd.mk b22 l23 n24) = true) ∧
  bif
  decide
  (Dy.cmpD (Dy.Dyd.mk b19 l20 n21) (Dy.Dyd.mk b22 l23 n24) <
  (0 : Int)) then
  (Dy.mid (Dy.Dyd.mk b19 l20 n21) ∧
  Dy.mid (Dy.Dyd.mk b22 l23 n24) ∧ (1 : Int) ≤ n ∧ n ≤ (8192 : Int)) ∧
  dyF (Dy.endD (Dy.Dyd.mk b19 l20 n21) n false) fun b325 l326 n327 =>
  dyF (Dy.endD (Dy.Dyd.mk b22 l23 n24) n true) fun b328 l329 n330 =>
  Q
  (AV.agg
  [AV.bool b325, AV.dig [(0 : Nat)] l326, AV.num IntKind.i64 n327,
  AV.bool b328, AV.dig [(0 : Nat)] l329, AV.num IntKind.i64 n330])
  else
  (Dy.mid (Dy.Dyd.mk b19 l20 n21) ∧
  Dy.mid (Dy.Dyd.mk b19 l20 n21) ∧ (1 : Int) ≤ n ∧ n ≤ (8192 : Int)) ∧
  dyF (Dy.endD (Dy.Dyd.mk b19 l20 n21) n false) fun b331 l332 n333 =>
  dyF (Dy.endD (Dy.Dyd.mk b19 l20 n21) n true) fun b334 l335 n336 =>
  Q
  (AV.agg
  [AV.bool b331, AV.dig [(0 : Nat)] l332, AV.num IntKind.i64 n333,
  AV.bool b334, AV.dig [(0 : Nat)] l335, AV.num IntKind.i64 n336])
  else
  (Dy.mayD (Dy.Dyd.mk b22 l23 n24) = true ∧ Dy.mayD (Dy.Dyd.mk b19 l20 n21) = true) ∧
  bif
  decide
  (Dy.cmpD (Dy.Dyd.mk b22 l23 n24) (Dy.Dyd.mk b19 l20 n21) < (0 : Int)) then
  (Dy.mayD (Dy.Dyd.mk b13 l14 n15) = true ∧
  Dy.mayD (Dy.Dyd.mk b22 l23 n24) = true) ∧
  bif
  decide
  (Dy.cmpD (Dy.Dyd.mk b13 l14 n15) (Dy.Dyd.mk b22 l23 n24) <
  (0 : Int)) then
  (Dy.mid (Dy.Dyd.mk b22 l23 n24) ∧
  Dy.mid (Dy.Dyd.mk b22 l23 n24) ∧ (1 : Int) ≤ n ∧ n ≤ (8192 : Int)) ∧
  dyF (Dy.endD (Dy.Dyd.mk b22 l23 n24) n false) fun b337 l338 n339 =>
  dyF (Dy.endD (Dy.Dyd.mk b22 l23 n24) n true) fun b340 l341 n342 =>
  Q
  (AV.agg
  [AV.bool b337, AV.dig [(0 : Nat)] l338, AV.num IntKind.i64 n339,
  AV.bool b340, AV.dig [(0 : Nat)] l341, AV.num IntKind.i64 n342])
  else
  (Dy.mid (Dy.Dyd.mk b22 l23 n24) ∧
  Dy.mid (Dy.Dyd.mk b13 l14 n15) ∧ (1 : Int) ≤ n ∧ n ≤ (8192 : Int)) ∧
  dyF (Dy.endD (Dy.Dyd.mk b22 l23 n24) n false) fun b343 l344 n345 =>
  dyF (Dy.endD (Dy.Dyd.mk b13 l14 n15) n true) fun b346 l347 n348 =>
  Q
  (AV.agg
  [AV.bool b343, AV.dig [(0 : Nat)] l344, AV.num IntKind.i64 n345,
  AV.bool b346, AV.dig [(0 : Nat)] l347, AV.num IntKind.i64 n348])
  else
  (Dy.mayD (Dy.Dyd.mk b13 l14 n15) = true ∧
  Dy.mayD (Dy.Dyd.mk b22 l23 n24) = true) ∧
  bif
  decide
  (Dy.cmpD (Dy.Dyd.mk b13 l14 n15) (Dy.Dyd.mk b22 l23 n24) <
  (0 : Int)) then
  (Dy.mid (Dy.Dyd.mk b19 l20 n21) ∧
  Dy.mid (Dy.Dyd.mk b22 l23 n24) ∧ (1 : Int) ≤ n ∧ n ≤ (8192 : Int)) ∧
  dyF (Dy.endD (Dy.Dyd.mk b19 l20 n21) n false) fun b349 l350 n351 =>
  dyF (Dy.endD (Dy.Dyd.mk b22 l23 n24) n true) fun b352 l353 n354 =>
  Q
  (AV.agg
  [AV.bool b349, AV.dig [(0 : Nat)] l350, AV.num IntKind.i64 n351,
  AV.bool b352, AV.dig [(0 : Nat)] l353, AV.num IntKind.i64 n354])
  else
  (Dy.mid (Dy.Dyd.mk b19 l20 n21) ∧
  Dy.mid (Dy.Dyd.mk b13 l14 n15) ∧ (1 : Int) ≤ n ∧ n ≤ (8192 : Int)) ∧
  dyF (Dy.endD (Dy.Dyd.mk b19 l20 n21) n false) fun b355 l356 n357 =>
  dyF (Dy.endD (Dy.Dyd.mk b13 l14 n15) n true) fun b358 l359 n360 =>
  Q
  (AV.agg
  [AV.bool b355, AV.dig [(0 : Nat)] l356, AV.num IntKind.i64 n357,
  AV.bool b358, AV.dig [(0 : Nat)] l359, AV.num IntKind.i64 n360])
  else
  (Dy.mayD (Dy.Dyd.mk b13 l14 n15) = true ∧ Dy.mayD (Dy.Dyd.mk b19 l20 n21) = true) ∧
  bif decide (Dy.cmpD (Dy.Dyd.mk b13 l14 n15) (Dy.Dyd.mk b19 l20 n21) < (0 : Int)) then
  (Dy.mayD (Dy.Dyd.mk b22 l23 n24) = true ∧ Dy.mayD (Dy.Dyd.mk b13 l14 n15) = true) ∧
  bif
  decide
  (Dy.cmpD (Dy.Dyd.mk b22 l23 n24) (Dy.Dyd.mk b13 l14 n15) < (0 : Int)) then
  (Dy.mayD (Dy.Dyd.mk b19 l20 n21) = true ∧
  Dy.mayD (Dy.Dyd.mk b22 l23 n24) = true) ∧
  bif
  decide
  (Dy.cmpD (Dy.Dyd.mk b19 l20 n21) (Dy.Dyd.mk b22 l23 n24) <
  (0 : Int)) then
  (Dy.mid (Dy.Dyd.mk b22 l23 n24) ∧
  Dy.mid (Dy.Dyd.mk b22 l23 n24) ∧ (1 : Int) ≤ n ∧ n ≤ (8192 : Int)) ∧
  dyF (Dy.endD (Dy.Dyd.mk b22 l23 n24) n false) fun b361 l362 n363 =>
  dyF (Dy.endD (Dy.Dyd.mk b22 l23 n24) n true) fun b364 l365 n366 =>
  Q
  (AV.agg
  [AV.bool b361, AV.dig [(0 : Nat)] l362, AV.num IntKind.i64 n363,
  AV.bool b364, AV.dig [(0 : Nat)] l365, AV.num IntKind.i64 n366])
  else
  (Dy.mid (Dy.Dyd.mk b22 l23 n24) ∧
  Dy.mid (Dy.Dyd.mk b19 l20 n21) ∧ (1 : Int) ≤ n ∧ n ≤ (8192 : Int)) ∧
  dyF (Dy.endD (Dy.Dyd.mk b22 l23 n24) n false) fun b367 l368 n369 =>
  dyF (Dy.endD (Dy.Dyd.mk b19 l20 n21) n true) fun b370 l371 n372 =>
  Q
  (AV.agg
  [AV.bool b367, AV.dig [(0 : Nat)] l368, AV.num IntKind.i64 n369,
  AV.bool b370, AV.dig [(0 : Nat)] l371, AV.num IntKind.i64 n372])
  else
  (Dy.mayD (Dy.Dyd.mk b19 l20 n21) = true ∧
  Dy.mayD (Dy.Dyd.mk b22 l23 n24) = true) ∧
  bif
  decide
  (Dy.cmpD (Dy.Dyd.mk b19 l20 n21) (Dy.Dyd.mk b22 l23 n24) <
  (0 : Int)) then
  (Dy.mid (Dy.Dyd.mk b13 l14 n15) ∧
  Dy.mid (Dy.Dyd.mk b22 l23 n24) ∧ (1 : Int) ≤ n ∧ n ≤ (8192 : Int)) ∧
  dyF (Dy.endD (Dy.Dyd.mk b13 l14 n15) n false) fun b373 l374 n375 =>
  dyF (Dy.endD (Dy.Dyd.mk b22 l23 n24) n true) fun b376 l377 n378 =>
  Q
  (AV.agg
  [AV.bool b373, AV.dig [(0 : Nat)] l374, AV.num IntKind.i64 n375,
  AV.bool b376, AV.dig [(0 : Nat)] l377, AV.num IntKind.i64 n378])
  else
  (Dy.mid (Dy.Dyd.mk b13 l14 n15) ∧
  Dy.mid (Dy.Dyd.mk b19 l20 n21) ∧ (1 : Int) ≤ n ∧ n ≤ (8192 : Int)) ∧
  dyF (Dy.endD (Dy.Dyd.mk b13 l14 n15) n false) fun b379 l380 n381 =>
  dyF (Dy.endD (Dy.Dyd.mk b19 l20 n21) n true) fun b382 l383 n384 =>
  Q
  (AV.agg
  [AV.bool b379, AV.dig [(0 : Nat)] l380, AV.num IntKind.i64 n381,
  AV.bool b382, AV.dig [(0 : Nat)] l383, AV.num IntKind.i64 n384])
  else
  (Dy.mayD (Dy.Dyd.mk b22 l23 n24) = true ∧ Dy.mayD (Dy.Dyd.mk b13 l14 n15) = true) ∧
  bif
  decide
  (Dy.cmpD (Dy.Dyd.mk b22 l23 n24) (Dy.Dyd.mk b13 l14 n15) < (0 : Int)) then
  (Dy.mayD (Dy.Dyd.mk b13 l14 n15) = true ∧
  Dy.mayD (Dy.Dyd.mk b22 l23 n24) = true) ∧
  bif
  decide
  (Dy.cmpD (Dy.Dyd.mk b13 l14 n15) (Dy.Dyd.mk b22 l23 n24) <
  (0 : Int)) then
  (Dy.mid (Dy.Dyd.mk b22 l23 n24) ∧
  Dy.mid (Dy.Dyd.mk b22 l23 n24) ∧ (1 : Int) ≤ n ∧ n ≤ (8192 : Int)) ∧
  dyF (Dy.endD (Dy.Dyd.mk b22 l23 n24) n false) fun b385 l386 n387 =>
  dyF (Dy.endD (Dy.Dyd.mk b22 l23 n24) n true) fun b388 l389 n390 =>
  Q
  (AV.agg
  [AV.bool b385, AV.dig [(0 : Nat)] l386, AV.num IntKind.i64 n387,
  AV.bool b388, AV.dig [(0 : Nat)] l389, AV.num IntKind.i64 n390])
  else
  (Dy.mid (Dy.Dyd.mk b22 l23 n24) ∧
  Dy.mid (Dy.Dyd.mk b13 l14 n15) ∧ (1 : Int) ≤ n ∧ n ≤ (8192 : Int)) ∧
  dyF (Dy.endD (Dy.Dyd.mk b22 l23 n24) n false) fun b391 l392 n393 =>
  dyF (Dy.endD (Dy.Dyd.mk b13 l14 n15) n true) fun b394 l395 n396 =>
  Q
  (AV.agg
  [AV.bool b391, AV.dig [(0 : Nat)] l392, AV.num IntKind.i64 n393,
  AV.bool b394, AV.dig [(0 : Nat)] l395, AV.num IntKind.i64 n396])
  else
  (Dy.mayD (Dy.Dyd.mk b13 l14 n15) = true ∧
  Dy.mayD (Dy.Dyd.mk b22 l23 n24) = true) ∧
  bif
  decide
  (Dy.cmpD (Dy.Dyd.mk b13 l14 n15) (Dy.Dyd.mk b22 l23 n24) <
  (0 : Int)) then
  (Dy.mid (Dy.Dyd.mk b13 l14 n15) ∧
  Dy.mid (Dy.Dyd.mk b22 l23 n24) ∧ (1 : Int) ≤ n ∧ n ≤ (8192 : Int)) ∧
  dyF (Dy.endD (Dy.Dyd.mk b13 l14 n15) n false) fun b397 l398 n399 =>
  dyF (Dy.endD (Dy.Dyd.mk b22 l23 n24) n true) fun b400 l401 n402 =>
  Q
  (AV.agg
  [AV.bool b397, AV.dig [(0 : Nat)] l398, AV.num IntKind.i64 n399,
  AV.bool b400, AV.dig [(0 : Nat)] l401, AV.num IntKind.i64 n402])
  else
  (Dy.mid (Dy.Dyd.mk b13 l14 n15) ∧
  Dy.mid (Dy.Dyd.mk b13 l14 n15) ∧ (1 : Int) ≤ n ∧ n ≤ (8192 : Int)) ∧
  dyF (Dy.endD (Dy.Dyd.mk b13 l14 n15) n false) fun b403 l404 n405 =>
  dyF (Dy.endD (Dy.Dyd.mk b13 l14 n15) n true) fun b406 l407 n408 =>
  Q
  (AV.agg
  [AV.bool b403, AV.dig [(0 : Nat)] l404, AV.num IntKind.i64 n405,
  AV.bool b406, AV.dig [(0 : Nat)] l407, AV.num IntKind.i64 n408])
 else
  (Dy.mayD (Dy.Dyd.mk s m e) = true ∧
  Dy.mayD (Dy.Dyd.mk t l f) = true ∧ Dy.mayD (Dy.mulD (Dy.Dyd.mk s m e) (Dy.Dyd.mk t l f)) = true) ∧
  dyF (Dy.mulD (Dy.Dyd.mk s m e) (Dy.Dyd.mk t l f)) fun b409 l410 n411 =>
  (Dy.mayD (Dy.Dyd.mk s m e) = true ∧
  Dy.mayD (Dy.Dyd.mk t' l' f') = true ∧ Dy.mayD (Dy.mulD (Dy.Dyd.mk s m e) (Dy.Dyd.mk t' l' f')) = true) ∧
  dyF (Dy.mulD (Dy.Dyd.mk s m e) (Dy.Dyd.mk t' l' f')) fun b412 l413 n414 =>
  (Dy.mayD (Dy.Dyd.mk s' m' e') = true ∧
  Dy.mayD (Dy.Dyd.mk t l f) = true ∧ Dy.mayD (Dy.mulD (Dy.Dyd.mk s' m' e') (Dy.Dyd.mk t l f)) = true) ∧
  dyF (Dy.mulD (Dy.Dyd.mk s' m' e') (Dy.Dyd.mk t l f)) fun b415 l416 n417 =>
  (Dy.mayD (Dy.Dyd.mk s' m' e') = true ∧
  Dy.mayD (Dy.Dyd.mk t' l' f') = true ∧
  Dy.mayD (Dy.mulD (Dy.Dyd.mk s' m' e') (Dy.Dyd.mk t' l' f')) = true) ∧
  dyF (Dy.mulD (Dy.Dyd.mk s' m' e') (Dy.Dyd.mk t' l' f')) fun b418 l419 n420 =>
  (Dy.mayD (Dy.Dyd.mk b412 l413 n414) = true ∧ Dy.mayD (Dy.Dyd.mk b409 l410 n411) = true) ∧
  bif decide (Dy.cmpD (Dy.Dyd.mk b412 l413 n414) (Dy.Dyd.mk b409 l410 n411) < (0 : Int)) then
  (Dy.mayD (Dy.Dyd.mk b409 l410 n411) = true ∧ Dy.mayD (Dy.Dyd.mk b412 l413 n414) = true) ∧
  bif decide (Dy.cmpD (Dy.Dyd.mk b409 l410 n411) (Dy.Dyd.mk b412 l413 n414) < (0 : Int)) then
  (Dy.mayD (Dy.Dyd.mk b415 l416 n417) = true ∧ Dy.mayD (Dy.Dyd.mk b412 l413 n414) = true) ∧
  bif decide (Dy.cmpD (Dy.Dyd.mk b415 l416 n417) (Dy.Dyd.mk b412 l413 n414) < (0 : Int)) then
  (Dy.mayD (Dy.Dyd.mk b412 l413 n414) = true ∧ Dy.mayD (Dy.Dyd.mk b415 l416 n417) = true) ∧
  bif
  decide
  (Dy.cmpD (Dy.Dyd.mk b412 l413 n414) (Dy.Dyd.mk b415 l416 n417) < (0 : Int)) then
  (Dy.mayD (Dy.Dyd.mk b418 l419 n420) = true ∧
  Dy.mayD (Dy.Dyd.mk b415 l416 n417) = true) ∧
  bif
  decide
  (Dy.cmpD (Dy.Dyd.mk b418 l419 n420) (Dy.Dyd.mk b415 l416 n417) <
  (0 : Int)) then
  (Dy.mayD (Dy.Dyd.mk b415 l416 n417) = true ∧
  Dy.mayD (Dy.Dyd.mk b418 l419 n420) = true) ∧
  bif
  decide
  (Dy.cmpD (Dy.Dyd.mk b415 l416 n417) (Dy.Dyd.mk b418 l419 n420) <
  (0 : Int)) then
  (Dy.mid (Dy.Dyd.mk b418 l419 n420) ∧
  Dy.mid (Dy.Dyd.mk b418 l419 n420) ∧ (1 : Int) ≤ n ∧ n ≤ (8192 : Int)) ∧
  dyF (Dy.endD (Dy.Dyd.mk b418 l419 n420) n false) fun b421 l422 n423 =>
  dyF (Dy.endD (Dy.Dyd.mk b418 l419 n420) n true) fun b424 l425 n426 =>
  Q
  (AV.agg
  [AV.bool b421, AV.dig [(0 : Nat)] l422, AV.num IntKind.i64 n423,
  AV.bool b424, AV.dig [(0 : Nat)] l425, AV.num IntKind.i64 n426])
  else
  (Dy.mid (Dy.Dyd.mk b418 l419 n420) ∧
  Dy.mid (Dy.Dyd.mk b415 l416 n417) ∧ (1 : Int) ≤ n ∧ n ≤ (8192 : Int)) ∧
  dyF (Dy.endD (Dy.Dyd.mk b418 l419 n420) n false) fun b427 l428 n429 =>
  dyF (Dy.endD (Dy.Dyd.mk b415 l416 n417) n true) fun b430 l431 n432 =>
  Q
  (AV.agg
  [AV.bool b427, AV.dig [(0 : Nat)] l428, AV.num IntKind.i64 n429,
  AV.bool b430, AV.dig [(0 : Nat)] l431, AV.num IntKind.i64 n432])
  else
  (Dy.mayD (Dy.Dyd.mk b415 l416 n417) = true ∧
  Dy.mayD (Dy.Dyd.mk b418 l419 n420) = true) ∧
  bif
  decide
  (Dy.cmpD (Dy.Dyd.mk b415 l416 n417) (Dy.Dyd.mk b418 l419 n420) <
  (0 : Int)) then
  (Dy.mid (Dy.Dyd.mk b415 l416 n417) ∧
  Dy.mid (Dy.Dyd.mk b418 l419 n420) ∧ (1 : Int) ≤ n ∧ n ≤ (8192 : Int)) ∧
  dyF (Dy.endD (Dy.Dyd.mk b415 l416 n417) n false) fun b433 l434 n435 =>
  dyF (Dy.endD (Dy.Dyd.mk b418 l419 n420) n true) fun b436 l437 n438 =>
  Q
  (AV.agg
  [AV.bool b433, AV.dig [(0 : Nat)] l434, AV.num IntKind.i64 n435,
  AV.bool b436, AV.dig [(0 : Nat)] l437, AV.num IntKind.i64 n438])
  else
  (Dy.mid (Dy.Dyd.mk b415 l416 n417) ∧
  Dy.mid (Dy.Dyd.mk b415 l416 n417) ∧ (1 : Int) ≤ n ∧ n ≤ (8192 : Int)) ∧
  dyF (Dy.endD (Dy.Dyd.mk b415 l416 n417) n false) fun b439 l440 n441 =>
  dyF (Dy.endD (Dy.Dyd.mk b415 l416 n417) n true) fun b442 l443 n444 =>
  Q
  (AV.agg
  [AV.bool b439, AV.dig [(0 : Nat)] l440, AV.num IntKind.i64 n441,
  AV.bool b442, AV.dig [(0 : Nat)] l443, AV.num IntKind.i64 n444])
  else
  (Dy.mayD (Dy.Dyd.mk b418 l419 n420) = true ∧
  Dy.mayD (Dy.Dyd.mk b415 l416 n417) = true) ∧
  bif
  decide
  (Dy.cmpD (Dy.Dyd.mk b418 l419 n420) (Dy.Dyd.mk b415 l416 n417) <
  (0 : Int)) then
  (Dy.mayD (Dy.Dyd.mk b412 l413 n414) = true ∧
  Dy.mayD (Dy.Dyd.mk b418 l419 n420) = true) ∧
  bif
  decide
  (Dy.cmpD (Dy.Dyd.mk b412 l413 n414) (Dy.Dyd.mk b418 l419 n420) <
  (0 : Int)) then
  (Dy.mid (Dy.Dyd.mk b418 l419 n420) ∧
  Dy.mid (Dy.Dyd.mk b418 l419 n420) ∧ (1 : Int) ≤ n ∧ n ≤ (8192 : Int)) ∧
  dyF (Dy.endD (Dy.Dyd.mk b418 l419 n420) n false) fun b445 l446 n447 =>
  dyF (Dy.endD (Dy.Dyd.mk b418 l419 n420) n true) fun b448 l449 n450 =>
  Q
  (AV.agg
  [AV.bool b445, AV.dig [(0 : Nat)] l446, AV.num IntKind.i64 n447,
  AV.bool b448, AV.dig [(0 : Nat)] l449, AV.num IntKind.i64 n450])
  else
  (Dy.mid (Dy.Dyd.mk b418 l419 n420) ∧
  Dy.mid (Dy.Dyd.mk b412 l413 n414) ∧ (1 : Int) ≤ n ∧ n ≤ (8192 : Int)) ∧
  dyF (Dy.endD (Dy.Dyd.mk b418 l419 n420) n false) fun b451 l452 n453 =>
  dyF (Dy.endD (Dy.Dyd.mk b412 l413 n414) n true) fun b454 l455 n456 =>
  Q
  (AV.agg
  [AV.bool b451, AV.dig [(0 : Nat)] l452, AV.num IntKind.i64 n453,
  AV.bool b454, AV.dig [(0 : Nat)] l455, AV.num IntKind.i64 n456])
  else
  (Dy.mayD (Dy.Dyd.mk b412 l413 n414) = true ∧
  Dy.mayD (Dy.Dyd.mk b418 l419 n420) = true) ∧
  bif
  decide
  (Dy.cmpD (Dy.Dyd.mk b412 l413 n414) (Dy.Dyd.mk b418 l419 n420) <
  (0 : Int)) then
  (Dy.mid (Dy.Dyd.mk b415 l416 n417) ∧
  Dy.mid (Dy.Dyd.mk b418 l419 n420) ∧ (1 : Int) ≤ n ∧ n ≤ (8192 : Int)) ∧
  dyF (Dy.endD (Dy.Dyd.mk b415 l416 n417) n false) fun b457 l458 n459 =>
  dyF (Dy.endD (Dy.Dyd.mk b418 l419 n420) n true) fun b460 l461 n462 =>
  Q
  (AV.agg
  [AV.bool b457, AV.dig [(0 : Nat)] l458, AV.num IntKind.i64 n459,
  AV.bool b460, AV.dig [(0 : Nat)] l461, AV.num IntKind.i64 n462])
  else
  (Dy.mid (Dy.Dyd.mk b415 l416 n417) ∧
  Dy.mid (Dy.Dyd.mk b412 l413 n414) ∧ (1 : Int) ≤ n ∧ n ≤ (8192 : Int)) ∧
  dyF (Dy.endD (Dy.Dyd.mk b415 l416 n417) n false) fun b463 l464 n465 =>
  dyF (Dy.endD (Dy.Dyd.mk b412 l413 n414) n true) fun b466 l467 n468 =>
  Q
  (AV.agg
  [AV.bool b463, AV.dig [(0 : Nat)] l464, AV.num IntKind.i64 n465,
  AV.bool b466, AV.dig [(0 : Nat)] l467, AV.num IntKind.i64 n468])
  else
  (Dy.mayD (Dy.Dyd.mk b412 l413 n414) = true ∧ Dy.mayD (Dy.Dyd.mk b415 l416 n417) = true) ∧
  bif
  decide
  (Dy.cmpD (Dy.Dyd.mk b412 l413 n414) (Dy.Dyd.mk b415 l416 n417) < (0 : Int)) then
  (Dy.mayD (Dy.Dyd.mk b418 l419 n420) = true ∧
  Dy.mayD (Dy.Dyd.mk b412 l413 n414) = true) ∧
  bif
  decide
  (Dy.cmpD (Dy.Dyd.mk b418 l419 n420) (Dy.Dyd.mk b412 l413 n414) <
  (0 : Int)) then
  (Dy.mayD (Dy.Dyd.mk b415 l416 n417) = true ∧
  Dy.mayD (Dy.Dyd.mk b418 l419 n420) = true) ∧
  bif
  decide
  (Dy.cmpD (Dy.Dyd.mk b415 l416 n417) (Dy.Dyd.mk b418 l419 n420) <
  (0 : Int)) then
  (Dy.mid (Dy.Dyd.mk b418 l419 n420) ∧
  Dy.mid (Dy.Dyd.mk b418 l419 n420) ∧ (1 : Int) ≤ n ∧ n ≤ (8192 : Int)) ∧
  dyF (Dy.endD (Dy.Dyd.mk b418 l419 n420) n false) fun b469 l470 n471 =>
  dyF (Dy.endD (Dy.Dyd.mk b418 l419 n420) n true) fun b472 l473 n474 =>
  Q
  (AV.agg
  [AV.bool b469, AV.dig [(0 : Nat)] l470, AV.num IntKind.i64 n471,
  AV.bool b472, AV.dig [(0 : Nat)] l473, AV.num IntKind.i64 n474])
  else
  (Dy.mid (Dy.Dyd.mk b418 l419 n420) ∧
  Dy.mid (Dy.Dyd.mk b415 l416 n417) ∧ (1 : Int) ≤ n ∧ n ≤ (8192 : Int)) ∧
  dyF (Dy.endD (Dy.Dyd.mk b418 l419 n420) n false) fun b475 l476 n477 =>
  dyF (Dy.endD (Dy.Dyd.mk b415 l416 n417) n true) fun b478 l479 n480 =>
  Q
  (AV.agg
  [AV.bool b475, AV.dig [(0 : Nat)] l476, AV.num IntKind.i64 n477,
  AV.bool b478, AV.dig [(0 : Nat)] l479, AV.num IntKind.i64 n480])
  else
  (Dy.mayD (Dy.Dyd.mk b415 l416 n417) = true ∧
  Dy.mayD (Dy.Dyd.mk b418 l419 n420) = true) ∧
  bif
  decide
  (Dy.cmpD (Dy.Dyd.mk b415 l416 n417) (Dy.Dyd.mk b418 l419 n420) <
  (0 : Int)) then
  (Dy.mid (Dy.Dyd.mk b412 l413 n414) ∧
  Dy.mid (Dy.Dyd.mk b418 l419 n420) ∧ (1 : Int) ≤ n ∧ n ≤ (8192 : Int)) ∧
  dyF (Dy.endD (Dy.Dyd.mk b412 l413 n414) n false) fun b481 l482 n483 =>
  dyF (Dy.endD (Dy.Dyd.mk b418 l419 n420) n true) fun b484 l485 n486 =>
  Q
  (AV.agg
  [AV.bool b481, AV.dig [(0 : Nat)] l482, AV.num IntKind.i64 n483,
  AV.bool b484, AV.dig [(0 : Nat)] l485, AV.num IntKind.i64 n486])
  else
  (Dy.mid (Dy.Dyd.mk b412 l413 n414) ∧
  Dy.mid (Dy.Dyd.mk b415 l416 n417) ∧ (1 : Int) ≤ n ∧ n ≤ (8192 : Int)) ∧
  dyF (Dy.endD (Dy.Dyd.mk b412 l413 n414) n false) fun b487 l488 n489 =>
  dyF (Dy.endD (Dy.Dyd.mk b415 l416 n417) n true) fun b490 l491 n492 =>
  Q
  (AV.agg
  [AV.bool b487, AV.dig [(0 : Nat)] l488, AV.num IntKind.i64 n489,
  AV.bool b490, AV.dig [(0 : Nat)] l491, AV.num IntKind.i64 n492])
  else
  (Dy.mayD (Dy.Dyd.mk b418 l419 n420) = true ∧
  Dy.mayD (Dy.Dyd.mk b412 l413 n414) = true) ∧
  bif
  decide
  (Dy.cmpD (Dy.Dyd.mk b418 l419 n420) (Dy.Dyd.mk b412 l413 n414) <
  (0 : Int)) then
  (Dy.mayD (Dy.Dyd.mk b412 l413 n414) = true ∧
  Dy.mayD (Dy.Dyd.mk b418 l419 n420) = true) ∧
  bif
  decide
  (Dy.cmpD (Dy.Dyd.mk b412 l413 n414) (Dy.Dyd.mk b418 l419 n420) <
  (0 : Int)) then
  (Dy.mid (Dy.Dyd.mk b418 l419 n420) ∧
  Dy.mid (Dy.Dyd.mk b418 l419 n420) ∧ (1 : Int) ≤ n ∧ n ≤ (8192 : Int)) ∧
  dyF (Dy.endD (Dy.Dyd.mk b418 l419 n420) n false) fun b493 l494 n495 =>
  dyF (Dy.endD (Dy.Dyd.mk b418 l419 n420) n true) fun b496 l497 n498 =>
  Q
  (AV.agg
  [AV.bool b493, AV.dig [(0 : Nat)] l494, AV.num IntKind.i64 n495,
  AV.bool b496, AV.dig [(0 : Nat)] l497, AV.num IntKind.i64 n498])
  else
  (Dy.mid (Dy.Dyd.mk b418 l419 n420) ∧
  Dy.mid (Dy.Dyd.mk b412 l413 n414) ∧ (1 : Int) ≤ n ∧ n ≤ (8192 : Int)) ∧
  dyF (Dy.endD (Dy.Dyd.mk b418 l419 n420) n false) fun b499 l500 n501 =>
  dyF (Dy.endD (Dy.Dyd.mk b412 l413 n414) n true) fun b502 l503 n504 =>
  Q
  (AV.agg
  [AV.bool b499, AV.dig [(0 : Nat)] l500, AV.num IntKind.i64 n501,
  AV.bool b502, AV.dig [(0 : Nat)] l503, AV.num IntKind.i64 n504])
  else
  (Dy.mayD (Dy.Dyd.mk b412 l413 n414) = true ∧
  Dy.mayD (Dy.Dyd.mk b418 l419 n420) = true) ∧
  bif
  decide
  (Dy.cmpD (Dy.Dyd.mk b412 l413 n414) (Dy.Dyd.mk b418 l419 n420) <
  (0 : Int)) then
  (Dy.mid (Dy.Dyd.mk b412 l413 n414) ∧
  Dy.mid (Dy.Dyd.mk b418 l419 n420) ∧ (1 : Int) ≤ n ∧ n ≤ (8192 : Int)) ∧
  dyF (Dy.endD (Dy.Dyd.mk b412 l413 n414) n false) fun b505 l506 n507 =>
  dyF (Dy.endD (Dy.Dyd.mk b418 l419 n420) n true) fun b508 l509 n510 =>
  Q
  (AV.agg
  [AV.bool b505, AV.dig [(0 : Nat)] l506, AV.num IntKind.i64 n507,
  AV.bool b508, AV.dig [(0 : Nat)] l509, AV.num IntKind.i64 n510])
  else
  (Dy.mid (Dy.Dyd.mk b412 l413 n414) ∧
  Dy.mid (Dy.Dyd.mk b412 l413 n414) ∧ (1 : Int) ≤ n ∧ n ≤ (8192 : Int)) ∧
  dyF (Dy.endD (Dy.Dyd.mk b412 l413 n414) n false) fun b511 l512 n513 =>
  dyF (Dy.endD (Dy.Dyd.mk b412 l413 n414) n true) fun b514 l515 n516 =>
  Q
  (AV.agg
  [AV.bool b511, AV.dig [(0 : Nat)] l512, AV.num IntKind.i64 n513,
  AV.bool b514, AV.dig [(0 : Nat)] l515, AV.num IntKind.i64 n516])
  else
  (Dy.mayD (Dy.Dyd.mk b415 l416 n417) = true ∧ Dy.mayD (Dy.Dyd.mk b412 l413 n414) = true) ∧
  bif decide (Dy.cmpD (Dy.Dyd.mk b415 l416 n417) (Dy.Dyd.mk b412 l413 n414) < (0 : Int)) then
  (Dy.mayD (Dy.Dyd.mk b409 l410 n411) = true ∧ Dy.mayD (Dy.Dyd.mk b415 l416 n417) = true) ∧
  bif
  decide
  (Dy.cmpD (Dy.Dyd.mk b409 l410 n411) (Dy.Dyd.mk b415 l416 n417) < (0 : Int)) then
  (Dy.mayD (Dy.Dyd.mk b418 l419 n420) = true ∧
  Dy.mayD (Dy.Dyd.mk b415 l416 n417) = true) ∧
  bif
  decide
  (Dy.cmpD (Dy.Dyd.mk b418 l419 n420) (Dy.Dyd.mk b415 l416 n417) <
  (0 : Int)) then
  (Dy.mayD (Dy.Dyd.mk b415 l416 n417) = true ∧
  Dy.mayD (Dy.Dyd.mk b418 l419 n420) = true) ∧
  bif
  decide
  (Dy.cmpD (Dy.Dyd.mk b415 l416 n417) (Dy.Dyd.mk b418 l419 n420) <
  (0 : Int)) then
  (Dy.mid (Dy.Dyd.mk b418 l419 n420) ∧
  Dy.mid (Dy.Dyd.mk b418 l419 n420) ∧ (1 : Int) ≤ n ∧ n ≤ (8192 : Int)) ∧
  dyF (Dy.endD (Dy.Dyd.mk b418 l419 n420) n false) fun b517 l518 n519 =>
  dyF (Dy.endD (Dy.Dyd.mk b418 l419 n420) n true) fun b520 l521 n522 =>
  Q
  (AV.agg
  [AV.bool b517, AV.dig [(0 : Nat)] l518, AV.num IntKind.i64 n519,
  AV.bool b520, AV.dig [(0 : Nat)] l521, AV.num IntKind.i64 n522])
  else
  (Dy.mid (Dy.Dyd.mk b418 l419 n420) ∧
  Dy.mid (Dy.Dyd.mk b415 l416 n417) ∧ (1 : Int) ≤ n ∧ n ≤ (8192 : Int)) ∧
  dyF (Dy.endD (Dy.Dyd.mk b418 l419 n420) n false) fun b523 l524 n525 =>
  dyF (Dy.endD (Dy.Dyd.mk b415 l416 n417) n true) fun b526 l527 n528 =>
  Q
  (AV.agg
  [AV.bool b523, AV.dig [(0 : Nat)] l524, AV.num IntKind.i64 n525,
  AV.bool b526, AV.dig [(0 : Nat)] l527, AV.num IntKind.i64 n528])
  else
  (Dy.mayD (Dy.Dyd.mk b415 l416 n417) = true ∧
  Dy.mayD (Dy.Dyd.mk b418 l419 n420) = true) ∧
  bif
  decide
  (Dy.cmpD (Dy.Dyd.mk b415 l416 n417) (Dy.Dyd.mk b418 l419 n420) <
  (0 : Int)) then
  (Dy.mid (Dy.Dyd.mk b415 l416 n417) ∧
  Dy.mid (Dy.Dyd.mk b418 l419 n420) ∧ (1 : Int) ≤ n ∧ n ≤ (8192 : Int)) ∧
  dyF (Dy.endD (Dy.Dyd.mk b415 l416 n417) n false) fun b529 l530 n531 =>
  dyF (Dy.endD (Dy.Dyd.mk b418 l419 n420) n true) fun b532 l533 n534 =>
  Q
  (AV.agg
  [AV.bool b529, AV.dig [(0 : Nat)] l530, AV.num IntKind.i64 n531,
  AV.bool b532, AV.dig [(0 : Nat)] l533, AV.num IntKind.i64 n534])
  else
  (Dy.mid (Dy.Dyd.mk b415 l416 n417) ∧
  Dy.mid (Dy.Dyd.mk b415 l416 n417) ∧ (1 : Int) ≤ n ∧ n ≤ (8192 : Int)) ∧
  dyF (Dy.endD (Dy.Dyd.mk b415 l416 n417) n false) fun b535 l536 n537 =>
  dyF (Dy.endD (Dy.Dyd.mk b415 l416 n417) n true) fun b538 l539 n540 =>
  Q
  (AV.agg
  [AV.bool b535, AV.dig [(0 : Nat)] l536, AV.num IntKind.i64 n537,
  AV.bool b538, AV.dig [(0 : Nat)] l539, AV.num IntKind.i64 n540])
  else
  (Dy.mayD (Dy.Dyd.mk b418 l419 n420) = true ∧
  Dy.mayD (Dy.Dyd.mk b415 l416 n417) = true) ∧
  bif
  decide
  (Dy.cmpD (Dy.Dyd.mk b418 l419 n420) (Dy.Dyd.mk b415 l416 n417) <
  (0 : Int)) then
  (Dy.mayD (Dy.Dyd.mk b409 l410 n411) = true ∧
  Dy.mayD (Dy.Dyd.mk b418 l419 n420) = true) ∧
  bif
  decide
  (Dy.cmpD (Dy.Dyd.mk b409 l410 n411) (Dy.Dyd.mk b418 l419 n420) <
  (0 : Int)) then
  (Dy.mid (Dy.Dyd.mk b418 l419 n420) ∧
  Dy.mid (Dy.Dyd.mk b418 l419 n420) ∧ (1 : Int) ≤ n ∧ n ≤ (8192 : Int)) ∧
  dyF (Dy.endD (Dy.Dyd.mk b418 l419 n420) n false) fun b541 l542 n543 =>
  dyF (Dy.endD (Dy.Dyd.mk b418 l419 n420) n true) fun b544 l545 n546 =>
  Q
  (AV.agg
  [AV.bool b541, AV.dig [(0 : Nat)] l542, AV.num IntKind.i64 n543,
  AV.bool b544, AV.dig [(0 : Nat)] l545, AV.num IntKind.i64 n546])
  else
  (Dy.mid (Dy.Dyd.mk b418 l419 n420) ∧
  Dy.mid (Dy.Dyd.mk b409 l410 n411) ∧ (1 : Int) ≤ n ∧ n ≤ (8192 : Int)) ∧
  dyF (Dy.endD (Dy.Dyd.mk b418 l419 n420) n false) fun b547 l548 n549 =>
  dyF (Dy.endD (Dy.Dyd.mk b409 l410 n411) n true) fun b550 l551 n552 =>
  Q
  (AV.agg
  [AV.bool b547, AV.dig [(0 : Nat)] l548, AV.num IntKind.i64 n549,
  AV.bool b550, AV.dig [(0 : Nat)] l551, AV.num IntKind.i64 n552])
  else
  (Dy.mayD (Dy.Dyd.mk b409 l410 n411) = true ∧
  Dy.mayD (Dy.Dyd.mk b418 l419 n420) = true) ∧
  bif
  decide
  (Dy.cmpD (Dy.Dyd.mk b409 l410 n411) (Dy.Dyd.mk b418 l419 n420) <
  (0 : Int)) then
  (Dy.mid (Dy.Dyd.mk b415 l416 n417) ∧
  Dy.mid (Dy.Dyd.mk b418 l419 n420) ∧ (1 : Int) ≤ n ∧ n ≤ (8192 : Int)) ∧
  dyF (Dy.endD (Dy.Dyd.mk b415 l416 n417) n false) fun b553 l554 n555 =>
  dyF (Dy.endD (Dy.Dyd.mk b418 l419 n420) n true) fun b556 l557 n558 =>
  Q
  (AV.agg
  [AV.bool b553, AV.dig [(0 : Nat)] l554, AV.num IntKind.i64 n555,
  AV.bool b556, AV.dig [(0 : Nat)] l557, AV.num IntKind.i64 n558])
  else
  (Dy.mid (Dy.Dyd.mk b415 l416 n417) ∧
  Dy.mid (Dy.Dyd.mk b409 l410 n411) ∧ (1 : Int) ≤ n ∧ n ≤ (8192 : Int)) ∧
  dyF (Dy.endD (Dy.Dyd.mk b415 l416 n417) n false) fun b559 l560 n561 =>
  dyF (Dy.endD (Dy.Dyd.mk b409 l410 n411) n true) fun b562 l563 n564 =>
  Q
  (AV.agg
  [AV.bool b559, AV.dig [(0 : Nat)] l560, AV.num IntKind.i64 n561,
  AV.bool b562, AV.dig [(0 : Nat)] l563, AV.num IntKind.i64 n564])
  else
  (Dy.mayD (Dy.Dyd.mk b409 l410 n411) = true ∧ Dy.mayD (Dy.Dyd.mk b415 l416 n417) = true) ∧
  bif
  decide
  (Dy.cmpD (Dy.Dyd.mk b409 l410 n411) (Dy.Dyd.mk b415 l416 n417) < (0 : Int)) then
  (Dy.mayD (Dy.Dyd.mk b418 l419 n420) = true ∧
  Dy.mayD (Dy.Dyd.mk b412 l413 n414) = true) ∧
  bif
  decide
  (Dy.cmpD (Dy.Dyd.mk b418 l419 n420) (Dy.Dyd.mk b412 l413 n414) <
  (0 : Int)) then
  (Dy.mayD (Dy.Dyd.mk b415 l416 n417) = true ∧
  Dy.mayD (Dy.Dyd.mk b418 l419 n420) = true) ∧
  bif
  decide
  (Dy.cmpD (Dy.Dyd.mk b415 l416 n417) (Dy.Dyd.mk b418 l419 n420) <
  (0 : Int)) then
  (Dy.mid (Dy.Dyd.mk b418 l419 n420) ∧
  Dy.mid (Dy.Dyd.mk b418 l419 n420) ∧ (1 : Int) ≤ n ∧ n ≤ (8192 : Int)) ∧
  dyF (Dy.endD (Dy.Dyd.mk b418 l419 n420) n false) fun b565 l566 n567 =>
  dyF (Dy.endD (Dy.Dyd.mk b418 l419 n420) n true) fun b568 l569 n570 =>
  Q
  (AV.agg
  [AV.bool b565, AV.dig [(0 : Nat)] l566, AV.num IntKind.i64 n567,
  AV.bool b568, AV.dig [(0 : Nat)] l569, AV.num IntKind.i64 n570])
  else
  (Dy.mid (Dy.Dyd.mk b418 l419 n420) ∧
  Dy.mid (Dy.Dyd.mk b415 l416 n417) ∧ (1 : Int) ≤ n ∧ n ≤ (8192 : Int)) ∧
  dyF (Dy.endD (Dy.Dyd.mk b418 l419 n420) n false) fun b571 l572 n573 =>
  dyF (Dy.endD (Dy.Dyd.mk b415 l416 n417) n true) fun b574 l575 n576 =>
  Q
  (AV.agg
  [AV.bool b571, AV.dig [(0 : Nat)] l572, AV.num IntKind.i64 n573,
  AV.bool b574, AV.dig [(0 : Nat)] l575, AV.num IntKind.i64 n576])
  else
  (Dy.mayD (Dy.Dyd.mk b415 l416 n417) = true ∧
  Dy.mayD (Dy.Dyd.mk b418 l419 n420) = true) ∧
  bif
  decide
  (Dy.cmpD (Dy.Dyd.mk b415 l416 n417) (Dy.Dyd.mk b418 l419 n420) <
  (0 : Int)) then
  (Dy.mid (Dy.Dyd.mk b412 l413 n414) ∧
  Dy.mid (Dy.Dyd.mk b418 l419 n420) ∧ (1 : Int) ≤ n ∧ n ≤ (8192 : Int)) ∧
  dyF (Dy.endD (Dy.Dyd.mk b412 l413 n414) n false) fun b577 l578 n579 =>
  dyF (Dy.endD (Dy.Dyd.mk b418 l419 n420) n true) fun b580 l581 n582 =>
  Q
  (AV.agg
  [AV.bool b577, AV.dig [(0 : Nat)] l578, AV.num IntKind.i64 n579,
  AV.bool b580, AV.dig [(0 : Nat)] l581, AV.num IntKind.i64 n582])
  else
  (Dy.mid (Dy.Dyd.mk b412 l413 n414) ∧
  Dy.mid (Dy.Dyd.mk b415 l416 n417) ∧ (1 : Int) ≤ n ∧ n ≤ (8192 : Int)) ∧
  dyF (Dy.endD (Dy.Dyd.mk b412 l413 n414) n false) fun b583 l584 n585 =>
  dyF (Dy.endD (Dy.Dyd.mk b415 l416 n417) n true) fun b586 l587 n588 =>
  Q
  (AV.agg
  [AV.bool b583, AV.dig [(0 : Nat)] l584, AV.num IntKind.i64 n585,
  AV.bool b586, AV.dig [(0 : Nat)] l587, AV.num IntKind.i64 n588])
  else
  (Dy.mayD (Dy.Dyd.mk b418 l419 n420) = true ∧
  Dy.mayD (Dy.Dyd.mk b412 l413 n414) = true) ∧
  bif
  decide
  (Dy.cmpD (Dy.Dyd.mk b418 l419 n420) (Dy.Dyd.mk b412 l413 n414) <
  (0 : Int)) then
  (Dy.mayD (Dy.Dyd.mk b409 l410 n411) = true ∧
  Dy.mayD (Dy.Dyd.mk b418 l419 n420) = true) ∧
  bif
  decide
  (Dy.cmpD (Dy.Dyd.mk b409 l410 n411) (Dy.Dyd.mk b418 l419 n420) <
  (0 : Int)) then
  (Dy.mid (Dy.Dyd.mk b418 l419 n420) ∧
  Dy.mid (Dy.Dyd.mk b418 l419 n420) ∧ (1 : Int) ≤ n ∧ n ≤ (8192 : Int)) ∧
  dyF (Dy.endD (Dy.Dyd.mk b418 l419 n420) n false) fun b589 l590 n591 =>
  dyF (Dy.endD (Dy.Dyd.mk b418 l419 n420) n true) fun b592 l593 n594 =>
  Q
  (AV.agg
  [AV.bool b589, AV.dig [(0 : Nat)] l590, AV.num IntKind.i64 n591,
  AV.bool b592, AV.dig [(0 : Nat)] l593, AV.num IntKind.i64 n594])
  else
  (Dy.mid (Dy.Dyd.mk b418 l419 n420) ∧
  Dy.mid (Dy.Dyd.mk b409 l410 n411) ∧ (1 : Int) ≤ n ∧ n ≤ (8192 : Int)) ∧
  dyF (Dy.endD (Dy.Dyd.mk b418 l419 n420) n false) fun b595 l596 n597 =>
  dyF (Dy.endD (Dy.Dyd.mk b409 l410 n411) n true) fun b598 l599 n600 =>
  Q
  (AV.agg
  [AV.bool b595, AV.dig [(0 : Nat)] l596, AV.num IntKind.i64 n597,
  AV.bool b598, AV.dig [(0 : Nat)] l599, AV.num IntKind.i64 n600])
  else
  (Dy.mayD (Dy.Dyd.mk b409 l410 n411) = true ∧
  Dy.mayD (Dy.Dyd.mk b418 l419 n420) = true) ∧
  bif
  decide
  (Dy.cmpD (Dy.Dyd.mk b409 l410 n411) (Dy.Dyd.mk b418 l419 n420) <
  (0 : Int)) then
  (Dy.mid (Dy.Dyd.mk b412 l413 n414) ∧
  Dy.mid (Dy.Dyd.mk b418 l419 n420) ∧ (1 : Int) ≤ n ∧ n ≤ (8192 : Int)) ∧
  dyF (Dy.endD (Dy.Dyd.mk b412 l413 n414) n false) fun b601 l602 n603 =>
  dyF (Dy.endD (Dy.Dyd.mk b418 l419 n420) n true) fun b604 l605 n606 =>
  Q
  (AV.agg
  [AV.bool b601, AV.dig [(0 : Nat)] l602, AV.num IntKind.i64 n603,
  AV.bool b604, AV.dig [(0 : Nat)] l605, AV.num IntKind.i64 n606])
  else
  (Dy.mid (Dy.Dyd.mk b412 l413 n414) ∧
  Dy.mid (Dy.Dyd.mk b409 l410 n411) ∧ (1 : Int) ≤ n ∧ n ≤ (8192 : Int)) ∧
  dyF (Dy.endD (Dy.Dyd.mk b412 l413 n414) n false) fun b607 l608 n609 =>
  dyF (Dy.endD (Dy.Dyd.mk b409 l410 n411) n true) fun b610 l611 n612 =>
  Q
  (AV.agg
  [AV.bool b607, AV.dig [(0 : Nat)] l608, AV.num IntKind.i64 n609,
  AV.bool b610, AV.dig [(0 : Nat)] l611, AV.num IntKind.i64 n612])
  else
  (Dy.mayD (Dy.Dyd.mk b409 l410 n411) = true ∧ Dy.mayD (Dy.Dyd.mk b412 l413 n414) = true) ∧
  bif decide (Dy.cmpD (Dy.Dyd.mk b409 l410 n411) (Dy.Dyd.mk b412 l413 n414) < (0 : Int)) then
  (Dy.mayD (Dy.Dyd.mk b415 l416 n417) = true ∧ Dy.mayD (Dy.Dyd.mk b409 l410 n411) = true) ∧
  bif decide (Dy.cmpD (Dy.Dyd.mk b415 l416 n417) (Dy.Dyd.mk b409 l410 n411) < (0 : Int)) then
  (Dy.mayD (Dy.Dyd.mk b412 l413 n414) = true ∧ Dy.mayD (Dy.Dyd.mk b415 l416 n417) = true) ∧
  bif
  decide
  (Dy.cmpD (Dy.Dyd.mk b412 l413 n414) (Dy.Dyd.mk b415 l416 n417) < (0 : Int)) then
  (Dy.mayD (Dy.Dyd.mk b418 l419 n420) = true ∧
  Dy.mayD (Dy.Dyd.mk b415 l416 n417) = true) ∧
  bif
  decide
  (Dy.cmpD (Dy.Dyd.mk b418 l419 n420) (Dy.Dyd.mk b415 l416 n417) <
  (0 : Int)) then
  (Dy.mayD (Dy.Dyd.mk b415 l416 n417) = true ∧
  Dy.mayD (Dy.Dyd.mk b418 l419 n420) = true) ∧
  bif
  decide
  (Dy.cmpD (Dy.Dyd.mk b415 l416 n417) (Dy.Dyd.mk b418 l419 n420) <
  (0 : Int)) then
  (Dy.mid (Dy.Dyd.mk b418 l419 n420) ∧
  Dy.mid (Dy.Dyd.mk b418 l419 n420) ∧ (1 : Int) ≤ n ∧ n ≤ (8192 : Int)) ∧
  dyF (Dy.endD (Dy.Dyd.mk b418 l419 n420) n false) fun b613 l614 n615 =>
  dyF (Dy.endD (Dy.Dyd.mk b418 l419 n420) n true) fun b616 l617 n618 =>
  Q
  (AV.agg
  [AV.bool b613, AV.dig [(0 : Nat)] l614, AV.num IntKind.i64 n615,
  AV.bool b616, AV.dig [(0 : Nat)] l617, AV.num IntKind.i64 n618])
  else
  (Dy.mid (Dy.Dyd.mk b418 l419 n420) ∧
  Dy.mid (Dy.Dyd.mk b415 l416 n417) ∧ (1 : Int) ≤ n ∧ n ≤ (8192 : Int)) ∧
  dyF (Dy.endD (Dy.Dyd.mk b418 l419 n420) n false) fun b619 l620 n621 =>
  dyF (Dy.endD (Dy.Dyd.mk b415 l416 n417) n true) fun b622 l623 n624 =>
  Q
  (AV.agg
  [AV.bool b619, AV.dig [(0 : Nat)] l620, AV.num IntKind.i64 n621,
  AV.bool b622, AV.dig [(0 : Nat)] l623, AV.num IntKind.i64 n624])
  else
  (Dy.mayD (Dy.Dyd.mk b415 l416 n417) = true ∧
  Dy.mayD (Dy.Dyd.mk b418 l419 n420) = true) ∧
  bif
  decide
  (Dy.cmpD (Dy.Dyd.mk b415 l416 n417) (Dy.Dyd.mk b418 l419 n420) <
  (0 : Int)) then
  (Dy.mid (Dy.Dyd.mk b415 l416 n417) ∧
  Dy.mid (Dy.Dyd.mk b418 l419 n420) ∧ (1 : Int) ≤ n ∧ n ≤ (8192 : Int)) ∧
  dyF (Dy.endD (Dy.Dyd.mk b415 l416 n417) n false) fun b625 l626 n627 =>
  dyF (Dy.endD (Dy.Dyd.mk b418 l419 n420) n true) fun b628 l629 n630 =>
  Q
  (AV.agg
  [AV.bool b625, AV.dig [(0 : Nat)] l626, AV.num IntKind.i64 n627,
  AV.bool b628, AV.dig [(0 : Nat)] l629, AV.num IntKind.i64 n630])
  else
  (Dy.mid (Dy.Dyd.mk b415 l416 n417) ∧
  Dy.mid (Dy.Dyd.mk b415 l416 n417) ∧ (1 : Int) ≤ n ∧ n ≤ (8192 : Int)) ∧
  dyF (Dy.endD (Dy.Dyd.mk b415 l416 n417) n false) fun b631 l632 n633 =>
  dyF (Dy.endD (Dy.Dyd.mk b415 l416 n417) n true) fun b634 l635 n636 =>
  Q
  (AV.agg
  [AV.bool b631, AV.dig [(0 : Nat)] l632, AV.num IntKind.i64 n633,
  AV.bool b634, AV.dig [(0 : Nat)] l635, AV.num IntKind.i64 n636])
  else
  (Dy.mayD (Dy.Dyd.mk b418 l419 n420) = true ∧
  Dy.mayD (Dy.Dyd.mk b415 l416 n417) = true) ∧
  bif
  decide
  (Dy.cmpD (Dy.Dyd.mk b418 l419 n420) (Dy.Dyd.mk b415 l416 n417) <
  (0 : Int)) then
  (Dy.mayD (Dy.Dyd.mk b412 l413 n414) = true ∧
  Dy.mayD (Dy.Dyd.mk b418 l419 n420) = true) ∧
  bif
  decide
  (Dy.cmpD (Dy.Dyd.mk b412 l413 n414) (Dy.Dyd.mk b418 l419 n420) <
  (0 : Int)) then
  (Dy.mid (Dy.Dyd.mk b418 l419 n420) ∧
  Dy.mid (Dy.Dyd.mk b418 l419 n420) ∧ (1 : Int) ≤ n ∧ n ≤ (8192 : Int)) ∧
  dyF (Dy.endD (Dy.Dyd.mk b418 l419 n420) n false) fun b637 l638 n639 =>
  dyF (Dy.endD (Dy.Dyd.mk b418 l419 n420) n true) fun b640 l641 n642 =>
  Q
  (AV.agg
  [AV.bool b637, AV.dig [(0 : Nat)] l638, AV.num IntKind.i64 n639,
  AV.bool b640, AV.dig [(0 : Nat)] l641, AV.num IntKind.i64 n642])
  else
  (Dy.mid (Dy.Dyd.mk b418 l419 n420) ∧
  Dy.mid (Dy.Dyd.mk b412 l413 n414) ∧ (1 : Int) ≤ n ∧ n ≤ (8192 : Int)) ∧
  dyF (Dy.endD (Dy.Dyd.mk b418 l419 n420) n false) fun b643 l644 n645 =>
  dyF (Dy.endD (Dy.Dyd.mk b412 l413 n414) n true) fun b646 l647 n648 =>
  Q
  (AV.agg
  [AV.bool b643, AV.dig [(0 : Nat)] l644, AV.num IntKind.i64 n645,
  AV.bool b646, AV.dig [(0 : Nat)] l647, AV.num IntKind.i64 n648])
  else
  (Dy.mayD (Dy.Dyd.mk b412 l413 n414) = true ∧
  Dy.mayD (Dy.Dyd.mk b418 l419 n420) = true) ∧
  bif
  decide
  (Dy.cmpD (Dy.Dyd.mk b412 l413 n414) (Dy.Dyd.mk b418 l419 n420) <
  (0 : Int)) then
  (Dy.mid (Dy.Dyd.mk b415 l416 n417) ∧
  Dy.mid (Dy.Dyd.mk b418 l419 n420) ∧ (1 : Int) ≤ n ∧ n ≤ (8192 : Int)) ∧
  dyF (Dy.endD (Dy.Dyd.mk b415 l416 n417) n false) fun b649 l650 n651 =>
  dyF (Dy.endD (Dy.Dyd.mk b418 l419 n420) n true) fun b652 l653 n654 =>
  Q
  (AV.agg
  [AV.bool b649, AV.dig [(0 : Nat)] l650, AV.num IntKind.i64 n651,
  AV.bool b652, AV.dig [(0 : Nat)] l653, AV.num IntKind.i64 n654])
  else
  (Dy.mid (Dy.Dyd.mk b415 l416 n417) ∧
  Dy.mid (Dy.Dyd.mk b412 l413 n414) ∧ (1 : Int) ≤ n ∧ n ≤ (8192 : Int)) ∧
  dyF (Dy.endD (Dy.Dyd.mk b415 l416 n417) n false) fun b655 l656 n657 =>
  dyF (Dy.endD (Dy.Dyd.mk b412 l413 n414) n true) fun b658 l659 n660 =>
  Q
  (AV.agg
  [AV.bool b655, AV.dig [(0 : Nat)] l656, AV.num IntKind.i64 n657,
  AV.bool b658, AV.dig [(0 : Nat)] l659, AV.num IntKind.i64 n660])
  else
  (Dy.mayD (Dy.Dyd.mk b412 l413 n414) = true ∧ Dy.mayD (Dy.Dyd.mk b415 l416 n417) = true) ∧
  bif
  decide
  (Dy.cmpD (Dy.Dyd.mk b412 l413 n414) (Dy.Dyd.mk b415 l416 n417) < (0 : Int)) then
  (Dy.mayD (Dy.Dyd.mk b418 l419 n420) = true ∧
  Dy.mayD (Dy.Dyd.mk b409 l410 n411) = true) ∧
  bif
  decide
  (Dy.cmpD (Dy.Dyd.mk b418 l419 n420) (Dy.Dyd.mk b409 l410 n411) <
  (0 : Int)) then
  (Dy.mayD (Dy.Dyd.mk b415 l416 n417) = true ∧
  Dy.mayD (Dy.Dyd.mk b418 l419 n420) = true) ∧
  bif
  decide
  (Dy.cmpD (Dy.Dyd.mk b415 l416 n417) (Dy.Dyd.mk b418 l419 n420) <
  (0 : Int)) then
  (Dy.mid (Dy.Dyd.mk b418 l419 n420) ∧
  Dy.mid (Dy.Dyd.mk b418 l419 n420) ∧ (1 : Int) ≤ n ∧ n ≤ (8192 : Int)) ∧
  dyF (Dy.endD (Dy.Dyd.mk b418 l419 n420) n false) fun b661 l662 n663 =>
  dyF (Dy.endD (Dy.Dyd.mk b418 l419 n420) n true) fun b664 l665 n666 =>
  Q
  (AV.agg
  [AV.bool b661, AV.dig [(0 : Nat)] l662, AV.num IntKind.i64 n663,
  AV.bool b664, AV.dig [(0 : Nat)] l665, AV.num IntKind.i64 n666])
  else
  (Dy.mid (Dy.Dyd.mk b418 l419 n420) ∧
  Dy.mid (Dy.Dyd.mk b415 l416 n417) ∧ (1 : Int) ≤ n ∧ n ≤ (8192 : Int)) ∧
  dyF (Dy.endD (Dy.Dyd.mk b418 l419 n420) n false) fun b667 l668 n669 =>
  dyF (Dy.endD (Dy.Dyd.mk b415 l416 n417) n true) fun b670 l671 n672 =>
  Q
  (AV.agg
  [AV.bool b667, AV.dig [(0 : Nat)] l668, AV.num IntKind.i64 n669,
  AV.bool b670, AV.dig [(0 : Nat)] l671, AV.num IntKind.i64 n672])
  else
  (Dy.mayD (Dy.Dyd.mk b415 l416 n417) = true ∧
  Dy.mayD (Dy.Dyd.mk b418 l419 n420) = true) ∧
  bif
  decide
  (Dy.cmpD (Dy.Dyd.mk b415 l416 n417) (Dy.Dyd.mk b418 l419 n420) <
  (0 : Int)) then
  (Dy.mid (Dy.Dyd.mk b409 l410 n411) ∧
  Dy.mid (Dy.Dyd.mk b418 l419 n420) ∧ (1 : Int) ≤ n ∧ n ≤ (8192 : Int)) ∧
  dyF (Dy.endD (Dy.Dyd.mk b409 l410 n411) n false) fun b673 l674 n675 =>
  dyF (Dy.endD (Dy.Dyd.mk b418 l419 n420) n true) fun b676 l677 n678 =>
  Q
  (AV.agg
  [AV.bool b673, AV.dig [(0 : Nat)] l674, AV.num IntKind.i64 n675,
  AV.bool b676, AV.dig [(0 : Nat)] l677, AV.num IntKind.i64 n678])
  else
  (Dy.mid (Dy.Dyd.mk b409 l410 n411) ∧
  Dy.mid (Dy.Dyd.mk b415 l416 n417) ∧ (1 : Int) ≤ n ∧ n ≤ (8192 : Int)) ∧
  dyF (Dy.endD (Dy.Dyd.mk b409 l410 n411) n false) fun b679 l680 n681 =>
  dyF (Dy.endD (Dy.Dyd.mk b415 l416 n417) n true) fun b682 l683 n684 =>
  Q
  (AV.agg
  [AV.bool b679, AV.dig [(0 : Nat)] l680, AV.num IntKind.i64 n681,
  AV.bool b682, AV.dig [(0 : Nat)] l683, AV.num IntKind.i64 n684])
  else
  (Dy.mayD (Dy.Dyd.mk b418 l419 n420) = true ∧
  Dy.mayD (Dy.Dyd.mk b409 l410 n411) = true) ∧
  bif
  decide
  (Dy.cmpD (Dy.Dyd.mk b418 l419 n420) (Dy.Dyd.mk b409 l410 n411) <
  (0 : Int)) then
  (Dy.mayD (Dy.Dyd.mk b412 l413 n414) = true ∧
  Dy.mayD (Dy.Dyd.mk b418 l419 n420) = true) ∧
  bif
  decide
  (Dy.cmpD (Dy.Dyd.mk b412 l413 n414) (Dy.Dyd.mk b418 l419 n420) <
  (0 : Int)) then
  (Dy.mid (Dy.Dyd.mk b418 l419 n420) ∧
  Dy.mid (Dy.Dyd.mk b418 l419 n420) ∧ (1 : Int) ≤ n ∧ n ≤ (8192 : Int)) ∧
  dyF (Dy.endD (Dy.Dyd.mk b418 l419 n420) n false) fun b685 l686 n687 =>
  dyF (Dy.endD (Dy.Dyd.mk b418 l419 n420) n true) fun b688 l689 n690 =>
  Q
  (AV.agg
  [AV.bool b685, AV.dig [(0 : Nat)] l686, AV.num IntKind.i64 n687,
  AV.bool b688, AV.dig [(0 : Nat)] l689, AV.num IntKind.i64 n690])
  else
  (Dy.mid (Dy.Dyd.mk b418 l419 n420) ∧
  Dy.mid (Dy.Dyd.mk b412 l413 n414) ∧ (1 : Int) ≤ n ∧ n ≤ (8192 : Int)) ∧
  dyF (Dy.endD (Dy.Dyd.mk b418 l419 n420) n false) fun b691 l692 n693 =>
  dyF (Dy.endD (Dy.Dyd.mk b412 l413 n414) n true) fun b694 l695 n696 =>
  Q
  (AV.agg
  [AV.bool b691, AV.dig [(0 : Nat)] l692, AV.num IntKind.i64 n693,
  AV.bool b694, AV.dig [(0 : Nat)] l695, AV.num IntKind.i64 n696])
  else
  (Dy.mayD (Dy.Dyd.mk b412 l413 n414) = true ∧
  Dy.mayD (Dy.Dyd.mk b418 l419 n420) = true) ∧
  bif
  decide
  (Dy.cmpD (Dy.Dyd.mk b412 l413 n414) (Dy.Dyd.mk b418 l419 n420) <
  (0 : Int)) then
  (Dy.mid (Dy.Dyd.mk b409 l410 n411) ∧
  Dy.mid (Dy.Dyd.mk b418 l419 n420) ∧ (1 : Int) ≤ n ∧ n ≤ (8192 : Int)) ∧
  dyF (Dy.endD (Dy.Dyd.mk b409 l410 n411) n false) fun b697 l698 n699 =>
  dyF (Dy.endD (Dy.Dyd.mk b418 l419 n420) n true) fun b700 l701 n702 =>
  Q
  (AV.agg
  [AV.bool b697, AV.dig [(0 : Nat)] l698, AV.num IntKind.i64 n699,
  AV.bool b700, AV.dig [(0 : Nat)] l701, AV.num IntKind.i64 n702])
  else
  (Dy.mid (Dy.Dyd.mk b409 l410 n411) ∧
  Dy.mid (Dy.Dyd.mk b412 l413 n414) ∧ (1 : Int) ≤ n ∧ n ≤ (8192 : Int)) ∧
  dyF (Dy.endD (Dy.Dyd.mk b409 l410 n411) n false) fun b703 l704 n705 =>
  dyF (Dy.endD (Dy.Dyd.mk b412 l413 n414) n true) fun b706 l707 n708 =>
  Q
  (AV.agg
  [AV.bool b703, AV.dig [(0 : Nat)] l704, AV.num IntKind.i64 n705,
  AV.bool b706, AV.dig [(0 : Nat)] l707, AV.num IntKind.i64 n708])
  else
  (Dy.mayD (Dy.Dyd.mk b415 l416 n417) = true ∧ Dy.mayD (Dy.Dyd.mk b409 l410 n411) = true) ∧
  bif decide (Dy.cmpD (Dy.Dyd.mk b415 l416 n417) (Dy.Dyd.mk b409 l410 n411) < (0 : Int)) then
  (Dy.mayD (Dy.Dyd.mk b409 l410 n411) = true ∧ Dy.mayD (Dy.Dyd.mk b415 l416 n417) = true) ∧
  bif
  decide
  (Dy.cmpD (Dy.Dyd.mk b409 l410 n411) (Dy.Dyd.mk b415 l416 n417) < (0 : Int)) then
  (Dy.mayD (Dy.Dyd.mk b418 l419 n420) = true ∧
  Dy.mayD (Dy.Dyd.mk b415 l416 n417) = true) ∧
  bif
  decide
  (Dy.cmpD (Dy.Dyd.mk b418 l419 n420) (Dy.Dyd.mk b415 l416 n417) <
  (0 : Int)) then
  (Dy.mayD (Dy.Dyd.mk b415 l416 n417) = true ∧
  Dy.mayD (Dy.Dyd.mk b418 l419 n420) = true) ∧
  bif
  decide
  (Dy.cmpD (Dy.Dyd.mk b415 l416 n417) (Dy.Dyd.mk b418 l419 n420) <
  (0 : Int)) then
  (Dy.mid (Dy.Dyd.mk b418 l419 n420) ∧
  Dy.mid (Dy.Dyd.mk b418 l419 n420) ∧ (1 : Int) ≤ n ∧ n ≤ (8192 : Int)) ∧
  dyF (Dy.endD (Dy.Dyd.mk b418 l419 n420) n false) fun b709 l710 n711 =>
  dyF (Dy.endD (Dy.Dyd.mk b418 l419 n420) n true) fun b712 l713 n714 =>
  Q
  (AV.agg
  [AV.bool b709, AV.dig [(0 : Nat)] l710, AV.num IntKind.i64 n711,
  AV.bool b712, AV.dig [(0 : Nat)] l713, AV.num IntKind.i64 n714])
  else
  (Dy.mid (Dy.Dyd.mk b418 l419 n420) ∧
  Dy.mid (Dy.Dyd.mk b415 l416 n417) ∧ (1 : Int) ≤ n ∧ n ≤ (8192 : Int)) ∧
  dyF (Dy.endD (Dy.Dyd.mk b418 l419 n420) n false) fun b715 l716 n717 =>
  dyF (Dy.endD (Dy.Dyd.mk b415 l416 n417) n true) fun b718 l719 n720 =>
  Q
  (AV.agg
  [AV.bool b715, AV.dig [(0 : Nat)] l716, AV.num IntKind.i64 n717,
  AV.bool b718, AV.dig [(0 : Nat)] l719, AV.num IntKind.i64 n720])
  else
  (Dy.mayD (Dy.Dyd.mk b415 l416 n417) = true ∧
  Dy.mayD (Dy.Dyd.mk b418 l419 n420) = true) ∧
  bif
  decide
  (Dy.cmpD (Dy.Dyd.mk b415 l416 n417) (Dy.Dyd.mk b418 l419 n420) <
  (0 : Int)) then
  (Dy.mid (Dy.Dyd.mk b415 l416 n417) ∧
  Dy.mid (Dy.Dyd.mk b418 l419 n420) ∧ (1 : Int) ≤ n ∧ n ≤ (8192 : Int)) ∧
  dyF (Dy.endD (Dy.Dyd.mk b415 l416 n417) n false) fun b721 l722 n723 =>
  dyF (Dy.endD (Dy.Dyd.mk b418 l419 n420) n true) fun b724 l725 n726 =>
  Q
  (AV.agg
  [AV.bool b721, AV.dig [(0 : Nat)] l722, AV.num IntKind.i64 n723,
  AV.bool b724, AV.dig [(0 : Nat)] l725, AV.num IntKind.i64 n726])
  else
  (Dy.mid (Dy.Dyd.mk b415 l416 n417) ∧
  Dy.mid (Dy.Dyd.mk b415 l416 n417) ∧ (1 : Int) ≤ n ∧ n ≤ (8192 : Int)) ∧
  dyF (Dy.endD (Dy.Dyd.mk b415 l416 n417) n false) fun b727 l728 n729 =>
  dyF (Dy.endD (Dy.Dyd.mk b415 l416 n417) n true) fun b730 l731 n732 =>
  Q
  (AV.agg
  [AV.bool b727, AV.dig [(0 : Nat)] l728, AV.num IntKind.i64 n729,
  AV.bool b730, AV.dig [(0 : Nat)] l731, AV.num IntKind.i64 n732])
  else
  (Dy.mayD (Dy.Dyd.mk b418 l419 n420) = true ∧
  Dy.mayD (Dy.Dyd.mk b415 l416 n417) = true) ∧
  bif
  decide
  (Dy.cmpD (Dy.Dyd.mk b418 l419 n420) (Dy.Dyd.mk b415 l416 n417) <
  (0 : Int)) then
  (Dy.mayD (Dy.Dyd.mk b409 l410 n411) = true ∧
  Dy.mayD (Dy.Dyd.mk b418 l419 n420) = true) ∧
  bif
  decide
  (Dy.cmpD (Dy.Dyd.mk b409 l410 n411) (Dy.Dyd.mk b418 l419 n420) <
  (0 : Int)) then
  (Dy.mid (Dy.Dyd.mk b418 l419 n420) ∧
  Dy.mid (Dy.Dyd.mk b418 l419 n420) ∧ (1 : Int) ≤ n ∧ n ≤ (8192 : Int)) ∧
  dyF (Dy.endD (Dy.Dyd.mk b418 l419 n420) n false) fun b733 l734 n735 =>
  dyF (Dy.endD (Dy.Dyd.mk b418 l419 n420) n true) fun b736 l737 n738 =>
  Q
  (AV.agg
  [AV.bool b733, AV.dig [(0 : Nat)] l734, AV.num IntKind.i64 n735,
  AV.bool b736, AV.dig [(0 : Nat)] l737, AV.num IntKind.i64 n738])
  else
  (Dy.mid (Dy.Dyd.mk b418 l419 n420) ∧
  Dy.mid (Dy.Dyd.mk b409 l410 n411) ∧ (1 : Int) ≤ n ∧ n ≤ (8192 : Int)) ∧
  dyF (Dy.endD (Dy.Dyd.mk b418 l419 n420) n false) fun b739 l740 n741 =>
  dyF (Dy.endD (Dy.Dyd.mk b409 l410 n411) n true) fun b742 l743 n744 =>
  Q
  (AV.agg
  [AV.bool b739, AV.dig [(0 : Nat)] l740, AV.num IntKind.i64 n741,
  AV.bool b742, AV.dig [(0 : Nat)] l743, AV.num IntKind.i64 n744])
  else
  (Dy.mayD (Dy.Dyd.mk b409 l410 n411) = true ∧
  Dy.mayD (Dy.Dyd.mk b418 l419 n420) = true) ∧
  bif
  decide
  (Dy.cmpD (Dy.Dyd.mk b409 l410 n411) (Dy.Dyd.mk b418 l419 n420) <
  (0 : Int)) then
  (Dy.mid (Dy.Dyd.mk b415 l416 n417) ∧
  Dy.mid (Dy.Dyd.mk b418 l419 n420) ∧ (1 : Int) ≤ n ∧ n ≤ (8192 : Int)) ∧
  dyF (Dy.endD (Dy.Dyd.mk b415 l416 n417) n false) fun b745 l746 n747 =>
  dyF (Dy.endD (Dy.Dyd.mk b418 l419 n420) n true) fun b748 l749 n750 =>
  Q
  (AV.agg
  [AV.bool b745, AV.dig [(0 : Nat)] l746, AV.num IntKind.i64 n747,
  AV.bool b748, AV.dig [(0 : Nat)] l749, AV.num IntKind.i64 n750])
  else
  (Dy.mid (Dy.Dyd.mk b415 l416 n417) ∧
  Dy.mid (Dy.Dyd.mk b409 l410 n411) ∧ (1 : Int) ≤ n ∧ n ≤ (8192 : Int)) ∧
  dyF (Dy.endD (Dy.Dyd.mk b415 l416 n417) n false) fun b751 l752 n753 =>
  dyF (Dy.endD (Dy.Dyd.mk b409 l410 n411) n true) fun b754 l755 n756 =>
  Q
  (AV.agg
  [AV.bool b751, AV.dig [(0 : Nat)] l752, AV.num IntKind.i64 n753,
  AV.bool b754, AV.dig [(0 : Nat)] l755, AV.num IntKind.i64 n756])
  else
  (Dy.mayD (Dy.Dyd.mk b409 l410 n411) = true ∧ Dy.mayD (Dy.Dyd.mk b415 l416 n417) = true) ∧
  bif
  decide
  (Dy.cmpD (Dy.Dyd.mk b409 l410 n411) (Dy.Dyd.mk b415 l416 n417) < (0 : Int)) then
  (Dy.mayD (Dy.Dyd.mk b418 l419 n420) = true ∧
  Dy.mayD (Dy.Dyd.mk b409 l410 n411) = true) ∧
  bif
  decide
  (Dy.cmpD (Dy.Dyd.mk b418 l419 n420) (Dy.Dyd.mk b409 l410 n411) <
  (0 : Int)) then
  (Dy.mayD (Dy.Dyd.mk b415 l416 n417) = true ∧
  Dy.mayD (Dy.Dyd.mk b418 l419 n420) = true) ∧
  bif
  decide
  (Dy.cmpD (Dy.Dyd.mk b415 l416 n417) (Dy.Dyd.mk b418 l419 n420) <
  (0 : Int)) then
  (Dy.mid (Dy.Dyd.mk b418 l419 n420) ∧
  Dy.mid (Dy.Dyd.mk b418 l419 n420) ∧ (1 : Int) ≤ n ∧ n ≤ (8192 : Int)) ∧
  dyF (Dy.endD (Dy.Dyd.mk b418 l419 n420) n false) fun b757 l758 n759 =>
  dyF (Dy.endD (Dy.Dyd.mk b418 l419 n420) n true) fun b760 l761 n762 =>
  Q
  (AV.agg
  [AV.bool b757, AV.dig [(0 : Nat)] l758, AV.num IntKind.i64 n759,
  AV.bool b760, AV.dig [(0 : Nat)] l761, AV.num IntKind.i64 n762])
  else
  (Dy.mid (Dy.Dyd.mk b418 l419 n420) ∧
  Dy.mid (Dy.Dyd.mk b415 l416 n417) ∧ (1 : Int) ≤ n ∧ n ≤ (8192 : Int)) ∧
  dyF (Dy.endD (Dy.Dyd.mk b418 l419 n420) n false) fun b763 l764 n765 =>
  dyF (Dy.endD (Dy.Dyd.mk b415 l416 n417) n true) fun b766 l767 n768 =>
  Q
  (AV.agg
  [AV.bool b763, AV.dig [(0 : Nat)] l764, AV.num IntKind.i64 n765,
  AV.bool b766, AV.dig [(0 : Nat)] l767, AV.num IntKind.i64 n768])
  else
  (Dy.mayD (Dy.Dyd.mk b415 l416 n417) = true ∧
  Dy.mayD (Dy.Dyd.mk b418 l419 n420) = true) ∧
  bif
  decide
  (Dy.cmpD (Dy.Dyd.mk b415 l416 n417) (Dy.Dyd.mk b418 l419 n420) <
  (0 : Int)) then
  (Dy.mid (Dy.Dyd.mk b409 l410 n411) ∧
  Dy.mid (Dy.Dyd.mk b418 l419 n420) ∧ (1 : Int) ≤ n ∧ n ≤ (8192 : Int)) ∧
  dyF (Dy.endD (Dy.Dyd.mk b409 l410 n411) n false) fun b769 l770 n771 =>
  dyF (Dy.endD (Dy.Dyd.mk b418 l419 n420) n true) fun b772 l773 n774 =>
  Q
  (AV.agg
  [AV.bool b769, AV.dig [(0 : Nat)] l770, AV.num IntKind.i64 n771,
  AV.bool b772, AV.dig [(0 : Nat)] l773, AV.num IntKind.i64 n774])
  else
  (Dy.mid (Dy.Dyd.mk b409 l410 n411) ∧
  Dy.mid (Dy.Dyd.mk b415 l416 n417) ∧ (1 : Int) ≤ n ∧ n ≤ (8192 : Int)) ∧
  dyF (Dy.endD (Dy.Dyd.mk b409 l410 n411) n false) fun b775 l776 n777 =>
  dyF (Dy.endD (Dy.Dyd.mk b415 l416 n417) n true) fun b778 l779 n780 =>
  Q
  (AV.agg
  [AV.bool b775, AV.dig [(0 : Nat)] l776, AV.num IntKind.i64 n777,
  AV.bool b778, AV.dig [(0 : Nat)] l779, AV.num IntKind.i64 n780])
  else
  (Dy.mayD (Dy.Dyd.mk b418 l419 n420) = true ∧
  Dy.mayD (Dy.Dyd.mk b409 l410 n411) = true) ∧
  bif
  decide
  (Dy.cmpD (Dy.Dyd.mk b418 l419 n420) (Dy.Dyd.mk b409 l410 n411) <
  (0 : Int)) then
  (Dy.mayD (Dy.Dyd.mk b409 l410 n411) = true ∧
  Dy.mayD (Dy.Dyd.mk b418 l419 n420) = true) ∧
  bif
  decide
  (Dy.cmpD (Dy.Dyd.mk b409 l410 n411) (Dy.Dyd.mk b418 l419 n420) <
  (0 : Int)) then
  (Dy.mid (Dy.Dyd.mk b418 l419 n420) ∧
  Dy.mid (Dy.Dyd.mk b418 l419 n420) ∧ (1 : Int) ≤ n ∧ n ≤ (8192 : Int)) ∧
  dyF (Dy.endD (Dy.Dyd.mk b418 l419 n420) n false) fun b781 l782 n783 =>
  dyF (Dy.endD (Dy.Dyd.mk b418 l419 n420) n true) fun b784 l785 n786 =>
  Q
  (AV.agg
  [AV.bool b781, AV.dig [(0 : Nat)] l782, AV.num IntKind.i64 n783,
  AV.bool b784, AV.dig [(0 : Nat)] l785, AV.num IntKind.i64 n786])
  else
  (Dy.mid (Dy.Dyd.mk b418 l419 n420) ∧
  Dy.mid (Dy.Dyd.mk b409 l410 n411) ∧ (1 : Int) ≤ n ∧ n ≤ (8192 : Int)) ∧
  dyF (Dy.endD (Dy.Dyd.mk b418 l419 n420) n false) fun b787 l788 n789 =>
  dyF (Dy.endD (Dy.Dyd.mk b409 l410 n411) n true) fun b790 l791 n792 =>
  Q
  (AV.agg
  [AV.bool b787, AV.dig [(0 : Nat)] l788, AV.num IntKind.i64 n789,
  AV.bool b790, AV.dig [(0 : Nat)] l791, AV.num IntKind.i64 n792])
  else
  (Dy.mayD (Dy.Dyd.mk b409 l410 n411) = true ∧
  Dy.mayD (Dy.Dyd.mk b418 l419 n420) = true) ∧
  bif
  decide
  (Dy.cmpD (Dy.Dyd.mk b409 l410 n411) (Dy.Dyd.mk b418 l419 n420) <
  (0 : Int)) then
  (Dy.mid (Dy.Dyd.mk b409 l410 n411) ∧
  Dy.mid (Dy.Dyd.mk b418 l419 n420) ∧ (1 : Int) ≤ n ∧ n ≤ (8192 : Int)) ∧
  dyF (Dy.endD (Dy.Dyd.mk b409 l410 n411) n false) fun b793 l794 n795 =>
  dyF (Dy.endD (Dy.Dyd.mk b418 l419 n420) n true) fun b796 l797 n798 =>
  Q
  (AV.agg
  [AV.bool b793, AV.dig [(0 : Nat)] l794, AV.num IntKind.i64 n795,
  AV.bool b796, AV.dig [(0 : Nat)] l797, AV.num IntKind.i64 n798])
  else
  (Dy.mid (Dy.Dyd.mk b409 l410 n411) ∧
  Dy.mid (Dy.Dyd.mk b409 l410 n411) ∧ (1 : Int) ≤ n ∧ n ≤ (8192 : Int)) ∧
  dyF (Dy.endD (Dy.Dyd.mk b409 l410 n411) n false) fun b799 l800 n801 =>
  dyF (Dy.endD (Dy.Dyd.mk b409 l410 n411) n true) fun b802 l803 n804 =>
  Q
  (AV.agg
  [AV.bool b799, AV.dig [(0 : Nat)] l800, AV.num IntKind.i64 n801,
  AV.bool b802, AV.dig [(0 : Nat)] l803,
  AV.num IntKind.i64 n804])) := by kernel_rfl
theorem vc_span_Div (n : Int) (s : Bool) (s' : Bool) (t : Bool) (t' : Bool) (m : List
  Nat) (m' : List
  Nat) (l : List
  Nat) (l' : List
  Nat) (e : Int) (e' : Int) (f : Int) (f' : Int) (Q : AV →
  Prop) : (evF Tryd.prog (look tabR2) (lam []) false Tryd.f32
  [AV.num IntKind.i64 n,
  AV.agg
  [AV.bool s, AV.dig [(2 : Nat)] m, AV.num IntKind.i64 e, AV.bool s', AV.dig [(2 : Nat)] m', AV.num IntKind.i64 e'],
  AV.agg
  [AV.bool t, AV.dig [(3 : Nat)] l, AV.num IntKind.i64 f, AV.bool t', AV.dig [(3 : Nat)] l', AV.num IntKind.i64 f']]
  Q) =
  (bif t' then
  (Dy.mayD (Dy.Dyd.mk s m e) = true ∧ Dy.mayD (Dy.Dyd.mk s' m' e') = true) ∧
  dyF (Dy.negD (Dy.Dyd.mk s' m' e')) fun b1 l2 n3 =>
  dyF (Dy.negD (Dy.Dyd.mk s m e)) fun b4 l5 n6 =>
  (Dy.mayD (Dy.Dyd.mk t l f) = true ∧ Dy.mayD (Dy.Dyd.mk t' l' f') = true) ∧
  dyF (Dy.negD (Dy.Dyd.mk t' l' f')) fun b7 l8 n9 =>
  dyF (Dy.negD (Dy.Dyd.mk t l f)) fun b10 l11 n12 =>
  bif b1 then
  bif b4 then
  (Dy.mid (Dy.Dyd.mk b1 l2 n3) ∧
  Dy.mid (Dy.Dyd.mk b7 l8 n9) ∧
  l8 ≠ [] ∧
  l2.length ≤ (1000 : Nat) ∧
  l8.length ≤ (1000 : Nat) ∧ (1 : Int) ≤ n ∧ n ≤ (8192 : Int) ∧ b7 = false) ∧
  dyF (Dy.quoE (Dy.Dyd.mk b1 l2 n3) (Dy.Dyd.mk b7 l8 n9) n false) fun b13 l14 n15 =>
  (Dy.mid (Dy.Dyd.mk b4 l5 n6) ∧
  Dy.mid (Dy.Dyd.mk b10 l11 n12) ∧
  l11 ≠ [] ∧
  l5.length ≤ (1000 : Nat) ∧
  l11.length ≤ (1000 : Nat) ∧ (1 : Int) ≤ n ∧ n ≤ (8192 : Int) ∧ b10 = false) ∧
  dyF (Dy.quoE (Dy.Dyd.mk b4 l5 n6) (Dy.Dyd.mk b10 l11 n12) n true) fun b16 l17 n18 =>
  Q
  (AV.agg
  [AV.bool b13, AV.dig [(0 : Nat)] l14, AV.num IntKind.i64 n15, AV.bool b16,
  AV.dig [(0 : Nat)] l17, AV.num IntKind.i64 n18])
  else
  (Dy.mid (Dy.Dyd.mk b1 l2 n3) ∧
  Dy.mid (Dy.Dyd.mk b7 l8 n9) ∧
  l8 ≠ [] ∧
  l2.length ≤ (1000 : Nat) ∧
  l8.length ≤ (1000 : Nat) ∧ (1 : Int) ≤ n ∧ n ≤ (8192 : Int) ∧ b7 = false) ∧
  dyF (Dy.quoE (Dy.Dyd.mk b1 l2 n3) (Dy.Dyd.mk b7 l8 n9) n false) fun b19 l20 n21 =>
  (Dy.mid (Dy.Dyd.mk b4 l5 n6) ∧
  Dy.mid (Dy.Dyd.mk b7 l8 n9) ∧
  l8 ≠ [] ∧
  l5.length ≤ (1000 : Nat) ∧
  l8.length ≤ (1000 : Nat) ∧ (1 : Int) ≤ n ∧ n ≤ (8192 : Int) ∧ b7 = false) ∧
  dyF (Dy.quoE (Dy.Dyd.mk b4 l5 n6) (Dy.Dyd.mk b7 l8 n9) n true) fun b22 l23 n24 =>
  Q
  (AV.agg
  [AV.bool b19, AV.dig [(0 : Nat)] l20, AV.num IntKind.i64 n21, AV.bool b22,
  AV.dig [(0 : Nat)] l23, AV.num IntKind.i64 n24])
  else
  bif b4 then
  (Dy.mid (Dy.Dyd.mk b1 l2 n3) ∧
  Dy.mid (Dy.Dyd.mk b10 l11 n12) ∧
  l11 ≠ [] ∧
  l2.length ≤ (1000 : Nat) ∧
  l11.length ≤ (1000 : Nat) ∧ (1 : Int) ≤ n ∧ n ≤ (8192 : Int) ∧ b10 = false) ∧
  dyF (Dy.quoE (Dy.Dyd.mk b1 l2 n3) (Dy.Dyd.mk b10 l11 n12) n false) fun b25 l26 n27 =>
  (Dy.mid (Dy.Dyd.mk b4 l5 n6) ∧
  Dy.mid (Dy.Dyd.mk b10 l11 n12) ∧
  l11 ≠ [] ∧
  l5.length ≤ (1000 : Nat) ∧
  l11.length ≤ (1000 : Nat) ∧ (1 : Int) ≤ n ∧ n ≤ (8192 : Int) ∧ b10 = false) ∧
  dyF (Dy.quoE (Dy.Dyd.mk b4 l5 n6) (Dy.Dyd.mk b10 l11 n12) n true) fun b28 l29 n30 =>
  Q
  (AV.agg
  [AV.bool b25, AV.dig [(0 : Nat)] l26, AV.num IntKind.i64 n27, AV.bool b28,
  AV.dig [(0 : Nat)] l29, AV.num IntKind.i64 n30])
  else
  (Dy.mid (Dy.Dyd.mk b1 l2 n3) ∧
  Dy.mid (Dy.Dyd.mk b10 l11 n12) ∧
  l11 ≠ [] ∧
  l2.length ≤ (1000 : Nat) ∧
  l11.length ≤ (1000 : Nat) ∧ (1 : Int) ≤ n ∧ n ≤ (8192 : Int) ∧ b10 = false) ∧
  dyF (Dy.quoE (Dy.Dyd.mk b1 l2 n3) (Dy.Dyd.mk b10 l11 n12) n false) fun b31 l32 n33 =>
  (Dy.mid (Dy.Dyd.mk b4 l5 n6) ∧
  Dy.mid (Dy.Dyd.mk b7 l8 n9) ∧
  l8 ≠ [] ∧
  l5.length ≤ (1000 : Nat) ∧
  l8.length ≤ (1000 : Nat) ∧ (1 : Int) ≤ n ∧ n ≤ (8192 : Int) ∧ b7 = false) ∧
  dyF (Dy.quoE (Dy.Dyd.mk b4 l5 n6) (Dy.Dyd.mk b7 l8 n9) n true) fun b34 l35 n36 =>
  Q
  (AV.agg
  [AV.bool b31, AV.dig [(0 : Nat)] l32, AV.num IntKind.i64 n33, AV.bool b34,
  AV.dig [(0 : Nat)] l35, AV.num IntKind.i64 n36])
 else
  bif s then
  bif s' then
  (Dy.mid (Dy.Dyd.mk s m e) ∧
  Dy.mid (Dy.Dyd.mk t l f) ∧
  l ≠ [] ∧ m.length ≤ (1000 : Nat) ∧ l.length ≤ (1000 : Nat) ∧ (1 : Int) ≤ n ∧ n ≤ (8192 : Int) ∧ t = false) ∧
  dyF (Dy.quoE (Dy.Dyd.mk s m e) (Dy.Dyd.mk t l f) n false) fun b37 l38 n39 =>
  (Dy.mid (Dy.Dyd.mk s' m' e') ∧
  Dy.mid (Dy.Dyd.mk t' l' f') ∧
  l' ≠ [] ∧
  m'.length ≤ (1000 : Nat) ∧ l'.length ≤ (1000 : Nat) ∧ (1 : Int) ≤ n ∧ n ≤ (8192 : Int) ∧ t' = false) ∧
  dyF (Dy.quoE (Dy.Dyd.mk s' m' e') (Dy.Dyd.mk t' l' f') n true) fun b40 l41 n42 =>
  Q
  (AV.agg
  [AV.bool b37, AV.dig [(0 : Nat)] l38, AV.num IntKind.i64 n39, AV.bool b40, AV.dig [(0 : Nat)] l41,
  AV.num IntKind.i64 n42])
  else
  (Dy.mid (Dy.Dyd.mk s m e) ∧
  Dy.mid (Dy.Dyd.mk t l f) ∧
  l ≠ [] ∧ m.length ≤ (1000 : Nat) ∧ l.length ≤ (1000 : Nat) ∧ (1 : Int) ≤ n ∧ n ≤ (8192 : Int) ∧ t = false) ∧
  dyF (Dy.quoE (Dy.Dyd.mk s m e) (Dy.Dyd.mk t l f) n false) fun b43 l44 n45 =>
  (Dy.mid (Dy.Dyd.mk s' m' e') ∧
  Dy.mid (Dy.Dyd.mk t l f) ∧
  l ≠ [] ∧
  m'.length ≤ (1000 : Nat) ∧ l.length ≤ (1000 : Nat) ∧ (1 : Int) ≤ n ∧ n ≤ (8192 : Int) ∧ t = false) ∧
  dyF (Dy.quoE (Dy.Dyd.mk s' m' e') (Dy.Dyd.mk t l f) n true) fun b46 l47 n48 =>
  Q
  (AV.agg
  [AV.bool b43, AV.dig [(0 : Nat)] l44, AV.num IntKind.i64 n45, AV.bool b46, AV.dig [(0 : Nat)] l47,
  AV.num IntKind.i64 n48])
  else
  bif s' then
  (Dy.mid (Dy.Dyd.mk s m e) ∧
  Dy.mid (Dy.Dyd.mk t' l' f') ∧
  l' ≠ [] ∧
  m.length ≤ (1000 : Nat) ∧ l'.length ≤ (1000 : Nat) ∧ (1 : Int) ≤ n ∧ n ≤ (8192 : Int) ∧ t' = false) ∧
  dyF (Dy.quoE (Dy.Dyd.mk s m e) (Dy.Dyd.mk t' l' f') n false) fun b49 l50 n51 =>
  (Dy.mid (Dy.Dyd.mk s' m' e') ∧
  Dy.mid (Dy.Dyd.mk t' l' f') ∧
  l' ≠ [] ∧
  m'.length ≤ (1000 : Nat) ∧ l'.length ≤ (1000 : Nat) ∧ (1 : Int) ≤ n ∧ n ≤ (8192 : Int) ∧ t' = false) ∧
  dyF (Dy.quoE (Dy.Dyd.mk s' m' e') (Dy.Dyd.mk t' l' f') n true) fun b52 l53 n54 =>
  Q
  (AV.agg
  [AV.bool b49, AV.dig [(0 : Nat)] l50, AV.num IntKind.i64 n51, AV.bool b52, AV.dig [(0 : Nat)] l53,
  AV.num IntKind.i64 n54])
  else
  (Dy.mid (Dy.Dyd.mk s m e) ∧
  Dy.mid (Dy.Dyd.mk t' l' f') ∧
  l' ≠ [] ∧
  m.length ≤ (1000 : Nat) ∧ l'.length ≤ (1000 : Nat) ∧ (1 : Int) ≤ n ∧ n ≤ (8192 : Int) ∧ t' = false) ∧
  dyF (Dy.quoE (Dy.Dyd.mk s m e) (Dy.Dyd.mk t' l' f') n false) fun b55 l56 n57 =>
  (Dy.mid (Dy.Dyd.mk s' m' e') ∧
  Dy.mid (Dy.Dyd.mk t l f) ∧
  l ≠ [] ∧
  m'.length ≤ (1000 : Nat) ∧ l.length ≤ (1000 : Nat) ∧ (1 : Int) ≤ n ∧ n ≤ (8192 : Int) ∧ t = false) ∧
  dyF (Dy.quoE (Dy.Dyd.mk s' m' e') (Dy.Dyd.mk t l f) n true) fun b58 l59 n60 =>
  Q
  (AV.agg
  [AV.bool b55, AV.dig [(0 : Nat)] l56, AV.num IntKind.i64 n57, AV.bool b58, AV.dig [(0 : Nat)] l59,
  AV.num IntKind.i64 n60])) := by kernel_rfl
theorem vc_span_Cut (b : Int) (s : Bool) (s' : Bool) (m : List
  Nat) (m' : List
  Nat) (e : Int) (e' : Int) (Q : AV →
  Prop) : (evF Tryd.prog (look tabR2) (lam []) false Tryd.f18
  [AV.agg
  [AV.bool s, AV.dig [(1 : Nat)] m, AV.num IntKind.i64 e, AV.bool s', AV.dig [(1 : Nat)] m', AV.num IntKind.i64 e'],
  AV.num IntKind.i64 b]
  Q) =
  ((Dy.mayD (Dy.Dyd.mk s m e) = true ∧ Dy.mayD (Dy.Dyd.mk s' m' e') = true) ∧
  bif decide (Dy.signS (Dy.Dyd.mk s m e) (Dy.Dyd.mk s' m' e') = (0 : Int)) then
  Q (AV.tup [AV.agg [AV.bool false, AV.dig [(0 : Nat)] [], AV.num IntKind.i64 (0 : Int)], AV.bool false])
  else
  dyF (Dy.cutD (Dy.Dyd.mk s m e) b).num fun b1 l2 n3 =>
  ∀ (b4 : Bool),
  b4 = (Dy.cutD (Dy.Dyd.mk s m e) b).lost →
  ∀ (n5 : Int),
  n5 = (Dy.cutD (Dy.Dyd.mk s m e) b).err →
  dyF (Dy.cutD (Dy.Dyd.mk s' m' e') b).num fun b6 l7 n8 =>
  ∀ (b9 : Bool),
  b9 = (Dy.cutD (Dy.Dyd.mk s' m' e') b).lost →
  ∀ (n10 : Int),
  n10 = (Dy.cutD (Dy.Dyd.mk s' m' e') b).err →
  ∀ (n11 : Int),
  (n11 =
  if (Dy.mayD (Dy.Dyd.mk b1 l2 n3) && Dy.mayD (Dy.Dyd.mk b6 l7 n8)) = true then
  Dy.cmpD (Dy.Dyd.mk b1 l2 n3) (Dy.Dyd.mk b6 l7 n8)
  else (0 : Int)) →
  ∀ (n12 : Int),
  (n12 =
  if (Dy.mayD (Dy.Dyd.mk b1 l2 n3) && Dy.mayD (Dy.Dyd.mk b6 l7 n8)) = true then
  (0 : Int)
  else (2 : Int)) →
  Q
  (AV.tup
  [AV.agg [AV.bool b1, AV.dig [(0 : Nat)] l2, AV.num IntKind.i64 n3],
  AV.bool (n11 == (0 : Int))])) := by kernel_rfl
end Go.AI

namespace Go.Dy
def timesD (n y : Dyd) : Dyd × Int := if (if mayD y = true then signD y else 0) = 0 then boundIf (mayD n && mayD n) (mulD n n) else boundIf (mayD n && mayD y) (mulD n y)
/-- one unit of a number's last bit of so many -/
def unitD (q : Dyd) (k : Int) : Dyd := ⟨false, [1], topD q - k⟩
/-- a number is nearest from within, and what is told of it is true -/
def WithinP (q : Dyd) (lost : Bool) (k : Int) (y x : Dyd) : Prop :=
  mayD q = true ∧ mayD y = true ∧ mayD x = true ∧ 1 ≤ k ∧ k ≤ 8192 ∧ (cutD q k).num = q ∧ (cutD q k).err = 0 ∧
  (timesD q y).2 = 0 ∧ mayD (timesD q y).1 = true ∧ cmpD (timesD q y).1 x ≤ 0 ∧ lost = decide (cmpD (timesD q y).1 x < 0) ∧ (signD q = 0 ↔ signD x = 0) ∧
  (signD q = 0 ∨ (boundIf (mayD q && mayD (unitD q k)) (addD q (unitD q k)) = (addD q (unitD q k), 0) ∧ (timesD (addD q (unitD q k)) y).2 = 0 ∧ mayD (timesD (addD q (unitD q k)) y).1 = true ∧ 0 < cmpD (timesD (addD q (unitD q k)) y).1 x))
end Go.Dy
namespace Go.AI
open Go Go.RowKit Go.Proofs
set_option linter.unusedVariables false
def lTimes : List AV → Option Spec
  | [.agg [.bool s, .dig [1] m, .num .i64 e], .agg [.bool s', .dig [2] m', .num .i64 e']] =>
    some ⟨none, .tup [avD [0] (Dy.timesD ⟨s, m, e⟩ ⟨s', m', e'⟩).1, .num .i64 (Dy.timesD ⟨s, m, e⟩ ⟨s', m', e'⟩).2]⟩
  | _ => none
def lWithin : List AV → Option Spec
  | [.agg [.bool s, .dig [1] m, .num .i64 e], .bool lost, .num .i64 k, .agg [.bool s', .dig [4] m', .num .i64 e'], .agg [.bool s2, .dig [5] m2, .num .i64 e2]] =>
    some ⟨some (Dy.WithinP ⟨s, m, e⟩ lost k ⟨s', m', e'⟩ ⟨s2, m2, e2⟩), .bool true⟩
  | _ => none
def tabG0 : List (Nat × (List AV → Option Spec)) := tabF
def tabG : List (Nat × (List AV → Option Spec)) := tabG0
end Go.AI

namespace Go.Dy
theorem quoD_not {a b : Dyd} {k : Int} (h : mayD a = false) : quoD a b k = ⟨zeroD, false, 2⟩ := by unfold quoD; rw [h]; rfl
theorem quoD_not2 {a b : Dyd} {k : Int} (h : mayD b = false) : quoD a b k = ⟨zeroD, false, 2⟩ := by unfold quoD; rw [h, Bool.and_false]; rfl
theorem quoD_low {a b : Dyd} {k : Int} (h : k < 1) : quoD a b k = ⟨zeroD, false, 2⟩ := by
  unfold quoD
  rw [if_neg (by simp; omega)]
theorem rootD_not {a : Dyd} {k : Int} (h : mayD a = false) : rootD a k = ⟨zeroD, false, 2⟩ := by unfold rootD; rw [h]; rfl
theorem rootD_low {a : Dyd} {k : Int} (h : k < 1) : rootD a k = ⟨zeroD, false, 2⟩ := by
  unfold rootD
  rw [if_neg (by simp; omega)]
theorem rootD_high {a : Dyd} {k : Int} (h : mayD a = true) (hk : 8192 < k) : rootD a k = ⟨zeroD, false, 3⟩ := by
  unfold rootD
  rw [h, if_pos (by simp; omega), if_neg (by omega)]
theorem rootD_neg {m : List Nat} {e k : Int} (h : mayD ⟨true, m, e⟩ = true) (h1 : 1 ≤ k) (hk : k ≤ 8192) : rootD ⟨true, m, e⟩ k = ⟨zeroD, false, 10⟩ := by
  have m0 : m ≠ [] := fun c => by subst c; exact absurd (mayD_nil h).1 (by decide)
  unfold rootD
  rw [h, if_pos (by simp; omega), if_pos hk, if_neg m0]
  rfl
theorem rootD_nil {s : Bool} {e k : Int} (h : mayD ⟨s, [], e⟩ = true) (h1 : 1 ≤ k) (hk : k ≤ 8192) : rootD ⟨s, [], e⟩ k = ⟨zeroD, false, 0⟩ := by
  unfold rootD
  rw [h, if_pos (by simp; omega), if_pos hk, if_pos rfl]
/-- a root's exponent is inside -/
theorem rootF_inside {m : List Nat} {s : Bool} {e k : Int} (h : mayD ⟨s, m, e⟩ = true) (h1 : 1 ≤ k) (hk : k ≤ 8192) : inside (rootF ⟨s, m, e⟩ k).1.exp = true := by
  have hb := may_bl (mayD_may h)
  have hx := mayD_exp h
  unfold rootF
  simp only
  obtain ⟨hZ1, hZ2, hZ3⟩ := evenS_spec e (if 2 * k + 2 - (bl (val m) : Int) < 0 then 0 else 2 * k + 2 - (bl (val m) : Int))
  have hZ : rootZ (val m) e k = (evenS e (if 2 * k + 2 - (bl (val m) : Int) < 0 then 0 else 2 * k + 2 - (bl (val m) : Int))).toNat := rfl
  have hz : (rootZ (val m) e k : Int) ≤ 2 * k + 3 := by
    rw [hZ]
    generalize hz0 : (if 2 * k + 2 - (bl (val m) : Int) < 0 then (0 : Int) else 2 * k + 2 - (bl (val m) : Int)) = z0 at hZ2 hZ3 ⊢
    have : z0 ≤ 2 * k + 2 ∧ 0 ≤ z0 := by rw [← hz0]; split <;> omega
    generalize evenS e z0 = y at *
    omega
  generalize rootZ (val m) e k = z at *
  rw [cutR_form _ _ _ _ h1]
  simp only
  have hq : bl (isq (val m * 2 ^ z)) ≤ 200000 := Nat.le_trans (bl_mono (isq_le _)) (Nat.le_trans (bl_mul_le hb) (by omega))
  generalize isq (val m * 2 ^ z) = q at *
  obtain ⟨f1, f2, f3, f4, f5⟩ := form_dg (s := false) (n := q / 2 ^ (((bl q : Nat) : Int) - k).toNat) (e := (e - (z : Int)) / 2 + ((((bl q : Nat) : Int) - k).toNat : Int))
  have hq2 : bl (q / 2 ^ (((bl q : Nat) : Int) - k).toNat) ≤ bl q := bl_mono (Nat.div_le_self _ _)
  exact inside_iff.2 ⟨by omega, by omega⟩
end Go.Dy

namespace Go.Dy
theorem pow_split2 (P : Nat) {i j k : Nat} (h : i = j + k) : P * 2 ^ i = P * 2 ^ j * 2 ^ k := by rw [h, Nat.pow_add, ← Nat.mul_assoc]
theorem exp_form {s : Bool} {n : Nat} {e v : Int} (h1 : v ≤ e) (h2 : v ≤ 0) : v ≤ (form s n e).exp := by
  have := (form_dg (s := s) (n := n) (e := e)).2.2.2.1
  omega
/-- two forms' order -/
theorem cmp_forms {A B t n : Nat} {a b : Int} (h : a + n = b + t) : cmpD (form false A a) (form false B b) = cmpZ ((A * 2 ^ t : Nat) : Int) ((B * 2 ^ n : Nat) : Int) := by
  obtain ⟨v, hv1, hv2, hv3⟩ : ∃ v : Int, v ≤ a ∧ v ≤ b ∧ v ≤ 0 := ⟨min (min a b) 0, by omega, by omega, by omega⟩
  rw [cmpD_at (exp_form hv1 hv3) (exp_form hv2 hv3), at_form hv1, at_form hv2]
  have e1 : sgn false (A * 2 ^ (a - v).toNat) = ((A * 2 ^ (a - v).toNat : Nat) : Int) := rfl
  have e2 : sgn false (B * 2 ^ (b - v).toNat) = ((B * 2 ^ (b - v).toNat : Nat) : Int) := rfl
  rw [e1, e2, ← cmpZ_mul _ _ n]
  have h2 : ((2 : Int) ^ n) = ((2 ^ n : Nat) : Int) := by simp
  rw [h2, ← Int.natCast_mul, ← Int.natCast_mul, ← pow_split2 A (i := (a - v).toNat + n) rfl, ← pow_split2 B (i := (b - v).toNat + n) rfl]
  rw [pow_split2 A (j := t) (k := (b - v).toNat) (by omega), pow_split2 B (j := n) (k := (b - v).toNat) (by omega)]
  rw [Int.natCast_mul, Int.natCast_mul (B * 2 ^ n), Int.natCast_pow]
  exact cmpZ_mul _ _ _
theorem mul_forms (A B : Nat) (a b : Int) : mulD (form false A a) (form false B b) = form false (A * B) (a + b) := by
  by_cases hA : A = 0
  · subst hA
    rw [Nat.zero_mul, form_zero, form_zero]
    unfold mulD
    rw [show val zeroD.mag = 0 from rfl, Nat.zero_mul, form_zero]
  by_cases hB : B = 0
  · subst hB
    rw [Nat.mul_zero, form_zero, form_zero]
    unfold mulD
    rw [show val zeroD.mag = 0 from rfl, Nat.mul_zero, form_zero]
  · rw [form_pos hA, form_pos hB]
    unfold mulD
    simp only [val_dg]
    have h1 := Nat.div_mul_cancel (Nat.dvd_of_mod_eq_zero ((dvd_iff_le_tz hA (tz A)).2 (Nat.le_refl _)))
    have h2 := Nat.div_mul_cancel (Nat.dvd_of_mod_eq_zero ((dvd_iff_le_tz hB (tz B)).2 (Nat.le_refl _)))
    have h3 : A * B = A / 2 ^ tz A * (B / 2 ^ tz B) * 2 ^ (tz A + tz B) := by
      conv => lhs; rw [← h1, ← h2]
      rw [Nat.pow_add, Nat.mul_mul_mul_comm]
    rw [h3, form_mul]
    congr 1
    omega
theorem sign_form {s : Bool} {n : Nat} {e : Int} : signD (form s n e) = if n = 0 then 0 else if s then -1 else 1 := by
  by_cases h : n = 0
  · subst h; rfl
  · rw [form_pos h, if_neg h]
    unfold signD
    simp only
    have : dg (n / 2 ^ tz n) ≠ [] := fun e0 => by
      have h0 := dg_eq_nil.1 e0
      have h1 := div_tz_odd h
      omega
    rw [if_neg this]
theorem abs_form (s : Bool) (n : Nat) (e : Int) : absD (form s n e) = form false n e := by
  by_cases h : n = 0
  · subst h; rfl
  · rw [form_pos h, form_pos h]; rfl
theorem top_form {s : Bool} {n : Nat} {e : Int} (h : n ≠ 0) : topD (form s n e) = e + bl n := by
  rw [form_pos h]
  unfold topD
  simp only
  have : dg (n / 2 ^ tz n) ≠ [] := fun e0 => by
    have h0 := dg_eq_nil.1 e0
    have h1 := div_tz_odd h
    omega
  rw [if_neg this, val_dg, bl_div_two_pow]
  have := tz_lt_bl h
  omega
theorem unit_form (u : Int) : (⟨false, [1], u⟩ : Dyd) = form false 1 u := by
  rw [form_odd (by decide)]
  rfl
theorem add_forms (A B : Nat) {u : Int} (hA : u ≤ (form false A u).exp) (hB : u ≤ (form false B u).exp) : addD (form false A u) (form false B u) = form false (A + B) u := by
  rw [addD_at hA hB, at_form (Int.le_refl _), at_form (Int.le_refl _), Int.sub_self]
  show formZ (((A * 2 ^ 0 : Nat) : Int) + ((B * 2 ^ 0 : Nat) : Int)) u = _
  rw [Nat.pow_zero, Nat.mul_one, Nat.mul_one, ← Int.natCast_add]
  exact formZ_sgn false (A + B) u
theorem exp_form_pos {s : Bool} {n : Nat} {e : Int} (h : n ≠ 0) : e ≤ (form s n e).exp := by
  rw [form_pos h]
  simp only
  omega
theorem cmpZ_lt_iff {x y : Nat} : cmpZ (x : Int) (y : Int) < 0 ↔ x < y := by
  unfold cmpZ
  split
  · constructor
    · intro _; omega
    · intro _; decide
  · split
    · constructor
      · intro h; exact absurd h (by decide)
      · intro _; omega
    · constructor
      · intro h; exact absurd h (by decide)
      · intro _; omega
theorem cmpZ_le_iff {x y : Nat} (h : x ≤ y) : cmpZ (x : Int) (y : Int) ≤ 0 := by
  unfold cmpZ
  split
  · decide
  · split
    · omega
    · decide
theorem cmpZ_gt_iff {x y : Nat} (h : y < x) : 0 < cmpZ (x : Int) (y : Int) := by
  unfold cmpZ
  rw [if_neg (by omega), if_pos (by omega)]
  decide
/-- near from within, out of plain numbers -/
theorem withinP_of {W M t n : Nat} {u k a ex : Int} {y x : Dyd} {lost : Bool} {f : Nat → Nat} (hk1 : 1 ≤ k) (hk : k ≤ 600) (hW : (bl W : Int) = k) (hu : -20000 ≤ u ∧ u ≤ 20000) (hy : mayD y = true) (hx : x = form false M ex) (hxm : mayD x = true) (hM : M ≠ 0)
    (hmul : ∀ V, bl V ≤ 601 → timesD (form false V u) y = (form false (f V) a, 0) ∧ mayD (form false (f V) a) = true)
    (han : a + n = ex + t) (h1 : f W * 2 ^ t ≤ M * 2 ^ n) (hl : lost = decide (f W * 2 ^ t < M * 2 ^ n)) (h2 : M * 2 ^ n < f (W + 1) * 2 ^ t) : WithinP (form false W u) lost k y x := by
  have hW0 : W ≠ 0 := fun e => by rw [e, bl_zero] at hW; omega
  have hb1 : bl W ≤ 600 := by omega
  have fitW := fit_form (s := false) (n := W) (e := u) (L := 601) (E := 40000) (by omega) (by omega) (by omega) (by decide) (by decide)
  have b11 : bl 1 = 1 := by decide
  have fit1 := fit_form (s := false) (n := 1) (e := u) (L := 601) (E := 40000) (by omega) (by omega) (by omega) (by decide) (by decide)
  have hask : askD k = 0 := by unfold askD; rw [if_neg (by omega), if_neg (by omega)]
  have hun : unitD (form false W u) k = form false 1 u := by
    unfold unitD
    rw [top_form hW0, hW, show u + k - k = u by omega, unit_form]
  have hadd : addD (form false W u) (form false 1 u) = form false (W + 1) u := add_forms W 1 (exp_form_pos hW0) (exp_form_pos (by decide))
  have hW1 : bl (W + 1) ≤ 601 := bl_half_succ hb1
  obtain ⟨m1, m2⟩ := hmul W (by omega)
  obtain ⟨m3, m4⟩ := hmul (W + 1) hW1
  subst hx
  have c1 : cmpD (form false (f W) a) (form false M ex) = cmpZ ((f W * 2 ^ t : Nat) : Int) ((M * 2 ^ n : Nat) : Int) := cmp_forms han
  have c2 : cmpD (form false (f (W + 1)) a) (form false M ex) = cmpZ ((f (W + 1) * 2 ^ t : Nat) : Int) ((M * 2 ^ n : Nat) : Int) := cmp_forms han
  have hcut : cutD (form false W u) k = ⟨form false W u, false, 0⟩ := by
    unfold cutD
    rw [if_pos fitW.1.may, if_pos hask]
    unfold cutL overD
    have := form_mag false W u
    rw [if_pos (by omega)]
  refine ⟨fitW.1.may, hy, hxm, hk1, by omega, by rw [hcut], by rw [hcut], by rw [m1], by rw [m1]; exact m2, by rw [m1]; show cmpD (form false (f W) a) _ ≤ 0; rw [c1]; exact cmpZ_le_iff h1, ?_, ?_, .inr ⟨?_, ?_, ?_, ?_⟩⟩
  · rw [m1]
    show lost = decide (cmpD (form false (f W) a) _ < 0)
    rw [c1, hl, decide_eq_decide]
    exact cmpZ_lt_iff.symm
  · rw [sign_form, sign_form, if_neg hW0, if_neg hM]
  · rw [hun, hadd]
    have := boundIf_add fitW.1 fit1.1 (by decide) (by decide)
    rw [hadd] at this
    exact this
  · rw [hun, hadd, m3]
  · rw [hun, hadd, m3]; exact m4
  · rw [hun, hadd, m3]
    show 0 < cmpD (form false (f (W + 1)) a) _
    rw [c2]
    exact cmpZ_gt_iff h2
theorem withinP_zero {k : Int} {y : Dyd} (hk1 : 1 ≤ k) (hk : k ≤ 600) (hy : mayD y = true) : WithinP zeroD false k y zeroD := by
  have h0 : ∀ d, mulD zeroD d = zeroD := fun d => by unfold mulD; rw [show val zeroD.mag = 0 from rfl, Nat.zero_mul, form_zero]
  have ht : timesD zeroD y = (zeroD, 0) := by
    unfold timesD
    rw [if_pos hy, h0, h0, hy]
    split <;> rfl
  have hc : cmpD zeroD zeroD = 0 := rfl
  have hask : askD k = 0 := by unfold askD; rw [if_neg (by omega), if_neg (by omega)]
  have hcut : cutD zeroD k = ⟨zeroD, false, 0⟩ := by
    unfold cutD
    rw [if_pos mayD_zero, if_pos hask]
    unfold cutL overD
    rw [if_pos (by show (0 : Int) - k ≤ 0; omega)]
  exact ⟨mayD_zero, hy, mayD_zero, hk1, by omega, by rw [hcut], by rw [hcut], by rw [ht], by rw [ht]; rfl, by rw [ht]; decide, by rw [ht]; rfl, by decide, .inl rfl⟩
theorem quo_near {m m' : List Nat} {ex ey k : Int} (hx : nearD ⟨false, m, ex⟩ = true) (hy : nearD ⟨false, m', ey⟩ = true) (m0 : m ≠ []) (m0' : m' ≠ []) (hk1 : 1 ≤ k) (hk : k ≤ 600) :
    ∃ W u lost, W ≠ 0 ∧ (∀ s s', mayD ⟨s, m, ex⟩ = true → mayD ⟨s', m', ey⟩ = true → quoD ⟨s, m, ex⟩ ⟨s', m', ey⟩ k = ⟨form (s != s') W u, lost, 0⟩) ∧ WithinP (form false W u) lost k ⟨false, m', ey⟩ ⟨false, m, ex⟩ := by
  have fx := near_fit hx
  have fy := near_fit hy
  have hM := val_ne (mayD_may fx.may) m0
  have hN := val_ne (mayD_may fy.may) m0'
  have sx : form false (val m) ex = ⟨false, m, ex⟩ := form_self fx.may
  have sy : form false (val m') ey = ⟨false, m', ey⟩ := form_self fy.may
  obtain ⟨xl, xe1, xe2⟩ : bl (val m) ≤ 3200 ∧ -3000 ≤ ex ∧ ex ≤ 3000 := ⟨fx.bits, fx.lo, fx.hi⟩
  obtain ⟨yl, ye1, ye2⟩ : bl (val m') ≤ 3200 ∧ -3000 ≤ ey ∧ ey ≤ 3000 := ⟨fy.bits, fy.lo, fy.hi⟩
  have hn : quoS (val m) (val m') k = (k + 1 + (bl (val m') : Int) - (bl (val m) : Int)).toNat := rfl
  have hF : ∀ s s', mayD ⟨s, m, ex⟩ = true → mayD ⟨s', m', ey⟩ = true → quoF ⟨s, m, ex⟩ ⟨s', m', ey⟩ k =
      (form (s != s') (val m * 2 ^ quoS (val m) (val m') k / val m' / 2 ^ ((bl (val m * 2 ^ quoS (val m) (val m') k / val m') : Int) - k).toNat) (ex - ey - quoS (val m) (val m') k + (((bl (val m * 2 ^ quoS (val m) (val m') k / val m') : Int) - k).toNat : Int)),
        decide (val m * 2 ^ quoS (val m) (val m') k / val m' % 2 ^ ((bl (val m * 2 ^ quoS (val m) (val m') k / val m') : Int) - k).toNat ≠ 0) || decide (val m * 2 ^ quoS (val m) (val m') k % val m' ≠ 0)) := by
    intro s s' _ _
    unfold quoF
    dsimp only
    rw [if_neg m0, cutR_form _ _ _ _ hk1]
  generalize quoS (val m) (val m') k = n at *
  generalize val m = M at *
  generalize val m' = N at *
  have hNp : 0 < N := by omega
  have hX := Nat.div_add_mod (M * 2 ^ n) N
  have hr := Nat.mod_lt (M * 2 ^ n) hNp
  have hbX : bl (M * 2 ^ n) = bl M + n := bl_mul_two_pow hM n
  obtain ⟨kk, hkk⟩ : ∃ kk : Nat, k = (kk : Int) := ⟨k.toNat, by omega⟩
  have hQ2 : 2 ^ kk ≤ M * 2 ^ n / N := by
    rw [Nat.le_div_iff_mul_le hNp]
    have h1 := lt_two_bl N
    have h2 := two_bl_le (n := M * 2 ^ n) (Nat.mul_ne_zero hM (Nat.pos_iff_ne_zero.1 (Nat.two_pow_pos n)))
    have h3 : 2 ^ kk * N ≤ 2 ^ kk * 2 ^ bl N := Nat.mul_le_mul_left _ (Nat.le_of_lt h1)
    rw [← Nat.pow_add] at h3
    have h4 : 2 ^ (kk + bl N) ≤ 2 ^ (bl (M * 2 ^ n) - 1) := Nat.pow_le_pow_right (by decide) (by omega)
    omega
  have hQu : bl (M * 2 ^ n / N) ≤ 20000 := Nat.le_trans (bl_mono (Nat.div_le_self _ _)) (by omega)
  have hbq := lt_bl.2 hQ2
  generalize hQq : M * 2 ^ n / N = Q at *
  obtain ⟨t, ht⟩ : ∃ t : Nat, ((bl Q : Int) - k).toNat = t := ⟨_, rfl⟩
  rw [ht] at hF
  have hbW : bl (Q / 2 ^ t) = bl Q - t := bl_div_two_pow Q t
  have hW := Nat.div_add_mod Q (2 ^ t)
  have hWr := Nat.mod_lt Q (Nat.two_pow_pos t)
  have hW0 : Q / 2 ^ t ≠ 0 := fun e => by rw [e, bl_zero] at hbW; omega
  have t600 : t ≤ 20000 := by omega
  have hu : -20000 ≤ ex - ey - (n : Int) + (t : Int) ∧ ex - ey - (n : Int) + (t : Int) ≤ 20000 := by
    have := bl_mono (Nat.div_le_self (M * 2 ^ n) N)
    rw [hQq] at this
    omega
  refine ⟨Q / 2 ^ t, ex - ey - n + t, (decide (Q % 2 ^ t ≠ 0) || decide (M * 2 ^ n % N ≠ 0)), hW0, fun s s' h1 h2 => ?_, ?_⟩
  · rw [quoD_eq h1 h2 m0' hk1 (by omega), hF s s' h1 h2]
    have f := form_dg (s := s != s') (n := Q / 2 ^ t) (e := ex - ey - n + t)
    rw [if_pos (inside_iff.2 ⟨by have := f.2.2.2.1; show -16777216 ≤ (form (s != s') (Q / 2 ^ t) (ex - ey - n + t)).exp; omega, by have := f.2.2.2.2; show (form (s != s') (Q / 2 ^ t) (ex - ey - n + t)).exp ≤ 16777216; omega⟩)]
  · have hmN : (Q / 2 ^ t) * N * 2 ^ t = (2 ^ t * (Q / 2 ^ t)) * N := by rw [Nat.mul_right_comm, Nat.mul_comm (2 ^ t)]
    have hmN1 : (Q / 2 ^ t + 1) * N * 2 ^ t = (2 ^ t * (Q / 2 ^ t) + 2 ^ t) * N := by rw [Nat.mul_right_comm, Nat.mul_comm (2 ^ t), Nat.add_mul, Nat.one_mul]
    refine withinP_of (f := fun V => V * N) (M := M) (a := ex - ey - n + t + ey) (t := t) (n := n) (ex := ex) hk1 hk (by omega) hu fy.may sx.symm fx.may hM ?_ (by omega) ?_ ?_ ?_
    · intro V hV
      have fV := (fit_form (s := false) (n := V) (e := ex - ey - n + t) (L := 4000) (E := 40000) (by omega) (by omega) (by omega) (by decide) (by decide)).1
      have fy' : Fit ⟨false, m', ey⟩ 4000 40000 := fy.mono (by decide) (by decide)
      have hm := boundIf_mul fV fy' (by decide) (by decide)
      have hf := (fit_mul fV fy' (by decide) (by decide)).1.may
      rw [← sy, mul_forms] at hm hf
      have hs : ¬ (if mayD (⟨false, m', ey⟩ : Dyd) = true then signD (⟨false, m', ey⟩ : Dyd) else 0) = 0 := by
        rw [if_pos fy.may, ← sy, sign_form, if_neg hN]
        decide
      unfold timesD
      rw [if_neg hs, ← sy, mul_forms]
      exact ⟨hm, hf⟩
    · show Q / 2 ^ t * N * 2 ^ t ≤ M * 2 ^ n
      rw [hmN]
      have : 2 ^ t * (Q / 2 ^ t) * N ≤ Q * N := Nat.mul_le_mul_right _ (by omega)
      rw [Nat.mul_comm Q] at this
      omega
    · show _ = decide (Q / 2 ^ t * N * 2 ^ t < M * 2 ^ n)
      rw [hmN, Bool.eq_iff_iff]
      simp only [Bool.or_eq_true, decide_eq_true_eq]
      generalize 2 ^ t * (Q / 2 ^ t) = Y at *
      constructor
      · rintro (h | h)
        · have : (Y + 1) * N ≤ Q * N := Nat.mul_le_mul_right _ (by omega)
          rw [Nat.add_mul, Nat.one_mul, Nat.mul_comm Q] at this
          omega
        · have : Y * N ≤ Q * N := Nat.mul_le_mul_right _ (by omega)
          rw [Nat.mul_comm Q] at this
          omega
      · intro h
        refine Decidable.byContradiction fun c => ?_
        have c1 : Q % 2 ^ t = 0 := Decidable.byContradiction fun d => c (.inl d)
        have c2 : M * 2 ^ n % N = 0 := Decidable.byContradiction fun d => c (.inr d)
        have : Y = Q := by omega
        rw [this, Nat.mul_comm Q] at h
        omega
    · show M * 2 ^ n < (Q / 2 ^ t + 1) * N * 2 ^ t
      rw [hmN1]
      have : (Q + 1) * N ≤ (2 ^ t * (Q / 2 ^ t) + 2 ^ t) * N := Nat.mul_le_mul_right _ (by omega)
      rw [Nat.add_mul Q, Nat.one_mul, Nat.mul_comm Q] at this
      omega
theorem root_near {m : List Nat} {ex k : Int} (hx : nearD ⟨false, m, ex⟩ = true) (m0 : m ≠ []) (hk1 : 1 ≤ k) (hk : k ≤ 600) :
    ∃ W u lost, rootD ⟨false, m, ex⟩ k = ⟨form false W u, lost, 0⟩ ∧ WithinP (form false W u) lost k zeroD ⟨false, m, ex⟩ := by
  have fx := near_fit hx
  have hM := val_ne (mayD_may fx.may) m0
  have sx : form false (val m) ex = ⟨false, m, ex⟩ := form_self fx.may
  obtain ⟨xl, xe1, xe2⟩ : bl (val m) ≤ 3200 ∧ -3000 ≤ ex ∧ ex ≤ 3000 := ⟨fx.bits, fx.lo, fx.hi⟩
  have hR := rootD_eq (d := ⟨false, m, ex⟩) fx.may rfl m0 hk1 (by omega)
  rw [rootF_inside fx.may hk1 (by omega), if_pos rfl] at hR
  unfold rootF at hR
  dsimp only at hR
  rw [cutR_form _ _ _ _ hk1] at hR
  dsimp only at hR
  obtain ⟨z0, hz0, hz1⟩ : ∃ z0 : Int, (if 2 * k + 2 - (bl (val m) : Int) < 0 then (0 : Int) else 2 * k + 2 - (bl (val m) : Int)) = z0 ∧ 0 ≤ z0 ∧ 2 * k + 2 - (bl (val m) : Int) ≤ z0 ∧ z0 ≤ 2 * k + 2 := by
    refine ⟨_, rfl, ?_⟩
    split <;> omega
  have hZ : rootZ (val m) ex k = (evenS ex z0).toNat := by rw [← hz0]; rfl
  obtain ⟨hZ1, hZ2, hZ3⟩ := evenS_spec ex z0
  generalize rootZ (val m) ex k = z at *
  have hzz : (z : Int) = evenS ex z0 := by omega
  rw [← hzz] at hZ1 hZ2 hZ3
  generalize val m = M at *
  have hbX : bl (M * 2 ^ z) = bl M + z := bl_mul_two_pow hM z
  obtain ⟨kk, hkk⟩ : ∃ kk : Nat, k = (kk : Int) := ⟨k.toNat, by omega⟩
  have hX0 : M * 2 ^ z ≠ 0 := Nat.mul_ne_zero hM (Nat.pos_iff_ne_zero.1 (Nat.two_pow_pos z))
  have hR2 : 2 ^ kk ≤ isq (M * 2 ^ z) := by
    refine le_isq ?_
    rw [← Nat.pow_add]
    exact Nat.le_trans (Nat.pow_le_pow_right (by decide) (by omega)) (two_bl_le hX0)
  obtain ⟨hi1, hi2⟩ := isq_spec (M * 2 ^ z)
  have hRu : bl (isq (M * 2 ^ z)) ≤ 10000 := Nat.le_trans (bl_mono (isq_le _)) (by omega)
  have hbr := lt_bl.2 hR2
  generalize isq (M * 2 ^ z) = R at *
  obtain ⟨t, ht⟩ : ∃ t : Nat, ((bl R : Int) - k).toNat = t := ⟨_, rfl⟩
  rw [ht] at hR
  have hbW : bl (R / 2 ^ t) = bl R - t := bl_div_two_pow R t
  have hW := Nat.div_add_mod R (2 ^ t)
  have hWr := Nat.mod_lt R (Nat.two_pow_pos t)
  refine ⟨R / 2 ^ t, (ex - z) / 2 + t, _, hR, ?_⟩
  have e2 : 2 ^ (2 * t) = 2 ^ t * 2 ^ t := by rw [← Nat.pow_add, show 2 * t = t + t by omega]
  refine withinP_of (f := fun V => V * V) (M := M) (a := (ex - z) / 2 + t + ((ex - z) / 2 + t)) (t := 2 * t) (n := z) (ex := ex) hk1 hk (by omega) (by omega) mayD_zero sx.symm fx.may hM ?_ (by omega) ?_ ?_ ?_
  · intro V hV
    have fV := (fit_form (s := false) (n := V) (e := (ex - z) / 2 + t) (L := 4000) (E := 40000) (by omega) (by omega) (by omega) (by decide) (by decide)).1
    have hm := boundIf_mul fV fV (by decide) (by decide)
    have hf := (fit_mul fV fV (by decide) (by decide)).1.may
    rw [mul_forms] at hm hf
    unfold timesD
    rw [if_pos (by rfl), mul_forms]
    exact ⟨hm, hf⟩
  · show R / 2 ^ t * (R / 2 ^ t) * 2 ^ (2 * t) ≤ M * 2 ^ z
    rw [e2, Nat.mul_mul_mul_comm, Nat.mul_comm (R / 2 ^ t)]
    have : 2 ^ t * (R / 2 ^ t) ≤ R := by omega
    have := Nat.mul_le_mul this this
    omega
  · show _ = decide (R / 2 ^ t * (R / 2 ^ t) * 2 ^ (2 * t) < M * 2 ^ z)
    rw [e2, Nat.mul_mul_mul_comm, Nat.mul_comm (R / 2 ^ t), Bool.eq_iff_iff]
    simp only [Bool.or_eq_true, decide_eq_true_eq]
    generalize 2 ^ t * (R / 2 ^ t) = Y at *
    constructor
    · rintro (h | h)
      · have h3 : Y < R := by omega
        have := Nat.mul_lt_mul'' h3 h3
        omega
      · have h3 : Y ≤ R := by omega
        have := Nat.mul_le_mul h3 h3
        omega
    · intro h
      refine Decidable.byContradiction fun c => ?_
      have c1 : R % 2 ^ t = 0 := Decidable.byContradiction fun d => c (.inl d)
      have c2 : R * R = M * 2 ^ z := Decidable.byContradiction fun d => c (.inr d)
      have : Y = R := by omega
      rw [this] at h
      omega
  · show M * 2 ^ z < (R / 2 ^ t + 1) * (R / 2 ^ t + 1) * 2 ^ (2 * t)
    rw [e2, Nat.mul_mul_mul_comm]
    have h3 : R + 1 ≤ (R / 2 ^ t + 1) * 2 ^ t := by rw [Nat.add_mul, Nat.one_mul, Nat.mul_comm (R / 2 ^ t)]; omega
    have := Nat.mul_le_mul h3 h3
    omega
end Go.Dy
