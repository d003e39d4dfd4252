/- Printed by a program of mine: what a body, or a round of a loop, comes to. -/
import Derived.Test.YtnhbdcnnanfacaaDoorAIspec5
namespace Go.AI
open Go Go.RowKit Go.Proofs
set_option linter.unusedVariables false
set_option maxRecDepth 100000
set_option maxHeartbeats 0
theorem vc_ref2_Same (s : Bool) (s' : Bool) (m : List
  Nat) (m' : List
  Nat) (e : Int) (e' : Int) (Q : AV →
  Prop) : (evF Tryd.prog (look tab15) (lam []) false Tryd.f21
  [AV.agg [AV.bool s, AV.dig [(1 : Nat)] m, AV.num IntKind.i64 e],
    AV.agg [AV.bool s', AV.dig [(2 : Nat)] m', AV.num IntKind.i64 e']]
  Q) =
    (bif decide (s = s') then bif decide (e = e') then Q (AV.bool (decide (m = m'))) else Q (AV.bool false)
 else Q (AV.bool false)) := by kernel_rfl
theorem vc_ref2_May (s : Bool) (m : List
  Nat) (e : Int) (Q : AV →
  Prop) : (evF Tryd.prog (look tab15) (lam []) false Tryd.f15
  [AV.agg [AV.bool s, AV.dig [(1 : Nat)] m, AV.num IntKind.i64 e]] Q) =
    (bif !Dy.may m then Q (AV.bool false)
 else
  bif decide ((↑m.length : Int) = (0 : Int)) then
    bif !s then Q (AV.bool (decide (e = (0 : Int)))) else Q (AV.bool false)
  else
    ((0 : Int) ≤ (0 : Int) ∧ (0 : Int) < (↑m.length : Int)) ∧
      bif decide ((↑(m.getD (0 : Nat) (0 : Nat)) : Int).tmod (2 : Int) = (1 : Int)) then
        bif decide (e ≥ (-16777216 : Int)) then Q (AV.bool (decide (e ≤ (16777216 : Int)))) else Q (AV.bool false)
      else Q (AV.bool false)) := by kernel_rfl
theorem vc_ref2_Form (s : Bool) (m : List
  Nat) (e : Int) (Q : AV →
  Prop) : (evF Tryd.prog (look tab15) (lam []) false Tryd.f22 [AV.bool s, AV.dig [(2 : Nat)] m, AV.num IntKind.i64 e]
  Q) =
    (bif decide ((↑m.length : Int) = (0 : Int)) then
  Q (AV.agg [AV.bool false, AV.dig [(0 : Nat)] [], AV.num IntKind.i64 (0 : Int)])
 else
  (Dy.dg (Dy.val m) = m ∧ m.length ≤ (1048576 : Nat)) ∧
    (Dy.dg (Dy.val m) = m ∧ (0 : Int) ≤ (↑(Dy.tz (Dy.val m)) : Int) ∧ m.length ≤ (1048576 : Nat)) ∧
      ∀ (l1 : List Nat),
        l1 = Dy.dg (Dy.val m / (2 : Nat) ^ (↑(Dy.tz (Dy.val m)) : Int).toNat) →
          ∀ (b2 : Bool),
            b2 = decide (Dy.val m ≠ (0 : Nat) ∧ (↑(Dy.tz (Dy.val m)) : Int) < (↑(Dy.tz (Dy.val m)) : Int)) →
              Q
                (AV.agg
                  [AV.bool s, AV.dig [(0 : Nat)] l1,
                    AV.num IntKind.i64 (IntKind.i64.wrap (e + (↑(Dy.tz (Dy.val m)) : Int)))])) := by kernel_rfl
theorem vc_ref2_Sign (s : Bool) (m : List
  Nat) (e : Int) (Q : AV →
  Prop) : (evF Tryd.prog (look tab15) (lam []) false Tryd.f46
  [AV.agg [AV.bool s, AV.dig [(1 : Nat)] m, AV.num IntKind.i64 e]] Q) =
    (bif decide ((↑m.length : Int) = (0 : Int)) then Q (AV.num IntKind.i64 (0 : Int))
 else bif s then Q (AV.num IntKind.i64 (-1 : Int)) else Q (AV.num IntKind.i64 (1 : Int))) := by kernel_rfl
theorem vc_ref2_Top (s : Bool) (m : List
  Nat) (e : Int) (Q : AV →
  Prop) : (evF Tryd.prog (look tab15) (lam []) false Tryd.f47
  [AV.agg [AV.bool s, AV.dig [(1 : Nat)] m, AV.num IntKind.i64 e]] Q) =
    (bif decide ((↑m.length : Int) = (0 : Int)) then Q (AV.num IntKind.i64 (0 : Int))
 else
  (Dy.dg (Dy.val m) = m ∧ m.length ≤ (1048576 : Nat)) ∧
    Q (AV.num IntKind.i64 (IntKind.i64.wrap (e + (↑(Dy.bl (Dy.val m)) : Int))))) := by kernel_rfl
theorem vc_ref2_Neg (s : Bool) (m : List
  Nat) (e : Int) (Q : AV →
  Prop) : (evF Tryd.prog (look tab15) (lam []) true Tryd.f44
  [AV.agg [AV.bool s, AV.dig [(1 : Nat)] m, AV.num IntKind.i64 e]] Q) =
    (bif decide ((↑m.length : Int) > (0 : Int)) then
  Q (AV.agg [AV.bool !s, AV.dig [(0 : Nat), (1 : Nat)] m, AV.num IntKind.i64 e])
 else Q (AV.agg [AV.bool s, AV.dig [(0 : Nat), (1 : Nat)] m, AV.num IntKind.i64 e])) := by kernel_rfl
theorem vc_ref2_Abs (s : Bool) (m : List
  Nat) (e : Int) (Q : AV →
  Prop) : (evF Tryd.prog (look tab15) (lam []) true Tryd.f45
  [AV.agg [AV.bool s, AV.dig [(1 : Nat)] m, AV.num IntKind.i64 e]] Q) =
    (Q (AV.agg [AV.bool false, AV.dig [(0 : Nat), (1 : Nat)] m, AV.num IntKind.i64 e])) := by kernel_rfl
theorem vc_ref2_Int (n : Int) (Q : AV →
  Prop) : (evF Tryd.prog (look tab16) (lam []) false Tryd.f25 [AV.num IntKind.i64 n] Q) =
    (bif decide (n < (0 : Int)) then
  (Dy.dg (Dy.val (Dy.dg (IntKind.u64.wrap ((0 : Int) - IntKind.u64.wrap n)).toNat)) =
        Dy.dg (IntKind.u64.wrap ((0 : Int) - IntKind.u64.wrap n)).toNat ∧
      (Dy.dg (IntKind.u64.wrap ((0 : Int) - IntKind.u64.wrap n)).toNat).length ≤ (1048576 : Nat) ∧
        (-1099511627776 : Int) ≤ (0 : Int) ∧ (0 : Int) ≤ (1099511627776 : Int)) ∧
    ∀ (b1 : Bool),
      b1 =
          (Dy.form (decide (n < (0 : Int))) (Dy.val (Dy.dg (IntKind.u64.wrap ((0 : Int) - IntKind.u64.wrap n)).toNat))
              (0 : Int)).neg →
        ∀ (l2 : List Nat),
          l2 =
              (Dy.form (decide (n < (0 : Int)))
                  (Dy.val (Dy.dg (IntKind.u64.wrap ((0 : Int) - IntKind.u64.wrap n)).toNat)) (0 : Int)).mag →
            ∀ (n3 : Int),
              n3 =
                  (Dy.form (decide (n < (0 : Int)))
                      (Dy.val (Dy.dg (IntKind.u64.wrap ((0 : Int) - IntKind.u64.wrap n)).toNat)) (0 : Int)).exp →
                Q (AV.agg [AV.bool b1, AV.dig [(0 : Nat)] l2, AV.num IntKind.i64 n3])
 else
  (Dy.dg (Dy.val (Dy.dg (IntKind.u64.wrap n).toNat)) = Dy.dg (IntKind.u64.wrap n).toNat ∧
      (Dy.dg (IntKind.u64.wrap n).toNat).length ≤ (1048576 : Nat) ∧
        (-1099511627776 : Int) ≤ (0 : Int) ∧ (0 : Int) ≤ (1099511627776 : Int)) ∧
    ∀ (b4 : Bool),
      b4 = (Dy.form (decide (n < (0 : Int))) (Dy.val (Dy.dg (IntKind.u64.wrap n).toNat)) (0 : Int)).neg →
        ∀ (l5 : List Nat),
          l5 = (Dy.form (decide (n < (0 : Int))) (Dy.val (Dy.dg (IntKind.u64.wrap n).toNat)) (0 : Int)).mag →
            ∀ (n6 : Int),
              n6 = (Dy.form (decide (n < (0 : Int))) (Dy.val (Dy.dg (IntKind.u64.wrap n).toNat)) (0 : Int)).exp →
                Q (AV.agg [AV.bool b4, AV.dig [(0 : Nat)] l5, AV.num IntKind.i64 n6])) := by kernel_rfl
theorem vc_ref2_Int64 (s : Bool) (m : List
  Nat) (e : Int) (Q : AV →
  Prop) : (evF Tryd.prog (look tab16) (lam []) false Tryd.f27
  [AV.agg [AV.bool s, AV.dig [(1 : Nat)] m, AV.num IntKind.i64 e]] Q) =
    (bif decide ((↑m.length : Int) = (0 : Int)) then Q (AV.tup [AV.num IntKind.i64 (0 : Int), AV.bool true])
 else
  bif decide (e < (0 : Int)) then Q (AV.tup [AV.num IntKind.i64 (0 : Int), AV.bool false])
  else
    (Dy.dg (Dy.val m) = m ∧ m.length ≤ (1048576 : Nat) ∧ (-1099511627776 : Int) ≤ e ∧ e ≤ (1099511627776 : Int)) ∧
      bif decide (Dy.topD (Dy.Dyd.mk s m e) > (64 : Int)) then Q (AV.tup [AV.num IntKind.i64 (0 : Int), AV.bool false])
      else
        ((0 : Int) ≤ e ∧ e ≤ (33554432 : Int) ∧ m.length ≤ (1048576 : Nat)) ∧
          ((0 : Int) ≤ (0 : Int) ∧ (0 : Int) < (↑(Dy.dg (Dy.val m * (2 : Nat) ^ e.toNat)).length : Int)) ∧
            bif decide ((↑(Dy.dg (Dy.val m * (2 : Nat) ^ e.toNat)).length : Int) > (1 : Int)) then
              ((0 : Int) ≤ (1 : Int) ∧ (1 : Int) < (↑(Dy.dg (Dy.val m * (2 : Nat) ^ e.toNat)).length : Int)) ∧
                bif s then
                  ∀ (b1 : Bool),
                    b1 =
                        decide
                          (IntKind.u64.wrap
                              (IntKind.u64.wrap
                                  (↑((Dy.dg (Dy.val m * (2 : Nat) ^ e.toNat)).getD (0 : Nat) (0 : Nat)) : Int) +
                                IntKind.u64.wrap
                                  (IntKind.u64.wrap
                                      (↑((Dy.dg (Dy.val m * (2 : Nat) ^ e.toNat)).getD (1 : Nat) (0 : Nat)) : Int) *
                                    (2 : Int) ^ (32 : Nat))) ≤
                            (9223372036854775808 : Int)) →
                      bif b1 then
                        Q
                          (AV.tup
                            [AV.num IntKind.i64
                                (IntKind.i64.wrap
                                  ((0 : Int) -
                                    IntKind.i64.wrap
                                      (IntKind.u64.wrap
                                        (IntKind.u64.wrap
                                            (↑((Dy.dg (Dy.val m * (2 : Nat) ^ e.toNat)).getD (0 : Nat) (0 : Nat)) :
                                              Int) +
                                          IntKind.u64.wrap
                                            (IntKind.u64.wrap
                                                (↑((Dy.dg (Dy.val m * (2 : Nat) ^ e.toNat)).getD (1 : Nat) (0 : Nat)) :
                                                  Int) *
                                              (2 : Int) ^ (32 : Nat)))))),
                              AV.bool true])
                      else
                        bif !s then
                          ∀ (b2 : Bool),
                            b2 =
                                decide
                                  (IntKind.u64.wrap
                                      (IntKind.u64.wrap
                                          (↑((Dy.dg (Dy.val m * (2 : Nat) ^ e.toNat)).getD (0 : Nat) (0 : Nat)) : Int) +
                                        IntKind.u64.wrap
                                          (IntKind.u64.wrap
                                              (↑((Dy.dg (Dy.val m * (2 : Nat) ^ e.toNat)).getD (1 : Nat) (0 : Nat)) :
                                                Int) *
                                            (2 : Int) ^ (32 : Nat))) <
                                    (9223372036854775808 : Int)) →
                              bif b2 then
                                Q
                                  (AV.tup
                                    [AV.num IntKind.i64
                                        (IntKind.i64.wrap
                                          (IntKind.u64.wrap
                                            (IntKind.u64.wrap
                                                (↑((Dy.dg (Dy.val m * (2 : Nat) ^ e.toNat)).getD (0 : Nat) (0 : Nat)) :
                                                  Int) +
                                              IntKind.u64.wrap
                                                (IntKind.u64.wrap
                                                    (↑((Dy.dg (Dy.val m * (2 : Nat) ^ e.toNat)).getD (1 : Nat)
                                                          (0 : Nat)) :
                                                      Int) *
                                                  (2 : Int) ^ (32 : Nat))))),
                                      AV.bool true])
                              else Q (AV.tup [AV.num IntKind.i64 (0 : Int), AV.bool false])
                        else Q (AV.tup [AV.num IntKind.i64 (0 : Int), AV.bool false])
                else
                  bif !s then
                    ∀ (b3 : Bool),
                      b3 =
                          decide
                            (IntKind.u64.wrap
                                (IntKind.u64.wrap
                                    (↑((Dy.dg (Dy.val m * (2 : Nat) ^ e.toNat)).getD (0 : Nat) (0 : Nat)) : Int) +
                                  IntKind.u64.wrap
                                    (IntKind.u64.wrap
                                        (↑((Dy.dg (Dy.val m * (2 : Nat) ^ e.toNat)).getD (1 : Nat) (0 : Nat)) : Int) *
                                      (2 : Int) ^ (32 : Nat))) <
                              (9223372036854775808 : Int)) →
                        bif b3 then
                          Q
                            (AV.tup
                              [AV.num IntKind.i64
                                  (IntKind.i64.wrap
                                    (IntKind.u64.wrap
                                      (IntKind.u64.wrap
                                          (↑((Dy.dg (Dy.val m * (2 : Nat) ^ e.toNat)).getD (0 : Nat) (0 : Nat)) : Int) +
                                        IntKind.u64.wrap
                                          (IntKind.u64.wrap
                                              (↑((Dy.dg (Dy.val m * (2 : Nat) ^ e.toNat)).getD (1 : Nat) (0 : Nat)) :
                                                Int) *
                                            (2 : Int) ^ (32 : Nat))))),
                                AV.bool true])
                        else Q (AV.tup [AV.num IntKind.i64 (0 : Int), AV.bool false])
                  else Q (AV.tup [AV.num IntKind.i64 (0 : Int), AV.bool false])
            else
              bif s then
                ∀ (b4 : Bool),
                  b4 =
                      decide
                        (IntKind.u64.wrap (↑((Dy.dg (Dy.val m * (2 : Nat) ^ e.toNat)).getD (0 : Nat) (0 : Nat)) : Int) ≤
                          (9223372036854775808 : Int)) →
                    bif b4 then
                      Q
                        (AV.tup
                          [AV.num IntKind.i64
                              (IntKind.i64.wrap
                                ((0 : Int) -
                                  IntKind.i64.wrap
                                    (IntKind.u64.wrap
                                      (↑((Dy.dg (Dy.val m * (2 : Nat) ^ e.toNat)).getD (0 : Nat) (0 : Nat)) : Int)))),
                            AV.bool true])
                    else
                      bif !s then
                        ∀ (b5 : Bool),
                          b5 =
                              decide
                                (IntKind.u64.wrap
                                    (↑((Dy.dg (Dy.val m * (2 : Nat) ^ e.toNat)).getD (0 : Nat) (0 : Nat)) : Int) <
                                  (9223372036854775808 : Int)) →
                            bif b5 then
                              Q
                                (AV.tup
                                  [AV.num IntKind.i64
                                      (IntKind.i64.wrap
                                        (IntKind.u64.wrap
                                          (↑((Dy.dg (Dy.val m * (2 : Nat) ^ e.toNat)).getD (0 : Nat) (0 : Nat)) :
                                            Int))),
                                    AV.bool true])
                            else Q (AV.tup [AV.num IntKind.i64 (0 : Int), AV.bool false])
                      else Q (AV.tup [AV.num IntKind.i64 (0 : Int), AV.bool false])
              else
                bif !s then
                  ∀ (b6 : Bool),
                    b6 =
                        decide
                          (IntKind.u64.wrap
                              (↑((Dy.dg (Dy.val m * (2 : Nat) ^ e.toNat)).getD (0 : Nat) (0 : Nat)) : Int) <
                            (9223372036854775808 : Int)) →
                      bif b6 then
                        Q
                          (AV.tup
                            [AV.num IntKind.i64
                                (IntKind.i64.wrap
                                  (IntKind.u64.wrap
                                    (↑((Dy.dg (Dy.val m * (2 : Nat) ^ e.toNat)).getD (0 : Nat) (0 : Nat)) : Int))),
                              AV.bool true])
                      else Q (AV.tup [AV.num IntKind.i64 (0 : Int), AV.bool false])
                else Q (AV.tup [AV.num IntKind.i64 (0 : Int), AV.bool false])) := by kernel_rfl
theorem vc_law2_lent (s : Bool) (m : List
  Nat) (e : Int) (Q : AV →
  Prop) : (evF Tryd.prog (look tab15) (lam []) false Tryd.f13
  [AV.agg [AV.bool s, AV.dig [(1 : Nat)] m, AV.num IntKind.i64 e]] Q) =
    (((0 : Nat) ≤ m.length ∧ (0 : Nat) + m.length ≤ (1099511627776 : Nat)) ∧
  Q (AV.agg [AV.bool s, AV.dig [(0 : Nat)] ([] ++ m), AV.num IntKind.i64 e])) := by kernel_rfl
theorem vc_law2_known (Q : AV → Prop) : (evF Tryd.prog (look tab16) (lam []) false Tryd.f12 [] Q) =
    (∀ (b1 : Bool),
  b1 = (Dy.addD (Dy.Dyd.mk false [(3 : Nat)] (-2 : Int)) (Dy.Dyd.mk false [(1 : Nat)] (-2 : Int))).neg →
    ∀ (l2 : List Nat),
      l2 = (Dy.addD (Dy.Dyd.mk false [(3 : Nat)] (-2 : Int)) (Dy.Dyd.mk false [(1 : Nat)] (-2 : Int))).mag →
        ∀ (n3 : Int),
          n3 = (Dy.addD (Dy.Dyd.mk false [(3 : Nat)] (-2 : Int)) (Dy.Dyd.mk false [(1 : Nat)] (-2 : Int))).exp →
            ∀ (n4 : Int),
              n4 =
                  (Dy.boundIf
                      (Dy.mayD (Dy.Dyd.mk false [(3 : Nat)] (-2 : Int)) &&
                        Dy.mayD (Dy.Dyd.mk false [(1 : Nat)] (-2 : Int)))
                      (Dy.addD (Dy.Dyd.mk false [(3 : Nat)] (-2 : Int)) (Dy.Dyd.mk false [(1 : Nat)] (-2 : Int)))).snd →
                bif decide (n4 = (0 : Int)) then
                  Q (AV.bool (Dy.sameD (Dy.Dyd.mk b1 l2 n3) (Dy.Dyd.mk false [(1 : Nat)] (0 : Int))))
                else Q (AV.bool false)) := by kernel_rfl
theorem vc_law2_near1 (s : Bool) (m : List
  Nat) (e : Int) (Q : AV →
  Prop) : (evF Tryd.prog (look tab15) (lam [((2 : Nat), LoopAnn.unroll (4 : Nat))]) false Tryd.f28
  [AV.vec [(1 : Nat)] (3 : Nat) [AV.agg [AV.bool s, AV.dig [(1 : Nat)] m, AV.num IntKind.i64 e]]] Q) =
    (bif decide ((0 : Int) < (↑[AV.agg [AV.bool s, AV.dig [(1 : Nat)] m, AV.num IntKind.i64 e]].length : Int)) then
  ((0 : Int) ≤ (0 : Int) ∧
      (0 : Int) < (↑[AV.agg [AV.bool s, AV.dig [(1 : Nat)] m, AV.num IntKind.i64 e]].length : Int)) ∧
    bif decide ((↑m.length : Int) > (100 : Int)) then Q (AV.bool false)
    else
      ((0 : Int) ≤ (0 : Int) ∧
          (0 : Int) < (↑[AV.agg [AV.bool s, AV.dig [(1 : Nat)] m, AV.num IntKind.i64 e]].length : Int)) ∧
        bif decide (e < (-3000 : Int)) then Q (AV.bool false)
        else
          ((0 : Int) ≤ (0 : Int) ∧
              (0 : Int) < (↑[AV.agg [AV.bool s, AV.dig [(1 : Nat)] m, AV.num IntKind.i64 e]].length : Int)) ∧
            bif decide (e > (3000 : Int)) then Q (AV.bool false)
            else
              ((0 : Int) ≤ (0 : Int) ∧
                  (0 : Int) < (↑[AV.agg [AV.bool s, AV.dig [(1 : Nat)] m, AV.num IntKind.i64 e]].length : Int)) ∧
                bif !Dy.mayD (Dy.Dyd.mk s m e) then Q (AV.bool false)
                else
                  bif
                      decide
                        (IntKind.i64.wrap ((0 : Int) + (1 : Int)) <
                          (↑[AV.agg [AV.bool s, AV.dig [(1 : Nat)] m, AV.num IntKind.i64 e]].length : Int)) then
                    False
                  else Q (AV.bool true)
 else Q (AV.bool true)) := by kernel_rfl
theorem vc_law2_near2 (s : Bool) (s' : Bool) (m : List
  Nat) (m' : List
  Nat) (e : Int) (e' : Int) (Q : AV →
  Prop) : (evF Tryd.prog (look tab15) (lam [((2 : Nat), LoopAnn.unroll (4 : Nat))]) false Tryd.f28
  [AV.vec [(1 : Nat)] (3 : Nat)
      [AV.agg [AV.bool s, AV.dig [(1 : Nat)] m, AV.num IntKind.i64 e],
        AV.agg [AV.bool s', AV.dig [(1 : Nat)] m', AV.num IntKind.i64 e']]]
  Q) =
    (bif
    decide
      ((0 : Int) <
        (↑[AV.agg [AV.bool s, AV.dig [(1 : Nat)] m, AV.num IntKind.i64 e],
                AV.agg [AV.bool s', AV.dig [(1 : Nat)] m', AV.num IntKind.i64 e']].length :
          Int)) then
  ((0 : Int) ≤ (0 : Int) ∧
      (0 : Int) <
        (↑[AV.agg [AV.bool s, AV.dig [(1 : Nat)] m, AV.num IntKind.i64 e],
                AV.agg [AV.bool s', AV.dig [(1 : Nat)] m', AV.num IntKind.i64 e']].length :
          Int)) ∧
    bif decide ((↑m.length : Int) > (100 : Int)) then Q (AV.bool false)
    else
      ((0 : Int) ≤ (0 : Int) ∧
          (0 : Int) <
            (↑[AV.agg [AV.bool s, AV.dig [(1 : Nat)] m, AV.num IntKind.i64 e],
                    AV.agg [AV.bool s', AV.dig [(1 : Nat)] m', AV.num IntKind.i64 e']].length :
              Int)) ∧
        bif decide (e < (-3000 : Int)) then Q (AV.bool false)
        else
          ((0 : Int) ≤ (0 : Int) ∧
              (0 : Int) <
                (↑[AV.agg [AV.bool s, AV.dig [(1 : Nat)] m, AV.num IntKind.i64 e],
                        AV.agg [AV.bool s', AV.dig [(1 : Nat)] m', AV.num IntKind.i64 e']].length :
                  Int)) ∧
            bif decide (e > (3000 : Int)) then Q (AV.bool false)
            else
              ((0 : Int) ≤ (0 : Int) ∧
                  (0 : Int) <
                    (↑[AV.agg [AV.bool s, AV.dig [(1 : Nat)] m, AV.num IntKind.i64 e],
                            AV.agg [AV.bool s', AV.dig [(1 : Nat)] m', AV.num IntKind.i64 e']].length :
                      Int)) ∧
                bif !Dy.mayD (Dy.Dyd.mk s m e) then Q (AV.bool false)
                else
                  bif
                      decide
                        (IntKind.i64.wrap ((0 : Int) + (1 : Int)) <
                          (↑[AV.agg [AV.bool s, AV.dig [(1 : Nat)] m, AV.num IntKind.i64 e],
                                  AV.agg [AV.bool s', AV.dig [(1 : Nat)] m', AV.num IntKind.i64 e']].length :
                            Int)) then
                    ((0 : Int) ≤ IntKind.i64.wrap ((0 : Int) + (1 : Int)) ∧
                        IntKind.i64.wrap ((0 : Int) + (1 : Int)) <
                          (↑[AV.agg [AV.bool s, AV.dig [(1 : Nat)] m, AV.num IntKind.i64 e],
                                  AV.agg [AV.bool s', AV.dig [(1 : Nat)] m', AV.num IntKind.i64 e']].length :
                            Int)) ∧
                      bif decide ((↑m'.length : Int) > (100 : Int)) then Q (AV.bool false)
                      else
                        ((0 : Int) ≤ IntKind.i64.wrap ((0 : Int) + (1 : Int)) ∧
                            IntKind.i64.wrap ((0 : Int) + (1 : Int)) <
                              (↑[AV.agg [AV.bool s, AV.dig [(1 : Nat)] m, AV.num IntKind.i64 e],
                                      AV.agg [AV.bool s', AV.dig [(1 : Nat)] m', AV.num IntKind.i64 e']].length :
                                Int)) ∧
                          bif decide (e' < (-3000 : Int)) then Q (AV.bool false)
                          else
                            ((0 : Int) ≤ IntKind.i64.wrap ((0 : Int) + (1 : Int)) ∧
                                IntKind.i64.wrap ((0 : Int) + (1 : Int)) <
                                  (↑[AV.agg [AV.bool s, AV.dig [(1 : Nat)] m, AV.num IntKind.i64 e],
                                          AV.agg [AV.bool s', AV.dig [(1 : Nat)] m', AV.num IntKind.i64 e']].length :
                                    Int)) ∧
                              bif decide (e' > (3000 : Int)) then Q (AV.bool false)
                              else
                                ((0 : Int) ≤ IntKind.i64.wrap ((0 : Int) + (1 : Int)) ∧
                                    IntKind.i64.wrap ((0 : Int) + (1 : Int)) <
                                      (↑[AV.agg [AV.bool s, AV.dig [(1 : Nat)] m, AV.num IntKind.i64 e],
                                              AV.agg
                                                [AV.bool s', AV.dig [(1 : Nat)] m', AV.num IntKind.i64 e']].length :
                                        Int)) ∧
                                  bif !Dy.mayD (Dy.Dyd.mk s' m' e') then Q (AV.bool false)
                                  else
                                    bif
                                        decide
                                          (IntKind.i64.wrap (IntKind.i64.wrap ((0 : Int) + (1 : Int)) + (1 : Int)) <
                                            (↑[AV.agg [AV.bool s, AV.dig [(1 : Nat)] m, AV.num IntKind.i64 e],
                                                    AV.agg
                                                      [AV.bool s', AV.dig [(1 : Nat)] m',
                                                        AV.num IntKind.i64 e']].length :
                                              Int)) then
                                      False
                                    else Q (AV.bool true)
                  else Q (AV.bool true)
 else Q (AV.bool true)) := by kernel_rfl
theorem vc_law2_near3 (s : Bool) (s' : Bool) (s2 : Bool) (m : List
  Nat) (m' : List
  Nat) (m2 : List
  Nat) (e : Int) (e' : Int) (e2 : Int) (Q : AV →
  Prop) : (evF Tryd.prog (look tab15) (lam [((2 : Nat), LoopAnn.unroll (4 : Nat))]) false Tryd.f28
  [AV.vec [(1 : Nat)] (3 : Nat)
      [AV.agg [AV.bool s, AV.dig [(1 : Nat)] m, AV.num IntKind.i64 e],
        AV.agg [AV.bool s', AV.dig [(1 : Nat)] m', AV.num IntKind.i64 e'],
        AV.agg [AV.bool s2, AV.dig [(1 : Nat)] m2, AV.num IntKind.i64 e2]]]
  Q) =
    (bif
    decide
      ((0 : Int) <
        (↑[AV.agg [AV.bool s, AV.dig [(1 : Nat)] m, AV.num IntKind.i64 e],
                AV.agg [AV.bool s', AV.dig [(1 : Nat)] m', AV.num IntKind.i64 e'],
                AV.agg [AV.bool s2, AV.dig [(1 : Nat)] m2, AV.num IntKind.i64 e2]].length :
          Int)) then
  ((0 : Int) ≤ (0 : Int) ∧
      (0 : Int) <
        (↑[AV.agg [AV.bool s, AV.dig [(1 : Nat)] m, AV.num IntKind.i64 e],
                AV.agg [AV.bool s', AV.dig [(1 : Nat)] m', AV.num IntKind.i64 e'],
                AV.agg [AV.bool s2, AV.dig [(1 : Nat)] m2, AV.num IntKind.i64 e2]].length :
          Int)) ∧
    bif decide ((↑m.length : Int) > (100 : Int)) then Q (AV.bool false)
    else
      ((0 : Int) ≤ (0 : Int) ∧
          (0 : Int) <
            (↑[AV.agg [AV.bool s, AV.dig [(1 : Nat)] m, AV.num IntKind.i64 e],
                    AV.agg [AV.bool s', AV.dig [(1 : Nat)] m', AV.num IntKind.i64 e'],
                    AV.agg [AV.bool s2, AV.dig [(1 : Nat)] m2, AV.num IntKind.i64 e2]].length :
              Int)) ∧
        bif decide (e < (-3000 : Int)) then Q (AV.bool false)
        else
          ((0 : Int) ≤ (0 : Int) ∧
              (0 : Int) <
                (↑[AV.agg [AV.bool s, AV.dig [(1 : Nat)] m, AV.num IntKind.i64 e],
                        AV.agg [AV.bool s', AV.dig [(1 : Nat)] m', AV.num IntKind.i64 e'],
                        AV.agg [AV.bool s2, AV.dig [(1 : Nat)] m2, AV.num IntKind.i64 e2]].length :
                  Int)) ∧
            bif decide (e > (3000 : Int)) then Q (AV.bool false)
            else
              ((0 : Int) ≤ (0 : Int) ∧
                  (0 : Int) <
                    (↑[AV.agg [AV.bool s, AV.dig [(1 : Nat)] m, AV.num IntKind.i64 e],
                            AV.agg [AV.bool s', AV.dig [(1 : Nat)] m', AV.num IntKind.i64 e'],
                            AV.agg [AV.bool s2, AV.dig [(1 : Nat)] m2, AV.num IntKind.i64 e2]].length :
                      Int)) ∧
                bif !Dy.mayD (Dy.Dyd.mk s m e) then Q (AV.bool false)
                else
                  bif
                      decide
                        (IntKind.i64.wrap ((0 : Int) + (1 : Int)) <
                          (↑[AV.agg [AV.bool s, AV.dig [(1 : Nat)] m, AV.num IntKind.i64 e],
                                  AV.agg [AV.bool s', AV.dig [(1 : Nat)] m', AV.num IntKind.i64 e'],
                                  AV.agg [AV.bool s2, AV.dig [(1 : Nat)] m2, AV.num IntKind.i64 e2]].length :
                            Int)) then
                    ((0 : Int) ≤ IntKind.i64.wrap ((0 : Int) + (1 : Int)) ∧
                        IntKind.i64.wrap ((0 : Int) + (1 : Int)) <
                          (↑[AV.agg [AV.bool s, AV.dig [(1 : Nat)] m, AV.num IntKind.i64 e],
                                  AV.agg [AV.bool s', AV.dig [(1 : Nat)] m', AV.num IntKind.i64 e'],
                                  AV.agg [AV.bool s2, AV.dig [(1 : Nat)] m2, AV.num IntKind.i64 e2]].length :
                            Int)) ∧
                      bif decide ((↑m'.length : Int) > (100 : Int)) then Q (AV.bool false)
                      else
                        ((0 : Int) ≤ IntKind.i64.wrap ((0 : Int) + (1 : Int)) ∧
                            IntKind.i64.wrap ((0 : Int) + (1 : Int)) <
                              (↑[AV.agg [AV.bool s, AV.dig [(1 : Nat)] m, AV.num IntKind.i64 e],
                                      AV.agg [AV.bool s', AV.dig [(1 : Nat)] m', AV.num IntKind.i64 e'],
                                      AV.agg [AV.bool s2, AV.dig [(1 : Nat)] m2, AV.num IntKind.i64 e2]].length :
                                Int)) ∧
                          bif decide (e' < (-3000 : Int)) then Q (AV.bool false)
                          else
                            ((0 : Int) ≤ IntKind.i64.wrap ((0 : Int) + (1 : Int)) ∧
                                IntKind.i64.wrap ((0 : Int) + (1 : Int)) <
                                  (↑[AV.agg [AV.bool s, AV.dig [(1 : Nat)] m, AV.num IntKind.i64 e],
                                          AV.agg [AV.bool s', AV.dig [(1 : Nat)] m', AV.num IntKind.i64 e'],
                                          AV.agg [AV.bool s2, AV.dig [(1 : Nat)] m2, AV.num IntKind.i64 e2]].length :
                                    Int)) ∧
                              bif decide (e' > (3000 : Int)) then Q (AV.bool false)
                              else
                                ((0 : Int) ≤ IntKind.i64.wrap ((0 : Int) + (1 : Int)) ∧
                                    IntKind.i64.wrap ((0 : Int) + (1 : Int)) <
                                      (↑[AV.agg [AV.bool s, AV.dig [(1 : Nat)] m, AV.num IntKind.i64 e],
                                              AV.agg [AV.bool s', AV.dig [(1 : Nat)] m', AV.num IntKind.i64 e'],
                                              AV.agg
                                                [AV.bool s2, AV.dig [(1 : Nat)] m2, AV.num IntKind.i64 e2]].length :
                                        Int)) ∧
                                  bif !Dy.mayD (Dy.Dyd.mk s' m' e') then Q (AV.bool false)
                                  else
                                    bif
                                        decide
                                          (IntKind.i64.wrap (IntKind.i64.wrap ((0 : Int) + (1 : Int)) + (1 : Int)) <
                                            (↑[AV.agg [AV.bool s, AV.dig [(1 : Nat)] m, AV.num IntKind.i64 e],
                                                    AV.agg [AV.bool s', AV.dig [(1 : Nat)] m', AV.num IntKind.i64 e'],
                                                    AV.agg
                                                      [AV.bool s2, AV.dig [(1 : Nat)] m2,
                                                        AV.num IntKind.i64 e2]].length :
                                              Int)) then
                                      ((0 : Int) ≤
                                            IntKind.i64.wrap (IntKind.i64.wrap ((0 : Int) + (1 : Int)) + (1 : Int)) ∧
                                          IntKind.i64.wrap (IntKind.i64.wrap ((0 : Int) + (1 : Int)) + (1 : Int)) <
                                            (↑[AV.agg [AV.bool s, AV.dig [(1 : Nat)] m, AV.num IntKind.i64 e],
                                                    AV.agg [AV.bool s', AV.dig [(1 : Nat)] m', AV.num IntKind.i64 e'],
                                                    AV.agg
                                                      [AV.bool s2, AV.dig [(1 : Nat)] m2,
                                                        AV.num IntKind.i64 e2]].length :
                                              Int)) ∧
                                        bif decide ((↑m2.length : Int) > (100 : Int)) then Q (AV.bool false)
                                        else
                                          ((0 : Int) ≤
                                                IntKind.i64.wrap
                                                  (IntKind.i64.wrap ((0 : Int) + (1 : Int)) + (1 : Int)) ∧
                                              IntKind.i64.wrap (IntKind.i64.wrap ((0 : Int) + (1 : Int)) + (1 : Int)) <
                                                (↑[AV.agg [AV.bool s, AV.dig [(1 : Nat)] m, AV.num IntKind.i64 e],
                                                        AV.agg
                                                          [AV.bool s', AV.dig [(1 : Nat)] m', AV.num IntKind.i64 e'],
                                                        AV.agg
                                                          [AV.bool s2, AV.dig [(1 : Nat)] m2,
                                                            AV.num IntKind.i64 e2]].length :
                                                  Int)) ∧
                                            bif decide (e2 < (-3000 : Int)) then Q (AV.bool false)
                                            else
                                              ((0 : Int) ≤
                                                    IntKind.i64.wrap
                                                      (IntKind.i64.wrap ((0 : Int) + (1 : Int)) + (1 : Int)) ∧
                                                  IntKind.i64.wrap
                                                      (IntKind.i64.wrap ((0 : Int) + (1 : Int)) + (1 : Int)) <
                                                    (↑[AV.agg [AV.bool s, AV.dig [(1 : Nat)] m, AV.num IntKind.i64 e],
                                                            AV.agg
                                                              [AV.bool s', AV.dig [(1 : Nat)] m',
                                                                AV.num IntKind.i64 e'],
                                                            AV.agg
                                                              [AV.bool s2, AV.dig [(1 : Nat)] m2,
                                                                AV.num IntKind.i64 e2]].length :
                                                      Int)) ∧
                                                bif decide (e2 > (3000 : Int)) then Q (AV.bool false)
                                                else
                                                  ((0 : Int) ≤
                                                        IntKind.i64.wrap
                                                          (IntKind.i64.wrap ((0 : Int) + (1 : Int)) + (1 : Int)) ∧
                                                      IntKind.i64.wrap
                                                          (IntKind.i64.wrap ((0 : Int) + (1 : Int)) + (1 : Int)) <
                                                        (↑[AV.agg
                                                                  [AV.bool s, AV.dig [(1 : Nat)] m,
                                                                    AV.num IntKind.i64 e],
                                                                AV.agg
                                                                  [AV.bool s', AV.dig [(1 : Nat)] m',
                                                                    AV.num IntKind.i64 e'],
                                                                AV.agg
                                                                  [AV.bool s2, AV.dig [(1 : Nat)] m2,
                                                                    AV.num IntKind.i64 e2]].length :
                                                          Int)) ∧
                                                    bif !Dy.mayD (Dy.Dyd.mk s2 m2 e2) then Q (AV.bool false)
                                                    else
                                                      bif
                                                          decide
                                                            (IntKind.i64.wrap
                                                                (IntKind.i64.wrap
                                                                    (IntKind.i64.wrap ((0 : Int) + (1 : Int)) +
                                                                      (1 : Int)) +
                                                                  (1 : Int)) <
                                                              (↑[AV.agg
                                                                        [AV.bool s, AV.dig [(1 : Nat)] m,
                                                                          AV.num IntKind.i64 e],
                                                                      AV.agg
                                                                        [AV.bool s', AV.dig [(1 : Nat)] m',
                                                                          AV.num IntKind.i64 e'],
                                                                      AV.agg
                                                                        [AV.bool s2, AV.dig [(1 : Nat)] m2,
                                                                          AV.num IntKind.i64 e2]].length :
                                                                Int)) then
                                                        False
                                                      else Q (AV.bool true)
                                    else Q (AV.bool true)
                  else Q (AV.bool true)
 else Q (AV.bool true)) := by kernel_rfl
end Go.AI
