/- Printed by a program of mine: what a body, or a round of a loop, comes to. -/
import Derived.Test.YtnhbdcnnanfacaaDoorAIspec4
namespace Go.AI
open Go Go.RowKit Go.Proofs
set_option linter.unusedVariables false
set_option maxRecDepth 100000
set_option maxHeartbeats 0
theorem vc_dyad_inside (e : Int) (Q : AV →
  Prop) : (evF Tryd.prog (look tab8) (lam []) false Tryd.f59 [AV.num IntKind.i64 e] Q) =
    (bif decide ((-16777216 : Int) ≤ e) then Q (AV.bool (decide (e ≤ (16777216 : Int))))
 else Q (AV.bool false)) := by kernel_rfl
theorem vc_dyad_May (s : Bool) (m : List
  Nat) (e : Int) (Q : AV →
  Prop) : (evF Tryd.prog (look tab9) (lam []) false Tryd.f14
  [AV.agg [AV.bool s, AV.dig [(1 : Nat)] m, AV.num IntKind.i64 e]] Q) =
    (bif !Dy.may m then Q (AV.bool false)
 else
  bif decide ((↑m.length : Int) = (0 : Int)) then
    bif !s then Q (AV.bool (decide (e = (0 : Int)))) else Q (AV.bool false)
  else
    ((0 : Int) ≤ (0 : Int) ∧ (0 : Int) < (↑m.length : Int)) ∧
      bif
          decide
            (IntKind.u32.wrap
                (↑(BitVec.ofInt (32 : Nat) (↑(m.getD (0 : Nat) (0 : Nat)) : Int) &&&
                        BitVec.ofInt (32 : Nat) (1 : Int)).toNat :
                  Int) =
              (1 : Int)) then
        Q (AV.bool (Dy.inside e))
      else Q (AV.bool false)) := by kernel_rfl
theorem vc_dyad_own (s : Bool) (m : List
  Nat) (e : Int) (Q : AV →
  Prop) : (evF Tryd.prog (look tab9) (lam []) false Tryd.f72
  [AV.agg [AV.bool s, AV.dig [(1 : Nat)] m, AV.num IntKind.i64 e]] Q) =
    (m.length ≤ (1099511627776 : Nat) ∧
  Q (AV.agg [AV.bool s, AV.dig [(0 : Nat)] m, AV.num IntKind.i64 e])) := by kernel_rfl
theorem vc_dyad_both (s : Bool) (s' : Bool) (m : List
  Nat) (m' : List
  Nat) (e : Int) (e' : Int) (Q : AV →
  Prop) : (evF Tryd.prog (look tab10) (lam [((2 : Nat), LoopAnn.unroll (3 : Nat))]) false Tryd.f68
  [AV.vec [(1 : Nat)] (3 : Nat)
      [AV.agg [AV.bool s, AV.dig [(1 : Nat)] m, AV.num IntKind.i64 e],
        AV.agg [AV.bool s', AV.dig [(1 : Nat)] m', AV.num IntKind.i64 e']]]
  Q) =
    (bif
    decide
      ((0 : Int) <
        (↑[AV.agg [AV.bool s, AV.dig [(1 : Nat)] m, AV.num IntKind.i64 e],
                AV.agg [AV.bool s', AV.dig [(1 : Nat)] m', AV.num IntKind.i64 e']].length :
          Int)) then
  ((0 : Int) ≤ (0 : Int) ∧
      (0 : Int) <
        (↑[AV.agg [AV.bool s, AV.dig [(1 : Nat)] m, AV.num IntKind.i64 e],
                AV.agg [AV.bool s', AV.dig [(1 : Nat)] m', AV.num IntKind.i64 e']].length :
          Int)) ∧
    bif !Dy.mayD (Dy.Dyd.mk s m e) then Q (AV.bool false)
    else
      bif
          decide
            (IntKind.i64.wrap ((0 : Int) + (1 : Int)) <
              (↑[AV.agg [AV.bool s, AV.dig [(1 : Nat)] m, AV.num IntKind.i64 e],
                      AV.agg [AV.bool s', AV.dig [(1 : Nat)] m', AV.num IntKind.i64 e']].length :
                Int)) then
        ((0 : Int) ≤ IntKind.i64.wrap ((0 : Int) + (1 : Int)) ∧
            IntKind.i64.wrap ((0 : Int) + (1 : Int)) <
              (↑[AV.agg [AV.bool s, AV.dig [(1 : Nat)] m, AV.num IntKind.i64 e],
                      AV.agg [AV.bool s', AV.dig [(1 : Nat)] m', AV.num IntKind.i64 e']].length :
                Int)) ∧
          bif !Dy.mayD (Dy.Dyd.mk s' m' e') then Q (AV.bool false)
          else
            bif
                decide
                  (IntKind.i64.wrap (IntKind.i64.wrap ((0 : Int) + (1 : Int)) + (1 : Int)) <
                    (↑[AV.agg [AV.bool s, AV.dig [(1 : Nat)] m, AV.num IntKind.i64 e],
                            AV.agg [AV.bool s', AV.dig [(1 : Nat)] m', AV.num IntKind.i64 e']].length :
                      Int)) then
              False
            else Q (AV.bool true)
      else Q (AV.bool true)
 else Q (AV.bool true)) := by kernel_rfl
theorem vc_dyad_Make (s : Bool) (m : List
  Nat) (e : Int) (Q : AV →
  Prop) : (evF Tryd.prog (look tab10) (lam []) false Tryd.f16 [AV.bool s, AV.dig [(2 : Nat)] m, AV.num IntKind.i64 e]
  Q) =
    (bif !Dy.may m then
  Q (AV.tup [AV.agg [AV.bool false, AV.dig [(0 : Nat)] [], AV.num IntKind.i64 (0 : Int)], AV.num IntKind.i64 (2 : Int)])
 else
  bif decide ((↑m.length : Int) = (0 : Int)) then
    Q
      (AV.tup
        [AV.agg [AV.bool false, AV.dig [(0 : Nat)] [], AV.num IntKind.i64 (0 : Int)], AV.num IntKind.i64 (0 : Int)])
  else
    bif decide (e > IntKind.i64.wrap ((16777216 : Int) - (↑(Dy.lowN m) : Int))) then
      Q
        (AV.tup
          [AV.agg [AV.bool false, AV.dig [(0 : Nat)] [], AV.num IntKind.i64 (0 : Int)], AV.num IntKind.i64 (20 : Int)])
    else
      bif decide (e < IntKind.i64.wrap ((-16777216 : Int) - (↑(Dy.lowN m) : Int))) then
        Q
          (AV.tup
            [AV.agg [AV.bool false, AV.dig [(0 : Nat)] [], AV.num IntKind.i64 (0 : Int)],
              AV.num IntKind.i64 (20 : Int)])
      else
        ∀ (l1 : List Nat),
          l1 = (Dy.shiftN m (IntKind.i64.wrap ((0 : Int) - (↑(Dy.lowN m) : Int)))).mag →
            ∀ (b2 : Bool),
              b2 = (Dy.shiftN m (IntKind.i64.wrap ((0 : Int) - (↑(Dy.lowN m) : Int)))).lost →
                ∀ (n3 : Int),
                  n3 = (Dy.shiftN m (IntKind.i64.wrap ((0 : Int) - (↑(Dy.lowN m) : Int)))).err →
                    Q
                      (AV.tup
                        [AV.agg
                            [AV.bool s, AV.dig [(0 : Nat)] l1,
                              AV.num IntKind.i64 (IntKind.i64.wrap (e + (↑(Dy.lowN m) : Int)))],
                          AV.num IntKind.i64 (0 : Int)])) := by kernel_rfl
theorem vc_dyad_signed (s : Bool) (n : Bool) (m : List
  Nat) (e : Int) (Q : AV →
  Prop) : (evF Tryd.prog (look tab10) (lam []) false Tryd.f70
  [AV.agg [AV.bool s, AV.dig [(1 : Nat)] m, AV.num IntKind.i64 e], AV.bool n] Q) =
    (m.length ≤ (1048576 : Nat) ∧
  ∀ (b1 : Bool),
    b1 = s →
      ∀ (l2 : List Nat),
        l2 = m →
          ∀ (n3 : Int),
            n3 = e →
              bif n then
                Q
                  (AV.agg
                    [AV.bool (decide ((↑l2.length : Int) > (0 : Int))), AV.dig [(0 : Nat)] l2, AV.num IntKind.i64 n3])
              else Q (AV.agg [AV.bool false, AV.dig [(0 : Nat)] l2, AV.num IntKind.i64 n3])) := by kernel_rfl
theorem vc_dyad_Sign (s : Bool) (m : List
  Nat) (e : Int) (Q : AV →
  Prop) : (evF Tryd.prog (look tab10) (lam []) false Tryd.f40
  [AV.agg [AV.bool s, AV.dig [(1 : Nat)] m, AV.num IntKind.i64 e]] Q) =
    (bif !Dy.mayD (Dy.Dyd.mk s m e) then Q (AV.num IntKind.i64 (0 : Int))
 else
  bif decide ((↑m.length : Int) = (0 : Int)) then Q (AV.num IntKind.i64 (0 : Int))
  else bif s then Q (AV.num IntKind.i64 (-1 : Int)) else Q (AV.num IntKind.i64 (1 : Int))) := by kernel_rfl
theorem vc_dyad_Top (s : Bool) (m : List
  Nat) (e : Int) (Q : AV →
  Prop) : (evF Tryd.prog (look tab10) (lam []) false Tryd.f43
  [AV.agg [AV.bool s, AV.dig [(1 : Nat)] m, AV.num IntKind.i64 e]] Q) =
    (bif !Dy.mayD (Dy.Dyd.mk s m e) then Q (AV.num IntKind.i64 (0 : Int))
 else
  bif decide ((↑m.length : Int) = (0 : Int)) then Q (AV.num IntKind.i64 (0 : Int))
  else Q (AV.num IntKind.i64 (IntKind.i64.wrap (e + (↑(Dy.lenN m) : Int))))) := by kernel_rfl
theorem vc_dyad_Int (n : Int) (Q : AV →
  Prop) : (evF Tryd.prog (look tab11) (lam []) false Tryd.f24 [AV.num IntKind.i64 n] Q) =
    (bif decide (n < (0 : Int)) then
  ∀ (b1 : Bool),
    b1 =
        (Dy.makeD (decide (n < (0 : Int))) (Dy.dg (IntKind.u64.wrap ((0 : Int) - IntKind.u64.wrap n)).toNat)
              (0 : Int)).1.neg →
      ∀ (l2 : List Nat),
        l2 =
            (Dy.makeD (decide (n < (0 : Int))) (Dy.dg (IntKind.u64.wrap ((0 : Int) - IntKind.u64.wrap n)).toNat)
                  (0 : Int)).1.mag →
          ∀ (n3 : Int),
            n3 =
                (Dy.makeD (decide (n < (0 : Int))) (Dy.dg (IntKind.u64.wrap ((0 : Int) - IntKind.u64.wrap n)).toNat)
                      (0 : Int)).1.exp →
              ∀ (n4 : Int),
                n4 =
                    (Dy.makeD (decide (n < (0 : Int))) (Dy.dg (IntKind.u64.wrap ((0 : Int) - IntKind.u64.wrap n)).toNat)
                        (0 : Int)).snd →
                  Q (AV.agg [AV.bool b1, AV.dig [(0 : Nat)] l2, AV.num IntKind.i64 n3])
 else
  ∀ (b5 : Bool),
    b5 = (Dy.makeD (decide (n < (0 : Int))) (Dy.dg (IntKind.u64.wrap n).toNat) (0 : Int)).1.neg →
      ∀ (l6 : List Nat),
        l6 = (Dy.makeD (decide (n < (0 : Int))) (Dy.dg (IntKind.u64.wrap n).toNat) (0 : Int)).1.mag →
          ∀ (n7 : Int),
            n7 = (Dy.makeD (decide (n < (0 : Int))) (Dy.dg (IntKind.u64.wrap n).toNat) (0 : Int)).1.exp →
              ∀ (n8 : Int),
                n8 = (Dy.makeD (decide (n < (0 : Int))) (Dy.dg (IntKind.u64.wrap n).toNat) (0 : Int)).snd →
                  Q (AV.agg [AV.bool b5, AV.dig [(0 : Nat)] l6, AV.num IntKind.i64 n7])) := by kernel_rfl
theorem vc_dyad_Int64 (s : Bool) (m : List
  Nat) (e : Int) (Q : AV →
  Prop) : (evF Tryd.prog (look tab11) (lam []) false Tryd.f26
  [AV.agg [AV.bool s, AV.dig [(1 : Nat)] m, AV.num IntKind.i64 e]] Q) =
    (bif !Dy.mayD (Dy.Dyd.mk s m e) then Q (AV.tup [AV.num IntKind.i64 (0 : Int), AV.bool false])
 else
  bif decide (e < (0 : Int)) then Q (AV.tup [AV.num IntKind.i64 (0 : Int), AV.bool false])
  else
    bif decide ((if Dy.mayD (Dy.Dyd.mk s m e) = true then Dy.topD (Dy.Dyd.mk s m e) else (0 : Int)) > (64 : Int)) then
      Q (AV.tup [AV.num IntKind.i64 (0 : Int), AV.bool false])
    else
      ∀ (l1 : List Nat),
        l1 = (Dy.shiftN m e).mag →
          ∀ (b2 : Bool),
            b2 = (Dy.shiftN m e).lost →
              ∀ (n3 : Int),
                n3 = (Dy.shiftN m e).err →
                  ∀ (n4 : Int),
                    n4 =
                        (↑(if (Dy.may l1 && decide (l1.length ≤ (2 : Nat))) = true then Dy.val l1 else (0 : Nat)) :
                          Int) →
                      ∀ (b5 : Bool),
                        b5 = (Dy.may l1 && decide (l1.length ≤ (2 : Nat))) →
                          bif s then
                            ∀ (b6 : Bool),
                              b6 = decide (n4 ≤ (9223372036854775808 : Int)) →
                                bif b6 then
                                  Q
                                    (AV.tup
                                      [AV.num IntKind.i64 (IntKind.i64.wrap (IntKind.u64.wrap ((0 : Int) - n4))),
                                        AV.bool true])
                                else
                                  bif !s then
                                    ∀ (b7 : Bool),
                                      b7 = decide (n4 < (9223372036854775808 : Int)) →
                                        bif b7 then Q (AV.tup [AV.num IntKind.i64 (IntKind.i64.wrap n4), AV.bool true])
                                        else Q (AV.tup [AV.num IntKind.i64 (0 : Int), AV.bool false])
                                  else Q (AV.tup [AV.num IntKind.i64 (0 : Int), AV.bool false])
                          else
                            bif !s then
                              ∀ (b8 : Bool),
                                b8 = decide (n4 < (9223372036854775808 : Int)) →
                                  bif b8 then Q (AV.tup [AV.num IntKind.i64 (IntKind.i64.wrap n4), AV.bool true])
                                  else Q (AV.tup [AV.num IntKind.i64 (0 : Int), AV.bool false])
                            else Q (AV.tup [AV.num IntKind.i64 (0 : Int), AV.bool false])) := by kernel_rfl
theorem vc_dyad_Neg (s : Bool) (m : List
  Nat) (e : Int) (Q : AV →
  Prop) : (evF Tryd.prog (look tab11) (lam []) false Tryd.f41
  [AV.agg [AV.bool s, AV.dig [(1 : Nat)] m, AV.num IntKind.i64 e]] Q) =
    (bif !Dy.mayD (Dy.Dyd.mk s m e) then
  Q (AV.tup [AV.agg [AV.bool false, AV.dig [(0 : Nat)] [], AV.num IntKind.i64 (0 : Int)], AV.num IntKind.i64 (2 : Int)])
 else
  m.length ≤ (1048576 : Nat) ∧
    ∀ (b1 : Bool),
      b1 = (!s && decide (m ≠ [])) →
        ∀ (l2 : List Nat),
          l2 = m →
            ∀ (n3 : Int),
              n3 = e →
                Q
                  (AV.tup
                    [AV.agg [AV.bool b1, AV.dig [(0 : Nat)] l2, AV.num IntKind.i64 n3],
                      AV.num IntKind.i64 (0 : Int)])) := by kernel_rfl
theorem vc_dyad_Abs (s : Bool) (m : List
  Nat) (e : Int) (Q : AV →
  Prop) : (evF Tryd.prog (look tab11) (lam []) false Tryd.f42
  [AV.agg [AV.bool s, AV.dig [(1 : Nat)] m, AV.num IntKind.i64 e]] Q) =
    (bif !Dy.mayD (Dy.Dyd.mk s m e) then
  Q (AV.tup [AV.agg [AV.bool false, AV.dig [(0 : Nat)] [], AV.num IntKind.i64 (0 : Int)], AV.num IntKind.i64 (2 : Int)])
 else
  m.length ≤ (1048576 : Nat) ∧
    ∀ (b1 : Bool),
      b1 = (false && decide (m ≠ [])) →
        ∀ (l2 : List Nat),
          l2 = m →
            ∀ (n3 : Int),
              n3 = e →
                Q
                  (AV.tup
                    [AV.agg [AV.bool b1, AV.dig [(0 : Nat)] l2, AV.num IntKind.i64 n3],
                      AV.num IntKind.i64 (0 : Int)])) := by kernel_rfl
theorem vc_dyad_sizes (s : Bool) (s' : Bool) (m : List
  Nat) (m' : List
  Nat) (e : Int) (e' : Int) (Q : AV →
  Prop) : (evF Tryd.prog (look tab11) (lam []) false Tryd.f79
  [AV.agg [AV.bool s, AV.dig [(1 : Nat)] m, AV.num IntKind.i64 e],
    AV.agg [AV.bool s', AV.dig [(2 : Nat)] m', AV.num IntKind.i64 e']]
  Q) =
    (bif
    decide
      ((if Dy.mayD (Dy.Dyd.mk s m e) = true then Dy.topD (Dy.Dyd.mk s m e) else (0 : Int)) <
        if Dy.mayD (Dy.Dyd.mk s' m' e') = true then Dy.topD (Dy.Dyd.mk s' m' e') else (0 : Int)) then
  Q (AV.num IntKind.i64 (-1 : Int))
 else
  bif
      decide
        ((if Dy.mayD (Dy.Dyd.mk s m e) = true then Dy.topD (Dy.Dyd.mk s m e) else (0 : Int)) >
          if Dy.mayD (Dy.Dyd.mk s' m' e') = true then Dy.topD (Dy.Dyd.mk s' m' e') else (0 : Int)) then
    Q (AV.num IntKind.i64 (1 : Int))
  else
    bif decide (IntKind.i64.wrap ((↑(Dy.lenN m) : Int) - (↑(Dy.lenN m') : Int)) > (0 : Int)) then
      ∀ (l1 : List Nat),
        l1 = (Dy.shiftN m' (IntKind.i64.wrap ((↑(Dy.lenN m) : Int) - (↑(Dy.lenN m') : Int)))).mag →
          ∀ (b2 : Bool),
            b2 = (Dy.shiftN m' (IntKind.i64.wrap ((↑(Dy.lenN m) : Int) - (↑(Dy.lenN m') : Int)))).lost →
              ∀ (n3 : Int),
                n3 = (Dy.shiftN m' (IntKind.i64.wrap ((↑(Dy.lenN m) : Int) - (↑(Dy.lenN m') : Int)))).err →
                  ∀ (n4 : Int),
                    n4 = (Dy.cmpR m l1).fst → ∀ (n5 : Int), n5 = (Dy.cmpR m l1).snd → Q (AV.num IntKind.i64 n4)
    else
      ∀ (l6 : List Nat),
        l6 =
            (Dy.shiftN m
                (IntKind.i64.wrap ((0 : Int) - IntKind.i64.wrap ((↑(Dy.lenN m) : Int) - (↑(Dy.lenN m') : Int))))).mag →
          ∀ (b7 : Bool),
            b7 =
                (Dy.shiftN m
                    (IntKind.i64.wrap
                      ((0 : Int) - IntKind.i64.wrap ((↑(Dy.lenN m) : Int) - (↑(Dy.lenN m') : Int))))).lost →
              ∀ (n8 : Int),
                n8 =
                    (Dy.shiftN m
                        (IntKind.i64.wrap
                          ((0 : Int) - IntKind.i64.wrap ((↑(Dy.lenN m) : Int) - (↑(Dy.lenN m') : Int))))).err →
                  ∀ (n9 : Int),
                    n9 = (Dy.cmpR l6 m').fst →
                      ∀ (n10 : Int), n10 = (Dy.cmpR l6 m').snd → Q (AV.num IntKind.i64 n9)) := by kernel_rfl
theorem vc_dyad_Cmp (s : Bool) (s' : Bool) (m : List
  Nat) (m' : List
  Nat) (e : Int) (e' : Int) (Q : AV →
  Prop) : (evF Tryd.prog (look tab12) (lam []) false Tryd.f39
  [AV.agg [AV.bool s, AV.dig [(1 : Nat)] m, AV.num IntKind.i64 e],
    AV.agg [AV.bool s', AV.dig [(2 : Nat)] m', AV.num IntKind.i64 e']]
  Q) =
    (bif !(Dy.mayD (Dy.Dyd.mk s m e) && Dy.mayD (Dy.Dyd.mk s' m' e')) then
  Q (AV.tup [AV.num IntKind.i64 (0 : Int), AV.num IntKind.i64 (2 : Int)])
 else
  bif
      decide
        ((if Dy.mayD (Dy.Dyd.mk s m e) = true then Dy.signD (Dy.Dyd.mk s m e) else (0 : Int)) <
          if Dy.mayD (Dy.Dyd.mk s' m' e') = true then Dy.signD (Dy.Dyd.mk s' m' e') else (0 : Int)) then
    Q (AV.tup [AV.num IntKind.i64 (-1 : Int), AV.num IntKind.i64 (0 : Int)])
  else
    bif
        decide
          ((if Dy.mayD (Dy.Dyd.mk s m e) = true then Dy.signD (Dy.Dyd.mk s m e) else (0 : Int)) >
            if Dy.mayD (Dy.Dyd.mk s' m' e') = true then Dy.signD (Dy.Dyd.mk s' m' e') else (0 : Int)) then
      Q (AV.tup [AV.num IntKind.i64 (1 : Int), AV.num IntKind.i64 (0 : Int)])
    else
      (Dy.mayD (Dy.Dyd.mk s m e) = true ∧ Dy.mayD (Dy.Dyd.mk s' m' e') = true ∧ (m = [] ↔ m' = [])) ∧
        Q
          (AV.tup
            [AV.num IntKind.i64
                (IntKind.i64.wrap
                  ((if Dy.mayD (Dy.Dyd.mk s m e) = true then Dy.signD (Dy.Dyd.mk s m e) else (0 : Int)) *
                    Dy.cmpZ (↑(Dy.val m * (2 : Nat) ^ (e - min e e').toNat) : Int)
                      (↑(Dy.val m' * (2 : Nat) ^ (e' - min e e').toNat) : Int))),
              AV.num IntKind.i64 (0 : Int)])) := by kernel_rfl
theorem vc_dyad_halved (p : Bool) (x : List
  Nat) (y : List
  Nat) (e : Int) (Q : AV →
  Prop) : (evF Tryd.prog (look tab11) (lam []) false Tryd.f109
  [AV.bool p, AV.dig [(2 : Nat)] x, AV.dig [(3 : Nat)] y, AV.num IntKind.i64 e] Q) =
    (((0 : Int) ≤ (0 : Int) ∧ (0 : Int) < (↑x.length : Int)) ∧
  ((0 : Int) ≤ (0 : Int) ∧ (0 : Int) < (↑y.length : Int)) ∧
    bif
        !decide
            (IntKind.u32.wrap
                (↑(BitVec.ofInt (32 : Nat) (↑(x.getD (0 : Nat) (0 : Nat)) : Int) &&&
                        BitVec.ofInt (32 : Nat) (1 : Int)).toNat :
                  Int) =
              IntKind.u32.wrap
                (↑(BitVec.ofInt (32 : Nat) (↑(y.getD (0 : Nat) (0 : Nat)) : Int) &&&
                        BitVec.ofInt (32 : Nat) (1 : Int)).toNat :
                  Int)) then
      Q
        (AV.tup
          [AV.agg [AV.bool false, AV.dig [(0 : Nat)] [], AV.num IntKind.i64 (0 : Int)], AV.num IntKind.i64 (3 : Int)])
    else
      ∀ (l1 : List Nat),
        l1 = (Dy.shiftN x (-1 : Int)).mag →
          ∀ (b2 : Bool),
            b2 = (Dy.shiftN x (-1 : Int)).lost →
              ∀ (n3 : Int),
                n3 = (Dy.shiftN x (-1 : Int)).err →
                  ∀ (l4 : List Nat),
                    l4 = (Dy.shiftN y (-1 : Int)).mag →
                      ∀ (b5 : Bool),
                        b5 = (Dy.shiftN y (-1 : Int)).lost →
                          ∀ (n6 : Int),
                            n6 = (Dy.shiftN y (-1 : Int)).err →
                              ∀ (l7 : List Nat),
                                l7 = (Dy.addR l1 l4).fst →
                                  ∀ (n8 : Int),
                                    n8 = (Dy.addR l1 l4).snd →
                                      ((0 : Int) ≤ (0 : Int) ∧ (0 : Int) < (↑x.length : Int)) ∧
                                        bif
                                            decide
                                              (IntKind.u32.wrap
                                                  (↑(BitVec.ofInt (32 : Nat) (↑(x.getD (0 : Nat) (0 : Nat)) : Int) &&&
                                                          BitVec.ofInt (32 : Nat) (1 : Int)).toNat :
                                                    Int) =
                                                (1 : Int)) then
                                          ∀ (l9 : List Nat),
                                            l9 = (Dy.addR l7 (Dy.dg (1 : Nat))).fst →
                                              ∀ (n10 : Int),
                                                n10 = (Dy.addR l7 (Dy.dg (1 : Nat))).snd →
                                                  ∀ (b11 : Bool),
                                                    b11 = (Dy.makeD p l9 (IntKind.i64.wrap (e + (1 : Int)))).1.neg →
                                                      ∀ (l12 : List Nat),
                                                        l12 = (Dy.makeD p l9 (IntKind.i64.wrap (e + (1 : Int)))).1.mag →
                                                          ∀ (n13 : Int),
                                                            n13 =
                                                                (Dy.makeD p l9
                                                                      (IntKind.i64.wrap (e + (1 : Int)))).1.exp →
                                                              ∀ (n14 : Int),
                                                                n14 =
                                                                    (Dy.makeD p l9
                                                                        (IntKind.i64.wrap (e + (1 : Int)))).snd →
                                                                  Q
                                                                    (AV.tup
                                                                      [AV.agg
                                                                          [AV.bool b11, AV.dig [(0 : Nat)] l12,
                                                                            AV.num IntKind.i64 n13],
                                                                        AV.num IntKind.i64 n14])
                                        else
                                          ∀ (b15 : Bool),
                                            b15 = (Dy.makeD p l7 (IntKind.i64.wrap (e + (1 : Int)))).1.neg →
                                              ∀ (l16 : List Nat),
                                                l16 = (Dy.makeD p l7 (IntKind.i64.wrap (e + (1 : Int)))).1.mag →
                                                  ∀ (n17 : Int),
                                                    n17 = (Dy.makeD p l7 (IntKind.i64.wrap (e + (1 : Int)))).1.exp →
                                                      ∀ (n18 : Int),
                                                        n18 = (Dy.makeD p l7 (IntKind.i64.wrap (e + (1 : Int)))).snd →
                                                          Q
                                                            (AV.tup
                                                              [AV.agg
                                                                  [AV.bool b15, AV.dig [(0 : Nat)] l16,
                                                                    AV.num IntKind.i64 n17],
                                                                AV.num IntKind.i64 n18])) := by kernel_rfl
theorem vc_dyad_join (p : Bool) (q : Bool) (x : List
  Nat) (y : List
  Nat) (e : Int) (Q : AV →
  Prop) : (evF Tryd.prog (look tab12) (lam []) false Tryd.f97
  [AV.bool p, AV.dig [(2 : Nat)] x, AV.bool q, AV.dig [(4 : Nat)] y, AV.num IntKind.i64 e] Q) =
    (bif decide (p = q) then
  ∀ (l1 : List Nat),
    l1 = (Dy.addR x y).fst →
      ∀ (n2 : Int),
        n2 = (Dy.addR x y).snd →
          bif !decide (n2 = (0 : Int)) then
            (Dy.may x = true ∧
                Dy.may y = true ∧ Dy.inside e = true ∧ (4096 : Nat) < (Dy.dg (Dy.val x + Dy.val y)).length) ∧
              ∀ (b3 : Bool),
                b3 = (Dy.boundD (Dy.form p (Dy.val x + Dy.val y) e)).1.neg →
                  ∀ (l4 : List Nat),
                    l4 = (Dy.boundD (Dy.form p (Dy.val x + Dy.val y) e)).1.mag →
                      ∀ (n5 : Int),
                        n5 = (Dy.boundD (Dy.form p (Dy.val x + Dy.val y) e)).1.exp →
                          ∀ (n6 : Int),
                            n6 = (Dy.boundD (Dy.form p (Dy.val x + Dy.val y) e)).snd →
                              Q
                                (AV.tup
                                  [AV.agg [AV.bool b3, AV.dig [(0 : Nat)] l4, AV.num IntKind.i64 n5],
                                    AV.num IntKind.i64 n6])
          else
            ∀ (b7 : Bool),
              b7 = (Dy.makeD p l1 e).1.neg →
                ∀ (l8 : List Nat),
                  l8 = (Dy.makeD p l1 e).1.mag →
                    ∀ (n9 : Int),
                      n9 = (Dy.makeD p l1 e).1.exp →
                        ∀ (n10 : Int),
                          n10 = (Dy.makeD p l1 e).snd →
                            Q
                              (AV.tup
                                [AV.agg [AV.bool b7, AV.dig [(0 : Nat)] l8, AV.num IntKind.i64 n9],
                                  AV.num IntKind.i64 n10])
 else
  ∀ (n11 : Int),
    n11 = (Dy.cmpR x y).fst →
      ∀ (n12 : Int),
        n12 = (Dy.cmpR x y).snd →
          bif decide (n11 < (0 : Int)) then
            ∀ (l13 : List Nat),
              l13 = (Dy.subR y x).fst →
                ∀ (n14 : Int),
                  n14 = (Dy.subR y x).snd →
                    ∀ (b15 : Bool),
                      b15 = (Dy.makeD q l13 e).1.neg →
                        ∀ (l16 : List Nat),
                          l16 = (Dy.makeD q l13 e).1.mag →
                            ∀ (n17 : Int),
                              n17 = (Dy.makeD q l13 e).1.exp →
                                ∀ (n18 : Int),
                                  n18 = (Dy.makeD q l13 e).snd →
                                    Q
                                      (AV.tup
                                        [AV.agg [AV.bool b15, AV.dig [(0 : Nat)] l16, AV.num IntKind.i64 n17],
                                          AV.num IntKind.i64 n18])
          else
            ∀ (l19 : List Nat),
              l19 = (Dy.subR x y).fst →
                ∀ (n20 : Int),
                  n20 = (Dy.subR x y).snd →
                    ∀ (b21 : Bool),
                      b21 = (Dy.makeD p l19 e).1.neg →
                        ∀ (l22 : List Nat),
                          l22 = (Dy.makeD p l19 e).1.mag →
                            ∀ (n23 : Int),
                              n23 = (Dy.makeD p l19 e).1.exp →
                                ∀ (n24 : Int),
                                  n24 = (Dy.makeD p l19 e).snd →
                                    Q
                                      (AV.tup
                                        [AV.agg [AV.bool b21, AV.dig [(0 : Nat)] l22, AV.num IntKind.i64 n23],
                                          AV.num IntKind.i64 n24])) := by kernel_rfl
theorem vc_dyad_add (s : Bool) (s' : Bool) (m : List
  Nat) (m' : List
  Nat) (e : Int) (e' : Int) (Q : AV →
  Prop) : (evF Tryd.prog (look tab13) (lam []) false Tryd.f69
  [AV.agg [AV.bool s, AV.dig [(1 : Nat)] m, AV.num IntKind.i64 e],
    AV.agg [AV.bool s', AV.dig [(2 : Nat)] m', AV.num IntKind.i64 e']]
  Q) =
    (bif decide ((↑m.length : Int) = (0 : Int)) then
  m'.length ≤ (1048576 : Nat) ∧
    ∀ (b1 : Bool),
      b1 = s' →
        ∀ (l2 : List Nat),
          l2 = m' →
            ∀ (n3 : Int),
              n3 = e' →
                Q
                  (AV.tup
                    [AV.agg [AV.bool b1, AV.dig [(0 : Nat)] l2, AV.num IntKind.i64 n3], AV.num IntKind.i64 (0 : Int)])
 else
  bif decide ((↑m'.length : Int) = (0 : Int)) then
    m.length ≤ (1048576 : Nat) ∧
      ∀ (b4 : Bool),
        b4 = s →
          ∀ (l5 : List Nat),
            l5 = m →
              ∀ (n6 : Int),
                n6 = e →
                  Q
                    (AV.tup
                      [AV.agg [AV.bool b4, AV.dig [(0 : Nat)] l5, AV.num IntKind.i64 n6], AV.num IntKind.i64 (0 : Int)])
  else
    bif decide (e < e') then
      bif decide (IntKind.i64.wrap (IntKind.i64.wrap (e' - e) + (↑(Dy.lenN m') : Int)) > (131073 : Int)) then
        Q
          (AV.tup
            [AV.agg [AV.bool false, AV.dig [(0 : Nat)] [], AV.num IntKind.i64 (0 : Int)], AV.num IntKind.i64 (3 : Int)])
      else
        bif decide (IntKind.i64.wrap (IntKind.i64.wrap (e' - e) + (↑(Dy.lenN m') : Int)) > (131072 : Int)) then
          (Dy.mayD (Dy.Dyd.mk s' m' e') = true ∧
              Dy.mayD (Dy.Dyd.mk s m e) = true ∧
                m' ≠ [] ∧
                  m ≠ [] ∧
                    IntKind.i64.wrap (e' - e) = e' - e ∧
                      (1 : Int) ≤ IntKind.i64.wrap (e' - e) ∧
                        IntKind.i64.wrap (e' - e) + (↑(Dy.bl (Dy.val m')) : Int) = (131073 : Int)) ∧
            ∀ (b7 : Bool),
              b7 = (Dy.boundD (Dy.addD (Dy.Dyd.mk s' m' e') (Dy.Dyd.mk s m e))).1.neg →
                ∀ (l8 : List Nat),
                  l8 = (Dy.boundD (Dy.addD (Dy.Dyd.mk s' m' e') (Dy.Dyd.mk s m e))).1.mag →
                    ∀ (n9 : Int),
                      n9 = (Dy.boundD (Dy.addD (Dy.Dyd.mk s' m' e') (Dy.Dyd.mk s m e))).1.exp →
                        ∀ (n10 : Int),
                          n10 = (Dy.boundD (Dy.addD (Dy.Dyd.mk s' m' e') (Dy.Dyd.mk s m e))).snd →
                            Q
                              (AV.tup
                                [AV.agg [AV.bool b7, AV.dig [(0 : Nat)] l8, AV.num IntKind.i64 n9],
                                  AV.num IntKind.i64 n10])
        else
          ∀ (l11 : List Nat),
            l11 = (Dy.shiftN m' (IntKind.i64.wrap (e' - e))).mag →
              ∀ (b12 : Bool),
                b12 = (Dy.shiftN m' (IntKind.i64.wrap (e' - e))).lost →
                  ∀ (n13 : Int),
                    n13 = (Dy.shiftN m' (IntKind.i64.wrap (e' - e))).err →
                      (Dy.may l11 = true ∧ Dy.may m = true ∧ l11 ≠ [] ∧ m ≠ [] ∧ Dy.inside e = true) ∧
                        ∀ (b14 : Bool),
                          b14 =
                              (Dy.boundD
                                    (Dy.formZ ((Dy.Dyd.mk s' l11 (0 : Int)).int + (Dy.Dyd.mk s m (0 : Int)).int)
                                      e)).1.neg →
                            ∀ (l15 : List Nat),
                              l15 =
                                  (Dy.boundD
                                        (Dy.formZ ((Dy.Dyd.mk s' l11 (0 : Int)).int + (Dy.Dyd.mk s m (0 : Int)).int)
                                          e)).1.mag →
                                ∀ (n16 : Int),
                                  n16 =
                                      (Dy.boundD
                                            (Dy.formZ ((Dy.Dyd.mk s' l11 (0 : Int)).int + (Dy.Dyd.mk s m (0 : Int)).int)
                                              e)).1.exp →
                                    ∀ (n17 : Int),
                                      n17 =
                                          (Dy.boundD
                                              (Dy.formZ
                                                ((Dy.Dyd.mk s' l11 (0 : Int)).int + (Dy.Dyd.mk s m (0 : Int)).int)
                                                e)).snd →
                                        Q
                                          (AV.tup
                                            [AV.agg [AV.bool b14, AV.dig [(0 : Nat)] l15, AV.num IntKind.i64 n16],
                                              AV.num IntKind.i64 n17])
    else
      bif decide (IntKind.i64.wrap (IntKind.i64.wrap (e - e') + (↑(Dy.lenN m) : Int)) > (131073 : Int)) then
        Q
          (AV.tup
            [AV.agg [AV.bool false, AV.dig [(0 : Nat)] [], AV.num IntKind.i64 (0 : Int)], AV.num IntKind.i64 (3 : Int)])
      else
        bif decide (IntKind.i64.wrap (IntKind.i64.wrap (e - e') + (↑(Dy.lenN m) : Int)) > (131072 : Int)) then
          (Dy.mayD (Dy.Dyd.mk s m e) = true ∧
              Dy.mayD (Dy.Dyd.mk s' m' e') = true ∧
                m ≠ [] ∧
                  m' ≠ [] ∧
                    IntKind.i64.wrap (e - e') = e - e' ∧
                      (1 : Int) ≤ IntKind.i64.wrap (e - e') ∧
                        IntKind.i64.wrap (e - e') + (↑(Dy.bl (Dy.val m)) : Int) = (131073 : Int)) ∧
            ∀ (b18 : Bool),
              b18 = (Dy.boundD (Dy.addD (Dy.Dyd.mk s m e) (Dy.Dyd.mk s' m' e'))).1.neg →
                ∀ (l19 : List Nat),
                  l19 = (Dy.boundD (Dy.addD (Dy.Dyd.mk s m e) (Dy.Dyd.mk s' m' e'))).1.mag →
                    ∀ (n20 : Int),
                      n20 = (Dy.boundD (Dy.addD (Dy.Dyd.mk s m e) (Dy.Dyd.mk s' m' e'))).1.exp →
                        ∀ (n21 : Int),
                          n21 = (Dy.boundD (Dy.addD (Dy.Dyd.mk s m e) (Dy.Dyd.mk s' m' e'))).snd →
                            Q
                              (AV.tup
                                [AV.agg [AV.bool b18, AV.dig [(0 : Nat)] l19, AV.num IntKind.i64 n20],
                                  AV.num IntKind.i64 n21])
        else
          ∀ (l22 : List Nat),
            l22 = (Dy.shiftN m (IntKind.i64.wrap (e - e'))).mag →
              ∀ (b23 : Bool),
                b23 = (Dy.shiftN m (IntKind.i64.wrap (e - e'))).lost →
                  ∀ (n24 : Int),
                    n24 = (Dy.shiftN m (IntKind.i64.wrap (e - e'))).err →
                      (Dy.may l22 = true ∧ Dy.may m' = true ∧ l22 ≠ [] ∧ m' ≠ [] ∧ Dy.inside e' = true) ∧
                        ∀ (b25 : Bool),
                          b25 =
                              (Dy.boundD
                                    (Dy.formZ ((Dy.Dyd.mk s l22 (0 : Int)).int + (Dy.Dyd.mk s' m' (0 : Int)).int)
                                      e')).1.neg →
                            ∀ (l26 : List Nat),
                              l26 =
                                  (Dy.boundD
                                        (Dy.formZ ((Dy.Dyd.mk s l22 (0 : Int)).int + (Dy.Dyd.mk s' m' (0 : Int)).int)
                                          e')).1.mag →
                                ∀ (n27 : Int),
                                  n27 =
                                      (Dy.boundD
                                            (Dy.formZ
                                              ((Dy.Dyd.mk s l22 (0 : Int)).int + (Dy.Dyd.mk s' m' (0 : Int)).int)
                                              e')).1.exp →
                                    ∀ (n28 : Int),
                                      n28 =
                                          (Dy.boundD
                                              (Dy.formZ
                                                ((Dy.Dyd.mk s l22 (0 : Int)).int + (Dy.Dyd.mk s' m' (0 : Int)).int)
                                                e')).snd →
                                        Q
                                          (AV.tup
                                            [AV.agg [AV.bool b25, AV.dig [(0 : Nat)] l26, AV.num IntKind.i64 n27],
                                              AV.num IntKind.i64 n28])) := by kernel_rfl
theorem vc_dyad_Add (s : Bool) (s' : Bool) (m : List
  Nat) (m' : List
  Nat) (e : Int) (e' : Int) (Q : AV →
  Prop) : (evF Tryd.prog (look tab14) (lam []) false Tryd.f29
  [AV.agg [AV.bool s, AV.dig [(1 : Nat)] m, AV.num IntKind.i64 e],
    AV.agg [AV.bool s', AV.dig [(2 : Nat)] m', AV.num IntKind.i64 e']]
  Q) =
    (bif !(Dy.mayD (Dy.Dyd.mk s m e) && Dy.mayD (Dy.Dyd.mk s' m' e')) then
  Q (AV.tup [AV.agg [AV.bool false, AV.dig [(0 : Nat)] [], AV.num IntKind.i64 (0 : Int)], AV.num IntKind.i64 (2 : Int)])
 else
  (Dy.mayD (Dy.Dyd.mk s m e) = true ∧ Dy.mayD (Dy.Dyd.mk s' m' e') = true) ∧
    ∀ (b1 : Bool),
      b1 = (Dy.boundD (Dy.addD (Dy.Dyd.mk s m e) (Dy.Dyd.mk s' m' e'))).1.neg →
        ∀ (l2 : List Nat),
          l2 = (Dy.boundD (Dy.addD (Dy.Dyd.mk s m e) (Dy.Dyd.mk s' m' e'))).1.mag →
            ∀ (n3 : Int),
              n3 = (Dy.boundD (Dy.addD (Dy.Dyd.mk s m e) (Dy.Dyd.mk s' m' e'))).1.exp →
                ∀ (n4 : Int),
                  n4 = (Dy.boundD (Dy.addD (Dy.Dyd.mk s m e) (Dy.Dyd.mk s' m' e'))).snd →
                    Q
                      (AV.tup
                        [AV.agg [AV.bool b1, AV.dig [(0 : Nat)] l2, AV.num IntKind.i64 n3],
                          AV.num IntKind.i64 n4])) := by kernel_rfl
theorem vc_dyad_Sub (s : Bool) (s' : Bool) (m : List
  Nat) (m' : List
  Nat) (e : Int) (e' : Int) (Q : AV →
  Prop) : (evF Tryd.prog (look tab14) (lam []) false Tryd.f30
  [AV.agg [AV.bool s, AV.dig [(1 : Nat)] m, AV.num IntKind.i64 e],
    AV.agg [AV.bool s', AV.dig [(2 : Nat)] m', AV.num IntKind.i64 e']]
  Q) =
    (bif !(Dy.mayD (Dy.Dyd.mk s m e) && Dy.mayD (Dy.Dyd.mk s' m' e')) then
  Q (AV.tup [AV.agg [AV.bool false, AV.dig [(0 : Nat)] [], AV.num IntKind.i64 (0 : Int)], AV.num IntKind.i64 (2 : Int)])
 else
  m'.length ≤ (1048576 : Nat) ∧
    ∀ (b1 : Bool),
      b1 = (!s' && decide (m' ≠ [])) →
        ∀ (l2 : List Nat),
          l2 = m' →
            ∀ (n3 : Int),
              n3 = e' →
                (Dy.mayD (Dy.Dyd.mk s m e) = true ∧ Dy.mayD (Dy.Dyd.mk b1 l2 n3) = true) ∧
                  ∀ (b4 : Bool),
                    b4 = (Dy.boundD (Dy.addD (Dy.Dyd.mk s m e) (Dy.Dyd.mk b1 l2 n3))).1.neg →
                      ∀ (l5 : List Nat),
                        l5 = (Dy.boundD (Dy.addD (Dy.Dyd.mk s m e) (Dy.Dyd.mk b1 l2 n3))).1.mag →
                          ∀ (n6 : Int),
                            n6 = (Dy.boundD (Dy.addD (Dy.Dyd.mk s m e) (Dy.Dyd.mk b1 l2 n3))).1.exp →
                              ∀ (n7 : Int),
                                n7 = (Dy.boundD (Dy.addD (Dy.Dyd.mk s m e) (Dy.Dyd.mk b1 l2 n3))).snd →
                                  Q
                                    (AV.tup
                                      [AV.agg [AV.bool b4, AV.dig [(0 : Nat)] l5, AV.num IntKind.i64 n6],
                                        AV.num IntKind.i64 n7])) := by kernel_rfl
theorem vc_dyad_Mul (s : Bool) (s' : Bool) (m : List
  Nat) (m' : List
  Nat) (e : Int) (e' : Int) (Q : AV →
  Prop) : (evF Tryd.prog (look tab11) (lam []) false Tryd.f31
  [AV.agg [AV.bool s, AV.dig [(1 : Nat)] m, AV.num IntKind.i64 e],
    AV.agg [AV.bool s', AV.dig [(2 : Nat)] m', AV.num IntKind.i64 e']]
  Q) =
    (bif !(Dy.mayD (Dy.Dyd.mk s m e) && Dy.mayD (Dy.Dyd.mk s' m' e')) then
  Q (AV.tup [AV.agg [AV.bool false, AV.dig [(0 : Nat)] [], AV.num IntKind.i64 (0 : Int)], AV.num IntKind.i64 (2 : Int)])
 else
  ∀ (l1 : List Nat),
    l1 = (Dy.mulR m m').fst →
      ∀ (n2 : Int),
        n2 = (Dy.mulR m m').snd →
          bif !decide (n2 = (0 : Int)) then
            Q
              (AV.tup
                [AV.agg [AV.bool false, AV.dig [(0 : Nat)] [], AV.num IntKind.i64 (0 : Int)], AV.num IntKind.i64 n2])
          else
            ∀ (b3 : Bool),
              b3 = (Dy.makeD (!s == s') l1 (IntKind.i64.wrap (e + e'))).1.neg →
                ∀ (l4 : List Nat),
                  l4 = (Dy.makeD (!s == s') l1 (IntKind.i64.wrap (e + e'))).1.mag →
                    ∀ (n5 : Int),
                      n5 = (Dy.makeD (!s == s') l1 (IntKind.i64.wrap (e + e'))).1.exp →
                        ∀ (n6 : Int),
                          n6 = (Dy.makeD (!s == s') l1 (IntKind.i64.wrap (e + e'))).snd →
                            Q
                              (AV.tup
                                [AV.agg [AV.bool b3, AV.dig [(0 : Nat)] l4, AV.num IntKind.i64 n5],
                                  AV.num IntKind.i64 n6])) := by kernel_rfl
end Go.AI
