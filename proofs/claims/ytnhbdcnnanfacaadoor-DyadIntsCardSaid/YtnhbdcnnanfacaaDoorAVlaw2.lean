/- Printed by a program of mine: what a body, or a round of a loop, comes to. -/
import Derived.Test.YtnhbdcnnanfacaaDoorAIlaw1
namespace Go.AI
open Go Go.RowKit Go.Proofs
set_option linter.unusedVariables false
set_option maxRecDepth 100000
set_option maxHeartbeats 0
theorem vc_law2_DyadInts (n : Int) (s : Bool) (m : List
  Nat) (e : Int) (Q : AV →
  Prop) : (evF Tryd.prog (look tab17) (lam []) false Tryd.f4
  [AV.num IntKind.i64 n, AV.agg [AV.bool s, AV.dig [(2 : Nat)] m, AV.num IntKind.i64 e]] Q) =
    (bif decide ((↑m.length : Int) > (4100 : Int)) then
  bif decide ((↑m.length : Int) > (4100 : Int)) then Q (AV.bool true) else Q (AV.bool false)
 else
  ∀ (b1 : Bool),
    b1 = (Dy.intD n).neg →
      ∀ (l2 : List Nat),
        l2 = (Dy.intD n).mag →
          ∀ (n3 : Int),
            n3 = (Dy.intD n).exp →
              ∀ (b4 : Bool),
                b4 = (Dy.intD n).neg →
                  ∀ (l5 : List Nat),
                    l5 = (Dy.intD n).mag →
                      ∀ (n6 : Int),
                        n6 = (Dy.intD n).exp →
                          bif !Dy.sameD (Dy.Dyd.mk b1 l2 n3) (Dy.Dyd.mk b4 l5 n6) then
                            bif decide ((↑m.length : Int) > (4100 : Int)) then Q (AV.bool true) else Q (AV.bool false)
                          else
                            m.length ≤ (1048576 : Nat) ∧
                              ∀ (b7 : Bool),
                                b7 = s →
                                  ∀ (l8 : List Nat),
                                    l8 = m →
                                      ∀ (n9 : Int),
                                        n9 = e →
                                          ∀ (n10 : Int),
                                            n10 = (Dy.int64D (Dy.Dyd.mk b7 l8 n9)).fst →
                                              ∀ (b11 : Bool),
                                                b11 = (Dy.int64D (Dy.Dyd.mk b7 l8 n9)).snd →
                                                  bif Dy.mayD (Dy.Dyd.mk s m e) then
                                                    Dy.mayD (Dy.Dyd.mk s m e) = true ∧
                                                      ∀ (n12 : Int),
                                                        n12 = (Dy.int64D (Dy.Dyd.mk s m e)).fst →
                                                          ∀ (b13 : Bool),
                                                            b13 = (Dy.int64D (Dy.Dyd.mk s m e)).snd →
                                                              bif decide (b11 = b13) then
                                                                bif decide (n10 = n12) then Q (AV.bool true)
                                                                else Q (AV.bool false)
                                                              else Q (AV.bool false)
                                                  else
                                                    bif decide (b11 = false) then
                                                      bif decide (n10 = (0 : Int)) then Q (AV.bool true)
                                                      else Q (AV.bool false)
                                                    else Q (AV.bool false)) := by kernel_rfl
theorem vc_law2_DyadRing (s : Bool) (s' : Bool) (s2 : Bool) (m : List
  Nat) (m' : List
  Nat) (m2 : List
  Nat) (e : Int) (e' : Int) (e2 : Int) (Q : AV →
  Prop) : (evF Tryd.prog (look tab17) (lam []) false Tryd.f5
  [AV.agg [AV.bool s, AV.dig [(1 : Nat)] m, AV.num IntKind.i64 e],
    AV.agg [AV.bool s', AV.dig [(2 : Nat)] m', AV.num IntKind.i64 e'],
    AV.agg [AV.bool s2, AV.dig [(3 : Nat)] m2, AV.num IntKind.i64 e2]]
  Q) =
    (bif !(Dy.nearD (Dy.Dyd.mk s m e) && (Dy.nearD (Dy.Dyd.mk s' m' e') && Dy.nearD (Dy.Dyd.mk s2 m2 e2))) then
  Q (AV.bool true)
 else
  ∀ (b1 : Bool),
    b1 =
        (Dy.boundIf (Dy.mayD (Dy.Dyd.mk s m e) && Dy.mayD (Dy.Dyd.mk s' m' e'))
              (Dy.addD (Dy.Dyd.mk s m e) (Dy.Dyd.mk s' m' e'))).1.neg →
      ∀ (l2 : List Nat),
        l2 =
            (Dy.boundIf (Dy.mayD (Dy.Dyd.mk s m e) && Dy.mayD (Dy.Dyd.mk s' m' e'))
                  (Dy.addD (Dy.Dyd.mk s m e) (Dy.Dyd.mk s' m' e'))).1.mag →
          ∀ (n3 : Int),
            n3 =
                (Dy.boundIf (Dy.mayD (Dy.Dyd.mk s m e) && Dy.mayD (Dy.Dyd.mk s' m' e'))
                      (Dy.addD (Dy.Dyd.mk s m e) (Dy.Dyd.mk s' m' e'))).1.exp →
              ∀ (n4 : Int),
                n4 =
                    (Dy.boundIf (Dy.mayD (Dy.Dyd.mk s m e) && Dy.mayD (Dy.Dyd.mk s' m' e'))
                        (Dy.addD (Dy.Dyd.mk s m e) (Dy.Dyd.mk s' m' e'))).snd →
                  ∀ (b5 : Bool),
                    b5 =
                        (Dy.boundIf (Dy.mayD (Dy.Dyd.mk s' m' e') && Dy.mayD (Dy.Dyd.mk s m e))
                              (Dy.addD (Dy.Dyd.mk s' m' e') (Dy.Dyd.mk s m e))).1.neg →
                      ∀ (l6 : List Nat),
                        l6 =
                            (Dy.boundIf (Dy.mayD (Dy.Dyd.mk s' m' e') && Dy.mayD (Dy.Dyd.mk s m e))
                                  (Dy.addD (Dy.Dyd.mk s' m' e') (Dy.Dyd.mk s m e))).1.mag →
                          ∀ (n7 : Int),
                            n7 =
                                (Dy.boundIf (Dy.mayD (Dy.Dyd.mk s' m' e') && Dy.mayD (Dy.Dyd.mk s m e))
                                      (Dy.addD (Dy.Dyd.mk s' m' e') (Dy.Dyd.mk s m e))).1.exp →
                              ∀ (n8 : Int),
                                n8 =
                                    (Dy.boundIf (Dy.mayD (Dy.Dyd.mk s' m' e') && Dy.mayD (Dy.Dyd.mk s m e))
                                        (Dy.addD (Dy.Dyd.mk s' m' e') (Dy.Dyd.mk s m e))).snd →
                                  ∀ (b9 : Bool),
                                    b9 =
                                        (Dy.boundIf (Dy.mayD (Dy.Dyd.mk s' m' e') && Dy.mayD (Dy.Dyd.mk s2 m2 e2))
                                              (Dy.addD (Dy.Dyd.mk s' m' e') (Dy.Dyd.mk s2 m2 e2))).1.neg →
                                      ∀ (l10 : List Nat),
                                        l10 =
                                            (Dy.boundIf (Dy.mayD (Dy.Dyd.mk s' m' e') && Dy.mayD (Dy.Dyd.mk s2 m2 e2))
                                                  (Dy.addD (Dy.Dyd.mk s' m' e') (Dy.Dyd.mk s2 m2 e2))).1.mag →
                                          ∀ (n11 : Int),
                                            n11 =
                                                (Dy.boundIf
                                                      (Dy.mayD (Dy.Dyd.mk s' m' e') && Dy.mayD (Dy.Dyd.mk s2 m2 e2))
                                                      (Dy.addD (Dy.Dyd.mk s' m' e') (Dy.Dyd.mk s2 m2 e2))).1.exp →
                                              ∀ (n12 : Int),
                                                n12 =
                                                    (Dy.boundIf
                                                        (Dy.mayD (Dy.Dyd.mk s' m' e') && Dy.mayD (Dy.Dyd.mk s2 m2 e2))
                                                        (Dy.addD (Dy.Dyd.mk s' m' e') (Dy.Dyd.mk s2 m2 e2))).snd →
                                                  ∀ (b13 : Bool),
                                                    b13 =
                                                        (Dy.boundIf
                                                              (Dy.mayD (Dy.Dyd.mk b1 l2 n3) &&
                                                                Dy.mayD (Dy.Dyd.mk s2 m2 e2))
                                                              (Dy.addD (Dy.Dyd.mk b1 l2 n3)
                                                                (Dy.Dyd.mk s2 m2 e2))).1.neg →
                                                      ∀ (l14 : List Nat),
                                                        l14 =
                                                            (Dy.boundIf
                                                                  (Dy.mayD (Dy.Dyd.mk b1 l2 n3) &&
                                                                    Dy.mayD (Dy.Dyd.mk s2 m2 e2))
                                                                  (Dy.addD (Dy.Dyd.mk b1 l2 n3)
                                                                    (Dy.Dyd.mk s2 m2 e2))).1.mag →
                                                          ∀ (n15 : Int),
                                                            n15 =
                                                                (Dy.boundIf
                                                                      (Dy.mayD (Dy.Dyd.mk b1 l2 n3) &&
                                                                        Dy.mayD (Dy.Dyd.mk s2 m2 e2))
                                                                      (Dy.addD (Dy.Dyd.mk b1 l2 n3)
                                                                        (Dy.Dyd.mk s2 m2 e2))).1.exp →
                                                              ∀ (n16 : Int),
                                                                n16 =
                                                                    (Dy.boundIf
                                                                        (Dy.mayD (Dy.Dyd.mk b1 l2 n3) &&
                                                                          Dy.mayD (Dy.Dyd.mk s2 m2 e2))
                                                                        (Dy.addD (Dy.Dyd.mk b1 l2 n3)
                                                                          (Dy.Dyd.mk s2 m2 e2))).snd →
                                                                  ∀ (b17 : Bool),
                                                                    b17 =
                                                                        (Dy.boundIf
                                                                              (Dy.mayD (Dy.Dyd.mk s m e) &&
                                                                                Dy.mayD (Dy.Dyd.mk b9 l10 n11))
                                                                              (Dy.addD (Dy.Dyd.mk s m e)
                                                                                (Dy.Dyd.mk b9 l10 n11))).1.neg →
                                                                      ∀ (l18 : List Nat),
                                                                        l18 =
                                                                            (Dy.boundIf
                                                                                  (Dy.mayD (Dy.Dyd.mk s m e) &&
                                                                                    Dy.mayD (Dy.Dyd.mk b9 l10 n11))
                                                                                  (Dy.addD (Dy.Dyd.mk s m e)
                                                                                    (Dy.Dyd.mk b9 l10 n11))).1.mag →
                                                                          ∀ (n19 : Int),
                                                                            n19 =
                                                                                (Dy.boundIf
                                                                                      (Dy.mayD (Dy.Dyd.mk s m e) &&
                                                                                        Dy.mayD (Dy.Dyd.mk b9 l10 n11))
                                                                                      (Dy.addD (Dy.Dyd.mk s m e)
                                                                                        (Dy.Dyd.mk b9 l10 n11))).1.exp →
                                                                              ∀ (n20 : Int),
                                                                                n20 =
                                                                                    (Dy.boundIf
                                                                                        (Dy.mayD (Dy.Dyd.mk s m e) &&
                                                                                          Dy.mayD
                                                                                            (Dy.Dyd.mk b9 l10 n11))
                                                                                        (Dy.addD (Dy.Dyd.mk s m e)
                                                                                          (Dy.Dyd.mk b9 l10 n11))).snd →
                                                                                  ∀ (b21 : Bool),
                                                                                    b21 =
                                                                                        (Dy.boundIf
                                                                                              (Dy.mayD
                                                                                                  (Dy.Dyd.mk b1 l2
                                                                                                    n3) &&
                                                                                                Dy.mayD
                                                                                                  (Dy.Dyd.mk s' m' e'))
                                                                                              (Dy.addD
                                                                                                (Dy.Dyd.mk b1 l2 n3)
                                                                                                (Dy.negD
                                                                                                  (Dy.Dyd.mk s' m'
                                                                                                    e')))).1.neg →
                                                                                      ∀ (l22 : List Nat),
                                                                                        l22 =
                                                                                            (Dy.boundIf
                                                                                                  (Dy.mayD
                                                                                                      (Dy.Dyd.mk b1 l2
                                                                                                        n3) &&
                                                                                                    Dy.mayD
                                                                                                      (Dy.Dyd.mk s' m'
                                                                                                        e'))
                                                                                                  (Dy.addD
                                                                                                    (Dy.Dyd.mk b1 l2 n3)
                                                                                                    (Dy.negD
                                                                                                      (Dy.Dyd.mk s' m'
                                                                                                        e')))).1.mag →
                                                                                          ∀ (n23 : Int),
                                                                                            n23 =
                                                                                                (Dy.boundIf
                                                                                                      (Dy.mayD
                                                                                                          (Dy.Dyd.mk b1
                                                                                                            l2 n3) &&
                                                                                                        Dy.mayD
                                                                                                          (Dy.Dyd.mk s'
                                                                                                            m' e'))
                                                                                                      (Dy.addD
                                                                                                        (Dy.Dyd.mk b1 l2
                                                                                                          n3)
                                                                                                        (Dy.negD
                                                                                                          (Dy.Dyd.mk s'
                                                                                                            m'
                                                                                                            e')))).1.exp →
                                                                                              ∀ (n24 : Int),
                                                                                                n24 =
                                                                                                    (Dy.boundIf
                                                                                                        (Dy.mayD
                                                                                                            (Dy.Dyd.mk
                                                                                                              b1 l2
                                                                                                              n3) &&
                                                                                                          Dy.mayD
                                                                                                            (Dy.Dyd.mk
                                                                                                              s' m' e'))
                                                                                                        (Dy.addD
                                                                                                          (Dy.Dyd.mk b1
                                                                                                            l2 n3)
                                                                                                          (Dy.negD
                                                                                                            (Dy.Dyd.mk
                                                                                                              s' m'
                                                                                                              e')))).snd →
                                                                                                  bif
                                                                                                      !decide
                                                                                                          (n4 =
                                                                                                            (0 :
                                                                                                              Int)) then
                                                                                                    Q (AV.bool false)
                                                                                                  else
                                                                                                    bif
                                                                                                        !decide
                                                                                                            (n8 =
                                                                                                              (0 :
                                                                                                                Int)) then
                                                                                                      Q (AV.bool false)
                                                                                                    else
                                                                                                      bif
                                                                                                          !decide
                                                                                                              (n12 =
                                                                                                                (0 :
                                                                                                                  Int)) then
                                                                                                        Q
                                                                                                          (AV.bool
                                                                                                            false)
                                                                                                      else
                                                                                                        bif
                                                                                                            !decide
                                                                                                                (n16 =
                                                                                                                  (0 :
                                                                                                                    Int)) then
                                                                                                          Q
                                                                                                            (AV.bool
                                                                                                              false)
                                                                                                        else
                                                                                                          bif
                                                                                                              !decide
                                                                                                                  (n20 =
                                                                                                                    (0 :
                                                                                                                      Int)) then
                                                                                                            Q
                                                                                                              (AV.bool
                                                                                                                false)
                                                                                                          else
                                                                                                            bif
                                                                                                                !decide
                                                                                                                    (n24 =
                                                                                                                      (0 :
                                                                                                                        Int)) then
                                                                                                              Q
                                                                                                                (AV.bool
                                                                                                                  false)
                                                                                                            else
                                                                                                              bif
                                                                                                                  !Dy.sameD
                                                                                                                      (Dy.Dyd.mk
                                                                                                                        b1
                                                                                                                        l2
                                                                                                                        n3)
                                                                                                                      (Dy.Dyd.mk
                                                                                                                        b5
                                                                                                                        l6
                                                                                                                        n7) then
                                                                                                                Q
                                                                                                                  (AV.bool
                                                                                                                    false)
                                                                                                              else
                                                                                                                bif
                                                                                                                    !Dy.sameD
                                                                                                                        (Dy.Dyd.mk
                                                                                                                          b13
                                                                                                                          l14
                                                                                                                          n15)
                                                                                                                        (Dy.Dyd.mk
                                                                                                                          b17
                                                                                                                          l18
                                                                                                                          n19) then
                                                                                                                  Q
                                                                                                                    (AV.bool
                                                                                                                      false)
                                                                                                                else
                                                                                                                  bif
                                                                                                                      !Dy.sameD
                                                                                                                          (Dy.Dyd.mk
                                                                                                                            b21
                                                                                                                            l22
                                                                                                                            n23)
                                                                                                                          (Dy.Dyd.mk
                                                                                                                            s
                                                                                                                            m
                                                                                                                            e) then
                                                                                                                    Q
                                                                                                                      (AV.bool
                                                                                                                        false)
                                                                                                                  else
                                                                                                                    ∀
                                                                                                                      (b25 :
                                                                                                                        Bool),
                                                                                                                      b25 =
                                                                                                                          (Dy.boundIf
                                                                                                                                (Dy.mayD
                                                                                                                                    (Dy.Dyd.mk
                                                                                                                                      s
                                                                                                                                      m
                                                                                                                                      e) &&
                                                                                                                                  Dy.mayD
                                                                                                                                    (Dy.Dyd.mk
                                                                                                                                      s'
                                                                                                                                      m'
                                                                                                                                      e'))
                                                                                                                                (Dy.mulD
                                                                                                                                  (Dy.Dyd.mk
                                                                                                                                    s
                                                                                                                                    m
                                                                                                                                    e)
                                                                                                                                  (Dy.Dyd.mk
                                                                                                                                    s'
                                                                                                                                    m'
                                                                                                                                    e'))).1.neg →
                                                                                                                        ∀
                                                                                                                          (l26 :
                                                                                                                            List
                                                                                                                              Nat),
                                                                                                                          l26 =
                                                                                                                              (Dy.boundIf
                                                                                                                                    (Dy.mayD
                                                                                                                                        (Dy.Dyd.mk
                                                                                                                                          s
                                                                                                                                          m
                                                                                                                                          e) &&
                                                                                                                                      Dy.mayD
                                                                                                                                        (Dy.Dyd.mk
                                                                                                                                          s'
                                                                                                                                          m'
                                                                                                                                          e'))
                                                                                                                                    (Dy.mulD
                                                                                                                                      (Dy.Dyd.mk
                                                                                                                                        s
                                                                                                                                        m
                                                                                                                                        e)
                                                                                                                                      (Dy.Dyd.mk
                                                                                                                                        s'
                                                                                                                                        m'
                                                                                                                                        e'))).1.mag →
                                                                                                                            ∀
                                                                                                                              (n27 :
                                                                                                                                Int),
                                                                                                                              n27 =
                                                                                                                                  (Dy.boundIf
                                                                                                                                        (Dy.mayD
                                                                                                                                            (Dy.Dyd.mk
                                                                                                                                              s
                                                                                                                                              m
                                                                                                                                              e) &&
                                                                                                                                          Dy.mayD
                                                                                                                                            (Dy.Dyd.mk
                                                                                                                                              s'
                                                                                                                                              m'
                                                                                                                                              e'))
                                                                                                                                        (Dy.mulD
                                                                                                                                          (Dy.Dyd.mk
                                                                                                                                            s
                                                                                                                                            m
                                                                                                                                            e)
                                                                                                                                          (Dy.Dyd.mk
                                                                                                                                            s'
                                                                                                                                            m'
                                                                                                                                            e'))).1.exp →
                                                                                                                                ∀
                                                                                                                                  (n28 :
                                                                                                                                    Int),
                                                                                                                                  n28 =
                                                                                                                                      (Dy.boundIf
                                                                                                                                          (Dy.mayD
                                                                                                                                              (Dy.Dyd.mk
                                                                                                                                                s
                                                                                                                                                m
                                                                                                                                                e) &&
                                                                                                                                            Dy.mayD
                                                                                                                                              (Dy.Dyd.mk
                                                                                                                                                s'
                                                                                                                                                m'
                                                                                                                                                e'))
                                                                                                                                          (Dy.mulD
                                                                                                                                            (Dy.Dyd.mk
                                                                                                                                              s
                                                                                                                                              m
                                                                                                                                              e)
                                                                                                                                            (Dy.Dyd.mk
                                                                                                                                              s'
                                                                                                                                              m'
                                                                                                                                              e'))).snd →
                                                                                                                                    ∀
                                                                                                                                      (b29 :
                                                                                                                                        Bool),
                                                                                                                                      b29 =
                                                                                                                                          (Dy.boundIf
                                                                                                                                                (Dy.mayD
                                                                                                                                                    (Dy.Dyd.mk
                                                                                                                                                      s'
                                                                                                                                                      m'
                                                                                                                                                      e') &&
                                                                                                                                                  Dy.mayD
                                                                                                                                                    (Dy.Dyd.mk
                                                                                                                                                      s
                                                                                                                                                      m
                                                                                                                                                      e))
                                                                                                                                                (Dy.mulD
                                                                                                                                                  (Dy.Dyd.mk
                                                                                                                                                    s'
                                                                                                                                                    m'
                                                                                                                                                    e')
                                                                                                                                                  (Dy.Dyd.mk
                                                                                                                                                    s
                                                                                                                                                    m
                                                                                                                                                    e))).1.neg →
                                                                                                                                        ∀
                                                                                                                                          (l30 :
                                                                                                                                            List
                                                                                                                                              Nat),
                                                                                                                                          l30 =
                                                                                                                                              (Dy.boundIf
                                                                                                                                                    (Dy.mayD
                                                                                                                                                        (Dy.Dyd.mk
                                                                                                                                                          s'
                                                                                                                                                          m'
                                                                                                                                                          e') &&
                                                                                                                                                      Dy.mayD
                                                                                                                                                        (Dy.Dyd.mk
                                                                                                                                                          s
                                                                                                                                                          m
                                                                                                                                                          e))
                                                                                                                                                    (Dy.mulD
                                                                                                                                                      (Dy.Dyd.mk
                                                                                                                                                        s'
                                                                                                                                                        m'
                                                                                                                                                        e')
                                                                                                                                                      (Dy.Dyd.mk
                                                                                                                                                        s
                                                                                                                                                        m
                                                                                                                                                        e))).1.mag →
                                                                                                                                            ∀
                                                                                                                                              (n31 :
                                                                                                                                                Int),
                                                                                                                                              n31 =
                                                                                                                                                  (Dy.boundIf
                                                                                                                                                        (Dy.mayD
                                                                                                                                                            (Dy.Dyd.mk
                                                                                                                                                              s'
                                                                                                                                                              m'
                                                                                                                                                              e') &&
                                                                                                                                                          Dy.mayD
                                                                                                                                                            (Dy.Dyd.mk
                                                                                                                                                              s
                                                                                                                                                              m
                                                                                                                                                              e))
                                                                                                                                                        (Dy.mulD
                                                                                                                                                          (Dy.Dyd.mk
                                                                                                                                                            s'
                                                                                                                                                            m'
                                                                                                                                                            e')
                                                                                                                                                          (Dy.Dyd.mk
                                                                                                                                                            s
                                                                                                                                                            m
                                                                                                                                                            e))).1.exp →
                                                                                                                                                ∀
                                                                                                                                                  (n32 :
                                                                                                                                                    Int),
                                                                                                                                                  n32 =
                                                                                                                                                      (Dy.boundIf
                                                                                                                                                          (Dy.mayD
                                                                                                                                                              (Dy.Dyd.mk
                                                                                                                                                                s'
                                                                                                                                                                m'
                                                                                                                                                                e') &&
                                                                                                                                                            Dy.mayD
                                                                                                                                                              (Dy.Dyd.mk
                                                                                                                                                                s
                                                                                                                                                                m
                                                                                                                                                                e))
                                                                                                                                                          (Dy.mulD
                                                                                                                                                            (Dy.Dyd.mk
                                                                                                                                                              s'
                                                                                                                                                              m'
                                                                                                                                                              e')
                                                                                                                                                            (Dy.Dyd.mk
                                                                                                                                                              s
                                                                                                                                                              m
                                                                                                                                                              e))).snd →
                                                                                                                                                    ∀
                                                                                                                                                      (b33 :
                                                                                                                                                        Bool),
                                                                                                                                                      b33 =
                                                                                                                                                          (Dy.boundIf
                                                                                                                                                                (Dy.mayD
                                                                                                                                                                    (Dy.Dyd.mk
                                                                                                                                                                      s
                                                                                                                                                                      m
                                                                                                                                                                      e) &&
                                                                                                                                                                  Dy.mayD
                                                                                                                                                                    (Dy.Dyd.mk
                                                                                                                                                                      s2
                                                                                                                                                                      m2
                                                                                                                                                                      e2))
                                                                                                                                                                (Dy.mulD
                                                                                                                                                                  (Dy.Dyd.mk
                                                                                                                                                                    s
                                                                                                                                                                    m
                                                                                                                                                                    e)
                                                                                                                                                                  (Dy.Dyd.mk
                                                                                                                                                                    s2
                                                                                                                                                                    m2
                                                                                                                                                                    e2))).1.neg →
                                                                                                                                                        ∀
                                                                                                                                                          (l34 :
                                                                                                                                                            List
                                                                                                                                                              Nat),
                                                                                                                                                          l34 =
                                                                                                                                                              (Dy.boundIf
                                                                                                                                                                    (Dy.mayD
                                                                                                                                                                        (Dy.Dyd.mk
                                                                                                                                                                          s
                                                                                                                                                                          m
                                                                                                                                                                          e) &&
                                                                                                                                                                      Dy.mayD
                                                                                                                                                                        (Dy.Dyd.mk
                                                                                                                                                                          s2
                                                                                                                                                                          m2
                                                                                                                                                                          e2))
                                                                                                                                                                    (Dy.mulD
                                                                                                                                                                      (Dy.Dyd.mk
                                                                                                                                                                        s
                                                                                                                                                                        m
                                                                                                                                                                        e)
                                                                                                                                                                      (Dy.Dyd.mk
                                                                                                                                                                        s2
                                                                                                                                                                        m2
                                                                                                                                                                        e2))).1.mag →
                                                                                                                                                            ∀
                                                                                                                                                              (n35 :
                                                                                                                                                                Int),
                                                                                                                                                              n35 =
                                                                                                                                                                  (Dy.boundIf
                                                                                                                                                                        (Dy.mayD
                                                                                                                                                                            (Dy.Dyd.mk
                                                                                                                                                                              s
                                                                                                                                                                              m
                                                                                                                                                                              e) &&
                                                                                                                                                                          Dy.mayD
                                                                                                                                                                            (Dy.Dyd.mk
                                                                                                                                                                              s2
                                                                                                                                                                              m2
                                                                                                                                                                              e2))
                                                                                                                                                                        (Dy.mulD
                                                                                                                                                                          (Dy.Dyd.mk
                                                                                                                                                                            s
                                                                                                                                                                            m
                                                                                                                                                                            e)
                                                                                                                                                                          (Dy.Dyd.mk
                                                                                                                                                                            s2
                                                                                                                                                                            m2
                                                                                                                                                                            e2))).1.exp →
                                                                                                                                                                ∀
                                                                                                                                                                  (n36 :
                                                                                                                                                                    Int),
                                                                                                                                                                  n36 =
                                                                                                                                                                      (Dy.boundIf
                                                                                                                                                                          (Dy.mayD
                                                                                                                                                                              (Dy.Dyd.mk
                                                                                                                                                                                s
                                                                                                                                                                                m
                                                                                                                                                                                e) &&
                                                                                                                                                                            Dy.mayD
                                                                                                                                                                              (Dy.Dyd.mk
                                                                                                                                                                                s2
                                                                                                                                                                                m2
                                                                                                                                                                                e2))
                                                                                                                                                                          (Dy.mulD
                                                                                                                                                                            (Dy.Dyd.mk
                                                                                                                                                                              s
                                                                                                                                                                              m
                                                                                                                                                                              e)
                                                                                                                                                                            (Dy.Dyd.mk
                                                                                                                                                                              s2
                                                                                                                                                                              m2
                                                                                                                                                                              e2))).snd →
                                                                                                                                                                    ∀
                                                                                                                                                                      (b37 :
                                                                                                                                                                        Bool),
                                                                                                                                                                      b37 =
                                                                                                                                                                          (Dy.boundIf
                                                                                                                                                                                (Dy.mayD
                                                                                                                                                                                    (Dy.Dyd.mk
                                                                                                                                                                                      s
                                                                                                                                                                                      m
                                                                                                                                                                                      e) &&
                                                                                                                                                                                  Dy.mayD
                                                                                                                                                                                    (Dy.Dyd.mk
                                                                                                                                                                                      b9
                                                                                                                                                                                      l10
                                                                                                                                                                                      n11))
                                                                                                                                                                                (Dy.mulD
                                                                                                                                                                                  (Dy.Dyd.mk
                                                                                                                                                                                    s
                                                                                                                                                                                    m
                                                                                                                                                                                    e)
                                                                                                                                                                                  (Dy.Dyd.mk
                                                                                                                                                                                    b9
                                                                                                                                                                                    l10
                                                                                                                                                                                    n11))).1.neg →
                                                                                                                                                                        ∀
                                                                                                                                                                          (l38 :
                                                                                                                                                                            List
                                                                                                                                                                              Nat),
                                                                                                                                                                          l38 =
                                                                                                                                                                              (Dy.boundIf
                                                                                                                                                                                    (Dy.mayD
                                                                                                                                                                                        (Dy.Dyd.mk
                                                                                                                                                                                          s
                                                                                                                                                                                          m
                                                                                                                                                                                          e) &&
                                                                                                                                                                                      Dy.mayD
                                                                                                                                                                                        (Dy.Dyd.mk
                                                                                                                                                                                          b9
                                                                                                                                                                                          l10
                                                                                                                                                                                          n11))
                                                                                                                                                                                    (Dy.mulD
                                                                                                                                                                                      (Dy.Dyd.mk
                                                                                                                                                                                        s
                                                                                                                                                                                        m
                                                                                                                                                                                        e)
                                                                                                                                                                                      (Dy.Dyd.mk
                                                                                                                                                                                        b9
                                                                                                                                                                                        l10
                                                                                                                                                                                        n11))).1.mag →
                                                                                                                                                                            ∀
                                                                                                                                                                              (n39 :
                                                                                                                                                                                Int),
                                                                                                                                                                              n39 =
                                                                                                                                                                                  (Dy.boundIf
                                                                                                                                                                                        (Dy.mayD
                                                                                                                                                                                            (Dy.Dyd.mk
                                                                                                                                                                                              s
                                                                                                                                                                                              m
                                                                                                                                                                                              e) &&
                                                                                                                                                                                          Dy.mayD
                                                                                                                                                                                            (Dy.Dyd.mk
                                                                                                                                                                                              b9
                                                                                                                                                                                              l10
                                                                                                                                                                                              n11))
                                                                                                                                                                                        (Dy.mulD
                                                                                                                                                                                          (Dy.Dyd.mk
                                                                                                                                                                                            s
                                                                                                                                                                                            m
                                                                                                                                                                                            e)
                                                                                                                                                                                          (Dy.Dyd.mk
                                                                                                                                                                                            b9
                                                                                                                                                                                            l10
                                                                                                                                                                                            n11))).1.exp →
                                                                                                                                                                                ∀
                                                                                                                                                                                  (n40 :
                                                                                                                                                                                    Int),
                                                                                                                                                                                  n40 =
                                                                                                                                                                                      (Dy.boundIf
                                                                                                                                                                                          (Dy.mayD
                                                                                                                                                                                              (Dy.Dyd.mk
                                                                                                                                                                                                s
                                                                                                                                                                                                m
                                                                                                                                                                                                e) &&
                                                                                                                                                                                            Dy.mayD
                                                                                                                                                                                              (Dy.Dyd.mk
                                                                                                                                                                                                b9
                                                                                                                                                                                                l10
                                                                                                                                                                                                n11))
                                                                                                                                                                                          (Dy.mulD
                                                                                                                                                                                            (Dy.Dyd.mk
                                                                                                                                                                                              s
                                                                                                                                                                                              m
                                                                                                                                                                                              e)
                                                                                                                                                                                            (Dy.Dyd.mk
                                                                                                                                                                                              b9
                                                                                                                                                                                              l10
                                                                                                                                                                                              n11))).snd →
                                                                                                                                                                                    ∀
                                                                                                                                                                                      (b41 :
                                                                                                                                                                                        Bool),
                                                                                                                                                                                      b41 =
                                                                                                                                                                                          (Dy.boundIf
                                                                                                                                                                                                (Dy.mayD
                                                                                                                                                                                                    (Dy.Dyd.mk
                                                                                                                                                                                                      b25
                                                                                                                                                                                                      l26
                                                                                                                                                                                                      n27) &&
                                                                                                                                                                                                  Dy.mayD
                                                                                                                                                                                                    (Dy.Dyd.mk
                                                                                                                                                                                                      b33
                                                                                                                                                                                                      l34
                                                                                                                                                                                                      n35))
                                                                                                                                                                                                (Dy.addD
                                                                                                                                                                                                  (Dy.Dyd.mk
                                                                                                                                                                                                    b25
                                                                                                                                                                                                    l26
                                                                                                                                                                                                    n27)
                                                                                                                                                                                                  (Dy.Dyd.mk
                                                                                                                                                                                                    b33
                                                                                                                                                                                                    l34
                                                                                                                                                                                                    n35))).1.neg →
                                                                                                                                                                                        ∀
                                                                                                                                                                                          (l42 :
                                                                                                                                                                                            List
                                                                                                                                                                                              Nat),
                                                                                                                                                                                          l42 =
                                                                                                                                                                                              (Dy.boundIf
                                                                                                                                                                                                    (Dy.mayD
                                                                                                                                                                                                        (Dy.Dyd.mk
                                                                                                                                                                                                          b25
                                                                                                                                                                                                          l26
                                                                                                                                                                                                          n27) &&
                                                                                                                                                                                                      Dy.mayD
                                                                                                                                                                                                        (Dy.Dyd.mk
                                                                                                                                                                                                          b33
                                                                                                                                                                                                          l34
                                                                                                                                                                                                          n35))
                                                                                                                                                                                                    (Dy.addD
                                                                                                                                                                                                      (Dy.Dyd.mk
                                                                                                                                                                                                        b25
                                                                                                                                                                                                        l26
                                                                                                                                                                                                        n27)
                                                                                                                                                                                                      (Dy.Dyd.mk
                                                                                                                                                                                                        b33
                                                                                                                                                                                                        l34
                                                                                                                                                                                                        n35))).1.mag →
                                                                                                                                                                                            ∀
                                                                                                                                                                                              (n43 :
                                                                                                                                                                                                Int),
                                                                                                                                                                                              n43 =
                                                                                                                                                                                                  (Dy.boundIf
                                                                                                                                                                                                        (Dy.mayD
                                                                                                                                                                                                            (Dy.Dyd.mk
                                                                                                                                                                                                              b25
                                                                                                                                                                                                              l26
                                                                                                                                                                                                              n27) &&
                                                                                                                                                                                                          Dy.mayD
                                                                                                                                                                                                            (Dy.Dyd.mk
                                                                                                                                                                                                              b33
                                                                                                                                                                                                              l34
                                                                                                                                                                                                              n35))
                                                                                                                                                                                                        (Dy.addD
                                                                                                                                                                                                          (Dy.Dyd.mk
                                                                                                                                                                                                            b25
                                                                                                                                                                                                            l26
                                                                                                                                                                                                            n27)
                                                                                                                                                                                                          (Dy.Dyd.mk
                                                                                                                                                                                                            b33
                                                                                                                                                                                                            l34
                                                                                                                                                                                                            n35))).1.exp →
                                                                                                                                                                                                ∀
                                                                                                                                                                                                  (n44 :
                                                                                                                                                                                                    Int),
                                                                                                                                                                                                  n44 =
                                                                                                                                                                                                      (Dy.boundIf
                                                                                                                                                                                                          (Dy.mayD
                                                                                                                                                                                                              (Dy.Dyd.mk
                                                                                                                                                                                                                b25
                                                                                                                                                                                                                l26
                                                                                                                                                                                                                n27) &&
                                                                                                                                                                                                            Dy.mayD
                                                                                                                                                                                                              (Dy.Dyd.mk
                                                                                                                                                                                                                b33
                                                                                                                                                                                                                l34
                                                                                                                                                                                                                n35))
                                                                                                                                                                                                          (Dy.addD
                                                                                                                                                                                                            (Dy.Dyd.mk
                                                                                                                                                                                                              b25
                                                                                                                                                                                                              l26
                                                                                                                                                                                                              n27)
                                                                                                                                                                                                            (Dy.Dyd.mk
                                                                                                                                                                                                              b33
                                                                                                                                                                                                              l34
                                                                                                                                                                                                              n35))).snd →
                                                                                                                                                                                                    ∀
                                                                                                                                                                                                      (b45 :
                                                                                                                                                                                                        Bool),
                                                                                                                                                                                                      b45 =
                                                                                                                                                                                                          (Dy.boundIf
                                                                                                                                                                                                                (Dy.mayD
                                                                                                                                                                                                                    (Dy.Dyd.mk
                                                                                                                                                                                                                      b25
                                                                                                                                                                                                                      l26
                                                                                                                                                                                                                      n27) &&
                                                                                                                                                                                                                  Dy.mayD
                                                                                                                                                                                                                    (Dy.Dyd.mk
                                                                                                                                                                                                                      s2
                                                                                                                                                                                                                      m2
                                                                                                                                                                                                                      e2))
                                                                                                                                                                                                                (Dy.mulD
                                                                                                                                                                                                                  (Dy.Dyd.mk
                                                                                                                                                                                                                    b25
                                                                                                                                                                                                                    l26
                                                                                                                                                                                                                    n27)
                                                                                                                                                                                                                  (Dy.Dyd.mk
                                                                                                                                                                                                                    s2
                                                                                                                                                                                                                    m2
                                                                                                                                                                                                                    e2))).1.neg →
                                                                                                                                                                                                        ∀
                                                                                                                                                                                                          (l46 :
                                                                                                                                                                                                            List
                                                                                                                                                                                                              Nat),
                                                                                                                                                                                                          l46 =
                                                                                                                                                                                                              (Dy.boundIf
                                                                                                                                                                                                                    (Dy.mayD
                                                                                                                                                                                                                        (Dy.Dyd.mk
                                                                                                                                                                                                                          b25
                                                                                                                                                                                                                          l26
                                                                                                                                                                                                                          n27) &&
                                                                                                                                                                                                                      Dy.mayD
                                                                                                                                                                                                                        (Dy.Dyd.mk
                                                                                                                                                                                                                          s2
                                                                                                                                                                                                                          m2
                                                                                                                                                                                                                          e2))
                                                                                                                                                                                                                    (Dy.mulD
                                                                                                                                                                                                                      (Dy.Dyd.mk
                                                                                                                                                                                                                        b25
                                                                                                                                                                                                                        l26
                                                                                                                                                                                                                        n27)
                                                                                                                                                                                                                      (Dy.Dyd.mk
                                                                                                                                                                                                                        s2
                                                                                                                                                                                                                        m2
                                                                                                                                                                                                                        e2))).1.mag →
                                                                                                                                                                                                            ∀
                                                                                                                                                                                                              (n47 :
                                                                                                                                                                                                                Int),
                                                                                                                                                                                                              n47 =
                                                                                                                                                                                                                  (Dy.boundIf
                                                                                                                                                                                                                        (Dy.mayD
                                                                                                                                                                                                                            (Dy.Dyd.mk
                                                                                                                                                                                                                              b25
                                                                                                                                                                                                                              l26
                                                                                                                                                                                                                              n27) &&
                                                                                                                                                                                                                          Dy.mayD
                                                                                                                                                                                                                            (Dy.Dyd.mk
                                                                                                                                                                                                                              s2
                                                                                                                                                                                                                              m2
                                                                                                                                                                                                                              e2))
                                                                                                                                                                                                                        (Dy.mulD
                                                                                                                                                                                                                          (Dy.Dyd.mk
                                                                                                                                                                                                                            b25
                                                                                                                                                                                                                            l26
                                                                                                                                                                                                                            n27)
                                                                                                                                                                                                                          (Dy.Dyd.mk
                                                                                                                                                                                                                            s2
                                                                                                                                                                                                                            m2
                                                                                                                                                                                                                            e2))).1.exp →
                                                                                                                                                                                                                ∀
                                                                                                                                                                                                                  (n48 :
                                                                                                                                                                                                                    Int),
                                                                                                                                                                                                                  n48 =
                                                                                                                                                                                                                      (Dy.boundIf
                                                                                                                                                                                                                          (Dy.mayD
                                                                                                                                                                                                                              (Dy.Dyd.mk
                                                                                                                                                                                                                                b25
                                                                                                                                                                                                                                l26
                                                                                                                                                                                                                                n27) &&
                                                                                                                                                                                                                            Dy.mayD
                                                                                                                                                                                                                              (Dy.Dyd.mk
                                                                                                                                                                                                                                s2
                                                                                                                                                                                                                                m2
                                                                                                                                                                                                                                e2))
                                                                                                                                                                                                                          (Dy.mulD
                                                                                                                                                                                                                            (Dy.Dyd.mk
                                                                                                                                                                                                                              b25
                                                                                                                                                                                                                              l26
                                                                                                                                                                                                                              n27)
                                                                                                                                                                                                                            (Dy.Dyd.mk
                                                                                                                                                                                                                              s2
                                                                                                                                                                                                                              m2
                                                                                                                                                                                                                              e2))).snd →
                                                                                                                                                                                                                    ∀
                                                                                                                                                                                                                      (b49 :
                                                                                                                                                                                                                        Bool),
                                                                                                                                                                                                                      b49 =
                                                                                                                                                                                                                          (Dy.boundIf
                                                                                                                                                                                                                                (Dy.mayD
                                                                                                                                                                                                                                    (Dy.Dyd.mk
                                                                                                                                                                                                                                      s'
                                                                                                                                                                                                                                      m'
                                                                                                                                                                                                                                      e') &&
                                                                                                                                                                                                                                  Dy.mayD
                                                                                                                                                                                                                                    (Dy.Dyd.mk
                                                                                                                                                                                                                                      s2
                                                                                                                                                                                                                                      m2
                                                                                                                                                                                                                                      e2))
                                                                                                                                                                                                                                (Dy.mulD
                                                                                                                                                                                                                                  (Dy.Dyd.mk
                                                                                                                                                                                                                                    s'
                                                                                                                                                                                                                                    m'
                                                                                                                                                                                                                                    e')
                                                                                                                                                                                                                                  (Dy.Dyd.mk
                                                                                                                                                                                                                                    s2
                                                                                                                                                                                                                                    m2
                                                                                                                                                                                                                                    e2))).1.neg →
                                                                                                                                                                                                                        ∀
                                                                                                                                                                                                                          (l50 :
                                                                                                                                                                                                                            List
                                                                                                                                                                                                                              Nat),
                                                                                                                                                                                                                          l50 =
                                                                                                                                                                                                                              (Dy.boundIf
                                                                                                                                                                                                                                    (Dy.mayD
                                                                                                                                                                                                                                        (Dy.Dyd.mk
                                                                                                                                                                                                                                          s'
                                                                                                                                                                                                                                          m'
                                                                                                                                                                                                                                          e') &&
                                                                                                                                                                                                                                      Dy.mayD
                                                                                                                                                                                                                                        (Dy.Dyd.mk
                                                                                                                                                                                                                                          s2
                                                                                                                                                                                                                                          m2
                                                                                                                                                                                                                                          e2))
                                                                                                                                                                                                                                    (Dy.mulD
                                                                                                                                                                                                                                      (Dy.Dyd.mk
                                                                                                                                                                                                                                        s'
                                                                                                                                                                                                                                        m'
                                                                                                                                                                                                                                        e')
                                                                                                                                                                                                                                      (Dy.Dyd.mk
                                                                                                                                                                                                                                        s2
                                                                                                                                                                                                                                        m2
                                                                                                                                                                                                                                        e2))).1.mag →
                                                                                                                                                                                                                            ∀
                                                                                                                                                                                                                              (n51 :
                                                                                                                                                                                                                                Int),
                                                                                                                                                                                                                              n51 =
                                                                                                                                                                                                                                  (Dy.boundIf
                                                                                                                                                                                                                                        (Dy.mayD
                                                                                                                                                                                                                                            (Dy.Dyd.mk
                                                                                                                                                                                                                                              s'
                                                                                                                                                                                                                                              m'
                                                                                                                                                                                                                                              e') &&
                                                                                                                                                                                                                                          Dy.mayD
                                                                                                                                                                                                                                            (Dy.Dyd.mk
                                                                                                                                                                                                                                              s2
                                                                                                                                                                                                                                              m2
                                                                                                                                                                                                                                              e2))
                                                                                                                                                                                                                                        (Dy.mulD
                                                                                                                                                                                                                                          (Dy.Dyd.mk
                                                                                                                                                                                                                                            s'
                                                                                                                                                                                                                                            m'
                                                                                                                                                                                                                                            e')
                                                                                                                                                                                                                                          (Dy.Dyd.mk
                                                                                                                                                                                                                                            s2
                                                                                                                                                                                                                                            m2
                                                                                                                                                                                                                                            e2))).1.exp →
                                                                                                                                                                                                                                ∀
                                                                                                                                                                                                                                  (n52 :
                                                                                                                                                                                                                                    Int),
                                                                                                                                                                                                                                  n52 =
                                                                                                                                                                                                                                      (Dy.boundIf
                                                                                                                                                                                                                                          (Dy.mayD
                                                                                                                                                                                                                                              (Dy.Dyd.mk
                                                                                                                                                                                                                                                s'
                                                                                                                                                                                                                                                m'
                                                                                                                                                                                                                                                e') &&
                                                                                                                                                                                                                                            Dy.mayD
                                                                                                                                                                                                                                              (Dy.Dyd.mk
                                                                                                                                                                                                                                                s2
                                                                                                                                                                                                                                                m2
                                                                                                                                                                                                                                                e2))
                                                                                                                                                                                                                                          (Dy.mulD
                                                                                                                                                                                                                                            (Dy.Dyd.mk
                                                                                                                                                                                                                                              s'
                                                                                                                                                                                                                                              m'
                                                                                                                                                                                                                                              e')
                                                                                                                                                                                                                                            (Dy.Dyd.mk
                                                                                                                                                                                                                                              s2
                                                                                                                                                                                                                                              m2
                                                                                                                                                                                                                                              e2))).snd →
                                                                                                                                                                                                                                    ∀
                                                                                                                                                                                                                                      (b53 :
                                                                                                                                                                                                                                        Bool),
                                                                                                                                                                                                                                      b53 =
                                                                                                                                                                                                                                          (Dy.boundIf
                                                                                                                                                                                                                                                (Dy.mayD
                                                                                                                                                                                                                                                    (Dy.Dyd.mk
                                                                                                                                                                                                                                                      s
                                                                                                                                                                                                                                                      m
                                                                                                                                                                                                                                                      e) &&
                                                                                                                                                                                                                                                  Dy.mayD
                                                                                                                                                                                                                                                    (Dy.Dyd.mk
                                                                                                                                                                                                                                                      b49
                                                                                                                                                                                                                                                      l50
                                                                                                                                                                                                                                                      n51))
                                                                                                                                                                                                                                                (Dy.mulD
                                                                                                                                                                                                                                                  (Dy.Dyd.mk
                                                                                                                                                                                                                                                    s
                                                                                                                                                                                                                                                    m
                                                                                                                                                                                                                                                    e)
                                                                                                                                                                                                                                                  (Dy.Dyd.mk
                                                                                                                                                                                                                                                    b49
                                                                                                                                                                                                                                                    l50
                                                                                                                                                                                                                                                    n51))).1.neg →
                                                                                                                                                                                                                                        ∀
                                                                                                                                                                                                                                          (l54 :
                                                                                                                                                                                                                                            List
                                                                                                                                                                                                                                              Nat),
                                                                                                                                                                                                                                          l54 =
                                                                                                                                                                                                                                              (Dy.boundIf
                                                                                                                                                                                                                                                    (Dy.mayD
                                                                                                                                                                                                                                                        (Dy.Dyd.mk
                                                                                                                                                                                                                                                          s
                                                                                                                                                                                                                                                          m
                                                                                                                                                                                                                                                          e) &&
                                                                                                                                                                                                                                                      Dy.mayD
                                                                                                                                                                                                                                                        (Dy.Dyd.mk
                                                                                                                                                                                                                                                          b49
                                                                                                                                                                                                                                                          l50
                                                                                                                                                                                                                                                          n51))
                                                                                                                                                                                                                                                    (Dy.mulD
                                                                                                                                                                                                                                                      (Dy.Dyd.mk
                                                                                                                                                                                                                                                        s
                                                                                                                                                                                                                                                        m
                                                                                                                                                                                                                                                        e)
                                                                                                                                                                                                                                                      (Dy.Dyd.mk
                                                                                                                                                                                                                                                        b49
                                                                                                                                                                                                                                                        l50
                                                                                                                                                                                                                                                        n51))).1.mag →
                                                                                                                                                                                                                                            ∀
                                                                                                                                                                                                                                              (n55 :
                                                                                                                                                                                                                                                Int),
                                                                                                                                                                                                                                              n55 =
                                                                                                                                                                                                                                                  (Dy.boundIf
                                                                                                                                                                                                                                                        (Dy.mayD
                                                                                                                                                                                                                                                            (Dy.Dyd.mk
                                                                                                                                                                                                                                                              s
                                                                                                                                                                                                                                                              m
                                                                                                                                                                                                                                                              e) &&
                                                                                                                                                                                                                                                          Dy.mayD
                                                                                                                                                                                                                                                            (Dy.Dyd.mk
                                                                                                                                                                                                                                                              b49
                                                                                                                                                                                                                                                              l50
                                                                                                                                                                                                                                                              n51))
                                                                                                                                                                                                                                                        (Dy.mulD
                                                                                                                                                                                                                                                          (Dy.Dyd.mk
                                                                                                                                                                                                                                                            s
                                                                                                                                                                                                                                                            m
                                                                                                                                                                                                                                                            e)
                                                                                                                                                                                                                                                          (Dy.Dyd.mk
                                                                                                                                                                                                                                                            b49
                                                                                                                                                                                                                                                            l50
                                                                                                                                                                                                                                                            n51))).1.exp →
                                                                                                                                                                                                                                                ∀
                                                                                                                                                                                                                                                  (n56 :
                                                                                                                                                                                                                                                    Int),
                                                                                                                                                                                                                                                  n56 =
                                                                                                                                                                                                                                                      (Dy.boundIf
                                                                                                                                                                                                                                                          (Dy.mayD
                                                                                                                                                                                                                                                              (Dy.Dyd.mk
                                                                                                                                                                                                                                                                s
                                                                                                                                                                                                                                                                m
                                                                                                                                                                                                                                                                e) &&
                                                                                                                                                                                                                                                            Dy.mayD
                                                                                                                                                                                                                                                              (Dy.Dyd.mk
                                                                                                                                                                                                                                                                b49
                                                                                                                                                                                                                                                                l50
                                                                                                                                                                                                                                                                n51))
                                                                                                                                                                                                                                                          (Dy.mulD
                                                                                                                                                                                                                                                            (Dy.Dyd.mk
                                                                                                                                                                                                                                                              s
                                                                                                                                                                                                                                                              m
                                                                                                                                                                                                                                                              e)
                                                                                                                                                                                                                                                            (Dy.Dyd.mk
                                                                                                                                                                                                                                                              b49
                                                                                                                                                                                                                                                              l50
                                                                                                                                                                                                                                                              n51))).snd →
                                                                                                                                                                                                                                                    bif
                                                                                                                                                                                                                                                        decide
                                                                                                                                                                                                                                                          (n28 =
                                                                                                                                                                                                                                                            (0 :
                                                                                                                                                                                                                                                              Int)) then
                                                                                                                                                                                                                                                      bif
                                                                                                                                                                                                                                                          decide
                                                                                                                                                                                                                                                            (n32 =
                                                                                                                                                                                                                                                              (0 :
                                                                                                                                                                                                                                                                Int)) then
                                                                                                                                                                                                                                                        bif
                                                                                                                                                                                                                                                            decide
                                                                                                                                                                                                                                                              (n36 =
                                                                                                                                                                                                                                                                (0 :
                                                                                                                                                                                                                                                                  Int)) then
                                                                                                                                                                                                                                                          bif
                                                                                                                                                                                                                                                              decide
                                                                                                                                                                                                                                                                (n40 =
                                                                                                                                                                                                                                                                  (0 :
                                                                                                                                                                                                                                                                    Int)) then
                                                                                                                                                                                                                                                            bif
                                                                                                                                                                                                                                                                decide
                                                                                                                                                                                                                                                                  (n44 =
                                                                                                                                                                                                                                                                    (0 :
                                                                                                                                                                                                                                                                      Int)) then
                                                                                                                                                                                                                                                              bif
                                                                                                                                                                                                                                                                  decide
                                                                                                                                                                                                                                                                    (n48 =
                                                                                                                                                                                                                                                                      (0 :
                                                                                                                                                                                                                                                                        Int)) then
                                                                                                                                                                                                                                                                bif
                                                                                                                                                                                                                                                                    decide
                                                                                                                                                                                                                                                                      (n52 =
                                                                                                                                                                                                                                                                        (0 :
                                                                                                                                                                                                                                                                          Int)) then
                                                                                                                                                                                                                                                                  bif
                                                                                                                                                                                                                                                                      decide
                                                                                                                                                                                                                                                                        (n56 =
                                                                                                                                                                                                                                                                          (0 :
                                                                                                                                                                                                                                                                            Int)) then
                                                                                                                                                                                                                                                                    bif
                                                                                                                                                                                                                                                                        Dy.sameD
                                                                                                                                                                                                                                                                          (Dy.Dyd.mk
                                                                                                                                                                                                                                                                            b25
                                                                                                                                                                                                                                                                            l26
                                                                                                                                                                                                                                                                            n27)
                                                                                                                                                                                                                                                                          (Dy.Dyd.mk
                                                                                                                                                                                                                                                                            b29
                                                                                                                                                                                                                                                                            l30
                                                                                                                                                                                                                                                                            n31) then
                                                                                                                                                                                                                                                                      bif
                                                                                                                                                                                                                                                                          Dy.sameD
                                                                                                                                                                                                                                                                            (Dy.Dyd.mk
                                                                                                                                                                                                                                                                              b37
                                                                                                                                                                                                                                                                              l38
                                                                                                                                                                                                                                                                              n39)
                                                                                                                                                                                                                                                                            (Dy.Dyd.mk
                                                                                                                                                                                                                                                                              b41
                                                                                                                                                                                                                                                                              l42
                                                                                                                                                                                                                                                                              n43) then
                                                                                                                                                                                                                                                                        bif
                                                                                                                                                                                                                                                                            Dy.sameD
                                                                                                                                                                                                                                                                              (Dy.Dyd.mk
                                                                                                                                                                                                                                                                                b45
                                                                                                                                                                                                                                                                                l46
                                                                                                                                                                                                                                                                                n47)
                                                                                                                                                                                                                                                                              (Dy.Dyd.mk
                                                                                                                                                                                                                                                                                b53
                                                                                                                                                                                                                                                                                l54
                                                                                                                                                                                                                                                                                n55) then
                                                                                                                                                                                                                                                                          Q
                                                                                                                                                                                                                                                                            (AV.bool
                                                                                                                                                                                                                                                                              true)
                                                                                                                                                                                                                                                                        else
                                                                                                                                                                                                                                                                          Q
                                                                                                                                                                                                                                                                            (AV.bool
                                                                                                                                                                                                                                                                              false)
                                                                                                                                                                                                                                                                      else
                                                                                                                                                                                                                                                                        Q
                                                                                                                                                                                                                                                                          (AV.bool
                                                                                                                                                                                                                                                                            false)
                                                                                                                                                                                                                                                                    else
                                                                                                                                                                                                                                                                      Q
                                                                                                                                                                                                                                                                        (AV.bool
                                                                                                                                                                                                                                                                          false)
                                                                                                                                                                                                                                                                  else
                                                                                                                                                                                                                                                                    Q
                                                                                                                                                                                                                                                                      (AV.bool
                                                                                                                                                                                                                                                                        false)
                                                                                                                                                                                                                                                                else
                                                                                                                                                                                                                                                                  Q
                                                                                                                                                                                                                                                                    (AV.bool
                                                                                                                                                                                                                                                                      false)
                                                                                                                                                                                                                                                              else
                                                                                                                                                                                                                                                                Q
                                                                                                                                                                                                                                                                  (AV.bool
                                                                                                                                                                                                                                                                    false)
                                                                                                                                                                                                                                                            else
                                                                                                                                                                                                                                                              Q
                                                                                                                                                                                                                                                                (AV.bool
                                                                                                                                                                                                                                                                  false)
                                                                                                                                                                                                                                                          else
                                                                                                                                                                                                                                                            Q
                                                                                                                                                                                                                                                              (AV.bool
                                                                                                                                                                                                                                                                false)
                                                                                                                                                                                                                                                        else
                                                                                                                                                                                                                                                          Q
                                                                                                                                                                                                                                                            (AV.bool
                                                                                                                                                                                                                                                              false)
                                                                                                                                                                                                                                                      else
                                                                                                                                                                                                                                                        Q
                                                                                                                                                                                                                                                          (AV.bool
                                                                                                                                                                                                                                                            false)
                                                                                                                                                                                                                                                    else
                                                                                                                                                                                                                                                      Q
                                                                                                                                                                                                                                                        (AV.bool
                                                                                                                                                                                                                                                          false)) := by kernel_rfl
theorem vc_law2_DyadOrder (s : Bool) (s' : Bool) (s2 : Bool) (m : List
  Nat) (m' : List
  Nat) (m2 : List
  Nat) (e : Int) (e' : Int) (e2 : Int) (Q : AV →
  Prop) : (evF Tryd.prog (look tab17) (lam []) false Tryd.f7
  [AV.agg [AV.bool s, AV.dig [(1 : Nat)] m, AV.num IntKind.i64 e],
    AV.agg [AV.bool s', AV.dig [(2 : Nat)] m', AV.num IntKind.i64 e'],
    AV.agg [AV.bool s2, AV.dig [(3 : Nat)] m2, AV.num IntKind.i64 e2]]
  Q) =
    (bif !(Dy.nearD (Dy.Dyd.mk s m e) && (Dy.nearD (Dy.Dyd.mk s' m' e') && Dy.nearD (Dy.Dyd.mk s2 m2 e2))) then
  Q (AV.bool true)
 else
  ∀ (b1 : Bool),
    b1 =
        (Dy.boundIf (Dy.mayD (Dy.Dyd.mk s m e) && Dy.mayD (Dy.Dyd.mk s' m' e'))
              (Dy.addD (Dy.Dyd.mk s m e) (Dy.negD (Dy.Dyd.mk s' m' e')))).1.neg →
      ∀ (l2 : List Nat),
        l2 =
            (Dy.boundIf (Dy.mayD (Dy.Dyd.mk s m e) && Dy.mayD (Dy.Dyd.mk s' m' e'))
                  (Dy.addD (Dy.Dyd.mk s m e) (Dy.negD (Dy.Dyd.mk s' m' e')))).1.mag →
          ∀ (n3 : Int),
            n3 =
                (Dy.boundIf (Dy.mayD (Dy.Dyd.mk s m e) && Dy.mayD (Dy.Dyd.mk s' m' e'))
                      (Dy.addD (Dy.Dyd.mk s m e) (Dy.negD (Dy.Dyd.mk s' m' e')))).1.exp →
              ∀ (n4 : Int),
                n4 =
                    (Dy.boundIf (Dy.mayD (Dy.Dyd.mk s m e) && Dy.mayD (Dy.Dyd.mk s' m' e'))
                        (Dy.addD (Dy.Dyd.mk s m e) (Dy.negD (Dy.Dyd.mk s' m' e')))).snd →
                  ∀ (n5 : Int),
                    (n5 =
                        if (Dy.mayD (Dy.Dyd.mk s m e) && Dy.mayD (Dy.Dyd.mk s' m' e')) = true then
                          Dy.cmpD (Dy.Dyd.mk s m e) (Dy.Dyd.mk s' m' e')
                        else (0 : Int)) →
                      ∀ (n6 : Int),
                        (n6 =
                            if (Dy.mayD (Dy.Dyd.mk s m e) && Dy.mayD (Dy.Dyd.mk s' m' e')) = true then (0 : Int)
                            else (2 : Int)) →
                          ∀ (n7 : Int),
                            (n7 =
                                if (Dy.mayD (Dy.Dyd.mk s' m' e') && Dy.mayD (Dy.Dyd.mk s m e)) = true then
                                  Dy.cmpD (Dy.Dyd.mk s' m' e') (Dy.Dyd.mk s m e)
                                else (0 : Int)) →
                              ∀ (n8 : Int),
                                (n8 =
                                    if (Dy.mayD (Dy.Dyd.mk s' m' e') && Dy.mayD (Dy.Dyd.mk s m e)) = true then (0 : Int)
                                    else (2 : Int)) →
                                  ∀ (n9 : Int),
                                    (n9 =
                                        if (Dy.mayD (Dy.Dyd.mk s' m' e') && Dy.mayD (Dy.Dyd.mk s2 m2 e2)) = true then
                                          Dy.cmpD (Dy.Dyd.mk s' m' e') (Dy.Dyd.mk s2 m2 e2)
                                        else (0 : Int)) →
                                      ∀ (n10 : Int),
                                        (n10 =
                                            if
                                                (Dy.mayD (Dy.Dyd.mk s' m' e') && Dy.mayD (Dy.Dyd.mk s2 m2 e2)) =
                                                  true then
                                              (0 : Int)
                                            else (2 : Int)) →
                                          ∀ (n11 : Int),
                                            (n11 =
                                                if
                                                    (Dy.mayD (Dy.Dyd.mk s m e) && Dy.mayD (Dy.Dyd.mk s2 m2 e2)) =
                                                      true then
                                                  Dy.cmpD (Dy.Dyd.mk s m e) (Dy.Dyd.mk s2 m2 e2)
                                                else (0 : Int)) →
                                              ∀ (n12 : Int),
                                                (n12 =
                                                    if
                                                        (Dy.mayD (Dy.Dyd.mk s m e) && Dy.mayD (Dy.Dyd.mk s2 m2 e2)) =
                                                          true then
                                                      (0 : Int)
                                                    else (2 : Int)) →
                                                  bif !decide (n4 = (0 : Int)) then Q (AV.bool false)
                                                  else
                                                    bif !decide (n6 = (0 : Int)) then Q (AV.bool false)
                                                    else
                                                      bif !decide (n8 = (0 : Int)) then Q (AV.bool false)
                                                      else
                                                        bif !decide (n10 = (0 : Int)) then Q (AV.bool false)
                                                        else
                                                          bif !decide (n12 = (0 : Int)) then Q (AV.bool false)
                                                          else
                                                            bif
                                                                !decide
                                                                    (n5 =
                                                                      if Dy.mayD (Dy.Dyd.mk b1 l2 n3) = true then
                                                                        Dy.signD (Dy.Dyd.mk b1 l2 n3)
                                                                      else (0 : Int)) then
                                                              Q (AV.bool false)
                                                            else
                                                              bif !decide (n7 = IntKind.i64.wrap ((0 : Int) - n5)) then
                                                                Q (AV.bool false)
                                                              else
                                                                bif decide (n5 < (-1 : Int)) then Q (AV.bool false)
                                                                else
                                                                  bif decide (n5 > (1 : Int)) then Q (AV.bool false)
                                                                  else
                                                                    bif decide (n5 ≤ (0 : Int)) then
                                                                      bif decide (n9 ≤ (0 : Int)) then
                                                                        bif decide (n11 > (0 : Int)) then
                                                                          Q (AV.bool false)
                                                                        else
                                                                          bif decide (n5 < (0 : Int)) then
                                                                            bif decide (n9 ≤ (0 : Int)) then
                                                                              bif decide (n11 ≥ (0 : Int)) then
                                                                                Q (AV.bool false)
                                                                              else
                                                                                bif
                                                                                    decide
                                                                                      (decide (n5 = (0 : Int)) =
                                                                                        Dy.sameD (Dy.Dyd.mk s m e)
                                                                                          (Dy.Dyd.mk s' m' e')) then
                                                                                  Q (AV.bool true)
                                                                                else Q (AV.bool false)
                                                                            else
                                                                              bif
                                                                                  decide
                                                                                    (decide (n5 = (0 : Int)) =
                                                                                      Dy.sameD (Dy.Dyd.mk s m e)
                                                                                        (Dy.Dyd.mk s' m' e')) then
                                                                                Q (AV.bool true)
                                                                              else Q (AV.bool false)
                                                                          else
                                                                            bif
                                                                                decide
                                                                                  (decide (n5 = (0 : Int)) =
                                                                                    Dy.sameD (Dy.Dyd.mk s m e)
                                                                                      (Dy.Dyd.mk s' m' e')) then
                                                                              Q (AV.bool true)
                                                                            else Q (AV.bool false)
                                                                      else
                                                                        bif decide (n5 < (0 : Int)) then
                                                                          bif decide (n9 ≤ (0 : Int)) then
                                                                            bif decide (n11 ≥ (0 : Int)) then
                                                                              Q (AV.bool false)
                                                                            else
                                                                              bif
                                                                                  decide
                                                                                    (decide (n5 = (0 : Int)) =
                                                                                      Dy.sameD (Dy.Dyd.mk s m e)
                                                                                        (Dy.Dyd.mk s' m' e')) then
                                                                                Q (AV.bool true)
                                                                              else Q (AV.bool false)
                                                                          else
                                                                            bif
                                                                                decide
                                                                                  (decide (n5 = (0 : Int)) =
                                                                                    Dy.sameD (Dy.Dyd.mk s m e)
                                                                                      (Dy.Dyd.mk s' m' e')) then
                                                                              Q (AV.bool true)
                                                                            else Q (AV.bool false)
                                                                        else
                                                                          bif
                                                                              decide
                                                                                (decide (n5 = (0 : Int)) =
                                                                                  Dy.sameD (Dy.Dyd.mk s m e)
                                                                                    (Dy.Dyd.mk s' m' e')) then
                                                                            Q (AV.bool true)
                                                                          else Q (AV.bool false)
                                                                    else
                                                                      bif decide (n5 < (0 : Int)) then
                                                                        bif decide (n9 ≤ (0 : Int)) then
                                                                          bif decide (n11 ≥ (0 : Int)) then
                                                                            Q (AV.bool false)
                                                                          else
                                                                            bif
                                                                                decide
                                                                                  (decide (n5 = (0 : Int)) =
                                                                                    Dy.sameD (Dy.Dyd.mk s m e)
                                                                                      (Dy.Dyd.mk s' m' e')) then
                                                                              Q (AV.bool true)
                                                                            else Q (AV.bool false)
                                                                        else
                                                                          bif
                                                                              decide
                                                                                (decide (n5 = (0 : Int)) =
                                                                                  Dy.sameD (Dy.Dyd.mk s m e)
                                                                                    (Dy.Dyd.mk s' m' e')) then
                                                                            Q (AV.bool true)
                                                                          else Q (AV.bool false)
                                                                      else
                                                                        bif
                                                                            decide
                                                                              (decide (n5 = (0 : Int)) =
                                                                                Dy.sameD (Dy.Dyd.mk s m e)
                                                                                  (Dy.Dyd.mk s' m' e')) then
                                                                          Q (AV.bool true)
                                                                        else Q (AV.bool false)) := by kernel_rfl
end Go.AI
