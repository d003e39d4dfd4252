/- Printed by a program of mine: what a body, or a round of a loop, comes to. -/
import Derived.Test.YtnhbdcnnanfacaaDoorAIspec4
namespace Go.AI
open Go Go.RowKit Go.Proofs
set_option linter.unusedVariables false
set_option maxRecDepth 100000
set_option maxHeartbeats 0
theorem vc_dyad_edge (s : Bool) (s' : Bool) (m : List
  Nat) (m' : List
  Nat) (e : Int) (e' : Int) (g : Int) (Q : AV →
  Prop) : (evF Tryd.prog (look tab11) (lam []) false Tryd.f96
  [AV.agg [AV.bool s, AV.dig [(1 : Nat)] m, AV.num IntKind.i64 e],
    AV.agg [AV.bool s', AV.dig [(2 : Nat)] m', AV.num IntKind.i64 e'], AV.num IntKind.i64 g]
  Q) =
    (bif decide (s = s') then
  Q (AV.tup [AV.agg [AV.bool false, AV.dig [(0 : Nat)] [], AV.num IntKind.i64 (0 : Int)], AV.num IntKind.i64 (3 : Int)])
 else
  ∀ (l1 : List Nat),
    l1 = (Dy.shiftN m (IntKind.i64.wrap (g - (1 : Int)))).mag →
      ∀ (b2 : Bool),
        b2 = (Dy.shiftN m (IntKind.i64.wrap (g - (1 : Int)))).lost →
          ∀ (n3 : Int),
            n3 = (Dy.shiftN m (IntKind.i64.wrap (g - (1 : Int)))).err →
              ∀ (l4 : List Nat),
                l4 = (Dy.shiftN m' (-1 : Int)).mag →
                  ∀ (b5 : Bool),
                    b5 = (Dy.shiftN m' (-1 : Int)).lost →
                      ∀ (n6 : Int),
                        n6 = (Dy.shiftN m' (-1 : Int)).err →
                          ∀ (l7 : List Nat),
                            l7 = (Dy.subR l1 l4).fst →
                              ∀ (n8 : Int),
                                n8 = (Dy.subR l1 l4).snd →
                                  bif !decide (n8 = (0 : Int)) then
                                    Q
                                      (AV.tup
                                        [AV.agg [AV.bool false, AV.dig [(0 : Nat)] [], AV.num IntKind.i64 (0 : Int)],
                                          AV.num IntKind.i64 (3 : Int)])
                                  else
                                    ∀ (l9 : List Nat),
                                      l9 = (Dy.addR l7 l7).fst →
                                        ∀ (n10 : Int),
                                          n10 = (Dy.addR l7 l7).snd →
                                            bif decide (n10 = (0 : Int)) then
                                              ∀ (l11 : List Nat),
                                                l11 = (Dy.subR l9 (Dy.dg (1 : Nat))).fst →
                                                  ∀ (n12 : Int),
                                                    n12 = (Dy.subR l9 (Dy.dg (1 : Nat))).snd →
                                                      ∀ (b13 : Bool),
                                                        b13 = (Dy.makeD s l11 e').1.neg →
                                                          ∀ (l14 : List Nat),
                                                            l14 = (Dy.makeD s l11 e').1.mag →
                                                              ∀ (n15 : Int),
                                                                n15 = (Dy.makeD s l11 e').1.exp →
                                                                  ∀ (n16 : Int),
                                                                    n16 = (Dy.makeD s l11 e').snd →
                                                                      Q
                                                                        (AV.tup
                                                                          [AV.agg
                                                                              [AV.bool b13, AV.dig [(0 : Nat)] l14,
                                                                                AV.num IntKind.i64 n15],
                                                                            AV.num IntKind.i64 n16])
                                            else
                                              bif
                                                  decide
                                                    ((↑(Dy.lenN l7) : Int) =
                                                      IntKind.i64.wrap ((↑(Dy.lowN l7) : Int) + (1 : Int))) then
                                                ∀ (l17 : List Nat),
                                                  l17 = (Dy.subR l7 (Dy.dg (1 : Nat))).fst →
                                                    ∀ (n18 : Int),
                                                      n18 = (Dy.subR l7 (Dy.dg (1 : Nat))).snd →
                                                        ∀ (l19 : List Nat),
                                                          l19 = (Dy.addR l17 l7).fst →
                                                            ∀ (n20 : Int),
                                                              n20 = (Dy.addR l17 l7).snd →
                                                                ∀ (b21 : Bool),
                                                                  b21 = (Dy.makeD s l19 e').1.neg →
                                                                    ∀ (l22 : List Nat),
                                                                      l22 = (Dy.makeD s l19 e').1.mag →
                                                                        ∀ (n23 : Int),
                                                                          n23 = (Dy.makeD s l19 e').1.exp →
                                                                            ∀ (n24 : Int),
                                                                              n24 = (Dy.makeD s l19 e').snd →
                                                                                Q
                                                                                  (AV.tup
                                                                                    [AV.agg
                                                                                        [AV.bool b21,
                                                                                          AV.dig [(0 : Nat)] l22,
                                                                                          AV.num IntKind.i64 n23],
                                                                                      AV.num IntKind.i64 n24])
                                              else
                                                Q
                                                  (AV.tup
                                                    [AV.agg
                                                        [AV.bool false, AV.dig [(0 : Nat)] [],
                                                          AV.num IntKind.i64 (0 : Int)],
                                                      AV.num IntKind.i64 (3 : Int)])) := by kernel_rfl
end Go.AI
