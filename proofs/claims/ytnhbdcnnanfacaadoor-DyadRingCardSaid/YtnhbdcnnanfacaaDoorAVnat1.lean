/- Printed by a program of mine: what a body, or a round of a loop, comes to. -/
import Derived.Test.YtnhbdcnnanfacaaDoorAIspec1
namespace Go.AI
open Go Go.RowKit Go.Proofs
set_option linter.unusedVariables false
set_option maxRecDepth 100000
set_option maxHeartbeats 0
theorem vc_nat_May (l : List
  Nat) (Q : AV → Prop) : (evF Tryd.prog (look tab0) (lam []) false Tryd.f58 [AV.dig [(1 : Nat)] l] Q) =
    (bif decide ((↑l.length : Int) ≤ (4096 : Int)) then
  bif decide ((↑l.length : Int) = (0 : Int)) then Q (AV.bool true)
  else
    ((0 : Int) ≤ IntKind.i64.wrap ((↑l.length : Int) - (1 : Int)) ∧
        IntKind.i64.wrap ((↑l.length : Int) - (1 : Int)) < (↑l.length : Int)) ∧
      Q
        (AV.bool
          !decide ((↑(l.getD (IntKind.i64.wrap ((↑l.length : Int) - (1 : Int))).toNat (0 : Nat)) : Int) = (0 : Int)))
 else Q (AV.bool false)) := by kernel_rfl
def lsTrim : List AV → Option LR
  | [.dig [1, 2] l] => some (.need (Dy.okl l) (.done (.exit 0) [.dig [1, 2] (Dy.dg (Dy.val l))]))
  | _ => none
def lamTrim := lam [(1, .spec [(0, .same)] lsTrim)]
theorem vc_nat_trim (l : List
  Nat) (Q : AV → Prop) : (evF Tryd.prog (look tab0) lamTrim true Tryd.f95 [AV.dig [(1 : Nat)] l] Q) =
    (Dy.okl l ∧ Q (AV.dig [(0 : Nat), (1 : Nat)] (Dy.dg (Dy.val l)))) := by kernel_rfl
theorem vc_nat_trim_1 (l : List
  Nat) (K : Exit →
  List AV →
    Prop) : (evIter Tryd.prog (look tab0) lamTrim (1 : Nat) (21 : Nat) [((0 : Nat), Keep.same)]
  (bodyN Tryd.f95 (0 : Nat)) [AV.dig [(1 : Nat), (2 : Nat)] l] K) =
    (bif decide ((↑l.length : Int) > (0 : Int)) then
  ((0 : Int) ≤ IntKind.i64.wrap ((↑l.length : Int) - (1 : Int)) ∧
      IntKind.i64.wrap ((↑l.length : Int) - (1 : Int)) < (↑l.length : Int)) ∧
    bif decide ((↑(l.getD (IntKind.i64.wrap ((↑l.length : Int) - (1 : Int))).toNat (0 : Nat)) : Int) = (0 : Int)) then
      ((0 : Int) ≤ IntKind.i64.wrap ((↑l.length : Int) - (1 : Int)) ∧
          IntKind.i64.wrap ((↑l.length : Int) - (1 : Int)) ≤ (↑l.length : Int)) ∧
        K Exit.normal
          [AV.dig [(1 : Nat), (2 : Nat)] (List.take (IntKind.i64.wrap ((↑l.length : Int) - (1 : Int))).toNat l)]
    else K (Exit.exit (0 : Nat)) [AV.dig [(1 : Nat), (2 : Nat)] l]
 else K (Exit.exit (0 : Nat)) [AV.dig [(1 : Nat), (2 : Nat)] l]) := by kernel_rfl
def lsCmp : List AV → Option LR
  | [.dig [1, 2, 3] a, .dig [1, 2, 3] b, .num .i64 r, .num .i64 i] => some (.need (a.length = b.length ∧ -1 ≤ i ∧ i < a.length ∧ a.length ≤ 2 ^ 45) (.test (decide (0 ≤ Dy.diffI a b (i + 1).toNat))
      (.done .ret [.dig [1, 2, 3] a, .dig [1, 2, 3] b, .num .i64 (if a.getD (Dy.diffI a b (i + 1).toNat).toNat 0 < b.getD (Dy.diffI a b (i + 1).toNat).toNat 0 then -1 else 1), .num .i64 (Dy.diffI a b (i + 1).toNat)])
      (.done (.exit 1) [.dig [1, 2, 3] a, .dig [1, 2, 3] b, .num .i64 r, .num .i64 (-1)])))
  | _ => none
def lamCmp := lam [(6, .spec [(0, .same), (1, .same), (4, .same), (5, .same)] lsCmp)]
theorem vc_nat_cmp (a : List
  Nat) (b : List
  Nat) (Q : AV →
  Prop) : (evF Tryd.prog (look tab1) lamCmp false Tryd.f105 [AV.dig [(1 : Nat)] a, AV.dig [(2 : Nat)] b] Q) =
    (bif decide ((↑a.length : Int) < (↑b.length : Int)) then Q (AV.num IntKind.i64 (-1 : Int))
 else
  bif decide ((↑a.length : Int) > (↑b.length : Int)) then Q (AV.num IntKind.i64 (1 : Int))
  else
    (a.length = b.length ∧
        (-1 : Int) ≤ IntKind.i64.wrap ((↑a.length : Int) - (1 : Int)) ∧
          IntKind.i64.wrap ((↑a.length : Int) - (1 : Int)) < (↑a.length : Int) ∧ a.length ≤ (35184372088832 : Nat)) ∧
      bif decide ((0 : Int) ≤ Dy.diffI a b (IntKind.i64.wrap ((↑a.length : Int) - (1 : Int)) + (1 : Int)).toNat) then
        Q
          (AV.num IntKind.i64
            (if
                a.getD (Dy.diffI a b (IntKind.i64.wrap ((↑a.length : Int) - (1 : Int)) + (1 : Int)).toNat).toNat
                    (0 : Nat) <
                  b.getD (Dy.diffI a b (IntKind.i64.wrap ((↑a.length : Int) - (1 : Int)) + (1 : Int)).toNat).toNat
                    (0 : Nat) then
              (-1 : Int)
            else (1 : Int)))
      else Q (AV.num IntKind.i64 (0 : Int))) := by kernel_rfl
theorem vc_nat_cmp_1 (a : List
  Nat) (b : List
  Nat) (i : Int) (r : Int) (K : Exit →
  List AV →
    Prop) : (evIter Tryd.prog (look tab1) lamCmp (2 : Nat) (43 : Nat)
  [((0 : Nat), Keep.same), ((1 : Nat), Keep.same), ((4 : Nat), Keep.same), ((5 : Nat), Keep.same)]
  (bodyN Tryd.f105 (0 : Nat))
  [AV.dig [(1 : Nat), (2 : Nat), (3 : Nat)] a, AV.dig [(1 : Nat), (2 : Nat), (3 : Nat)] b, AV.num IntKind.i64 r,
    AV.num IntKind.i64 i]
  K) =
    (bif decide (i ≥ (0 : Int)) then
  ((0 : Int) ≤ i ∧ i < (↑a.length : Int)) ∧
    ((0 : Int) ≤ i ∧ i < (↑b.length : Int)) ∧
      bif !decide ((↑(a.getD i.toNat (0 : Nat)) : Int) = (↑(b.getD i.toNat (0 : Nat)) : Int)) then
        ((0 : Int) ≤ i ∧ i < (↑a.length : Int)) ∧
          ((0 : Int) ≤ i ∧ i < (↑b.length : Int)) ∧
            bif decide ((↑(a.getD i.toNat (0 : Nat)) : Int) < (↑(b.getD i.toNat (0 : Nat)) : Int)) then
              K Exit.ret
                [AV.dig [(1 : Nat), (2 : Nat), (3 : Nat)] a, AV.dig [(1 : Nat), (2 : Nat), (3 : Nat)] b,
                  AV.num IntKind.i64 (-1 : Int), AV.num IntKind.i64 i]
            else
              K Exit.ret
                [AV.dig [(1 : Nat), (2 : Nat), (3 : Nat)] a, AV.dig [(1 : Nat), (2 : Nat), (3 : Nat)] b,
                  AV.num IntKind.i64 (1 : Int), AV.num IntKind.i64 i]
      else
        K Exit.normal
          [AV.dig [(1 : Nat), (2 : Nat), (3 : Nat)] a, AV.dig [(1 : Nat), (2 : Nat), (3 : Nat)] b, AV.num IntKind.i64 r,
            AV.num IntKind.i64 (IntKind.i64.wrap (i - (1 : Int)))]
 else
  K (Exit.exit (1 : Nat))
    [AV.dig [(1 : Nat), (2 : Nat), (3 : Nat)] a, AV.dig [(1 : Nat), (2 : Nat), (3 : Nat)] b, AV.num IntKind.i64 r,
      AV.num IntKind.i64 i]) := by kernel_rfl
theorem vc_nat_all (a : List
  Nat) (b : List
  Nat) (Q : AV →
  Prop) : (evF Tryd.prog (look tab1) (lam [((2 : Nat), LoopAnn.unroll (3 : Nat))]) false Tryd.f98
  [AV.vec [(1 : Nat)] (1 : Nat) [AV.dig [(1 : Nat)] a, AV.dig [(1 : Nat)] b]] Q) =
    (bif decide ((0 : Int) < (↑[AV.dig [(1 : Nat)] a, AV.dig [(1 : Nat)] b].length : Int)) then
  ((0 : Int) ≤ (0 : Int) ∧ (0 : Int) < (↑[AV.dig [(1 : Nat)] a, AV.dig [(1 : Nat)] b].length : Int)) ∧
    bif !Dy.may a then Q (AV.bool false)
    else
      bif
          decide
            (IntKind.i64.wrap ((0 : Int) + (1 : Int)) <
              (↑[AV.dig [(1 : Nat)] a, AV.dig [(1 : Nat)] b].length : Int)) then
        ((0 : Int) ≤ IntKind.i64.wrap ((0 : Int) + (1 : Int)) ∧
            IntKind.i64.wrap ((0 : Int) + (1 : Int)) < (↑[AV.dig [(1 : Nat)] a, AV.dig [(1 : Nat)] b].length : Int)) ∧
          bif !Dy.may b then Q (AV.bool false)
          else
            bif
                decide
                  (IntKind.i64.wrap (IntKind.i64.wrap ((0 : Int) + (1 : Int)) + (1 : Int)) <
                    (↑[AV.dig [(1 : Nat)] a, AV.dig [(1 : Nat)] b].length : Int)) then
              False
            else Q (AV.bool true)
      else Q (AV.bool true)
 else Q (AV.bool true)) := by kernel_rfl
theorem vc_nat_bound (l : List
  Nat) (Q : AV → Prop) : (evF Tryd.prog (look tab1) (lam []) true Tryd.f99 [AV.dig [(1 : Nat)] l] Q) =
    (bif decide ((↑l.length : Int) > (4096 : Int)) then
  Q (AV.tup [AV.dig [(0 : Nat), (1 : Nat)] [], AV.num IntKind.i64 (3 : Int)])
 else Q (AV.tup [AV.dig [(0 : Nat), (1 : Nat)] l, AV.num IntKind.i64 (0 : Int)])) := by kernel_rfl
theorem vc_Add32 (x : Int) (y : Int) (c : Int) (Q : AV →
  Prop) : (evF Tryd.prog (look tab1) (lam []) false Tryd.f101
  [AV.num IntKind.u32 x, AV.num IntKind.u32 y, AV.num IntKind.u32 c] Q) =
    (Q
  (AV.tup
    [AV.num IntKind.u32
        (IntKind.u32.wrap
          (IntKind.u64.wrap (IntKind.u64.wrap (IntKind.u64.wrap x + IntKind.u64.wrap y) + IntKind.u64.wrap c))),
      AV.num IntKind.u32
        (IntKind.u32.wrap
          ((IntKind.u64.wrap (IntKind.u64.wrap (IntKind.u64.wrap x + IntKind.u64.wrap y) + IntKind.u64.wrap c)).fdiv
            ((2 : Int) ^ (32 : Nat))))])) := by kernel_rfl
theorem vc_Sub32 (x : Int) (y : Int) (c : Int) (Q : AV →
  Prop) : (evF Tryd.prog (look tab1) (lam []) false Tryd.f114
  [AV.num IntKind.u32 x, AV.num IntKind.u32 y, AV.num IntKind.u32 c] Q) =
    (Q
  (AV.tup
    [AV.num IntKind.u32 (IntKind.u32.wrap (IntKind.u32.wrap (x - y) - c)),
      AV.num IntKind.u32
        ((IntKind.u32.wrap
              (↑(BitVec.ofInt (32 : Nat)
                        (IntKind.u32.wrap
                          (↑(BitVec.ofInt (32 : Nat)
                                    (IntKind.u32.wrap
                                      (↑(BitVec.ofInt (32 : Nat)
                                                (if IntKind.u32.signed = true then (-1 : Int) else IntKind.u32.max) ^^^
                                              BitVec.ofInt (32 : Nat) x).toNat :
                                        Int)) &&&
                                  BitVec.ofInt (32 : Nat) y).toNat :
                            Int)) |||
                      BitVec.ofInt (32 : Nat)
                        (IntKind.u32.wrap
                          (↑(BitVec.ofInt (32 : Nat)
                                    (IntKind.u32.wrap
                                      (↑(BitVec.ofInt (32 : Nat)
                                                (if IntKind.u32.signed = true then (-1 : Int) else IntKind.u32.max) ^^^
                                              BitVec.ofInt (32 : Nat)
                                                (IntKind.u32.wrap
                                                  (↑(BitVec.ofInt (32 : Nat) x ^^^ BitVec.ofInt (32 : Nat) y).toNat :
                                                    Int))).toNat :
                                        Int)) &&&
                                  BitVec.ofInt (32 : Nat) (IntKind.u32.wrap (IntKind.u32.wrap (x - y) - c))).toNat :
                            Int))).toNat :
                Int)).fdiv
          ((2 : Int) ^ (31 : Nat)))])) := by kernel_rfl
theorem vc_Div32 (x : Int) (y : Int) (c : Int) (Q : AV →
  Prop) : (evF Tryd.prog (look tab1) (lam []) false Tryd.f111
  [AV.num IntKind.u32 x, AV.num IntKind.u32 y, AV.num IntKind.u32 c] Q) =
    (bif !decide (c = (0 : Int)) then
  bif decide (c ≤ x) then False
  else
    IntKind.u64.wrap c ≠ (0 : Int) ∧
      IntKind.u64.wrap c ≠ (0 : Int) ∧
        Q
          (AV.tup
            [AV.num IntKind.u32
                (IntKind.u32.wrap
                  (IntKind.u64.wrap
                    ((IntKind.u64.wrap
                          (↑(BitVec.ofInt (64 : Nat)
                                    (IntKind.u64.wrap (IntKind.u64.wrap x * (2 : Int) ^ (32 : Nat))) |||
                                  BitVec.ofInt (64 : Nat) (IntKind.u64.wrap y)).toNat :
                            Int)).tdiv
                      (IntKind.u64.wrap c)))),
              AV.num IntKind.u32
                (IntKind.u32.wrap
                  ((IntKind.u64.wrap
                        (↑(BitVec.ofInt (64 : Nat) (IntKind.u64.wrap (IntKind.u64.wrap x * (2 : Int) ^ (32 : Nat))) |||
                                BitVec.ofInt (64 : Nat) (IntKind.u64.wrap y)).toNat :
                          Int)).tmod
                    (IntKind.u64.wrap c)))])
 else
  IntKind.u64.wrap c ≠ (0 : Int) ∧
    IntKind.u64.wrap c ≠ (0 : Int) ∧
      Q
        (AV.tup
          [AV.num IntKind.u32
              (IntKind.u32.wrap
                (IntKind.u64.wrap
                  ((IntKind.u64.wrap
                        (↑(BitVec.ofInt (64 : Nat) (IntKind.u64.wrap (IntKind.u64.wrap x * (2 : Int) ^ (32 : Nat))) |||
                                BitVec.ofInt (64 : Nat) (IntKind.u64.wrap y)).toNat :
                          Int)).tdiv
                    (IntKind.u64.wrap c)))),
            AV.num IntKind.u32
              (IntKind.u32.wrap
                ((IntKind.u64.wrap
                      (↑(BitVec.ofInt (64 : Nat) (IntKind.u64.wrap (IntKind.u64.wrap x * (2 : Int) ^ (32 : Nat))) |||
                              BitVec.ofInt (64 : Nat) (IntKind.u64.wrap y)).toNat :
                        Int)).tmod
                  (IntKind.u64.wrap c)))])) := by kernel_rfl
theorem vc_Lz32 (x : Int) (Q : AV →
  Prop) : (evF Tryd.prog (look tab1) (lam []) false Tryd.f112 [AV.num IntKind.u32 x] Q) =
    (Q (AV.num IntKind.i64 (IntKind.i64.wrap ((32 : Int) - (↑(Lib.bitLen x.toNat) : Int))))) := by kernel_rfl
theorem vc_nat_Of (n : Int) (Q : AV →
  Prop) : (evF Tryd.prog (look tab1) (lam []) false Tryd.f64 [AV.num IntKind.u64 n] Q) =
    (Q
  (AV.dig [(0 : Nat)]
    (Dy.dg
      (Dy.val
        [(IntKind.u32.wrap n).toNat, (IntKind.u32.wrap (n.fdiv ((2 : Int) ^ (32 : Nat)))).toNat])))) := by kernel_rfl
def lsNum : List AV → Option LR
  | [.num .u64 n, .dig [1, 2] l, .num .i64 k, .num .i64 i] => some (.need (k = l.length ∧ i = 0 ∧ n = 0 ∧ l.length ≤ 2 ∧ Dy.okl l) (.done (.exit 0) [.num .u64 (Dy.val l), .dig [1, 2] l, .num .i64 k, .num .i64 k]))
  | _ => none
def lamNum := lam [(5, .spec [(4, .same), (15, .same), (16, .same), (17, .same)] lsNum)]
theorem vc_nat_Num (l : List
  Nat) (Q : AV → Prop) : (evF Tryd.prog (look tab1) lamNum false Tryd.f66 [AV.dig [(1 : Nat)] l] Q) =
    (bif !Dy.may l then Q (AV.tup [AV.num IntKind.u64 (0 : Int), AV.bool false])
 else
  bif decide ((↑l.length : Int) > (2 : Int)) then Q (AV.tup [AV.num IntKind.u64 (0 : Int), AV.bool false])
  else
    ((↑l.length : Int) = (↑l.length : Int) ∧
        (0 : Int) = (0 : Int) ∧ (0 : Int) = (0 : Int) ∧ l.length ≤ (2 : Nat) ∧ Dy.okl l) ∧
      Q (AV.tup [AV.num IntKind.u64 (↑(Dy.val l) : Int), AV.bool true])) := by kernel_rfl
theorem vc_nat_Num_1 (l : List
  Nat) (n : Int) (k : Int) (i : Int) (K : Exit →
  List AV →
    Prop) : (evIter Tryd.prog (look tab1) lamNum (1 : Nat) (31 : Nat)
  [((4 : Nat), Keep.same), ((15 : Nat), Keep.same), ((16 : Nat), Keep.same), ((17 : Nat), Keep.same)]
  (bodyN Tryd.f66 (0 : Nat))
  [AV.num IntKind.u64 n, AV.dig [(1 : Nat), (2 : Nat)] l, AV.num IntKind.i64 k, AV.num IntKind.i64 i] K) =
    (bif decide (i < k) then
  ((0 : Int) ≤ i ∧ i < (↑l.length : Int)) ∧
    (0 : Int) ≤ IntKind.i64.wrap ((32 : Int) * i) ∧
      K Exit.normal
        [AV.num IntKind.u64
            (IntKind.u64.wrap
              (↑(BitVec.ofInt (64 : Nat) n |||
                      BitVec.ofInt (64 : Nat)
                        (IntKind.u64.wrap
                          (IntKind.u64.wrap (↑(l.getD i.toNat (0 : Nat)) : Int) *
                            (2 : Int) ^ min (IntKind.i64.wrap ((32 : Int) * i)).toNat (64 : Nat)))).toNat :
                Int)),
          AV.dig [(1 : Nat), (2 : Nat)] l, AV.num IntKind.i64 k, AV.num IntKind.i64 (IntKind.i64.wrap (i + (1 : Int)))]
 else
  K (Exit.exit (0 : Nat))
    [AV.num IntKind.u64 n, AV.dig [(1 : Nat), (2 : Nat)] l, AV.num IntKind.i64 k,
      AV.num IntKind.i64 i]) := by kernel_rfl
end Go.AI
