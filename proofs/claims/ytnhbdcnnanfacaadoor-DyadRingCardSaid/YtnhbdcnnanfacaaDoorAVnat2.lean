/- Printed by a program of mine: what a body, or a round of a loop, comes to. -/
import Derived.Test.YtnhbdcnnanfacaaDoorAIspec2
namespace Go.AI
open Go Go.RowKit Go.Proofs
set_option linter.unusedVariables false
set_option maxRecDepth 100000
set_option maxHeartbeats 0
def lsAdd : List AV → Option LR
  | [.dig [1, 2, 3] a, .dig [1, 2, 3] b, .grown 63 o, .num .u32 c, .num .i64 k, .num .i64 i] =>
    some (.need (Dy.okl a ∧ Dy.okl b ∧ b.length ≤ a.length ∧ o = List.replicate (a.length + 1) 0 ∧ c = 0 ∧ k = a.length ∧ i = 0)
      (.done (.exit 0) [.dig [1, 2, 3] a, .dig [1, 2, 3] b, .grown 63 (Dy.dgN a.length (Dy.val a + Dy.val b) ++ [0]), .num .u32 ((Dy.val a + Dy.val b) / 2 ^ (32 * a.length) : Nat), .num .i64 k, .num .i64 k]))
  | _ => none
def keepAdd : List (Nat × Keep) := [(0, .same), (1, .same), (6, .same), (7, .same), (27, .same), (28, .same)]
def lamAdd := lam [(8, .spec keepAdd lsAdd)]
theorem vc_nat_Add (a : List
  Nat) (b : List
  Nat) (Q : AV →
  Prop) : (evF Tryd.prog (look tab2) lamAdd false Tryd.f73 [AV.dig [(1 : Nat)] a, AV.dig [(2 : Nat)] b] Q) =
    (bif !(Dy.may a && Dy.may b) then Q (AV.tup [AV.dig [(0 : Nat)] [], AV.num IntKind.i64 (2 : Int)])
 else
  bif decide ((↑a.length : Int) < (↑b.length : Int)) then
    ((0 : Int) ≤ IntKind.i64.wrap ((↑b.length : Int) + (1 : Int)) ∧
        IntKind.i64.wrap ((↑b.length : Int) + (1 : Int)) ≤ IntKind.i64.wrap ((↑b.length : Int) + (1 : Int)) ∧
          IntKind.i64.wrap ((↑b.length : Int) + (1 : Int)) ≤ (2 : Int) ^ (40 : Nat)) ∧
      (Dy.okl b ∧
          Dy.okl a ∧
            a.length ≤ b.length ∧
              List.replicate (IntKind.i64.wrap ((↑b.length : Int) + (1 : Int))).toNat (0 : Nat) =
                  List.replicate (b.length + (1 : Nat)) (0 : Nat) ∧
                (0 : Int) = (0 : Int) ∧ (↑b.length : Int) = (↑b.length : Int) ∧ (0 : Int) = (0 : Int)) ∧
        ((0 : Int) ≤ (↑b.length : Int) ∧
            (↑b.length : Int) < (↑(Dy.dgN b.length (Dy.val b + Dy.val a) ++ [(0 : Nat)]).length : Int)) ∧
          (↑b.length : Int).toNat < (Dy.dgN b.length (Dy.val b + Dy.val a) ++ [(0 : Nat)]).length ∧
            ∀ (l1 : List Nat),
              (l1 =
                  if
                      (Dy.dg
                            (Dy.val
                              ((Dy.dgN b.length (Dy.val b + Dy.val a) ++ [(0 : Nat)]).set (↑b.length : Int).toNat
                                (↑((Dy.val b + Dy.val a) / (2 : Nat) ^ ((32 : Nat) * b.length)) : Int).toNat))).length ≤
                        (4096 : Nat) then
                    Dy.dg
                      (Dy.val
                        ((Dy.dgN b.length (Dy.val b + Dy.val a) ++ [(0 : Nat)]).set (↑b.length : Int).toNat
                          (↑((Dy.val b + Dy.val a) / (2 : Nat) ^ ((32 : Nat) * b.length)) : Int).toNat))
                  else []) →
                ∀ (n2 : Int),
                  (n2 =
                      if
                          (Dy.dg
                                (Dy.val
                                  ((Dy.dgN b.length (Dy.val b + Dy.val a) ++ [(0 : Nat)]).set (↑b.length : Int).toNat
                                    (↑((Dy.val b + Dy.val a) / (2 : Nat) ^ ((32 : Nat) * b.length)) :
                                        Int).toNat))).length ≤
                            (4096 : Nat) then
                        (0 : Int)
                      else (3 : Int)) →
                    Q (AV.tup [AV.dig [(0 : Nat)] l1, AV.num IntKind.i64 n2])
  else
    ((0 : Int) ≤ IntKind.i64.wrap ((↑a.length : Int) + (1 : Int)) ∧
        IntKind.i64.wrap ((↑a.length : Int) + (1 : Int)) ≤ IntKind.i64.wrap ((↑a.length : Int) + (1 : Int)) ∧
          IntKind.i64.wrap ((↑a.length : Int) + (1 : Int)) ≤ (2 : Int) ^ (40 : Nat)) ∧
      (Dy.okl a ∧
          Dy.okl b ∧
            b.length ≤ a.length ∧
              List.replicate (IntKind.i64.wrap ((↑a.length : Int) + (1 : Int))).toNat (0 : Nat) =
                  List.replicate (a.length + (1 : Nat)) (0 : Nat) ∧
                (0 : Int) = (0 : Int) ∧ (↑a.length : Int) = (↑a.length : Int) ∧ (0 : Int) = (0 : Int)) ∧
        ((0 : Int) ≤ (↑a.length : Int) ∧
            (↑a.length : Int) < (↑(Dy.dgN a.length (Dy.val a + Dy.val b) ++ [(0 : Nat)]).length : Int)) ∧
          (↑a.length : Int).toNat < (Dy.dgN a.length (Dy.val a + Dy.val b) ++ [(0 : Nat)]).length ∧
            ∀ (l3 : List Nat),
              (l3 =
                  if
                      (Dy.dg
                            (Dy.val
                              ((Dy.dgN a.length (Dy.val a + Dy.val b) ++ [(0 : Nat)]).set (↑a.length : Int).toNat
                                (↑((Dy.val a + Dy.val b) / (2 : Nat) ^ ((32 : Nat) * a.length)) : Int).toNat))).length ≤
                        (4096 : Nat) then
                    Dy.dg
                      (Dy.val
                        ((Dy.dgN a.length (Dy.val a + Dy.val b) ++ [(0 : Nat)]).set (↑a.length : Int).toNat
                          (↑((Dy.val a + Dy.val b) / (2 : Nat) ^ ((32 : Nat) * a.length)) : Int).toNat))
                  else []) →
                ∀ (n4 : Int),
                  (n4 =
                      if
                          (Dy.dg
                                (Dy.val
                                  ((Dy.dgN a.length (Dy.val a + Dy.val b) ++ [(0 : Nat)]).set (↑a.length : Int).toNat
                                    (↑((Dy.val a + Dy.val b) / (2 : Nat) ^ ((32 : Nat) * a.length)) :
                                        Int).toNat))).length ≤
                            (4096 : Nat) then
                        (0 : Int)
                      else (3 : Int)) →
                    Q (AV.tup [AV.dig [(0 : Nat)] l3, AV.num IntKind.i64 n4])) := by kernel_rfl
theorem vc_nat_Add_1 (a : List
  Nat) (b : List
  Nat) (o : List
  Nat) (c : Int) (k : Int) (i : Int) (K : Exit →
  List AV →
    Prop) : (evIter Tryd.prog (look tab2) lamAdd (2 : Nat) (63 : Nat) keepAdd (bodyN Tryd.f73 (0 : Nat))
  [AV.dig [(1 : Nat), (2 : Nat), (3 : Nat)] a, AV.dig [(1 : Nat), (2 : Nat), (3 : Nat)] b, AV.grown (63 : TypeId) o,
    AV.num IntKind.u32 c, AV.num IntKind.i64 k, AV.num IntKind.i64 i]
  K) =
    (bif decide (i < k) then
  bif decide (i < (↑b.length : Int)) then
    ((0 : Int) ≤ i ∧ i < (↑b.length : Int)) ∧
      ((0 : Int) ≤ i ∧ i < (↑a.length : Int)) ∧
        ∀ (n1 : Int),
          n1 = ((↑(a.getD i.toNat (0 : Nat)) : Int) + (↑(b.getD i.toNat (0 : Nat)) : Int) + c) % (4294967296 : Int) →
            ∀ (n2 : Int),
              n2 =
                  ((↑(a.getD i.toNat (0 : Nat)) : Int) + (↑(b.getD i.toNat (0 : Nat)) : Int) + c) / (4294967296 : Int) →
                ((0 : Int) ≤ i ∧ i < (↑o.length : Int)) ∧
                  i.toNat < o.length ∧
                    K Exit.normal
                      [AV.dig [(1 : Nat), (2 : Nat), (3 : Nat)] a, AV.dig [(1 : Nat), (2 : Nat), (3 : Nat)] b,
                        AV.grown (63 : Nat) (o.set i.toNat n1.toNat), AV.num IntKind.u32 n2, AV.num IntKind.i64 k,
                        AV.num IntKind.i64 (IntKind.i64.wrap (i + (1 : Int)))]
  else
    ((0 : Int) ≤ i ∧ i < (↑a.length : Int)) ∧
      ∀ (n3 : Int),
        n3 = ((↑(a.getD i.toNat (0 : Nat)) : Int) + (0 : Int) + c) % (4294967296 : Int) →
          ∀ (n4 : Int),
            n4 = ((↑(a.getD i.toNat (0 : Nat)) : Int) + (0 : Int) + c) / (4294967296 : Int) →
              ((0 : Int) ≤ i ∧ i < (↑o.length : Int)) ∧
                i.toNat < o.length ∧
                  K Exit.normal
                    [AV.dig [(1 : Nat), (2 : Nat), (3 : Nat)] a, AV.dig [(1 : Nat), (2 : Nat), (3 : Nat)] b,
                      AV.grown (63 : Nat) (o.set i.toNat n3.toNat), AV.num IntKind.u32 n4, AV.num IntKind.i64 k,
                      AV.num IntKind.i64 (IntKind.i64.wrap (i + (1 : Int)))]
 else
  K (Exit.exit (0 : Nat))
    [AV.dig [(1 : Nat), (2 : Nat), (3 : Nat)] a, AV.dig [(1 : Nat), (2 : Nat), (3 : Nat)] b, AV.grown (63 : Nat) o,
      AV.num IntKind.u32 c, AV.num IntKind.i64 k, AV.num IntKind.i64 i]) := by kernel_rfl
def lsSubL : List AV → Option LR
  | [.dig [1, 2, 3] a, .dig [1, 2, 3] b, .grown 63 o, .num .u32 c, .num .i64 k, .num .i64 i] =>
    some (.need (Dy.okl a ∧ Dy.okl b ∧ Dy.val b ≤ Dy.val a ∧ o = List.replicate a.length 0 ∧ c = 0 ∧ k = a.length ∧ i = 0)
      (.done (.exit 0) [.dig [1, 2, 3] a, .dig [1, 2, 3] b, .grown 63 (Dy.dgN a.length (Dy.val a - Dy.val b)), .num .u32 0, .num .i64 k, .num .i64 k]))
  | _ => none
def keepSubL : List (Nat × Keep) := [(0, .same), (1, .same), (5, .same), (6, .same), (13, .same), (14, .same)]
def lamSubL := lam [(4, .spec keepSubL lsSubL)]
theorem vc_nat_sub (a : List
  Nat) (b : List
  Nat) (Q : AV →
  Prop) : (evF Tryd.prog (look tab2) lamSubL false Tryd.f110 [AV.dig [(1 : Nat)] a, AV.dig [(2 : Nat)] b] Q) =
    (((0 : Int) ≤ (↑a.length : Int) ∧
    (↑a.length : Int) ≤ (↑a.length : Int) ∧ (↑a.length : Int) ≤ (2 : Int) ^ (40 : Nat)) ∧
  (Dy.okl a ∧
      Dy.okl b ∧
        Dy.val b ≤ Dy.val a ∧
          List.replicate (↑a.length : Int).toNat (0 : Nat) = List.replicate a.length (0 : Nat) ∧
            (0 : Int) = (0 : Int) ∧ (↑a.length : Int) = (↑a.length : Int) ∧ (0 : Int) = (0 : Int)) ∧
    Q (AV.dig [(0 : Nat)] (Dy.dg (Dy.val (Dy.dgN a.length (Dy.val a - Dy.val b)))))) := by kernel_rfl
theorem vc_nat_sub_1 (a : List
  Nat) (b : List
  Nat) (o : List
  Nat) (c : Int) (k : Int) (i : Int) (K : Exit →
  List AV →
    Prop) : (evIter Tryd.prog (look tab2) lamSubL (2 : Nat) (41 : Nat) keepSubL (bodyN Tryd.f110 (0 : Nat))
  [AV.dig [(1 : Nat), (2 : Nat), (3 : Nat)] a, AV.dig [(1 : Nat), (2 : Nat), (3 : Nat)] b, AV.grown (63 : TypeId) o,
    AV.num IntKind.u32 c, AV.num IntKind.i64 k, AV.num IntKind.i64 i]
  K) =
    (bif decide (i < k) then
  bif decide (i < (↑b.length : Int)) then
    ((0 : Int) ≤ i ∧ i < (↑b.length : Int)) ∧
      ((0 : Int) ≤ i ∧ i < (↑a.length : Int)) ∧
        c ≤ (1 : Int) ∧
          ∀ (n1 : Int),
            n1 = ((↑(a.getD i.toNat (0 : Nat)) : Int) - (↑(b.getD i.toNat (0 : Nat)) : Int) - c) % (4294967296 : Int) →
              ∀ (n2 : Int),
                (n2 =
                    if (↑(a.getD i.toNat (0 : Nat)) : Int) < (↑(b.getD i.toNat (0 : Nat)) : Int) + c then (1 : Int)
                    else (0 : Int)) →
                  ((0 : Int) ≤ i ∧ i < (↑o.length : Int)) ∧
                    i.toNat < o.length ∧
                      K Exit.normal
                        [AV.dig [(1 : Nat), (2 : Nat), (3 : Nat)] a, AV.dig [(1 : Nat), (2 : Nat), (3 : Nat)] b,
                          AV.grown (63 : Nat) (o.set i.toNat n1.toNat), AV.num IntKind.u32 n2, AV.num IntKind.i64 k,
                          AV.num IntKind.i64 (IntKind.i64.wrap (i + (1 : Int)))]
  else
    ((0 : Int) ≤ i ∧ i < (↑a.length : Int)) ∧
      c ≤ (1 : Int) ∧
        ∀ (n3 : Int),
          n3 = ((↑(a.getD i.toNat (0 : Nat)) : Int) - (0 : Int) - c) % (4294967296 : Int) →
            ∀ (n4 : Int),
              (n4 = if (↑(a.getD i.toNat (0 : Nat)) : Int) < (0 : Int) + c then (1 : Int) else (0 : Int)) →
                ((0 : Int) ≤ i ∧ i < (↑o.length : Int)) ∧
                  i.toNat < o.length ∧
                    K Exit.normal
                      [AV.dig [(1 : Nat), (2 : Nat), (3 : Nat)] a, AV.dig [(1 : Nat), (2 : Nat), (3 : Nat)] b,
                        AV.grown (63 : Nat) (o.set i.toNat n3.toNat), AV.num IntKind.u32 n4, AV.num IntKind.i64 k,
                        AV.num IntKind.i64 (IntKind.i64.wrap (i + (1 : Int)))]
 else
  K (Exit.exit (0 : Nat))
    [AV.dig [(1 : Nat), (2 : Nat), (3 : Nat)] a, AV.dig [(1 : Nat), (2 : Nat), (3 : Nat)] b, AV.grown (63 : Nat) o,
      AV.num IntKind.u32 c, AV.num IntKind.i64 k, AV.num IntKind.i64 i]) := by kernel_rfl
theorem vc_nat_Sub (a : List
  Nat) (b : List
  Nat) (Q : AV →
  Prop) : (evF Tryd.prog (look tab3) (lam []) false Tryd.f104 [AV.dig [(1 : Nat)] a, AV.dig [(2 : Nat)] b] Q) =
    (bif !(Dy.may a && Dy.may b) then Q (AV.tup [AV.dig [(0 : Nat)] [], AV.num IntKind.i64 (2 : Int)])
 else
  (Dy.dg (Dy.val a) = a ∧ Dy.dg (Dy.val b) = b) ∧
    bif decide (Dy.cmpN (Dy.val a) (Dy.val b) < (0 : Int)) then
      Q (AV.tup [AV.dig [(0 : Nat)] [], AV.num IntKind.i64 (10 : Int)])
    else
      (Dy.val b ≤ Dy.val a ∧ a.length ≤ (1048576 : Nat)) ∧
        Q (AV.tup [AV.dig [(0 : Nat)] (Dy.dg (Dy.val a - Dy.val b)), AV.num IntKind.i64 (0 : Int)])) := by kernel_rfl
def lsMulO : List AV → Option LR
  | [.dig [1, 2, 3] b, .grown 63 o, .dig [1, 2, 3] a, .num .i64 k, .num .i64 i] =>
    some (.need (Dy.okl a ∧ Dy.okl b ∧ a.length ≤ 1048576 ∧ b.length ≤ 1048576 ∧ o = List.replicate (a.length + b.length) 0 ∧ k = a.length ∧ i = 0)
      (.done (.exit 0) [.dig [1, 2, 3] b, .grown 63 (Dy.dgN (a.length + b.length) (Dy.val a * Dy.val b)), .dig [1, 2, 3] a, .num .i64 k, .num .i64 k]))
  | _ => none
def keepMulO : List (Nat × Keep) := [(1, .same), (5, .same), (18, .same), (19, .same), (20, .same)]
/-- one row -/
def lsMulI : List AV → Option LR
  | [.grown 63 o, .num .i64 r, .num .u32 x, .num .u64 c, .dig [1, 2, 3] b, .num .i64 k, .num .i64 i, .dig [1, 2, 3] b', .dig [1, 2, 3] a, .num .i64 ka, .num .i64 ia] =>
    some (.need (Dy.digs o ∧ Dy.okl b ∧ b.length ≤ 1048576 ∧ 0 ≤ r ∧ r.toNat + b.length < o.length ∧ o.length ≤ 2097152 ∧ 0 ≤ x ∧ x < 4294967296 ∧ c = 0 ∧ k = b.length ∧ i = 0)
      (.done (.exit 2) [.grown 63 (Dy.dgN (r.toNat + b.length) (Dy.val (o.take (r.toNat + b.length)) + 2 ^ (32 * r.toNat) * (x.toNat * Dy.val b)) ++ o.drop (r.toNat + b.length)), .num .i64 r, .num .u32 x,
        .num .u64 ((Dy.val (o.take (r.toNat + b.length)) + 2 ^ (32 * r.toNat) * (x.toNat * Dy.val b)) / 2 ^ (32 * (r.toNat + b.length)) : Nat), .dig [1, 2, 3] b, .num .i64 k, .num .i64 k, .dig [1, 2, 3] b', .dig [1, 2, 3] a, .num .i64 ka, .num .i64 ia]))
  | _ => none
def keepMulI : List (Nat × Keep) := [(5, .same), (6, .same), (7, .same), (8, .same), (25, .same), (26, .same), (27, .same), (1, .same), (18, .same), (19, .same), (20, .same)]
def lamMul := lam [(3, .spec keepMulO lsMulO), (7, .spec keepMulI lsMulI)]
theorem vc_nat_mul (a : List
  Nat) (b : List
  Nat) (Q : AV →
  Prop) : (evF Tryd.prog (look tab2) lamMul false Tryd.f100 [AV.dig [(1 : Nat)] a, AV.dig [(2 : Nat)] b] Q) =
    (((0 : Int) ≤ IntKind.i64.wrap ((↑a.length : Int) + (↑b.length : Int)) ∧
    IntKind.i64.wrap ((↑a.length : Int) + (↑b.length : Int)) ≤
        IntKind.i64.wrap ((↑a.length : Int) + (↑b.length : Int)) ∧
      IntKind.i64.wrap ((↑a.length : Int) + (↑b.length : Int)) ≤ (2 : Int) ^ (40 : Nat)) ∧
  (Dy.okl a ∧
      Dy.okl b ∧
        a.length ≤ (1048576 : Nat) ∧
          b.length ≤ (1048576 : Nat) ∧
            List.replicate (IntKind.i64.wrap ((↑a.length : Int) + (↑b.length : Int))).toNat (0 : Nat) =
                List.replicate (a.length + b.length) (0 : Nat) ∧
              (↑a.length : Int) = (↑a.length : Int) ∧ (0 : Int) = (0 : Int)) ∧
    Q (AV.dig [(0 : Nat)] (Dy.dg (Dy.val (Dy.dgN (a.length + b.length) (Dy.val a * Dy.val b)))))) := by kernel_rfl
theorem vc_nat_mul_1 (a : List
  Nat) (b : List
  Nat) (o : List
  Nat) (k : Int) (i : Int) (K : Exit →
  List AV →
    Prop) : (evIter Tryd.prog (look tab2) lamMul (2 : Nat) (68 : Nat) keepMulO (bodyN Tryd.f100 (0 : Nat))
  [AV.dig [(1 : Nat), (2 : Nat), (3 : Nat)] b, AV.grown (63 : TypeId) o, AV.dig [(1 : Nat), (2 : Nat), (3 : Nat)] a,
    AV.num IntKind.i64 k, AV.num IntKind.i64 i]
  K) =
    (bif decide (i < k) then
  ((0 : Int) ≤ i ∧ i < (↑a.length : Int)) ∧
    (Dy.digs o ∧
        Dy.okl b ∧
          b.length ≤ (1048576 : Nat) ∧
            (0 : Int) ≤ i ∧
              i.toNat + b.length < o.length ∧
                o.length ≤ (2097152 : Nat) ∧
                  (0 : Int) ≤ (↑(a.getD i.toNat (0 : Nat)) : Int) ∧
                    (↑(a.getD i.toNat (0 : Nat)) : Int) < (4294967296 : Int) ∧
                      (0 : Int) = (0 : Int) ∧ (↑b.length : Int) = (↑b.length : Int) ∧ (0 : Int) = (0 : Int)) ∧
      ((0 : Int) ≤ IntKind.i64.wrap (i + (↑b.length : Int)) ∧
          IntKind.i64.wrap (i + (↑b.length : Int)) <
            (↑(Dy.dgN (i.toNat + b.length)
                      (Dy.val (List.take (i.toNat + b.length) o) +
                        (2 : Nat) ^ ((32 : Nat) * i.toNat) * ((↑(a.getD i.toNat (0 : Nat)) : Int).toNat * Dy.val b)) ++
                    List.drop (i.toNat + b.length) o).length :
              Int)) ∧
        (IntKind.i64.wrap (i + (↑b.length : Int))).toNat <
            (Dy.dgN (i.toNat + b.length)
                  (Dy.val (List.take (i.toNat + b.length) o) +
                    (2 : Nat) ^ ((32 : Nat) * i.toNat) * ((↑(a.getD i.toNat (0 : Nat)) : Int).toNat * Dy.val b)) ++
                List.drop (i.toNat + b.length) o).length ∧
          K Exit.normal
            [AV.dig [(1 : Nat), (2 : Nat), (3 : Nat)] b,
              AV.grown (63 : Nat)
                ((Dy.dgN (i.toNat + b.length)
                        (Dy.val (List.take (i.toNat + b.length) o) +
                          (2 : Nat) ^ ((32 : Nat) * i.toNat) *
                            ((↑(a.getD i.toNat (0 : Nat)) : Int).toNat * Dy.val b)) ++
                      List.drop (i.toNat + b.length) o).set
                  (IntKind.i64.wrap (i + (↑b.length : Int))).toNat
                  (IntKind.u32.wrap
                      (↑((Dy.val (List.take (i.toNat + b.length) o) +
                              (2 : Nat) ^ ((32 : Nat) * i.toNat) *
                                ((↑(a.getD i.toNat (0 : Nat)) : Int).toNat * Dy.val b)) /
                            (2 : Nat) ^ ((32 : Nat) * (i.toNat + b.length))) :
                        Int)).toNat),
              AV.dig [(1 : Nat), (2 : Nat), (3 : Nat)] a, AV.num IntKind.i64 k,
              AV.num IntKind.i64 (IntKind.i64.wrap (i + (1 : Int)))]
 else
  K (Exit.exit (0 : Nat))
    [AV.dig [(1 : Nat), (2 : Nat), (3 : Nat)] b, AV.grown (63 : Nat) o, AV.dig [(1 : Nat), (2 : Nat), (3 : Nat)] a,
      AV.num IntKind.i64 k, AV.num IntKind.i64 i]) := by kernel_rfl
theorem vc_nat_mul_2 (b : List
  Nat) (o : List
  Nat) (b' : List
  Nat) (a : List
  Nat) (r : Int) (x : Int) (c : Int) (k : Int) (i : Int) (ka : Int) (ia : Int) (K : Exit →
  List AV →
    Prop) : (evIter Tryd.prog (look tab2) lamMul (2 : Nat) (68 : Nat) keepMulI (bodyN Tryd.f100 (1 : Nat))
  [AV.grown (63 : TypeId) o, AV.num IntKind.i64 r, AV.num IntKind.u32 x, AV.num IntKind.u64 c,
    AV.dig [(1 : Nat), (2 : Nat), (3 : Nat)] b, AV.num IntKind.i64 k, AV.num IntKind.i64 i,
    AV.dig [(1 : Nat), (2 : Nat), (3 : Nat)] b', AV.dig [(1 : Nat), (2 : Nat), (3 : Nat)] a, AV.num IntKind.i64 ka,
    AV.num IntKind.i64 ia]
  K) =
    (bif decide (i < k) then
  ((0 : Int) ≤ i ∧ i < (↑b.length : Int)) ∧
    ((0 : Int) ≤ IntKind.i64.wrap (r + i) ∧ IntKind.i64.wrap (r + i) < (↑o.length : Int)) ∧
      (IntKind.i64.wrap (r + i)).toNat < o.length ∧
        ((0 : Int) ≤ IntKind.i64.wrap (r + i) ∧ IntKind.i64.wrap (r + i) < (↑o.length : Int)) ∧
          (IntKind.i64.wrap (r + i)).toNat < o.length ∧
            K Exit.normal
              [AV.grown (63 : Nat)
                  (o.set (IntKind.i64.wrap (r + i)).toNat
                    (IntKind.u32.wrap
                        (IntKind.u64.wrap
                          (IntKind.u64.wrap
                              (IntKind.u64.wrap
                                  (IntKind.u64.wrap x * IntKind.u64.wrap (↑(b.getD i.toNat (0 : Nat)) : Int)) +
                                IntKind.u64.wrap (↑(o.getD (IntKind.i64.wrap (r + i)).toNat (0 : Nat)) : Int)) +
                            c))).toNat),
                AV.num IntKind.i64 r, AV.num IntKind.u32 x,
                AV.num IntKind.u64
                  ((IntKind.u64.wrap
                        (IntKind.u64.wrap
                            (IntKind.u64.wrap
                                (IntKind.u64.wrap x * IntKind.u64.wrap (↑(b.getD i.toNat (0 : Nat)) : Int)) +
                              IntKind.u64.wrap (↑(o.getD (IntKind.i64.wrap (r + i)).toNat (0 : Nat)) : Int)) +
                          c)).fdiv
                    ((2 : Int) ^ (32 : Nat))),
                AV.dig [(1 : Nat), (2 : Nat), (3 : Nat)] b, AV.num IntKind.i64 k,
                AV.num IntKind.i64 (IntKind.i64.wrap (i + (1 : Int))), AV.dig [(1 : Nat), (2 : Nat), (3 : Nat)] b',
                AV.dig [(1 : Nat), (2 : Nat), (3 : Nat)] a, AV.num IntKind.i64 ka, AV.num IntKind.i64 ia]
 else
  K (Exit.exit (2 : Nat))
    [AV.grown (63 : Nat) o, AV.num IntKind.i64 r, AV.num IntKind.u32 x, AV.num IntKind.u64 c,
      AV.dig [(1 : Nat), (2 : Nat), (3 : Nat)] b, AV.num IntKind.i64 k, AV.num IntKind.i64 i,
      AV.dig [(1 : Nat), (2 : Nat), (3 : Nat)] b', AV.dig [(1 : Nat), (2 : Nat), (3 : Nat)] a, AV.num IntKind.i64 ka,
      AV.num IntKind.i64 ia]) := by kernel_rfl
theorem vc_nat_Cmp (a : List
  Nat) (b : List
  Nat) (Q : AV →
  Prop) : (evF Tryd.prog (look tab3) (lam []) false Tryd.f102 [AV.dig [(1 : Nat)] a, AV.dig [(2 : Nat)] b] Q) =
    (bif !(Dy.may a && Dy.may b) then Q (AV.tup [AV.num IntKind.i64 (0 : Int), AV.num IntKind.i64 (2 : Int)])
 else
  (Dy.dg (Dy.val a) = a ∧ Dy.dg (Dy.val b) = b) ∧
    Q (AV.tup [AV.num IntKind.i64 (Dy.cmpN (Dy.val a) (Dy.val b)), AV.num IntKind.i64 (0 : Int)])) := by kernel_rfl
theorem vc_nat_Mul (a : List
  Nat) (b : List
  Nat) (Q : AV →
  Prop) : (evF Tryd.prog (look tab3) (lam []) false Tryd.f71 [AV.dig [(1 : Nat)] a, AV.dig [(2 : Nat)] b] Q) =
    (bif !(Dy.may a && Dy.may b) then Q (AV.tup [AV.dig [(0 : Nat)] [], AV.num IntKind.i64 (2 : Int)])
 else
  bif decide ((↑a.length : Int) > (0 : Int)) then
    bif decide ((↑b.length : Int) > (0 : Int)) then
      bif
          decide
            (IntKind.i64.wrap (IntKind.i64.wrap ((↑a.length : Int) + (↑b.length : Int)) - (1 : Int)) >
              (4096 : Int)) then
        Q (AV.tup [AV.dig [(0 : Nat)] [], AV.num IntKind.i64 (3 : Int)])
      else
        (a.length ≤ (1048576 : Nat) ∧ b.length ≤ (1048576 : Nat)) ∧
          ∀ (l1 : List Nat),
            (l1 = if (Dy.dg (Dy.val a * Dy.val b)).length ≤ (4096 : Nat) then Dy.dg (Dy.val a * Dy.val b) else []) →
              ∀ (n2 : Int),
                (n2 = if (Dy.dg (Dy.val a * Dy.val b)).length ≤ (4096 : Nat) then (0 : Int) else (3 : Int)) →
                  Q (AV.tup [AV.dig [(0 : Nat)] l1, AV.num IntKind.i64 n2])
    else
      (a.length ≤ (1048576 : Nat) ∧ b.length ≤ (1048576 : Nat)) ∧
        ∀ (l3 : List Nat),
          (l3 = if (Dy.dg (Dy.val a * Dy.val b)).length ≤ (4096 : Nat) then Dy.dg (Dy.val a * Dy.val b) else []) →
            ∀ (n4 : Int),
              (n4 = if (Dy.dg (Dy.val a * Dy.val b)).length ≤ (4096 : Nat) then (0 : Int) else (3 : Int)) →
                Q (AV.tup [AV.dig [(0 : Nat)] l3, AV.num IntKind.i64 n4])
  else
    (a.length ≤ (1048576 : Nat) ∧ b.length ≤ (1048576 : Nat)) ∧
      ∀ (l5 : List Nat),
        (l5 = if (Dy.dg (Dy.val a * Dy.val b)).length ≤ (4096 : Nat) then Dy.dg (Dy.val a * Dy.val b) else []) →
          ∀ (n6 : Int),
            (n6 = if (Dy.dg (Dy.val a * Dy.val b)).length ≤ (4096 : Nat) then (0 : Int) else (3 : Int)) →
              Q (AV.tup [AV.dig [(0 : Nat)] l5, AV.num IntKind.i64 n6])) := by kernel_rfl
def lsSmall : List AV → Option LR
  | [.dig [1, 2, 3] a, .num .u32 d, .grown 63 o, .num .u32 c, .num .i64 i] =>
    some (.need (Dy.okl a ∧ 0 < d ∧ d < 4294967296 ∧ o = List.replicate a.length 0 ∧ c = 0 ∧ i = a.length - 1)
      (.done (.exit 0) [.dig [1, 2, 3] a, .num .u32 d, .grown 63 (Dy.dgN a.length (Dy.val a / d.toNat)), .num .u32 (Dy.val a % d.toNat : Nat), .num .i64 (-1)]))
  | _ => none
def keepSmall : List (Nat × Keep) := [(0, .same), (1, .same), (6, .same), (7, .same), (8, .same)]
def lamSmall := lam [(4, .spec keepSmall lsSmall)]
theorem vc_nat_small (a : List
  Nat) (d : Int) (Q : AV →
  Prop) : (evF Tryd.prog (look tab2) lamSmall false Tryd.f106 [AV.dig [(1 : Nat)] a, AV.num IntKind.u32 d] Q) =
    (((0 : Int) ≤ (↑a.length : Int) ∧
    (↑a.length : Int) ≤ (↑a.length : Int) ∧ (↑a.length : Int) ≤ (2 : Int) ^ (40 : Nat)) ∧
  (Dy.okl a ∧
      (0 : Int) < d ∧
        d < (4294967296 : Int) ∧
          List.replicate (↑a.length : Int).toNat (0 : Nat) = List.replicate a.length (0 : Nat) ∧
            (0 : Int) = (0 : Int) ∧ IntKind.i64.wrap ((↑a.length : Int) - (1 : Int)) = (↑a.length : Int) - (1 : Int)) ∧
    Q
      (AV.tup
        [AV.dig [(0 : Nat)] (Dy.dg (Dy.val (Dy.dgN a.length (Dy.val a / d.toNat)))),
          AV.num IntKind.u32 (↑(Dy.val a % d.toNat) : Int)])) := by kernel_rfl
theorem vc_nat_small_1 (a : List
  Nat) (o : List
  Nat) (d : Int) (c : Int) (i : Int) (K : Exit →
  List AV →
    Prop) : (evIter Tryd.prog (look tab2) lamSmall (2 : Nat) (35 : Nat) keepSmall (bodyN Tryd.f106 (0 : Nat))
  [AV.dig [(1 : Nat), (2 : Nat), (3 : Nat)] a, AV.num IntKind.u32 d, AV.grown (63 : TypeId) o, AV.num IntKind.u32 c,
    AV.num IntKind.i64 i]
  K) =
    (bif decide (i ≥ (0 : Int)) then
  ((0 : Int) ≤ i ∧ i < (↑a.length : Int)) ∧
    c < d ∧
      ∀ (n1 : Int),
        n1 = (c * (4294967296 : Int) + (↑(a.getD i.toNat (0 : Nat)) : Int)) / d →
          ∀ (n2 : Int),
            n2 = (c * (4294967296 : Int) + (↑(a.getD i.toNat (0 : Nat)) : Int)) % d →
              ((0 : Int) ≤ i ∧ i < (↑o.length : Int)) ∧
                i.toNat < o.length ∧
                  K Exit.normal
                    [AV.dig [(1 : Nat), (2 : Nat), (3 : Nat)] a, AV.num IntKind.u32 d,
                      AV.grown (63 : Nat) (o.set i.toNat n1.toNat), AV.num IntKind.u32 n2,
                      AV.num IntKind.i64 (IntKind.i64.wrap (i - (1 : Int)))]
 else
  K (Exit.exit (0 : Nat))
    [AV.dig [(1 : Nat), (2 : Nat), (3 : Nat)] a, AV.num IntKind.u32 d, AV.grown (63 : Nat) o, AV.num IntKind.u32 c,
      AV.num IntKind.i64 i]) := by kernel_rfl
def lsUp : List AV → Option LR
  | [.grown 63 o, .num .i64 s, .num .u32 c, .dig [1, 2, 3] a, .num .i64 k, .num .i64 i] =>
    some (.need (Dy.okl a ∧ a.length ≤ 1048576 ∧ 0 ≤ s ∧ s < 32 ∧ o.length ≤ 1048576 ∧ c = 0 ∧ k = a.length ∧ i = 0)
      (.done (.exit 0) [.grown 63 (o ++ Dy.dgN a.length (Dy.val a * 2 ^ s.toNat)), .num .i64 s, .num .u32 (Dy.val a * 2 ^ s.toNat / 2 ^ (32 * a.length) : Nat), .dig [1, 2, 3] a, .num .i64 k, .num .i64 k]))
  | _ => none
def keepUp : List (Nat × Keep) := [(5, .same), (6, .same), (7, .same), (24, .same), (25, .same), (26, .same)]
def lamUp := lam [(6, .spec keepUp lsUp)]
theorem vc_nat_up (a : List
  Nat) (n : Int) (Q : AV →
  Prop) : (evF Tryd.prog (look tab2) lamUp false Tryd.f93 [AV.dig [(1 : Nat)] a, AV.num IntKind.i64 n] Q) =
    (bif decide ((↑a.length : Int) = (0 : Int)) then Q (AV.dig [(0 : Nat)] [])
 else
  ((0 : Int) ≤ IntKind.i64.wrap (n.tdiv (32 : Int)) ∧
      IntKind.i64.wrap (n.tdiv (32 : Int)) ≤
          IntKind.i64.wrap (IntKind.i64.wrap (IntKind.i64.wrap (n.tdiv (32 : Int)) + (↑a.length : Int)) + (1 : Int)) ∧
        IntKind.i64.wrap (IntKind.i64.wrap (IntKind.i64.wrap (n.tdiv (32 : Int)) + (↑a.length : Int)) + (1 : Int)) ≤
          (2 : Int) ^ (40 : Nat)) ∧
    (Dy.okl a ∧
        a.length ≤ (1048576 : Nat) ∧
          (0 : Int) ≤ n.tmod (32 : Int) ∧
            n.tmod (32 : Int) < (32 : Int) ∧
              (List.replicate (IntKind.i64.wrap (n.tdiv (32 : Int))).toNat (0 : Nat)).length ≤ (1048576 : Nat) ∧
                (0 : Int) = (0 : Int) ∧ (↑a.length : Int) = (↑a.length : Int) ∧ (0 : Int) = (0 : Int)) ∧
      ((0 : Nat) ≤
            [(↑(Dy.val a * (2 : Nat) ^ (n.tmod (32 : Int)).toNat / (2 : Nat) ^ ((32 : Nat) * a.length)) :
                    Int).toNat].length ∧
          (List.replicate (IntKind.i64.wrap (n.tdiv (32 : Int))).toNat (0 : Nat) ++
                  Dy.dgN a.length (Dy.val a * (2 : Nat) ^ (n.tmod (32 : Int)).toNat)).length +
              [(↑(Dy.val a * (2 : Nat) ^ (n.tmod (32 : Int)).toNat / (2 : Nat) ^ ((32 : Nat) * a.length)) :
                      Int).toNat].length ≤
            (1099511627776 : Nat)) ∧
        Q
          (AV.dig [(0 : Nat)]
            (Dy.dg
              (Dy.val
                (List.replicate (IntKind.i64.wrap (n.tdiv (32 : Int))).toNat (0 : Nat) ++
                    Dy.dgN a.length (Dy.val a * (2 : Nat) ^ (n.tmod (32 : Int)).toNat) ++
                  [(↑(Dy.val a * (2 : Nat) ^ (n.tmod (32 : Int)).toNat / (2 : Nat) ^ ((32 : Nat) * a.length)) :
                        Int).toNat]))))) := by kernel_rfl
theorem vc_nat_up_1 (a : List
  Nat) (o : List
  Nat) (s : Int) (c : Int) (k : Int) (i : Int) (K : Exit →
  List AV →
    Prop) : (evIter Tryd.prog (look tab2) lamUp (2 : Nat) (50 : Nat) keepUp (bodyN Tryd.f93 (0 : Nat))
  [AV.grown (63 : TypeId) o, AV.num IntKind.i64 s, AV.num IntKind.u32 c, AV.dig [(1 : Nat), (2 : Nat), (3 : Nat)] a,
    AV.num IntKind.i64 k, AV.num IntKind.i64 i]
  K) =
    (bif decide (i < k) then
  ((0 : Int) ≤ i ∧ i < (↑a.length : Int)) ∧
    (0 : Int) ≤ s ∧
      ((0 : Nat) ≤
            [(IntKind.u32.wrap
                    (↑(BitVec.ofInt (32 : Nat)
                              (IntKind.u32.wrap
                                ((↑(a.getD i.toNat (0 : Nat)) : Int) * (2 : Int) ^ min s.toNat (32 : Nat))) |||
                            BitVec.ofInt (32 : Nat) c).toNat :
                      Int)).toNat].length ∧
          o.length +
              [(IntKind.u32.wrap
                      (↑(BitVec.ofInt (32 : Nat)
                                (IntKind.u32.wrap
                                  ((↑(a.getD i.toNat (0 : Nat)) : Int) * (2 : Int) ^ min s.toNat (32 : Nat))) |||
                              BitVec.ofInt (32 : Nat) c).toNat :
                        Int)).toNat].length ≤
            (1099511627776 : Nat)) ∧
        (0 : Int) ≤ IntKind.i64.wrap ((32 : Int) - s) ∧
          K Exit.normal
            [AV.grown (63 : Nat)
                (o ++
                  [(IntKind.u32.wrap
                        (↑(BitVec.ofInt (32 : Nat)
                                  (IntKind.u32.wrap
                                    ((↑(a.getD i.toNat (0 : Nat)) : Int) * (2 : Int) ^ min s.toNat (32 : Nat))) |||
                                BitVec.ofInt (32 : Nat) c).toNat :
                          Int)).toNat]),
              AV.num IntKind.i64 s,
              AV.num IntKind.u32
                (IntKind.u32.wrap
                  ((IntKind.u64.wrap (↑(a.getD i.toNat (0 : Nat)) : Int)).fdiv
                    ((2 : Int) ^ min (IntKind.i64.wrap ((32 : Int) - s)).toNat (64 : Nat)))),
              AV.dig [(1 : Nat), (2 : Nat), (3 : Nat)] a, AV.num IntKind.i64 k,
              AV.num IntKind.i64 (IntKind.i64.wrap (i + (1 : Int)))]
 else
  K (Exit.exit (0 : Nat))
    [AV.grown (63 : Nat) o, AV.num IntKind.i64 s, AV.num IntKind.u32 c, AV.dig [(1 : Nat), (2 : Nat), (3 : Nat)] a,
      AV.num IntKind.i64 k, AV.num IntKind.i64 i]) := by kernel_rfl
def lsDown : List AV → Option LR
  | [.dig [1, 2, 3] a, .num .i64 s, .grown 63 o, .dig [1, 2, 3] a', .num .i64 k, .num .i64 i] =>
    some (.need (a' = a ∧ Dy.okl a ∧ 0 ≤ s ∧ s < 32 ∧ o = List.replicate a.length 0 ∧ k = a.length ∧ i = 0)
      (.done (.exit 0) [.dig [1, 2, 3] a, .num .i64 s, .grown 63 (Dy.dgN a.length (Dy.val a / 2 ^ s.toNat)), .dig [1, 2, 3] a, .num .i64 k, .num .i64 k]))
  | _ => none
def keepDown : List (Nat × Keep) := [(0, .same), (5, .same), (6, .same), (23, .same), (24, .same), (25, .same)]
def lamDown := lam [(7, .spec keepDown lsDown)]
theorem vc_nat_down (a : List
  Nat) (n : Int) (Q : AV →
  Prop) : (evF Tryd.prog (look tab2) lamDown false Tryd.f92 [AV.dig [(1 : Nat)] a, AV.num IntKind.i64 n] Q) =
    (bif decide (IntKind.i64.wrap (n.tdiv (32 : Int)) ≥ (↑a.length : Int)) then Q (AV.dig [(0 : Nat)] [])
 else
  ((0 : Int) ≤ IntKind.i64.wrap (n.tdiv (32 : Int)) ∧ IntKind.i64.wrap (n.tdiv (32 : Int)) ≤ (↑a.length : Int)) ∧
    ((0 : Int) ≤ (↑(List.drop (IntKind.i64.wrap (n.tdiv (32 : Int))).toNat a).length : Int) ∧
        (↑(List.drop (IntKind.i64.wrap (n.tdiv (32 : Int))).toNat a).length : Int) ≤
            (↑(List.drop (IntKind.i64.wrap (n.tdiv (32 : Int))).toNat a).length : Int) ∧
          (↑(List.drop (IntKind.i64.wrap (n.tdiv (32 : Int))).toNat a).length : Int) ≤ (2 : Int) ^ (40 : Nat)) ∧
      (List.drop (IntKind.i64.wrap (n.tdiv (32 : Int))).toNat a =
            List.drop (IntKind.i64.wrap (n.tdiv (32 : Int))).toNat a ∧
          Dy.okl (List.drop (IntKind.i64.wrap (n.tdiv (32 : Int))).toNat a) ∧
            (0 : Int) ≤ n.tmod (32 : Int) ∧
              n.tmod (32 : Int) < (32 : Int) ∧
                List.replicate (↑(List.drop (IntKind.i64.wrap (n.tdiv (32 : Int))).toNat a).length : Int).toNat
                      (0 : Nat) =
                    List.replicate (List.drop (IntKind.i64.wrap (n.tdiv (32 : Int))).toNat a).length (0 : Nat) ∧
                  (↑(List.drop (IntKind.i64.wrap (n.tdiv (32 : Int))).toNat a).length : Int) =
                      (↑(List.drop (IntKind.i64.wrap (n.tdiv (32 : Int))).toNat a).length : Int) ∧
                    (0 : Int) = (0 : Int)) ∧
        Q
          (AV.dig [(0 : Nat)]
            (Dy.dg
              (Dy.val
                (Dy.dgN (List.drop (IntKind.i64.wrap (n.tdiv (32 : Int))).toNat a).length
                  (Dy.val (List.drop (IntKind.i64.wrap (n.tdiv (32 : Int))).toNat a) /
                    (2 : Nat) ^ (n.tmod (32 : Int)).toNat)))))) := by kernel_rfl
theorem vc_nat_down_1 (a : List
  Nat) (a' : List
  Nat) (o : List
  Nat) (s : Int) (k : Int) (i : Int) (K : Exit →
  List AV →
    Prop) : (evIter Tryd.prog (look tab2) lamDown (2 : Nat) (60 : Nat) keepDown (bodyN Tryd.f92 (0 : Nat))
  [AV.dig [(1 : Nat), (2 : Nat), (3 : Nat)] a, AV.num IntKind.i64 s, AV.grown (63 : TypeId) o,
    AV.dig [(1 : Nat), (2 : Nat), (3 : Nat)] a', AV.num IntKind.i64 k, AV.num IntKind.i64 i]
  K) =
    (bif decide (i < k) then
  ((0 : Int) ≤ i ∧ i < (↑a'.length : Int)) ∧
    (0 : Int) ≤ s ∧
      ((0 : Int) ≤ i ∧ i < (↑o.length : Int)) ∧
        i.toNat < o.length ∧
          bif decide (IntKind.i64.wrap (i + (1 : Int)) < (↑a.length : Int)) then
            ((0 : Int) ≤ i ∧
                i <
                  (↑(o.set i.toNat
                          ((↑(a'.getD i.toNat (0 : Nat)) : Int).fdiv
                              ((2 : Int) ^ min s.toNat (32 : Nat))).toNat).length :
                    Int)) ∧
              i.toNat <
                  (o.set i.toNat
                      ((↑(a'.getD i.toNat (0 : Nat)) : Int).fdiv ((2 : Int) ^ min s.toNat (32 : Nat))).toNat).length ∧
                ((0 : Int) ≤ IntKind.i64.wrap (i + (1 : Int)) ∧ IntKind.i64.wrap (i + (1 : Int)) < (↑a.length : Int)) ∧
                  (0 : Int) ≤ IntKind.i64.wrap ((32 : Int) - s) ∧
                    ((0 : Int) ≤ i ∧
                        i <
                          (↑(o.set i.toNat
                                  ((↑(a'.getD i.toNat (0 : Nat)) : Int).fdiv
                                      ((2 : Int) ^ min s.toNat (32 : Nat))).toNat).length :
                            Int)) ∧
                      i.toNat <
                          (o.set i.toNat
                              ((↑(a'.getD i.toNat (0 : Nat)) : Int).fdiv
                                  ((2 : Int) ^ min s.toNat (32 : Nat))).toNat).length ∧
                        K Exit.normal
                          [AV.dig [(1 : Nat), (2 : Nat), (3 : Nat)] a, AV.num IntKind.i64 s,
                            AV.grown (63 : Nat)
                              ((o.set i.toNat
                                    ((↑(a'.getD i.toNat (0 : Nat)) : Int).fdiv
                                        ((2 : Int) ^ min s.toNat (32 : Nat))).toNat).set
                                i.toNat
                                (IntKind.u32.wrap
                                    (↑(BitVec.ofInt (32 : Nat)
                                              (↑((o.set i.toNat
                                                        ((↑(a'.getD i.toNat (0 : Nat)) : Int).fdiv
                                                            ((2 : Int) ^ min s.toNat (32 : Nat))).toNat).getD
                                                    i.toNat (0 : Nat)) :
                                                Int) |||
                                            BitVec.ofInt (32 : Nat)
                                              (IntKind.u32.wrap
                                                (IntKind.u64.wrap
                                                  (IntKind.u64.wrap
                                                      (↑(a.getD (IntKind.i64.wrap (i + (1 : Int))).toNat (0 : Nat)) :
                                                        Int) *
                                                    (2 : Int) ^
                                                      min (IntKind.i64.wrap ((32 : Int) - s)).toNat
                                                        (64 : Nat))))).toNat :
                                      Int)).toNat),
                            AV.dig [(1 : Nat), (2 : Nat), (3 : Nat)] a', AV.num IntKind.i64 k,
                            AV.num IntKind.i64 (IntKind.i64.wrap (i + (1 : Int)))]
          else
            K Exit.normal
              [AV.dig [(1 : Nat), (2 : Nat), (3 : Nat)] a, AV.num IntKind.i64 s,
                AV.grown (63 : Nat)
                  (o.set i.toNat
                    ((↑(a'.getD i.toNat (0 : Nat)) : Int).fdiv ((2 : Int) ^ min s.toNat (32 : Nat))).toNat),
                AV.dig [(1 : Nat), (2 : Nat), (3 : Nat)] a', AV.num IntKind.i64 k,
                AV.num IntKind.i64 (IntKind.i64.wrap (i + (1 : Int)))]
 else
  K (Exit.exit (0 : Nat))
    [AV.dig [(1 : Nat), (2 : Nat), (3 : Nat)] a, AV.num IntKind.i64 s, AV.grown (63 : Nat) o,
      AV.dig [(1 : Nat), (2 : Nat), (3 : Nat)] a', AV.num IntKind.i64 k, AV.num IntKind.i64 i]) := by kernel_rfl
theorem vc_nat_Len (a : List
  Nat) (Q : AV → Prop) : (evF Tryd.prog (look tab2) (lam []) false Tryd.f80 [AV.dig [(1 : Nat)] a] Q) =
    (bif !Dy.may a then Q (AV.num IntKind.i64 (0 : Int))
 else
  bif decide ((↑a.length : Int) = (0 : Int)) then Q (AV.num IntKind.i64 (0 : Int))
  else
    ((0 : Int) ≤ IntKind.i64.wrap ((↑a.length : Int) - (1 : Int)) ∧
        IntKind.i64.wrap ((↑a.length : Int) - (1 : Int)) < (↑a.length : Int)) ∧
      Q
        (AV.num IntKind.i64
          (IntKind.i64.wrap
            (IntKind.i64.wrap ((32 : Int) * IntKind.i64.wrap ((↑a.length : Int) - (1 : Int))) +
              (↑(Lib.bitLen
                    (↑(a.getD (IntKind.i64.wrap ((↑a.length : Int) - (1 : Int))).toNat (0 : Nat)) : Int).toNat) :
                Int))))) := by kernel_rfl
def lsLow : List AV → Option LR
  | [.num .i64 r, .dig [1, 2] a, .num .i64 k, .num .i64 i] =>
    some (.need (Dy.okl a ∧ a.length ≤ 1048576 ∧ k = a.length ∧ i = 0)
      (.test (decide (Dy.val a = 0)) (.done (.exit 0) [.num .i64 r, .dig [1, 2] a, .num .i64 k, .num .i64 k]) (.done .ret [.num .i64 (Dy.tz (Dy.val a) : Nat), .dig [1, 2] a, .num .i64 k, .num .i64 (Dy.tz (Dy.val a) / 32 : Nat)])))
  | _ => none
def keepLow : List (Nat × Keep) := [(2, .same), (8, .same), (9, .same), (10, .same)]
def lamLow := lam [(4, .spec keepLow lsLow)]
theorem vc_nat_Low (a : List
  Nat) (Q : AV → Prop) : (evF Tryd.prog (look tab2) lamLow false Tryd.f60 [AV.dig [(1 : Nat)] a] Q) =
    (bif !Dy.may a then Q (AV.num IntKind.i64 (0 : Int))
 else
  (Dy.okl a ∧ a.length ≤ (1048576 : Nat) ∧ (↑a.length : Int) = (↑a.length : Int) ∧ (0 : Int) = (0 : Int)) ∧
    bif decide (Dy.val a = (0 : Nat)) then Q (AV.num IntKind.i64 (0 : Int))
    else Q (AV.num IntKind.i64 (↑(Dy.tz (Dy.val a)) : Int))) := by kernel_rfl
theorem vc_nat_Low_1 (a : List
  Nat) (r : Int) (k : Int) (i : Int) (K : Exit →
  List AV →
    Prop) : (evIter Tryd.prog (look tab2) lamLow (1 : Nat) (23 : Nat) keepLow (bodyN Tryd.f60 (0 : Nat))
  [AV.num IntKind.i64 r, AV.dig [(1 : Nat), (2 : Nat)] a, AV.num IntKind.i64 k, AV.num IntKind.i64 i] K) =
    (bif decide (i < k) then
  ((0 : Int) ≤ i ∧ i < (↑a.length : Int)) ∧
    bif !decide ((↑(a.getD i.toNat (0 : Nat)) : Int) = (0 : Int)) then
      (0 : Int) < (↑(a.getD i.toNat (0 : Nat)) : Int) ∧
        K Exit.ret
          [AV.num IntKind.i64
              (IntKind.i64.wrap
                (IntKind.i64.wrap ((32 : Int) * i) +
                  (↑(Lib.ctz (32 : Nat) (↑(a.getD i.toNat (0 : Nat)) : Int).toNat) : Int))),
            AV.dig [(1 : Nat), (2 : Nat)] a, AV.num IntKind.i64 k, AV.num IntKind.i64 i]
    else
      K Exit.normal
        [AV.num IntKind.i64 r, AV.dig [(1 : Nat), (2 : Nat)] a, AV.num IntKind.i64 k,
          AV.num IntKind.i64 (IntKind.i64.wrap (i + (1 : Int)))]
 else
  K (Exit.exit (0 : Nat))
    [AV.num IntKind.i64 r, AV.dig [(1 : Nat), (2 : Nat)] a, AV.num IntKind.i64 k,
      AV.num IntKind.i64 i]) := by kernel_rfl
theorem vc_nat_Shift (a : List
  Nat) (n : Int) (Q : AV →
  Prop) : (evF Tryd.prog (look tab3) (lam []) false Tryd.f61 [AV.dig [(1 : Nat)] a, AV.num IntKind.i64 n] Q) =
    (bif !Dy.may a then Q (AV.tup [AV.dig [(0 : Nat)] [], AV.bool false, AV.num IntKind.i64 (2 : Int)])
 else
  bif decide ((↑a.length : Int) = (0 : Int)) then
    Q (AV.tup [AV.dig [(0 : Nat)] [], AV.bool false, AV.num IntKind.i64 (0 : Int)])
  else
    bif decide (n < (-131072 : Int)) then Q (AV.tup [AV.dig [(0 : Nat)] [], AV.bool true, AV.num IntKind.i64 (0 : Int)])
    else
      bif decide (n < (0 : Int)) then
        ((0 : Int) ≤ IntKind.i64.wrap ((0 : Int) - n) ∧ a.length ≤ (1048576 : Nat)) ∧
          Q
            (AV.tup
              [AV.dig [(0 : Nat)] (Dy.dg (Dy.val a / (2 : Nat) ^ (IntKind.i64.wrap ((0 : Int) - n)).toNat)),
                AV.bool (decide ((↑(Dy.lowN a) : Int) < IntKind.i64.wrap ((0 : Int) - n))),
                AV.num IntKind.i64 (0 : Int)])
      else
        bif decide (n > IntKind.i64.wrap ((131072 : Int) - (↑(Dy.lenN a) : Int))) then
          Q (AV.tup [AV.dig [(0 : Nat)] [], AV.bool false, AV.num IntKind.i64 (3 : Int)])
        else
          ((0 : Int) ≤ n ∧ n ≤ (33554432 : Int) ∧ a.length ≤ (1048576 : Nat)) ∧
            Q
              (AV.tup
                [AV.dig [(0 : Nat)] (Dy.dg (Dy.val a * (2 : Nat) ^ n.toNat)), AV.bool false,
                  AV.num IntKind.i64 (0 : Int)])) := by kernel_rfl
end Go.AI
