/- Printed by a program of mine: what a body, or a round of a loop, comes to. -/
import Derived.Test.YtnhbdcnnanfacaaDoorAIspec3
namespace Go.AI
open Go Go.RowKit Go.Proofs
set_option linter.unusedVariables false
set_option maxRecDepth 100000
set_option maxHeartbeats 0
def lsRTrim : List AV → Option LR
  | [.dig [1, 2] l, .num .i64 n] => some (.need (Dy.okl l ∧ n = l.length) (.done (.exit 0) [.dig [1, 2] l, .num .i64 (Dy.dg (Dy.val l)).length]))
  | _ => none
def keepRTrim : List (Nat × Keep) := [(0, .same), (3, .same)]
def lamRTrim := lam [(2, .spec keepRTrim lsRTrim)]
theorem vc_ref_Trim (l : List
  Nat) (Q : AV → Prop) : (evF Tryd.prog (look tab4) lamRTrim true Tryd.f94 [AV.dig [(1 : Nat)] l] Q) =
    ((Dy.okl l ∧ (↑l.length : Int) = (↑l.length : Int)) ∧
  ((0 : Int) ≤ (↑(Dy.dg (Dy.val l)).length : Int) ∧ (↑(Dy.dg (Dy.val l)).length : Int) ≤ (↑l.length : Int)) ∧
    Q (AV.dig [(0 : Nat), (1 : Nat)] (List.take (↑(Dy.dg (Dy.val l)).length : Int).toNat l))) := by kernel_rfl
theorem vc_ref_Trim_1 (l : List
  Nat) (n : Int) (K : Exit →
  List AV →
    Prop) : (evIter Tryd.prog (look tab4) lamRTrim (1 : Nat) (21 : Nat) keepRTrim (bodyN Tryd.f94 (0 : Nat))
  [AV.dig [(1 : Nat), (2 : Nat)] l, AV.num IntKind.i64 n] K) =
    (bif decide (n > (0 : Int)) then
  ((0 : Int) ≤ IntKind.i64.wrap (n - (1 : Int)) ∧ IntKind.i64.wrap (n - (1 : Int)) < (↑l.length : Int)) ∧
    bif decide ((↑(l.getD (IntKind.i64.wrap (n - (1 : Int))).toNat (0 : Nat)) : Int) = (0 : Int)) then
      K Exit.normal [AV.dig [(1 : Nat), (2 : Nat)] l, AV.num IntKind.i64 (IntKind.i64.wrap (n - (1 : Int)))]
    else K (Exit.exit (0 : Nat)) [AV.dig [(1 : Nat), (2 : Nat)] l, AV.num IntKind.i64 n]
 else K (Exit.exit (0 : Nat)) [AV.dig [(1 : Nat), (2 : Nat)] l, AV.num IntKind.i64 n]) := by kernel_rfl
theorem vc_ref_May (l : List
  Nat) (Q : AV → Prop) : (evF Tryd.prog (look tab4) (lam []) false Tryd.f18 [AV.dig [(1 : Nat)] l] Q) =
    (bif decide ((↑l.length : Int) ≤ (4096 : Int)) then
  bif decide ((↑l.length : Int) = (0 : Int)) then Q (AV.bool true)
  else
    ((0 : Int) ≤ IntKind.i64.wrap ((↑l.length : Int) - (1 : Int)) ∧
        IntKind.i64.wrap ((↑l.length : Int) - (1 : Int)) < (↑l.length : Int)) ∧
      Q
        (AV.bool
          !decide ((↑(l.getD (IntKind.i64.wrap ((↑l.length : Int) - (1 : Int))).toNat (0 : Nat)) : Int) = (0 : Int)))
 else Q (AV.bool false)) := by kernel_rfl
theorem vc_ref_Of (n : Int) (Q : AV →
  Prop) : (evF Tryd.prog (look tab5) (lam []) false Tryd.f65 [AV.num IntKind.u64 n] Q) =
    (Q
  (AV.dig [(0 : Nat)]
    (Dy.dg
      (Dy.val
        [(IntKind.u32.wrap n).toNat, (IntKind.u32.wrap (n.fdiv ((2 : Int) ^ (32 : Nat)))).toNat])))) := by kernel_rfl
def lsSame : List AV → Option LR
  | [.dig [1, 2, 3] a, .dig [1, 2, 3] b, .bool r, .num .i64 i] => some (.need (a.length = b.length ∧ i = 0 ∧ Dy.okl a) (.test (decide (a = b)) (.done (.exit 0) [.dig [1, 2, 3] a, .dig [1, 2, 3] b, .bool r, .num .i64 a.length])
      (.done .ret [.dig [1, 2, 3] a, .dig [1, 2, 3] b, .bool false, .num .i64 (Dy.diffU a b : Nat)])))
  | _ => none
def keepSame : List (Nat × Keep) := [(0, .same), (1, .same), (4, .same), (5, .same)]
def lamSame := lam [(4, .spec keepSame lsSame)]
theorem vc_ref_Same (a : List
  Nat) (b : List
  Nat) (Q : AV →
  Prop) : (evF Tryd.prog (look tab5) lamSame false Tryd.f17 [AV.dig [(1 : Nat)] a, AV.dig [(2 : Nat)] b] Q) =
    (bif !decide ((↑a.length : Int) = (↑b.length : Int)) then Q (AV.bool false)
 else
  (a.length = b.length ∧ (0 : Int) = (0 : Int) ∧ Dy.okl a) ∧
    bif decide (a = b) then Q (AV.bool true) else Q (AV.bool false)) := by kernel_rfl
theorem vc_ref_Same_1 (a : List
  Nat) (b : List
  Nat) (r : Bool) (i : Int) (K : Exit →
  List AV →
    Prop) : (evIter Tryd.prog (look tab5) lamSame (2 : Nat) (26 : Nat) keepSame (bodyN Tryd.f17 (0 : Nat))
  [AV.dig [(1 : Nat), (2 : Nat), (3 : Nat)] a, AV.dig [(1 : Nat), (2 : Nat), (3 : Nat)] b, AV.bool r,
    AV.num IntKind.i64 i]
  K) =
    (bif decide (i < (↑a.length : Int)) then
  ((0 : Int) ≤ i ∧ i < (↑a.length : Int)) ∧
    ((0 : Int) ≤ i ∧ i < (↑b.length : Int)) ∧
      bif !decide ((↑(a.getD i.toNat (0 : Nat)) : Int) = (↑(b.getD i.toNat (0 : Nat)) : Int)) then
        K Exit.ret
          [AV.dig [(1 : Nat), (2 : Nat), (3 : Nat)] a, AV.dig [(1 : Nat), (2 : Nat), (3 : Nat)] b, AV.bool false,
            AV.num IntKind.i64 i]
      else
        K Exit.normal
          [AV.dig [(1 : Nat), (2 : Nat), (3 : Nat)] a, AV.dig [(1 : Nat), (2 : Nat), (3 : Nat)] b, AV.bool r,
            AV.num IntKind.i64 (IntKind.i64.wrap (i + (1 : Int)))]
 else
  K (Exit.exit (0 : Nat))
    [AV.dig [(1 : Nat), (2 : Nat), (3 : Nat)] a, AV.dig [(1 : Nat), (2 : Nat), (3 : Nat)] b, AV.bool r,
      AV.num IntKind.i64 i]) := by kernel_rfl
def lsRCmp : List AV → Option LR
  | [.dig [1, 2, 3] a, .dig [1, 2, 3] b, .num .i64 r, .num .i64 i] => some (.need (a.length = b.length ∧ -1 ≤ i ∧ i < a.length ∧ a.length ≤ 2 ^ 45) (.test (decide (0 ≤ Dy.diffI a b (i + 1).toNat))
      (.done .ret [.dig [1, 2, 3] a, .dig [1, 2, 3] b, .num .i64 (if a.getD (Dy.diffI a b (i + 1).toNat).toNat 0 < b.getD (Dy.diffI a b (i + 1).toNat).toNat 0 then -1 else 1), .num .i64 (Dy.diffI a b (i + 1).toNat)])
      (.done (.exit 0) [.dig [1, 2, 3] a, .dig [1, 2, 3] b, .num .i64 r, .num .i64 (-1)])))
  | _ => none
def lamRCmp := lam [(6, .spec [(0, .same), (1, .same), (4, .same), (5, .same)] lsRCmp)]
theorem vc_ref_Cmp (a : List
  Nat) (b : List
  Nat) (Q : AV →
  Prop) : (evF Tryd.prog (look tab5) lamRCmp false Tryd.f82 [AV.dig [(1 : Nat)] a, AV.dig [(2 : Nat)] b] Q) =
    (bif !decide ((↑a.length : Int) = (↑b.length : Int)) then
  bif decide ((↑a.length : Int) < (↑b.length : Int)) then Q (AV.num IntKind.i64 (-1 : Int))
  else Q (AV.num IntKind.i64 (1 : Int))
 else
  (a.length = b.length ∧
      (-1 : Int) ≤ IntKind.i64.wrap ((↑a.length : Int) - (1 : Int)) ∧
        IntKind.i64.wrap ((↑a.length : Int) - (1 : Int)) < (↑a.length : Int) ∧ a.length ≤ (35184372088832 : Nat)) ∧
    bif decide ((0 : Int) ≤ Dy.diffI a b (IntKind.i64.wrap ((↑a.length : Int) - (1 : Int)) + (1 : Int)).toNat) then
      Q
        (AV.num IntKind.i64
          (if
              a.getD (Dy.diffI a b (IntKind.i64.wrap ((↑a.length : Int) - (1 : Int)) + (1 : Int)).toNat).toNat
                  (0 : Nat) <
                b.getD (Dy.diffI a b (IntKind.i64.wrap ((↑a.length : Int) - (1 : Int)) + (1 : Int)).toNat).toNat
                  (0 : Nat) then
            (-1 : Int)
          else (1 : Int)))
    else Q (AV.num IntKind.i64 (0 : Int))) := by kernel_rfl
theorem vc_ref_Cmp_1 (a : List
  Nat) (b : List
  Nat) (i : Int) (r : Int) (K : Exit →
  List AV →
    Prop) : (evIter Tryd.prog (look tab5) lamRCmp (2 : Nat) (41 : Nat)
  [((0 : Nat), Keep.same), ((1 : Nat), Keep.same), ((4 : Nat), Keep.same), ((5 : Nat), Keep.same)]
  (bodyN Tryd.f82 (0 : Nat))
  [AV.dig [(1 : Nat), (2 : Nat), (3 : Nat)] a, AV.dig [(1 : Nat), (2 : Nat), (3 : Nat)] b, AV.num IntKind.i64 r,
    AV.num IntKind.i64 i]
  K) =
    (bif decide (i ≥ (0 : Int)) then
  ((0 : Int) ≤ i ∧ i < (↑a.length : Int)) ∧
    ((0 : Int) ≤ i ∧ i < (↑b.length : Int)) ∧
      bif decide ((↑(a.getD i.toNat (0 : Nat)) : Int) < (↑(b.getD i.toNat (0 : Nat)) : Int)) then
        K Exit.ret
          [AV.dig [(1 : Nat), (2 : Nat), (3 : Nat)] a, AV.dig [(1 : Nat), (2 : Nat), (3 : Nat)] b,
            AV.num IntKind.i64 (-1 : Int), AV.num IntKind.i64 i]
      else
        ((0 : Int) ≤ i ∧ i < (↑a.length : Int)) ∧
          ((0 : Int) ≤ i ∧ i < (↑b.length : Int)) ∧
            bif decide ((↑(a.getD i.toNat (0 : Nat)) : Int) > (↑(b.getD i.toNat (0 : Nat)) : Int)) then
              K Exit.ret
                [AV.dig [(1 : Nat), (2 : Nat), (3 : Nat)] a, AV.dig [(1 : Nat), (2 : Nat), (3 : Nat)] b,
                  AV.num IntKind.i64 (1 : Int), AV.num IntKind.i64 i]
            else
              K Exit.normal
                [AV.dig [(1 : Nat), (2 : Nat), (3 : Nat)] a, AV.dig [(1 : Nat), (2 : Nat), (3 : Nat)] b,
                  AV.num IntKind.i64 r, AV.num IntKind.i64 (IntKind.i64.wrap (i - (1 : Int)))]
 else
  K (Exit.exit (0 : Nat))
    [AV.dig [(1 : Nat), (2 : Nat), (3 : Nat)] a, AV.dig [(1 : Nat), (2 : Nat), (3 : Nat)] b, AV.num IntKind.i64 r,
      AV.num IntKind.i64 i]) := by kernel_rfl
def lsRAdd : List AV → Option LR
  | [.dig [1, 2, 3] a, .dig [1, 2, 3] b, .grown 63 o, .num .u64 c, .num .i64 i] =>
    some (.need (Dy.okl a ∧ Dy.okl b ∧ a.length ≤ 1048576 ∧ b.length ≤ 1048576 ∧ o = [] ∧ c = 0 ∧ i = 0)
      (.done (.exit 0) [.dig [1, 2, 3] a, .dig [1, 2, 3] b, .grown 63 (Dy.dgN (max a.length b.length) (Dy.val a + Dy.val b)), .num .u64 ((Dy.val a + Dy.val b) / 2 ^ (32 * max a.length b.length) : Nat), .num .i64 (max a.length b.length : Nat)]))
  | _ => none
def keepRAdd : List (Nat × Keep) := [(0, .same), (1, .same), (5, .grow 63), (6, .same), (7, .same)]
def lamRAdd := lam [(4, .spec keepRAdd lsRAdd)]
theorem vc_ref_Add (a : List
  Nat) (b : List
  Nat) (Q : AV →
  Prop) : (evF Tryd.prog (look tab5) lamRAdd false Tryd.f77 [AV.dig [(1 : Nat)] a, AV.dig [(2 : Nat)] b] Q) =
    ((Dy.okl a ∧
    Dy.okl b ∧
      a.length ≤ (1048576 : Nat) ∧
        b.length ≤ (1048576 : Nat) ∧ ([] : List Nat) = [] ∧ (0 : Int) = (0 : Int) ∧ (0 : Int) = (0 : Int)) ∧
  ((0 : Nat) ≤
        [(IntKind.u32.wrap
                (↑((Dy.val a + Dy.val b) / (2 : Nat) ^ ((32 : Nat) * max a.length b.length)) : Int)).toNat].length ∧
      (Dy.dgN (max a.length b.length) (Dy.val a + Dy.val b)).length +
          [(IntKind.u32.wrap
                  (↑((Dy.val a + Dy.val b) / (2 : Nat) ^ ((32 : Nat) * max a.length b.length)) : Int)).toNat].length ≤
        (1099511627776 : Nat)) ∧
    Q
      (AV.dig [(0 : Nat)]
        (Dy.dg
          (Dy.val
            (Dy.dgN (max a.length b.length) (Dy.val a + Dy.val b) ++
              [(IntKind.u32.wrap
                    (↑((Dy.val a + Dy.val b) / (2 : Nat) ^ ((32 : Nat) * max a.length b.length)) :
                      Int)).toNat]))))) := by kernel_rfl
theorem vc_ref_Add_1 (a : List
  Nat) (b : List
  Nat) (o : List
  Nat) (c : Int) (i : Int) (K : Exit →
  List AV →
    Prop) : (evIter Tryd.prog (look tab5) lamRAdd (2 : Nat) (55 : Nat) keepRAdd (bodyN Tryd.f77 (0 : Nat))
  [AV.dig [(1 : Nat), (2 : Nat), (3 : Nat)] a, AV.dig [(1 : Nat), (2 : Nat), (3 : Nat)] b, AV.grown (63 : TypeId) o,
    AV.num IntKind.u64 c, AV.num IntKind.i64 i]
  K) =
    (bif decide (i < (↑a.length : Int)) then
  bif decide (i < (↑a.length : Int)) then
    ((0 : Int) ≤ i ∧ i < (↑a.length : Int)) ∧
      bif decide (i < (↑b.length : Int)) then
        ((0 : Int) ≤ i ∧ i < (↑b.length : Int)) ∧
          ((0 : Nat) ≤
                [(IntKind.u32.wrap
                        (IntKind.u64.wrap
                          (IntKind.u64.wrap (c + IntKind.u64.wrap (↑(a.getD i.toNat (0 : Nat)) : Int)) +
                            IntKind.u64.wrap (↑(b.getD i.toNat (0 : Nat)) : Int)))).toNat].length ∧
              o.length +
                  [(IntKind.u32.wrap
                          (IntKind.u64.wrap
                            (IntKind.u64.wrap (c + IntKind.u64.wrap (↑(a.getD i.toNat (0 : Nat)) : Int)) +
                              IntKind.u64.wrap (↑(b.getD i.toNat (0 : Nat)) : Int)))).toNat].length ≤
                (1099511627776 : Nat)) ∧
            K Exit.normal
              [AV.dig [(1 : Nat), (2 : Nat), (3 : Nat)] a, AV.dig [(1 : Nat), (2 : Nat), (3 : Nat)] b,
                AV.grown (63 : Nat)
                  (o ++
                    [(IntKind.u32.wrap
                          (IntKind.u64.wrap
                            (IntKind.u64.wrap (c + IntKind.u64.wrap (↑(a.getD i.toNat (0 : Nat)) : Int)) +
                              IntKind.u64.wrap (↑(b.getD i.toNat (0 : Nat)) : Int)))).toNat]),
                AV.num IntKind.u64
                  ((IntKind.u64.wrap
                        (IntKind.u64.wrap (c + IntKind.u64.wrap (↑(a.getD i.toNat (0 : Nat)) : Int)) +
                          IntKind.u64.wrap (↑(b.getD i.toNat (0 : Nat)) : Int))).fdiv
                    ((2 : Int) ^ (32 : Nat))),
                AV.num IntKind.i64 (IntKind.i64.wrap (i + (1 : Int)))]
      else
        ((0 : Nat) ≤
              [(IntKind.u32.wrap
                      (IntKind.u64.wrap (c + IntKind.u64.wrap (↑(a.getD i.toNat (0 : Nat)) : Int)))).toNat].length ∧
            o.length +
                [(IntKind.u32.wrap
                        (IntKind.u64.wrap (c + IntKind.u64.wrap (↑(a.getD i.toNat (0 : Nat)) : Int)))).toNat].length ≤
              (1099511627776 : Nat)) ∧
          K Exit.normal
            [AV.dig [(1 : Nat), (2 : Nat), (3 : Nat)] a, AV.dig [(1 : Nat), (2 : Nat), (3 : Nat)] b,
              AV.grown (63 : Nat)
                (o ++
                  [(IntKind.u32.wrap
                        (IntKind.u64.wrap (c + IntKind.u64.wrap (↑(a.getD i.toNat (0 : Nat)) : Int)))).toNat]),
              AV.num IntKind.u64
                ((IntKind.u64.wrap (c + IntKind.u64.wrap (↑(a.getD i.toNat (0 : Nat)) : Int))).fdiv
                  ((2 : Int) ^ (32 : Nat))),
              AV.num IntKind.i64 (IntKind.i64.wrap (i + (1 : Int)))]
  else
    bif decide (i < (↑b.length : Int)) then
      ((0 : Int) ≤ i ∧ i < (↑b.length : Int)) ∧
        ((0 : Nat) ≤
              [(IntKind.u32.wrap
                      (IntKind.u64.wrap (c + IntKind.u64.wrap (↑(b.getD i.toNat (0 : Nat)) : Int)))).toNat].length ∧
            o.length +
                [(IntKind.u32.wrap
                        (IntKind.u64.wrap (c + IntKind.u64.wrap (↑(b.getD i.toNat (0 : Nat)) : Int)))).toNat].length ≤
              (1099511627776 : Nat)) ∧
          K Exit.normal
            [AV.dig [(1 : Nat), (2 : Nat), (3 : Nat)] a, AV.dig [(1 : Nat), (2 : Nat), (3 : Nat)] b,
              AV.grown (63 : Nat)
                (o ++
                  [(IntKind.u32.wrap
                        (IntKind.u64.wrap (c + IntKind.u64.wrap (↑(b.getD i.toNat (0 : Nat)) : Int)))).toNat]),
              AV.num IntKind.u64
                ((IntKind.u64.wrap (c + IntKind.u64.wrap (↑(b.getD i.toNat (0 : Nat)) : Int))).fdiv
                  ((2 : Int) ^ (32 : Nat))),
              AV.num IntKind.i64 (IntKind.i64.wrap (i + (1 : Int)))]
    else
      ((0 : Nat) ≤ [(IntKind.u32.wrap c).toNat].length ∧
          o.length + [(IntKind.u32.wrap c).toNat].length ≤ (1099511627776 : Nat)) ∧
        K Exit.normal
          [AV.dig [(1 : Nat), (2 : Nat), (3 : Nat)] a, AV.dig [(1 : Nat), (2 : Nat), (3 : Nat)] b,
            AV.grown (63 : Nat) (o ++ [(IntKind.u32.wrap c).toNat]),
            AV.num IntKind.u64 (c.fdiv ((2 : Int) ^ (32 : Nat))), AV.num IntKind.i64 (IntKind.i64.wrap (i + (1 : Int)))]
 else
  bif decide (i < (↑b.length : Int)) then
    bif decide (i < (↑a.length : Int)) then
      ((0 : Int) ≤ i ∧ i < (↑a.length : Int)) ∧
        bif decide (i < (↑b.length : Int)) then
          ((0 : Int) ≤ i ∧ i < (↑b.length : Int)) ∧
            ((0 : Nat) ≤
                  [(IntKind.u32.wrap
                          (IntKind.u64.wrap
                            (IntKind.u64.wrap (c + IntKind.u64.wrap (↑(a.getD i.toNat (0 : Nat)) : Int)) +
                              IntKind.u64.wrap (↑(b.getD i.toNat (0 : Nat)) : Int)))).toNat].length ∧
                o.length +
                    [(IntKind.u32.wrap
                            (IntKind.u64.wrap
                              (IntKind.u64.wrap (c + IntKind.u64.wrap (↑(a.getD i.toNat (0 : Nat)) : Int)) +
                                IntKind.u64.wrap (↑(b.getD i.toNat (0 : Nat)) : Int)))).toNat].length ≤
                  (1099511627776 : Nat)) ∧
              K Exit.normal
                [AV.dig [(1 : Nat), (2 : Nat), (3 : Nat)] a, AV.dig [(1 : Nat), (2 : Nat), (3 : Nat)] b,
                  AV.grown (63 : Nat)
                    (o ++
                      [(IntKind.u32.wrap
                            (IntKind.u64.wrap
                              (IntKind.u64.wrap (c + IntKind.u64.wrap (↑(a.getD i.toNat (0 : Nat)) : Int)) +
                                IntKind.u64.wrap (↑(b.getD i.toNat (0 : Nat)) : Int)))).toNat]),
                  AV.num IntKind.u64
                    ((IntKind.u64.wrap
                          (IntKind.u64.wrap (c + IntKind.u64.wrap (↑(a.getD i.toNat (0 : Nat)) : Int)) +
                            IntKind.u64.wrap (↑(b.getD i.toNat (0 : Nat)) : Int))).fdiv
                      ((2 : Int) ^ (32 : Nat))),
                  AV.num IntKind.i64 (IntKind.i64.wrap (i + (1 : Int)))]
        else
          ((0 : Nat) ≤
                [(IntKind.u32.wrap
                        (IntKind.u64.wrap (c + IntKind.u64.wrap (↑(a.getD i.toNat (0 : Nat)) : Int)))).toNat].length ∧
              o.length +
                  [(IntKind.u32.wrap
                          (IntKind.u64.wrap (c + IntKind.u64.wrap (↑(a.getD i.toNat (0 : Nat)) : Int)))).toNat].length ≤
                (1099511627776 : Nat)) ∧
            K Exit.normal
              [AV.dig [(1 : Nat), (2 : Nat), (3 : Nat)] a, AV.dig [(1 : Nat), (2 : Nat), (3 : Nat)] b,
                AV.grown (63 : Nat)
                  (o ++
                    [(IntKind.u32.wrap
                          (IntKind.u64.wrap (c + IntKind.u64.wrap (↑(a.getD i.toNat (0 : Nat)) : Int)))).toNat]),
                AV.num IntKind.u64
                  ((IntKind.u64.wrap (c + IntKind.u64.wrap (↑(a.getD i.toNat (0 : Nat)) : Int))).fdiv
                    ((2 : Int) ^ (32 : Nat))),
                AV.num IntKind.i64 (IntKind.i64.wrap (i + (1 : Int)))]
    else
      bif decide (i < (↑b.length : Int)) then
        ((0 : Int) ≤ i ∧ i < (↑b.length : Int)) ∧
          ((0 : Nat) ≤
                [(IntKind.u32.wrap
                        (IntKind.u64.wrap (c + IntKind.u64.wrap (↑(b.getD i.toNat (0 : Nat)) : Int)))).toNat].length ∧
              o.length +
                  [(IntKind.u32.wrap
                          (IntKind.u64.wrap (c + IntKind.u64.wrap (↑(b.getD i.toNat (0 : Nat)) : Int)))).toNat].length ≤
                (1099511627776 : Nat)) ∧
            K Exit.normal
              [AV.dig [(1 : Nat), (2 : Nat), (3 : Nat)] a, AV.dig [(1 : Nat), (2 : Nat), (3 : Nat)] b,
                AV.grown (63 : Nat)
                  (o ++
                    [(IntKind.u32.wrap
                          (IntKind.u64.wrap (c + IntKind.u64.wrap (↑(b.getD i.toNat (0 : Nat)) : Int)))).toNat]),
                AV.num IntKind.u64
                  ((IntKind.u64.wrap (c + IntKind.u64.wrap (↑(b.getD i.toNat (0 : Nat)) : Int))).fdiv
                    ((2 : Int) ^ (32 : Nat))),
                AV.num IntKind.i64 (IntKind.i64.wrap (i + (1 : Int)))]
      else
        ((0 : Nat) ≤ [(IntKind.u32.wrap c).toNat].length ∧
            o.length + [(IntKind.u32.wrap c).toNat].length ≤ (1099511627776 : Nat)) ∧
          K Exit.normal
            [AV.dig [(1 : Nat), (2 : Nat), (3 : Nat)] a, AV.dig [(1 : Nat), (2 : Nat), (3 : Nat)] b,
              AV.grown (63 : Nat) (o ++ [(IntKind.u32.wrap c).toNat]),
              AV.num IntKind.u64 (c.fdiv ((2 : Int) ^ (32 : Nat))),
              AV.num IntKind.i64 (IntKind.i64.wrap (i + (1 : Int)))]
  else
    K (Exit.exit (0 : Nat))
      [AV.dig [(1 : Nat), (2 : Nat), (3 : Nat)] a, AV.dig [(1 : Nat), (2 : Nat), (3 : Nat)] b, AV.grown (63 : Nat) o,
        AV.num IntKind.u64 c, AV.num IntKind.i64 i]) := by kernel_rfl
def lsRSub : List AV → Option LR
  | [.dig [1, 2, 3] a, .dig [1, 2, 3] b, .grown 63 o, .num .u64 c, .num .i64 i] =>
    some (.need (Dy.okl a ∧ Dy.okl b ∧ a.length ≤ 1048576 ∧ Dy.val b ≤ Dy.val a ∧ o = [] ∧ c = 0 ∧ i = 0)
      (.done (.exit 0) [.dig [1, 2, 3] a, .dig [1, 2, 3] b, .grown 63 (Dy.dgN a.length (Dy.val a - Dy.val b)), .num .u64 0, .num .i64 a.length]))
  | _ => none
def lamRSub := lam [(4, .spec keepRAdd lsRSub)]
theorem vc_ref_Sub (a : List
  Nat) (b : List
  Nat) (Q : AV →
  Prop) : (evF Tryd.prog (look tab5) lamRSub false Tryd.f83 [AV.dig [(1 : Nat)] a, AV.dig [(2 : Nat)] b] Q) =
    ((Dy.okl a ∧
    Dy.okl b ∧
      a.length ≤ (1048576 : Nat) ∧ Dy.val b ≤ Dy.val a ∧ ([] : List Nat) = [] ∧ (0 : Int) = (0 : Int) ∧ (0 : Int) = (0 : Int)) ∧
  Q (AV.dig [(0 : Nat)] (Dy.dg (Dy.val (Dy.dgN a.length (Dy.val a - Dy.val b)))))) := by kernel_rfl
theorem vc_ref_Sub_1 (a : List
  Nat) (b : List
  Nat) (o : List
  Nat) (c : Int) (i : Int) (K : Exit →
  List AV →
    Prop) : (evIter Tryd.prog (look tab5) lamRSub (2 : Nat) (47 : Nat) keepRAdd (bodyN Tryd.f83 (0 : Nat))
  [AV.dig [(1 : Nat), (2 : Nat), (3 : Nat)] a, AV.dig [(1 : Nat), (2 : Nat), (3 : Nat)] b, AV.grown (63 : TypeId) o,
    AV.num IntKind.u64 c, AV.num IntKind.i64 i]
  K) =
    (bif decide (i < (↑a.length : Int)) then
  bif decide (i < (↑b.length : Int)) then
    ((0 : Int) ≤ i ∧ i < (↑b.length : Int)) ∧
      ((0 : Int) ≤ i ∧ i < (↑a.length : Int)) ∧
        bif
            decide
              (IntKind.u64.wrap (↑(a.getD i.toNat (0 : Nat)) : Int) <
                IntKind.u64.wrap (c + IntKind.u64.wrap (↑(b.getD i.toNat (0 : Nat)) : Int))) then
          ((0 : Nat) ≤
                [(IntKind.u32.wrap
                        (IntKind.u64.wrap
                          (IntKind.u64.wrap
                              (IntKind.u64.wrap (↑(a.getD i.toNat (0 : Nat)) : Int) + (4294967296 : Int)) -
                            IntKind.u64.wrap
                              (c + IntKind.u64.wrap (↑(b.getD i.toNat (0 : Nat)) : Int))))).toNat].length ∧
              o.length +
                  [(IntKind.u32.wrap
                          (IntKind.u64.wrap
                            (IntKind.u64.wrap
                                (IntKind.u64.wrap (↑(a.getD i.toNat (0 : Nat)) : Int) + (4294967296 : Int)) -
                              IntKind.u64.wrap
                                (c + IntKind.u64.wrap (↑(b.getD i.toNat (0 : Nat)) : Int))))).toNat].length ≤
                (1099511627776 : Nat)) ∧
            K Exit.normal
              [AV.dig [(1 : Nat), (2 : Nat), (3 : Nat)] a, AV.dig [(1 : Nat), (2 : Nat), (3 : Nat)] b,
                AV.grown (63 : Nat)
                  (o ++
                    [(IntKind.u32.wrap
                          (IntKind.u64.wrap
                            (IntKind.u64.wrap
                                (IntKind.u64.wrap (↑(a.getD i.toNat (0 : Nat)) : Int) + (4294967296 : Int)) -
                              IntKind.u64.wrap (c + IntKind.u64.wrap (↑(b.getD i.toNat (0 : Nat)) : Int))))).toNat]),
                AV.num IntKind.u64 (1 : Int), AV.num IntKind.i64 (IntKind.i64.wrap (i + (1 : Int)))]
        else
          ((0 : Nat) ≤
                [(IntKind.u32.wrap
                        (IntKind.u64.wrap
                          (IntKind.u64.wrap (↑(a.getD i.toNat (0 : Nat)) : Int) -
                            IntKind.u64.wrap
                              (c + IntKind.u64.wrap (↑(b.getD i.toNat (0 : Nat)) : Int))))).toNat].length ∧
              o.length +
                  [(IntKind.u32.wrap
                          (IntKind.u64.wrap
                            (IntKind.u64.wrap (↑(a.getD i.toNat (0 : Nat)) : Int) -
                              IntKind.u64.wrap
                                (c + IntKind.u64.wrap (↑(b.getD i.toNat (0 : Nat)) : Int))))).toNat].length ≤
                (1099511627776 : Nat)) ∧
            K Exit.normal
              [AV.dig [(1 : Nat), (2 : Nat), (3 : Nat)] a, AV.dig [(1 : Nat), (2 : Nat), (3 : Nat)] b,
                AV.grown (63 : Nat)
                  (o ++
                    [(IntKind.u32.wrap
                          (IntKind.u64.wrap
                            (IntKind.u64.wrap (↑(a.getD i.toNat (0 : Nat)) : Int) -
                              IntKind.u64.wrap (c + IntKind.u64.wrap (↑(b.getD i.toNat (0 : Nat)) : Int))))).toNat]),
                AV.num IntKind.u64 (0 : Int), AV.num IntKind.i64 (IntKind.i64.wrap (i + (1 : Int)))]
  else
    ((0 : Int) ≤ i ∧ i < (↑a.length : Int)) ∧
      bif decide (IntKind.u64.wrap (↑(a.getD i.toNat (0 : Nat)) : Int) < c) then
        ((0 : Nat) ≤
              [(IntKind.u32.wrap
                      (IntKind.u64.wrap
                        (IntKind.u64.wrap (IntKind.u64.wrap (↑(a.getD i.toNat (0 : Nat)) : Int) + (4294967296 : Int)) -
                          c))).toNat].length ∧
            o.length +
                [(IntKind.u32.wrap
                        (IntKind.u64.wrap
                          (IntKind.u64.wrap
                              (IntKind.u64.wrap (↑(a.getD i.toNat (0 : Nat)) : Int) + (4294967296 : Int)) -
                            c))).toNat].length ≤
              (1099511627776 : Nat)) ∧
          K Exit.normal
            [AV.dig [(1 : Nat), (2 : Nat), (3 : Nat)] a, AV.dig [(1 : Nat), (2 : Nat), (3 : Nat)] b,
              AV.grown (63 : Nat)
                (o ++
                  [(IntKind.u32.wrap
                        (IntKind.u64.wrap
                          (IntKind.u64.wrap
                              (IntKind.u64.wrap (↑(a.getD i.toNat (0 : Nat)) : Int) + (4294967296 : Int)) -
                            c))).toNat]),
              AV.num IntKind.u64 (1 : Int), AV.num IntKind.i64 (IntKind.i64.wrap (i + (1 : Int)))]
      else
        ((0 : Nat) ≤
              [(IntKind.u32.wrap
                      (IntKind.u64.wrap (IntKind.u64.wrap (↑(a.getD i.toNat (0 : Nat)) : Int) - c))).toNat].length ∧
            o.length +
                [(IntKind.u32.wrap
                        (IntKind.u64.wrap (IntKind.u64.wrap (↑(a.getD i.toNat (0 : Nat)) : Int) - c))).toNat].length ≤
              (1099511627776 : Nat)) ∧
          K Exit.normal
            [AV.dig [(1 : Nat), (2 : Nat), (3 : Nat)] a, AV.dig [(1 : Nat), (2 : Nat), (3 : Nat)] b,
              AV.grown (63 : Nat)
                (o ++
                  [(IntKind.u32.wrap
                        (IntKind.u64.wrap (IntKind.u64.wrap (↑(a.getD i.toNat (0 : Nat)) : Int) - c))).toNat]),
              AV.num IntKind.u64 (0 : Int), AV.num IntKind.i64 (IntKind.i64.wrap (i + (1 : Int)))]
 else
  K (Exit.exit (0 : Nat))
    [AV.dig [(1 : Nat), (2 : Nat), (3 : Nat)] a, AV.dig [(1 : Nat), (2 : Nat), (3 : Nat)] b, AV.grown (63 : Nat) o,
      AV.num IntKind.u64 c, AV.num IntKind.i64 i]) := by kernel_rfl
def lsRLen : List AV → Option LR
  | [.num .i64 n, .num .u32 x] => some (.need (0 ≤ n ∧ n ≤ 1099511627776 ∧ 0 ≤ x ∧ x < 4294967296) (.done (.exit 0) [.num .i64 (n + (Dy.bl x.toNat : Nat)), .num .u32 0]))
  | _ => none
def keepRLen : List (Nat × Keep) := [(3, .same), (4, .same)]
def lamRLen := lam [(5, .spec keepRLen lsRLen)]
theorem vc_ref_Len (a : List
  Nat) (Q : AV → Prop) : (evF Tryd.prog (look tab5) lamRLen false Tryd.f78 [AV.dig [(1 : Nat)] a] Q) =
    (bif decide ((↑a.length : Int) = (0 : Int)) then Q (AV.num IntKind.i64 (0 : Int))
 else
  ((0 : Int) ≤ IntKind.i64.wrap ((↑a.length : Int) - (1 : Int)) ∧
      IntKind.i64.wrap ((↑a.length : Int) - (1 : Int)) < (↑a.length : Int)) ∧
    ((0 : Int) ≤ IntKind.i64.wrap ((32 : Int) * IntKind.i64.wrap ((↑a.length : Int) - (1 : Int))) ∧
        IntKind.i64.wrap ((32 : Int) * IntKind.i64.wrap ((↑a.length : Int) - (1 : Int))) ≤ (1099511627776 : Int) ∧
          (0 : Int) ≤ (↑(a.getD (IntKind.i64.wrap ((↑a.length : Int) - (1 : Int))).toNat (0 : Nat)) : Int) ∧
            (↑(a.getD (IntKind.i64.wrap ((↑a.length : Int) - (1 : Int))).toNat (0 : Nat)) : Int) < (4294967296 : Int)) ∧
      Q
        (AV.num IntKind.i64
          (IntKind.i64.wrap ((32 : Int) * IntKind.i64.wrap ((↑a.length : Int) - (1 : Int))) +
            (↑(Dy.bl (↑(a.getD (IntKind.i64.wrap ((↑a.length : Int) - (1 : Int))).toNat (0 : Nat)) : Int).toNat) :
              Int)))) := by kernel_rfl
theorem vc_ref_Len_1 (n : Int) (x : Int) (K : Exit →
  List AV →
    Prop) : (evIter Tryd.prog (look tab5) lamRLen (1 : Nat) (25 : Nat) keepRLen (bodyN Tryd.f78 (0 : Nat))
  [AV.num IntKind.i64 n, AV.num IntKind.u32 x] K) =
    (bif decide (x > (0 : Int)) then
  K Exit.normal
    [AV.num IntKind.i64 (IntKind.i64.wrap (n + (1 : Int))), AV.num IntKind.u32 (x.fdiv ((2 : Int) ^ (1 : Nat)))]
 else K (Exit.exit (0 : Nat)) [AV.num IntKind.i64 n, AV.num IntKind.u32 x]) := by kernel_rfl
theorem vc_ref_Bit (a : List
  Nat) (i : Int) (Q : AV →
  Prop) : (evF Tryd.prog (look tab5) (lam []) false Tryd.f62 [AV.dig [(1 : Nat)] a, AV.num IntKind.i64 i] Q) =
    (bif decide (i < (0 : Int)) then Q (AV.num IntKind.u32 (0 : Int))
 else
  bif decide (IntKind.i64.wrap (i.tdiv (32 : Int)) ≥ (↑a.length : Int)) then Q (AV.num IntKind.u32 (0 : Int))
  else
    ((0 : Int) ≤ IntKind.i64.wrap (i.tdiv (32 : Int)) ∧ IntKind.i64.wrap (i.tdiv (32 : Int)) < (↑a.length : Int)) ∧
      (0 : Int) ≤ i.tmod (32 : Int) ∧
        Q
          (AV.num IntKind.u32
            (IntKind.u32.wrap
              (↑(BitVec.ofInt (32 : Nat)
                        ((↑(a.getD (IntKind.i64.wrap (i.tdiv (32 : Int))).toNat (0 : Nat)) : Int).fdiv
                          ((2 : Int) ^ min (i.tmod (32 : Int)).toNat (32 : Nat))) &&&
                      BitVec.ofInt (32 : Nat) (1 : Int)).toNat :
                Int)))) := by kernel_rfl
def lsRUp : List AV → Option LR
  | [.dig [1, 2, 3] a, .grown 63 o, .num .i64 s, .num .u64 c, .num .i64 i] =>
    some (.need (Dy.okl a ∧ a.length ≤ 1048576 ∧ 0 ≤ s ∧ s < 32 ∧ o.length ≤ 1048576 ∧ c = 0 ∧ i = 0)
      (.done (.exit 0) [.dig [1, 2, 3] a, .grown 63 (o ++ Dy.dgN a.length (Dy.val a * 2 ^ s.toNat)), .num .i64 s, .num .u64 (Dy.val a * 2 ^ s.toNat / 2 ^ (32 * a.length) : Nat), .num .i64 a.length]))
  | _ => none
def keepRUp : List (Nat × Keep) := [(0, .same), (5, .same), (6, .same), (7, .same), (8, .same)]
def lamRUp := lam [(7, .spec keepRUp lsRUp)]
theorem vc_ref_Up (a : List
  Nat) (n : Int) (Q : AV →
  Prop) : (evF Tryd.prog (look tab5) lamRUp false Tryd.f67 [AV.dig [(1 : Nat)] a, AV.num IntKind.i64 n] Q) =
    (bif decide ((↑a.length : Int) = (0 : Int)) then Q (AV.dig [(0 : Nat)] [])
 else
  ((0 : Int) ≤ IntKind.i64.wrap (n.tdiv (32 : Int)) ∧
      IntKind.i64.wrap (n.tdiv (32 : Int)) ≤ IntKind.i64.wrap (n.tdiv (32 : Int)) ∧
        IntKind.i64.wrap (n.tdiv (32 : Int)) ≤ (2 : Int) ^ (40 : Nat)) ∧
    (Dy.okl a ∧
        a.length ≤ (1048576 : Nat) ∧
          (0 : Int) ≤ n.tmod (32 : Int) ∧
            n.tmod (32 : Int) < (32 : Int) ∧
              (List.replicate (IntKind.i64.wrap (n.tdiv (32 : Int))).toNat (0 : Nat)).length ≤ (1048576 : Nat) ∧
                (0 : Int) = (0 : Int) ∧ (0 : Int) = (0 : Int)) ∧
      ((0 : Nat) ≤
            [(IntKind.u32.wrap
                    (↑(Dy.val a * (2 : Nat) ^ (n.tmod (32 : Int)).toNat / (2 : Nat) ^ ((32 : Nat) * a.length)) :
                      Int)).toNat].length ∧
          (List.replicate (IntKind.i64.wrap (n.tdiv (32 : Int))).toNat (0 : Nat) ++
                  Dy.dgN a.length (Dy.val a * (2 : Nat) ^ (n.tmod (32 : Int)).toNat)).length +
              [(IntKind.u32.wrap
                      (↑(Dy.val a * (2 : Nat) ^ (n.tmod (32 : Int)).toNat / (2 : Nat) ^ ((32 : Nat) * a.length)) :
                        Int)).toNat].length ≤
            (1099511627776 : Nat)) ∧
        Q
          (AV.dig [(0 : Nat)]
            (Dy.dg
              (Dy.val
                (List.replicate (IntKind.i64.wrap (n.tdiv (32 : Int))).toNat (0 : Nat) ++
                    Dy.dgN a.length (Dy.val a * (2 : Nat) ^ (n.tmod (32 : Int)).toNat) ++
                  [(IntKind.u32.wrap
                        (↑(Dy.val a * (2 : Nat) ^ (n.tmod (32 : Int)).toNat / (2 : Nat) ^ ((32 : Nat) * a.length)) :
                          Int)).toNat]))))) := by kernel_rfl
theorem vc_ref_Up_1 (a : List
  Nat) (o : List
  Nat) (s : Int) (c : Int) (i : Int) (K : Exit →
  List AV →
    Prop) : (evIter Tryd.prog (look tab5) lamRUp (2 : Nat) (45 : Nat) keepRUp (bodyN Tryd.f67 (0 : Nat))
  [AV.dig [(1 : Nat), (2 : Nat), (3 : Nat)] a, AV.grown (63 : TypeId) o, AV.num IntKind.i64 s, AV.num IntKind.u64 c,
    AV.num IntKind.i64 i]
  K) =
    (bif decide (i < (↑a.length : Int)) then
  ((0 : Int) ≤ i ∧ i < (↑a.length : Int)) ∧
    (0 : Int) ≤ s ∧
      ((0 : Nat) ≤
            [(IntKind.u32.wrap
                    (IntKind.u64.wrap
                      (↑(BitVec.ofInt (64 : Nat) c |||
                              BitVec.ofInt (64 : Nat)
                                (IntKind.u64.wrap
                                  (IntKind.u64.wrap (↑(a.getD i.toNat (0 : Nat)) : Int) *
                                    (2 : Int) ^ min s.toNat (64 : Nat)))).toNat :
                        Int))).toNat].length ∧
          o.length +
              [(IntKind.u32.wrap
                      (IntKind.u64.wrap
                        (↑(BitVec.ofInt (64 : Nat) c |||
                                BitVec.ofInt (64 : Nat)
                                  (IntKind.u64.wrap
                                    (IntKind.u64.wrap (↑(a.getD i.toNat (0 : Nat)) : Int) *
                                      (2 : Int) ^ min s.toNat (64 : Nat)))).toNat :
                          Int))).toNat].length ≤
            (1099511627776 : Nat)) ∧
        K Exit.normal
          [AV.dig [(1 : Nat), (2 : Nat), (3 : Nat)] a,
            AV.grown (63 : Nat)
              (o ++
                [(IntKind.u32.wrap
                      (IntKind.u64.wrap
                        (↑(BitVec.ofInt (64 : Nat) c |||
                                BitVec.ofInt (64 : Nat)
                                  (IntKind.u64.wrap
                                    (IntKind.u64.wrap (↑(a.getD i.toNat (0 : Nat)) : Int) *
                                      (2 : Int) ^ min s.toNat (64 : Nat)))).toNat :
                          Int))).toNat]),
            AV.num IntKind.i64 s,
            AV.num IntKind.u64
              ((IntKind.u64.wrap
                    (↑(BitVec.ofInt (64 : Nat) c |||
                            BitVec.ofInt (64 : Nat)
                              (IntKind.u64.wrap
                                (IntKind.u64.wrap (↑(a.getD i.toNat (0 : Nat)) : Int) *
                                  (2 : Int) ^ min s.toNat (64 : Nat)))).toNat :
                      Int)).fdiv
                ((2 : Int) ^ (32 : Nat))),
            AV.num IntKind.i64 (IntKind.i64.wrap (i + (1 : Int)))]
 else
  K (Exit.exit (0 : Nat))
    [AV.dig [(1 : Nat), (2 : Nat), (3 : Nat)] a, AV.grown (63 : Nat) o, AV.num IntKind.i64 s, AV.num IntKind.u64 c,
      AV.num IntKind.i64 i]) := by kernel_rfl
def lsRLow : List AV → Option LR
  | [.dig [1, 2] a, .num .i64 n] => some (.need (Dy.okl a ∧ Dy.dg (Dy.val a) = a ∧ a.length ≤ 1048576 ∧ n = 0) (.done (.exit 0) [.dig [1, 2] a, .num .i64 (Dy.tz (Dy.val a) : Nat)]))
  | _ => none
def keepRLow : List (Nat × Keep) := [(0, .same), (3, .same)]
def lamRLow := lam [(2, .spec keepRLow lsRLow)]
theorem vc_ref_Low (a : List
  Nat) (Q : AV → Prop) : (evF Tryd.prog (look tab6) lamRLow false Tryd.f20 [AV.dig [(1 : Nat)] a] Q) =
    ((Dy.okl a ∧ Dy.dg (Dy.val a) = a ∧ a.length ≤ (1048576 : Nat) ∧ (0 : Int) = (0 : Int)) ∧
  bif decide ((↑(Dy.tz (Dy.val a)) : Int) = IntKind.i64.wrap ((32 : Int) * (↑a.length : Int))) then
    Q (AV.num IntKind.i64 (0 : Int))
  else Q (AV.num IntKind.i64 (↑(Dy.tz (Dy.val a)) : Int))) := by kernel_rfl
theorem vc_ref_Low_1 (a : List
  Nat) (n : Int) (K : Exit →
  List AV →
    Prop) : (evIter Tryd.prog (look tab6) lamRLow (1 : Nat) (31 : Nat) keepRLow (bodyN Tryd.f20 (0 : Nat))
  [AV.dig [(1 : Nat), (2 : Nat)] a, AV.num IntKind.i64 n] K) =
    (bif decide (n < IntKind.i64.wrap ((32 : Int) * (↑a.length : Int))) then
  bif
      decide
        ((↑(if n < (0 : Int) then (0 : Nat) else Dy.val a / (2 : Nat) ^ n.toNat % (2 : Nat)) : Int) = (0 : Int)) then
    ((0 : Int) ≤ IntKind.i64.wrap (n.tdiv (32 : Int)) ∧ IntKind.i64.wrap (n.tdiv (32 : Int)) < (↑a.length : Int)) ∧
      bif decide ((↑(a.getD (IntKind.i64.wrap (n.tdiv (32 : Int))).toNat (0 : Nat)) : Int) = (0 : Int)) then
        K Exit.normal [AV.dig [(1 : Nat), (2 : Nat)] a, AV.num IntKind.i64 (IntKind.i64.wrap (n + (32 : Int)))]
      else K Exit.normal [AV.dig [(1 : Nat), (2 : Nat)] a, AV.num IntKind.i64 (IntKind.i64.wrap (n + (1 : Int)))]
  else K (Exit.exit (0 : Nat)) [AV.dig [(1 : Nat), (2 : Nat)] a, AV.num IntKind.i64 n]
 else K (Exit.exit (0 : Nat)) [AV.dig [(1 : Nat), (2 : Nat)] a, AV.num IntKind.i64 n]) := by kernel_rfl
def lsRDown : List AV → Option LR
  | [.dig [1, 2, 3] a, .grown 63 o, .num .i64 s, .num .i64 i, .bool l] =>
    some (.need (Dy.okl a ∧ 0 ≤ s ∧ s < 32 ∧ o = [] ∧ 0 ≤ i ∧ i ≤ a.length ∧ a.length ≤ 1048576)
      (.done (.exit 0) [.dig [1, 2, 3] a, .grown 63 (Dy.dgN (a.length - i.toNat) (Dy.val (a.drop i.toNat) / 2 ^ s.toNat)), .num .i64 s, .num .i64 a.length, .bool l]))
  | _ => none
def keepRDown : List (Nat × Keep) := [(0, .same), (7, .grow 63), (8, .same), (9, .same), (6, .same)]
def lamRDown := lam [(7, .spec keepRDown lsRDown)]
theorem vc_ref_Down (a : List
  Nat) (n : Int) (Q : AV →
  Prop) : (evF Tryd.prog (look tab7) lamRDown false Tryd.f63 [AV.dig [(1 : Nat)] a, AV.num IntKind.i64 n] Q) =
    ((Dy.dg (Dy.val a) = a ∧ a.length ≤ (1048576 : Nat)) ∧
  bif decide (n ≥ (↑(Dy.bl (Dy.val a)) : Int)) then
    Q (AV.tup [AV.dig [(0 : Nat)] [], AV.bool (decide ((↑a.length : Int) > (0 : Int)))])
  else
    (Dy.dg (Dy.val a) = a ∧ a.length ≤ (1048576 : Nat)) ∧
      (Dy.okl a ∧
          (0 : Int) ≤ n.tmod (32 : Int) ∧
            n.tmod (32 : Int) < (32 : Int) ∧
              ([] : List Nat) = [] ∧
                (0 : Int) ≤ IntKind.i64.wrap (n.tdiv (32 : Int)) ∧
                  IntKind.i64.wrap (n.tdiv (32 : Int)) ≤ (↑a.length : Int) ∧ a.length ≤ (1048576 : Nat)) ∧
        Q
          (AV.tup
            [AV.dig [(0 : Nat)]
                (Dy.dg
                  (Dy.val
                    (Dy.dgN (a.length - (IntKind.i64.wrap (n.tdiv (32 : Int))).toNat)
                      (Dy.val (List.drop (IntKind.i64.wrap (n.tdiv (32 : Int))).toNat a) /
                        (2 : Nat) ^ (n.tmod (32 : Int)).toNat)))),
              AV.bool (decide (n > (↑(Dy.tz (Dy.val a)) : Int)))])) := by kernel_rfl
theorem vc_ref_Down_1 (a : List
  Nat) (o : List
  Nat) (s : Int) (i : Int) (l : Bool) (K : Exit →
  List AV →
    Prop) : (evIter Tryd.prog (look tab7) lamRDown (2 : Nat) (63 : Nat) keepRDown (bodyN Tryd.f63 (0 : Nat))
  [AV.dig [(1 : Nat), (2 : Nat), (3 : Nat)] a, AV.grown (63 : TypeId) o, AV.num IntKind.i64 s, AV.num IntKind.i64 i,
    AV.bool l]
  K) =
    (bif decide (i < (↑a.length : Int)) then
  ((0 : Int) ≤ i ∧ i < (↑a.length : Int)) ∧
    (0 : Int) ≤ s ∧
      bif decide (IntKind.i64.wrap (i + (1 : Int)) < (↑a.length : Int)) then
        ((0 : Int) ≤ IntKind.i64.wrap (i + (1 : Int)) ∧ IntKind.i64.wrap (i + (1 : Int)) < (↑a.length : Int)) ∧
          (0 : Int) ≤ IntKind.i64.wrap ((32 : Int) - s) ∧
            ((0 : Nat) ≤
                  [(IntKind.u32.wrap
                          (IntKind.u64.wrap
                            (↑(BitVec.ofInt (64 : Nat)
                                      ((IntKind.u64.wrap (↑(a.getD i.toNat (0 : Nat)) : Int)).fdiv
                                        ((2 : Int) ^ min s.toNat (64 : Nat))) |||
                                    BitVec.ofInt (64 : Nat)
                                      (IntKind.u64.wrap
                                        (IntKind.u64.wrap
                                            (↑(a.getD (IntKind.i64.wrap (i + (1 : Int))).toNat (0 : Nat)) : Int) *
                                          (2 : Int) ^
                                            min (IntKind.i64.wrap ((32 : Int) - s)).toNat (64 : Nat)))).toNat :
                              Int))).toNat].length ∧
                o.length +
                    [(IntKind.u32.wrap
                            (IntKind.u64.wrap
                              (↑(BitVec.ofInt (64 : Nat)
                                        ((IntKind.u64.wrap (↑(a.getD i.toNat (0 : Nat)) : Int)).fdiv
                                          ((2 : Int) ^ min s.toNat (64 : Nat))) |||
                                      BitVec.ofInt (64 : Nat)
                                        (IntKind.u64.wrap
                                          (IntKind.u64.wrap
                                              (↑(a.getD (IntKind.i64.wrap (i + (1 : Int))).toNat (0 : Nat)) : Int) *
                                            (2 : Int) ^
                                              min (IntKind.i64.wrap ((32 : Int) - s)).toNat (64 : Nat)))).toNat :
                                Int))).toNat].length ≤
                  (1099511627776 : Nat)) ∧
              K Exit.normal
                [AV.dig [(1 : Nat), (2 : Nat), (3 : Nat)] a,
                  AV.grown (63 : Nat)
                    (o ++
                      [(IntKind.u32.wrap
                            (IntKind.u64.wrap
                              (↑(BitVec.ofInt (64 : Nat)
                                        ((IntKind.u64.wrap (↑(a.getD i.toNat (0 : Nat)) : Int)).fdiv
                                          ((2 : Int) ^ min s.toNat (64 : Nat))) |||
                                      BitVec.ofInt (64 : Nat)
                                        (IntKind.u64.wrap
                                          (IntKind.u64.wrap
                                              (↑(a.getD (IntKind.i64.wrap (i + (1 : Int))).toNat (0 : Nat)) : Int) *
                                            (2 : Int) ^
                                              min (IntKind.i64.wrap ((32 : Int) - s)).toNat (64 : Nat)))).toNat :
                                Int))).toNat]),
                  AV.num IntKind.i64 s, AV.num IntKind.i64 (IntKind.i64.wrap (i + (1 : Int))), AV.bool l]
      else
        ((0 : Nat) ≤
              [(IntKind.u32.wrap
                      ((IntKind.u64.wrap (↑(a.getD i.toNat (0 : Nat)) : Int)).fdiv
                        ((2 : Int) ^ min s.toNat (64 : Nat)))).toNat].length ∧
            o.length +
                [(IntKind.u32.wrap
                        ((IntKind.u64.wrap (↑(a.getD i.toNat (0 : Nat)) : Int)).fdiv
                          ((2 : Int) ^ min s.toNat (64 : Nat)))).toNat].length ≤
              (1099511627776 : Nat)) ∧
          K Exit.normal
            [AV.dig [(1 : Nat), (2 : Nat), (3 : Nat)] a,
              AV.grown (63 : Nat)
                (o ++
                  [(IntKind.u32.wrap
                        ((IntKind.u64.wrap (↑(a.getD i.toNat (0 : Nat)) : Int)).fdiv
                          ((2 : Int) ^ min s.toNat (64 : Nat)))).toNat]),
              AV.num IntKind.i64 s, AV.num IntKind.i64 (IntKind.i64.wrap (i + (1 : Int))), AV.bool l]
 else
  K (Exit.exit (0 : Nat))
    [AV.dig [(1 : Nat), (2 : Nat), (3 : Nat)] a, AV.grown (63 : Nat) o, AV.num IntKind.i64 s, AV.num IntKind.i64 i,
      AV.bool l]) := by kernel_rfl
end Go.AI
