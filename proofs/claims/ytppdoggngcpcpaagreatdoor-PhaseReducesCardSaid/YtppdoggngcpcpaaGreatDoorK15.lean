/- My texts AVbook, AVlaw17, AImir, AIlaw17, AIbook, AIbook2, AIspecX, AIwide, AIback0, AIback1, AIback2, AIback3, in one. -/
import Derived.Test.YtppdoggngcpcpaaGreatDoorK14
namespace Go.AI
open Dy IntKind
open Go Go.RowKit Go.Proofs
set_option linter.unusedVariables false
set_option maxRecDepth 100000
set_option maxHeartbeats 0
def lsSer : List AV → Option LR
 | [.bool true, .dig [4] p, .dig [4] m, .dig [4] x, .dig [4] k, .num .i64 t, .num .u64 i] =>
 some (.need (Dy.dg (Dy.val x) = x ∧ Dy.dg (Dy.val p) = p ∧ Dy.dg (Dy.val m) = m ∧ Dy.dg (Dy.val k) = k ∧ 2 ≤ Dy.val k ∧ k.length ≤ 1000 ∧ i % 2 = 1 ∧ 0 ≤ t ∧ t + Dy.bl (Dy.val x) ≤ 1099511627776 ∧ 1 ≤ i ∧ i + 2 * Dy.bl (Dy.val x) ≤ 1099511627776 ∧
 Dy.bl (Dy.val p + 2 * Dy.val x) ≤ 131072 ∧ Dy.bl (Dy.val m + 2 * Dy.val x) ≤ 131072)
 (.done (.exit 0) [.bool true, .dig [4] (Dy.dg (Dy.arcF (Dy.val k) (Dy.bl (Dy.val x)) (Dy.val x) (Dy.val p) (Dy.val m) t.toNat i.toNat).plus),
 .dig [4] (Dy.dg (Dy.arcF (Dy.val k) (Dy.bl (Dy.val x)) (Dy.val x) (Dy.val p) (Dy.val m) t.toNat i.toNat).minus), .dig [4] [], .dig [4] k,
 .num .i64 ((Dy.arcF (Dy.val k) (Dy.bl (Dy.val x)) (Dy.val x) (Dy.val p) (Dy.val m) t.toNat i.toNat).terms : Nat),
 .num .u64 ((Dy.arcF (Dy.val k) (Dy.bl (Dy.val x)) (Dy.val x) (Dy.val p) (Dy.val m) t.toNat i.toNat).next : Nat)]))
 | _ => none
def keepSer : List (Nat × Keep) := [(2, .same), (8, .same), (9, .same), (10, .same), (12, .same), (13, .same), (14, .same)]
def lamSer := lam [(6, .spec keepSer lsSer)]
theorem vc_ref16_series (n : Int) (b : Int) (Q : AV → Prop) : (evF Tryz.prog (look tabV1) lamSer false Tryz.f91 [.num .u64 n, .num .i64 b, .bool true] Q) = ((0 ≤ b ∧ b ≤ 33554432 ∧ (1 : Nat) ≤ (1048576 : Nat)) ∧ (dg (val (dg ((1 : Nat) * (2 : Nat) ^ b.toNat))) = dg ((1 : Nat) * (2 : Nat) ^ b.toNat) ∧ dg (val (dg n.toNat)) = dg n.toNat ∧ dg n.toNat ≠ [] ∧ (dg ((1 : Nat) * (2 : Nat) ^ b.toNat)).length ≤ 100000 ∧ (dg n.toNat).length ≤ 100000) ∧ ∀ (l1 : List Nat), l1 = dg (val (dg ((1 : Nat) * (2 : Nat) ^ b.toNat)) / val (dg n.toNat)) → ∀ (l2 : List Nat), l2 = dg (val (dg ((1 : Nat) * (2 : Nat) ^ b.toNat)) % val (dg n.toNat)) → (dg (val l1) = l1 ∧ dg (0 : Nat) = [] ∧ dg (0 : Nat) = [] ∧ dg (val (dg (u64.wrap (n * n)).toNat)) = dg (u64.wrap (n * n)).toNat ∧ (2 : Nat) ≤ val (dg (u64.wrap (n * n)).toNat) ∧ (dg (u64.wrap (n * n)).toNat).length ≤ 1000 ∧ (1 : Int) % (2 : Int) = (1 : Int) ∧ (0 : Int) ≤ (0 : Int) ∧ (0 : Int) + (↑(bl (val l1)) : Int) ≤ (1099511627776 : Int) ∧ (1 : Int) ≤ (1 : Int) ∧ (1 : Int) + (2 : Int) * (↑(bl (val l1)) : Int) ≤ (1099511627776 : Int) ∧ bl ((0 : Nat) + (2 : Nat) * val l1) ≤ (131072 : Nat) ∧ bl ((0 : Nat) + (2 : Nat) * val l1) ≤ (131072 : Nat)) ∧ (val (dg (arcF (val (dg (u64.wrap (n * n)).toNat)) (bl (val l1)) (val l1) (0 : Nat) (0 : Nat) (0 : Nat) (1 : Nat)).minus) ≤ val (dg (arcF (val (dg (u64.wrap (n * n)).toNat)) (bl (val l1)) (val l1) (0 : Nat) (0 : Nat) (0 : Nat) (1 : Nat)).plus) ∧ (dg (arcF (val (dg (u64.wrap (n * n)).toNat)) (bl (val l1)) (val l1) (0 : Nat) (0 : Nat) (0 : Nat) (1 : Nat)).plus).length ≤ 1048576) ∧ Q (.tup [.dig [0] (dg (val (dg (arcF (val (dg (u64.wrap (n * n)).toNat)) (bl (val l1)) (val l1) (0 : Nat) (0 : Nat) (0 : Nat) (1 : Nat)).plus) - val (dg (arcF (val (dg (u64.wrap (n * n)).toNat)) (bl (val l1)) (val l1) (0 : Nat) (0 : Nat) (0 : Nat) (1 : Nat)).minus))), .num .i64 (↑(arcF (val (dg (u64.wrap (n * n)).toNat)) (bl (val l1)) (val l1) (0 : Nat) (0 : Nat) (0 : Nat) (1 : Nat)).terms : Int)])) := by kernel_rfl
theorem vc_ref16_series_1 (p : List Nat) (m : List Nat) (x : List Nat) (k : List Nat) (t : Int) (i : Int) (K : Exit → List AV → Prop) : (evIter Tryz.prog (look tabV1) lamSer (3 : Nat) (66 : Nat) keepSer (bodyN Tryz.f91 (0 : Nat)) [.bool true, .dig [4] p, .dig [4] m, .dig [4] x, .dig [4] k, .num .i64 t, .num .u64 i] K) = (bif decide ((↑x.length : Int) > (0 : Int)) then (dg (val x) = x ∧ dg (val (dg i.toNat)) = dg i.toNat ∧ dg i.toNat ≠ [] ∧ x.length ≤ 100000 ∧ (dg i.toNat).length ≤ 100000) ∧ ∀ (l1 : List Nat), l1 = dg (val x / val (dg i.toNat)) → ∀ (l2 : List Nat), l2 = dg (val x % val (dg i.toNat)) → bif decide (i.tmod (4 : Int) = (3 : Int)) then (m.length ≤ 1048576 ∧ l1.length ≤ 1048576) ∧ (dg (val x) = x ∧ dg (val k) = k ∧ k ≠ [] ∧ x.length ≤ 100000 ∧ k.length ≤ 100000) ∧ ∀ (l3 : List Nat), l3 = dg (val x / val k) → ∀ (l4 : List Nat), l4 = dg (val x % val k) → K Exit.normal [.bool true, .dig [4] p, .dig [4] (dg (val m + val l1)), .dig [4] l3, .dig [4] k, .num .i64 (i64.wrap (t + (1 : Int))), .num .u64 (u64.wrap (i + (2 : Int)))] else (p.length ≤ 1048576 ∧ l1.length ≤ 1048576) ∧ (dg (val x) = x ∧ dg (val k) = k ∧ k ≠ [] ∧ x.length ≤ 100000 ∧ k.length ≤ 100000) ∧ ∀ (l5 : List Nat), l5 = dg (val x / val k) → ∀ (l6 : List Nat), l6 = dg (val x % val k) → K Exit.normal [.bool true, .dig [4] (dg (val p + val l1)), .dig [4] m, .dig [4] l5, .dig [4] k, .num .i64 (i64.wrap (t + (1 : Int))), .num .u64 (u64.wrap (i + (2 : Int)))] else K (Exit.exit (0 : Nat)) [.bool true, .dig [4] p, .dig [4] m, .dig [4] x, .dig [4] k, .num .i64 t, .num .u64 i]) := by kernel_rfl
theorem vc_ref16_between (a : Int) (n : Int) (a' : Int) (n' : Int) (a2 : Int) (n2 : Int) (b : Int) (Q : AV → Prop) : (evF Tryz.prog (look tabW0) (lam [((4 : Nat), LoopAnn.unroll (4 : Nat))]) false Tryz.f68 [.vec [1] (2 : Nat) [.agg [.num .u64 a, .num .u64 n], .agg [.num .u64 a', .num .u64 n'], .agg [.num .u64 a2, .num .u64 n2]], .num .i64 b, .bool true] Q) = (((0 : Int) ≤ (0 : Int) ∧ (0 : Int) < (↑[AV.agg [AV.num u64 a, AV.num u64 n], AV.agg [AV.num u64 a', AV.num u64 n'], AV.agg [AV.num u64 a2, AV.num u64 n2]].length : Int)) ∧ (5 ≤ n ∧ n ≤ 255 ∧ 1 ≤ b ∧ b ≤ 20000) ∧ ∀ (l1 : List Nat), l1 = dg (arcV b.toNat n.toNat) → ∀ (n2_1 : Int), n2_1 = (↑(arcT b.toNat n.toNat) : Int) → ((0 : Int) ≤ (0 : Int) ∧ (0 : Int) < (↑[AV.agg [AV.num u64 a, AV.num u64 n], AV.agg [AV.num u64 a', AV.num u64 n'], AV.agg [AV.num u64 a2, AV.num u64 n2]].length : Int)) ∧ ((dg a.toNat).length ≤ 524288 ∧ l1.length ≤ 524288) ∧ ((0 : Nat) ≤ (1048576 : Nat) ∧ (dg (val (dg a.toNat) * val l1)).length ≤ 1048576) ∧ ((0 : Int) ≤ (0 : Int) ∧ (0 : Int) < (↑[AV.agg [AV.num u64 a, AV.num u64 n], AV.agg [AV.num u64 a', AV.num u64 n'], AV.agg [AV.num u64 a2, AV.num u64 n2]].length : Int)) ∧ ((0 : Int) ≤ i64.wrap ((0 : Int) + (1 : Int)) ∧ i64.wrap ((0 : Int) + (1 : Int)) < (↑[AV.agg [AV.num u64 a, AV.num u64 n], AV.agg [AV.num u64 a', AV.num u64 n'], AV.agg [AV.num u64 a2, AV.num u64 n2]].length : Int)) ∧ (5 ≤ n' ∧ n' ≤ (255 : Int) ∧ 1 ≤ b ∧ b ≤ 20000) ∧ ∀ (l3 : List Nat), l3 = dg (arcV b.toNat n'.toNat) → ∀ (n4 : Int), n4 = (↑(arcT b.toNat n'.toNat) : Int) → ((0 : Int) ≤ i64.wrap ((0 : Int) + (1 : Int)) ∧ i64.wrap ((0 : Int) + (1 : Int)) < (↑[AV.agg [AV.num u64 a, AV.num u64 n], AV.agg [AV.num u64 a', AV.num u64 n'], AV.agg [AV.num u64 a2, AV.num u64 n2]].length : Int)) ∧ ((dg a'.toNat).length ≤ 524288 ∧ l3.length ≤ 524288) ∧ ((dg ((0 : Nat) + val (dg (val (dg a.toNat) * val l1)))).length ≤ 1048576 ∧ (dg (val (dg a'.toNat) * val l3)).length ≤ 1048576) ∧ ((0 : Int) ≤ i64.wrap ((0 : Int) + (1 : Int)) ∧ i64.wrap ((0 : Int) + (1 : Int)) < (↑[AV.agg [AV.num u64 a, AV.num u64 n], AV.agg [AV.num u64 a', AV.num u64 n'], AV.agg [AV.num u64 a2, AV.num u64 n2]].length : Int)) ∧ ((0 : Int) ≤ i64.wrap (i64.wrap ((0 : Int) + (1 : Int)) + (1 : Int)) ∧ i64.wrap (i64.wrap ((0 : Int) + (1 : Int)) + (1 : Int)) < (↑[AV.agg [AV.num u64 a, AV.num u64 n], AV.agg [AV.num u64 a', AV.num u64 n'], AV.agg [AV.num u64 a2, AV.num u64 n2]].length : Int)) ∧ (5 ≤ n2 ∧ n2 ≤ 255 ∧ 1 ≤ b ∧ b ≤ 20000) ∧ ∀ (l5 : List Nat), l5 = dg (arcV b.toNat n2.toNat) → ∀ (n6 : Int), n6 = (↑(arcT b.toNat n2.toNat) : Int) → ((0 : Int) ≤ i64.wrap (i64.wrap ((0 : Int) + (1 : Int)) + (1 : Int)) ∧ i64.wrap (i64.wrap ((0 : Int) + (1 : Int)) + (1 : Int)) < (↑[AV.agg [AV.num u64 a, AV.num u64 n], AV.agg [AV.num u64 a', AV.num u64 n'], AV.agg [AV.num u64 a2, AV.num u64 n2]].length : Int)) ∧ ((dg a2.toNat).length ≤ 524288 ∧ l5.length ≤ 524288) ∧ ((dg (val (dg ((0 : Nat) + val (dg (val (dg a.toNat) * val l1)))) + val (dg (val (dg a'.toNat) * val l3)))).length ≤ 1048576 ∧ (dg (val (dg a2.toNat) * val l5)).length ≤ 1048576) ∧ ((0 : Int) ≤ i64.wrap (i64.wrap ((0 : Int) + (1 : Int)) + (1 : Int)) ∧ i64.wrap (i64.wrap ((0 : Int) + (1 : Int)) + (1 : Int)) < (↑[AV.agg [AV.num u64 a, AV.num u64 n], AV.agg [AV.num u64 a', AV.num u64 n'], AV.agg [AV.num u64 a2, AV.num u64 n2]].length : Int)) ∧ (val (dg (u64.wrap (u64.wrap (u64.wrap ((0 : Int) + u64.wrap (a * u64.wrap (i64.wrap (i64.wrap ((2 : Int) * n2_1) + (4 : Int))))) + u64.wrap (a' * u64.wrap (i64.wrap (i64.wrap ((2 : Int) * n4) + (4 : Int))))) + u64.wrap (a2 * u64.wrap (i64.wrap (i64.wrap ((2 : Int) * n6) + (4 : Int)))))).toNat) ≤ val (dg (val (dg (val (dg ((0 : Nat) + val (dg (val (dg a.toNat) * val l1)))) + val (dg (val (dg a'.toNat) * val l3)))) + val (dg (val (dg a2.toNat) * val l5)))) ∧ (dg (val (dg (val (dg ((0 : Nat) + val (dg (val (dg a.toNat) * val l1)))) + val (dg (val (dg a'.toNat) * val l3)))) + val (dg (val (dg a2.toNat) * val l5)))).length ≤ 1048576) ∧ (dg (val (dg (val (dg (val (dg (val (dg ((0 : Nat) + val (dg (val (dg a.toNat) * val l1)))) + val (dg (val (dg a'.toNat) * val l3)))) + val (dg (val (dg a2.toNat) * val l5)))) - val (dg (u64.wrap (u64.wrap (u64.wrap ((0 : Int) + u64.wrap (a * u64.wrap (i64.wrap (i64.wrap ((2 : Int) * n2_1) + (4 : Int))))) + u64.wrap (a' * u64.wrap (i64.wrap (i64.wrap ((2 : Int) * n4) + (4 : Int))))) + u64.wrap (a2 * u64.wrap (i64.wrap (i64.wrap ((2 : Int) * n6) + (4 : Int)))))).toNat)))) = dg (val (dg (val (dg (val (dg ((0 : Nat) + val (dg (val (dg a.toNat) * val l1)))) + val (dg (val (dg a'.toNat) * val l3)))) + val (dg (val (dg a2.toNat) * val l5)))) - val (dg (u64.wrap (u64.wrap (u64.wrap ((0 : Int) + u64.wrap (a * u64.wrap (i64.wrap (i64.wrap ((2 : Int) * n2_1) + (4 : Int))))) + u64.wrap (a' * u64.wrap (i64.wrap (i64.wrap ((2 : Int) * n4) + (4 : Int))))) + u64.wrap (a2 * u64.wrap (i64.wrap (i64.wrap ((2 : Int) * n6) + (4 : Int)))))).toNat)) ∧ (dg (val (dg (val (dg (val (dg ((0 : Nat) + val (dg (val (dg a.toNat) * val l1)))) + val (dg (val (dg a'.toNat) * val l3)))) + val (dg (val (dg a2.toNat) * val l5)))) - val (dg (u64.wrap (u64.wrap (u64.wrap ((0 : Int) + u64.wrap (a * u64.wrap (i64.wrap (i64.wrap ((2 : Int) * n2_1) + (4 : Int))))) + u64.wrap (a' * u64.wrap (i64.wrap (i64.wrap ((2 : Int) * n4) + (4 : Int))))) + u64.wrap (a2 * u64.wrap (i64.wrap (i64.wrap ((2 : Int) * n6) + (4 : Int)))))).toNat))).length ≤ 1048576 ∧ (-1099511627776 : Int) ≤ i64.wrap ((0 : Int) - b) ∧ i64.wrap ((0 : Int) - b) ≤ (1099511627776 : Int)) ∧ dyF (form false (val (dg (val (dg (val (dg (val (dg ((0 : Nat) + val (dg (val (dg a.toNat) * val l1)))) + val (dg (val (dg a'.toNat) * val l3)))) + val (dg (val (dg a2.toNat) * val l5)))) - val (dg (u64.wrap (u64.wrap (u64.wrap ((0 : Int) + u64.wrap (a * u64.wrap (i64.wrap (i64.wrap ((2 : Int) * n2_1) + (4 : Int))))) + u64.wrap (a' * u64.wrap (i64.wrap (i64.wrap ((2 : Int) * n4) + (4 : Int))))) + u64.wrap (a2 * u64.wrap (i64.wrap (i64.wrap ((2 : Int) * n6) + (4 : Int)))))).toNat)))) (i64.wrap ((0 : Int) - b))) fun b7 l8 n9 => ((dg (val (dg (val (dg ((0 : Nat) + val (dg (val (dg a.toNat) * val l1)))) + val (dg (val (dg a'.toNat) * val l3)))) + val (dg (val (dg a2.toNat) * val l5)))).length ≤ 1048576 ∧ (dg (u64.wrap (u64.wrap (u64.wrap ((0 : Int) + u64.wrap (a * u64.wrap (i64.wrap (i64.wrap ((2 : Int) * n2_1) + (4 : Int))))) + u64.wrap (a' * u64.wrap (i64.wrap (i64.wrap ((2 : Int) * n4) + (4 : Int))))) + u64.wrap (a2 * u64.wrap (i64.wrap (i64.wrap ((2 : Int) * n6) + (4 : Int)))))).toNat).length ≤ 1048576) ∧ (dg (val (dg (val (dg (val (dg (val (dg ((0 : Nat) + val (dg (val (dg a.toNat) * val l1)))) + val (dg (val (dg a'.toNat) * val l3)))) + val (dg (val (dg a2.toNat) * val l5)))) + val (dg (u64.wrap (u64.wrap (u64.wrap ((0 : Int) + u64.wrap (a * u64.wrap (i64.wrap (i64.wrap ((2 : Int) * n2_1) + (4 : Int))))) + u64.wrap (a' * u64.wrap (i64.wrap (i64.wrap ((2 : Int) * n4) + (4 : Int))))) + u64.wrap (a2 * u64.wrap (i64.wrap (i64.wrap ((2 : Int) * n6) + (4 : Int)))))).toNat)))) = dg (val (dg (val (dg (val (dg ((0 : Nat) + val (dg (val (dg a.toNat) * val l1)))) + val (dg (val (dg a'.toNat) * val l3)))) + val (dg (val (dg a2.toNat) * val l5)))) + val (dg (u64.wrap (u64.wrap (u64.wrap ((0 : Int) + u64.wrap (a * u64.wrap (i64.wrap (i64.wrap ((2 : Int) * n2_1) + (4 : Int))))) + u64.wrap (a' * u64.wrap (i64.wrap (i64.wrap ((2 : Int) * n4) + (4 : Int))))) + u64.wrap (a2 * u64.wrap (i64.wrap (i64.wrap ((2 : Int) * n6) + (4 : Int)))))).toNat)) ∧ (dg (val (dg (val (dg (val (dg ((0 : Nat) + val (dg (val (dg a.toNat) * val l1)))) + val (dg (val (dg a'.toNat) * val l3)))) + val (dg (val (dg a2.toNat) * val l5)))) + val (dg (u64.wrap (u64.wrap (u64.wrap ((0 : Int) + u64.wrap (a * u64.wrap (i64.wrap (i64.wrap ((2 : Int) * n2_1) + (4 : Int))))) + u64.wrap (a' * u64.wrap (i64.wrap (i64.wrap ((2 : Int) * n4) + (4 : Int))))) + u64.wrap (a2 * u64.wrap (i64.wrap (i64.wrap ((2 : Int) * n6) + (4 : Int)))))).toNat))).length ≤ 1048576 ∧ (-1099511627776 : Int) ≤ i64.wrap ((0 : Int) - b) ∧ i64.wrap ((0 : Int) - b) ≤ (1099511627776 : Int)) ∧ dyF (form false (val (dg (val (dg (val (dg (val (dg ((0 : Nat) + val (dg (val (dg a.toNat) * val l1)))) + val (dg (val (dg a'.toNat) * val l3)))) + val (dg (val (dg a2.toNat) * val l5)))) + val (dg (u64.wrap (u64.wrap (u64.wrap ((0 : Int) + u64.wrap (a * u64.wrap (i64.wrap (i64.wrap ((2 : Int) * n2_1) + (4 : Int))))) + u64.wrap (a' * u64.wrap (i64.wrap (i64.wrap ((2 : Int) * n4) + (4 : Int))))) + u64.wrap (a2 * u64.wrap (i64.wrap (i64.wrap ((2 : Int) * n6) + (4 : Int)))))).toNat)))) (i64.wrap ((0 : Int) - b))) fun b10 l11 n12 => Q (.tup [.agg [.bool b7, .dig [0] l8, .num .i64 n9], .agg [.bool b10, .dig [0] l11, .num .i64 n12]])) := by kernel_rfl
theorem vc_ref16_cut (a : Int) (n : Int) (a' : Int) (n' : Int) (a2 : Int) (n2 : Int) (b : Int) (Q : AV → Prop) : (evF Tryz.prog (look tabW1) (lam [((3 : Nat), LoopAnn.unroll (1 : Nat))]) false Tryz.f36 [.vec [1] (2 : Nat) [.agg [.num .u64 a, .num .u64 n], .agg [.num .u64 a', .num .u64 n'], .agg [.num .u64 a2, .num .u64 n2]], .num .i64 b, .bool true] Q) = ((a = (24 : Int) ∧ n = (8 : Int) ∧ a' = (8 : Int) ∧ n' = (57 : Int) ∧ a2 = (4 : Int) ∧ n2 = (239 : Int) ∧ (65 : Int) ≤ i64.wrap (b + (64 : Int)) ∧ i64.wrap (b + (64 : Int)) ≤ (10864 : Int)) ∧ dyF (form false (bookS (i64.wrap (b + (64 : Int))).toNat - bookK (i64.wrap (b + (64 : Int))).toNat) (-i64.wrap (b + (64 : Int)))) fun b1 l2 n3 => dyF (form false (bookS (i64.wrap (b + (64 : Int))).toNat + bookK (i64.wrap (b + (64 : Int))).toNat) (-i64.wrap (b + (64 : Int)))) fun b4 l5 n6 => (dg (val l2) = l2 ∧ l2.length ≤ 4096 ∧ tz (val l2) = (0 : Nat) ∧ -1099511627776 ≤ n3 ∧ n3 + (131072 : Int) ≤ (1099511627776 : Int) ∧ 1 ≤ b) ∧ dyF (cutR (Dyd.mk b1 l2 n3) b).1 fun b7 l8 n9 => ∀ (b10 : Bool), b10 = (cutR (Dyd.mk b1 l2 n3) b).snd → (dg (val l5) = l5 ∧ l5.length ≤ 4096 ∧ tz (val l5) = (0 : Nat) ∧ -1099511627776 ≤ n6 ∧ n6 + (131072 : Int) ≤ (1099511627776 : Int) ∧ 1 ≤ b) ∧ dyF (cutR (Dyd.mk b4 l5 n6) b).1 fun b11 l12 n13 => ∀ (b14 : Bool), b14 = (cutR (Dyd.mk b4 l5 n6) b).snd → bif sameD (Dyd.mk b7 l8 n9) (Dyd.mk b11 l12 n13) then Q (.agg [.bool b7, .dig [0] l8, .num .i64 n9]) else False) := by kernel_rfl
theorem vc_ref16_Pi (b : Int) (Q : AV → Prop) : (evF Tryz.prog (look tabW2) (lam []) false Tryz.f12 [.num .i64 b] Q) = (((24 : Int) = (24 : Int) ∧ (8 : Int) = (8 : Int) ∧ (8 : Int) = (8 : Int) ∧ (57 : Int) = (57 : Int) ∧ (4 : Int) = (4 : Int) ∧ (239 : Int) = (239 : Int) ∧ 1 ≤ b ∧ b ≤ 10800) ∧ dyF (piCut b.toNat) fun b1 l2 n3 => Q (.agg [.bool b1, .dig [0] l2, .num .i64 n3])) := by kernel_rfl
theorem vc_ref17_Rest (s : Bool) (m : List Nat) (e : Int) (Q : AV → Prop) : (evF Tryz.prog (look tabV1) (lam []) false Tryz.f22 [.agg [.bool s, .dig [1] m, .num .i64 e]] Q) = ((m = [] ∨ -1099511627776 ≤ e ∧ e ≤ 1099511627776 ∧ (-1099511627776 : Int) ≤ (-2 : Int) ∧ (-2 : Int) ≤ (1099511627776 : Int)) ∧ ∀ (b1 : Bool), b1 = s → ∀ (l2 : List Nat), l2 = m → ∀ (n3 : Int), (n3 = if m = [] then e else e + (-2 : Int)) → mayD (Dyd.mk b1 l2 n3) = true ∧ dyF (floorD (Dyd.mk b1 l2 n3)) fun b4 l5 n6 => (l5 = [] ∨ -1099511627776 ≤ n6 ∧ n6 ≤ 1099511627776 ∧ (-1099511627776 : Int) ≤ (2 : Int) ∧ (2 : Int) ≤ (1099511627776 : Int)) ∧ ∀ (b7 : Bool), b7 = b4 → ∀ (l8 : List Nat), l8 = l5 → ∀ (n9 : Int), (n9 = if l5 = [] then n6 else n6 + (2 : Int)) → (mayD (Dyd.mk s m e) = true ∧ mayD (Dyd.mk b7 l8 n9) = true ∧ (m = [] ∨ l8 = [] ∨ -300000 ≤ e - n9 ∧ e - n9 ≤ 300000)) ∧ dyF (addD (Dyd.mk s m e) (negD (Dyd.mk b7 l8 n9))) fun b10 l11 n12 => mayD (Dyd.mk b10 l11 n12) = true ∧ ∀ (n13 : Int), n13 = (int64D (Dyd.mk b10 l11 n12)).fst → ∀ (b14 : Bool), b14 = (int64D (Dyd.mk b10 l11 n12)).snd → Q (.num .i64 n13)) := by kernel_rfl
end Go.AI

namespace Go.AI
open Dy IntKind
open Go Go.RowKit Go.Proofs
set_option linter.unusedVariables false
set_option maxRecDepth 100000
set_option maxHeartbeats 0
theorem vc_ref2_Two (n : Int) (Q : AV → Prop) : (evF Tryz.prog (look tabR6) (lam []) false Tryz.f20 [.num .i64 n] Q) = (Q (.agg [.bool false, .dig [0] [1], .num .i64 n])) := by kernel_rfl
theorem vc_law17_refusal (s : Bool) (m : List Nat) (e : Int) (b : Int) (Q : AV → Prop) : (evF Tryz.prog (look tabR6) (lam []) false Tryz.f8 [.agg [.bool s, .dig [1] m, .num .i64 e], .num .i64 b] Q) = (bif !mayD (Dyd.mk s m e) then Q (.num .i64 2) else bif decide (b < 1) then Q (.num .i64 2) else bif decide (b > (6000 : Int)) then Q (.num .i64 3) else bif decide ((↑m.length : Int) > (40 : Int)) then Q (.num .i64 3) else (dg (val m) = m ∧ m.length ≤ 1048576 ∧ -1099511627776 ≤ e ∧ e ≤ 1099511627776) ∧ bif decide (topD (Dyd.mk s m e) > (1100 : Int)) then Q (.num .i64 20) else Q (.num .i64 0)) := by kernel_rfl
theorem vc_law17_known (Q : AV → Prop) : (evF Tryz.prog (look tabV0) (lam []) false Tryz.f5 [] Q) = (dyF (intD (1 : Int)) fun b1 l2 n3 => ((3 : Int) ≤ (1500 : Int) ∨ (6000 : Int) < (3 : Int)) ∧ ∀ (n4 : Int), n4 = redK (Dyd.mk b1 l2 n3) (3 : Int) → dyF (redR (Dyd.mk b1 l2 n3) (3 : Int)) fun b5 l6 n7 => ∀ (n8 : Int), n8 = refuse (Dyd.mk b1 l2 n3) (3 : Int) → bif decide (n4 = (1 : Int)) then dyF (unitOf (-1 : Int)) fun b9 l10 n11 => ∀ (b12 : Bool), (b12 = if l10 = [] then b9 else !b9) → ∀ (l13 : List Nat), l13 = l10 → ∀ (n14 : Int), n14 = n11 → bif sameD (Dyd.mk b5 l6 n7) (Dyd.mk b12 l13 n14) then Q (.bool (decide (n8 = (0 : Int)))) else Q (.bool false) else Q (.bool false)) := by kernel_rfl
end Go.AI

namespace Go.Dy
theorem refuse_ok {x : Dyd} {b : Int} : refuse x b = 0 ↔ mayD x = true ∧ 1 ≤ b ∧ b ≤ 6000 ∧ x.mag.length ≤ 40 ∧ topD x ≤ 1100 := by
 unfold refuse
 by_cases h1 : (mayD x && decide (1 ≤ b)) = true
 ·rw [if_pos h1]
  simp only [Bool.and_eq_true, decide_eq_true_eq] at h1
  by_cases h2 : 6000 < b ∨ 40 < x.mag.length
  ·rw [if_pos h2]
   constructor
   ·intro h; cases h
   ·intro h; omega
  ·rw [if_neg h2]
   by_cases h3 : 1100 < topD x
   ·rw [if_pos h3]
    constructor
    ·intro h; cases h
    ·intro h; omega
   ·rw [if_neg h3]
    exact ⟨fun _ => ⟨h1.1, h1.2, by omega, by omega, by omega⟩, fun _ => rfl⟩
 ·rw [if_neg h1]
  simp only [Bool.and_eq_true, decide_eq_true_eq] at h1
  constructor
  ·intro h; cases h
  ·intro h; exact absurd ⟨h.1, h.2.1⟩ h1
theorem pi_small : decide (4 * piN.toNat < 13 * 2 ^ prec) = true := by kernel_rfl
theorem quart_hi {V : Nat} (hV : prec + 1 ≤ V) : 8 * quart V < 13 * 2 ^ V := by
 have hr := of_decide_eq_true pi_small
 have key : ∀ q : Nat, 4 * piN.toNat < 13 * 2 ^ q → 4 * piN < (13 : Int) * 2 ^ q := fun q h => by
  have h2 := Int.ofNat_lt.2 h
  rw [Int.natCast_mul, piN_nat, Int.natCast_mul, pow_cast] at h2
  exact h2
 have h1 := key _ hr
 clear hr key
 unfold quart
 have e : (2 : Int) ^ V = 2 ^ prec * 2 * 2 ^ (V - (prec + 1)) := by
  rw [← Int.pow_succ, ← Int.pow_add]
  have he : prec + 1 + (V - (prec + 1)) = V := by omega
  rw [he]
 have hp : (0 : Int) < 2 ^ (V - (prec + 1)) := Int.pow_pos (by decide)
 rw [e]
 generalize (2 : Int) ^ (V - (prec + 1)) = w at *
 generalize (2 : Int) ^ prec = M at *
 rw [← Int.mul_assoc, ← Int.mul_assoc]
 exact Int.mul_lt_mul_of_pos_right (by omega) hp
def oneD : Dyd := ⟨false, [1], 0⟩
theorem one_at {x : Dyd} (hx : x = oneD) (V : Nat) : at_ x (-(V : Int)) = 2 ^ V := by
 unfold at_
 have h1 : x.int = 1 := by rw [hx]; rfl
 have h2 : (x.exp - -(V : Int)).toNat = V := by
  have : x.exp = 0 := by rw [hx]; rfl
  rw [this]
  omega
 rw [h1, h2, Int.one_mul]
theorem one_cut {R H : Int} {V : Nat} (hV : 4 ≤ V) (hH : (2 : Int) ^ V = 8 * H) (h1 : R < -(4 * H)) (h2 : -(5 * H) < R) (hH2 : (2 : Int) ^ (V - 3) = H) : cutV R 3 = -(4 * H) := by
 have H0 : 0 < H := by rw [← hH2]; exact Int.pow_pos (by decide)
 obtain ⟨h, hh⟩ : ∃ h : Nat, H = (h : Int) := ⟨H.toNat, by omega⟩
 subst hh
 have e1 : (2 : Nat) ^ (V - 3) = h := by
  have := pow_cast (V - 3)
  omega
 have e2 : (2 : Nat) ^ V = 8 * h := by
  have := pow_cast V
  omega
 have e3 : (2 : Nat) ^ (V - 1) = 4 * h := by
  rw [show V - 1 = V - 3 + 2 by omega, Nat.pow_add, e1]
  omega
 have b1 : V - 1 < bl R.natAbs := lt_bl.2 (by rw [e3]; omega)
 have b2 : bl R.natAbs ≤ V := bl_le.2 (by rw [e2]; omega)
 have b3 : bl R.natAbs = V := by omega
 unfold cutV cutN
 rw [b3, e1, decide_eq_true (show R < 0 by omega)]
 have hq : R.natAbs / h = 4 := by
  refine Nat.div_eq_of_lt_le ?_ ?_ <;> omega
 rw [hq]
 unfold sgn
 simp only [if_true]
 omega
theorem one_quart_V {x : Dyd} (hx : x = oneD) {V : Nat} (hV : 4 ≤ V) (hq : 3 * 2 ^ V < 2 * quart V) (hr : 8 * quart V < 13 * 2 ^ V) :
  nearZ (at_ x (-(V : Int))) (quart V) = 1 ∧ cutV (at_ x (-(V : Int)) - 1 * quart V) 3 = -1 * 2 ^ (V - 1) := by
 have D0 : (0 : Int) < 2 ^ V := Int.pow_pos (by decide)
 rw [one_at hx]
 generalize quart V = P at *
 refine ⟨nearZ_eq (by omega) (by omega) (by omega), ?_⟩
 have e3 : (2 : Int) ^ V = 8 * 2 ^ (V - 3) := by
  have h := Int.pow_add 2 3 (V - 3)
  rw [show 3 + (V - 3) = V by omega, show (2 : Int) ^ 3 = 8 from rfl] at h
  exact h
 have e4 : (2 : Int) ^ (V - 1) = 4 * 2 ^ (V - 3) := by
  have h := Int.pow_add 2 2 (V - 3)
  rw [show 2 + (V - 3) = V - 1 by omega, show (2 : Int) ^ 2 = 4 from rfl] at h
  exact h
 have hc := one_cut (R := 2 ^ V - P) hV e3 (by omega) (by omega) rfl
 rw [Int.one_mul, hc, e4]
 omega
theorem half_other : formZ (-1) (-1) = negD (unitOf (-1)) := by
 unfold formZ
 rw [form_odd (by decide)]
 rfl
theorem one_quart {x : Dyd} (hx : x = oneD) : ansK x = 1 ∧ ansD x (3 : Nat) = negD (unitOf (-1)) := by
 unfold ansD ansR ansK
 obtain ⟨V, hV⟩ : ∃ V : Nat, vu = V := ⟨_, rfl⟩
 have hV5 : V = 500000 := by rw [← hV]; exact vu_eq
 rw [hV]
 clear hV
 have hq := quart_lo (V := V) (by rw [hV5]; unfold prec; omega)
 have hr := quart_hi (V := V) (by rw [hV5]; unfold prec; omega)
 have h4 : 4 ≤ V := by omega
 clear hV5
 have h := one_quart_V hx h4 hq hr
 rw [h.1]
 refine ⟨rfl, ?_⟩
 rw [cutR_cutV _ _ (b := 3) (by decide), h.2, formZ_mul, show -(V : Int) + ((V - 1 : Nat) : Int) = -1 by omega]
 exact half_other
theorem redK_one {x : Dyd} (hx : x = oneD) : refuse x 3 = 0 ∧ redK x 3 = 1 ∧ redR x 3 = negD (unitOf (-1)) := by
 have h1 : topD x = 1 := by rw [hx]; kernel_rfl
 have h2 : signD x = 1 := by rw [hx]; kernel_rfl
 have h0 : refuse x 3 = 0 := by rw [hx]; kernel_rfl
 have hn : ¬ (topD x < 0 ∨ signD x = 0) := by omega
 have h := one_quart hx
 refine ⟨h0, ?_, ?_⟩
 ·unfold redK
  rw [if_pos h0, if_neg hn, h.1]
  rfl
 ·unfold redR
  rw [if_pos h0, if_neg hn]
  exact h.2
end Go.Dy

namespace Go.Dy
theorem int_one : intD 1 = oneD := by
 unfold intD formZ
 rw [form_odd (by decide)]
 rfl
end Go.Dy
namespace Go.AI
open Go Go.RowKit Go.Proofs
set_option linter.unusedVariables false
set_option maxRecDepth 100000
set_option maxHeartbeats 1000000
theorem ok_ref2_Two (args : List AV) (s : Spec) (h : rTwo args = some s) (hp : andO s.pre True) : Contract Tryz.prog Inv 20 args s.res := by
 unfold rTwo at h
 split at h
 ·cases h
  rename_i n
  refine contract0 false ok_tabR6 Tryz.func20 (by kernel_rfl) (by kernel_rfl) fun hok => ?_
  rw [vc_ref2_Two]
  rfl
 ·cases h
theorem ok_law17_refusal (args : List AV) (s : Spec) (h : lRefusal args = some s) (hp : andO s.pre True) : Contract Tryz.prog Inv 8 args s.res := by
 unfold lRefusal at h
 split at h
 ·cases h
  rename_i s m e b
  refine contract0 false ok_tabR6 Tryz.func8 (by kernel_rfl) (by kernel_rfl) fun hok => ?_
  rw [vc_law17_refusal]
  refine cond_i (fun h => ?_) (fun h => ?_)
  ·simp only [Bool.not_eq_true'] at h
   have hr : Dy.refuse ⟨s, m, e⟩ b = 2 := by unfold Dy.refuse; rw [h]; rfl
   rw [hr]
  simp only [Bool.not_eq_false'] at h
  refine cond_i (fun h1 => ?_) (fun h1 => ?_)
  ·have h1 := of_decide_eq_true h1
   have hr : Dy.refuse ⟨s, m, e⟩ b = 2 := by unfold Dy.refuse; rw [h, decide_eq_false (by omega)]; rfl
   rw [hr]
  have h1 := of_decide_eq_false h1
  have hm : (Dy.mayD ⟨s, m, e⟩ && decide (1 ≤ b)) = true := by rw [h, decide_eq_true (by omega)]; rfl
  refine cond_i (fun h2 => ?_) (fun h2 => ?_)
  ·have h2 := of_decide_eq_true h2
   have hr : Dy.refuse ⟨s, m, e⟩ b = 3 := by unfold Dy.refuse; rw [if_pos hm, if_pos (.inl h2)]
   rw [hr]
  have h2 := of_decide_eq_false h2
  refine cond_i (fun h3 => ?_) (fun h3 => ?_)
  ·have h3 := of_decide_eq_true h3
   have hr : Dy.refuse ⟨s, m, e⟩ b = 3 := by unfold Dy.refuse; rw [if_pos hm, if_pos (.inr (by simp only; omega))]
   rw [hr]
  have h3 := of_decide_eq_false h3
  have hn : ¬ (6000 < b ∨ 40 < (⟨s, m, e⟩ : Dy.Dyd).mag.length) := by
   rintro (c | c)
   ·omega
   ·simp only at c
    omega
  have hx := Dy.mayD_exp h
  refine ⟨⟨Dy.may_dg (Dy.mayD_may h), by omega, by omega, by omega⟩, ?_⟩
  refine cond_i (fun h4 => ?_) (fun h4 => ?_)
  ·have h4 := of_decide_eq_true h4
   have hr : Dy.refuse ⟨s, m, e⟩ b = 20 := by unfold Dy.refuse; rw [if_pos hm, if_neg hn, if_pos (by omega)]
   rw [hr]
  ·have h4 := of_decide_eq_false h4
   have hr : Dy.refuse ⟨s, m, e⟩ b = 0 := by unfold Dy.refuse; rw [if_pos hm, if_neg hn, if_neg (by omega)]
   rw [hr]
 ·cases h
theorem ok_tabV0 : PhiOk Tryz.prog Inv (look tabV0) := look_cons (look_cons ok_tabR6 ok_law17_refusal) ok_ref2_Two
theorem ok_law17_known (args : List AV) (s : Spec) (h : lKnown17 args = some s) (hp : andO s.pre True) : Contract Tryz.prog Inv 5 args s.res := by
 unfold lKnown17 at h
 split at h
 ·cases h
  refine contract0 false ok_tabV0 Tryz.func5 (by kernel_rfl) (by kernel_rfl) fun hok => ?_
  rw [vc_law17_known]
  refine dpeel fun b1 l2 n3 d1 => ⟨by decide, ?_⟩
  rw [Dy.int_one] at d1
  obtain ⟨h0, hk, hr⟩ := Dy.redK_one d1
  intro n4 e4
  rw [hk] at e4
  refine dpeel fun b5 l6 n7 d5 => ?_
  rw [hr] at d5
  intro n8 e8
  rw [h0] at e8
  subst e4 e8
  refine cond_t rfl ?_
  rintro _ rfl _ rfl _ rfl _ rfl _ rfl _ rfl
  refine cond_t ?_ rfl
  rw [d5]
  rfl
 ·cases h
theorem ok_tabV1 : PhiOk Tryz.prog Inv (look tabV1) := look_cons ok_tabV0 ok_law17_known
end Go.AI

namespace Go.AI
open Go Go.RowKit Go.Proofs
set_option linter.unusedVariables false
set_option maxRecDepth 100000
set_option maxHeartbeats 1000000
theorem len_of_bl {n : Nat} (h : Dy.bl n ≤ 131072) : (Dy.dg n).length ≤ 4096 := Dy.len_bl.2 h
theorem loop_ref16_series : LoopOk Tryz.prog (look tabV1) lamSer 3 66 keepSer (bodyN Tryz.f91 0) lsSer := by
 intro vals r h K hK
 unfold lsSer at h
 split at h
 ·cases h
  rename_i p m x k t i
  simp only [evLR] at hK
  obtain ⟨⟨dx, dp, dm, dk, k1, k2, i1, t1, t2, i2, i3, b1, b2⟩, hK⟩ := hK
  have key : ∀ (n : Nat) (x p m : List Nat) (t i : Int), Dy.bl (Dy.val x) = n → Dy.dg (Dy.val x) = x → Dy.dg (Dy.val p) = p → Dy.dg (Dy.val m) = m → i % 2 = 1 → 0 ≤ t → t + Dy.bl (Dy.val x) ≤ 1099511627776 → 1 ≤ i → i + 2 * Dy.bl (Dy.val x) ≤ 1099511627776 →
    Dy.bl (Dy.val p + 2 * Dy.val x) ≤ 131072 → Dy.bl (Dy.val m + 2 * Dy.val x) ≤ 131072 →
    K (Exit.exit 0) [.bool true, .dig [4] (Dy.dg (Dy.arcF (Dy.val k) (Dy.bl (Dy.val x)) (Dy.val x) (Dy.val p) (Dy.val m) t.toNat i.toNat).plus),
     .dig [4] (Dy.dg (Dy.arcF (Dy.val k) (Dy.bl (Dy.val x)) (Dy.val x) (Dy.val p) (Dy.val m) t.toNat i.toNat).minus), .dig [4] [], .dig [4] k,
     .num .i64 ((Dy.arcF (Dy.val k) (Dy.bl (Dy.val x)) (Dy.val x) (Dy.val p) (Dy.val m) t.toNat i.toNat).terms : Nat),
     .num .u64 ((Dy.arcF (Dy.val k) (Dy.bl (Dy.val x)) (Dy.val x) (Dy.val p) (Dy.val m) t.toNat i.toNat).next : Nat)] →
    ∃ n, iterN Tryz.prog (look tabV1) lamSer 3 66 keepSer (bodyN Tryz.f91 0) n [.bool true, .dig [4] p, .dig [4] m, .dig [4] x, .dig [4] k, .num .i64 t, .num .u64 i] K := by
   intro n
   induction n using Nat.strongRecOn with
   | _ n ih =>
   intro x p m t i hn dx dp dm i1 t1 t2 i2 i3 b1 b2 hK
   by_cases c : Dy.val x = 0
   ·have hx : x = [] := by rw [← dx, c, Dy.dg_zero]
    subst hx
    refine iterN_last ?_
    rw [vc_ref16_series_1]
    refine cond_f rfl ?_
    have e : Dy.arcF (Dy.val k) (Dy.bl (Dy.val [])) (Dy.val []) (Dy.val p) (Dy.val m) t.toNat i.toNat = ⟨Dy.val p, Dy.val m, t.toNat, i.toNat⟩ := by
     rw [c, Dy.bl_zero]; rfl
    rw [e] at hK
    simp only [dp, dm] at hK
    rw [show ((t.toNat : Nat) : Int) = t by omega, show ((i.toNat : Nat) : Int) = i by omega] at hK
    exact hK
   ·have hxl : x ≠ [] := fun e => c (by rw [e]; rfl)
    have hlen := List.length_pos_iff.2 hxl
    rw [Dy.arcF_step k1 c] at hK
    have hlt := Dy.bl_div_lt k1 c
    have bx : Dy.bl (Dy.val x) ≤ 131072 := Nat.le_trans (Dy.bl_mono (by omega)) b1
    have hi0 : 0 < i.toNat := by omega
    have hti : Dy.val x / i.toNat ≤ Dy.val x := Nat.div_le_self _ _
    have htk : 2 * (Dy.val x / Dy.val k) ≤ Dy.val x := by
     have : Dy.val x / Dy.val k ≤ Dy.val x / 2 := Nat.div_le_div_left k1 (by decide)
     omega
    have bi : Dy.bl i.toNat ≤ 131072 := by
     have := Dy.bl_mono (show i.toNat ≤ 2 ^ 40 - 1 by omega)
     rw [show Dy.bl (2 ^ 40 - 1) = 40 from Dy.bl_eq (by decide) (by decide)] at this
     omega
    have lx : x.length ≤ 4096 := by rw [← dx]; exact len_of_bl bx
    have li : (Dy.dg i.toNat).length ≤ 4096 := len_of_bl bi
    have lp : p.length ≤ 4096 := by rw [← dp]; exact len_of_bl (Nat.le_trans (Dy.bl_mono (Nat.le_add_right _ _)) b1)
    have lm : m.length ≤ 4096 := by rw [← dm]; exact len_of_bl (Nat.le_trans (Dy.bl_mono (Nat.le_add_right _ _)) b2)
    have lt : (Dy.dg (Dy.val x / i.toNat)).length ≤ 4096 := len_of_bl (Nat.le_trans (Dy.bl_mono hti) bx)
    have hin : Dy.dg i.toNat ≠ [] := fun e => by have := Dy.dg_eq_nil.1 e; omega
    have hkn : k ≠ [] := fun e => by
     have : Dy.val k = 0 := by rw [e]; rfl
     omega
    have wt : IntKind.i64.wrap (t + 1) = t + 1 := wrap_i64 (by omega) (by omega)
    have wi : IntKind.u64.wrap (i + 2) = i + 2 := by rw [wrap_u64]; omega
    have e1 : (t + 1).toNat = t.toNat + 1 := by omega
    have e2 : (i + 2).toNat = i.toNat + 2 := by omega
    have vi : Dy.val (Dy.dg i.toNat) = i.toNat := Dy.val_dg _
    have vq : Dy.val (Dy.dg (Dy.val x / Dy.val k)) = Dy.val x / Dy.val k := Dy.val_dg _
    have vt : Dy.val (Dy.dg (Dy.val x / i.toNat)) = Dy.val x / i.toNat := Dy.val_dg _
    have h4 : i.tmod 4 = i % 4 := Int.tmod_eq_emod_of_nonneg (by omega)
    by_cases c4 : i.toNat % 4 = 3
    ·rw [if_pos c4] at hK
     have vm : Dy.val (Dy.dg (Dy.val m + Dy.val x / i.toNat)) = Dy.val m + Dy.val x / i.toNat := Dy.val_dg _
     obtain ⟨j, hj⟩ := ih _ (by rw [vq]; omega) (Dy.dg (Dy.val x / Dy.val k)) p (Dy.dg (Dy.val m + Dy.val x / i.toNat)) (t + 1) (i + 2) rfl (by rw [vq]) dp (by rw [vm]) (by omega) (by omega) (by rw [vq]; omega) (by omega) (by rw [vq]; omega)
      (by rw [vq]; exact Nat.le_trans (Dy.bl_mono (by omega)) b1) (by rw [vq, vm]; exact Nat.le_trans (Dy.bl_mono (by omega)) b2) (by rw [vq, vm, e1, e2]; exact hK)
     refine iterN_next j ?_
     rw [vc_ref16_series_1, wt, wi, vi]
     refine cond_t (decide_eq_true (by omega)) ⟨⟨dx, rfl, hin, by omega, by omega⟩, ?_⟩
     rintro _ rfl _ -
     rw [vt]
     refine cond_t (decide_eq_true (by omega)) ⟨⟨by omega, by omega⟩, ⟨dx, dk, hkn, by omega, by omega⟩, ?_⟩
     rintro _ rfl _ -
     exact hj
    ·rw [if_neg c4] at hK
     have vm : Dy.val (Dy.dg (Dy.val p + Dy.val x / i.toNat)) = Dy.val p + Dy.val x / i.toNat := Dy.val_dg _
     obtain ⟨j, hj⟩ := ih _ (by rw [vq]; omega) (Dy.dg (Dy.val x / Dy.val k)) (Dy.dg (Dy.val p + Dy.val x / i.toNat)) m (t + 1) (i + 2) rfl (by rw [vq]) (by rw [vm]) dm (by omega) (by omega) (by rw [vq]; omega) (by omega) (by rw [vq]; omega)
      (by rw [vq, vm]; exact Nat.le_trans (Dy.bl_mono (by omega)) b1) (by rw [vq]; exact Nat.le_trans (Dy.bl_mono (by omega)) b2) (by rw [vq, vm, e1, e2]; exact hK)
     refine iterN_next j ?_
     rw [vc_ref16_series_1, wt, wi, vi]
     refine cond_t (decide_eq_true (by omega)) ⟨⟨dx, rfl, hin, by omega, by omega⟩, ?_⟩
     rintro _ rfl _ -
     rw [vt]
     refine cond_f (decide_eq_false (by omega)) ⟨⟨by omega, by omega⟩, ⟨dx, dk, hkn, by omega, by omega⟩, ?_⟩
     rintro _ rfl _ -
     exact hj
  exact key _ x p m t i rfl dx dp dm i1 t1 t2 i2 i3 b1 b2 hK
 ·cases h
theorem ok_ref16_series (args : List AV) (s : Spec) (h : rSeries args = some s) (hp : andO s.pre True) : Contract Tryz.prog Inv 91 args s.res := by
 unfold rSeries at h
 split at h
 ·cases h
  rename_i n b
  obtain ⟨⟨n1, n2, b1, b2⟩, -⟩ := hp
  refine contract_at false 66 lamSer ok_tabV1 Tryz.func91 (by kernel_rfl) rfl (loops1 (by kernel_rfl) (by kernel_rfl) loop_ref16_series) fun hok => ?_
  have hs := Dy.arcA_spec (b := b.toNat) (n := n.toNat) (by omega)
  have a1 := hs.1
  have a5 := hs.2.2.2.2.1
  have a6 := hs.2.2.2.2.2
  clear hs
  have bb : Dy.bl (2 ^ b.toNat) = b.toNat + 1 := by
   have := Dy.bl_mul_two_pow (n := 1) (by decide) b.toNat
   rw [Nat.one_mul, show Dy.bl 1 = 1 from rfl] at this
   omega
  have b3 : ∀ k : Nat, k ≤ 2 * 2 ^ b.toNat → Dy.bl k ≤ 20002 := fun k hk => by
   have h1 := Dy.bl_mono hk
   have h2 := Dy.bl_mul_two_pow (n := 1) (by decide) (b.toNat + 1)
   rw [Nat.one_mul, show Dy.bl 1 = 1 from rfl, Nat.pow_succ, Nat.mul_comm] at h2
   omega
  have hnn : (IntKind.u64.wrap (n * n)).toNat = n.toNat * n.toNat := by
   have h0 : 0 ≤ n * n := Int.mul_nonneg (by omega) (by omega)
   have h1 : n * n ≤ 255 * 255 := Int.mul_le_mul n2 n2 (by omega) (by omega)
   rw [wrap_u64, Int.emod_eq_of_lt h0 (by omega), Int.toNat_mul (by omega) (by omega)]
  have hnk : 2 ≤ n.toNat * n.toNat := Nat.le_trans (by omega : 2 ≤ n.toNat) (Nat.le_mul_of_pos_right _ (by omega))
  have hnl : n.toNat * n.toNat ≤ 65025 := Nat.mul_le_mul (show n.toNat ≤ 255 by omega) (show n.toNat ≤ 255 by omega)
  have sm : ∀ k : Nat, k ≤ 65025 → (Dy.dg k).length ≤ 4096 := fun k hk => len_of_bl (by
   have := Dy.bl_mono hk
   rw [show Dy.bl 65025 = 16 from Dy.bl_eq (by decide) (by decide)] at this
   omega)
  have hnz : Dy.dg n.toNat ≠ [] := fun e => by have := Dy.dg_eq_nil.1 e; omega
  have hq : 2 ^ b.toNat / n.toNat ≤ 2 ^ b.toNat := Nat.div_le_self _ _
  have bq : Dy.bl (2 ^ b.toNat / n.toNat) ≤ 20002 := b3 _ (by omega)
  have bq2 : Dy.bl (2 * (2 ^ b.toNat / n.toNat)) ≤ 20002 := b3 _ (by omega)
  rw [vc_ref16_series]
  simp only [Dy.val_dg, hnn, Nat.one_mul, Nat.zero_add]
  refine ⟨⟨by omega, by omega, by decide⟩, ⟨trivial, trivial, hnz, Nat.le_trans (len_of_bl (by omega)) (by decide), Nat.le_trans (sm _ (by omega)) (by decide)⟩, ?_⟩
  rintro _ rfl _ -
  simp only [Dy.val_dg]
  refine ⟨⟨trivial, Dy.dg_zero, Dy.dg_zero, trivial, hnk, ?_, by decide, by decide, by omega, by decide, by omega, by omega, by omega⟩, ⟨a1, ?_⟩, rfl⟩
  ·have := sm _ hnl
   have h2 : Dy.bl (n.toNat * n.toNat) ≤ 32 * 1 := by
    have := Dy.bl_mono hnl
    rw [show Dy.bl 65025 = 16 from Dy.bl_eq (by decide) (by decide)] at this
    omega
   have := (Dy.length_dg_bl (k := 1)).2 h2
   omega
  ·have h3 := b3 _ a5
   exact Nat.le_trans (len_of_bl (Nat.le_trans h3 (by decide))) (by decide)
 ·cases h
end Go.AI

namespace Go.Dy
theorem arcT_le (b n : Nat) (hn : 5 ≤ n) : arcT b n ≤ (b + 2) / 4 := (arcA_spec hn).2.2.2.1
theorem piQ_bl {b : Nat} (h1 : 1 ≤ b) (h2 : b ≤ 12000) : bl (piQ b) = b := by
 have hr := pi_range
 simp only [Bool.and_eq_true, decide_eq_true_eq] at hr
 unfold piQ
 generalize piN.toNat = p at *
 rw [bl_div_two_pow]
 obtain ⟨q, hq⟩ : ∃ q : Nat, q = prec := ⟨_, rfl⟩
 have hq2 : b ≤ q := by rw [hq]; unfold prec; omega
 rw [← hq] at hr ⊢
 clear hq
 have : bl p = q + 1 + 1 := bl_eq (by rw [Nat.pow_succ]; omega) (by rw [Nat.pow_succ, Nat.pow_succ]; omega)
 omega
theorem book_facts {b B : Nat} (h1 : 1 ≤ b) (h2 : b ≤ 10800) (hB : B = b + 64) : bookK B ≤ bookS B ∧ (bookS B - bookK B) / 73786976294838206464 = piQ b ∧ (bookS B + bookK B) / 73786976294838206464 = piQ b := by
 have a8 := arcA_spec (b := B) (n := 8) (by decide)
 have a57 := arcA_spec (b := B) (n := 57) (by decide)
 have a239 := arcA_spec (b := B) (n := 239) (by decide)
 have t8 := a8.2.2.2.1
 have t57 := a57.2.2.2.1
 have t239 := a239.2.2.2.1
 obtain ⟨c, hc⟩ : ∃ c : Nat, c = prec - B := ⟨_, rfl⟩
 have hbc : B + c = prec := by rw [hc]; unfold prec; omega
 have hb := pi_book hbc a8.2.2.1 a57.2.2.1 a239.2.2.1
 rw [← a8.2.1, ← a57.2.1, ← a239.2.1] at hb
 clear a8 a57 a239
 have hrun := runOk_spec _ _ pi_runs (10960 - B) (by omega)
 rw [Nat.div_div_eq_div_mul, ← Nat.pow_add] at hrun
 have e1 : prec - 10960 + (10960 - B) = c := by rw [hc]; unfold prec; omega
 rw [e1] at hrun
 have e2 : prec + 2 - b = c + 66 := by rw [hc]; unfold prec; omega
 have hc17 : 17 ≤ c := by rw [hc]; unfold prec; omega
 have hw : 2 ^ 17 ≤ 2 ^ c := Nat.pow_le_pow_right (by decide) hc17
 unfold bookS bookK piQ
 rw [e2, Nat.pow_add, ← Nat.div_div_eq_div_mul]
 have hp := piN_nat
 clear e1 e2 hc hbc hc17
 generalize piN.toNat = p at *
 rw [← hp] at hb
 clear hp
 rw [show (2 : Nat) ^ 66 = 73786976294838206464 from rfl, show (2 : Nat) ^ 19 = 524288 from rfl] at hrun
 rw [show (2 : Nat) ^ 66 = 73786976294838206464 from rfl]
 generalize 2 ^ c = w at *
 generalize arcT B 8 = T8 at *
 generalize arcT B 57 = T57 at *
 generalize arcT B 239 = T239 at *
 obtain ⟨S, hS⟩ : ∃ S : Nat, S = 24 * arcV B 8 + 8 * arcV B 57 + 4 * arcV B 239 := ⟨_, rfl⟩
 rw [← hS]
 have hS2 : (24 * (arcV B 8 : Int) + 8 * (arcV B 57 : Int) + 4 * (arcV B 239 : Int)) = (S : Int) := by omega
 rw [hS2] at hb
 clear hS hS2
 obtain ⟨k, hk⟩ : ∃ k : Nat, k = 24 * (T8 + 2) + 8 * (T57 + 2) + 4 * (T239 + 2) := ⟨_, rfl⟩
 rw [← hk] at hb
 have hK : 24 * (2 * T8 + 4) + 8 * (2 * T57 + 4) + 4 * (2 * T239 + 4) = 2 * k := by omega
 rw [hK]
 have hk1 : k ≤ 100000 := by omega
 have hk2 : 72 ≤ k := by omega
 clear hK hk t8 t57 t239
 obtain ⟨y, hy⟩ : ∃ y : Nat, y = p / w := ⟨_, rfl⟩
 rw [← hy] at hrun ⊢
 have w0 : 0 < w := by omega
 have y1 : w * y ≤ p := by rw [hy]; exact Nat.mul_div_le p w
 have y2 : p < w * (y + 1) := by rw [hy]; exact Nat.lt_mul_div_succ p w0
 obtain ⟨b1, b2⟩ := hb
 have c1 : w * S < w * (y + 1 + (k + 1)) := by
  rw [Nat.mul_add w (y + 1), Nat.mul_add w k]
  have e : ((w : Nat) : Int) * S = ((w * S : Nat) : Int) := by simp
  rw [e] at b1
  omega
 have c2 : w * y ≤ w * (S + (k + 1)) := by
  rw [Nat.mul_add w S, Nat.mul_add w k]
  have e : ((w : Nat) : Int) * S = ((w * S : Nat) : Int) := by simp
  rw [e] at b2
  omega
 have c1 := Nat.lt_of_mul_lt_mul_left c1
 have c2 := Nat.le_of_mul_le_mul_left c2 w0
 omega
theorem piCut_eq {X b : Nat} {B : Int} (hb : 1 ≤ b) (hB : B = b + 64) (hX : X / 73786976294838206464 = piQ b) (hl : bl (piQ b) = b) : (cutR (form false X (-B)) b).1 = piCut b := by
 have h := bl_div_two_pow X 66
 rw [show (2 : Nat) ^ 66 = 73786976294838206464 from rfl, hX, hl] at h
 have hx : bl X = b + 66 := by omega
 rw [form_sgn, cutR_formZ _ _ _ (by omega)]
 have e : sgn false X = (X : Int) := rfl
 rw [e]
 simp only [Int.natAbs_natCast]
 rw [hx, show (((b + 66 : Nat) : Int) - (b : Int)).toNat = 66 by omega, show (2 : Nat) ^ 66 = 73786976294838206464 from rfl, hX, decide_eq_false (by omega)]
 unfold piCut
 rw [show -B + ((66 : Nat) : Int) = 2 - (b : Int) by omega]
def shE (d : Dyd) (k : Int) : Dyd := ⟨d.neg, d.mag, if d.mag = [] then d.exp else d.exp + k⟩
theorem at_shE (d : Dyd) (k u : Int) : at_ (shE d k) (u + k) = at_ d u := by
 unfold at_ shE
 obtain ⟨s, m, e⟩ := d
 simp only [int_mk]
 by_cases c : m = []
 ·subst c
  have : sgn s (val []) = 0 := by cases s <;> rfl
  rw [this, Int.zero_mul, Int.zero_mul]
 ·rw [if_neg c, show e + k - (u + k) = e - u by omega]
theorem fit_shE {d : Dyd} {L E : Nat} (h : Fit d L E) {k : Int} {j : Nat} (hk : -(j : Int) ≤ k ∧ k ≤ j) (hE : E + j ≤ 16777216) : Fit (shE d k) L (E + j) := by
 obtain ⟨s, m, e⟩ := d
 obtain ⟨h1, h2, h3, h4⟩ := h
 simp only at h2 h3 h4
 unfold shE
 by_cases c : m = []
 ·subst c
  exact ⟨h1, h2, by simp only [if_true]; omega, by simp only [if_true]; omega⟩
 ·simp only [if_neg c]
  refine ⟨?_, h2, by simp only; omega, by simp only; omega⟩
  unfold mayD at h1 ⊢
  simp only [if_neg c, Bool.and_eq_true] at h1 ⊢
  exact ⟨h1.1, h1.2.1, inside_iff.2 ⟨by omega, by omega⟩⟩
theorem shE_exp {d : Dyd} {k : Int} (h : 0 ≤ d.exp) (hk : 0 ≤ k) : 0 ≤ (shE d k).exp := by
 unfold shE
 simp only
 split <;> omega
theorem rest_facts {d : Dyd} (h : Fit d 32000 100000) (he : 0 ≤ d.exp) : Fit (shE d (-2)) 32000 100002 ∧ Fit (shE (floorD (shE d (-2))) 2) 32000 132004 ∧ addD d (negD (shE (floorD (shE d (-2))) 2)) = formZ (at_ d 0 % 4) 0 := by
 have f1 : Fit (shE d (-2)) 32000 100002 := fit_shE (j := 2) h (by omega) (by decide)
 have f2 := floor_fit f1 (by decide) (by decide)
 have f3 : Fit (shE (floorD (shE d (-2))) 2) 32000 (132002 + 2) := fit_shE (j := 2) f2.1 (by omega) (by decide)
 refine ⟨f1, f3, ?_⟩
 have hv : -((2 : Nat) : Int) ≤ (shE d (-2)).exp := by
  unfold shE
  simp only
  split <;> omega
 have h3 := floor_val f1.may hv
 have e1 := at_shE d (-2) 0
 rw [show (0 : Int) + -2 = -((2 : Nat) : Int) by omega] at e1
 rw [e1] at h3
 have e2 := at_shE (floorD (shE d (-2))) 2 (-2)
 rw [show (-2 : Int) + 2 = 0 by omega] at e2
 have e3 := at_scale (floorD (shE d (-2))) (u := 0) (v := -2) (by omega) f2.2
 rw [show ((0 : Int) - -2).toNat = 2 by omega] at e3
 rw [addD_at he (show (0 : Int) ≤ (negD (shE (floorD (shE d (-2))) 2)).exp from shE_exp f2.2 (by decide)), at_negD, e2, e3]
 have hp : (2 : Int) ^ 2 = 4 := rfl
 rw [hp] at h3 ⊢
 congr 1
 omega
theorem rest_int {r : Int} (h1 : 0 ≤ r) (h2 : r < 4) : mayD (formZ r 0) = true ∧ (int64D (formZ r 0)).1 = r := by
 rcases (by omega : r = 0 ∨ r = 1 ∨ r = 2 ∨ r = 3) with c | c | c | c <;> subst c <;> exact ⟨by kernel_rfl, by kernel_rfl⟩
end Go.Dy
namespace Go.AI
open Go Go.RowKit Go.Proofs
set_option linter.unusedVariables false
set_option maxRecDepth 100000
set_option maxHeartbeats 1000000
theorem ok_ref17_Rest (args : List AV) (s : Spec) (h : rRest args = some s) (hp : andO s.pre True) : Contract Tryz.prog Inv 22 args s.res := by
 unfold rRest at h
 split at h
 ·cases h
  rename_i s m e
  obtain ⟨⟨hd, e1, e2, hm⟩, -⟩ := hp
  refine contract0 false ok_tabV1 Tryz.func22 (by kernel_rfl) (by kernel_rfl) fun hok => ?_
  have hf : Dy.Fit ⟨s, m, e⟩ 32000 100000 := ⟨hd, by
   have := (Dy.length_dg_bl (n := Dy.val m) (k := 1000)).1 (by rw [Dy.may_dg (Dy.mayD_may hd)]; exact hm)
   exact this, by simp only; omega, by simp only; omega⟩
  obtain ⟨f1, f2, hr⟩ := Dy.rest_facts hf e1
  have g1 := f2.lo
  have g2 := f2.hi
  rw [vc_ref17_Rest]
  refine ⟨.inr ⟨by omega, by omega, by decide, by decide⟩, ?_⟩
  intro b1 h1 l2 h2 n3 h3
  rw [h1, h2, h3]
  refine ⟨f1.may, dpeel fun b4 l5 n6 d4 => ?_⟩
  have d4 : Dy.Dyd.mk b4 l5 n6 = Dy.floorD (Dy.shE ⟨s, m, e⟩ (-2)) := d4
  rw [← d4] at f2 hr g1 g2
  have hn : l5 = [] ∨ (-1000000 ≤ n6 ∧ n6 ≤ 1000000) := by
   by_cases c : l5 = []
   ·exact .inl c
   ·unfold Dy.shE at g1 g2
    simp only [if_neg c] at g1 g2
    exact .inr ⟨by omega, by omega⟩
  refine ⟨by rcases hn with c | c; exact .inl c; exact .inr ⟨by omega, by omega, by decide, by decide⟩, ?_⟩
  intro b7 h7 l8 h8 n9 h9
  rw [h7, h8, h9]
  have hr : Dy.addD ⟨s, m, e⟩ (Dy.negD ⟨b4, l5, if l5 = [] then n6 else n6 + 2⟩) = Dy.formZ (Dy.at_ ⟨s, m, e⟩ 0 % 4) 0 := hr
  have g1 : -((132004 : Nat) : Int) ≤ (if l5 = [] then n6 else n6 + 2) := g1
  have g2 : (if l5 = [] then n6 else n6 + 2) ≤ ((132004 : Nat) : Int) := g2
  refine ⟨⟨hd, f2.may, .inr (.inr ⟨by omega, by omega⟩)⟩, ?_⟩
  rw [hr]
  have hri := Dy.rest_int (r := Dy.at_ ⟨s, m, e⟩ 0 % 4) (by omega) (by omega)
  refine dpeel fun b10 l11 n12 d10 => ?_
  rw [d10]
  refine ⟨hri.1, ?_⟩
  rintro _ rfl _ -
  rw [hri.2]
 ·cases h
theorem ok_tabW0 : PhiOk Tryz.prog Inv (look tabW0) := look_cons (look_cons ok_tabV1 ok_ref17_Rest) ok_ref16_series
theorem slk_wrap {a : Int} {T : Nat} (ha : a = 24 ∨ a = 8 ∨ a = 4) (h : T ≤ 100000) : IntKind.u64.wrap (a * IntKind.u64.wrap (IntKind.i64.wrap (IntKind.i64.wrap (2 * (T : Int)) + 4))) = a * (2 * T + 4) := by
 rw [wrap_i64 (n := 2 * (T : Int)) (by omega) (by omega), wrap_i64 (by omega) (by omega), wrap_u64, wrap_u64]
 rcases ha with c | c | c <;> subst c <;> omega
theorem dg_small {n : Nat} (h : n < 4294967296) : (Dy.dg n).length ≤ 4096 := Dy.len_bl.2 (by
 have := Dy.bl_le.2 (show n < 2 ^ 32 from h)
 omega)
theorem ok_ref16_between (args : List AV) (s : Spec) (h : rBetween args = some s) (hp : andO s.pre True) : Contract Tryz.prog Inv 68 args s.res := by
 unfold rBetween at h
 split at h
 ·cases h
  rename_i a n a' n' a2 n2 b
  obtain ⟨⟨ha, hn, ha', hn', ha2, hn2, b1, b2⟩, -⟩ := hp
  refine contract_at false _ (lam [(4, .unroll 4)]) ok_tabW0 Tryz.func68 (by kernel_rfl) rfl (loops1u (k := 4) (by kernel_rfl) (by kernel_rfl)) fun hok => ?_
  rw [vc_ref16_between]
  subst ha hn ha' hn' ha2 hn2
  obtain ⟨B, hB⟩ : ∃ B : Nat, b.toNat = B := ⟨_, rfl⟩
  rw [hB]
  have s1 : ∀ n : Nat, 5 ≤ n → Dy.arcV B n ≤ 2 * 2 ^ B := fun n hn => by
   have := (Dy.arcA_spec (b := B) hn).2.2.2.2.1
   unfold Dy.arcV
   omega
  have s2 : ∀ n : Nat, 5 ≤ n → Dy.arcT B n ≤ 10000 := fun n hn => by
   have := Dy.arcT_le B n hn
   omega
  have v8 := s1 8 (by decide)
  have v57 := s1 57 (by decide)
  have v239 := s1 239 (by decide)
  have t8 := s2 8 (by decide)
  have t57 := s2 57 (by decide)
  have t239 := s2 239 (by decide)
  have big : ∀ k : Nat, k ≤ 1048576 * 2 ^ B → (Dy.dg k).length ≤ 4096 := fun k hk => Dy.len_bl.2 (by
   have h1 : k < 2 ^ (B + 21) := by
    rw [Nat.pow_add]
    have := Nat.two_pow_pos B
    omega
   have := Dy.bl_le.2 h1
   omega)
  have hp2 := Nat.two_pow_pos B
  have hlow : 1048576 ≤ 2 ^ B := show 2 ^ 20 ≤ 2 ^ B from Nat.pow_le_pow_right (by decide) (by omega)
  have hsl : IntKind.u64.wrap (IntKind.u64.wrap (IntKind.u64.wrap (0 + 24 * (2 * (Dy.arcT B 8 : Int) + 4)) + 8 * (2 * (Dy.arcT B 57 : Int) + 4)) + 4 * (2 * (Dy.arcT B 239 : Int) + 4)) = (Dy.bookK B : Nat) := by
   unfold Dy.bookK
   rw [wrap_u64, wrap_u64, wrap_u64]
   omega
  have hneg : IntKind.i64.wrap (0 - b) = -b := by rw [wrap_i64 (by omega) (by omega)]; omega
  have hkk : Dy.bookK B ≤ 1000000 := by unfold Dy.bookK; omega
  have hss : Dy.bookS B ≤ 80 * 2 ^ B := by unfold Dy.bookS; omega
  refine ⟨⟨by decide, by simp⟩, ⟨by decide, by decide, by omega, by omega⟩, ?_⟩
  rintro _ rfl _ rfl
  simp only [slk_wrap (.inl rfl) (Nat.le_trans t8 (by decide)), show (8 : Int).toNat = 8 from rfl, show (57 : Int).toNat = 57 from rfl, show (239 : Int).toNat = 239 from rfl, show (24 : Int).toNat = 24 from rfl, show (4 : Int).toNat = 4 from rfl, Dy.val_dg, Nat.zero_add]
  refine ⟨⟨by decide, by simp⟩, ⟨Nat.le_trans (dg_small (by decide)) (by decide), Nat.le_trans (big _ (by omega)) (by decide)⟩, ⟨by decide, Nat.le_trans (big _ (by omega)) (by decide)⟩, ⟨by decide, by simp⟩, ⟨by decide, by simp; decide⟩, ⟨by decide, by decide, by omega, by omega⟩, ?_⟩
  rintro _ rfl _ rfl
  simp only [slk_wrap (.inr (.inl rfl)) (Nat.le_trans t57 (by decide)), Dy.val_dg]
  refine ⟨⟨by decide, by simp; decide⟩, ⟨Nat.le_trans (dg_small (by decide)) (by decide), Nat.le_trans (big _ (by omega)) (by decide)⟩, ⟨Nat.le_trans (big _ (by omega)) (by decide), Nat.le_trans (big _ (by omega)) (by decide)⟩, ⟨by decide, by simp; decide⟩, ⟨by decide, by simp; decide⟩, ⟨by decide, by decide, by omega, by omega⟩, ?_⟩
  rintro _ rfl _ rfl
  simp only [slk_wrap (.inr (.inr rfl)) (Nat.le_trans t239 (by decide)), Dy.val_dg, hsl, Int.toNat_natCast, hneg]
  have hS : 24 * Dy.arcV B 8 + 8 * Dy.arcV B 57 + 4 * Dy.arcV B 239 = Dy.bookS B := rfl
  simp only [hS]
  have hbf := Dy.book_facts (b := B - 64) (B := B) (by omega) (by omega) (by omega)
  have l1 : (Dy.dg (Dy.bookS B)).length ≤ 4096 := big _ (by omega)
  have l2 : (Dy.dg (Dy.bookK B)).length ≤ 4096 := big _ (by omega)
  have l3 : (Dy.dg (Dy.bookS B - Dy.bookK B)).length ≤ 4096 := big _ (by omega)
  have l4 : (Dy.dg (Dy.bookS B + Dy.bookK B)).length ≤ 4096 := big _ (by omega)
  refine ⟨⟨by decide, by simp; decide⟩, ⟨Nat.le_trans (dg_small (by decide)) (by decide), Nat.le_trans (big _ (by omega)) (by decide)⟩, ⟨Nat.le_trans (big _ (by omega)) (by decide), Nat.le_trans (big _ (by omega)) (by decide)⟩, ⟨by decide, by simp; decide⟩,
   ⟨hbf.1, by omega⟩, ⟨trivial, by omega, by omega, by omega⟩, dpeel fun b7 l8 n9 d7 => ⟨⟨by omega, by omega⟩, ⟨trivial, by omega, by omega, by omega⟩, dpeel fun b10 l11 n12 d10 => ?_⟩⟩
  rw [avD_of d7, avD_of d10]
 ·cases h
theorem ok_tabW1 : PhiOk Tryz.prog Inv (look tabW1) := look_cons ok_tabW0 ok_ref16_between
theorem ok_ref16_cut (args : List AV) (s : Spec) (h : rBookCut args = some s) (hp : andO s.pre True) : Contract Tryz.prog Inv 36 args s.res := by
 unfold rBookCut at h
 split at h
 ·cases h
  rename_i a n a' n' a2 n2 b
  obtain ⟨⟨ha, hn, ha', hn', ha2, hn2, b1, b2⟩, -⟩ := hp
  refine contract_at false _ (lam [(3, .unroll 1)]) ok_tabW1 Tryz.func36 (by kernel_rfl) rfl (loops1u (k := 1) (by kernel_rfl) (by kernel_rfl)) fun hok => ?_
  rw [vc_ref16_cut]
  have hw : IntKind.i64.wrap (b + 64) = b + 64 := wrap_i64 (by omega) (by omega)
  rw [hw]
  have hbf := Dy.book_facts (b := b.toNat) (B := (b + 64).toNat) (by omega) (by omega) (by omega)
  have hl := Dy.piQ_bl (b := b.toNat) (by omega) (by omega)
  generalize (b + 64).toNat = B at *
  have hbb : ((b.toNat : Nat) : Int) = b := by omega
  have q1 := Dy.piCut_eq (b := b.toNat) (B := b + 64) (by omega) (by omega) hbf.2.1 hl
  have q2 := Dy.piCut_eq (b := b.toNat) (B := b + 64) (by omega) (by omega) hbf.2.2 hl
  rw [hbb] at q1 q2
  have part : ∀ X : Nat, X / 73786976294838206464 = Dy.piQ b.toNat → Dy.bl X ≤ 20000 := fun X hX => by
   have h := Dy.bl_div_two_pow X 66
   rw [show (2 : Nat) ^ 66 = 73786976294838206464 from rfl, hX, hl] at h
   omega
  have p1 := part _ hbf.2.1
  have p2 := part _ hbf.2.2
  clear hbf part
  obtain ⟨u1, u2, u3, u4, u5⟩ := Dy.form_dg (s := false) (n := Dy.bookS B - Dy.bookK B) (e := -(b + 64))
  obtain ⟨v1, v2, v3, v4, v5⟩ := Dy.form_dg (s := false) (n := Dy.bookS B + Dy.bookK B) (e := -(b + 64))
  refine ⟨⟨ha, hn, ha', hn', ha2, hn2, by omega, by omega⟩, dpeel fun b1 l2 n3 d1 => dpeel fun b4 l5 n6 d4 => ?_⟩
  rw [← d1] at u1 u2 u3 u4 u5 q1
  rw [← d4] at v1 v2 v3 v4 v5 q2
  simp only at u1 u2 u3 u4 u5 v1 v2 v3 v4 v5
  have k1 : l2.length ≤ 4096 := by rw [← u1]; exact Dy.len_bl.2 (by omega)
  have k2 : l5.length ≤ 4096 := by rw [← v1]; exact Dy.len_bl.2 (by omega)
  refine ⟨⟨u1, k1, u2, by omega, by omega, by omega⟩, dpeel fun b7 l8 n9 d7 => ?_⟩
  intro b10 _
  refine ⟨⟨v1, k2, v2, by omega, by omega, by omega⟩, dpeel fun b11 l12 n13 d11 => ?_⟩
  intro b14 _
  rw [q1] at d7
  rw [q2] at d11
  refine cond_t ?_ ?_
  ·rw [d7, d11]
   unfold Dy.sameD
   simp
  ·rw [avD_of d7]
 ·cases h
theorem ok_tabW2 : PhiOk Tryz.prog Inv (look tabW2) := look_cons ok_tabW1 ok_ref16_cut
theorem ok_ref16_Pi (args : List AV) (s : Spec) (h : rPiB args = some s) (hp : andO s.pre True) : Contract Tryz.prog Inv 12 args s.res := by
 unfold rPiB at h
 split at h
 ·cases h
  rename_i b
  obtain ⟨⟨b1, b2⟩, -⟩ := hp
  refine contract0 false ok_tabW2 Tryz.func12 (by kernel_rfl) (by kernel_rfl) fun hok => ?_
  rw [vc_ref16_Pi]
  refine ⟨⟨rfl, rfl, rfl, rfl, rfl, rfl, b1, b2⟩, dpeel fun b1 l2 n3 d1 => ?_⟩
  rw [avD_of d1]
 ·cases h
theorem ok_tabW3 : PhiOk Tryz.prog Inv (look tabW3) := look_cons ok_tabW2 ok_ref16_Pi
end Go.AI

namespace Go.Dy
def wideD (d : Dyd) : Prop := dg (val d.mag) = d.mag ∧ d.mag.length ≤ 4096 ∧ (d.mag = [] → d.neg = false ∧ d.exp = 0) ∧ (d.mag ≠ [] → val d.mag % 2 = 1) ∧ -20000000 ≤ d.exp ∧ d.exp ≤ 20000000
end Go.Dy
namespace Go.AI
open Go Go.RowKit Go.Proofs
set_option linter.unusedVariables false
end Go.AI

namespace Go.Dy
set_option maxRecDepth 100000
theorem len_bits {m : List Nat} {k : Nat} (h : dg (val m) = m) (hl : m.length ≤ k) : bl (val m) ≤ 32 * k := (length_dg_bl (n := val m) (k := k)).1 (by rw [h]; exact hl)
end Go.Dy
namespace Go.AI
open Go Go.RowKit Go.Proofs
set_option linter.unusedVariables false
set_option maxRecDepth 100000
end Go.AI

namespace Go.Dy
theorem quart_cut {n V : Nat} (h2 : n ≤ 12000) (hV : prec + 1 ≤ V) : (piQ n : Int) * 2 ^ (V + 1 - n) ≤ quart V ∧ quart V < (piQ n + 1 : Int) * 2 ^ (V + 1 - n) := by
 have hp := piN_nat
 have e : (2 : Int) ^ (V + 1 - n) = ((2 ^ (prec + 2 - n) * 2 ^ (V - (prec + 1)) : Nat) : Int) := by
  rw [← Nat.pow_add, pow_cast]
  have : n ≤ prec := by unfold prec; omega
  rw [show prec + 2 - n + (V - (prec + 1)) = V + 1 - n by omega]
 unfold quart
 rw [e, ← pow_cast, ← hp]
 unfold piQ
 generalize piN.toNat = p at *
 have w0 : 0 < 2 ^ (prec + 2 - n) := Nat.two_pow_pos _
 have v0 : 0 < 2 ^ (V - (prec + 1)) := Nat.two_pow_pos _
 generalize 2 ^ (prec + 2 - n) = w at *
 generalize 2 ^ (V - (prec + 1)) = v at *
 have d1 := Nat.mul_le_mul_right v (Nat.div_mul_le_self p w)
 have d2 := Nat.mul_lt_mul_of_pos_right (Nat.lt_mul_div_succ p w0) v0
 rw [Nat.mul_assoc] at d1
 rw [Nat.mul_comm w, Nat.mul_assoc] at d2
 refine ⟨?_, ?_⟩
 ·rw [← Int.natCast_mul, ← Int.natCast_mul]
  exact Int.ofNat_le.2 d1
 ·have : ((p / w : Nat) : Int) + 1 = ((p / w + 1 : Nat) : Int) := by omega
  rw [this, ← Int.natCast_mul, ← Int.natCast_mul]
  exact Int.ofNat_lt.2 d2
end Go.Dy

namespace Go.Dy
theorem formZ_ne {z e : Int} (hz : z ≠ 0) : (formZ z e).mag ≠ [] := by
 intro h
 unfold formZ at h
 have h1 : z.natAbs ≠ 0 := by omega
 rw [form_pos h1] at h
 have h0 := dg_eq_nil.1 h
 have h1 := div_tz_odd h1
 omega
theorem pi_cut_form {n : Nat} : piCut n = formZ (piQ n : Nat) (2 - (n : Int)) := by
 unfold piCut
 rw [form_sgn]
 rfl
end Go.Dy

namespace Go.Dy
def backT (x r p : Dyd) (n : Int) : Dyd := (quoF (subD x r) (shE p (-1)) n).1
def backS (x r p : Dyd) (n : Int) : Dyd := addD (backT x r p n) (unitOf (-1))
def backK (x r p : Dyd) (n : Int) : Dyd := floorD (backS x r p n)
def backF (x r p : Dyd) (n : Int) : Dyd := subD (subD x r) (mulD (backK x r p n) (shE p (-1)))
structure BackOk (x r p : Dyd) (b n q : Int) : Prop where
 r_may : mayD r = true
 abs_may : mayD (absD r) = true
 q4_may : mayD (shE p (-2)) = true
 le4 : cmpD (absD r) (shE p (-2)) ≤ 0
 r_sign : signD r ≠ 0
 xr : -300000 ≤ x.exp - r.exp ∧ x.exp - r.exp ≤ 300000
 y_may : mayD (subD x r) = true
 h_may : mayD (shE p (-1)) = true
 p_ne : p.mag ≠ []
 p_exp : -1000000 ≤ p.exp ∧ p.exp ≤ 1000000
 y_len : (subD x r).mag.length ≤ 1000
 p_len : p.mag.length ≤ 1000
 t_wide : wideD (backT x r p n)
 t_exp : (backT x r p n).mag = [] ∨ (-20000000 ≤ (backT x r p n).exp - (-1) ∧ (backT x r p n).exp - (-1) ≤ 20000000)
 s_pre : dg (val (backS x r p n).mag) = (backS x r p n).mag ∧ (backS x r p n).mag.length ≤ 1000000 ∧ ((backS x r p n).mag = [] → (backS x r p n).exp = 0) ∧ -20000000 ≤ (backS x r p n).exp ∧ (backS x r p n).exp ≤ 20000000 ∧ (backS x r p n).exp + bl (val (backS x r p n).mag) ≤ 131072
 k_may : mayD (backK x r p n) = true
 kh_may : mayD (mulD (backK x r p n) (shE p (-1))) = true
 y_kh : (subD x r).mag = [] ∨ (mulD (backK x r p n) (shE p (-1))).mag = [] ∨ (-300000 ≤ (subD x r).exp - (mulD (backK x r p n) (shE p (-1))).exp ∧ (subD x r).exp - (mulD (backK x r p n) (shE p (-1))).exp ≤ 300000)
 k_exp : 0 ≤ (backK x r p n).exp ∧ (backK x r p n).exp ≤ 100000
 k_len : (backK x r p n).mag.length ≤ 1000
 k_val : at_ (backK x r p n) 0 % 4 = q
 r_exp : -16777216 ≤ r.exp ∧ r.exp ≤ 16777216
 r_len : r.mag.length ≤ 4096
 r_top : -20000000 ≤ topD r ∧ topD r ≤ 20000000
 f_pre : (mayD (absD (backF x r p n)) = true ∧ mayD (unitOf (topD r - b + 1)) = true) ∨ (wideD (absD (backF x r p n)) ∧ wideD (unitOf (topD r - b + 1)) ∧ ((absD (backF x r p n)).mag ≠ [] → (absD (backF x r p n)).exp + bl (val (absD (backF x r p n)).mag) < topD r - b + 1 + 1))
 f_le : cmpD (absD (backF x r p n)) (unitOf (topD r - b + 1)) ≤ 0
theorem abs_may {d : Dyd} (h : mayD d = true) : mayD (absD d) = true := by
 obtain ⟨s, m, e⟩ := d
 unfold absD
 unfold mayD at h ⊢
 simp only at h ⊢
 by_cases c : m = []
 ·rw [if_pos c] at h ⊢
  simp only [Bool.and_eq_true, Bool.not_false, true_and] at h ⊢
  exact ⟨h.1, h.2.2⟩
 ·rw [if_neg c] at h ⊢
  exact h
theorem abs_mul_le {K d : Int} {A W : Nat} (h1 : K.natAbs ≤ A) (h2 : 0 ≤ d) (h3 : d ≤ W) : -((A * W : Nat) : Int) ≤ K * d ∧ K * d ≤ ((A * W : Nat) : Int) := by
 have h : (K * d).natAbs ≤ A * W := by
  rw [Int.natAbs_mul]
  exact Nat.mul_le_mul h1 (by omega)
 omega
end Go.Dy

namespace Go.Dy
theorem zero_mul (b : Dyd) : mulD zeroD b = zeroD := by
 unfold mulD zeroD
 rw [show val ([] : List Nat) = 0 from rfl, Nat.zero_mul, form_zero]
 rfl
end Go.Dy
