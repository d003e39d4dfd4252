/- My texts AVround, AIround0, AIround, AIround2, AIroot0, AVroot, AIroot, AIroot1, in one. -/
import Derived.Test.YtogikmlfkhofoaaGreatDoorK15
open BitVec renaming ofInt→A7
open Bool renaming eq_iff_iff→o6
open Int renaming eq_ofNat_of_zero_le→C4,lt_or_le→Z3,natAbs_natCast→S7,natCast_mul→L5,natCast_pow→MC,toNat_natCast→A2
open Nat renaming div_le_self→L1,le_div_iff_mul_le→K8,le_trans→D9,lt_of_le_of_lt→L8,lt_of_lt_of_le→G7,lt_or_ge→L4,min_eq_left→J1,mul_le_mul→I7,mul_lt_mul_of_lt_of_lt→K3,mul_lt_mul_of_pos_right→L3,mul_one→M0,one_mul→Q2,pow_add→B8,pow_le_pow_right→B3,pow_lt_pow_right→N4,pow_succ→I5,two_pow_pos→A9
namespace Go.AI
open Dy Dyd IntKind
open Go Go.RowKit Go.Proofs
set_option linter.unusedVariables false
set_option maxRecDepth 100000
set_option maxHeartbeats 0
theorem YL (f:Int) (Q:AV→Prop):(evF Tryz.prog (look A6z) (lam []) false Tryz.f168 [.num .u8 f] Q)=(bif decide (f=1) then Q (.tup [.agg [.num .i64 24,.num .i64 (-149),.num .i64 128],.bool true]) else bif decide (f=2) then Q (.tup [.agg [.num .i64 53,.num .i64 (-1074),.num .i64 1024],.bool true]) else Q (.tup [.agg [.num .i64 0,.num .i64 0,.num .i64 0],.bool false])):=by kernel_rfl
theorem YM (s:Bool) (m:List Nat) (e:Int) (Q:AV→Prop):(evF Tryz.prog (look A6z) (lam []) false Tryz.f135 [.agg [.bool s,.dig [1] m,.num .i64 e]] Q)=(∀(l1:List Nat),l1=(H3 m (i64.wrap ((64:Int)-(↑(F3 m):Int)))).mag→∀b2,b2=(H3 m (i64.wrap ((64:Int)-(↑(F3 m):Int)))).lost→∀n3,n3=(H3 m (i64.wrap ((64:Int)-(↑(F3 m):Int)))).err→∀n4,n4=(↑(if (may l1&&decide (l1.length≤2))=true then val l1 else (0:Nat)):Int)→∀b5,b5=(may l1&&decide (l1.length≤2))→Q (.agg [.num .u64 n4,.num .i64 (i64.wrap (e+(↑(F3 m):Int))),.bool b2])):=by kernel_rfl
theorem B7n (m:Int) (neg:Bool) (odd:Bool) (half:Bool) (more:Bool) (Q:AV→Prop):(evF Tryz.prog (look A6z) (lam []) false Tryz.f200 [.num .u8 m,.bool neg,.bool odd,.bool half,.bool more] Q)=(bif decide (m=1) then bif !more then bif !odd then Q (.bool false) else Q (.bool half) else Q (.bool half) else bif decide (m=2) then Q (.bool half) else bif decide (m=4) then bif !neg then bif half then Q (.bool true) else Q (.bool more) else Q (.bool false) else bif decide (m=5) then bif neg then bif half then Q (.bool true) else Q (.bool more) else Q (.bool false) else Q (.bool false)):=by kernel_rfl
theorem A5g (b:Bool) (Q:AV→Prop):(evF Tryz.prog (look A6z) (lam []) false Tryz.f199 [.bool b] Q)=(bif b then Q (.num .u64 1) else Q (.num .u64 0)):=by kernel_rfl
theorem A31 (f:Int) (m:Int) (Q:AV→Prop):(evF Tryz.prog (look B65) (lam [((7:Nat),LoopAnn.unroll (2:Nat))]) false Tryz.f118 [.num .u8 f,.num .u8 m,.dig [3] []] Q)=(∀n1,n1=rP f→∀n2,n2=rL f→∀n3,n3=rW f→∀b4,b4=AZ f→bif !b4 then Q (.tup [.agg [.num .i64 n1,.num .i64 n2,.num .i64 n3],.num .i64 4]) else bif decide (m<1) then Q (.tup [.agg [.num .i64 n1,.num .i64 n2,.num .i64 n3],.num .i64 5]) else bif decide (m>5) then Q (.tup [.agg [.num .i64 n1,.num .i64 n2,.num .i64 n3],.num .i64 5]) else Q (.tup [.agg [.num .i64 n1,.num .i64 n2,.num .i64 n3],.num .i64 0])):=by kernel_rfl
theorem A32 (f:Int) (m:Int) (s:Bool) (d:List Nat) (e:Int) (Q:AV→Prop):(evF Tryz.prog (look B65) (lam [((7:Nat),LoopAnn.unroll (2:Nat))]) false Tryz.f118 [.num .u8 f,.num .u8 m,.vec [3] (3:Nat) [.agg [.bool s,.dig [3] d,.num .i64 e]]] Q)=(∀n1,n1=rP f→∀n2,n2=rL f→∀n3,n3=rW f→∀b4,b4=AZ f→bif !b4 then Q (.tup [.agg [.num .i64 n1,.num .i64 n2,.num .i64 n3],.num .i64 4]) else bif decide (m<1) then Q (.tup [.agg [.num .i64 n1,.num .i64 n2,.num .i64 n3],.num .i64 5]) else bif decide (m>5) then Q (.tup [.agg [.num .i64 n1,.num .i64 n2,.num .i64 n3],.num .i64 5]) else ((0:Int)≤0∧(0:Int)<(↑[AV.agg [AV.bool s,AV.dig [(3:Nat)] d,AV.num i64 e]].length:Int))∧bif !A5 (mk s d e) then Q (.tup [.agg [.num .i64 n1,.num .i64 n2,.num .i64 n3],.num .i64 2]) else Q (.tup [.agg [.num .i64 n1,.num .i64 n2,.num .i64 n3],.num .i64 0])):=by kernel_rfl
theorem A33 (h:Int) (top:Int) (more:Bool) (m:Int) (neg:Bool) (e:Int) (Q:AV→Prop):(evF Tryz.prog (look B65) (lam []) false Tryz.f174 [.agg [.num .u64 h,.num .i64 top,.bool more],.num .u8 m,.bool neg,.num .i64 e] Q)=(bif decide (i64.wrap (i64.wrap (e-top)+64)>64) then Q (.tup [.num .u64 (↑(JO (upB m neg false false true)):Int),.bool false]) else bif decide (i64.wrap (i64.wrap (e-top)+64)<64) then (0:Int)≤i64.wrap (i64.wrap (e-top)+64)∧bif decide (i64.wrap (i64.wrap (e-top)+64)>0) then (0:Int)≤i64.wrap (i64.wrap (i64.wrap (e-top)+64)-1)∧bif more then bif !decide (u64.wrap (↑(A7 (64:Nat) (h.fdiv ((2:Int)^min (i64.wrap (i64.wrap (i64.wrap (e-top)+64)-1)).toNat (64:Nat)))&&&A7 (64:Nat) (1:Int)).toNat:Int)=1) then Q (.tup [.num .u64 (u64.wrap (h.fdiv ((2:Int)^min (i64.wrap (i64.wrap (e-top)+64)).toNat (64:Nat))+(↑(JO (upB m neg (u64.wrap (↑(A7 (64:Nat) (h.fdiv ((2:Int)^min (i64.wrap (i64.wrap (e-top)+64)).toNat (64:Nat)))&&&A7 (64:Nat) (1:Int)).toNat:Int)==(1:Int)) (u64.wrap (↑(A7 (64:Nat) (h.fdiv ((2:Int)^min (i64.wrap (i64.wrap (i64.wrap (e-top)+64)-1)).toNat (64:Nat)))&&&A7 (64:Nat) (1:Int)).toNat:Int)==(1:Int)) true)):Int))),.bool false]) else Q (.tup [.num .u64 (u64.wrap (h.fdiv ((2:Int)^min (i64.wrap (i64.wrap (e-top)+64)).toNat (64:Nat))+(↑(JO (upB m neg (u64.wrap (↑(A7 (64:Nat) (h.fdiv ((2:Int)^min (i64.wrap (i64.wrap (e-top)+64)).toNat (64:Nat)))&&&A7 (64:Nat) (1:Int)).toNat:Int)==(1:Int)) (u64.wrap (↑(A7 (64:Nat) (h.fdiv ((2:Int)^min (i64.wrap (i64.wrap (i64.wrap (e-top)+64)-1)).toNat (64:Nat)))&&&A7 (64:Nat) (1:Int)).toNat:Int)==(1:Int)) true)):Int))),.bool false]) else (0:Int)≤i64.wrap (i64.wrap (i64.wrap (e-top)+64)-1)∧bif !decide (u64.wrap (↑(A7 (64:Nat) (h.fdiv ((2:Int)^min (i64.wrap (i64.wrap (i64.wrap (e-top)+64)-1)).toNat (64:Nat)))&&&A7 (64:Nat) (1:Int)).toNat:Int)=1) then Q (.tup [.num .u64 (u64.wrap (h.fdiv ((2:Int)^min (i64.wrap (i64.wrap (e-top)+64)).toNat (64:Nat))+(↑(JO (upB m neg (u64.wrap (↑(A7 (64:Nat) (h.fdiv ((2:Int)^min (i64.wrap (i64.wrap (e-top)+64)).toNat (64:Nat)))&&&A7 (64:Nat) (1:Int)).toNat:Int)==(1:Int)) (u64.wrap (↑(A7 (64:Nat) (h.fdiv ((2:Int)^min (i64.wrap (i64.wrap (i64.wrap (e-top)+64)-1)).toNat (64:Nat)))&&&A7 (64:Nat) (1:Int)).toNat:Int)==(1:Int)) !decide (u64.wrap (↑(A7 (64:Nat) h&&&A7 (64:Nat) (u64.wrap (u64.wrap ((1:Int)*2^min (i64.wrap (i64.wrap (i64.wrap (e-top)+64)-1)).toNat (64:Nat))-1))).toNat:Int)=0))):Int))),.bool !!decide (u64.wrap (↑(A7 (64:Nat) h&&&A7 (64:Nat) (u64.wrap (u64.wrap ((1:Int)*2^min (i64.wrap (i64.wrap (i64.wrap (e-top)+64)-1)).toNat (64:Nat))-1))).toNat:Int)=0)]) else Q (.tup [.num .u64 (u64.wrap (h.fdiv ((2:Int)^min (i64.wrap (i64.wrap (e-top)+64)).toNat (64:Nat))+(↑(JO (upB m neg (u64.wrap (↑(A7 (64:Nat) (h.fdiv ((2:Int)^min (i64.wrap (i64.wrap (e-top)+64)).toNat (64:Nat)))&&&A7 (64:Nat) (1:Int)).toNat:Int)==(1:Int)) (u64.wrap (↑(A7 (64:Nat) (h.fdiv ((2:Int)^min (i64.wrap (i64.wrap (i64.wrap (e-top)+64)-1)).toNat (64:Nat)))&&&A7 (64:Nat) (1:Int)).toNat:Int)==(1:Int)) !decide (u64.wrap (↑(A7 (64:Nat) h&&&A7 (64:Nat) (u64.wrap (u64.wrap ((1:Int)*2^min (i64.wrap (i64.wrap (i64.wrap (e-top)+64)-1)).toNat (64:Nat))-1))).toNat:Int)=0))):Int))),.bool false]) else Q (.tup [.num .u64 (u64.wrap (h.fdiv ((2:Int)^min (i64.wrap (i64.wrap (e-top)+64)).toNat (64:Nat))+(↑(JO (upB m neg (u64.wrap (↑(A7 (64:Nat) (h.fdiv ((2:Int)^min (i64.wrap (i64.wrap (e-top)+64)).toNat (64:Nat)))&&&A7 (64:Nat) (1:Int)).toNat:Int)==(1:Int)) false more)):Int))),.bool !more]) else bif decide (i64.wrap (i64.wrap (e-top)+64)>0) then (0:Int)≤i64.wrap (i64.wrap (i64.wrap (e-top)+64)-1)∧bif more then bif !decide (u64.wrap (↑(A7 (64:Nat) (h.fdiv ((2:Int)^min (i64.wrap (i64.wrap (i64.wrap (e-top)+64)-1)).toNat (64:Nat)))&&&A7 (64:Nat) (1:Int)).toNat:Int)=1) then Q (.tup [.num .u64 (u64.wrap ((0:Int)+(↑(JO (upB m neg (u64.wrap (↑(0:Nat):Int)==(1:Int)) (u64.wrap (↑(A7 (64:Nat) (h.fdiv ((2:Int)^min (i64.wrap (i64.wrap (i64.wrap (e-top)+64)-1)).toNat (64:Nat)))&&&A7 (64:Nat) (1:Int)).toNat:Int)==(1:Int)) true)):Int))),.bool false]) else Q (.tup [.num .u64 (u64.wrap ((0:Int)+(↑(JO (upB m neg (u64.wrap (↑(0:Nat):Int)==(1:Int)) (u64.wrap (↑(A7 (64:Nat) (h.fdiv ((2:Int)^min (i64.wrap (i64.wrap (i64.wrap (e-top)+64)-1)).toNat (64:Nat)))&&&A7 (64:Nat) (1:Int)).toNat:Int)==(1:Int)) true)):Int))),.bool false]) else (0:Int)≤i64.wrap (i64.wrap (i64.wrap (e-top)+64)-1)∧bif !decide (u64.wrap (↑(A7 (64:Nat) (h.fdiv ((2:Int)^min (i64.wrap (i64.wrap (i64.wrap (e-top)+64)-1)).toNat (64:Nat)))&&&A7 (64:Nat) (1:Int)).toNat:Int)=1) then Q (.tup [.num .u64 (u64.wrap ((0:Int)+(↑(JO (upB m neg (u64.wrap (↑(0:Nat):Int)==(1:Int)) (u64.wrap (↑(A7 (64:Nat) (h.fdiv ((2:Int)^min (i64.wrap (i64.wrap (i64.wrap (e-top)+64)-1)).toNat (64:Nat)))&&&A7 (64:Nat) (1:Int)).toNat:Int)==(1:Int)) !decide (u64.wrap (↑(A7 (64:Nat) h&&&A7 (64:Nat) (u64.wrap (u64.wrap ((1:Int)*2^min (i64.wrap (i64.wrap (i64.wrap (e-top)+64)-1)).toNat (64:Nat))-1))).toNat:Int)=0))):Int))),.bool !!decide (u64.wrap (↑(A7 (64:Nat) h&&&A7 (64:Nat) (u64.wrap (u64.wrap ((1:Int)*2^min (i64.wrap (i64.wrap (i64.wrap (e-top)+64)-1)).toNat (64:Nat))-1))).toNat:Int)=0)]) else Q (.tup [.num .u64 (u64.wrap ((0:Int)+(↑(JO (upB m neg (u64.wrap (↑(0:Nat):Int)==(1:Int)) (u64.wrap (↑(A7 (64:Nat) (h.fdiv ((2:Int)^min (i64.wrap (i64.wrap (i64.wrap (e-top)+64)-1)).toNat (64:Nat)))&&&A7 (64:Nat) (1:Int)).toNat:Int)==(1:Int)) !decide (u64.wrap (↑(A7 (64:Nat) h&&&A7 (64:Nat) (u64.wrap (u64.wrap ((1:Int)*2^min (i64.wrap (i64.wrap (i64.wrap (e-top)+64)-1)).toNat (64:Nat))-1))).toNat:Int)=0))):Int))),.bool false]) else Q (.tup [.num .u64 (u64.wrap ((0:Int)+(↑(JO (upB m neg (u64.wrap (↑(0:Nat):Int)==(1:Int)) false more)):Int))),.bool !more])):=by kernel_rfl
theorem A5e (f:Int) (m:Int) (neg:Bool) (Q:AV→Prop):(evF Tryz.prog (look D1a) (lam []) false Tryz.f61 [.num .u8 f,.num .u8 m,.bool neg] Q)=(∀n1,n1=rP f→∀n2,n2=rL f→∀n3,n3=rW f→∀n4,n4=L2 f m→bif !decide (n4=0) then Q (.tup [.num .u64 0,.num .i64 n4]) else bif decide (m=3) then isF f∧∀n5,n5=(↑(D5 f neg+(N6 f-1)):Int)→∀n6,n6=(0:Int)→Q (.tup [.num .u64 n5,.num .i64 n6]) else bif decide (m=4) then bif neg then isF f∧∀n7,n7=(↑(D5 f neg+(N6 f-1)):Int)→∀n8,n8=(0:Int)→Q (.tup [.num .u64 n7,.num .i64 n8]) else bif decide (m=5) then bif !neg then isF f∧∀n9,n9=(↑(D5 f neg+(N6 f-1)):Int)→∀n10,n10=(0:Int)→Q (.tup [.num .u64 n9,.num .i64 n10]) else isF f∧∀n11,n11=(↑(D5 f neg+N6 f):Int)→∀n12,n12=(0:Int)→Q (.tup [.num .u64 n11,.num .i64 n12]) else isF f∧∀n13,n13=(↑(D5 f neg+N6 f):Int)→∀n14,n14=(0:Int)→Q (.tup [.num .u64 n13,.num .i64 n14]) else bif decide (m=5) then bif !neg then isF f∧∀n15,n15=(↑(D5 f neg+(N6 f-1)):Int)→∀n16,n16=(0:Int)→Q (.tup [.num .u64 n15,.num .i64 n16]) else isF f∧∀n17,n17=(↑(D5 f neg+N6 f):Int)→∀n18,n18=(0:Int)→Q (.tup [.num .u64 n17,.num .i64 n18]) else isF f∧∀n19,n19=(↑(D5 f neg+N6 f):Int)→∀n20,n20=(0:Int)→Q (.tup [.num .u64 n19,.num .i64 n20])):=by kernel_rfl
theorem A5h (h:Int) (top:Int) (more:Bool) (f:Int) (a:Int) (b:Int) (c:Int) (m:Int) (neg:Bool) (Q:AV→Prop):(evF Tryz.prog (look D1b) (lam []) false Tryz.f136 [.agg [.num .u64 h,.num .i64 top,.bool more],.num .u8 f,.agg [.num .i64 a,.num .i64 b,.num .i64 c],.num .u8 m,.bool neg] Q)=((-1073741824≤top∧top≤1073741824∧(-1073741824≤if b>i64.wrap (top-a) then b else i64.wrap (top-a))∧(if b>i64.wrap (top-a) then b else i64.wrap (top-a))≤1073741824∧(1:Int)≤(if b>i64.wrap (top-a) then b else i64.wrap (top-a))-top+64)∧∀n1,n1=(↑(H4 (Prt.mk h.toNat top more) m neg (if b>i64.wrap (top-a) then b else i64.wrap (top-a))).fst:Int)→∀b2,b2=(H4 (Prt.mk h.toNat top more) m neg (if b>i64.wrap (top-a) then b else i64.wrap (top-a))).snd→bif decide (i64.wrap ((↑(bl n1.toNat):Int)+if b>i64.wrap (top-a) then b else i64.wrap (top-a))>c) then∀n3,n3=(↑(bif decide (L2 f m=0) then NX f m neg else (0:Nat)):Int)→∀n4,n4=L2 f m→Q (.tup [.num .u64 n3,.num .u8 20]) else dyF (N7 neg (dg n1.toNat) (if b>i64.wrap (top-a) then b else i64.wrap (top-a))).1 fun b5 l6 n7=>∀n8,n8=(N7 neg (dg n1.toNat) (if b>i64.wrap (top-a) then b else i64.wrap (top-a))).snd→(isF f∧A5 (mk b5 l6 n7)=true∧bl (val l6)≤A6 f+1∧(l6≠[]→C9 f≤n7∧C7 (mk b5 l6 n7)≤P8 f))∧∀n9,n9=(↑(if l6=[] then (0:Nat) else D5 f b5+DD f (mk b5 l6 n7)):Int)→∀n10,n10=(0:Int)→bif decide (n1=0) then isF f∧∀n11,n11=(↑(D5 f neg):Int)→∀n12,n12=(0:Int)→bif b2 then Q (.tup [.num .u64 n11,.num .u8 0]) else (-1073741824≤top∧top≤1073741824∧(-1073741824:Int)≤i64.wrap (top-a)∧i64.wrap (top-a)≤1073741824∧(1:Int)≤i64.wrap (top-a)-top+64)∧∀n13,n13=(↑(H4 (Prt.mk h.toNat top more) m neg (i64.wrap (top-a))).fst:Int)→∀b14,b14=(H4 (Prt.mk h.toNat top more) m neg (i64.wrap (top-a))).snd→bif decide (i64.wrap (i64.wrap ((↑(bl n13.toNat):Int)+top)-a)<i64.wrap (b+a)) then Q (.tup [.num .u64 n11,.num .u8 24]) else Q (.tup [.num .u64 n11,.num .u8 16]) else bif b2 then Q (.tup [.num .u64 n9,.num .u8 0]) else (-1073741824≤top∧top≤1073741824∧(-1073741824:Int)≤i64.wrap (top-a)∧i64.wrap (top-a)≤1073741824∧(1:Int)≤i64.wrap (top-a)-top+64)∧∀n15,n15=(↑(H4 (Prt.mk h.toNat top more) m neg (i64.wrap (top-a))).fst:Int)→∀b16,b16=(H4 (Prt.mk h.toNat top more) m neg (i64.wrap (top-a))).snd→bif decide (i64.wrap (i64.wrap ((↑(bl n15.toNat):Int)+top)-a)<i64.wrap (b+a)) then Q (.tup [.num .u64 n9,.num .u8 24]) else Q (.tup [.num .u64 n9,.num .u8 16])):=by kernel_rfl
theorem A30 (f:Int) (m:Int) (s:Bool) (d:List Nat) (e:Int) (Q:AV→Prop):(evF Tryz.prog (look C4s) (lam []) false Tryz.f156 [.num .u8 f,.num .u8 m,.agg [.bool s,.dig [3] d,.num .i64 e]] Q)=(A5 (mk s d e)=true∧∀n1,n1=rP f→∀n2,n2=rL f→∀n3,n3=rW f→∀n4,n4=L2 f m→bif !decide (n4=0) then Q (.tup [.num .u64 0,.num .u8 0,.num .i64 n4]) else bif decide ((if A5 (mk s d e)=true then F0 (mk s d e) else (0:Int))=0) then Q (.tup [.num .u64 0,.num .u8 0,.num .i64 0]) else (A5 (mk s d e)=true∧d≠[])∧∀n5,n5=(↑(I9 (mk s d e)).h:Int)→∀n6,n6=(I9 (mk s d e)).top→∀b7,b7=(I9 (mk s d e)).more→(L2 f m=0∧n1=rP f∧n2=rL f∧n3=rW f∧9223372036854775808≤n5∧ -20000000≤n6∧n6≤20000000)∧∀n8,n8=(↑(R4 f m s (Prt.mk n5.toNat n6 b7)).fst:Int)→∀n9,n9=(R4 f m s (Prt.mk n5.toNat n6 b7)).snd→Q (.tup [.num .u64 n8,.num .u8 n9,.num .i64 0])):=by kernel_rfl
theorem A5f (f:Int) (m:Int) (s:Bool) (d:List Nat) (e:Int) (Q:AV→Prop):(evF Tryz.prog (look C4s) (lam []) false Tryz.f71 [.num .u8 f,.num .u8 m,.agg [.bool s,.dig [3] d,.num .i64 e]] Q)=(A5 (mk s d e)=true∧∀n1,n1=rP f→∀n2,n2=rL f→∀n3,n3=rW f→∀n4,n4=L2 f m→bif !decide (n4=0) then Q (.tup [.num .u64 0,.num .u8 0,.num .i64 n4]) else bif s then Q (.tup [.num .u64 0,.num .u8 0,.num .i64 10]) else bif decide ((if A5 (mk s d e)=true then F0 (mk s d e) else (0:Int))=0) then Q (.tup [.num .u64 0,.num .u8 0,.num .i64 0]) else dyF (BD (mk s d e) (64:Int)).num fun b5 l6 n7=>∀b8,b8=(BD (mk s d e) (64:Int)).lost→∀n9,n9=(BD (mk s d e) (64:Int)).err→(A5 (mk b5 l6 n7)=true∧l6≠[])∧∀n10,n10=(↑(I9 (mk b5 l6 n7)).h:Int)→∀n11,n11=(I9 (mk b5 l6 n7)).top→∀b12,b12=(I9 (mk b5 l6 n7)).more→bif b12 then (L2 f m=0∧n1=rP f∧n2=rL f∧n3=rW f∧9223372036854775808≤n10∧ -20000000≤n11∧n11≤20000000)∧∀n13,n13=(↑(R4 f m false (Prt.mk n10.toNat n11 true)).fst:Int)→∀n14,n14=(R4 f m false (Prt.mk n10.toNat n11 true)).snd→Q (.tup [.num .u64 n13,.num .u8 n14,.num .i64 0]) else (L2 f m=0∧n1=rP f∧n2=rL f∧n3=rW f∧9223372036854775808≤n10∧ -20000000≤n11∧n11≤20000000)∧∀n15,n15=(↑(R4 f m false (Prt.mk n10.toNat n11 b8)).fst:Int)→∀n16,n16=(R4 f m false (Prt.mk n10.toNat n11 b8)).snd→Q (.tup [.num .u64 n15,.num .u8 n16,.num .i64 0])):=by kernel_rfl
theorem B17 (f:Int) (a:Int) (b:Int) (Q:AV→Prop):(evF Tryz.prog (look D1c) (lam []) false Tryz.f62 [.num .u8 f,.agg [.num .u64 a,.num .u64 b]] Q)=(bif !decide (H9 f a=0) then Q (.num .i64 (H9 f a)) else Q (.num .i64 (H9 f b))):=by kernel_rfl
end Go.AI

namespace Go.Dy
set_option maxRecDepth 100000
theorem OI (f:Int) (p:Prt):C9 f≤K6 f p∧p.top-(A6 f+1)≤K6 f p∧(K6 f p=C9 f∨K6 f p=p.top-(A6 f+1)):=by unfold K6;omega
theorem A2l {f m:Int} (hf:isF f) {neg:Bool} {p:Prt} (hp:p.ok):(H4 p m neg (K6 f p)).1≤2^(A6 f+1):=by
 obtain ⟨e1,e2, -⟩:=OI f p
 generalize K6 f p=E at*
 unfold H4
 split
 ·rename_i c
  have:=YS (upB m neg false false true)
  exact D9 this (Nat.one_le_two_pow)
 ·rename_i c
  have hd:64-(A6 f+1)≤(E-p.top+64).toNat:=by rcases J0 hf with h|h<;>omega
  have hl:=KD hp m neg (d:=(E-p.top+64).toNat) (by omega)
  exact D9 hl (B3 (by decide) (by omega))
theorem B6f {f m:Int} (hf:isF f) {neg:Bool} {p:Prt} (hp:p.ok) (he:C9 f<K6 f p):2^A6 f≤(H4 p m neg (K6 f p)).1:=by
 obtain ⟨e1,e2,e3⟩:=OI f p
 have hF:A6 f≤52:=by rcases J0 hf with c|c<;>omega
 generalize K6 f p=E at*
 unfold H4
 rw [if_neg (by omega),show (E-p.top+64).toNat=63-A6 f by omega]
 unfold DG
 simp only
 have:2^A6 f≤p.h/2^(63-A6 f):=by
  rw [K8 (A9 _),←B8,show A6 f+(63-A6 f)=63 by omega]
  exact hp.1
 omega
theorem PR {f m:Int} (hf:isF f) {neg:Bool} {p:Prt} (hp:p.ok) {E:Int} {N:Nat} (hE:K6 f p=E) (hN:(H4 p m neg (K6 f p)).1=N) (ht: -20000000≤p.top∧p.top≤20000000) (hw:¬P8 f<bl N+E):
  A5 (form neg N E)=true∧bl (val (form neg N E).mag)≤A6 f+1∧((form neg N E).mag≠[]→C9 f≤(form neg N E).exp∧C7 (form neg N E)≤P8 f)∧
   (N=0→E=C9 f)∧(N≠0→(form neg N E).mag≠[]∧(form neg N E).neg=neg∧DD f (form neg N E)=(E-C9 f).toNat*2^A6 f+N)∧N<2^64∧ -1074≤E∧E≤1024:=by
 have h1:=A2l hf (m:=m) (neg:=neg) hp
 have h2:=B6f hf (m:=m) (neg:=neg) hp
 obtain ⟨e1,e2,e3⟩:=OI f p
 rw [hN] at h1
 rw [hN,hE] at h2
 rw [hE] at e1 e2 e3
 have hF:=J0 hf
 have hN64:N<2^64:=L8 h1 (N4 (by decide) (by omega))
 have hlow:N=0→E=C9 f:=fun c=>by
  rcases Z3 (C9 f) E with d|d
  ·have:=h2 d
   have:=A9 (A6 f)
   omega
  ·omega
 have hb:=K1 h1
 have hb2:bl (2^(A6 f+1))=A6 f+2:=by
  have:=E7 (n:=1) (by decide) (A6 f+1)
  rw [Q2,show bl 1=1 from rfl] at this
  omega
 have hfit:=(U4 (s:=neg) (n:=N) (e:=E) (L:=100) (E:=3000) (by omega) (by omega) (by omega) (by decide) (by decide)).1
 refine ⟨hfit.may,?_,fun h=> ?_,hlow,fun h=> ?_,hN64,by omega,by omega⟩
 ·by_cases c:N=2^(A6 f+1)
  ·have ht:tz N=A6 f+1:=by
    have:=WO (A6 f+1) 0
    rw [show 2*0+1=1 from rfl,M0] at this
    rw [c,this]
   have h0:N≠0:=by have:=A9 (A6 f+1);omega
   rw [H6 h0]
   simp only
   rw [E3,ht,c,Nat.div_self (A9 _)]
   show 1≤_
   omega
  ·have h3:=(OV (s:=neg) (n:=N) (e:=E)).2.2.1
   have h4:bl N≤A6 f+1:=I8.2 (by omega)
   omega
 ·have h0:N≠0:=fun c=>by subst c;exact h rfl
  rw [O6 h0]
  rw [H6 h0]
  simp only
  exact ⟨by omega,by omega⟩
 ·have hne:(form neg N E).mag≠[]:=fun c=>by
   rw [H6 h] at c
   have h0:=T6.1 c
   have h1:=T0 h
   omega
  refine ⟨hne,by rw [H6 h],?_⟩
  have htop:=O6 (s:=neg) (e:=E) h
  have hbp:=IV.2 h
  unfold DD
  rw [htop]
  rw [H6 h]
  simp only
  rw [E3]
  obtain ⟨q,hq⟩:=HN N
  have hqd:N/2^tz N=q:=by
   conv=>lhs;arg 1;rw [hq]
   exact Nat.mul_div_cancel_left _ (A9 _)
  rw [hqd]
  by_cases c:N=2^(A6 f+1)
  ·have hbN:bl N=A6 f+2:=by rw [c];exact hb2
   have ht:tz N=A6 f+1:=by
    have:=WO (A6 f+1) 0
    rw [show 2*0+1=1 from rfl,M0] at this
    rw [c,this]
   have hq1:q=1:=by
    rw [ht] at hq
    have:=A9 (A6 f+1)
    have e:2^(A6 f+1)*q=2^(A6 f+1)*1:=by omega
    exact Nat.eq_of_mul_eq_mul_left this e
   rw [ht,hbN,show max (E+((A6 f+2:Nat):Int)-(A6 f:Int)-1) (C9 f)=E+1 by omega,hq1,Q2,show (E+((A6 f+1:Nat):Int)-(E+1)).toNat=A6 f by omega,
    show (E+1-C9 f).toNat=(E-C9 f).toNat+1 by omega,Nat.add_mul,Q2]
   rw [I5] at c
   omega
  ·have hbN:bl N≤A6 f+1:=I8.2 (by omega)
   have hmax:max (E+(bl N:Int)-(A6 f:Int)-1) (C9 f)=E:=by
    rcases Z3 (C9 f) E with d|d
    ·have h5:=h2 d
     have h6:=K1 h5
     have h7:bl (2^A6 f)=A6 f+1:=by
      have:=E7 (n:=1) (by decide) (A6 f)
      rw [Q2,show bl 1=1 from rfl] at this
      omega
     omega
    ·omega
   rw [hmax,show (E+(tz N:Int)-E).toNat=tz N by omega,Nat.mul_comm q,←hq]
theorem C19 {d:Dyd} (hd:A5 d=true) (hs:d.neg=false) (h0:d.mag≠[]) {n:Nat} (hn:1≤n):
  ∃(q:Nat) (x1:Int),(C3 d n).1=form false q x1∧bl q=n∧Y9 d n=form false (if (C3 d n).2=true then q+1 else q) x1:=by
 obtain ⟨V,hV⟩:∃V:Nat, -(2*V:Int)≤d.exp-(2*n+4):=⟨(2*n+4-d.exp).toNat,by omega⟩
 obtain ⟨X,hX⟩:∃X:Nat,at_ d (-(2*V:Int))=X:=⟨_,v7 hs _⟩
 obtain ⟨L,u, -, -, -, -, -, -, -,q,x1,h1,h2, -, -, -,h3⟩:=Z7 hd hs h0 hn hV hX
 exact ⟨q,x1,h1,h2,h3⟩
theorem DC {d:Dyd} (hd:A5 d=true) (hs:d.neg=false) (h0:d.mag≠[]) {n:Nat} (hn:1≤n) (hn2:n≤8192):
  A5 (C3 d n).1=true∧(C3 d n).1.mag≠[]∧(C3 d n).1.neg=false∧BD d n=⟨(C3 d n).1,(C3 d n).2,0⟩∧bl (val (C3 d n).1.mag)≤n:=by
 obtain ⟨q,x1,h1,h2, -⟩:=C19 hd hs h0 hn
 have hi:inside (C3 d n).1.exp=true:=by
  obtain ⟨s,m,e⟩:=d
  exact UF hd (by omega) (by omega)
 have hq:q≠0:=fun c=>by rw [c,K2] at h2;omega
 have hR:=D0f hd hs h0 (k:=(n:Int)) (by omega) (by omega)
 rw [hi,if_pos rfl] at hR
 have f1:=OV (s:=false) (n:=q) (e:=x1)
 refine ⟨?_,by rw [h1];exact IE hq _,by rw [h1];exact OW _ _,hR,by rw [h1];have:=f1.2.2.1;omega⟩
 rw [h1] at hi ⊢
 rw [H6 hq] at hi ⊢
 rw [S2]
 have hbl:bl (q/2^tz q)≤131072:=by have:=K1 (L1 q (2^tz q));omega
 refine ⟨T9.2 (R0.2 hbl),.inr ⟨fun c=> ?_,by rw [E3];exact T0 hq,hi⟩⟩
 have h0:=T6.1 c
 have h1:=T0 hq
 omega
theorem FG {s:Bool} {m:List Nat} {e:Int} (h:A5 ⟨s,m,e⟩=true) (h0:m≠[]):(I9 ⟨s,m,e⟩).ok∧(I9 ⟨s,m,e⟩).top=e+bl (val m)∧ -20000000≤(I9 ⟨s,m,e⟩).top∧(I9 ⟨s,m,e⟩).top≤20000000:=by
 have hb:=O8 (C1 h)
 have hx:=J2 h
 have ht:(I9 ⟨s,m,e⟩).top=e+bl (val m):=by unfold I9 C7;simp only;rw [if_neg h0]
 exact ⟨B5g (d:=⟨s,m,e⟩) (Q1 (C1 h) h0),ht,by omega,by omega⟩
theorem W5 {f m:Int} (h:L2 f m=0):isF f∧1≤m∧m≤5∧rP f=(A6 f:Int)+1∧rL f=C9 f∧rW f=P8 f:=by
 rcases EE f with c|c|c
 ·subst c
  unfold L2 at h
  rw [show AZ 1=true from rfl,cond_true] at h
  split at h
  ·rename_i hm;exact ⟨.inl rfl,hm.1,hm.2,rfl,rfl,rfl⟩
  ·cases h
 ·subst c
  unfold L2 at h
  rw [show AZ 2=true from rfl,cond_true] at h
  split at h
  ·rename_i hm;exact ⟨.inr rfl,hm.1,hm.2,rfl,rfl,rfl⟩
  ·cases h
 ·unfold L2 at h
  rw [JU c] at h
  cases h
end Go.Dy

namespace Go.AI
open Go Go.RowKit Go.Proofs
set_option linter.unusedVariables false
set_option maxRecDepth 100000
set_option maxHeartbeats 1000000
theorem YF (args:List AV) (s:Spec) (h:B08 args=some s) (hp:C6 s.pre True):Contract Tryz.prog Inv 168 args s.res:=by
 unfold B08 at h
 split at h
 ·cases h
  rename_i f
  refine A4 false NS Tryz.func168 (by kernel_rfl) (by kernel_rfl) fun hok=> ?_
  rw [YL]
  rcases Dy.EE f with c|c|c
  ·subst c;exact B5 rfl rfl
  ·subst c;exact B1 rfl (B5 rfl rfl)
  ·refine B1 (decide_eq_false c.1) (B1 (decide_eq_false c.2) ?_)
   unfold frA Dy.rP Dy.rL Dy.rW
   rw [Dy.JU c,if_neg c.1,if_neg c.2,if_neg c.1,if_neg c.2,if_neg c.1,if_neg c.2]
 ·cases h
theorem YG (args:List AV) (s:Spec) (h:B09 args=some s) (hp:C6 s.pre True):Contract Tryz.prog Inv 135 args s.res:=by
 unfold B09 at h
 split at h
 ·cases h
  rename_i s m e
  obtain ⟨⟨hm,h0⟩, -⟩:=hp
  refine A4 false NS Tryz.func135 (by kernel_rfl) (by kernel_rfl) fun hok=> ?_
  have hmay:=Dy.C1 hm
  have hb:=Dy.O8 hmay
  have hx:=Dy.J2 hm
  have hv:=Dy.Q1 hmay h0
  have ho:=(Dy.FG hm h0).1
  have ht:=(Dy.FG hm h0).2.1
  rw [YM,show Dy.F3 m=Dy.bl (Dy.val m) by unfold Dy.F3;rw [if_pos hmay],wrap_i64 (n:=64-((Dy.bl (Dy.val m):Nat):Int)) (by omega) (by omega),wrap_i64 (n:=e+((Dy.bl (Dy.val m):Nat):Int)) (by omega) (by omega),←ht]
  have e1:(Dy.H3 m (64-((Dy.bl (Dy.val m):Nat):Int))).mag=Dy.dg (Dy.I9 ⟨s,m,e⟩).h∧(Dy.H3 m (64-((Dy.bl (Dy.val m):Nat):Int))).lost=(Dy.I9 ⟨s,m,e⟩).more:=by
   unfold Dy.I9
   simp only
   by_cases c:Dy.bl (Dy.val m)≤64
   ·rw [if_pos c,show (64-((Dy.bl (Dy.val m):Nat):Int))=((64-Dy.bl (Dy.val m):Nat):Int) by omega,Dy.CK hmay _ (by omega),Dy.XM hmay _ (by omega)]
    exact ⟨rfl,(decide_eq_false (by omega)).symm⟩
   ·rw [if_neg c,show (64-((Dy.bl (Dy.val m):Nat):Int))= -((Dy.bl (Dy.val m)-64:Nat):Int) by omega,Dy.o4 hmay,Dy.RT hmay]
    refine ⟨rfl,?_⟩
    congr 1
    exact propext ⟨fun h=>⟨by omega,h⟩,fun h=>h.2⟩
  rw [e1.1,e1.2]
  generalize Dy.I9 ⟨s,m,e⟩=p at*
  have hl:(Dy.dg p.h).length≤2:=Dy.J3.2 (by have:=Dy.I8.2 ho.2;omega)
  have hmy:Dy.may (Dy.dg p.h)=true:=Dy.T9.2 (by omega)
  rintro _ rfl _ rfl _ rfl _ rfl _ rfl
  rw [hmy,decide_eq_true hl,if_pos (show (true&&true)=true from rfl),Dy.E3]
 ·cases h
theorem B4i (args:List AV) (s:Spec) (h:rUp args=some s) (hp:C6 s.pre True):Contract Tryz.prog Inv 200 args s.res:=by
 unfold rUp at h
 split at h
 ·cases h
  rename_i m neg odd half more
  refine A4 false NS Tryz.func200 (by kernel_rfl) (by kernel_rfl) fun hok=> ?_
  rw [B7n]
  unfold Dy.upB
  refine A8 (fun h=> ?_) (fun h=>A8 (fun h'=> ?_) (fun h'=>A8 (fun h''=> ?_) (fun h''=>A8 (fun h3=> ?_) (fun h3=> ?_))))
  ·rw [if_pos (A1 h)]
   cases more<;>cases odd<;>rfl
  ·rw [if_neg (A0 h),if_pos (A1 h')]
  ·rw [if_neg (A0 h),if_neg (A0 h'),if_pos (A1 h'')]
   cases neg<;>cases half<;>rfl
  ·rw [if_neg (A0 h),if_neg (A0 h'),if_neg (A0 h''),if_pos (A1 h3)]
   cases neg<;>cases half<;>rfl
  ·rw [if_neg (A0 h),if_neg (A0 h'),if_neg (A0 h''),if_neg (A0 h3)]
 ·cases h
theorem A4a (args:List AV) (s:Spec) (h:D01 args=some s) (hp:C6 s.pre True):Contract Tryz.prog Inv 199 args s.res:=by
 unfold D01 at h
 split at h
 ·cases h
  rename_i b
  refine A4 false NS Tryz.func199 (by kernel_rfl) (by kernel_rfl) fun hok=> ?_
  rw [A5g]
  cases b<;>rfl
 ·cases h
theorem TR:G6 Tryz.prog Inv (look B65):=A3 (A3 (A3 (A3 NS A4a) B4i) YG) YF
theorem A4b (args:List AV) (s:Spec) (h:D07 args=some s) (hp:C6 s.pre True):Contract Tryz.prog Inv 118 args s.res:=by
 unfold D07 at h
 split at h
 ·cases h
  rename_i f m
  refine E8 false 39 (lam [(7,.unroll 2)]) TR Tryz.func118 (by kernel_rfl) rfl (EP (k:=2) (by kernel_rfl) (by kernel_rfl)) fun hok=> ?_
  rw [A31]
  rintro _ rfl _ rfl _ rfl _ rfl
  unfold Dy.L2
  cases hb:Dy.AZ f
  ·exact B5 rfl rfl
  ·refine B1 rfl (A8 (fun h=> ?_) (fun h=>A8 (fun h'=> ?_) (fun h'=> ?_)))
   ·have:=A1 h
    rw [cond_true,if_neg (by omega)];rfl
   ·have:=A1 h'
    rw [cond_true,if_neg (by omega)];rfl
   ·have:=A0 h
    have:=A0 h'
    rw [cond_true,if_pos (by omega)];rfl
 ·cases h
  rename_i f m s d e
  obtain ⟨hm, -⟩:=hp
  refine E8 false 39 (lam [(7,.unroll 2)]) TR Tryz.func118 (by kernel_rfl) rfl (EP (k:=2) (by kernel_rfl) (by kernel_rfl)) fun hok=> ?_
  rw [A32,hm]
  rintro _ rfl _ rfl _ rfl _ rfl
  unfold Dy.L2
  cases hb:Dy.AZ f
  ·exact B5 rfl rfl
  ·refine B1 rfl (A8 (fun h=> ?_) (fun h=>A8 (fun h'=> ?_) (fun h'=>⟨⟨by decide,(by decide:(0:Int)<1)⟩,B1 rfl ?_⟩)))
   ·have:=A1 h
    rw [cond_true,if_neg (by omega)];rfl
   ·have:=A1 h'
    rw [cond_true,if_neg (by omega)];rfl
   ·have:=A0 h
    have:=A0 h'
    rw [cond_true,if_pos (by omega)];rfl
 ·cases h
theorem C6y {x:Nat} (hx:x<2^64):IntKind.u64.wrap ((A7 64 (x:Int)&&&A7 64 1).toNat:Int)=((x%2:Nat):Int):=by
 have h:=Dy.ZU (w:=x) (k:=1) (by decide) hx
 rw [show (((2^1-1:Nat):Nat):Int)=1 from rfl] at h
 rw [h,T4 (by omega)]
theorem C3r (x:Nat):(((x:Nat):Int)==1)=decide (x=1):=by
 rw [o6,beq_iff_eq,decide_eq_true_eq]
 omega
theorem A19 (args:List AV) (s:Spec) (h:C16 args=some s) (hp:C6 s.pre True):Contract Tryz.prog Inv 174 args s.res:=by
 unfold C16 at h
 split at h
 ·cases h
  rename_i h top more m neg e
  obtain ⟨⟨p1,p2,p3,p4,p5⟩, -⟩:=hp
  refine A4 false TR Tryz.func174 (by kernel_rfl) (by kernel_rfl) fun hok=> ?_
  rw [A33]
  have hh:=j4 hok.1.1
  obtain ⟨v,rfl⟩:=C4 hh.1
  have hv:v<2^64:=by omega
  obtain ⟨D,hD⟩:∃D:Nat,e-top+64=D:=⟨(e-top+64).toNat,by omega⟩
  have hu:Dy.H4 ⟨v,top,more⟩ m neg e=if 64<(D:Int) then (Dy.JO (Dy.upB m neg false false true),false) else Dy.DG ⟨v,top,more⟩ m neg D:=by
   unfold Dy.H4
   simp only
   rw [hD,A2]
  rw [wrap_i64 (n:=e-top) (by omega) (by omega),wrap_i64 (n:=e-top+64) (by omega) (by omega),hD,wrap_i64 (n:=(D:Int)-1) (by omega) (by omega),show ((D:Int)-1).toNat=D-1 by omega]
  simp only [A2]
  rw [hu]
  rcases Z3 64 (D:Int) with c|c
  ·rw [if_pos c]
   exact B5 (decide_eq_true c) rfl
  ·rw [if_neg (by omega)]
   refine B1 (decide_eq_false (by omega)) ?_
   have q1:v/2^D<2^63:=by
    rw [Nat.div_lt_iff_lt_mul (A9 _)]
    have:2^1≤2^D:=B3 (by decide) (by omega)
    omega
   have q2:v/2^(D-1)<2^64:=L8 (L1 _ _) hv
   have hpw:2^(D-1)<2^64:=N4 (by decide) (by omega)
   have hp0:=A9 (D-1)
   have e1:(v:Int).fdiv (2^min D 64)=((v/2^D:Nat):Int):=by rw [fdiv_pow (by omega),A2,J1 (by omega)]
   have e2:(v:Int).fdiv (2^min (D-1) 64)=((v/2^(D-1):Nat):Int):=by rw [fdiv_pow (by omega),A2,J1 (by omega)]
   have e4:IntKind.u64.wrap (IntKind.u64.wrap ((1:Int)*(2:Int)^min (D-1) 64)-1)=((2^(D-1)-1:Nat):Int):=by
    rw [J1 (by omega),Int.one_mul,show (2:Int)^(D-1)=((2^(D-1):Nat):Int) by rw [MC];rfl,T4 hpw,show ((2^(D-1):Nat):Int)-1=((2^(D-1)-1:Nat):Int) by omega,T4 (by omega)]
   rw [e2,C6y q2,e4,Dy.ZU (by omega) hv,T4 (n:=v%2^(D-1)) (L8 (Nat.mod_le _ _) hv)]
   have hb:=Dy.YS
   have key:∀(A B C b:Bool) (X:Int),X=((v/2^D:Nat):Int)→A=decide (v/2^D%2=1)→B=Dy.GS v D→C=(more||Dy.NY v D)→b=(!Dy.GS v D&& !(more||Dy.NY v D))→
     AV.tup [.num .u64 (IntKind.u64.wrap (X+((Dy.JO (Dy.upB m neg A B C):Nat):Int))),.bool b]=AV.tup [.num .u64 ((Dy.DG ⟨v,top,more⟩ m neg D).1:Nat),.bool (Dy.DG ⟨v,top,more⟩ m neg D).2]:=by
    rintro _ _ _ _ _ rfl rfl rfl rfl rfl
    unfold Dy.DG
    simp only
    rw [←Int.natCast_add,T4 (by have:=hb (Dy.upB m neg (decide (v/2^D%2=1)) (Dy.GS v D) (more||Dy.NY v D));omega)]
   have hhalf:Dy.GS v D=decide (v/2^(D-1)%2=1):=rfl
   have hrest:Dy.NY v D=decide (v%2^(D-1)≠0):=rfl
   have hHt:(!decide ((((v/2^(D-1)%2:Nat)):Int)=1))= !Dy.GS v D:=by
    rw [hhalf];congr 1
    exact decide_eq_decide.2 (by omega)
   have hR:(decide (((v%2^(D-1):Nat):Int)=0))= !Dy.NY v D:=by
    rw [hrest,o6]
    simp only [decide_eq_true_eq,Bool.not_eq_true',decide_eq_false_iff_not,ne_eq,Decidable.not_not]
    omega
   rw [hHt,hR,C3r,←hhalf]
   refine A8 (fun h=> ?_) (fun h=> ?_)
   ·rw [e1,C6y (by omega),C3r]
    refine ⟨by omega,B5 (decide_eq_true (by omega)) ⟨by omega,?_⟩⟩
    cases more
    ·refine B1 rfl ⟨by omega,A8 (fun h=> ?_) (fun h=> ?_)⟩
     ·have h:Dy.GS v D=false:=by simpa using h
      exact key _ _ _ _ _ rfl rfl rfl (by simp) (by rw [h];simp)
     ·have h:Dy.GS v D=true:=by simpa using h
      exact key _ _ _ _ _ rfl rfl rfl (by simp) (by rw [h];simp)
    ·refine B5 rfl (A8 (fun h=> ?_) (fun h=> ?_))
     ·exact key _ _ _ _ _ rfl rfl rfl (by simp) (by simp)
     ·exact key _ _ _ _ _ rfl rfl rfl (by simp) (by simp)
   ·have hD64:D=64:=by have:=A0 h;omega
    have hz:v/2^D=0:=by rw [hD64];exact Nat.div_eq_of_lt hv
    have hX:(0:Int)=((v/2^D:Nat):Int):=by rw [hz];rfl
    have hA:(IntKind.u64.wrap ((0:Nat):Int)==1)=decide (v/2^D%2=1):=by rw [hz];rfl
    refine B5 (decide_eq_true (by omega)) ⟨by omega,?_⟩
    cases more
    ·refine B1 rfl ⟨by omega,A8 (fun h=> ?_) (fun h=> ?_)⟩
     ·have h:Dy.GS v D=false:=by simpa using h
      exact key _ _ _ _ _ hX hA rfl (by simp) (by rw [h];simp)
     ·have h:Dy.GS v D=true:=by simpa using h
      exact key _ _ _ _ _ hX hA rfl (by simp) (by rw [h];simp)
    ·refine B5 rfl (A8 (fun h=> ?_) (fun h=> ?_))
     ·exact key _ _ _ _ _ hX hA rfl (by simp) (by simp)
     ·exact key _ _ _ _ _ hX hA rfl (by simp) (by simp)
 ·cases h
theorem B4y:G6 Tryz.prog Inv (look D1a):=A3 (A3 TR A19) A4b
end Go.AI

namespace Go.AI
open Go Go.RowKit Go.Proofs
set_option linter.unusedVariables false
set_option maxRecDepth 100000
set_option maxHeartbeats 1000000
theorem A48 (args:List AV) (s:Spec) (h:D08 args=some s) (hp:C6 s.pre True):Contract Tryz.prog Inv 61 args s.res:=by
 unfold D08 at h
 split at h
 ·cases h
  rename_i f m neg
  refine A4 false B4y Tryz.func61 (by kernel_rfl) (by kernel_rfl) fun hok=> ?_
  rw [A5e]
  rintro _ rfl _ rfl _ rfl _ rfl
  refine A8 (fun h=> ?_) (fun h=> ?_)
  ·have h:¬Dy.L2 f m=0:=by simpa using h
   rw [decide_eq_false h]
   rfl
  ·have h:Dy.L2 f m=0:=by simpa using h
   obtain ⟨hf,m1,m2, -⟩:=Dy.W5 h
   rw [h,show decide ((0:Int)=0)=true from rfl,cond_true]
   unfold Dy.NX Dy.D5
   refine A8 (fun h1=>⟨hf,?_⟩) (fun h1=>A8 (fun h2=>A8 (fun h3=>⟨hf,?_⟩) (fun h3=>A8 (fun h4=>absurd (A1 h4) (by have:=A1 h2;omega)) (fun h4=>⟨hf,?_⟩)))
    (fun h2=>A8 (fun h3=>A8 (fun h4=>⟨hf,?_⟩) (fun h4=>⟨hf,?_⟩)) (fun h3=>⟨hf,?_⟩)))
   ·rintro _ rfl _ rfl
    rw [if_pos (show m=3∨(m=4∧neg=true)∨(m=5∧neg=false) from .inl (A1 h1))]
   ·rintro _ rfl _ rfl
    rw [if_pos (show m=3∨(m=4∧neg=true)∨(m=5∧neg=false) from .inr (.inl ⟨A1 h2,h3⟩))]
   ·rintro _ rfl _ rfl
    have a1:=A0 h1
    have a2:=A1 h2
    rw [if_neg (show¬(m=3∨(m=4∧neg=true)∨(m=5∧neg=false)) by rintro (c|c|c)<;>simp_all)]
   ·rintro _ rfl _ rfl
    rw [if_pos (show m=3∨(m=4∧neg=true)∨(m=5∧neg=false) from .inr (.inr ⟨A1 h3,by simpa using h4⟩))]
   ·rintro _ rfl _ rfl
    have a1:=A0 h1
    have a2:=A0 h2
    have a4:neg=true:=by simpa using h4
    rw [if_neg (show¬(m=3∨(m=4∧neg=true)∨(m=5∧neg=false)) by rintro (c|c|c)<;>simp_all)]
   ·rintro _ rfl _ rfl
    have a1:=A0 h1
    have a2:=A0 h2
    have a3:=A0 h3
    rw [if_neg (show¬(m=3∨(m=4∧neg=true)∨(m=5∧neg=false)) by rintro (c|c|c)<;>simp_all)]
 ·cases h
theorem B4z:G6 Tryz.prog Inv (look D1b):=A3 B4y A48
theorem A4c (args:List AV) (s:Spec) (h:D0c args=some s) (hp:C6 s.pre True):Contract Tryz.prog Inv 136 args s.res:=by
 unfold D0c at h
 split at h
 ·cases h
  rename_i h top more f a b c m neg
  obtain ⟨⟨p1,rfl,rfl,rfl,p2,p3,p4⟩, -⟩:=hp
  refine A4 false B4z Tryz.func136 (by kernel_rfl) (by kernel_rfl) fun hok=> ?_
  rw [A5h]
  have hh:=j4 hok.1.1
  obtain ⟨v,rfl⟩:=C4 hh.1
  obtain ⟨hf,m1,m2,eP,eL,eW⟩:=Dy.W5 p1
  rw [eP,eL,eW,p1]
  have hF:=Dy.J0 hf
  rw [A2]
  have hpk:(Dy.Prt.mk v top more).ok:=⟨by simp only;omega,by simp only;omega⟩
  obtain ⟨E,hE⟩:∃E,Dy.K6 f ⟨v,top,more⟩=E:=⟨_,rfl⟩
  have hge:=Dy.OI f ⟨v,top,more⟩
  rw [hE] at hge
  simp only at hge
  rw [wrap_i64 (n:=top-((Dy.A6 f:Int)+1)) (by omega) (by omega),show (if Dy.C9 f>top-((Dy.A6 f:Int)+1) then Dy.C9 f else top-((Dy.A6 f:Int)+1))=E by rw [←hE];unfold Dy.K6;simp only;split<;>omega]
  obtain ⟨N,hN⟩:∃N,(Dy.H4 ⟨v,top,more⟩ m neg (Dy.K6 f ⟨v,top,more⟩)).1=N:=⟨_,rfl⟩
  have hle:=Dy.A2l hf (m:=m) (neg:=neg) hpk
  rw [hN] at hle
  have hbN:=Dy.K1 hle
  have hb2:Dy.bl (2^(Dy.A6 f+1))≤60:=Dy.I8.2 (N4 (by decide) (by omega))
  have hwN:Dy.R4 f m neg ⟨v,top,more⟩=if Dy.P8 f<Dy.bl N+E then (Dy.NX f m neg,20)
    else ((if neg then 2^Dy.M8 f else 0)+((E-Dy.C9 f).toNat*2^Dy.A6 f+N),
     if (Dy.H4 ⟨v,top,more⟩ m neg E).2 then 0 else if (Dy.bl (Dy.H4 ⟨v,top,more⟩ m neg (top-(Dy.A6 f+1))).1:Int)+top-(Dy.A6 f+1)<Dy.C9 f+(Dy.A6 f+1) then 24 else 16):=by
   unfold Dy.R4
   rw [hN,hE]
  refine ⟨⟨by omega,by omega,by omega,by omega,by omega⟩,?_⟩
  rw [hE] at hN
  rw [hN]
  rintro _ rfl _ rfl
  rw [A2,wrap_i64 (n:=((Dy.bl N:Nat):Int)+E) (by omega) (by omega),hwN]
  refine A8 (fun h=> ?_) (fun h=> ?_)
  ·have h:=A1 h
   rintro _ rfl _ rfl
   rw [if_pos (by omega),show decide ((0:Int)=0)=true from rfl,cond_true]
  ·have h:=A0 h
   have hw:¬Dy.P8 f<Dy.bl N+E:=by omega
   rw [if_neg hw]
   obtain ⟨z1,z2,z3,z4,z5,z6,z7,z8⟩:=Dy.PR hf (m:=m) (neg:=neg) hpk hE (by rw [hE];exact hN) ⟨p3,p4⟩ hw
   rw [NP (by omega) E ⟨by omega,by omega⟩]
   refine B4 fun b5 l6 n7 hd=> ?_
   rintro _ -
   have hd:Dy.Dyd.mk b5 l6 n7=Dy.form neg N E:=hd
   rw [←hd] at z1 z3 z5 z2
   simp only at z3 z5 z2
   refine ⟨⟨hf,z1,z2,z3⟩,?_⟩
   have tail:∀(W:Int),W=(((if neg=true then 2^Dy.M8 f else 0)+((E-Dy.C9 f).toNat*2^Dy.A6 f+N):Nat):Int)→
     bif (Dy.H4 ⟨v,top,more⟩ m neg E).2 then AV.tup [.num .u64 W,.num .u8 0]=AV.tup [.num .u64 (((if neg=true then 2^Dy.M8 f else 0)+((E-Dy.C9 f).toNat*2^Dy.A6 f+N):Nat):Int),
       .num .u8 (if (Dy.H4 ⟨v,top,more⟩ m neg E).2=true then 0 else if (Dy.bl (Dy.H4 ⟨v,top,more⟩ m neg (top-(Dy.A6 f+1))).1:Int)+top-(Dy.A6 f+1)<Dy.C9 f+(Dy.A6 f+1) then 24 else 16)]
     else ((-1073741824:Int)≤top∧top≤1073741824∧(-1073741824:Int)≤top-((Dy.A6 f:Int)+1)∧top-((Dy.A6 f:Int)+1)≤1073741824∧(1:Int)≤top-((Dy.A6 f:Int)+1)-top+64)∧
      ∀n13:Int,n13=((Dy.H4 ⟨v,top,more⟩ m neg (top-((Dy.A6 f:Int)+1))).1:Nat)→∀b14:Bool,b14=(Dy.H4 ⟨v,top,more⟩ m neg (top-((Dy.A6 f:Int)+1))).2→
       bif decide (IntKind.i64.wrap (IntKind.i64.wrap (((Dy.bl n13.toNat:Nat):Int)+top)-((Dy.A6 f:Int)+1))<IntKind.i64.wrap (Dy.C9 f+((Dy.A6 f:Int)+1))) then
        AV.tup [.num .u64 W,.num .u8 24]=AV.tup [.num .u64 (((if neg=true then 2^Dy.M8 f else 0)+((E-Dy.C9 f).toNat*2^Dy.A6 f+N):Nat):Int),
       .num .u8 (if (Dy.H4 ⟨v,top,more⟩ m neg E).2=true then 0 else if (Dy.bl (Dy.H4 ⟨v,top,more⟩ m neg (top-(Dy.A6 f+1))).1:Int)+top-(Dy.A6 f+1)<Dy.C9 f+(Dy.A6 f+1) then 24 else 16)]
       else AV.tup [.num .u64 W,.num .u8 16]=AV.tup [.num .u64 (((if neg=true then 2^Dy.M8 f else 0)+((E-Dy.C9 f).toNat*2^Dy.A6 f+N):Nat):Int),
       .num .u8 (if (Dy.H4 ⟨v,top,more⟩ m neg E).2=true then 0 else if (Dy.bl (Dy.H4 ⟨v,top,more⟩ m neg (top-(Dy.A6 f+1))).1:Int)+top-(Dy.A6 f+1)<Dy.C9 f+(Dy.A6 f+1) then 24 else 16)]:=by
    rintro _ rfl
    refine A8 (fun h=> ?_) (fun h=>⟨⟨by omega,by omega,by omega,by omega,by omega⟩,?_⟩)
    ·rw [if_pos h]
    ·rintro _ rfl _ -
     rw [A2,if_neg (show¬(Dy.H4 ⟨v,top,more⟩ m neg E).2=true by rw [h];decide)]
     have hu:(Dy.H4 ⟨v,top,more⟩ m neg (top-((Dy.A6 f:Int)+1))).1<2^64:=by
      unfold Dy.H4
      rw [if_neg (by show¬(64:Int)<top-((Dy.A6 f:Int)+1)-top+64;omega)]
      have:=Dy.KD hpk m neg (d:=(top-((Dy.A6 f:Int)+1)-top+64).toNat) (by omega)
      exact L8 this (N4 (by decide) (by omega))
     have hub:=Dy.I8.2 hu
     rw [wrap_i64 (n:=((Dy.bl (Dy.H4 ⟨v,top,more⟩ m neg (top-((Dy.A6 f:Int)+1))).1:Nat):Int)+top) (by omega) (by omega),wrap_i64 (n:=((Dy.bl (Dy.H4 ⟨v,top,more⟩ m neg (top-((Dy.A6 f:Int)+1))).1:Nat):Int)+top-((Dy.A6 f:Int)+1)) (by omega) (by omega),wrap_i64 (n:=Dy.C9 f+((Dy.A6 f:Int)+1)) (by omega) (by omega)]
     refine A8 (fun h=> ?_) (fun h=> ?_)
     ·rw [if_pos (A1 h)]
     ·rw [if_neg (A0 h)]
   rintro _ rfl _ -
   refine A8 (fun hn=>⟨hf,?_⟩) (fun hn=> ?_)
   ·have hn:=A1 hn
    have hn0:N=0:=by omega
    have hE0:=z4 hn0
    rintro _ rfl _ -
    refine tail _ ?_
    rw [hE0,hn0,Int.sub_self]
    unfold Dy.D5
    rw [show (0:Int).toNat=0 from rfl,Nat.zero_mul]
    rfl
   ·have hn:=A0 hn
    obtain ⟨y1,y2,y3⟩:=z5 (by omega)
    refine tail _ ?_
    rw [if_neg y1,y3,y2]
    rfl
 ·cases h
theorem A1g:G6 Tryz.prog Inv (look C4s):=A3 B4z A4c
theorem A18 (args:List AV) (s:Spec) (h:C14 args=some s) (hp:C6 s.pre True):Contract Tryz.prog Inv 156 args s.res:=by
 unfold C14 at h
 split at h
 ·cases h
  rename_i f m s d e
  obtain ⟨⟨p1,hm⟩, -⟩:=hp
  refine A4 false A1g Tryz.func156 (by kernel_rfl) (by kernel_rfl) fun hok=> ?_
  rw [A30,if_pos hm,p1]
  refine ⟨hm,?_⟩
  rintro _ rfl _ rfl _ rfl _ rfl
  refine B1 rfl ?_
  unfold Dy.H8 Dy.F0
  by_cases h0:d=[]
  ·rw [if_pos h0,if_pos h0]
   exact B5 rfl rfl
  ·rw [if_neg h0,if_neg h0]
   have hp:=Dy.FG hm h0
   refine B1 (decide_eq_false (by split<;>decide)) ⟨⟨hm,h0⟩,?_⟩
   rintro _ rfl _ rfl _ rfl
   have h1:=hp.1.1
   refine ⟨⟨rfl,rfl,rfl,rfl,by omega,hp.2.2.1,hp.2.2.2⟩,?_⟩
   rw [A2]
   rintro _ rfl _ rfl
   rfl
 ·cases h
theorem A49 (args:List AV) (s:Spec) (h:C13 args=some s) (hp:C6 s.pre True):Contract Tryz.prog Inv 71 args s.res:=by
 unfold C13 at h
 split at h
 ·cases h
  rename_i f m s d e
  obtain ⟨⟨p1,hm,rfl⟩, -⟩:=hp
  refine A4 false A1g Tryz.func71 (by kernel_rfl) (by kernel_rfl) fun hok=> ?_
  rw [A5f,if_pos hm,p1]
  refine ⟨hm,?_⟩
  rintro _ rfl _ rfl _ rfl _ rfl
  refine B1 rfl (B1 rfl ?_)
  unfold Dy.S3 Dy.F0
  by_cases h0:d=[]
  ·rw [if_pos h0,if_pos h0]
   exact B5 rfl rfl
  ·rw [if_neg h0,if_neg h0]
   refine B1 (decide_eq_false (by split<;>decide)) ?_
   obtain ⟨r1,r2,r3,r4, -⟩:=Dy.DC hm rfl h0 (n:=64) (by decide) (by decide)
   rw [show ((64:Nat):Int)=64 from rfl] at r1 r2 r3 r4
   rw [r4]
   refine B4 fun b5 l6 n7 hd=> ?_
   rintro _ rfl _ -
   have hd:Dy.Dyd.mk b5 l6 n7=(Dy.C3 ⟨false,d,e⟩ 64).1:=hd
   rw [←hd] at r1 r2 ⊢
   have hp:=Dy.FG r1 r2
   refine ⟨⟨r1,r2⟩,?_⟩
   rintro _ rfl _ rfl _ rfl
   have h1:=hp.1.1
   rw [A2]
   refine A8 (fun h=>⟨⟨rfl,rfl,rfl,rfl,by omega,hp.2.2.1,hp.2.2.2⟩,?_⟩) (fun h=>⟨⟨rfl,rfl,rfl,rfl,by omega,hp.2.2.1,hp.2.2.2⟩,?_⟩)
   ·rw [h,Bool.true_or]
    rintro _ rfl _ rfl
    rfl
   ·rw [h,Bool.false_or]
    rintro _ rfl _ rfl
    rfl
 ·cases h
theorem B50:G6 Tryz.prog Inv (look D1c):=A3 (A3 A1g A49) A18
theorem A9h (args:List AV) (s:Spec) (h:C9v args=some s) (hp:C6 s.pre True):Contract Tryz.prog Inv 62 args s.res:=by
 unfold C9v at h
 split at h
 ·cases h
  refine A4 false B50 Tryz.func62 (by kernel_rfl) (by kernel_rfl) fun hok=> ?_
  rw [B17]
  refine A8 (fun h=> ?_) (fun h=> ?_)
  ·rw [if_neg (by simpa using h)]
  ·rw [if_pos (by simpa using h)]
 ·cases h
theorem TS:G6 Tryz.prog Inv (look B66):=A3 B50 A9h
end Go.AI

namespace Go.Dy
set_option maxRecDepth 100000
theorem A20 {d:Dyd} (hd:A5 d=true) (hs:d.neg=false) (h0:d.mag≠[]) {n:Nat} (hn:1≤n) (hn2:n≤8192) (he: -200000≤d.exp): -16777216≤C7 (C3 d n).1-n∧C7 (C3 d n).1-n≤16777216:=by
 obtain ⟨V,hV⟩:∃V:Nat,V=200000:=⟨_,rfl⟩
 obtain ⟨X,hX⟩:∃X:Nat,at_ d (-(2*V:Int))=X:=⟨_,v7 hs _⟩
 obtain ⟨L,u, -, -, -, -, -, -, -,q,x1,h1,h2,h4, -, -, -⟩:=Z7 hd hs h0 hn (by omega) hX
 have hi:inside (C3 d n).1.exp=true:=by
  obtain ⟨s,m,e⟩:=d
  exact UF hd (by omega) (by omega)
 have hq:q≠0:=fun c=>by rw [c,K2] at h2;omega
 rw [h1] at hi ⊢
 have hi:=N5.1 hi
 have ht:=O6 (s:=false) (e:=x1) hq
 rw [H6 hq] at hi
 simp only at hi
 rw [ht]
 omega
theorem C18 (z D:Int) (high:Bool):CA (-z) D high= -CA z D (!high):=by
 unfold CA
 cases high<;>simp
theorem D10 (n:Nat):sgn true n= -sgn false n:=by
 unfold sgn
 simp
theorem A1t {s:Bool} {m:List Nat} {e:Int} {m':List Nat} {e' n:Int} (ha:A5 ⟨s,m,e⟩=true) (hb:A5 ⟨false,m',e'⟩=true) (h0:m'≠[]) (hm:m≠[]) (hn:1≤n) {S t:Nat} (hS:LJ (val m) (val m') n=S) (ht:((bl (val m*2^S/val m'):Int)-n).toNat=t) (high:Bool):
  V5 ⟨s,m,e⟩ ⟨false,m',e'⟩ n high=C8 (CA (sgn s (val m*2^S)) ((val m'*2^t:Nat):Int) high) (e-e'-S+t):=by
 have hN:=Q1 (C1 hb) h0
 have hSv:LJ (val m) (val m') n=(n+1+(bl (val m'):Int)-(bl (val m):Int)).toNat:=rfl
 have hNp:0<val m':=by omega
 have hp:=A9 t
 unfold V5 GC
 simp only
 rw [if_neg hm,hS,r8 _ _ _ _ hn,ht]
 simp only
 have hM:=Q1 (C1 ha) hm
 have hs:(s !=false)=s:=by cases s<;>rfl
 rw [hs]
 have hX0:val m*2^S≠0:=Nat.mul_ne_zero hM (Nat.pos_iff_ne_zero.1 (A9 S))
 have hbX:bl (val m*2^S)=bl (val m)+S:=E7 hM S
 have hQ2:2^n.toNat≤val m*2^S/val m':=by
  rw [K8 hNp]
  have h1:=P9 (val m')
  have h2:=W6 hX0
  have h3:2^n.toNat*val m'≤2^n.toNat*2^bl (val m'):=Nat.mul_le_mul_left _ (Nat.le_of_lt h1)
  rw [←B8] at h3
  have h4:2^(n.toNat+bl (val m'))≤2^(bl (val m*2^S)-1):=B3 (by decide) (by omega)
  omega
 have hlb:=a9.2 hQ2
 have hbW:=C5 (val m*2^S/val m') t
 have hW0:val m*2^S/val m'/2^t≠0:=fun e=>by rw [e,K2] at hbW;omega
 have hdiv:val m*2^S/val m'/2^t=val m*2^S/(val m'*2^t):=Nat.div_div_eq_div_mul _ _ _
 have hlost:(decide (val m*2^S/val m'%2^t≠0)||decide (val m*2^S%val m'≠0))=decide (val m*2^S%(val m'*2^t)≠0):=by
  rw [Nat.mod_mul,o6]
  simp only [Bool.or_eq_true,decide_eq_true_eq,ne_eq,Nat.add_eq_zero_iff,Nat.mul_eq_zero]
  constructor
  ·rintro (h|h) ⟨h1,h2|h2⟩
   ·omega
   ·exact h h2
   ·exact h h1
   ·exact h h1
  ·intro h
   by_cases c:val m*2^S%val m'=0
   ·exact .inl fun h2=>h ⟨c,.inr h2⟩
   ·exact .inr c
 rw [hlost]
 have hr:=UE s (val m*2^S) (Nat.mul_pos hNp hp) high
 rw [hr]
 have hneg:(form s (val m*2^S/val m'/2^t) (e-e' - ↑S+↑t)).neg=s:=by rw [H6 hW0]
 unfold CL
 rw [hneg]
 by_cases c:(decide (val m*2^S%(val m'*2^t)≠0)&&(s !=high))=true
 ·rw [if_pos c,if_pos c,O6 hW0,hbW,show e-e'-(S:Int)+(t:Int)+((bl (val m*2^S/val m')-t:Nat):Int)-n=e-e'-S+t by omega,W2,MZ,hdiv]
  unfold sgn
  split<;>omega
 ·rw [if_neg c,if_neg c,W2,hdiv]
theorem A1v {m:List Nat} {e:Int} {m':List Nat} {e' n:Int} (ha:A5 ⟨false,m,e⟩=true) (hb:A5 ⟨false,m',e'⟩=true) (h0:m'≠[]) (hm:m≠[]) (hn:1≤n) (high:Bool):
  V5 ⟨true,m,e⟩ ⟨false,m',e'⟩ n high=G9 (V5 ⟨false,m,e⟩ ⟨false,m',e'⟩ n (!high)):=by
 have ha':A5 ⟨true,m,e⟩=true:=by
  have h:=ha
  rw [S2] at h ⊢
  exact ⟨h.1,.inr ⟨hm,h.2.elim (fun c=>absurd c.1 hm) (fun c=>c.2)⟩⟩
 rw [A1t ha' hb h0 hm hn rfl rfl high,A1t ha hb h0 hm hn rfl rfl (!high),D10,C18,EV]
structure HalfF (X Y:Dyd) (N:Nat):Prop where
 mS:A5 (sqD X Y)=true
 nS:(sqD X Y).neg=false
 zS:(sqD X Y).mag≠[]
 rS: -16777216≤C7 (C3 (sqD X Y) N).1-N∧C7 (C3 (sqD X Y) N).1-N≤16777216
 mA:A5 (B7 X)=true
 fs1:Fit (sLo (sqD X Y) N) 8193 20000
 fs2:Fit (sHi (sqD X Y) N) 8193 20000
 fa1:Fit (C2 (sLo (sqD X Y) N) (B7 X)) 48194 68194
 fa2:Fit (C2 (sHi (sqD X Y) N) (B7 X)) 48194 68194
 fe1:Fit (O7 (C2 (sLo (sqD X Y) N) (B7 X)) N false) 8193 124582
 fe2:Fit (O7 (C2 (sHi (sqD X Y) N) (B7 X)) N true) 8193 124582
 fg1:Fit (gLo (sqD X Y) (B7 X) N) 8193 124583
 fg2:Fit (gHi (sqD X Y) (B7 X) N) 8193 124583
 ng1:(gLo (sqD X Y) (B7 X) N).neg=false
 ng2:(gHi (sqD X Y) (B7 X) N).neg=false
 mg1:(gLo (sqD X Y) (B7 X) N).mag≠[]
 mg2:(gHi (sqD X Y) (B7 X) N).mag≠[]
 rG: -16777216≤C7 (C3 (gHi (sqD X Y) (B7 X) N) N).1-N∧C7 (C3 (gHi (sqD X Y) (B7 X) N) N).1-N≤16777216
 fl1:Fit (o0 (sqD X Y) (B7 X) N) 8193 20000
 fl2:Fit (AE (sqD X Y) (B7 X) N) 8193 20000
 nl1:(o0 (sqD X Y) (B7 X) N).neg=false
 nl2:(AE (sqD X Y) (B7 X) N).neg=false
 ml1:(o0 (sqD X Y) (B7 X) N).mag≠[]
 ml2:(AE (sqD X Y) (B7 X) N).mag≠[]
 fy:Fit (shD (B7 Y) (-1)) 1100 1101
 ny:(shD (B7 Y) (-1)).neg=false
 y0:Y.mag≠[]
 fY:Fit (B7 Y) 1100 1100
 fq1:Fit (BQ (sqD X Y) (B7 X) (B7 Y) N) 8193 100000
 fq2:Fit (DE (sqD X Y) (B7 X) (B7 Y) N) 8193 100000
theorem B2n {X Y:Dyd} (off:offZ (B7 X) (B7 Y)) {N:Nat} (n1:20≤N) (n2:N≤8192):HalfF X Y N:=by
 obtain ⟨V,hV⟩:∃V,V=crV:=⟨_,rfl⟩
 obtain ⟨ho,hp,fx,fy,fS, -⟩:=TL off hV
 obtain ⟨-, -, -,⟨f1,f2⟩, -⟩:=D0z ho hp (n:=N) (by omega) n2
 obtain ⟨-, -, -, -, -, -,⟨fa1,fa2⟩,⟨fe1,fe2⟩,⟨fg1,fg2⟩, -, -, -, -, -, -, -,⟨ng1,ng2⟩,⟨mg1,mg2⟩⟩:=C7u ho hp fx n1 n2
 obtain ⟨-, -, -, -, -, -, -, -, -,⟨fl1,fl2⟩,⟨nl1,nl2⟩,⟨ml1,ml2⟩, -⟩:=B9a ho hp fx n1 n2
 obtain ⟨-, -, -, -, -, -, -, -, -, -,⟨fq1,fq2⟩,fsy,nsy, -⟩:=A6d ho hp fx fy n1 n2
 have eS:=ho.eS
 exact ⟨ho.mS,ho.nS,ho.S0,A20 ho.mS ho.nS ho.S0 (by omega) n2 (by have:=ho.eS;omega),off.mx,f1,f2,fa1,fa2,fe1,fe2,fg1,fg2,ng1,ng2,mg1,mg2,
  A20 fg2.may ng2 mg2 (by omega) n2 (by have:=fg2.lo;omega),fl1,fl2,nl1,nl2,ml1,ml2,fsy,nsy,off.y0,fy,fq1,fq2⟩
end Go.Dy

namespace Go.AI
open Dy Dyd IntKind
open Go Go.RowKit Go.Proofs
set_option linter.unusedVariables false
set_option maxRecDepth 100000
set_option maxHeartbeats 0
theorem B7o (n:Int) (s:Bool) (m:List Nat) (e:Int) (s':Bool) (m':List Nat) (e':Int) (t:Bool) (l:List Nat) (f:Int) (t':Bool) (l':List Nat) (f':Int) (Q:AV→Prop):(evF Tryz.prog (look B66) (lam []) false Tryz.f74 [.num .i64 n,.agg [.bool s,.dig [2] m,.num .i64 e,.bool s',.dig [2] m',.num .i64 e'],.agg [.bool t,.dig [3] l,.num .i64 f,.bool t',.dig [3] l',.num .i64 f']] Q)=((A5 (mk s m e)=true∧A5 (mk t l f)=true∧A5 (C2 (mk s m e) (mk t l f))=true)∧dyF (C2 (mk s m e) (mk t l f)) fun b1 l2 n3=>(A5 (mk s' m' e')=true∧A5 (mk t' l' f')=true∧A5 (C2 (mk s' m' e') (mk t' l' f'))=true)∧dyF (C2 (mk s' m' e') (mk t' l' f')) fun b4 l5 n6=>(mid (mk b1 l2 n3)∧mid (mk b4 l5 n6)∧1≤n∧n≤8192)∧dyF (O7 (mk b1 l2 n3) n false) fun b7 l8 n9=>dyF (O7 (mk b4 l5 n6) n true) fun b10 l11 n12=>Q (.agg [.bool b7,.dig [0] l8,.num .i64 n9,.bool b10,.dig [0] l11,.num .i64 n12])):=by kernel_rfl
theorem B1k (n:Int) (s:Bool) (m:List Nat) (e:Int) (s':Bool) (m':List Nat) (e':Int) (Q:AV→Prop):(evF Tryz.prog (look B66) (lam []) false Tryz.f82 [.num .i64 n,.agg [.bool s,.dig [2] m,.num .i64 e,.bool s',.dig [2] m',.num .i64 e']] Q)=(bif decide ((if A5 (mk s m e)=true then F0 (mk s m e) else (0:Int))>0) then dyF (BD (mk s m e) n).num fun b1 l2 n3=>∀b4,b4=(BD (mk s m e) n).lost→∀n5,n5=(BD (mk s m e) n).err→bif decide ((if A5 (mk s' m' e')=true then F0 (mk s' m' e') else (0:Int))>0) then dyF (BD (mk s' m' e') n).num fun b6 l7 n8=>∀b9,b9=(BD (mk s' m' e') n).lost→∀n10,n10=(BD (mk s' m' e') n).err→bif b9 then dyF (K0 (i64.wrap ((if A5 (mk b6 l7 n8)=true then C7 (mk b6 l7 n8) else (0:Int))-n))) fun b11 l12 n13=>(A5 (mk b6 l7 n8)=true∧A5 (mk b11 l12 n13)=true∧A5 (C2 (mk b6 l7 n8) (mk b11 l12 n13))=true)∧dyF (C2 (mk b6 l7 n8) (mk b11 l12 n13)) fun b14 l15 n16=>Q (.agg [.bool b1,.dig [0] l2,.num .i64 n3,.bool b14,.dig [0] l15,.num .i64 n16]) else Q (.agg [.bool b1,.dig [0] l2,.num .i64 n3,.bool b6,.dig [0] l7,.num .i64 n8]) else Q (.agg [.bool b1,.dig [0] l2,.num .i64 n3,.bool false,.dig [0] [],.num .i64 0]) else bif decide ((if A5 (mk s' m' e')=true then F0 (mk s' m' e') else (0:Int))>0) then dyF (BD (mk s' m' e') n).num fun b17 l18 n19=>∀b20,b20=(BD (mk s' m' e') n).lost→∀n21,n21=(BD (mk s' m' e') n).err→bif b20 then dyF (K0 (i64.wrap ((if A5 (mk b17 l18 n19)=true then C7 (mk b17 l18 n19) else (0:Int))-n))) fun b22 l23 n24=>(A5 (mk b17 l18 n19)=true∧A5 (mk b22 l23 n24)=true∧A5 (C2 (mk b17 l18 n19) (mk b22 l23 n24))=true)∧dyF (C2 (mk b17 l18 n19) (mk b22 l23 n24)) fun b25 l26 n27=>Q (.agg [.bool false,.dig [0] [],.num .i64 0,.bool b25,.dig [0] l26,.num .i64 n27]) else Q (.agg [.bool false,.dig [0] [],.num .i64 0,.bool b17,.dig [0] l18,.num .i64 n19]) else Q (.agg [.bool false,.dig [0] [],.num .i64 0,.bool false,.dig [0] [],.num .i64 0])):=by kernel_rfl
theorem A34 (s:Bool) (m:List Nat) (e:Int) (Q:AV→Prop):(evF Tryz.prog (look B66) (lam []) false Tryz.f155 [.agg [.bool s,.dig [1] m,.num .i64 e]] Q)=(dyF (K0 (i64.wrap (i64.wrap ((if A5 (mk s m e)=true then C7 (mk s m e) else (0:Int))-64)-2))) fun b1 l2 n3=>bif s then (A5 (mk s m e)=true∧A5 (mk b1 l2 n3)=true∧A5 (GF (mk s m e) (mk b1 l2 n3))=true)∧dyF (GF (mk s m e) (mk b1 l2 n3)) fun b4 l5 n6=>Q (.agg [.bool b4,.dig [0] l5,.num .i64 n6]) else (A5 (mk s m e)=true∧A5 (mk b1 l2 n3)=true∧A5 (C2 (mk s m e) (mk b1 l2 n3))=true)∧dyF (C2 (mk s m e) (mk b1 l2 n3)) fun b7 l8 n9=>Q (.agg [.bool b7,.dig [0] l8,.num .i64 n9])):=by kernel_rfl
theorem A2o (n:Int) (t:Bool) (l:List Nat) (i:Int) (t':Bool) (l':List Nat) (i':Int) (f:Int) (m:Int) (a:Int) (b:Int) (k:Int) (k':Int) (g:Bool) (h:Bool) (s:Bool) (d:List Nat) (e:Int) (s':Bool) (d':List Nat) (e':Int) (u:Bool) (v:List Nat) (w:Int) (u':Bool) (v':List Nat) (w':Int) (o:Bool) (q:List Nat) (r:Int) (o':Bool) (q':List Nat) (r':Int) (Q:AV→Prop):(evF Tryz.prog (look D1d) (lam []) false Tryz.f80 [.num .i64 n,.cref [2] [.bool t,.dig [2] l,.num .i64 i,.bool t',.dig [2] l',.num .i64 i'],.cref [3] [.num .u8 f,.num .u8 m,.num .u64 a,.num .u64 b,.num .u8 k,.num .u8 k',.bool g,.bool h,.bool s,.dig [3] d,.num .i64 e,.bool s',.dig [3] d',.num .i64 e'],.cref [4] [.bool u,.dig [4] v,.num .i64 w,.bool u',.dig [4] v',.num .i64 w'],.cref [5] [.bool o,.dig [5] q,.num .i64 r,.bool o',.dig [5] q',.num .i64 r']] Q)=(bif s then (A5 (mk t l i)=true∧A5 (mk t' l' i')=true)∧dyF (G9 (mk t' l' i')) fun b1 l2 n3=>dyF (G9 (mk t l i)) fun b4 l5 n6=>(A5 (mk u v w)=true∧A5 (mk u' v' w')=true∧u=false∧u'=false∧v≠[]∧v'≠[]∧1≤n∧n≤8192∧ -16777216≤C7 (C3 (mk u' v' w') n).fst-n∧C7 (C3 (mk u' v' w') n).fst-n≤16777216∧A5 (Y9 (mk u' v' w') n)=true)∧dyF (F6 (form false (isq (val (mk u v w).mag*2^U5 (val (mk u v w).mag) (mk u v w).exp n)) (((mk u v w).exp-(↑(U5 (val (mk u v w).mag) (mk u v w).exp n):Int))/2)) n).1 fun b7 l8 n9=>dyF (Y9 (mk u' v' w') n) fun b10 l11 n12=>(A5 (mk b7 l8 n9)=true∧A5 (mk b10 l11 n12)=true∧A5 (mk b1 l2 n3)=true∧A5 (mk b4 l5 n6)=true∧mid (C2 (mk b7 l8 n9) (mk b1 l2 n3))∧mid (C2 (mk b10 l11 n12) (mk b4 l5 n6))∧1≤n∧n≤8192)∧dyF (O7 (C2 (mk b7 l8 n9) (mk b1 l2 n3)) n false) fun b13 l14 n15=>dyF (O7 (C2 (mk b10 l11 n12) (mk b4 l5 n6)) n true) fun b16 l17 n18=>(mid (mk b13 l14 n15)∧mid (mk b16 l17 n18)∧(-1000000:Int)≤(-1:Int)∧(-1:Int)≤1000000)∧dyF (shD (mk b13 l14 n15) (-1:Int)) fun b19 l20 n21=>dyF (shD (mk b16 l17 n18) (-1:Int)) fun b22 l23 n24=>(A5 (mk b19 l20 n21)=true∧A5 (mk b22 l23 n24)=true∧b19=false∧b22=false∧l20≠[]∧l23≠[]∧1≤n∧n≤8192∧ -16777216≤C7 (C3 (mk b22 l23 n24) n).fst-n∧C7 (C3 (mk b22 l23 n24) n).fst-n≤16777216∧A5 (Y9 (mk b22 l23 n24) n)=true)∧dyF (F6 (form false (isq (val (mk b19 l20 n21).mag*2^U5 (val (mk b19 l20 n21).mag) (mk b19 l20 n21).exp n)) (((mk b19 l20 n21).exp-(↑(U5 (val (mk b19 l20 n21).mag) (mk b19 l20 n21).exp n):Int))/2)) n).1 fun b25 l26 n27=>dyF (Y9 (mk b22 l23 n24) n) fun b28 l29 n30=>(mid (mk o q r)∧mid (mk o' q' r')∧(-1000000:Int)≤(-1:Int)∧(-1:Int)≤1000000)∧dyF (shD (mk o q r) (-1:Int)) fun b31 l32 n33=>dyF (shD (mk o' q' r') (-1:Int)) fun b34 l35 n36=>(mid (mk b31 l32 n33)∧mid (mk b34 l35 n36)∧mid (mk b25 l26 n27)∧mid (mk b28 l29 n30)∧b25=false∧b28=false∧l26≠[]∧l29≠[]∧l32.length≤1000∧l35.length≤1000∧l26.length≤1000∧l29.length≤1000∧1≤n∧n≤8192)∧dyF (V5 (mk b31 l32 n33) (bif b31 then mk b25 l26 n27 else mk b28 l29 n30) n false) fun b37 l38 n39=>dyF (V5 (mk b34 l35 n36) (bif b34 then mk b28 l29 n30 else mk b25 l26 n27) n true) fun b40 l41 n42=>bif !s then Q (.tup [.agg [.bool b25,.dig [0] l26,.num .i64 n27,.bool b28,.dig [0] l29,.num .i64 n30],.agg [.bool b37,.dig [0] l38,.num .i64 n39,.bool b40,.dig [0] l41,.num .i64 n42]]) else bif h then (A5 (mk b37 l38 n39)=true∧A5 (mk b40 l41 n42)=true)∧dyF (G9 (mk b40 l41 n42)) fun b43 l44 n45=>dyF (G9 (mk b37 l38 n39)) fun b46 l47 n48=>(A5 (mk b25 l26 n27)=true∧A5 (mk b28 l29 n30)=true)∧dyF (G9 (mk b28 l29 n30)) fun b49 l50 n51=>dyF (G9 (mk b25 l26 n27)) fun b52 l53 n54=>Q (.tup [.agg [.bool b43,.dig [0] l44,.num .i64 n45,.bool b46,.dig [0] l47,.num .i64 n48],.agg [.bool b49,.dig [0] l50,.num .i64 n51,.bool b52,.dig [0] l53,.num .i64 n54]]) else Q (.tup [.agg [.bool b37,.dig [0] l38,.num .i64 n39,.bool b40,.dig [0] l41,.num .i64 n42],.agg [.bool b25,.dig [0] l26,.num .i64 n27,.bool b28,.dig [0] l29,.num .i64 n30]]) else (A5 (mk u v w)=true∧A5 (mk u' v' w')=true∧u=false∧u'=false∧v≠[]∧v'≠[]∧1≤n∧n≤8192∧ -16777216≤C7 (C3 (mk u' v' w') n).fst-n∧C7 (C3 (mk u' v' w') n).fst-n≤16777216∧A5 (Y9 (mk u' v' w') n)=true)∧dyF (F6 (form false (isq (val (mk u v w).mag*2^U5 (val (mk u v w).mag) (mk u v w).exp n)) (((mk u v w).exp-(↑(U5 (val (mk u v w).mag) (mk u v w).exp n):Int))/2)) n).1 fun b55 l56 n57=>dyF (Y9 (mk u' v' w') n) fun b58 l59 n60=>(A5 (mk b55 l56 n57)=true∧A5 (mk b58 l59 n60)=true∧A5 (mk t l i)=true∧A5 (mk t' l' i')=true∧mid (C2 (mk b55 l56 n57) (mk t l i))∧mid (C2 (mk b58 l59 n60) (mk t' l' i'))∧1≤n∧n≤8192)∧dyF (O7 (C2 (mk b55 l56 n57) (mk t l i)) n false) fun b61 l62 n63=>dyF (O7 (C2 (mk b58 l59 n60) (mk t' l' i')) n true) fun b64 l65 n66=>(mid (mk b61 l62 n63)∧mid (mk b64 l65 n66)∧(-1000000:Int)≤(-1:Int)∧(-1:Int)≤1000000)∧dyF (shD (mk b61 l62 n63) (-1:Int)) fun b67 l68 n69=>dyF (shD (mk b64 l65 n66) (-1:Int)) fun b70 l71 n72=>(A5 (mk b67 l68 n69)=true∧A5 (mk b70 l71 n72)=true∧b67=false∧b70=false∧l68≠[]∧l71≠[]∧1≤n∧n≤8192∧ -16777216≤C7 (C3 (mk b70 l71 n72) n).fst-n∧C7 (C3 (mk b70 l71 n72) n).fst-n≤16777216∧A5 (Y9 (mk b70 l71 n72) n)=true)∧dyF (F6 (form false (isq (val (mk b67 l68 n69).mag*2^U5 (val (mk b67 l68 n69).mag) (mk b67 l68 n69).exp n)) (((mk b67 l68 n69).exp-(↑(U5 (val (mk b67 l68 n69).mag) (mk b67 l68 n69).exp n):Int))/2)) n).1 fun b73 l74 n75=>dyF (Y9 (mk b70 l71 n72) n) fun b76 l77 n78=>(mid (mk o q r)∧mid (mk o' q' r')∧(-1000000:Int)≤(-1:Int)∧(-1:Int)≤1000000)∧dyF (shD (mk o q r) (-1:Int)) fun b79 l80 n81=>dyF (shD (mk o' q' r') (-1:Int)) fun b82 l83 n84=>(mid (mk b79 l80 n81)∧mid (mk b82 l83 n84)∧mid (mk b73 l74 n75)∧mid (mk b76 l77 n78)∧b73=false∧b76=false∧l74≠[]∧l77≠[]∧l80.length≤1000∧l83.length≤1000∧l74.length≤1000∧l77.length≤1000∧1≤n∧n≤8192)∧dyF (V5 (mk b79 l80 n81) (bif b79 then mk b73 l74 n75 else mk b76 l77 n78) n false) fun b85 l86 n87=>dyF (V5 (mk b82 l83 n84) (bif b82 then mk b76 l77 n78 else mk b73 l74 n75) n true) fun b88 l89 n90=>bif !s then Q (.tup [.agg [.bool b73,.dig [0] l74,.num .i64 n75,.bool b76,.dig [0] l77,.num .i64 n78],.agg [.bool b85,.dig [0] l86,.num .i64 n87,.bool b88,.dig [0] l89,.num .i64 n90]]) else bif h then (A5 (mk b85 l86 n87)=true∧A5 (mk b88 l89 n90)=true)∧dyF (G9 (mk b88 l89 n90)) fun b91 l92 n93=>dyF (G9 (mk b85 l86 n87)) fun b94 l95 n96=>(A5 (mk b73 l74 n75)=true∧A5 (mk b76 l77 n78)=true)∧dyF (G9 (mk b76 l77 n78)) fun b97 l98 n99=>dyF (G9 (mk b73 l74 n75)) fun b100 l101 n102=>Q (.tup [.agg [.bool b91,.dig [0] l92,.num .i64 n93,.bool b94,.dig [0] l95,.num .i64 n96],.agg [.bool b97,.dig [0] l98,.num .i64 n99,.bool b100,.dig [0] l101,.num .i64 n102]]) else Q (.tup [.agg [.bool b85,.dig [0] l86,.num .i64 n87,.bool b88,.dig [0] l89,.num .i64 n90],.agg [.bool b73,.dig [0] l74,.num .i64 n75,.bool b76,.dig [0] l77,.num .i64 n78]])):=by kernel_rfl
theorem A2p (n:Int) (t:Bool) (l:List Nat) (i:Int) (t':Bool) (l':List Nat) (i':Int) (f:Int) (m:Int) (a:Int) (b:Int) (k:Int) (k':Int) (g:Bool) (h:Bool) (s:Bool) (d:List Nat) (e:Int) (s':Bool) (d':List Nat) (e':Int) (u:Bool) (v:List Nat) (w:Int) (u':Bool) (v':List Nat) (w':Int) (o:Bool) (q:List Nat) (r:Int) (o':Bool) (q':List Nat) (r':Int) (Q:AV→Prop):(evF Tryz.prog (look C4t) (lam []) false Tryz.f86 [.num .i64 n,.cref [2] [AV.fn (80:Nat) [.cref [2] [.bool t,.dig [2] l,.num .i64 i,.bool t',.dig [2] l',.num .i64 i'],.cref [2] [.num .u8 f,.num .u8 m,.num .u64 a,.num .u64 b,.num .u8 k,.num .u8 k',.bool g,.bool h,.bool s,.dig [2] d,.num .i64 e,.bool s',.dig [2] d',.num .i64 e'],.cref [2] [.bool u,.dig [2] v,.num .i64 w,.bool u',.dig [2] v',.num .i64 w'],.cref [2] [.bool o,.dig [2] q,.num .i64 r,.bool o',.dig [2] q',.num .i64 r']]]] Q)=((capOk (mk s d e) (mk s' d' e') (mk t l i) (mk t' l' i') (mk u v w) (mk u' v' w') (mk o q r) (mk o' q' r') h∧20≤n∧n≤8192)∧dyF (Z4 (mk s d e) (mk s' d' e') n) fun b1 l2 n3=>dyF (g9 (mk s d e) (mk s' d' e') n) fun b4 l5 n6=>dyF (EY (mk s d e) (mk s' d' e') n) fun b7 l8 n9=>dyF (FO (mk s d e) (mk s' d' e') n) fun b10 l11 n12=>Q (.tup [.agg [.bool b1,.dig [0] l2,.num .i64 n3,.bool b4,.dig [0] l5,.num .i64 n6],.bool true])):=by kernel_rfl
theorem A2q (n:Int) (t:Bool) (l:List Nat) (i:Int) (t':Bool) (l':List Nat) (i':Int) (f:Int) (m:Int) (a:Int) (b:Int) (k:Int) (k':Int) (g:Bool) (h:Bool) (s:Bool) (d:List Nat) (e:Int) (s':Bool) (d':List Nat) (e':Int) (u:Bool) (v:List Nat) (w:Int) (u':Bool) (v':List Nat) (w':Int) (o:Bool) (q:List Nat) (r:Int) (o':Bool) (q':List Nat) (r':Int) (Q:AV→Prop):(evF Tryz.prog (look C4t) (lam []) false Tryz.f87 [.num .i64 n,.cref [2] [AV.fn (80:Nat) [.cref [2] [.bool t,.dig [2] l,.num .i64 i,.bool t',.dig [2] l',.num .i64 i'],.cref [2] [.num .u8 f,.num .u8 m,.num .u64 a,.num .u64 b,.num .u8 k,.num .u8 k',.bool g,.bool h,.bool s,.dig [2] d,.num .i64 e,.bool s',.dig [2] d',.num .i64 e'],.cref [2] [.bool u,.dig [2] v,.num .i64 w,.bool u',.dig [2] v',.num .i64 w'],.cref [2] [.bool o,.dig [2] q,.num .i64 r,.bool o',.dig [2] q',.num .i64 r']]]] Q)=((capOk (mk s d e) (mk s' d' e') (mk t l i) (mk t' l' i') (mk u v w) (mk u' v' w') (mk o q r) (mk o' q' r') h∧20≤n∧n≤8192)∧dyF (Z4 (mk s d e) (mk s' d' e') n) fun b1 l2 n3=>dyF (g9 (mk s d e) (mk s' d' e') n) fun b4 l5 n6=>dyF (EY (mk s d e) (mk s' d' e') n) fun b7 l8 n9=>dyF (FO (mk s d e) (mk s' d' e') n) fun b10 l11 n12=>Q (.tup [.agg [.bool b7,.dig [0] l8,.num .i64 n9,.bool b10,.dig [0] l11,.num .i64 n12],.bool true])):=by kernel_rfl
end Go.AI

namespace Go.Dy
theorem D33 {X:Dyd} (h:X.neg=true) (h0:X.mag≠[]):G9 X=B7 X:=by
 unfold G9 B7
 rw [h,decide_eq_true h0]
 rfl
theorem A0n {X:Dyd} (h:A5 (B7 X)=true) (h0:X.mag≠[]):A5 X=true:=by
 obtain ⟨s,m,e⟩:=X
 have h:A5 ⟨false,m,e⟩=true:=h
 rw [S2] at h ⊢
 exact ⟨h.1,.inr ⟨h0,h.2.elim (fun c=>absurd c.1 h0) (fun c=>c.2)⟩⟩
theorem D4q {X:Dyd} {s':Bool} {d':List Nat} {e':Int} {N:Nat} (F:HalfF X ⟨s',d',e'⟩ N) (n1:20≤N) (n2:N≤8192):
  mid ⟨s',d',e'⟩∧Fit (shD ⟨s',d',e'⟩ (-1)) 1100 1101∧(shD ⟨s',d',e'⟩ (-1)).neg=s'∧
  (V5 (shD ⟨s',d',e'⟩ (-1)) (bif s' then o0 (sqD X ⟨s',d',e'⟩) (B7 X) N else AE (sqD X ⟨s',d',e'⟩) (B7 X) N) N false=
   (bif s' then G9 (DE (sqD X ⟨s',d',e'⟩) (B7 X) (B7 ⟨s',d',e'⟩) N) else BQ (sqD X ⟨s',d',e'⟩) (B7 X) (B7 ⟨s',d',e'⟩) N)∧
  V5 (shD ⟨s',d',e'⟩ (-1)) (bif s' then AE (sqD X ⟨s',d',e'⟩) (B7 X) N else o0 (sqD X ⟨s',d',e'⟩) (B7 X) N) N true=
   (bif s' then G9 (BQ (sqD X ⟨s',d',e'⟩) (B7 X) (B7 ⟨s',d',e'⟩) N) else DE (sqD X ⟨s',d',e'⟩) (B7 X) (B7 ⟨s',d',e'⟩) N)):=by
 have y0:d'≠[]:=F.y0
 have fY:=F.fY
 have fy:=F.fy
 have e1:∀s,shD ⟨s,d',e'⟩ (-1)=⟨s,d',e'+ -1⟩:=fun s=>by unfold shD;rw [if_neg y0]
 rw [show B7 ⟨s',d',e'⟩=⟨false,d',e'⟩ from rfl] at fY fy
 rw [e1 false] at fy
 have m1:∀s,A5 ⟨s,d',e'⟩=true:=fun s=>A0n (X:=⟨s,d',e'⟩) fY.may y0
 have m2:∀s,A5 ⟨s,d',e'+ -1⟩=true:=fun s=>A0n (X:=⟨s,d',e'+ -1⟩) fy.may y0
 have nl1:=F.nl1
 have nl2:=F.nl2
 have ml1:=F.ml1
 have ml2:=F.ml2
 have fl1:=F.fl1.may
 have fl2:=F.fl2.may
 unfold BQ DE
 rw [show B7 ⟨s',d',e'⟩=⟨false,d',e'⟩ from rfl,e1 false,e1 s']
 refine ⟨⟨m1 s',by have:=fY.lo;simp only at this ⊢;omega,by have:=fY.hi;simp only at this ⊢;omega⟩,⟨m2 s',fy.bits,fy.lo,fy.hi⟩,rfl,?_⟩
 generalize o0 (sqD X ⟨s',d',e'⟩) (B7 X) N=LL at*
 generalize AE (sqD X ⟨s',d',e'⟩) (B7 X) N=LH at*
 obtain ⟨a1,a2,a3⟩:=LL
 obtain ⟨c1,c2,c3⟩:=LH
 simp only at nl1 nl2 ml1 ml2
 subst nl1 nl2
 cases s'
 ·exact ⟨rfl,rfl⟩
 ·exact ⟨A1v (m2 false) fl1 ml1 y0 (by omega) false,A1v (m2 false) fl2 ml2 y0 (by omega) true⟩
end Go.Dy
namespace Go.AI
open Go Go.RowKit Go.Proofs
set_option linter.unusedVariables false
set_option maxRecDepth 100000
set_option maxHeartbeats 1000000
theorem B4j (args:List AV) (s:Spec) (h:C1g args=some s) (hp:C6 s.pre True):Contract Tryz.prog Inv 74 args s.res:=by
 unfold C1g at h
 split at h
 ·cases h
  obtain ⟨⟨p1,p2,p3,p4,p5,p6,n1,n2⟩, -⟩:=hp
  refine A4 false TS Tryz.func74 (by kernel_rfl) (by kernel_rfl) fun hok=> ?_
  rw [B7o]
  refine ⟨⟨p1,p3,p5.1⟩,B4 fun b1 l1 k1 d1=>⟨⟨p2,p4,p6.1⟩,B4 fun b2 l2 k2 d2=> ?_⟩⟩
  rw [d1,d2]
  exact ⟨⟨p5,p6,n1,n2⟩,B4 fun _ _ _ d3=>B4 fun _ _ _ d4=>S9 d3 d4⟩
 ·cases h
theorem A9v (args:List AV) (s:Spec) (h:B0h args=some s) (hp:C6 s.pre True):Contract Tryz.prog Inv 82 args s.res:=by
 unfold B0h at h
 split at h
 ·cases h
  rename_i n s m e s' m' e'
  obtain ⟨⟨p1,p2,rfl,rfl,p3,p4,n1,n2,p5,p6,p7⟩, -⟩:=hp
  refine A4 false TS Tryz.func82 (by kernel_rfl) (by kernel_rfl) fun hok=> ?_
  obtain ⟨N,rfl⟩:=C4 (show 0≤n by omega)
  have r1:=(Dy.DC p1 rfl p3 (n:=N) (by omega) (by omega)).2.2.2.1
  have r2:=(Dy.DC p2 rfl p4 (n:=N) (by omega) (by omega)).2.2.2.1
  have q1:=(Dy.DC p2 rfl p4 (n:=N) (by omega) (by omega)).1
  have g1:Dy.F0 ⟨false,m,e⟩=1:=by unfold Dy.F0;rw [if_neg p3];rfl
  have g2:Dy.F0 ⟨false,m',e'⟩=1:=by unfold Dy.F0;rw [if_neg p4];rfl
  rw [B1k,if_pos p1,if_pos p2,g1,g2,r1,r2]
  refine B5 rfl (B4 fun b1 l2 k3 d1=> ?_)
  have d1:Dy.Dyd.mk b1 l2 k3=(Dy.C3 ⟨false,m,e⟩ (N:Int)).1:=d1
  rintro _-_ -
  refine B5 rfl (B4 fun b6 l7 k8 d6=> ?_)
  have d6:Dy.Dyd.mk b6 l7 k8=(Dy.C3 ⟨false,m',e'⟩ (N:Int)).1:=d6
  rintro _ rfl _ -
  rw [d6,if_pos q1,wrap_i64 (by omega) (by omega)]
  refine A8 (fun h=> ?_) (fun h=> ?_)
  ·have h:(Dy.C3 ⟨false,m',e'⟩ (N:Int)).2=true:=h
   have eU:Dy.Y9 ⟨false,m',e'⟩ (N:Int)=Dy.C2 (Dy.C3 ⟨false,m',e'⟩ (N:Int)).1 (Dy.K0 (Dy.C7 (Dy.C3 ⟨false,m',e'⟩ (N:Int)).1-N)):=by unfold Dy.Y9;rw [h];rfl
   rw [eU] at p7 ⊢
   refine B4 fun b11 l12 k13 d11=> ?_
   rw [d11]
   exact ⟨⟨q1,Dy.KC ⟨p5,p6⟩,p7⟩,B4 fun _ _ _ d14=>S9 d1 d14⟩
  ·have h:(Dy.C3 ⟨false,m',e'⟩ (N:Int)).2=false:=h
   have eU:Dy.Y9 ⟨false,m',e'⟩ (N:Int)=(Dy.C3 ⟨false,m',e'⟩ (N:Int)).1:=by unfold Dy.Y9;rw [h];rfl
   rw [eU]
   exact S9 d1 d6
 ·cases h
theorem A1a (args:List AV) (s:Spec) (h:B0d args=some s) (hp:C6 s.pre True):Contract Tryz.prog Inv 155 args s.res:=by
 unfold B0d at h
 split at h
 ·cases h
  rename_i s m e
  obtain ⟨⟨p1,p2⟩, -⟩:=hp
  refine A4 false TS Tryz.func155 (by kernel_rfl) (by kernel_rfl) fun hok=> ?_
  have ht:=Dy.B0o p1
  rw [A34,if_pos p1.1,wrap_i64 (n:=Dy.C7 ⟨s,m,e⟩-64) (by omega) (by omega),wrap_i64 (by omega) (by omega),show Dy.C7 ⟨s,m,e⟩-64-2=Dy.C7 ⟨s,m,e⟩-66 by omega]
  unfold Dy.K4 at p2 ⊢
  refine B4 fun b1 l1 k1 d1=> ?_
  rw [d1]
  have hu:=Dy.KC (u:=Dy.C7 ⟨s,m,e⟩-66) ⟨by omega,by omega⟩
  refine A8 (fun h=> ?_) (fun h=> ?_)
  ·rw [if_pos h] at p2 ⊢
   exact ⟨⟨p1.1,hu,p2⟩,B4 fun _ _ _ d2=>V4 d2⟩
  ·rw [if_neg (show¬s=true by rw [h];decide)] at p2 ⊢
   exact ⟨⟨p1.1,hu,p2⟩,B4 fun _ _ _ d2=>V4 d2⟩
 ·cases h
theorem B51:G6 Tryz.prog Inv (look D1d):=A3 (A3 (A3 TS A1a) A9v) B4j
theorem C28 {a b c d:AV} (h:a=c) (h':b=d):AV.tup [a,b]=AV.tup [c,d]:=by rw [h,h']
theorem A0v (args:List AV) (s:Spec) (h:B8e args=some s) (hp:C6 s.pre True):Contract Tryz.prog Inv 80 args s.res:=by
 unfold B8e at h
 split at h
 ·cases h
  rename_i n t l i t' l' i' f m a b k k' g h s d e s' d' e' u v w u' v' w' o q r o' q' r'
  obtain ⟨⟨⟨ex1,ex2,eq1,eq2,ey1,ey2,off,mx,my,hs⟩,n1,n2⟩, -⟩:=hp
  refine A4 false B51 Tryz.func80 (by kernel_rfl) (by kernel_rfl) fun hok=> ?_
  obtain ⟨x1,x2,x3⟩:s=t∧d=l∧e=i:=⟨(congrArg Dy.Dyd.neg ex1).symm,(congrArg Dy.Dyd.mag ex1).symm,(congrArg Dy.Dyd.exp ex1).symm⟩
  subst x1 x2 x3
  obtain ⟨x1,x2,x3⟩:s=t'∧d=l'∧e=i':=⟨(congrArg Dy.Dyd.neg ex2).symm,(congrArg Dy.Dyd.mag ex2).symm,(congrArg Dy.Dyd.exp ex2).symm⟩
  subst x1 x2 x3
  obtain ⟨x1,x2,x3⟩:s'=o∧d'=q∧e'=r:=⟨(congrArg Dy.Dyd.neg ey1).symm,(congrArg Dy.Dyd.mag ey1).symm,(congrArg Dy.Dyd.exp ey1).symm⟩
  subst x1 x2 x3
  obtain ⟨x1,x2,x3⟩:s'=o'∧d'=q'∧e'=r':=⟨(congrArg Dy.Dyd.neg ey2).symm,(congrArg Dy.Dyd.mag ey2).symm,(congrArg Dy.Dyd.exp ey2).symm⟩
  subst x1 x2 x3
  obtain ⟨N,rfl⟩:=C4 (show 0≤n by omega)
  have F:=Dy.B2n off (N:=N) (by omega) (by omega)
  obtain ⟨mY,fY2,nY2,qY⟩:=Dy.D4q F (by omega) (by omega)
  have hs:h=s':=hs
  subst hs
  rw [A2o]
  cases s
  ·refine B1 rfl ?_
   have dX:Dy.Dyd.mk false d e=Dy.B7 ⟨false,d,e⟩:=rfl
   refine ⟨⟨by rw [eq1];exact F.mS,by rw [eq2];exact F.mS,(congrArg Dy.Dyd.neg eq1).trans F.nS,(congrArg Dy.Dyd.neg eq2).trans F.nS,fun c=>F.zS ((congrArg Dy.Dyd.mag eq1).symm.trans c),fun c=>F.zS ((congrArg Dy.Dyd.mag eq2).symm.trans c),by omega,by omega,by rw [eq2];exact F.rS.1,by rw [eq2];exact F.rS.2,by rw [eq2];exact F.fs2.may⟩,
    B4 (x:=(Dy.C3 (Dy.Dyd.mk u v w) (N:Int)).1) fun b7 l8 n9 d7=>B4 fun b10 l11 n12 d10=> ?_⟩
   have d7:Dy.Dyd.mk b7 l8 n9=Dy.sLo (Dy.sqD ⟨false,d,e⟩ ⟨h,d',e'⟩) N:=by rw [eq1] at d7;exact d7
   have d10:Dy.Dyd.mk b10 l11 n12=Dy.sHi (Dy.sqD ⟨false,d,e⟩ ⟨h,d',e'⟩) N:=by rw [eq2] at d10;exact d10
   refine ⟨⟨by rw [d7];exact F.fs1.may,by rw [d10];exact F.fs2.may,by rw [dX];exact F.mA,by rw [dX];exact F.mA,by rw [d7,dX];exact Dy.J9 F.fa1 (by decide),by rw [d10,dX];exact Dy.J9 F.fa2 (by decide),by omega,by omega⟩,B4 fun b13 l14 n15 d13=>B4 fun b16 l17 n18 d16=> ?_⟩
   rw [d7,dX] at d13
   rw [d10,dX] at d16
   refine ⟨⟨by rw [d13];exact Dy.J9 F.fe1 (by decide),by rw [d16];exact Dy.J9 F.fe2 (by decide),by decide,by decide⟩,B4 fun b19 l20 n21 d19=>B4 fun b22 l23 n24 d22=> ?_⟩
   have d19:Dy.Dyd.mk b19 l20 n21=Dy.gLo (Dy.sqD ⟨false,d,e⟩ ⟨h,d',e'⟩) (Dy.B7 ⟨false,d,e⟩) N:=by rw [d13] at d19;exact d19
   have d22:Dy.Dyd.mk b22 l23 n24=Dy.gHi (Dy.sqD ⟨false,d,e⟩ ⟨h,d',e'⟩) (Dy.B7 ⟨false,d,e⟩) N:=by rw [d16] at d22;exact d22
   refine ⟨⟨by rw [d19];exact F.fg1.may,by rw [d22];exact F.fg2.may,(congrArg Dy.Dyd.neg d19).trans F.ng1,(congrArg Dy.Dyd.neg d22).trans F.ng2,fun c=>F.mg1 ((congrArg Dy.Dyd.mag d19).symm.trans c),fun c=>F.mg2 ((congrArg Dy.Dyd.mag d22).symm.trans c),by omega,by omega,by rw [d22];exact F.rG.1,by rw [d22];exact F.rG.2,by rw [d22];exact F.fl2.may⟩,
    B4 (x:=(Dy.C3 (Dy.Dyd.mk b19 l20 n21) (N:Int)).1) fun b25 l26 n27 d25=>B4 fun b28 l29 n30 d28=> ?_⟩
   have d25:Dy.Dyd.mk b25 l26 n27=Dy.o0 (Dy.sqD ⟨false,d,e⟩ ⟨h,d',e'⟩) (Dy.B7 ⟨false,d,e⟩) N:=by rw [d19] at d25;exact d25
   have d28:Dy.Dyd.mk b28 l29 n30=Dy.AE (Dy.sqD ⟨false,d,e⟩ ⟨h,d',e'⟩) (Dy.B7 ⟨false,d,e⟩) N:=by rw [d22] at d28;exact d28
   refine ⟨⟨mY,mY,by decide,by decide⟩,B4 fun b31 l32 n33 d31=>B4 fun b34 l35 n36 d34=> ?_⟩
   have hb31:b31=h:=(congrArg Dy.Dyd.neg d31).trans nY2
   have hb34:b34=h:=(congrArg Dy.Dyd.neg d34).trans nY2
   refine ⟨⟨by rw [d31];exact Dy.J9 fY2 (by decide),by rw [d34];exact Dy.J9 fY2 (by decide),by rw [d25];exact Dy.J9 F.fl1 (by decide),by rw [d28];exact Dy.J9 F.fl2 (by decide),(congrArg Dy.Dyd.neg d25).trans F.nl1,(congrArg Dy.Dyd.neg d28).trans F.nl2,
    fun c=>F.ml1 ((congrArg Dy.Dyd.mag d25).symm.trans c),fun c=>F.ml2 ((congrArg Dy.Dyd.mag d28).symm.trans c),by rw [show l32=_ from congrArg Dy.Dyd.mag d31];exact Dy.BT fY2 (by decide),by rw [show l35=_ from congrArg Dy.Dyd.mag d34];exact Dy.BT fY2 (by decide),
    by rw [show l26=_ from congrArg Dy.Dyd.mag d25];exact Dy.BT F.fl1 (by decide),by rw [show l29=_ from congrArg Dy.Dyd.mag d28];exact Dy.BT F.fl2 (by decide),by omega,by omega⟩,B4 fun b37 l38 n39 d37=>B4 fun b40 l41 n42 d40=> ?_⟩
   rw [d31,d25,d28,hb31,qY.1] at d37
   rw [d34,d25,d28,hb34,qY.2] at d40
   refine B5 rfl (C28 (S9 d25 d28) ?_)
   rw [show AV.agg [.bool b37,.dig [0] l38,.num .i64 n39,.bool b40,.dig [0] l41,.num .i64 n42]=_ from S9 d37 d40]
   rfl
  ·refine B5 rfl ⟨⟨mx,mx⟩,?_⟩
   have x0:d≠[]:=fun c=>by
    subst c
    exact absurd (Dy.CZ mx).1 (by decide)
   refine B4 fun b1 l2 n3 dX=>B4 fun b4 l5 n6 dX4=> ?_
   rw [Dy.D33 rfl x0] at dX dX4
   refine ⟨⟨by rw [eq1];exact F.mS,by rw [eq2];exact F.mS,(congrArg Dy.Dyd.neg eq1).trans F.nS,(congrArg Dy.Dyd.neg eq2).trans F.nS,fun c=>F.zS ((congrArg Dy.Dyd.mag eq1).symm.trans c),fun c=>F.zS ((congrArg Dy.Dyd.mag eq2).symm.trans c),by omega,by omega,by rw [eq2];exact F.rS.1,by rw [eq2];exact F.rS.2,by rw [eq2];exact F.fs2.may⟩,
    B4 (x:=(Dy.C3 (Dy.Dyd.mk u v w) (N:Int)).1) fun b7 l8 n9 d7=>B4 fun b10 l11 n12 d10=> ?_⟩
   have d7:Dy.Dyd.mk b7 l8 n9=Dy.sLo (Dy.sqD ⟨true,d,e⟩ ⟨h,d',e'⟩) N:=by rw [eq1] at d7;exact d7
   have d10:Dy.Dyd.mk b10 l11 n12=Dy.sHi (Dy.sqD ⟨true,d,e⟩ ⟨h,d',e'⟩) N:=by rw [eq2] at d10;exact d10
   refine ⟨⟨by rw [d7];exact F.fs1.may,by rw [d10];exact F.fs2.may,by rw [dX];exact F.mA,by rw [dX4];exact F.mA,by rw [d7,dX];exact Dy.J9 F.fa1 (by decide),by rw [d10,dX4];exact Dy.J9 F.fa2 (by decide),by omega,by omega⟩,B4 fun b13 l14 n15 d13=>B4 fun b16 l17 n18 d16=> ?_⟩
   rw [d7,dX] at d13
   rw [d10,dX4] at d16
   refine ⟨⟨by rw [d13];exact Dy.J9 F.fe1 (by decide),by rw [d16];exact Dy.J9 F.fe2 (by decide),by decide,by decide⟩,B4 fun b19 l20 n21 d19=>B4 fun b22 l23 n24 d22=> ?_⟩
   have d19:Dy.Dyd.mk b19 l20 n21=Dy.gLo (Dy.sqD ⟨true,d,e⟩ ⟨h,d',e'⟩) (Dy.B7 ⟨true,d,e⟩) N:=by rw [d13] at d19;exact d19
   have d22:Dy.Dyd.mk b22 l23 n24=Dy.gHi (Dy.sqD ⟨true,d,e⟩ ⟨h,d',e'⟩) (Dy.B7 ⟨true,d,e⟩) N:=by rw [d16] at d22;exact d22
   refine ⟨⟨by rw [d19];exact F.fg1.may,by rw [d22];exact F.fg2.may,(congrArg Dy.Dyd.neg d19).trans F.ng1,(congrArg Dy.Dyd.neg d22).trans F.ng2,fun c=>F.mg1 ((congrArg Dy.Dyd.mag d19).symm.trans c),fun c=>F.mg2 ((congrArg Dy.Dyd.mag d22).symm.trans c),by omega,by omega,by rw [d22];exact F.rG.1,by rw [d22];exact F.rG.2,by rw [d22];exact F.fl2.may⟩,
    B4 (x:=(Dy.C3 (Dy.Dyd.mk b19 l20 n21) (N:Int)).1) fun b25 l26 n27 d25=>B4 fun b28 l29 n30 d28=> ?_⟩
   have d25:Dy.Dyd.mk b25 l26 n27=Dy.o0 (Dy.sqD ⟨true,d,e⟩ ⟨h,d',e'⟩) (Dy.B7 ⟨true,d,e⟩) N:=by rw [d19] at d25;exact d25
   have d28:Dy.Dyd.mk b28 l29 n30=Dy.AE (Dy.sqD ⟨true,d,e⟩ ⟨h,d',e'⟩) (Dy.B7 ⟨true,d,e⟩) N:=by rw [d22] at d28;exact d28
   refine ⟨⟨mY,mY,by decide,by decide⟩,B4 fun b31 l32 n33 d31=>B4 fun b34 l35 n36 d34=> ?_⟩
   have hb31:b31=h:=(congrArg Dy.Dyd.neg d31).trans nY2
   have hb34:b34=h:=(congrArg Dy.Dyd.neg d34).trans nY2
   refine ⟨⟨by rw [d31];exact Dy.J9 fY2 (by decide),by rw [d34];exact Dy.J9 fY2 (by decide),by rw [d25];exact Dy.J9 F.fl1 (by decide),by rw [d28];exact Dy.J9 F.fl2 (by decide),(congrArg Dy.Dyd.neg d25).trans F.nl1,(congrArg Dy.Dyd.neg d28).trans F.nl2,
    fun c=>F.ml1 ((congrArg Dy.Dyd.mag d25).symm.trans c),fun c=>F.ml2 ((congrArg Dy.Dyd.mag d28).symm.trans c),by rw [show l32=_ from congrArg Dy.Dyd.mag d31];exact Dy.BT fY2 (by decide),by rw [show l35=_ from congrArg Dy.Dyd.mag d34];exact Dy.BT fY2 (by decide),
    by rw [show l26=_ from congrArg Dy.Dyd.mag d25];exact Dy.BT F.fl1 (by decide),by rw [show l29=_ from congrArg Dy.Dyd.mag d28];exact Dy.BT F.fl2 (by decide),by omega,by omega⟩,B4 fun b37 l38 n39 d37=>B4 fun b40 l41 n42 d40=> ?_⟩
   rw [d31,d25,d28,hb31,qY.1] at d37
   rw [d34,d25,d28,hb34,qY.2] at d40
   refine B1 rfl ?_
   cases h
   ·refine B1 rfl (C28 ?_ (S9 d25 d28))
    rw [show AV.agg [.bool b37,.dig [0] l38,.num .i64 n39,.bool b40,.dig [0] l41,.num .i64 n42]=_ from S9 d37 d40]
    rfl
   ·rw [cond_true] at d37 d40
    refine B5 rfl ?_
    rw [d37,d40,d25,d28]
    refine ⟨⟨Dy.GY F.fq2.may,Dy.GY F.fq1.may⟩,?_⟩
    rw [Dy.A6j F.fq1.may,Dy.A6j F.fq2.may]
    exact B4 fun _ _ _ d43=>B4 fun _ _ _ d46=>⟨⟨F.fl1.may,F.fl2.may⟩,B4 fun _ _ _ d49=>B4 fun _ _ _ d52=>C28 (S9 d43 d46) (S9 d49 d52)⟩
 ·cases h
theorem A1h:G6 Tryz.prog Inv (look C4t):=A3 B51 A0v
theorem A0w (args:List AV) (s:Spec) (h:B8f args=some s) (hp:C6 s.pre True):Contract Tryz.prog Inv 86 args s.res:=by
 unfold B8f at h
 split at h
 ·split at h
  ·rename_i c
   subst c
   cases h
   obtain ⟨hp, -⟩:=hp
   refine A4 false A1h Tryz.func86 (by kernel_rfl) (by kernel_rfl) fun hok=> ?_
   rw [A2p]
   exact ⟨hp,B4 fun _ _ _ d1=>B4 fun _ _ _ d2=>B4 fun _ _ _ d3=>B4 fun _ _ _ d4=>C28 (S9 d1 d2) rfl⟩
  ·cases h
 ·cases h
theorem A0x (args:List AV) (s:Spec) (h:B8g args=some s) (hp:C6 s.pre True):Contract Tryz.prog Inv 87 args s.res:=by
 unfold B8g at h
 split at h
 ·split at h
  ·rename_i c
   subst c
   cases h
   obtain ⟨hp, -⟩:=hp
   refine A4 false A1h Tryz.func87 (by kernel_rfl) (by kernel_rfl) fun hok=> ?_
   rw [A2q]
   exact ⟨hp,B4 fun _ _ _ d1=>B4 fun _ _ _ d2=>B4 fun _ _ _ d3=>B4 fun _ _ _ d4=>C28 (S9 d3 d4) rfl⟩
  ·cases h
 ·cases h
theorem A1i:G6 Tryz.prog Inv (look OF):=A3 (A3 A1h A0x) A0w
end Go.AI

namespace Go.Dy
set_option maxRecDepth 100000
theorem C3s {w V:Nat} (hV:20000≤V) (hV2:V≤100000) (h1:2^(V-1588)≤w) (h2:w<2^(V+600)):
  mid (C8 (W0 (w:Int) 64) (-(V:Int)))∧A5 (K4 (C8 (W0 (w:Int) 64) (-(V:Int))))=true∧(K4 (C8 (W0 (w:Int) 64) (-(V:Int)))).neg=false∧(K4 (C8 (W0 (w:Int) 64) (-(V:Int)))).mag≠[]∧
   C7 (K4 (C8 (W0 (w:Int) 64) (-(V:Int))))=(bl w:Int)-V∧mid (G9 (C8 (W0 (w:Int) 64) (-(V:Int))))∧K4 (G9 (C8 (W0 (w:Int) 64) (-(V:Int))))=G9 (K4 (C8 (W0 (w:Int) 64) (-(V:Int)))):=by
 have hl:V-1588<bl w:=a9.2 h1
 have hl2:bl w≤V+600:=I8.2 h2
 obtain ⟨q,hq⟩:∃q,w/2^(bl w-64)=q:=⟨_,rfl⟩
 have hbq:bl q=64:=by rw [←hq,C5];omega
 have hq0:q≠0:=fun c=>by rw [c,K2] at hbq;omega
 obtain ⟨u,hu⟩:∃u:Int, -(V:Int)+((bl w-64:Nat):Int)-2=u:=⟨_,rfl⟩
 have hf:C8 (W0 (w:Int) 64) (-(V:Int))=C8 ((4*q:Nat):Int) u:=by
  have e1:W0 (w:Int) 64=(q:Int)*2^(bl w-64):=by
   unfold W0 DR
   rw [decide_eq_false (by omega),S7,hq]
   show ((q*2^(bl w-64):Nat):Int)=_
   rw [L5,MC]
   rfl
  rw [e1,s6,show ((4*q:Nat):Int)=(q:Int)*2^2 by rw [L5];omega,s6]
  congr 1
  omega
 have hb4:bl (4*q)=66:=by
  have:=E7 hq0 2
  rw [show q*2^2=4*q by omega] at this
  omega
 have hb5:bl (4*q+1)=66:=by
  have a:=P9 (4*q)
  rw [hb4] at a
  have a2:bl (4*q+1)≤66:=I8.2 (by omega)
  have a3:=K1 (show 4*q≤4*q+1 by omega)
  omega
 have ht:=WN (z:=((4*q:Nat):Int)) (e:=u) (by omega)
 rw [S7,hb4] at ht
 have hn:(C8 ((4*q:Nat):Int) u).neg=false:=by
  unfold C8
  rw [H6 (by omega)]
  show decide (((4*q:Nat):Int)<0)=false
  exact decide_eq_false (by omega)
 have hm:(C8 ((4*q:Nat):Int) u).mag≠[]:=by
  unfold C8
  rw [show decide (((4*q:Nat):Int)<0)=false from decide_eq_false (by omega)]
  exact IE (by omega) _
 have hbey:K4 (C8 ((4*q:Nat):Int) u)=C8 ((4*q+1:Nat):Int) u:=by
  unfold K4
  rw [hn,if_neg (by decide),ht,show u+((66:Nat):Int)-66=u by omega]
  have:=MZ (z:=((4*q:Nat):Int)) (u:=u) (by omega) true
  rw [if_pos rfl,if_pos rfl] at this
  rw [this]
  congr 1
 have hbey2:K4 (G9 (C8 ((4*q:Nat):Int) u))=G9 (C8 ((4*q+1:Nat):Int) u):=by
  have hnn:(G9 (C8 ((4*q:Nat):Int) u)).neg=true:=by
   unfold G9
   rw [hn,decide_eq_true hm]
   rfl
  have htn:C7 (G9 (C8 ((4*q:Nat):Int) u))=u+((66:Nat):Int):=ht
  unfold K4
  rw [hnn,if_pos rfl,htn,show u+((66:Nat):Int)-66=u by omega,←EV,←EV]
  have:=MZ (z:= -((4*q:Nat):Int)) (u:=u) (by omega) false
  rw [if_neg (by decide),if_neg (by decide)] at this
  rw [this]
  congr 1
  omega
 rw [hf,hbey,hbey2]
 have f4:=(R9 (z:=((4*q:Nat):Int)) (e:=u) (L:=66) (E:=200000) (by rw [S7];omega) (by omega) (by rw [S7];omega) (by decide) (by decide)).1
 have f5:=(R9 (z:=((4*q+1:Nat):Int)) (e:=u) (L:=66) (E:=200000) (by rw [S7];omega) (by omega) (by rw [S7];omega) (by decide) (by decide)).1
 have ht5:=WN (z:=((4*q+1:Nat):Int)) (e:=u) (by omega)
 rw [S7,hb5] at ht5
 refine ⟨J9 f4 (by decide),f5.may,?_,?_,by rw [ht5];omega,J9 (YY f4) (by decide),rfl⟩
 ·unfold C8
  rw [H6 (by omega)]
  show decide (((4*q+1:Nat):Int)<0)=false
  exact decide_eq_false (by omega)
 ·unfold C8
  rw [show decide (((4*q+1:Nat):Int)<0)=false from decide_eq_false (by omega)]
  exact IE (by omega) _
theorem C4g {A B V k:Nat} (hA:A<2^(V+2*k)) (hB:B<2^(V+2*k)):CV A B V<2^(V+k+1)∧T3 A B V<2^(V+k+1):=by
 have hr:rtE A B V<2^(2*V+2*k+1):=by
  refine A0b ?_
  rw [← @GN A B V]
  have e:2^(2*V+2*k+1)=2^(V+2*k)*2^V+2^(V+2*k)*2^V:=by
   rw [←B8,show 2*V+2*k+1=(V+2*k+V)+1 by omega,I5];omega
  have hp:=A9 V
  have h1:A*2^V<2^(V+2*k)*2^V:=L3 hA hp
  have h2:B*2^V<2^(V+2*k)*2^V:=L3 hB hp
  rw [e]
  generalize 2^(V+2*k)*2^V=y at*
  generalize A*2^V=p at*
  generalize B*2^V=q at*
  have h3:=K3 h1 h1
  have h4:=K3 h2 h2
  have h5:(y+y)*(y+y)=4*(y*y):=by rw [show y+y=2*y by omega,Nat.mul_mul_mul_comm]
  omega
 have h5:=B3 (n:=2) (by decide) (show 2*V+2*k+1≤2*(V+k+1) by omega)
 constructor
 ·rcases L4 (CV A B V) (2^(V+k+1)) with c|c
  ·exact c
  ·exfalso
   have h1:=I7 c c
   rw [Y8] at h1
   have h2:=(@JN A B V).1
   have h3:=(@WJ A B V).1
   omega
 ·rcases L4 (T3 A B V) (2^(V+k+1)) with c|c
  ·exact c
  ·exfalso
   have h1:=I7 c c
   rw [Y8] at h1
   have h2:=(@FI A B V).1
   omega
structure partW (V k:Nat) (w:Nat):Prop where
 lo:2^(V-1588)≤w
 hi:w<2^(V+k+1)
theorem C63 {x y:Dyd} (h:offZ x y) {k:Nat} (tx:C7 x≤2*k) (ty:C7 y≤2*k):
  ∃V p q:Nat,V=40000∧EC x y 64=C8 (W0 (p:Int) 64) (-(V:Int))∧V6 x y 64=C8 (W0 (q:Int) 64) (-(V:Int))∧partW V k p∧partW V k q:=by
 obtain ⟨V,hV⟩:∃V,V=crV:=⟨_,rfl⟩
 obtain ⟨ho,hp, -, -, -, -⟩:=TL h hV
 have hV4:V=40000:=hV
 have exx:=h.ex
 have exy:=h.ey
 obtain ⟨A,hA,lA, -⟩:=HM h.mx h.nx (V:=V) (T:=2*k) (by omega) (by omega)
 obtain ⟨B,hB,lB, -⟩:=HM h.my h.ny (V:=V) (T:=2*k) (by omega) (by omega)
 have eA:BO x=A:=by unfold BO;rw [←hV,hA];rfl
 have eB:BO y=B:=by unfold BO;rw [←hV,hB];rfl
 have hT:=C4g lA lB
 have b1:=NE hp
 have b2:=HJ hp
 rw [eA,eB] at b1 b2
 refine ⟨V,CV A B V,T3 A B V,hV4,?_,?_,⟨?_,hT.1⟩,⟨b2,hT.2⟩⟩
 ·unfold EC;rw [eA,eB,←hV]
 ·unfold V6;rw [eA,eB,←hV]
 ·exact D9 (B3 (by decide) (by omega)) b1
theorem A65 {a b:Dyd} (ma:A5 a=true) (mb:A5 b=true) (h:Y1 a b=0):a=b:=by
 have h1:min a.exp b.exp≤a.exp:=by omega
 have h2:min a.exp b.exp≤b.exp:=by omega
 have e:=(QY h1 h2).1 h
 have a1:=BK ma h1
 have b1:=BK mb h2
 rw [e] at a1
 exact a1.symm.trans b1
theorem XF {X Y:Dyd} (off:offZ (B7 X) (B7 Y)) {n:Nat} (n1:20≤n) (n2:n≤8192):
 ((mid (o0 (sqD X Y) (B7 X) n)∧mid (AE (sqD X Y) (B7 X) n))∧(mid (BQ (sqD X Y) (B7 X) (B7 Y) n)∧mid (DE (sqD X Y) (B7 X) (B7 Y) n)))∧
 ((okR (o0 (sqD X Y) (B7 X) n) (AE (sqD X Y) (B7 X) n) (64:Int)=true→(F6 (o0 (sqD X Y) (B7 X) n) (64:Int)).1=EC (B7 X) (B7 Y) 64)∧
  (okR (BQ (sqD X Y) (B7 X) (B7 Y) n) (DE (sqD X Y) (B7 X) (B7 Y) n) (64:Int)=true→(F6 (BQ (sqD X Y) (B7 X) (B7 Y) n) (64:Int)).1=V6 (B7 X) (B7 Y) 64))∧
 (4700≤n→okR (o0 (sqD X Y) (B7 X) n) (AE (sqD X Y) (B7 X) n) (64:Int)=true∧okR (BQ (sqD X Y) (B7 X) (B7 Y) n) (DE (sqD X Y) (B7 X) (B7 Y) n) (64:Int)=true)∧
 (okR (G9 (AE (sqD X Y) (B7 X) n)) (G9 (o0 (sqD X Y) (B7 X) n)) (64:Int)=okR (o0 (sqD X Y) (B7 X) n) (AE (sqD X Y) (B7 X) n) (64:Int)∧
  okR (G9 (DE (sqD X Y) (B7 X) (B7 Y) n)) (G9 (BQ (sqD X Y) (B7 X) (B7 Y) n)) (64:Int)=okR (BQ (sqD X Y) (B7 X) (B7 Y) n) (DE (sqD X Y) (B7 X) (B7 Y) n) (64:Int)):=by
 obtain ⟨⟨⟨f1,f2⟩,f3,f4⟩,⟨k1,k2⟩,k3,k4⟩:=A07 off n1 n2
 exact ⟨⟨⟨J9 f1 (by decide),J9 f2 (by decide)⟩,J9 f3 (by decide),J9 f4 (by decide)⟩,⟨k1 64 (by decide),k2 64 (by decide)⟩,fun h=>k3 h 64 (by decide) (by decide),k4 64 (by decide)⟩
theorem B5l {X Y:Dyd} (off:offZ (B7 X) (B7 Y)) {n:Nat} (n1:20≤n) (n2:n≤8192):
  mid (Z4 X Y n)∧mid (g9 X Y n)∧(okR (Z4 X Y n) (g9 X Y n) 64=true→(F6 (Z4 X Y n) 64).1=reD X Y)∧(4700≤n→okR (Z4 X Y n) (g9 X Y n) 64=true):=by
 obtain ⟨⟨⟨f1,f2⟩,f3,f4⟩,⟨k1,k2⟩,k3,k4⟩:=XF off n1 n2
 have e1:X.neg=false→Z4 X Y n=o0 (sqD X Y) (B7 X) n∧g9 X Y n=AE (sqD X Y) (B7 X) n∧reD X Y=EC (B7 X) (B7 Y) 64:=fun h=>by unfold Z4 g9 reD;rw [h,cond_false,cond_false,cond_false];exact ⟨rfl,rfl,rfl⟩
 have e2:X.neg=true→Z4 X Y n=BQ (sqD X Y) (B7 X) (B7 Y) n∧g9 X Y n=DE (sqD X Y) (B7 X) (B7 Y) n∧reD X Y=V6 (B7 X) (B7 Y) 64:=fun h=>by unfold Z4 g9 reD;rw [h,cond_true,cond_true,cond_true];exact ⟨rfl,rfl,rfl⟩
 cases h:X.neg
 ·obtain ⟨a,b,c⟩:=e1 h
  rw [a,b,c]
  exact ⟨f1,f2,k1,fun h=>(k3 h).1⟩
 ·obtain ⟨a,b,c⟩:=e2 h
  rw [a,b,c]
  exact ⟨f3,f4,k2,fun h=>(k3 h).2⟩
theorem C8a {X Y:Dyd} (off:offZ (B7 X) (B7 Y)) {n:Nat} (n1:20≤n) (n2:n≤8192):
  mid (CX X Y n)∧mid (EZ X Y n)∧(okR (CX X Y n) (EZ X Y n) 64=true→(F6 (CX X Y n) 64).1=bif X.neg then EC (B7 X) (B7 Y) 64 else V6 (B7 X) (B7 Y) 64)∧(4700≤n→okR (CX X Y n) (EZ X Y n) 64=true)∧
   okR (G9 (EZ X Y n)) (G9 (CX X Y n)) 64=okR (CX X Y n) (EZ X Y n) 64:=by
 obtain ⟨⟨⟨f1,f2⟩,f3,f4⟩,⟨k1,k2⟩,k3,k4⟩:=XF off n1 n2
 have e1:X.neg=false→CX X Y n=BQ (sqD X Y) (B7 X) (B7 Y) n∧EZ X Y n=DE (sqD X Y) (B7 X) (B7 Y) n:=fun h=>by unfold CX EZ;rw [h,cond_false,cond_false];exact ⟨rfl,rfl⟩
 have e2:X.neg=true→CX X Y n=o0 (sqD X Y) (B7 X) n∧EZ X Y n=AE (sqD X Y) (B7 X) n:=fun h=>by unfold CX EZ;rw [h,cond_true,cond_true];exact ⟨rfl,rfl⟩
 cases h:X.neg
 ·obtain ⟨a,b⟩:=e1 h
  rw [a,b,cond_false]
  exact ⟨f3,f4,k2,fun h=>(k3 h).2,k4.2⟩
 ·obtain ⟨a,b⟩:=e2 h
  rw [a,b,cond_true]
  exact ⟨f1,f2,k1,fun h=>(k3 h).1,k4.1⟩
theorem C4b {d:Dyd} (h:mid d):mid (G9 d):=J9 (YY (GA h)) (by decide)
theorem D4s {lo hi v:Dyd} {neg:Bool} (h:mid lo∧mid hi∧(okR lo hi 64=true→(F6 lo 64).1=v)∧okR (G9 hi) (G9 lo) 64=okR lo hi 64):
  mid (bif neg then G9 hi else lo)∧mid (bif neg then G9 lo else hi)∧(okR (bif neg then G9 hi else lo) (bif neg then G9 lo else hi) 64=true→(F6 (bif neg then G9 hi else lo) 64).1=bif neg then G9 v else v)∧
   okR (bif neg then G9 hi else lo) (bif neg then G9 lo else hi) 64=okR lo hi 64:=by
 obtain ⟨f1,f2,k1,k3⟩:=h
 cases neg
 ·rw [cond_false,cond_false,cond_false]
  exact ⟨f1,f2,k1,rfl⟩
 ·rw [cond_true,cond_true,cond_true,k3]
  refine ⟨C4b f2,C4b f1,fun h=> ?_,rfl⟩
  have e:=A65 (FY f1 (n:=64) (by decide)) (FY f2 (n:=64) (by decide)) (PI.1 h).2
  have e2:=C77 f2.1 (b:=64) (by decide)
  rw [show ((64:Nat):Int)=64 from rfl] at e2
  rw [e2,←e,k1 h]
theorem B2r {X Y:Dyd} (off:offZ (B7 X) (B7 Y)) {n:Nat} (n1:20≤n) (n2:n≤8192):
  mid (EY X Y n)∧mid (FO X Y n)∧(okR (EY X Y n) (FO X Y n) 64=true→(F6 (EY X Y n) 64).1=imD X Y)∧(4700≤n→okR (EY X Y n) (FO X Y n) 64=true):=by
 obtain ⟨f1,f2,k1,k2,k3⟩:=C8a off n1 n2
 obtain ⟨g1,g2,g3,g4⟩:=D4s (neg:=Y.neg) ⟨f1,f2,k1,k3⟩
 unfold EY FO imD
 refine ⟨g1,g2,g3,fun h=> ?_⟩
 rw [g4]
 exact k2 h
theorem D2h {P Q:Dyd} {s s':Bool} (hp:mid P∧A5 (K4 P)=true∧mid (G9 P)∧K4 (G9 P)=G9 (K4 P)) (hq:mid Q∧A5 (K4 Q)=true∧mid (G9 Q)∧K4 (G9 Q)=G9 (K4 Q)):
  (mid (bif s then Q else P)∧A5 (K4 (bif s then Q else P))=true)∧(mid (bif s' then G9 (bif s then P else Q) else (bif s then P else Q))∧A5 (K4 (bif s' then G9 (bif s then P else Q) else (bif s then P else Q)))=true):=by
 cases s<;>cases s'<;>simp only [cond_true,cond_false]
 ·exact ⟨⟨hp.1,hp.2.1⟩,⟨hq.1,hq.2.1⟩⟩
 ·exact ⟨⟨hp.1,hp.2.1⟩,⟨hq.2.2.1,by rw [hq.2.2.2];exact GY hq.2.1⟩⟩
 ·exact ⟨⟨hq.1,hq.2.1⟩,⟨hp.1,hp.2.1⟩⟩
 ·exact ⟨⟨hq.1,hq.2.1⟩,⟨hp.2.2.1,by rw [hp.2.2.2];exact GY hp.2.1⟩⟩
theorem C9x {x y:Dyd} (off:offZ x y) {k:Nat} (hk:k≤512) (tx:C7 x≤2*k) (ty:C7 y≤2*k):
  ((mid (EC x y 64)∧A5 (K4 (EC x y 64))=true∧mid (G9 (EC x y 64))∧K4 (G9 (EC x y 64))=G9 (K4 (EC x y 64)))∧((K4 (EC x y 64)).neg=false∧(K4 (EC x y 64)).mag≠[]∧C7 (K4 (EC x y 64))≤k+1))∧
  ((mid (V6 x y 64)∧A5 (K4 (V6 x y 64))=true∧mid (G9 (V6 x y 64))∧K4 (G9 (V6 x y 64))=G9 (K4 (V6 x y 64)))∧((K4 (V6 x y 64)).neg=false∧(K4 (V6 x y 64)).mag≠[]∧C7 (K4 (V6 x y 64))≤k+1)):=by
 obtain ⟨V,p,q,hV,e1,e2,hp,hq⟩:=C63 off tx ty
 have hp2:=C3s (w:=p) (V:=V) (by omega) (by omega) hp.lo (G7 hp.hi (B3 (by decide) (by omega)))
 have hq2:=C3s (w:=q) (V:=V) (by omega) (by omega) hq.lo (G7 hq.hi (B3 (by decide) (by omega)))
 have bp:=I8.2 hp.hi
 have bq:=I8.2 hq.hi
 rw [←e1] at hp2
 rw [←e2] at hq2
 obtain ⟨a1,a2,a3,a4,a5,a6,a7⟩:=hp2
 obtain ⟨c1,c2,c3,c4,c5,c6,c7⟩:=hq2
 exact ⟨⟨⟨a1,a2,a6,a7⟩,a3,a4,by omega⟩,⟨⟨c1,c2,c6,c7⟩,c3,c4,by omega⟩⟩
theorem B8a {X Y:Dyd} (off:offZ (B7 X) (B7 Y)):(mid (reD X Y)∧A5 (K4 (reD X Y))=true)∧(mid (imD X Y)∧A5 (K4 (imD X Y))=true):=by
 have h:=C9x off (k:=512) (by decide) off.tx off.ty
 exact D2h h.1.1 h.2.1
end Go.Dy
