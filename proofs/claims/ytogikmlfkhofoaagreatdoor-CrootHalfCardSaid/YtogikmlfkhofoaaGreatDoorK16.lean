/- My texts AVround, AIround0, AIround, AIround2, AIroot0, AVroot, AIroot, AIroot1, in one. -/
import Derived.Test.YtogikmlfkhofoaaGreatDoorK15
namespace Go.AI
open Dy IntKind
open Go Go.RowKit Go.Proofs
set_option linter.unusedVariables false
set_option maxRecDepth 100000
set_option maxHeartbeats 0
theorem vc_round_formOf (f:Int) (Q:AV→Prop):(evF Tryz.prog (look tabA4) (lam []) false Tryz.f168 [.num .u8 f] Q)=(bif decide (f=(1:Int)) then Q (.tup [.agg [.num .i64 24,.num .i64 (-149),.num .i64 128],.bool true]) else bif decide (f=(2:Int)) then Q (.tup [.agg [.num .i64 53,.num .i64 (-1074),.num .i64 1024],.bool true]) else Q (.tup [.agg [.num .i64 0,.num .i64 0,.num .i64 0],.bool false])):=by kernel_rfl
theorem vc_round_partOf (s:Bool) (m:List Nat) (e:Int) (Q:AV→Prop):(evF Tryz.prog (look tabA4) (lam []) false Tryz.f135 [.agg [.bool s,.dig [1] m,.num .i64 e]] Q)=(∀(l1:List Nat),l1=(shiftN m (i64.wrap ((64:Int)-(↑(lenN m):Int)))).mag→∀(b2:Bool),b2=(shiftN m (i64.wrap ((64:Int)-(↑(lenN m):Int)))).lost→∀(n3:Int),n3=(shiftN m (i64.wrap ((64:Int)-(↑(lenN m):Int)))).err→∀(n4:Int),n4=(↑(if (may l1&&decide (l1.length≤2))=true then val l1 else (0:Nat)):Int)→∀(b5:Bool),b5=(may l1&&decide (l1.length≤2))→Q (.agg [.num .u64 n4,.num .i64 (i64.wrap (e+(↑(lenN m):Int))),.bool b2])):=by kernel_rfl
theorem vc_round_up (m:Int) (neg:Bool) (odd:Bool) (half:Bool) (more:Bool) (Q:AV→Prop):(evF Tryz.prog (look tabA4) (lam []) false Tryz.f200 [.num .u8 m,.bool neg,.bool odd,.bool half,.bool more] Q)=(bif decide (m=(1:Int)) then bif !more then bif !odd then Q (.bool false) else Q (.bool half) else Q (.bool half) else bif decide (m=(2:Int)) then Q (.bool half) else bif decide (m=(4:Int)) then bif !neg then bif half then Q (.bool true) else Q (.bool more) else Q (.bool false) else bif decide (m=(5:Int)) then bif neg then bif half then Q (.bool true) else Q (.bool more) else Q (.bool false) else Q (.bool false)):=by kernel_rfl
theorem vc_round_btoi (b:Bool) (Q:AV→Prop):(evF Tryz.prog (look tabA4) (lam []) false Tryz.f199 [.bool b] Q)=(bif b then Q (.num .u64 1) else Q (.num .u64 0)):=by kernel_rfl
theorem vc_round_open0 (f:Int) (m:Int) (Q:AV→Prop):(evF Tryz.prog (look tabB0) (lam [((7:Nat),LoopAnn.unroll (2:Nat))]) false Tryz.f118 [.num .u8 f,.num .u8 m,.dig [3] []] Q)=(∀(n1:Int),n1=rP f→∀(n2:Int),n2=rL f→∀(n3:Int),n3=rW f→∀(b4:Bool),b4=isFb f→bif !b4 then Q (.tup [.agg [.num .i64 n1,.num .i64 n2,.num .i64 n3],.num .i64 4]) else bif decide (m<1) then Q (.tup [.agg [.num .i64 n1,.num .i64 n2,.num .i64 n3],.num .i64 5]) else bif decide (m>(5:Int)) then Q (.tup [.agg [.num .i64 n1,.num .i64 n2,.num .i64 n3],.num .i64 5]) else Q (.tup [.agg [.num .i64 n1,.num .i64 n2,.num .i64 n3],.num .i64 0])):=by kernel_rfl
theorem vc_round_open1 (f:Int) (m:Int) (s:Bool) (d:List Nat) (e:Int) (Q:AV→Prop):(evF Tryz.prog (look tabB0) (lam [((7:Nat),LoopAnn.unroll (2:Nat))]) false Tryz.f118 [.num .u8 f,.num .u8 m,.vec [3] (3:Nat) [.agg [.bool s,.dig [3] d,.num .i64 e]]] Q)=(∀(n1:Int),n1=rP f→∀(n2:Int),n2=rL f→∀(n3:Int),n3=rW f→∀(b4:Bool),b4=isFb f→bif !b4 then Q (.tup [.agg [.num .i64 n1,.num .i64 n2,.num .i64 n3],.num .i64 4]) else bif decide (m<1) then Q (.tup [.agg [.num .i64 n1,.num .i64 n2,.num .i64 n3],.num .i64 5]) else bif decide (m>(5:Int)) then Q (.tup [.agg [.num .i64 n1,.num .i64 n2,.num .i64 n3],.num .i64 5]) else ((0:Int)≤(0:Int)∧(0:Int)<(↑[AV.agg [AV.bool s,AV.dig [(3:Nat)] d,AV.num i64 e]].length:Int))∧bif !mayD (Dyd.mk s d e) then Q (.tup [.agg [.num .i64 n1,.num .i64 n2,.num .i64 n3],.num .i64 2]) else Q (.tup [.agg [.num .i64 n1,.num .i64 n2,.num .i64 n3],.num .i64 0])):=by kernel_rfl
theorem vc_round_units (h:Int) (top:Int) (more:Bool) (m:Int) (neg:Bool) (e:Int) (Q:AV→Prop):(evF Tryz.prog (look tabB0) (lam []) false Tryz.f174 [.agg [.num .u64 h,.num .i64 top,.bool more],.num .u8 m,.bool neg,.num .i64 e] Q)=(bif decide (i64.wrap (i64.wrap (e-top)+(64:Int))>(64:Int)) then Q (.tup [.num .u64 (↑(btoN (upB m neg false false true)):Int),.bool false]) else bif decide (i64.wrap (i64.wrap (e-top)+(64:Int))<(64:Int)) then (0:Int)≤i64.wrap (i64.wrap (e-top)+(64:Int))∧bif decide (i64.wrap (i64.wrap (e-top)+(64:Int))>(0:Int)) then (0:Int)≤i64.wrap (i64.wrap (i64.wrap (e-top)+(64:Int))-(1:Int))∧bif more then bif !decide (u64.wrap (↑(BitVec.ofInt (64:Nat) (h.fdiv ((2:Int)^min (i64.wrap (i64.wrap (i64.wrap (e-top)+(64:Int))-(1:Int))).toNat (64:Nat)))&&&BitVec.ofInt (64:Nat) (1:Int)).toNat:Int)=(1:Int)) then Q (.tup [.num .u64 (u64.wrap (h.fdiv ((2:Int)^min (i64.wrap (i64.wrap (e-top)+(64:Int))).toNat (64:Nat))+(↑(btoN (upB m neg (u64.wrap (↑(BitVec.ofInt (64:Nat) (h.fdiv ((2:Int)^min (i64.wrap (i64.wrap (e-top)+(64:Int))).toNat (64:Nat)))&&&BitVec.ofInt (64:Nat) (1:Int)).toNat:Int)==(1:Int)) (u64.wrap (↑(BitVec.ofInt (64:Nat) (h.fdiv ((2:Int)^min (i64.wrap (i64.wrap (i64.wrap (e-top)+(64:Int))-(1:Int))).toNat (64:Nat)))&&&BitVec.ofInt (64:Nat) (1:Int)).toNat:Int)==(1:Int)) true)):Int))),.bool false]) else Q (.tup [.num .u64 (u64.wrap (h.fdiv ((2:Int)^min (i64.wrap (i64.wrap (e-top)+(64:Int))).toNat (64:Nat))+(↑(btoN (upB m neg (u64.wrap (↑(BitVec.ofInt (64:Nat) (h.fdiv ((2:Int)^min (i64.wrap (i64.wrap (e-top)+(64:Int))).toNat (64:Nat)))&&&BitVec.ofInt (64:Nat) (1:Int)).toNat:Int)==(1:Int)) (u64.wrap (↑(BitVec.ofInt (64:Nat) (h.fdiv ((2:Int)^min (i64.wrap (i64.wrap (i64.wrap (e-top)+(64:Int))-(1:Int))).toNat (64:Nat)))&&&BitVec.ofInt (64:Nat) (1:Int)).toNat:Int)==(1:Int)) true)):Int))),.bool false]) else (0:Int)≤i64.wrap (i64.wrap (i64.wrap (e-top)+(64:Int))-(1:Int))∧bif !decide (u64.wrap (↑(BitVec.ofInt (64:Nat) (h.fdiv ((2:Int)^min (i64.wrap (i64.wrap (i64.wrap (e-top)+(64:Int))-(1:Int))).toNat (64:Nat)))&&&BitVec.ofInt (64:Nat) (1:Int)).toNat:Int)=(1:Int)) then Q (.tup [.num .u64 (u64.wrap (h.fdiv ((2:Int)^min (i64.wrap (i64.wrap (e-top)+(64:Int))).toNat (64:Nat))+(↑(btoN (upB m neg (u64.wrap (↑(BitVec.ofInt (64:Nat) (h.fdiv ((2:Int)^min (i64.wrap (i64.wrap (e-top)+(64:Int))).toNat (64:Nat)))&&&BitVec.ofInt (64:Nat) (1:Int)).toNat:Int)==(1:Int)) (u64.wrap (↑(BitVec.ofInt (64:Nat) (h.fdiv ((2:Int)^min (i64.wrap (i64.wrap (i64.wrap (e-top)+(64:Int))-(1:Int))).toNat (64:Nat)))&&&BitVec.ofInt (64:Nat) (1:Int)).toNat:Int)==(1:Int)) !decide (u64.wrap (↑(BitVec.ofInt (64:Nat) h&&&BitVec.ofInt (64:Nat) (u64.wrap (u64.wrap ((1:Int)*(2:Int)^min (i64.wrap (i64.wrap (i64.wrap (e-top)+(64:Int))-(1:Int))).toNat (64:Nat))-(1:Int)))).toNat:Int)=(0:Int)))):Int))),.bool !!decide (u64.wrap (↑(BitVec.ofInt (64:Nat) h&&&BitVec.ofInt (64:Nat) (u64.wrap (u64.wrap ((1:Int)*(2:Int)^min (i64.wrap (i64.wrap (i64.wrap (e-top)+(64:Int))-(1:Int))).toNat (64:Nat))-(1:Int)))).toNat:Int)=(0:Int))]) else Q (.tup [.num .u64 (u64.wrap (h.fdiv ((2:Int)^min (i64.wrap (i64.wrap (e-top)+(64:Int))).toNat (64:Nat))+(↑(btoN (upB m neg (u64.wrap (↑(BitVec.ofInt (64:Nat) (h.fdiv ((2:Int)^min (i64.wrap (i64.wrap (e-top)+(64:Int))).toNat (64:Nat)))&&&BitVec.ofInt (64:Nat) (1:Int)).toNat:Int)==(1:Int)) (u64.wrap (↑(BitVec.ofInt (64:Nat) (h.fdiv ((2:Int)^min (i64.wrap (i64.wrap (i64.wrap (e-top)+(64:Int))-(1:Int))).toNat (64:Nat)))&&&BitVec.ofInt (64:Nat) (1:Int)).toNat:Int)==(1:Int)) !decide (u64.wrap (↑(BitVec.ofInt (64:Nat) h&&&BitVec.ofInt (64:Nat) (u64.wrap (u64.wrap ((1:Int)*(2:Int)^min (i64.wrap (i64.wrap (i64.wrap (e-top)+(64:Int))-(1:Int))).toNat (64:Nat))-(1:Int)))).toNat:Int)=(0:Int)))):Int))),.bool false]) else Q (.tup [.num .u64 (u64.wrap (h.fdiv ((2:Int)^min (i64.wrap (i64.wrap (e-top)+(64:Int))).toNat (64:Nat))+(↑(btoN (upB m neg (u64.wrap (↑(BitVec.ofInt (64:Nat) (h.fdiv ((2:Int)^min (i64.wrap (i64.wrap (e-top)+(64:Int))).toNat (64:Nat)))&&&BitVec.ofInt (64:Nat) (1:Int)).toNat:Int)==(1:Int)) false more)):Int))),.bool !more]) else bif decide (i64.wrap (i64.wrap (e-top)+(64:Int))>(0:Int)) then (0:Int)≤i64.wrap (i64.wrap (i64.wrap (e-top)+(64:Int))-(1:Int))∧bif more then bif !decide (u64.wrap (↑(BitVec.ofInt (64:Nat) (h.fdiv ((2:Int)^min (i64.wrap (i64.wrap (i64.wrap (e-top)+(64:Int))-(1:Int))).toNat (64:Nat)))&&&BitVec.ofInt (64:Nat) (1:Int)).toNat:Int)=(1:Int)) then Q (.tup [.num .u64 (u64.wrap ((0:Int)+(↑(btoN (upB m neg (u64.wrap (↑(0:Nat):Int)==(1:Int)) (u64.wrap (↑(BitVec.ofInt (64:Nat) (h.fdiv ((2:Int)^min (i64.wrap (i64.wrap (i64.wrap (e-top)+(64:Int))-(1:Int))).toNat (64:Nat)))&&&BitVec.ofInt (64:Nat) (1:Int)).toNat:Int)==(1:Int)) true)):Int))),.bool false]) else Q (.tup [.num .u64 (u64.wrap ((0:Int)+(↑(btoN (upB m neg (u64.wrap (↑(0:Nat):Int)==(1:Int)) (u64.wrap (↑(BitVec.ofInt (64:Nat) (h.fdiv ((2:Int)^min (i64.wrap (i64.wrap (i64.wrap (e-top)+(64:Int))-(1:Int))).toNat (64:Nat)))&&&BitVec.ofInt (64:Nat) (1:Int)).toNat:Int)==(1:Int)) true)):Int))),.bool false]) else (0:Int)≤i64.wrap (i64.wrap (i64.wrap (e-top)+(64:Int))-(1:Int))∧bif !decide (u64.wrap (↑(BitVec.ofInt (64:Nat) (h.fdiv ((2:Int)^min (i64.wrap (i64.wrap (i64.wrap (e-top)+(64:Int))-(1:Int))).toNat (64:Nat)))&&&BitVec.ofInt (64:Nat) (1:Int)).toNat:Int)=(1:Int)) then Q (.tup [.num .u64 (u64.wrap ((0:Int)+(↑(btoN (upB m neg (u64.wrap (↑(0:Nat):Int)==(1:Int)) (u64.wrap (↑(BitVec.ofInt (64:Nat) (h.fdiv ((2:Int)^min (i64.wrap (i64.wrap (i64.wrap (e-top)+(64:Int))-(1:Int))).toNat (64:Nat)))&&&BitVec.ofInt (64:Nat) (1:Int)).toNat:Int)==(1:Int)) !decide (u64.wrap (↑(BitVec.ofInt (64:Nat) h&&&BitVec.ofInt (64:Nat) (u64.wrap (u64.wrap ((1:Int)*(2:Int)^min (i64.wrap (i64.wrap (i64.wrap (e-top)+(64:Int))-(1:Int))).toNat (64:Nat))-(1:Int)))).toNat:Int)=(0:Int)))):Int))),.bool !!decide (u64.wrap (↑(BitVec.ofInt (64:Nat) h&&&BitVec.ofInt (64:Nat) (u64.wrap (u64.wrap ((1:Int)*(2:Int)^min (i64.wrap (i64.wrap (i64.wrap (e-top)+(64:Int))-(1:Int))).toNat (64:Nat))-(1:Int)))).toNat:Int)=(0:Int))]) else Q (.tup [.num .u64 (u64.wrap ((0:Int)+(↑(btoN (upB m neg (u64.wrap (↑(0:Nat):Int)==(1:Int)) (u64.wrap (↑(BitVec.ofInt (64:Nat) (h.fdiv ((2:Int)^min (i64.wrap (i64.wrap (i64.wrap (e-top)+(64:Int))-(1:Int))).toNat (64:Nat)))&&&BitVec.ofInt (64:Nat) (1:Int)).toNat:Int)==(1:Int)) !decide (u64.wrap (↑(BitVec.ofInt (64:Nat) h&&&BitVec.ofInt (64:Nat) (u64.wrap (u64.wrap ((1:Int)*(2:Int)^min (i64.wrap (i64.wrap (i64.wrap (e-top)+(64:Int))-(1:Int))).toNat (64:Nat))-(1:Int)))).toNat:Int)=(0:Int)))):Int))),.bool false]) else Q (.tup [.num .u64 (u64.wrap ((0:Int)+(↑(btoN (upB m neg (u64.wrap (↑(0:Nat):Int)==(1:Int)) false more)):Int))),.bool !more])):=by kernel_rfl
theorem vc_round_Over (f:Int) (m:Int) (neg:Bool) (Q:AV→Prop):(evF Tryz.prog (look tabB1) (lam []) false Tryz.f61 [.num .u8 f,.num .u8 m,.bool neg] Q)=(∀(n1:Int),n1=rP f→∀(n2:Int),n2=rL f→∀(n3:Int),n3=rW f→∀(n4:Int),n4=errM f m→bif !decide (n4=(0:Int)) then Q (.tup [.num .u64 0,.num .i64 n4]) else bif decide (m=(3:Int)) then isF f∧∀(n5:Int),n5=(↑(signW f neg+(wInf f-(1:Nat))):Int)→∀(n6:Int),n6=(0:Int)→Q (.tup [.num .u64 n5,.num .i64 n6]) else bif decide (m=(4:Int)) then bif neg then isF f∧∀(n7:Int),n7=(↑(signW f neg+(wInf f-(1:Nat))):Int)→∀(n8:Int),n8=(0:Int)→Q (.tup [.num .u64 n7,.num .i64 n8]) else bif decide (m=(5:Int)) then bif !neg then isF f∧∀(n9:Int),n9=(↑(signW f neg+(wInf f-(1:Nat))):Int)→∀(n10:Int),n10=(0:Int)→Q (.tup [.num .u64 n9,.num .i64 n10]) else isF f∧∀(n11:Int),n11=(↑(signW f neg+wInf f):Int)→∀(n12:Int),n12=(0:Int)→Q (.tup [.num .u64 n11,.num .i64 n12]) else isF f∧∀(n13:Int),n13=(↑(signW f neg+wInf f):Int)→∀(n14:Int),n14=(0:Int)→Q (.tup [.num .u64 n13,.num .i64 n14]) else bif decide (m=(5:Int)) then bif !neg then isF f∧∀(n15:Int),n15=(↑(signW f neg+(wInf f-(1:Nat))):Int)→∀(n16:Int),n16=(0:Int)→Q (.tup [.num .u64 n15,.num .i64 n16]) else isF f∧∀(n17:Int),n17=(↑(signW f neg+wInf f):Int)→∀(n18:Int),n18=(0:Int)→Q (.tup [.num .u64 n17,.num .i64 n18]) else isF f∧∀(n19:Int),n19=(↑(signW f neg+wInf f):Int)→∀(n20:Int),n20=(0:Int)→Q (.tup [.num .u64 n19,.num .i64 n20])):=by kernel_rfl
theorem vc_round_word (h:Int) (top:Int) (more:Bool) (f:Int) (a:Int) (b:Int) (c:Int) (m:Int) (neg:Bool) (Q:AV→Prop):(evF Tryz.prog (look tabB2) (lam []) false Tryz.f136 [.agg [.num .u64 h,.num .i64 top,.bool more],.num .u8 f,.agg [.num .i64 a,.num .i64 b,.num .i64 c],.num .u8 m,.bool neg] Q)=((-1073741824≤top∧top≤(1073741824:Int)∧(-1073741824≤if b>i64.wrap (top-a) then b else i64.wrap (top-a))∧(if b>i64.wrap (top-a) then b else i64.wrap (top-a))≤(1073741824:Int)∧(1:Int)≤(if b>i64.wrap (top-a) then b else i64.wrap (top-a))-top+(64:Int))∧∀(n1:Int),n1=(↑(unitsN (Prt.mk h.toNat top more) m neg (if b>i64.wrap (top-a) then b else i64.wrap (top-a))).fst:Int)→∀(b2:Bool),b2=(unitsN (Prt.mk h.toNat top more) m neg (if b>i64.wrap (top-a) then b else i64.wrap (top-a))).snd→bif decide (i64.wrap ((↑(bl n1.toNat):Int)+if b>i64.wrap (top-a) then b else i64.wrap (top-a))>c) then∀(n3:Int),n3=(↑(bif decide (errM f m=(0:Int)) then overW f m neg else (0:Nat)):Int)→∀(n4:Int),n4=errM f m→Q (.tup [.num .u64 n3,.num .u8 20]) else dyF (makeD neg (dg n1.toNat) (if b>i64.wrap (top-a) then b else i64.wrap (top-a))).1 fun b5 l6 n7=>∀(n8:Int),n8=(makeD neg (dg n1.toNat) (if b>i64.wrap (top-a) then b else i64.wrap (top-a))).snd→(isF f∧mayD (Dyd.mk b5 l6 n7)=true∧bl (val l6)≤wFrac f+(1:Nat)∧(l6≠[]→wLow f≤n7∧topD (Dyd.mk b5 l6 n7)≤wWide f))∧∀(n9:Int),n9=(↑(if l6=[] then (0:Nat) else signW f b5+sizeW f (Dyd.mk b5 l6 n7)):Int)→∀(n10:Int),n10=(0:Int)→bif decide (n1=(0:Int)) then isF f∧∀(n11:Int),n11=(↑(signW f neg):Int)→∀(n12:Int),n12=(0:Int)→bif b2 then Q (.tup [.num .u64 n11,.num .u8 0]) else (-1073741824≤top∧top≤(1073741824:Int)∧(-1073741824:Int)≤i64.wrap (top-a)∧i64.wrap (top-a)≤(1073741824:Int)∧(1:Int)≤i64.wrap (top-a)-top+(64:Int))∧∀(n13:Int),n13=(↑(unitsN (Prt.mk h.toNat top more) m neg (i64.wrap (top-a))).fst:Int)→∀(b14:Bool),b14=(unitsN (Prt.mk h.toNat top more) m neg (i64.wrap (top-a))).snd→bif decide (i64.wrap (i64.wrap ((↑(bl n13.toNat):Int)+top)-a)<i64.wrap (b+a)) then Q (.tup [.num .u64 n11,.num .u8 24]) else Q (.tup [.num .u64 n11,.num .u8 16]) else bif b2 then Q (.tup [.num .u64 n9,.num .u8 0]) else (-1073741824≤top∧top≤(1073741824:Int)∧(-1073741824:Int)≤i64.wrap (top-a)∧i64.wrap (top-a)≤(1073741824:Int)∧(1:Int)≤i64.wrap (top-a)-top+(64:Int))∧∀(n15:Int),n15=(↑(unitsN (Prt.mk h.toNat top more) m neg (i64.wrap (top-a))).fst:Int)→∀(b16:Bool),b16=(unitsN (Prt.mk h.toNat top more) m neg (i64.wrap (top-a))).snd→bif decide (i64.wrap (i64.wrap ((↑(bl n15.toNat):Int)+top)-a)<i64.wrap (b+a)) then Q (.tup [.num .u64 n9,.num .u8 24]) else Q (.tup [.num .u64 n9,.num .u8 16])):=by kernel_rfl
theorem vc_round_Round (f:Int) (m:Int) (s:Bool) (d:List Nat) (e:Int) (Q:AV→Prop):(evF Tryz.prog (look tabB3) (lam []) false Tryz.f156 [.num .u8 f,.num .u8 m,.agg [.bool s,.dig [3] d,.num .i64 e]] Q)=(mayD (Dyd.mk s d e)=true∧∀(n1:Int),n1=rP f→∀(n2:Int),n2=rL f→∀(n3:Int),n3=rW f→∀(n4:Int),n4=errM f m→bif !decide (n4=(0:Int)) then Q (.tup [.num .u64 0,.num .u8 0,.num .i64 n4]) else bif decide ((if mayD (Dyd.mk s d e)=true then signD (Dyd.mk s d e) else (0:Int))=(0:Int)) then Q (.tup [.num .u64 0,.num .u8 0,.num .i64 0]) else (mayD (Dyd.mk s d e)=true∧d≠[])∧∀(n5:Int),n5=(↑(partD (Dyd.mk s d e)).h:Int)→∀(n6:Int),n6=(partD (Dyd.mk s d e)).top→∀(b7:Bool),b7=(partD (Dyd.mk s d e)).more→(errM f m=(0:Int)∧n1=rP f∧n2=rL f∧n3=rW f∧9223372036854775808≤n5∧ -20000000≤n6∧n6≤20000000)∧∀(n8:Int),n8=(↑(wordN f m s (Prt.mk n5.toNat n6 b7)).fst:Int)→∀(n9:Int),n9=(wordN f m s (Prt.mk n5.toNat n6 b7)).snd→Q (.tup [.num .u64 n8,.num .u8 n9,.num .i64 0])):=by kernel_rfl
theorem vc_round_Root (f:Int) (m:Int) (s:Bool) (d:List Nat) (e:Int) (Q:AV→Prop):(evF Tryz.prog (look tabB3) (lam []) false Tryz.f71 [.num .u8 f,.num .u8 m,.agg [.bool s,.dig [3] d,.num .i64 e]] Q)=(mayD (Dyd.mk s d e)=true∧∀(n1:Int),n1=rP f→∀(n2:Int),n2=rL f→∀(n3:Int),n3=rW f→∀(n4:Int),n4=errM f m→bif !decide (n4=(0:Int)) then Q (.tup [.num .u64 0,.num .u8 0,.num .i64 n4]) else bif s then Q (.tup [.num .u64 0,.num .u8 0,.num .i64 10]) else bif decide ((if mayD (Dyd.mk s d e)=true then signD (Dyd.mk s d e) else (0:Int))=(0:Int)) then Q (.tup [.num .u64 0,.num .u8 0,.num .i64 0]) else dyF (rootD (Dyd.mk s d e) (64:Int)).num fun b5 l6 n7=>∀(b8:Bool),b8=(rootD (Dyd.mk s d e) (64:Int)).lost→∀(n9:Int),n9=(rootD (Dyd.mk s d e) (64:Int)).err→(mayD (Dyd.mk b5 l6 n7)=true∧l6≠[])∧∀(n10:Int),n10=(↑(partD (Dyd.mk b5 l6 n7)).h:Int)→∀(n11:Int),n11=(partD (Dyd.mk b5 l6 n7)).top→∀(b12:Bool),b12=(partD (Dyd.mk b5 l6 n7)).more→bif b12 then (errM f m=(0:Int)∧n1=rP f∧n2=rL f∧n3=rW f∧9223372036854775808≤n10∧ -20000000≤n11∧n11≤20000000)∧∀(n13:Int),n13=(↑(wordN f m false (Prt.mk n10.toNat n11 true)).fst:Int)→∀(n14:Int),n14=(wordN f m false (Prt.mk n10.toNat n11 true)).snd→Q (.tup [.num .u64 n13,.num .u8 n14,.num .i64 0]) else (errM f m=(0:Int)∧n1=rP f∧n2=rL f∧n3=rW f∧9223372036854775808≤n10∧ -20000000≤n11∧n11≤20000000)∧∀(n15:Int),n15=(↑(wordN f m false (Prt.mk n10.toNat n11 b8)).fst:Int)→∀(n16:Int),n16=(wordN f m false (Prt.mk n10.toNat n11 b8)).snd→Q (.tup [.num .u64 n15,.num .u8 n16,.num .i64 0])):=by kernel_rfl
theorem vc_pair_Good (f:Int) (a:Int) (b:Int) (Q:AV→Prop):(evF Tryz.prog (look tabB4) (lam []) false Tryz.f62 [.num .u8 f,.agg [.num .u64 a,.num .u64 b]] Q)=(bif !decide (errW f a=(0:Int)) then Q (.num .i64 (errW f a)) else Q (.num .i64 (errW f b))):=by kernel_rfl
end Go.AI

namespace Go.Dy
set_option maxRecDepth 100000
theorem unitE_ge (f:Int) (p:Prt):wLow f≤unitE f p∧p.top-(wFrac f+1)≤unitE f p∧(unitE f p=wLow f∨unitE f p=p.top-(wFrac f+1)):=by unfold unitE;omega
theorem units_le {f m:Int} (hf:isF f) {neg:Bool} {p:Prt} (hp:p.ok):(unitsN p m neg (unitE f p)).1≤2^(wFrac f+1):=by
 obtain ⟨e1,e2, -⟩:=unitE_ge f p
 generalize unitE f p=E at*
 unfold unitsN
 split
 ·rename_i c
  have:=btoN_le (upB m neg false false true)
  exact Nat.le_trans this (Nat.one_le_two_pow)
 ·rename_i c
  have hd:64-(wFrac f+1)≤(E-p.top+64).toNat:=by rcases fmt_facts hf with h|h<;>omega
  have hl:=unitsD_le hp m neg (d:=(E-p.top+64).toNat) (by omega)
  exact Nat.le_trans hl (Nat.pow_le_pow_right (by decide) (by omega))
theorem units_ge {f m:Int} (hf:isF f) {neg:Bool} {p:Prt} (hp:p.ok) (he:wLow f<unitE f p):2^wFrac f≤(unitsN p m neg (unitE f p)).1:=by
 obtain ⟨e1,e2,e3⟩:=unitE_ge f p
 have hF:wFrac f≤52:=by rcases fmt_facts hf with c|c<;>omega
 generalize unitE f p=E at*
 unfold unitsN
 rw [if_neg (by omega),show (E-p.top+64).toNat=63-wFrac f by omega]
 unfold unitsD
 simp only
 have:2^wFrac f≤p.h/2^(63-wFrac f):=by
  rw [Nat.le_div_iff_mul_le (Nat.two_pow_pos _),←Nat.pow_add,show wFrac f+(63-wFrac f)=63 by omega]
  exact hp.1
 omega
theorem word_size {f m:Int} (hf:isF f) {neg:Bool} {p:Prt} (hp:p.ok) {E:Int} {N:Nat} (hE:unitE f p=E) (hN:(unitsN p m neg (unitE f p)).1=N) (ht: -20000000≤p.top∧p.top≤20000000) (hw:¬wWide f<bl N+E):
  mayD (form neg N E)=true∧bl (val (form neg N E).mag)≤wFrac f+1∧((form neg N E).mag≠[]→wLow f≤(form neg N E).exp∧topD (form neg N E)≤wWide f)∧
   (N=0→E=wLow f)∧(N≠0→(form neg N E).mag≠[]∧(form neg N E).neg=neg∧sizeW f (form neg N E)=(E-wLow f).toNat*2^wFrac f+N)∧N<2^64∧ -1074≤E∧E≤1024:=by
 have h1:=units_le hf (m:=m) (neg:=neg) hp
 have h2:=units_ge hf (m:=m) (neg:=neg) hp
 obtain ⟨e1,e2,e3⟩:=unitE_ge f p
 rw [hN] at h1
 rw [hN,hE] at h2
 rw [hE] at e1 e2 e3
 have hF:=fmt_facts hf
 have hN64:N<2^64:=Nat.lt_of_le_of_lt h1 (Nat.pow_lt_pow_right (by decide) (by omega))
 have hlow:N=0→E=wLow f:=fun c=>by
  rcases Int.lt_or_le (wLow f) E with d|d
  ·have:=h2 d
   have:=Nat.two_pow_pos (wFrac f)
   omega
  ·omega
 have hb:=bl_mono h1
 have hb2:bl (2^(wFrac f+1))=wFrac f+2:=by
  have:=bl_mul_two_pow (n:=1) (by decide) (wFrac f+1)
  rw [Nat.one_mul,show bl 1=1 from rfl] at this
  omega
 have hfit:=(fit_form (s:=neg) (n:=N) (e:=E) (L:=100) (E:=3000) (by omega) (by omega) (by omega) (by decide) (by decide)).1
 refine ⟨hfit.may,?_,fun h=> ?_,hlow,fun h=> ?_,hN64,by omega,by omega⟩
 ·by_cases c:N=2^(wFrac f+1)
  ·have ht:tz N=wFrac f+1:=by
    have:=tz_mul (wFrac f+1) 0
    rw [show 2*0+1=1 from rfl,Nat.mul_one] at this
    rw [c,this]
   have h0:N≠0:=by have:=Nat.two_pow_pos (wFrac f+1);omega
   rw [form_pos h0]
   simp only
   rw [val_dg,ht,c,Nat.div_self (Nat.two_pow_pos _)]
   show 1≤_
   omega
  ·have h3:=(form_dg (s:=neg) (n:=N) (e:=E)).2.2.1
   have h4:bl N≤wFrac f+1:=bl_le.2 (by omega)
   omega
 ·have h0:N≠0:=fun c=>by subst c;exact h rfl
  rw [top_form h0]
  rw [form_pos h0]
  simp only
  exact ⟨by omega,by omega⟩
 ·have hne:(form neg N E).mag≠[]:=fun c=>by
   rw [form_pos h] at c
   have h0:=dg_eq_nil.1 c
   have h1:=div_tz_odd h
   omega
  refine ⟨hne,by rw [form_pos h],?_⟩
  have htop:=top_form (s:=neg) (e:=E) h
  have hbp:=bl_pos.2 h
  unfold sizeW
  rw [htop]
  rw [form_pos h]
  simp only
  rw [val_dg]
  obtain ⟨q,hq⟩:=two_tz_dvd N
  have hqd:N/2^tz N=q:=by
   conv=>lhs;arg 1;rw [hq]
   exact Nat.mul_div_cancel_left _ (Nat.two_pow_pos _)
  rw [hqd]
  by_cases c:N=2^(wFrac f+1)
  ·have hbN:bl N=wFrac f+2:=by rw [c];exact hb2
   have ht:tz N=wFrac f+1:=by
    have:=tz_mul (wFrac f+1) 0
    rw [show 2*0+1=1 from rfl,Nat.mul_one] at this
    rw [c,this]
   have hq1:q=1:=by
    rw [ht] at hq
    have:=Nat.two_pow_pos (wFrac f+1)
    have e:2^(wFrac f+1)*q=2^(wFrac f+1)*1:=by omega
    exact Nat.eq_of_mul_eq_mul_left this e
   rw [ht,hbN,show max (E+((wFrac f+2:Nat):Int)-(wFrac f:Int)-1) (wLow f)=E+1 by omega,hq1,Nat.one_mul,show (E+((wFrac f+1:Nat):Int)-(E+1)).toNat=wFrac f by omega,
    show (E+1-wLow f).toNat=(E-wLow f).toNat+1 by omega,Nat.add_mul,Nat.one_mul]
   rw [Nat.pow_succ] at c
   omega
  ·have hbN:bl N≤wFrac f+1:=bl_le.2 (by omega)
   have hmax:max (E+(bl N:Int)-(wFrac f:Int)-1) (wLow f)=E:=by
    rcases Int.lt_or_le (wLow f) E with d|d
    ·have h5:=h2 d
     have h6:=bl_mono h5
     have h7:bl (2^wFrac f)=wFrac f+1:=by
      have:=bl_mul_two_pow (n:=1) (by decide) (wFrac f)
      rw [Nat.one_mul,show bl 1=1 from rfl] at this
      omega
     omega
    ·omega
   rw [hmax,show (E+(tz N:Int)-E).toNat=tz N by omega,Nat.mul_comm q,←hq]
theorem rootF_form {d:Dyd} (hd:mayD d=true) (hs:d.neg=false) (h0:d.mag≠[]) {n:Nat} (hn:1≤n):
  ∃(q:Nat) (x1:Int),(rootF d n).1=form false q x1∧bl q=n∧rootU d n=form false (if (rootF d n).2=true then q+1 else q) x1:=by
 obtain ⟨V,hV⟩:∃V:Nat, -(2*V:Int)≤d.exp-(2*n+4):=⟨(2*n+4-d.exp).toNat,by omega⟩
 obtain ⟨X,hX⟩:∃X:Nat,at_ d (-(2*V:Int))=X:=⟨_,at_nat hs _⟩
 obtain ⟨L,u, -, -, -, -, -, -, -,q,x1,h1,h2, -, -, -,h3⟩:=root_span hd hs h0 hn hV hX
 exact ⟨q,x1,h1,h2,h3⟩
theorem rootF_ok {d:Dyd} (hd:mayD d=true) (hs:d.neg=false) (h0:d.mag≠[]) {n:Nat} (hn:1≤n) (hn2:n≤8192):
  mayD (rootF d n).1=true∧(rootF d n).1.mag≠[]∧(rootF d n).1.neg=false∧rootD d n=⟨(rootF d n).1,(rootF d n).2,0⟩∧bl (val (rootF d n).1.mag)≤n:=by
 obtain ⟨q,x1,h1,h2, -⟩:=rootF_form hd hs h0 hn
 have hi:inside (rootF d n).1.exp=true:=by
  obtain ⟨s,m,e⟩:=d
  exact rootF_inside hd (by omega) (by omega)
 have hq:q≠0:=fun c=>by rw [c,bl_zero] at h2;omega
 have hR:=rootD_eq hd hs h0 (k:=(n:Int)) (by omega) (by omega)
 rw [hi,if_pos rfl] at hR
 have f1:=form_dg (s:=false) (n:=q) (e:=x1)
 refine ⟨?_,by rw [h1];exact form_ne hq _,by rw [h1];exact form_nn _ _,hR,by rw [h1];have:=f1.2.2.1;omega⟩
 rw [h1] at hi ⊢
 rw [form_pos hq] at hi ⊢
 rw [mayD_iff]
 have hbl:bl (q/2^tz q)≤131072:=by have:=bl_mono (Nat.div_le_self q (2^tz q));omega
 refine ⟨may_dgn.2 (len_bl.2 hbl),.inr ⟨fun c=> ?_,by rw [val_dg];exact div_tz_odd hq,hi⟩⟩
 have h0:=dg_eq_nil.1 c
 have h1:=div_tz_odd hq
 omega
theorem partD_facts {s:Bool} {m:List Nat} {e:Int} (h:mayD ⟨s,m,e⟩=true) (h0:m≠[]):(partD ⟨s,m,e⟩).ok∧(partD ⟨s,m,e⟩).top=e+bl (val m)∧ -20000000≤(partD ⟨s,m,e⟩).top∧(partD ⟨s,m,e⟩).top≤20000000:=by
 have hb:=may_bl (mayD_may h)
 have hx:=mayD_exp h
 have ht:(partD ⟨s,m,e⟩).top=e+bl (val m):=by unfold partD topD;simp only;rw [if_neg h0]
 exact ⟨partD_ok (d:=⟨s,m,e⟩) (val_ne (mayD_may h) h0),ht,by omega,by omega⟩
theorem errM_zero {f m:Int} (h:errM f m=0):isF f∧1≤m∧m≤5∧rP f=(wFrac f:Int)+1∧rL f=wLow f∧rW f=wWide f:=by
 rcases isFb_cases f with c|c|c
 ·subst c
  unfold errM at h
  rw [show isFb 1=true from rfl,cond_true] at h
  split at h
  ·rename_i hm;exact ⟨.inl rfl,hm.1,hm.2,rfl,rfl,rfl⟩
  ·cases h
 ·subst c
  unfold errM at h
  rw [show isFb 2=true from rfl,cond_true] at h
  split at h
  ·rename_i hm;exact ⟨.inr rfl,hm.1,hm.2,rfl,rfl,rfl⟩
  ·cases h
 ·unfold errM at h
  rw [isFb_not c] at h
  cases h
end Go.Dy

namespace Go.AI
open Go Go.RowKit Go.Proofs
set_option linter.unusedVariables false
set_option maxRecDepth 100000
set_option maxHeartbeats 1000000
theorem ok_round_formOf (args:List AV) (s:Spec) (h:rFormOf args=some s) (hp:andO s.pre True):Contract Tryz.prog Inv 168 args s.res:=by
 unfold rFormOf at h
 split at h
 ·cases h
  rename_i f
  refine contract0 false ok_tabA4 Tryz.func168 (by kernel_rfl) (by kernel_rfl) fun hok=> ?_
  rw [vc_round_formOf]
  rcases Dy.isFb_cases f with c|c|c
  ·subst c;exact cond_t rfl rfl
  ·subst c;exact cond_f rfl (cond_t rfl rfl)
  ·refine cond_f (decide_eq_false c.1) (cond_f (decide_eq_false c.2) ?_)
   unfold frA Dy.rP Dy.rL Dy.rW
   rw [Dy.isFb_not c,if_neg c.1,if_neg c.2,if_neg c.1,if_neg c.2,if_neg c.1,if_neg c.2]
 ·cases h
theorem ok_round_partOf (args:List AV) (s:Spec) (h:rPartOf args=some s) (hp:andO s.pre True):Contract Tryz.prog Inv 135 args s.res:=by
 unfold rPartOf at h
 split at h
 ·cases h
  rename_i s m e
  obtain ⟨⟨hm,h0⟩, -⟩:=hp
  refine contract0 false ok_tabA4 Tryz.func135 (by kernel_rfl) (by kernel_rfl) fun hok=> ?_
  have hmay:=Dy.mayD_may hm
  have hb:=Dy.may_bl hmay
  have hx:=Dy.mayD_exp hm
  have hv:=Dy.val_ne hmay h0
  have ho:=(Dy.partD_facts hm h0).1
  have ht:=(Dy.partD_facts hm h0).2.1
  rw [vc_round_partOf,show Dy.lenN m=Dy.bl (Dy.val m) by unfold Dy.lenN;rw [if_pos hmay],wrap_i64 (n:=64-((Dy.bl (Dy.val m):Nat):Int)) (by omega) (by omega),wrap_i64 (n:=e+((Dy.bl (Dy.val m):Nat):Int)) (by omega) (by omega),←ht]
  have e1:(Dy.shiftN m (64-((Dy.bl (Dy.val m):Nat):Int))).mag=Dy.dg (Dy.partD ⟨s,m,e⟩).h∧(Dy.shiftN m (64-((Dy.bl (Dy.val m):Nat):Int))).lost=(Dy.partD ⟨s,m,e⟩).more:=by
   unfold Dy.partD
   simp only
   by_cases c:Dy.bl (Dy.val m)≤64
   ·rw [if_pos c,show (64-((Dy.bl (Dy.val m):Nat):Int))=((64-Dy.bl (Dy.val m):Nat):Int) by omega,Dy.shiftN_up hmay _ (by omega),Dy.shiftN_offu hmay _ (by omega)]
    exact ⟨rfl,(decide_eq_false (by omega)).symm⟩
   ·rw [if_neg c,show (64-((Dy.bl (Dy.val m):Nat):Int))= -((Dy.bl (Dy.val m)-64:Nat):Int) by omega,Dy.shiftN_neg hmay,Dy.shiftN_off hmay]
    refine ⟨rfl,?_⟩
    congr 1
    exact propext ⟨fun h=>⟨by omega,h⟩,fun h=>h.2⟩
  rw [e1.1,e1.2]
  generalize Dy.partD ⟨s,m,e⟩=p at*
  have hl:(Dy.dg p.h).length≤2:=Dy.length_dg_bl.2 (by have:=Dy.bl_le.2 ho.2;omega)
  have hmy:Dy.may (Dy.dg p.h)=true:=Dy.may_dgn.2 (by omega)
  rintro _ rfl _ rfl _ rfl _ rfl _ rfl
  rw [hmy,decide_eq_true hl,if_pos (show (true&&true)=true from rfl),Dy.val_dg]
 ·cases h
theorem ok_round_up (args:List AV) (s:Spec) (h:rUp args=some s) (hp:andO s.pre True):Contract Tryz.prog Inv 200 args s.res:=by
 unfold rUp at h
 split at h
 ·cases h
  rename_i m neg odd half more
  refine contract0 false ok_tabA4 Tryz.func200 (by kernel_rfl) (by kernel_rfl) fun hok=> ?_
  rw [vc_round_up]
  unfold Dy.upB
  refine cond_i (fun h=> ?_) (fun h=>cond_i (fun h'=> ?_) (fun h'=>cond_i (fun h''=> ?_) (fun h''=>cond_i (fun h3=> ?_) (fun h3=> ?_))))
  ·rw [if_pos (of_decide_eq_true h)]
   cases more<;>cases odd<;>rfl
  ·rw [if_neg (of_decide_eq_false h),if_pos (of_decide_eq_true h')]
  ·rw [if_neg (of_decide_eq_false h),if_neg (of_decide_eq_false h'),if_pos (of_decide_eq_true h'')]
   cases neg<;>cases half<;>rfl
  ·rw [if_neg (of_decide_eq_false h),if_neg (of_decide_eq_false h'),if_neg (of_decide_eq_false h''),if_pos (of_decide_eq_true h3)]
   cases neg<;>cases half<;>rfl
  ·rw [if_neg (of_decide_eq_false h),if_neg (of_decide_eq_false h'),if_neg (of_decide_eq_false h''),if_neg (of_decide_eq_false h3)]
 ·cases h
theorem ok_round_btoi (args:List AV) (s:Spec) (h:rBtoi args=some s) (hp:andO s.pre True):Contract Tryz.prog Inv 199 args s.res:=by
 unfold rBtoi at h
 split at h
 ·cases h
  rename_i b
  refine contract0 false ok_tabA4 Tryz.func199 (by kernel_rfl) (by kernel_rfl) fun hok=> ?_
  rw [vc_round_btoi]
  cases b<;>rfl
 ·cases h
theorem ok_tabB0:PhiOk Tryz.prog Inv (look tabB0):=look_cons (look_cons (look_cons (look_cons ok_tabA4 ok_round_btoi) ok_round_up) ok_round_partOf) ok_round_formOf
theorem ok_round_open (args:List AV) (s:Spec) (h:rOpen args=some s) (hp:andO s.pre True):Contract Tryz.prog Inv 118 args s.res:=by
 unfold rOpen at h
 split at h
 ·cases h
  rename_i f m
  refine contract_at false 39 (lam [(7,.unroll 2)]) ok_tabB0 Tryz.func118 (by kernel_rfl) rfl (loops1u (k:=2) (by kernel_rfl) (by kernel_rfl)) fun hok=> ?_
  rw [vc_round_open0]
  rintro _ rfl _ rfl _ rfl _ rfl
  unfold Dy.errM
  cases hb:Dy.isFb f
  ·exact cond_t rfl rfl
  ·refine cond_f rfl (cond_i (fun h=> ?_) (fun h=>cond_i (fun h'=> ?_) (fun h'=> ?_)))
   ·have:=of_decide_eq_true h
    rw [cond_true,if_neg (by omega)];rfl
   ·have:=of_decide_eq_true h'
    rw [cond_true,if_neg (by omega)];rfl
   ·have:=of_decide_eq_false h
    have:=of_decide_eq_false h'
    rw [cond_true,if_pos (by omega)];rfl
 ·cases h
  rename_i f m s d e
  obtain ⟨hm, -⟩:=hp
  refine contract_at false 39 (lam [(7,.unroll 2)]) ok_tabB0 Tryz.func118 (by kernel_rfl) rfl (loops1u (k:=2) (by kernel_rfl) (by kernel_rfl)) fun hok=> ?_
  rw [vc_round_open1,hm]
  rintro _ rfl _ rfl _ rfl _ rfl
  unfold Dy.errM
  cases hb:Dy.isFb f
  ·exact cond_t rfl rfl
  ·refine cond_f rfl (cond_i (fun h=> ?_) (fun h=>cond_i (fun h'=> ?_) (fun h'=>⟨⟨by decide,(by decide:(0:Int)<1)⟩,cond_f rfl ?_⟩)))
   ·have:=of_decide_eq_true h
    rw [cond_true,if_neg (by omega)];rfl
   ·have:=of_decide_eq_true h'
    rw [cond_true,if_neg (by omega)];rfl
   ·have:=of_decide_eq_false h
    have:=of_decide_eq_false h'
    rw [cond_true,if_pos (by omega)];rfl
 ·cases h
theorem bitlow {x:Nat} (hx:x<2^64):IntKind.u64.wrap ((BitVec.ofInt 64 (x:Int)&&&BitVec.ofInt 64 1).toNat:Int)=((x%2:Nat):Int):=by
 have h:=Dy.and_mask (w:=x) (k:=1) (by decide) hx
 rw [show (((2^1-1:Nat):Nat):Int)=1 from rfl] at h
 rw [h,wrap_nat (by omega)]
theorem beq_one (x:Nat):(((x:Nat):Int)==1)=decide (x=1):=by
 rw [Bool.eq_iff_iff,beq_iff_eq,decide_eq_true_eq]
 omega
theorem ok_round_units (args:List AV) (s:Spec) (h:rUnits args=some s) (hp:andO s.pre True):Contract Tryz.prog Inv 174 args s.res:=by
 unfold rUnits at h
 split at h
 ·cases h
  rename_i h top more m neg e
  obtain ⟨⟨p1,p2,p3,p4,p5⟩, -⟩:=hp
  refine contract0 false ok_tabB0 Tryz.func174 (by kernel_rfl) (by kernel_rfl) fun hok=> ?_
  rw [vc_round_units]
  have hh:=u64_range hok.1.1
  obtain ⟨v,rfl⟩:=Int.eq_ofNat_of_zero_le hh.1
  have hv:v<2^64:=by omega
  obtain ⟨D,hD⟩:∃D:Nat,e-top+64=D:=⟨(e-top+64).toNat,by omega⟩
  have hu:Dy.unitsN ⟨v,top,more⟩ m neg e=if 64<(D:Int) then (Dy.btoN (Dy.upB m neg false false true),false) else Dy.unitsD ⟨v,top,more⟩ m neg D:=by
   unfold Dy.unitsN
   simp only
   rw [hD,Int.toNat_natCast]
  rw [wrap_i64 (n:=e-top) (by omega) (by omega),wrap_i64 (n:=e-top+64) (by omega) (by omega),hD,wrap_i64 (n:=(D:Int)-1) (by omega) (by omega),show ((D:Int)-1).toNat=D-1 by omega]
  simp only [Int.toNat_natCast]
  rw [hu]
  rcases Int.lt_or_le 64 (D:Int) with c|c
  ·rw [if_pos c]
   exact cond_t (decide_eq_true c) rfl
  ·rw [if_neg (by omega)]
   refine cond_f (decide_eq_false (by omega)) ?_
   have q1:v/2^D<2^63:=by
    rw [Nat.div_lt_iff_lt_mul (Nat.two_pow_pos _)]
    have:2^1≤2^D:=Nat.pow_le_pow_right (by decide) (by omega)
    omega
   have q2:v/2^(D-1)<2^64:=Nat.lt_of_le_of_lt (Nat.div_le_self _ _) hv
   have hpw:2^(D-1)<2^64:=Nat.pow_lt_pow_right (by decide) (by omega)
   have hp0:=Nat.two_pow_pos (D-1)
   have e1:(v:Int).fdiv (2^min D 64)=((v/2^D:Nat):Int):=by rw [fdiv_pow (by omega),Int.toNat_natCast,Nat.min_eq_left (by omega)]
   have e2:(v:Int).fdiv (2^min (D-1) 64)=((v/2^(D-1):Nat):Int):=by rw [fdiv_pow (by omega),Int.toNat_natCast,Nat.min_eq_left (by omega)]
   have e4:IntKind.u64.wrap (IntKind.u64.wrap ((1:Int)*(2:Int)^min (D-1) 64)-1)=((2^(D-1)-1:Nat):Int):=by
    rw [Nat.min_eq_left (by omega),Int.one_mul,show (2:Int)^(D-1)=((2^(D-1):Nat):Int) by rw [Int.natCast_pow];rfl,wrap_nat hpw,show ((2^(D-1):Nat):Int)-1=((2^(D-1)-1:Nat):Int) by omega,wrap_nat (by omega)]
   rw [e2,bitlow q2,e4,Dy.and_mask (by omega) hv,wrap_nat (n:=v%2^(D-1)) (Nat.lt_of_le_of_lt (Nat.mod_le _ _) hv)]
   have hb:=Dy.btoN_le
   have key:∀(A B C b:Bool) (X:Int),X=((v/2^D:Nat):Int)→A=decide (v/2^D%2=1)→B=Dy.halfN v D→C=(more||Dy.restN v D)→b=(!Dy.halfN v D&& !(more||Dy.restN v D))→
     AV.tup [.num .u64 (IntKind.u64.wrap (X+((Dy.btoN (Dy.upB m neg A B C):Nat):Int))),.bool b]=AV.tup [.num .u64 ((Dy.unitsD ⟨v,top,more⟩ m neg D).1:Nat),.bool (Dy.unitsD ⟨v,top,more⟩ m neg D).2]:=by
    rintro _ _ _ _ _ rfl rfl rfl rfl rfl
    unfold Dy.unitsD
    simp only
    rw [←Int.natCast_add,wrap_nat (by have:=hb (Dy.upB m neg (decide (v/2^D%2=1)) (Dy.halfN v D) (more||Dy.restN v D));omega)]
   have hhalf:Dy.halfN v D=decide (v/2^(D-1)%2=1):=rfl
   have hrest:Dy.restN v D=decide (v%2^(D-1)≠0):=rfl
   have hHt:(!decide ((((v/2^(D-1)%2:Nat)):Int)=1))= !Dy.halfN v D:=by
    rw [hhalf];congr 1
    exact decide_eq_decide.2 (by omega)
   have hR:(decide (((v%2^(D-1):Nat):Int)=0))= !Dy.restN v D:=by
    rw [hrest,Bool.eq_iff_iff]
    simp only [decide_eq_true_eq,Bool.not_eq_true',decide_eq_false_iff_not,ne_eq,Decidable.not_not]
    omega
   rw [hHt,hR,beq_one,←hhalf]
   refine cond_i (fun h=> ?_) (fun h=> ?_)
   ·rw [e1,bitlow (by omega),beq_one]
    refine ⟨by omega,cond_t (decide_eq_true (by omega)) ⟨by omega,?_⟩⟩
    cases more
    ·refine cond_f rfl ⟨by omega,cond_i (fun h=> ?_) (fun h=> ?_)⟩
     ·have h:Dy.halfN v D=false:=by simpa using h
      exact key _ _ _ _ _ rfl rfl rfl (by simp) (by rw [h];simp)
     ·have h:Dy.halfN v D=true:=by simpa using h
      exact key _ _ _ _ _ rfl rfl rfl (by simp) (by rw [h];simp)
    ·refine cond_t rfl (cond_i (fun h=> ?_) (fun h=> ?_))
     ·exact key _ _ _ _ _ rfl rfl rfl (by simp) (by simp)
     ·exact key _ _ _ _ _ rfl rfl rfl (by simp) (by simp)
   ·have hD64:D=64:=by have:=of_decide_eq_false h;omega
    have hz:v/2^D=0:=by rw [hD64];exact Nat.div_eq_of_lt hv
    have hX:(0:Int)=((v/2^D:Nat):Int):=by rw [hz];rfl
    have hA:(IntKind.u64.wrap ((0:Nat):Int)==1)=decide (v/2^D%2=1):=by rw [hz];rfl
    refine cond_t (decide_eq_true (by omega)) ⟨by omega,?_⟩
    cases more
    ·refine cond_f rfl ⟨by omega,cond_i (fun h=> ?_) (fun h=> ?_)⟩
     ·have h:Dy.halfN v D=false:=by simpa using h
      exact key _ _ _ _ _ hX hA rfl (by simp) (by rw [h];simp)
     ·have h:Dy.halfN v D=true:=by simpa using h
      exact key _ _ _ _ _ hX hA rfl (by simp) (by rw [h];simp)
    ·refine cond_t rfl (cond_i (fun h=> ?_) (fun h=> ?_))
     ·exact key _ _ _ _ _ hX hA rfl (by simp) (by simp)
     ·exact key _ _ _ _ _ hX hA rfl (by simp) (by simp)
 ·cases h
theorem ok_tabB1:PhiOk Tryz.prog Inv (look tabB1):=look_cons (look_cons ok_tabB0 ok_round_units) ok_round_open
end Go.AI

namespace Go.AI
open Go Go.RowKit Go.Proofs
set_option linter.unusedVariables false
set_option maxRecDepth 100000
set_option maxHeartbeats 1000000
theorem ok_round_Over (args:List AV) (s:Spec) (h:rOver args=some s) (hp:andO s.pre True):Contract Tryz.prog Inv 61 args s.res:=by
 unfold rOver at h
 split at h
 ·cases h
  rename_i f m neg
  refine contract0 false ok_tabB1 Tryz.func61 (by kernel_rfl) (by kernel_rfl) fun hok=> ?_
  rw [vc_round_Over]
  rintro _ rfl _ rfl _ rfl _ rfl
  refine cond_i (fun h=> ?_) (fun h=> ?_)
  ·have h:¬Dy.errM f m=0:=by simpa using h
   rw [decide_eq_false h]
   rfl
  ·have h:Dy.errM f m=0:=by simpa using h
   obtain ⟨hf,m1,m2, -⟩:=Dy.errM_zero h
   rw [h,show decide ((0:Int)=0)=true from rfl,cond_true]
   unfold Dy.overW Dy.signW
   refine cond_i (fun h1=>⟨hf,?_⟩) (fun h1=>cond_i (fun h2=>cond_i (fun h3=>⟨hf,?_⟩) (fun h3=>cond_i (fun h4=>absurd (of_decide_eq_true h4) (by have:=of_decide_eq_true h2;omega)) (fun h4=>⟨hf,?_⟩)))
    (fun h2=>cond_i (fun h3=>cond_i (fun h4=>⟨hf,?_⟩) (fun h4=>⟨hf,?_⟩)) (fun h3=>⟨hf,?_⟩)))
   ·rintro _ rfl _ rfl
    rw [if_pos (show m=3∨(m=4∧neg=true)∨(m=5∧neg=false) from .inl (of_decide_eq_true h1))]
   ·rintro _ rfl _ rfl
    rw [if_pos (show m=3∨(m=4∧neg=true)∨(m=5∧neg=false) from .inr (.inl ⟨of_decide_eq_true h2,h3⟩))]
   ·rintro _ rfl _ rfl
    have a1:=of_decide_eq_false h1
    have a2:=of_decide_eq_true h2
    rw [if_neg (show¬(m=3∨(m=4∧neg=true)∨(m=5∧neg=false)) by rintro (c|c|c)<;>simp_all)]
   ·rintro _ rfl _ rfl
    rw [if_pos (show m=3∨(m=4∧neg=true)∨(m=5∧neg=false) from .inr (.inr ⟨of_decide_eq_true h3,by simpa using h4⟩))]
   ·rintro _ rfl _ rfl
    have a1:=of_decide_eq_false h1
    have a2:=of_decide_eq_false h2
    have a4:neg=true:=by simpa using h4
    rw [if_neg (show¬(m=3∨(m=4∧neg=true)∨(m=5∧neg=false)) by rintro (c|c|c)<;>simp_all)]
   ·rintro _ rfl _ rfl
    have a1:=of_decide_eq_false h1
    have a2:=of_decide_eq_false h2
    have a3:=of_decide_eq_false h3
    rw [if_neg (show¬(m=3∨(m=4∧neg=true)∨(m=5∧neg=false)) by rintro (c|c|c)<;>simp_all)]
 ·cases h
theorem ok_tabB2:PhiOk Tryz.prog Inv (look tabB2):=look_cons ok_tabB1 ok_round_Over
theorem ok_round_word (args:List AV) (s:Spec) (h:rWord args=some s) (hp:andO s.pre True):Contract Tryz.prog Inv 136 args s.res:=by
 unfold rWord at h
 split at h
 ·cases h
  rename_i h top more f a b c m neg
  obtain ⟨⟨p1,rfl,rfl,rfl,p2,p3,p4⟩, -⟩:=hp
  refine contract0 false ok_tabB2 Tryz.func136 (by kernel_rfl) (by kernel_rfl) fun hok=> ?_
  rw [vc_round_word]
  have hh:=u64_range hok.1.1
  obtain ⟨v,rfl⟩:=Int.eq_ofNat_of_zero_le hh.1
  obtain ⟨hf,m1,m2,eP,eL,eW⟩:=Dy.errM_zero p1
  rw [eP,eL,eW,p1]
  have hF:=Dy.fmt_facts hf
  rw [Int.toNat_natCast]
  have hpk:(Dy.Prt.mk v top more).ok:=⟨by simp only;omega,by simp only;omega⟩
  obtain ⟨E,hE⟩:∃E,Dy.unitE f ⟨v,top,more⟩=E:=⟨_,rfl⟩
  have hge:=Dy.unitE_ge f ⟨v,top,more⟩
  rw [hE] at hge
  simp only at hge
  rw [wrap_i64 (n:=top-((Dy.wFrac f:Int)+1)) (by omega) (by omega),show (if Dy.wLow f>top-((Dy.wFrac f:Int)+1) then Dy.wLow f else top-((Dy.wFrac f:Int)+1))=E by rw [←hE];unfold Dy.unitE;simp only;split<;>omega]
  obtain ⟨N,hN⟩:∃N,(Dy.unitsN ⟨v,top,more⟩ m neg (Dy.unitE f ⟨v,top,more⟩)).1=N:=⟨_,rfl⟩
  have hle:=Dy.units_le hf (m:=m) (neg:=neg) hpk
  rw [hN] at hle
  have hbN:=Dy.bl_mono hle
  have hb2:Dy.bl (2^(Dy.wFrac f+1))≤60:=Dy.bl_le.2 (Nat.pow_lt_pow_right (by decide) (by omega))
  have hwN:Dy.wordN f m neg ⟨v,top,more⟩=if Dy.wWide f<Dy.bl N+E then (Dy.overW f m neg,20)
    else ((if neg then 2^Dy.wBit f else 0)+((E-Dy.wLow f).toNat*2^Dy.wFrac f+N),
     if (Dy.unitsN ⟨v,top,more⟩ m neg E).2 then 0 else if (Dy.bl (Dy.unitsN ⟨v,top,more⟩ m neg (top-(Dy.wFrac f+1))).1:Int)+top-(Dy.wFrac f+1)<Dy.wLow f+(Dy.wFrac f+1) then 24 else 16):=by
   unfold Dy.wordN
   rw [hN,hE]
  refine ⟨⟨by omega,by omega,by omega,by omega,by omega⟩,?_⟩
  rw [hE] at hN
  rw [hN]
  rintro _ rfl _ rfl
  rw [Int.toNat_natCast,wrap_i64 (n:=((Dy.bl N:Nat):Int)+E) (by omega) (by omega),hwN]
  refine cond_i (fun h=> ?_) (fun h=> ?_)
  ·have h:=of_decide_eq_true h
   rintro _ rfl _ rfl
   rw [if_pos (by omega),show decide ((0:Int)=0)=true from rfl,cond_true]
  ·have h:=of_decide_eq_false h
   have hw:¬Dy.wWide f<Dy.bl N+E:=by omega
   rw [if_neg hw]
   obtain ⟨z1,z2,z3,z4,z5,z6,z7,z8⟩:=Dy.word_size hf (m:=m) (neg:=neg) hpk hE (by rw [hE];exact hN) ⟨p3,p4⟩ hw
   rw [makeD_small (by omega) E ⟨by omega,by omega⟩]
   refine dpeel fun b5 l6 n7 hd=> ?_
   rintro _ -
   have hd:Dy.Dyd.mk b5 l6 n7=Dy.form neg N E:=hd
   rw [←hd] at z1 z3 z5 z2
   simp only at z3 z5 z2
   refine ⟨⟨hf,z1,z2,z3⟩,?_⟩
   have tail:∀(W:Int),W=(((if neg=true then 2^Dy.wBit f else 0)+((E-Dy.wLow f).toNat*2^Dy.wFrac f+N):Nat):Int)→
     bif (Dy.unitsN ⟨v,top,more⟩ m neg E).2 then AV.tup [.num .u64 W,.num .u8 0]=AV.tup [.num .u64 (((if neg=true then 2^Dy.wBit f else 0)+((E-Dy.wLow f).toNat*2^Dy.wFrac f+N):Nat):Int),
       .num .u8 (if (Dy.unitsN ⟨v,top,more⟩ m neg E).2=true then 0 else if (Dy.bl (Dy.unitsN ⟨v,top,more⟩ m neg (top-(Dy.wFrac f+1))).1:Int)+top-(Dy.wFrac f+1)<Dy.wLow f+(Dy.wFrac f+1) then 24 else 16)]
     else ((-1073741824:Int)≤top∧top≤1073741824∧(-1073741824:Int)≤top-((Dy.wFrac f:Int)+1)∧top-((Dy.wFrac f:Int)+1)≤1073741824∧(1:Int)≤top-((Dy.wFrac f:Int)+1)-top+64)∧
      ∀n13:Int,n13=((Dy.unitsN ⟨v,top,more⟩ m neg (top-((Dy.wFrac f:Int)+1))).1:Nat)→∀b14:Bool,b14=(Dy.unitsN ⟨v,top,more⟩ m neg (top-((Dy.wFrac f:Int)+1))).2→
       bif decide (IntKind.i64.wrap (IntKind.i64.wrap (((Dy.bl n13.toNat:Nat):Int)+top)-((Dy.wFrac f:Int)+1))<IntKind.i64.wrap (Dy.wLow f+((Dy.wFrac f:Int)+1))) then
        AV.tup [.num .u64 W,.num .u8 24]=AV.tup [.num .u64 (((if neg=true then 2^Dy.wBit f else 0)+((E-Dy.wLow f).toNat*2^Dy.wFrac f+N):Nat):Int),
       .num .u8 (if (Dy.unitsN ⟨v,top,more⟩ m neg E).2=true then 0 else if (Dy.bl (Dy.unitsN ⟨v,top,more⟩ m neg (top-(Dy.wFrac f+1))).1:Int)+top-(Dy.wFrac f+1)<Dy.wLow f+(Dy.wFrac f+1) then 24 else 16)]
       else AV.tup [.num .u64 W,.num .u8 16]=AV.tup [.num .u64 (((if neg=true then 2^Dy.wBit f else 0)+((E-Dy.wLow f).toNat*2^Dy.wFrac f+N):Nat):Int),
       .num .u8 (if (Dy.unitsN ⟨v,top,more⟩ m neg E).2=true then 0 else if (Dy.bl (Dy.unitsN ⟨v,top,more⟩ m neg (top-(Dy.wFrac f+1))).1:Int)+top-(Dy.wFrac f+1)<Dy.wLow f+(Dy.wFrac f+1) then 24 else 16)]:=by
    rintro _ rfl
    refine cond_i (fun h=> ?_) (fun h=>⟨⟨by omega,by omega,by omega,by omega,by omega⟩,?_⟩)
    ·rw [if_pos h]
    ·rintro _ rfl _ -
     rw [Int.toNat_natCast,if_neg (show¬(Dy.unitsN ⟨v,top,more⟩ m neg E).2=true by rw [h];decide)]
     have hu:(Dy.unitsN ⟨v,top,more⟩ m neg (top-((Dy.wFrac f:Int)+1))).1<2^64:=by
      unfold Dy.unitsN
      rw [if_neg (by show¬(64:Int)<top-((Dy.wFrac f:Int)+1)-top+64;omega)]
      have:=Dy.unitsD_le hpk m neg (d:=(top-((Dy.wFrac f:Int)+1)-top+64).toNat) (by omega)
      exact Nat.lt_of_le_of_lt this (Nat.pow_lt_pow_right (by decide) (by omega))
     have hub:=Dy.bl_le.2 hu
     rw [wrap_i64 (n:=((Dy.bl (Dy.unitsN ⟨v,top,more⟩ m neg (top-((Dy.wFrac f:Int)+1))).1:Nat):Int)+top) (by omega) (by omega),wrap_i64 (n:=((Dy.bl (Dy.unitsN ⟨v,top,more⟩ m neg (top-((Dy.wFrac f:Int)+1))).1:Nat):Int)+top-((Dy.wFrac f:Int)+1)) (by omega) (by omega),wrap_i64 (n:=Dy.wLow f+((Dy.wFrac f:Int)+1)) (by omega) (by omega)]
     refine cond_i (fun h=> ?_) (fun h=> ?_)
     ·rw [if_pos (of_decide_eq_true h)]
     ·rw [if_neg (of_decide_eq_false h)]
   rintro _ rfl _ -
   refine cond_i (fun hn=>⟨hf,?_⟩) (fun hn=> ?_)
   ·have hn:=of_decide_eq_true hn
    have hn0:N=0:=by omega
    have hE0:=z4 hn0
    rintro _ rfl _ -
    refine tail _ ?_
    rw [hE0,hn0,Int.sub_self]
    unfold Dy.signW
    rw [show (0:Int).toNat=0 from rfl,Nat.zero_mul]
    rfl
   ·have hn:=of_decide_eq_false hn
    obtain ⟨y1,y2,y3⟩:=z5 (by omega)
    refine tail _ ?_
    rw [if_neg y1,y3,y2]
    rfl
 ·cases h
theorem ok_tabB3:PhiOk Tryz.prog Inv (look tabB3):=look_cons ok_tabB2 ok_round_word
theorem ok_round_Round (args:List AV) (s:Spec) (h:rRound args=some s) (hp:andO s.pre True):Contract Tryz.prog Inv 156 args s.res:=by
 unfold rRound at h
 split at h
 ·cases h
  rename_i f m s d e
  obtain ⟨⟨p1,hm⟩, -⟩:=hp
  refine contract0 false ok_tabB3 Tryz.func156 (by kernel_rfl) (by kernel_rfl) fun hok=> ?_
  rw [vc_round_Round,if_pos hm,p1]
  refine ⟨hm,?_⟩
  rintro _ rfl _ rfl _ rfl _ rfl
  refine cond_f rfl ?_
  unfold Dy.roundW Dy.signD
  by_cases h0:d=[]
  ·rw [if_pos h0,if_pos h0]
   exact cond_t rfl rfl
  ·rw [if_neg h0,if_neg h0]
   have hp:=Dy.partD_facts hm h0
   refine cond_f (decide_eq_false (by split<;>decide)) ⟨⟨hm,h0⟩,?_⟩
   rintro _ rfl _ rfl _ rfl
   have h1:=hp.1.1
   refine ⟨⟨rfl,rfl,rfl,rfl,by omega,hp.2.2.1,hp.2.2.2⟩,?_⟩
   rw [Int.toNat_natCast]
   rintro _ rfl _ rfl
   rfl
 ·cases h
theorem ok_round_Root (args:List AV) (s:Spec) (h:rRootW args=some s) (hp:andO s.pre True):Contract Tryz.prog Inv 71 args s.res:=by
 unfold rRootW at h
 split at h
 ·cases h
  rename_i f m s d e
  obtain ⟨⟨p1,hm,rfl⟩, -⟩:=hp
  refine contract0 false ok_tabB3 Tryz.func71 (by kernel_rfl) (by kernel_rfl) fun hok=> ?_
  rw [vc_round_Root,if_pos hm,p1]
  refine ⟨hm,?_⟩
  rintro _ rfl _ rfl _ rfl _ rfl
  refine cond_f rfl (cond_f rfl ?_)
  unfold Dy.rootW Dy.signD
  by_cases h0:d=[]
  ·rw [if_pos h0,if_pos h0]
   exact cond_t rfl rfl
  ·rw [if_neg h0,if_neg h0]
   refine cond_f (decide_eq_false (by split<;>decide)) ?_
   obtain ⟨r1,r2,r3,r4, -⟩:=Dy.rootF_ok hm rfl h0 (n:=64) (by decide) (by decide)
   rw [show ((64:Nat):Int)=64 from rfl] at r1 r2 r3 r4
   rw [r4]
   refine dpeel fun b5 l6 n7 hd=> ?_
   rintro _ rfl _ -
   have hd:Dy.Dyd.mk b5 l6 n7=(Dy.rootF ⟨false,d,e⟩ 64).1:=hd
   rw [←hd] at r1 r2 ⊢
   have hp:=Dy.partD_facts r1 r2
   refine ⟨⟨r1,r2⟩,?_⟩
   rintro _ rfl _ rfl _ rfl
   have h1:=hp.1.1
   rw [Int.toNat_natCast]
   refine cond_i (fun h=>⟨⟨rfl,rfl,rfl,rfl,by omega,hp.2.2.1,hp.2.2.2⟩,?_⟩) (fun h=>⟨⟨rfl,rfl,rfl,rfl,by omega,hp.2.2.1,hp.2.2.2⟩,?_⟩)
   ·rw [h,Bool.true_or]
    rintro _ rfl _ rfl
    rfl
   ·rw [h,Bool.false_or]
    rintro _ rfl _ rfl
    rfl
 ·cases h
theorem ok_tabB4:PhiOk Tryz.prog Inv (look tabB4):=look_cons (look_cons ok_tabB3 ok_round_Root) ok_round_Round
theorem ok_pair_Good (args:List AV) (s:Spec) (h:pGood args=some s) (hp:andO s.pre True):Contract Tryz.prog Inv 62 args s.res:=by
 unfold pGood at h
 split at h
 ·cases h
  refine contract0 false ok_tabB4 Tryz.func62 (by kernel_rfl) (by kernel_rfl) fun hok=> ?_
  rw [vc_pair_Good]
  refine cond_i (fun h=> ?_) (fun h=> ?_)
  ·rw [if_neg (by simpa using h)]
  ·rw [if_pos (by simpa using h)]
 ·cases h
theorem ok_tabB5:PhiOk Tryz.prog Inv (look tabB5):=look_cons ok_tabB4 ok_pair_Good
end Go.AI

namespace Go.Dy
set_option maxRecDepth 100000
theorem rootF_unit {d:Dyd} (hd:mayD d=true) (hs:d.neg=false) (h0:d.mag≠[]) {n:Nat} (hn:1≤n) (hn2:n≤8192) (he: -200000≤d.exp): -16777216≤topD (rootF d n).1-n∧topD (rootF d n).1-n≤16777216:=by
 obtain ⟨V,hV⟩:∃V:Nat,V=200000:=⟨_,rfl⟩
 obtain ⟨X,hX⟩:∃X:Nat,at_ d (-(2*V:Int))=X:=⟨_,at_nat hs _⟩
 obtain ⟨L,u, -, -, -, -, -, -, -,q,x1,h1,h2,h4, -, -, -⟩:=root_span hd hs h0 hn (by omega) hX
 have hi:inside (rootF d n).1.exp=true:=by
  obtain ⟨s,m,e⟩:=d
  exact rootF_inside hd (by omega) (by omega)
 have hq:q≠0:=fun c=>by rw [c,bl_zero] at h2;omega
 rw [h1] at hi ⊢
 have hi:=inside_iff.1 hi
 have ht:=top_form (s:=false) (e:=x1) hq
 rw [form_pos hq] at hi
 simp only at hi
 rw [ht]
 omega
theorem rndQ_other (z D:Int) (high:Bool):rndQ (-z) D high= -rndQ z D (!high):=by
 unfold rndQ
 cases high<;>simp
theorem sgn_true (n:Nat):sgn true n= -sgn false n:=by
 unfold sgn
 simp
theorem quoE_formX {s:Bool} {m:List Nat} {e:Int} {m':List Nat} {e' n:Int} (ha:mayD ⟨s,m,e⟩=true) (hb:mayD ⟨false,m',e'⟩=true) (h0:m'≠[]) (hm:m≠[]) (hn:1≤n) {S t:Nat} (hS:quoS (val m) (val m') n=S) (ht:((bl (val m*2^S/val m'):Int)-n).toNat=t) (high:Bool):
  quoE ⟨s,m,e⟩ ⟨false,m',e'⟩ n high=formZ (rndQ (sgn s (val m*2^S)) ((val m'*2^t:Nat):Int) high) (e-e'-S+t):=by
 have hN:=val_ne (mayD_may hb) h0
 have hSv:quoS (val m) (val m') n=(n+1+(bl (val m'):Int)-(bl (val m):Int)).toNat:=rfl
 have hNp:0<val m':=by omega
 have hp:=Nat.two_pow_pos t
 unfold quoE quoF
 simp only
 rw [if_neg hm,hS,cutR_form _ _ _ _ hn,ht]
 simp only
 have hM:=val_ne (mayD_may ha) hm
 have hs:(s !=false)=s:=by cases s<;>rfl
 rw [hs]
 have hX0:val m*2^S≠0:=Nat.mul_ne_zero hM (Nat.pos_iff_ne_zero.1 (Nat.two_pow_pos S))
 have hbX:bl (val m*2^S)=bl (val m)+S:=bl_mul_two_pow hM S
 have hQ2:2^n.toNat≤val m*2^S/val m':=by
  rw [Nat.le_div_iff_mul_le hNp]
  have h1:=lt_two_bl (val m')
  have h2:=two_bl_le hX0
  have h3:2^n.toNat*val m'≤2^n.toNat*2^bl (val m'):=Nat.mul_le_mul_left _ (Nat.le_of_lt h1)
  rw [←Nat.pow_add] at h3
  have h4:2^(n.toNat+bl (val m'))≤2^(bl (val m*2^S)-1):=Nat.pow_le_pow_right (by decide) (by omega)
  omega
 have hlb:=lt_bl.2 hQ2
 have hbW:=bl_div_two_pow (val m*2^S/val m') t
 have hW0:val m*2^S/val m'/2^t≠0:=fun e=>by rw [e,bl_zero] at hbW;omega
 have hdiv:val m*2^S/val m'/2^t=val m*2^S/(val m'*2^t):=Nat.div_div_eq_div_mul _ _ _
 have hlost:(decide (val m*2^S/val m'%2^t≠0)||decide (val m*2^S%val m'≠0))=decide (val m*2^S%(val m'*2^t)≠0):=by
  rw [Nat.mod_mul,Bool.eq_iff_iff]
  simp only [Bool.or_eq_true,decide_eq_true_eq,ne_eq,Nat.add_eq_zero_iff,Nat.mul_eq_zero]
  constructor
  ·rintro (h|h) ⟨h1,h2|h2⟩
   ·omega
   ·exact h h2
   ·exact h h1
   ·exact h h1
  ·intro h
   by_cases c:val m*2^S%val m'=0
   ·exact .inl fun h2=>h ⟨c,.inr h2⟩
   ·exact .inr c
 rw [hlost]
 have hr:=rndQ_sgn s (val m*2^S) (Nat.mul_pos hNp hp) high
 rw [hr]
 have hneg:(form s (val m*2^S/val m'/2^t) (e-e' - ↑S+↑t)).neg=s:=by rw [form_pos hW0]
 unfold stepD
 rw [hneg]
 by_cases c:(decide (val m*2^S%(val m'*2^t)≠0)&&(s !=high))=true
 ·rw [if_pos c,if_pos c,top_form hW0,hbW,show e-e'-(S:Int)+(t:Int)+((bl (val m*2^S/val m')-t:Nat):Int)-n=e-e'-S+t by omega,form_sgn,add_unit,hdiv]
  unfold sgn
  split<;>omega
 ·rw [if_neg c,if_neg c,form_sgn,hdiv]
theorem quoE_other {m:List Nat} {e:Int} {m':List Nat} {e' n:Int} (ha:mayD ⟨false,m,e⟩=true) (hb:mayD ⟨false,m',e'⟩=true) (h0:m'≠[]) (hm:m≠[]) (hn:1≤n) (high:Bool):
  quoE ⟨true,m,e⟩ ⟨false,m',e'⟩ n high=negD (quoE ⟨false,m,e⟩ ⟨false,m',e'⟩ n (!high)):=by
 have ha':mayD ⟨true,m,e⟩=true:=by
  have h:=ha
  rw [mayD_iff] at h ⊢
  exact ⟨h.1,.inr ⟨hm,h.2.elim (fun c=>absurd c.1 hm) (fun c=>c.2)⟩⟩
 rw [quoE_formX ha' hb h0 hm hn rfl rfl high,quoE_formX ha hb h0 hm hn rfl rfl (!high),sgn_true,rndQ_other,formZ_other]
structure HalfF (X Y:Dyd) (N:Nat):Prop where
 mS:mayD (sqD X Y)=true
 nS:(sqD X Y).neg=false
 zS:(sqD X Y).mag≠[]
 rS: -16777216≤topD (rootF (sqD X Y) N).1-N∧topD (rootF (sqD X Y) N).1-N≤16777216
 mA:mayD (absD X)=true
 fs1:Fit (sLo (sqD X Y) N) 8193 20000
 fs2:Fit (sHi (sqD X Y) N) 8193 20000
 fa1:Fit (addD (sLo (sqD X Y) N) (absD X)) 48194 68194
 fa2:Fit (addD (sHi (sqD X Y) N) (absD X)) 48194 68194
 fe1:Fit (endD (addD (sLo (sqD X Y) N) (absD X)) N false) 8193 124582
 fe2:Fit (endD (addD (sHi (sqD X Y) N) (absD X)) N true) 8193 124582
 fg1:Fit (gLo (sqD X Y) (absD X) N) 8193 124583
 fg2:Fit (gHi (sqD X Y) (absD X) N) 8193 124583
 ng1:(gLo (sqD X Y) (absD X) N).neg=false
 ng2:(gHi (sqD X Y) (absD X) N).neg=false
 mg1:(gLo (sqD X Y) (absD X) N).mag≠[]
 mg2:(gHi (sqD X Y) (absD X) N).mag≠[]
 rG: -16777216≤topD (rootF (gHi (sqD X Y) (absD X) N) N).1-N∧topD (rootF (gHi (sqD X Y) (absD X) N) N).1-N≤16777216
 fl1:Fit (lgLo (sqD X Y) (absD X) N) 8193 20000
 fl2:Fit (lgHi (sqD X Y) (absD X) N) 8193 20000
 nl1:(lgLo (sqD X Y) (absD X) N).neg=false
 nl2:(lgHi (sqD X Y) (absD X) N).neg=false
 ml1:(lgLo (sqD X Y) (absD X) N).mag≠[]
 ml2:(lgHi (sqD X Y) (absD X) N).mag≠[]
 fy:Fit (shD (absD Y) (-1)) 1100 1101
 ny:(shD (absD Y) (-1)).neg=false
 y0:Y.mag≠[]
 fY:Fit (absD Y) 1100 1100
 fq1:Fit (stLo (sqD X Y) (absD X) (absD Y) N) 8193 100000
 fq2:Fit (stHi (sqD X Y) (absD X) (absD Y) N) 8193 100000
theorem half_all {X Y:Dyd} (off:offZ (absD X) (absD Y)) {N:Nat} (n1:20≤N) (n2:N≤8192):HalfF X Y N:=by
 obtain ⟨V,hV⟩:∃V,V=crV:=⟨_,rfl⟩
 obtain ⟨ho,hp,fx,fy,fS, -⟩:=offZ_off off hV
 obtain ⟨-, -, -,⟨f1,f2⟩, -⟩:=s_span ho hp (n:=N) (by omega) n2
 obtain ⟨-, -, -, -, -, -,⟨fa1,fa2⟩,⟨fe1,fe2⟩,⟨fg1,fg2⟩, -, -, -, -, -, -, -,⟨ng1,ng2⟩,⟨mg1,mg2⟩⟩:=g_span ho hp fx n1 n2
 obtain ⟨-, -, -, -, -, -, -, -, -,⟨fl1,fl2⟩,⟨nl1,nl2⟩,⟨ml1,ml2⟩, -⟩:=l_span ho hp fx n1 n2
 obtain ⟨-, -, -, -, -, -, -, -, -, -,⟨fq1,fq2⟩,fsy,nsy, -⟩:=half_span ho hp fx fy n1 n2
 have eS:=ho.eS
 exact ⟨ho.mS,ho.nS,ho.S0,rootF_unit ho.mS ho.nS ho.S0 (by omega) n2 (by have:=ho.eS;omega),off.mx,f1,f2,fa1,fa2,fe1,fe2,fg1,fg2,ng1,ng2,mg1,mg2,
  rootF_unit fg2.may ng2 mg2 (by omega) n2 (by have:=fg2.lo;omega),fl1,fl2,nl1,nl2,ml1,ml2,fsy,nsy,off.y0,fy,fq1,fq2⟩
end Go.Dy

namespace Go.AI
open Dy IntKind
open Go Go.RowKit Go.Proofs
set_option linter.unusedVariables false
set_option maxRecDepth 100000
set_option maxHeartbeats 0
theorem vc_span_Add (n:Int) (s:Bool) (m:List Nat) (e:Int) (s':Bool) (m':List Nat) (e':Int) (t:Bool) (l:List Nat) (f:Int) (t':Bool) (l':List Nat) (f':Int) (Q:AV→Prop):(evF Tryz.prog (look tabB5) (lam []) false Tryz.f74 [.num .i64 n,.agg [.bool s,.dig [2] m,.num .i64 e,.bool s',.dig [2] m',.num .i64 e'],.agg [.bool t,.dig [3] l,.num .i64 f,.bool t',.dig [3] l',.num .i64 f']] Q)=((mayD (Dyd.mk s m e)=true∧mayD (Dyd.mk t l f)=true∧mayD (addD (Dyd.mk s m e) (Dyd.mk t l f))=true)∧dyF (addD (Dyd.mk s m e) (Dyd.mk t l f)) fun b1 l2 n3=>(mayD (Dyd.mk s' m' e')=true∧mayD (Dyd.mk t' l' f')=true∧mayD (addD (Dyd.mk s' m' e') (Dyd.mk t' l' f'))=true)∧dyF (addD (Dyd.mk s' m' e') (Dyd.mk t' l' f')) fun b4 l5 n6=>(mid (Dyd.mk b1 l2 n3)∧mid (Dyd.mk b4 l5 n6)∧1≤n∧n≤8192)∧dyF (endD (Dyd.mk b1 l2 n3) n false) fun b7 l8 n9=>dyF (endD (Dyd.mk b4 l5 n6) n true) fun b10 l11 n12=>Q (.agg [.bool b7,.dig [0] l8,.num .i64 n9,.bool b10,.dig [0] l11,.num .i64 n12])):=by kernel_rfl
theorem vc_span_Sqrt (n:Int) (s:Bool) (m:List Nat) (e:Int) (s':Bool) (m':List Nat) (e':Int) (Q:AV→Prop):(evF Tryz.prog (look tabB5) (lam []) false Tryz.f82 [.num .i64 n,.agg [.bool s,.dig [2] m,.num .i64 e,.bool s',.dig [2] m',.num .i64 e']] Q)=(bif decide ((if mayD (Dyd.mk s m e)=true then signD (Dyd.mk s m e) else (0:Int))>(0:Int)) then dyF (rootD (Dyd.mk s m e) n).num fun b1 l2 n3=>∀(b4:Bool),b4=(rootD (Dyd.mk s m e) n).lost→∀(n5:Int),n5=(rootD (Dyd.mk s m e) n).err→bif decide ((if mayD (Dyd.mk s' m' e')=true then signD (Dyd.mk s' m' e') else (0:Int))>(0:Int)) then dyF (rootD (Dyd.mk s' m' e') n).num fun b6 l7 n8=>∀(b9:Bool),b9=(rootD (Dyd.mk s' m' e') n).lost→∀(n10:Int),n10=(rootD (Dyd.mk s' m' e') n).err→bif b9 then dyF (unitOf (i64.wrap ((if mayD (Dyd.mk b6 l7 n8)=true then topD (Dyd.mk b6 l7 n8) else (0:Int))-n))) fun b11 l12 n13=>(mayD (Dyd.mk b6 l7 n8)=true∧mayD (Dyd.mk b11 l12 n13)=true∧mayD (addD (Dyd.mk b6 l7 n8) (Dyd.mk b11 l12 n13))=true)∧dyF (addD (Dyd.mk b6 l7 n8) (Dyd.mk b11 l12 n13)) fun b14 l15 n16=>Q (.agg [.bool b1,.dig [0] l2,.num .i64 n3,.bool b14,.dig [0] l15,.num .i64 n16]) else Q (.agg [.bool b1,.dig [0] l2,.num .i64 n3,.bool b6,.dig [0] l7,.num .i64 n8]) else Q (.agg [.bool b1,.dig [0] l2,.num .i64 n3,.bool false,.dig [0] [],.num .i64 0]) else bif decide ((if mayD (Dyd.mk s' m' e')=true then signD (Dyd.mk s' m' e') else (0:Int))>(0:Int)) then dyF (rootD (Dyd.mk s' m' e') n).num fun b17 l18 n19=>∀(b20:Bool),b20=(rootD (Dyd.mk s' m' e') n).lost→∀(n21:Int),n21=(rootD (Dyd.mk s' m' e') n).err→bif b20 then dyF (unitOf (i64.wrap ((if mayD (Dyd.mk b17 l18 n19)=true then topD (Dyd.mk b17 l18 n19) else (0:Int))-n))) fun b22 l23 n24=>(mayD (Dyd.mk b17 l18 n19)=true∧mayD (Dyd.mk b22 l23 n24)=true∧mayD (addD (Dyd.mk b17 l18 n19) (Dyd.mk b22 l23 n24))=true)∧dyF (addD (Dyd.mk b17 l18 n19) (Dyd.mk b22 l23 n24)) fun b25 l26 n27=>Q (.agg [.bool false,.dig [0] [],.num .i64 0,.bool b25,.dig [0] l26,.num .i64 n27]) else Q (.agg [.bool false,.dig [0] [],.num .i64 0,.bool b17,.dig [0] l18,.num .i64 n19]) else Q (.agg [.bool false,.dig [0] [],.num .i64 0,.bool false,.dig [0] [],.num .i64 0])):=by kernel_rfl
theorem vc_span_Beyond (s:Bool) (m:List Nat) (e:Int) (Q:AV→Prop):(evF Tryz.prog (look tabB5) (lam []) false Tryz.f155 [.agg [.bool s,.dig [1] m,.num .i64 e]] Q)=(dyF (unitOf (i64.wrap (i64.wrap ((if mayD (Dyd.mk s m e)=true then topD (Dyd.mk s m e) else (0:Int))-(64:Int))-(2:Int)))) fun b1 l2 n3=>bif s then (mayD (Dyd.mk s m e)=true∧mayD (Dyd.mk b1 l2 n3)=true∧mayD (subD (Dyd.mk s m e) (Dyd.mk b1 l2 n3))=true)∧dyF (subD (Dyd.mk s m e) (Dyd.mk b1 l2 n3)) fun b4 l5 n6=>Q (.agg [.bool b4,.dig [0] l5,.num .i64 n6]) else (mayD (Dyd.mk s m e)=true∧mayD (Dyd.mk b1 l2 n3)=true∧mayD (addD (Dyd.mk s m e) (Dyd.mk b1 l2 n3))=true)∧dyF (addD (Dyd.mk s m e) (Dyd.mk b1 l2 n3)) fun b7 l8 n9=>Q (.agg [.bool b7,.dig [0] l8,.num .i64 n9])):=by kernel_rfl
theorem vc_croot_half1 (n:Int) (t:Bool) (l:List Nat) (i:Int) (t':Bool) (l':List Nat) (i':Int) (f:Int) (m:Int) (a:Int) (b:Int) (k:Int) (k':Int) (g:Bool) (h:Bool) (s:Bool) (d:List Nat) (e:Int) (s':Bool) (d':List Nat) (e':Int) (u:Bool) (v:List Nat) (w:Int) (u':Bool) (v':List Nat) (w':Int) (o:Bool) (q:List Nat) (r:Int) (o':Bool) (q':List Nat) (r':Int) (Q:AV→Prop):(evF Tryz.prog (look tabC0) (lam []) false Tryz.f80 [.num .i64 n,.cref [2] [.bool t,.dig [2] l,.num .i64 i,.bool t',.dig [2] l',.num .i64 i'],.cref [3] [.num .u8 f,.num .u8 m,.num .u64 a,.num .u64 b,.num .u8 k,.num .u8 k',.bool g,.bool h,.bool s,.dig [3] d,.num .i64 e,.bool s',.dig [3] d',.num .i64 e'],.cref [4] [.bool u,.dig [4] v,.num .i64 w,.bool u',.dig [4] v',.num .i64 w'],.cref [5] [.bool o,.dig [5] q,.num .i64 r,.bool o',.dig [5] q',.num .i64 r']] Q)=(bif s then (mayD (Dyd.mk t l i)=true∧mayD (Dyd.mk t' l' i')=true)∧dyF (negD (Dyd.mk t' l' i')) fun b1 l2 n3=>dyF (negD (Dyd.mk t l i)) fun b4 l5 n6=>(mayD (Dyd.mk u v w)=true∧mayD (Dyd.mk u' v' w')=true∧u=false∧u'=false∧v≠[]∧v'≠[]∧1≤n∧n≤8192∧ -16777216≤topD (rootF (Dyd.mk u' v' w') n).fst-n∧topD (rootF (Dyd.mk u' v' w') n).fst-n≤16777216∧mayD (rootU (Dyd.mk u' v' w') n)=true)∧dyF (cutR (form false (isq (val (Dyd.mk u v w).mag*(2:Nat)^rootZ (val (Dyd.mk u v w).mag) (Dyd.mk u v w).exp n)) (((Dyd.mk u v w).exp-(↑(rootZ (val (Dyd.mk u v w).mag) (Dyd.mk u v w).exp n):Int))/(2:Int))) n).1 fun b7 l8 n9=>dyF (rootU (Dyd.mk u' v' w') n) fun b10 l11 n12=>(mayD (Dyd.mk b7 l8 n9)=true∧mayD (Dyd.mk b10 l11 n12)=true∧mayD (Dyd.mk b1 l2 n3)=true∧mayD (Dyd.mk b4 l5 n6)=true∧mid (addD (Dyd.mk b7 l8 n9) (Dyd.mk b1 l2 n3))∧mid (addD (Dyd.mk b10 l11 n12) (Dyd.mk b4 l5 n6))∧1≤n∧n≤8192)∧dyF (endD (addD (Dyd.mk b7 l8 n9) (Dyd.mk b1 l2 n3)) n false) fun b13 l14 n15=>dyF (endD (addD (Dyd.mk b10 l11 n12) (Dyd.mk b4 l5 n6)) n true) fun b16 l17 n18=>(mid (Dyd.mk b13 l14 n15)∧mid (Dyd.mk b16 l17 n18)∧(-1000000:Int)≤(-1:Int)∧(-1:Int)≤(1000000:Int))∧dyF (shD (Dyd.mk b13 l14 n15) (-1:Int)) fun b19 l20 n21=>dyF (shD (Dyd.mk b16 l17 n18) (-1:Int)) fun b22 l23 n24=>(mayD (Dyd.mk b19 l20 n21)=true∧mayD (Dyd.mk b22 l23 n24)=true∧b19=false∧b22=false∧l20≠[]∧l23≠[]∧1≤n∧n≤8192∧ -16777216≤topD (rootF (Dyd.mk b22 l23 n24) n).fst-n∧topD (rootF (Dyd.mk b22 l23 n24) n).fst-n≤16777216∧mayD (rootU (Dyd.mk b22 l23 n24) n)=true)∧dyF (cutR (form false (isq (val (Dyd.mk b19 l20 n21).mag*(2:Nat)^rootZ (val (Dyd.mk b19 l20 n21).mag) (Dyd.mk b19 l20 n21).exp n)) (((Dyd.mk b19 l20 n21).exp-(↑(rootZ (val (Dyd.mk b19 l20 n21).mag) (Dyd.mk b19 l20 n21).exp n):Int))/(2:Int))) n).1 fun b25 l26 n27=>dyF (rootU (Dyd.mk b22 l23 n24) n) fun b28 l29 n30=>(mid (Dyd.mk o q r)∧mid (Dyd.mk o' q' r')∧(-1000000:Int)≤(-1:Int)∧(-1:Int)≤(1000000:Int))∧dyF (shD (Dyd.mk o q r) (-1:Int)) fun b31 l32 n33=>dyF (shD (Dyd.mk o' q' r') (-1:Int)) fun b34 l35 n36=>(mid (Dyd.mk b31 l32 n33)∧mid (Dyd.mk b34 l35 n36)∧mid (Dyd.mk b25 l26 n27)∧mid (Dyd.mk b28 l29 n30)∧b25=false∧b28=false∧l26≠[]∧l29≠[]∧l32.length≤1000∧l35.length≤1000∧l26.length≤1000∧l29.length≤1000∧1≤n∧n≤8192)∧dyF (quoE (Dyd.mk b31 l32 n33) (bif b31 then Dyd.mk b25 l26 n27 else Dyd.mk b28 l29 n30) n false) fun b37 l38 n39=>dyF (quoE (Dyd.mk b34 l35 n36) (bif b34 then Dyd.mk b28 l29 n30 else Dyd.mk b25 l26 n27) n true) fun b40 l41 n42=>bif !s then Q (.tup [.agg [.bool b25,.dig [0] l26,.num .i64 n27,.bool b28,.dig [0] l29,.num .i64 n30],.agg [.bool b37,.dig [0] l38,.num .i64 n39,.bool b40,.dig [0] l41,.num .i64 n42]]) else bif h then (mayD (Dyd.mk b37 l38 n39)=true∧mayD (Dyd.mk b40 l41 n42)=true)∧dyF (negD (Dyd.mk b40 l41 n42)) fun b43 l44 n45=>dyF (negD (Dyd.mk b37 l38 n39)) fun b46 l47 n48=>(mayD (Dyd.mk b25 l26 n27)=true∧mayD (Dyd.mk b28 l29 n30)=true)∧dyF (negD (Dyd.mk b28 l29 n30)) fun b49 l50 n51=>dyF (negD (Dyd.mk b25 l26 n27)) fun b52 l53 n54=>Q (.tup [.agg [.bool b43,.dig [0] l44,.num .i64 n45,.bool b46,.dig [0] l47,.num .i64 n48],.agg [.bool b49,.dig [0] l50,.num .i64 n51,.bool b52,.dig [0] l53,.num .i64 n54]]) else Q (.tup [.agg [.bool b37,.dig [0] l38,.num .i64 n39,.bool b40,.dig [0] l41,.num .i64 n42],.agg [.bool b25,.dig [0] l26,.num .i64 n27,.bool b28,.dig [0] l29,.num .i64 n30]]) else (mayD (Dyd.mk u v w)=true∧mayD (Dyd.mk u' v' w')=true∧u=false∧u'=false∧v≠[]∧v'≠[]∧1≤n∧n≤8192∧ -16777216≤topD (rootF (Dyd.mk u' v' w') n).fst-n∧topD (rootF (Dyd.mk u' v' w') n).fst-n≤16777216∧mayD (rootU (Dyd.mk u' v' w') n)=true)∧dyF (cutR (form false (isq (val (Dyd.mk u v w).mag*(2:Nat)^rootZ (val (Dyd.mk u v w).mag) (Dyd.mk u v w).exp n)) (((Dyd.mk u v w).exp-(↑(rootZ (val (Dyd.mk u v w).mag) (Dyd.mk u v w).exp n):Int))/(2:Int))) n).1 fun b55 l56 n57=>dyF (rootU (Dyd.mk u' v' w') n) fun b58 l59 n60=>(mayD (Dyd.mk b55 l56 n57)=true∧mayD (Dyd.mk b58 l59 n60)=true∧mayD (Dyd.mk t l i)=true∧mayD (Dyd.mk t' l' i')=true∧mid (addD (Dyd.mk b55 l56 n57) (Dyd.mk t l i))∧mid (addD (Dyd.mk b58 l59 n60) (Dyd.mk t' l' i'))∧1≤n∧n≤8192)∧dyF (endD (addD (Dyd.mk b55 l56 n57) (Dyd.mk t l i)) n false) fun b61 l62 n63=>dyF (endD (addD (Dyd.mk b58 l59 n60) (Dyd.mk t' l' i')) n true) fun b64 l65 n66=>(mid (Dyd.mk b61 l62 n63)∧mid (Dyd.mk b64 l65 n66)∧(-1000000:Int)≤(-1:Int)∧(-1:Int)≤(1000000:Int))∧dyF (shD (Dyd.mk b61 l62 n63) (-1:Int)) fun b67 l68 n69=>dyF (shD (Dyd.mk b64 l65 n66) (-1:Int)) fun b70 l71 n72=>(mayD (Dyd.mk b67 l68 n69)=true∧mayD (Dyd.mk b70 l71 n72)=true∧b67=false∧b70=false∧l68≠[]∧l71≠[]∧1≤n∧n≤8192∧ -16777216≤topD (rootF (Dyd.mk b70 l71 n72) n).fst-n∧topD (rootF (Dyd.mk b70 l71 n72) n).fst-n≤16777216∧mayD (rootU (Dyd.mk b70 l71 n72) n)=true)∧dyF (cutR (form false (isq (val (Dyd.mk b67 l68 n69).mag*(2:Nat)^rootZ (val (Dyd.mk b67 l68 n69).mag) (Dyd.mk b67 l68 n69).exp n)) (((Dyd.mk b67 l68 n69).exp-(↑(rootZ (val (Dyd.mk b67 l68 n69).mag) (Dyd.mk b67 l68 n69).exp n):Int))/(2:Int))) n).1 fun b73 l74 n75=>dyF (rootU (Dyd.mk b70 l71 n72) n) fun b76 l77 n78=>(mid (Dyd.mk o q r)∧mid (Dyd.mk o' q' r')∧(-1000000:Int)≤(-1:Int)∧(-1:Int)≤(1000000:Int))∧dyF (shD (Dyd.mk o q r) (-1:Int)) fun b79 l80 n81=>dyF (shD (Dyd.mk o' q' r') (-1:Int)) fun b82 l83 n84=>(mid (Dyd.mk b79 l80 n81)∧mid (Dyd.mk b82 l83 n84)∧mid (Dyd.mk b73 l74 n75)∧mid (Dyd.mk b76 l77 n78)∧b73=false∧b76=false∧l74≠[]∧l77≠[]∧l80.length≤1000∧l83.length≤1000∧l74.length≤1000∧l77.length≤1000∧1≤n∧n≤8192)∧dyF (quoE (Dyd.mk b79 l80 n81) (bif b79 then Dyd.mk b73 l74 n75 else Dyd.mk b76 l77 n78) n false) fun b85 l86 n87=>dyF (quoE (Dyd.mk b82 l83 n84) (bif b82 then Dyd.mk b76 l77 n78 else Dyd.mk b73 l74 n75) n true) fun b88 l89 n90=>bif !s then Q (.tup [.agg [.bool b73,.dig [0] l74,.num .i64 n75,.bool b76,.dig [0] l77,.num .i64 n78],.agg [.bool b85,.dig [0] l86,.num .i64 n87,.bool b88,.dig [0] l89,.num .i64 n90]]) else bif h then (mayD (Dyd.mk b85 l86 n87)=true∧mayD (Dyd.mk b88 l89 n90)=true)∧dyF (negD (Dyd.mk b88 l89 n90)) fun b91 l92 n93=>dyF (negD (Dyd.mk b85 l86 n87)) fun b94 l95 n96=>(mayD (Dyd.mk b73 l74 n75)=true∧mayD (Dyd.mk b76 l77 n78)=true)∧dyF (negD (Dyd.mk b76 l77 n78)) fun b97 l98 n99=>dyF (negD (Dyd.mk b73 l74 n75)) fun b100 l101 n102=>Q (.tup [.agg [.bool b91,.dig [0] l92,.num .i64 n93,.bool b94,.dig [0] l95,.num .i64 n96],.agg [.bool b97,.dig [0] l98,.num .i64 n99,.bool b100,.dig [0] l101,.num .i64 n102]]) else Q (.tup [.agg [.bool b85,.dig [0] l86,.num .i64 n87,.bool b88,.dig [0] l89,.num .i64 n90],.agg [.bool b73,.dig [0] l74,.num .i64 n75,.bool b76,.dig [0] l77,.num .i64 n78]])):=by kernel_rfl
theorem vc_croot_half2 (n:Int) (t:Bool) (l:List Nat) (i:Int) (t':Bool) (l':List Nat) (i':Int) (f:Int) (m:Int) (a:Int) (b:Int) (k:Int) (k':Int) (g:Bool) (h:Bool) (s:Bool) (d:List Nat) (e:Int) (s':Bool) (d':List Nat) (e':Int) (u:Bool) (v:List Nat) (w:Int) (u':Bool) (v':List Nat) (w':Int) (o:Bool) (q:List Nat) (r:Int) (o':Bool) (q':List Nat) (r':Int) (Q:AV→Prop):(evF Tryz.prog (look tabC1) (lam []) false Tryz.f86 [.num .i64 n,.cref [2] [AV.fn (80:Nat) [.cref [2] [.bool t,.dig [2] l,.num .i64 i,.bool t',.dig [2] l',.num .i64 i'],.cref [2] [.num .u8 f,.num .u8 m,.num .u64 a,.num .u64 b,.num .u8 k,.num .u8 k',.bool g,.bool h,.bool s,.dig [2] d,.num .i64 e,.bool s',.dig [2] d',.num .i64 e'],.cref [2] [.bool u,.dig [2] v,.num .i64 w,.bool u',.dig [2] v',.num .i64 w'],.cref [2] [.bool o,.dig [2] q,.num .i64 r,.bool o',.dig [2] q',.num .i64 r']]]] Q)=((capOk (Dyd.mk s d e) (Dyd.mk s' d' e') (Dyd.mk t l i) (Dyd.mk t' l' i') (Dyd.mk u v w) (Dyd.mk u' v' w') (Dyd.mk o q r) (Dyd.mk o' q' r') h∧20≤n∧n≤8192)∧dyF (reLo (Dyd.mk s d e) (Dyd.mk s' d' e') n) fun b1 l2 n3=>dyF (reHi (Dyd.mk s d e) (Dyd.mk s' d' e') n) fun b4 l5 n6=>dyF (imLo (Dyd.mk s d e) (Dyd.mk s' d' e') n) fun b7 l8 n9=>dyF (imHi (Dyd.mk s d e) (Dyd.mk s' d' e') n) fun b10 l11 n12=>Q (.tup [.agg [.bool b1,.dig [0] l2,.num .i64 n3,.bool b4,.dig [0] l5,.num .i64 n6],.bool true])):=by kernel_rfl
theorem vc_croot_half3 (n:Int) (t:Bool) (l:List Nat) (i:Int) (t':Bool) (l':List Nat) (i':Int) (f:Int) (m:Int) (a:Int) (b:Int) (k:Int) (k':Int) (g:Bool) (h:Bool) (s:Bool) (d:List Nat) (e:Int) (s':Bool) (d':List Nat) (e':Int) (u:Bool) (v:List Nat) (w:Int) (u':Bool) (v':List Nat) (w':Int) (o:Bool) (q:List Nat) (r:Int) (o':Bool) (q':List Nat) (r':Int) (Q:AV→Prop):(evF Tryz.prog (look tabC1) (lam []) false Tryz.f87 [.num .i64 n,.cref [2] [AV.fn (80:Nat) [.cref [2] [.bool t,.dig [2] l,.num .i64 i,.bool t',.dig [2] l',.num .i64 i'],.cref [2] [.num .u8 f,.num .u8 m,.num .u64 a,.num .u64 b,.num .u8 k,.num .u8 k',.bool g,.bool h,.bool s,.dig [2] d,.num .i64 e,.bool s',.dig [2] d',.num .i64 e'],.cref [2] [.bool u,.dig [2] v,.num .i64 w,.bool u',.dig [2] v',.num .i64 w'],.cref [2] [.bool o,.dig [2] q,.num .i64 r,.bool o',.dig [2] q',.num .i64 r']]]] Q)=((capOk (Dyd.mk s d e) (Dyd.mk s' d' e') (Dyd.mk t l i) (Dyd.mk t' l' i') (Dyd.mk u v w) (Dyd.mk u' v' w') (Dyd.mk o q r) (Dyd.mk o' q' r') h∧20≤n∧n≤8192)∧dyF (reLo (Dyd.mk s d e) (Dyd.mk s' d' e') n) fun b1 l2 n3=>dyF (reHi (Dyd.mk s d e) (Dyd.mk s' d' e') n) fun b4 l5 n6=>dyF (imLo (Dyd.mk s d e) (Dyd.mk s' d' e') n) fun b7 l8 n9=>dyF (imHi (Dyd.mk s d e) (Dyd.mk s' d' e') n) fun b10 l11 n12=>Q (.tup [.agg [.bool b7,.dig [0] l8,.num .i64 n9,.bool b10,.dig [0] l11,.num .i64 n12],.bool true])):=by kernel_rfl
end Go.AI

namespace Go.Dy
theorem neg_abs {X:Dyd} (h:X.neg=true) (h0:X.mag≠[]):negD X=absD X:=by
 unfold negD absD
 rw [h,decide_eq_true h0]
 rfl
theorem may_of_abs {X:Dyd} (h:mayD (absD X)=true) (h0:X.mag≠[]):mayD X=true:=by
 obtain ⟨s,m,e⟩:=X
 have h:mayD ⟨false,m,e⟩=true:=h
 rw [mayD_iff] at h ⊢
 exact ⟨h.1,.inr ⟨h0,h.2.elim (fun c=>absurd c.1 h0) (fun c=>c.2)⟩⟩
theorem half_y {X:Dyd} {s':Bool} {d':List Nat} {e':Int} {N:Nat} (F:HalfF X ⟨s',d',e'⟩ N) (n1:20≤N) (n2:N≤8192):
  mid ⟨s',d',e'⟩∧Fit (shD ⟨s',d',e'⟩ (-1)) 1100 1101∧(shD ⟨s',d',e'⟩ (-1)).neg=s'∧
  (quoE (shD ⟨s',d',e'⟩ (-1)) (bif s' then lgLo (sqD X ⟨s',d',e'⟩) (absD X) N else lgHi (sqD X ⟨s',d',e'⟩) (absD X) N) N false=
   (bif s' then negD (stHi (sqD X ⟨s',d',e'⟩) (absD X) (absD ⟨s',d',e'⟩) N) else stLo (sqD X ⟨s',d',e'⟩) (absD X) (absD ⟨s',d',e'⟩) N)∧
  quoE (shD ⟨s',d',e'⟩ (-1)) (bif s' then lgHi (sqD X ⟨s',d',e'⟩) (absD X) N else lgLo (sqD X ⟨s',d',e'⟩) (absD X) N) N true=
   (bif s' then negD (stLo (sqD X ⟨s',d',e'⟩) (absD X) (absD ⟨s',d',e'⟩) N) else stHi (sqD X ⟨s',d',e'⟩) (absD X) (absD ⟨s',d',e'⟩) N)):=by
 have y0:d'≠[]:=F.y0
 have fY:=F.fY
 have fy:=F.fy
 have e1:∀s,shD ⟨s,d',e'⟩ (-1)=⟨s,d',e'+ -1⟩:=fun s=>by unfold shD;rw [if_neg y0]
 rw [show absD ⟨s',d',e'⟩=⟨false,d',e'⟩ from rfl] at fY fy
 rw [e1 false] at fy
 have m1:∀s,mayD ⟨s,d',e'⟩=true:=fun s=>may_of_abs (X:=⟨s,d',e'⟩) fY.may y0
 have m2:∀s,mayD ⟨s,d',e'+ -1⟩=true:=fun s=>may_of_abs (X:=⟨s,d',e'+ -1⟩) fy.may y0
 have nl1:=F.nl1
 have nl2:=F.nl2
 have ml1:=F.ml1
 have ml2:=F.ml2
 have fl1:=F.fl1.may
 have fl2:=F.fl2.may
 unfold stLo stHi
 rw [show absD ⟨s',d',e'⟩=⟨false,d',e'⟩ from rfl,e1 false,e1 s']
 refine ⟨⟨m1 s',by have:=fY.lo;simp only at this ⊢;omega,by have:=fY.hi;simp only at this ⊢;omega⟩,⟨m2 s',fy.bits,fy.lo,fy.hi⟩,rfl,?_⟩
 generalize lgLo (sqD X ⟨s',d',e'⟩) (absD X) N=LL at*
 generalize lgHi (sqD X ⟨s',d',e'⟩) (absD X) N=LH at*
 obtain ⟨a1,a2,a3⟩:=LL
 obtain ⟨c1,c2,c3⟩:=LH
 simp only at nl1 nl2 ml1 ml2
 subst nl1 nl2
 cases s'
 ·exact ⟨rfl,rfl⟩
 ·exact ⟨quoE_other (m2 false) fl1 ml1 y0 (by omega) false,quoE_other (m2 false) fl2 ml2 y0 (by omega) true⟩
end Go.Dy
namespace Go.AI
open Go Go.RowKit Go.Proofs
set_option linter.unusedVariables false
set_option maxRecDepth 100000
set_option maxHeartbeats 1000000
theorem ok_span_Add (args:List AV) (s:Spec) (h:sAddSp args=some s) (hp:andO s.pre True):Contract Tryz.prog Inv 74 args s.res:=by
 unfold sAddSp at h
 split at h
 ·cases h
  obtain ⟨⟨p1,p2,p3,p4,p5,p6,n1,n2⟩, -⟩:=hp
  refine contract0 false ok_tabB5 Tryz.func74 (by kernel_rfl) (by kernel_rfl) fun hok=> ?_
  rw [vc_span_Add]
  refine ⟨⟨p1,p3,p5.1⟩,dpeel fun b1 l1 k1 d1=>⟨⟨p2,p4,p6.1⟩,dpeel fun b2 l2 k2 d2=> ?_⟩⟩
  rw [d1,d2]
  exact ⟨⟨p5,p6,n1,n2⟩,dpeel fun _ _ _ d3=>dpeel fun _ _ _ d4=>avS_of d3 d4⟩
 ·cases h
theorem ok_span_Sqrt (args:List AV) (s:Spec) (h:sSqrtSp args=some s) (hp:andO s.pre True):Contract Tryz.prog Inv 82 args s.res:=by
 unfold sSqrtSp at h
 split at h
 ·cases h
  rename_i n s m e s' m' e'
  obtain ⟨⟨p1,p2,rfl,rfl,p3,p4,n1,n2,p5,p6,p7⟩, -⟩:=hp
  refine contract0 false ok_tabB5 Tryz.func82 (by kernel_rfl) (by kernel_rfl) fun hok=> ?_
  obtain ⟨N,rfl⟩:=Int.eq_ofNat_of_zero_le (show 0≤n by omega)
  have r1:=(Dy.rootF_ok p1 rfl p3 (n:=N) (by omega) (by omega)).2.2.2.1
  have r2:=(Dy.rootF_ok p2 rfl p4 (n:=N) (by omega) (by omega)).2.2.2.1
  have q1:=(Dy.rootF_ok p2 rfl p4 (n:=N) (by omega) (by omega)).1
  have g1:Dy.signD ⟨false,m,e⟩=1:=by unfold Dy.signD;rw [if_neg p3];rfl
  have g2:Dy.signD ⟨false,m',e'⟩=1:=by unfold Dy.signD;rw [if_neg p4];rfl
  rw [vc_span_Sqrt,if_pos p1,if_pos p2,g1,g2,r1,r2]
  refine cond_t rfl (dpeel fun b1 l2 k3 d1=> ?_)
  have d1:Dy.Dyd.mk b1 l2 k3=(Dy.rootF ⟨false,m,e⟩ (N:Int)).1:=d1
  rintro _-_ -
  refine cond_t rfl (dpeel fun b6 l7 k8 d6=> ?_)
  have d6:Dy.Dyd.mk b6 l7 k8=(Dy.rootF ⟨false,m',e'⟩ (N:Int)).1:=d6
  rintro _ rfl _ -
  rw [d6,if_pos q1,wrap_i64 (by omega) (by omega)]
  refine cond_i (fun h=> ?_) (fun h=> ?_)
  ·have h:(Dy.rootF ⟨false,m',e'⟩ (N:Int)).2=true:=h
   have eU:Dy.rootU ⟨false,m',e'⟩ (N:Int)=Dy.addD (Dy.rootF ⟨false,m',e'⟩ (N:Int)).1 (Dy.unitOf (Dy.topD (Dy.rootF ⟨false,m',e'⟩ (N:Int)).1-N)):=by unfold Dy.rootU;rw [h];rfl
   rw [eU] at p7 ⊢
   refine dpeel fun b11 l12 k13 d11=> ?_
   rw [d11]
   exact ⟨⟨q1,Dy.unit_may ⟨p5,p6⟩,p7⟩,dpeel fun _ _ _ d14=>avS_of d1 d14⟩
  ·have h:(Dy.rootF ⟨false,m',e'⟩ (N:Int)).2=false:=h
   have eU:Dy.rootU ⟨false,m',e'⟩ (N:Int)=(Dy.rootF ⟨false,m',e'⟩ (N:Int)).1:=by unfold Dy.rootU;rw [h];rfl
   rw [eU]
   exact avS_of d1 d6
 ·cases h
theorem ok_span_Beyond (args:List AV) (s:Spec) (h:sBeyond args=some s) (hp:andO s.pre True):Contract Tryz.prog Inv 155 args s.res:=by
 unfold sBeyond at h
 split at h
 ·cases h
  rename_i s m e
  obtain ⟨⟨p1,p2⟩, -⟩:=hp
  refine contract0 false ok_tabB5 Tryz.func155 (by kernel_rfl) (by kernel_rfl) fun hok=> ?_
  have ht:=Dy.top_mid p1
  rw [vc_span_Beyond,if_pos p1.1,wrap_i64 (n:=Dy.topD ⟨s,m,e⟩-64) (by omega) (by omega),wrap_i64 (by omega) (by omega),show Dy.topD ⟨s,m,e⟩-64-2=Dy.topD ⟨s,m,e⟩-66 by omega]
  unfold Dy.beyD at p2 ⊢
  refine dpeel fun b1 l1 k1 d1=> ?_
  rw [d1]
  have hu:=Dy.unit_may (u:=Dy.topD ⟨s,m,e⟩-66) ⟨by omega,by omega⟩
  refine cond_i (fun h=> ?_) (fun h=> ?_)
  ·rw [if_pos h] at p2 ⊢
   exact ⟨⟨p1.1,hu,p2⟩,dpeel fun _ _ _ d2=>avD_of d2⟩
  ·rw [if_neg (show¬s=true by rw [h];decide)] at p2 ⊢
   exact ⟨⟨p1.1,hu,p2⟩,dpeel fun _ _ _ d2=>avD_of d2⟩
 ·cases h
theorem ok_tabC0:PhiOk Tryz.prog Inv (look tabC0):=look_cons (look_cons (look_cons ok_tabB5 ok_span_Beyond) ok_span_Sqrt) ok_span_Add
theorem tup2 {a b c d:AV} (h:a=c) (h':b=d):AV.tup [a,b]=AV.tup [c,d]:=by rw [h,h']
theorem ok_croot_half1 (args:List AV) (s:Spec) (h:cHalf1 args=some s) (hp:andO s.pre True):Contract Tryz.prog Inv 80 args s.res:=by
 unfold cHalf1 at h
 split at h
 ·cases h
  rename_i n t l i t' l' i' f m a b k k' g h s d e s' d' e' u v w u' v' w' o q r o' q' r'
  obtain ⟨⟨⟨ex1,ex2,eq1,eq2,ey1,ey2,off,mx,my,hs⟩,n1,n2⟩, -⟩:=hp
  refine contract0 false ok_tabC0 Tryz.func80 (by kernel_rfl) (by kernel_rfl) fun hok=> ?_
  obtain ⟨x1,x2,x3⟩:s=t∧d=l∧e=i:=⟨(congrArg Dy.Dyd.neg ex1).symm,(congrArg Dy.Dyd.mag ex1).symm,(congrArg Dy.Dyd.exp ex1).symm⟩
  subst x1 x2 x3
  obtain ⟨x1,x2,x3⟩:s=t'∧d=l'∧e=i':=⟨(congrArg Dy.Dyd.neg ex2).symm,(congrArg Dy.Dyd.mag ex2).symm,(congrArg Dy.Dyd.exp ex2).symm⟩
  subst x1 x2 x3
  obtain ⟨x1,x2,x3⟩:s'=o∧d'=q∧e'=r:=⟨(congrArg Dy.Dyd.neg ey1).symm,(congrArg Dy.Dyd.mag ey1).symm,(congrArg Dy.Dyd.exp ey1).symm⟩
  subst x1 x2 x3
  obtain ⟨x1,x2,x3⟩:s'=o'∧d'=q'∧e'=r':=⟨(congrArg Dy.Dyd.neg ey2).symm,(congrArg Dy.Dyd.mag ey2).symm,(congrArg Dy.Dyd.exp ey2).symm⟩
  subst x1 x2 x3
  obtain ⟨N,rfl⟩:=Int.eq_ofNat_of_zero_le (show 0≤n by omega)
  have F:=Dy.half_all off (N:=N) (by omega) (by omega)
  obtain ⟨mY,fY2,nY2,qY⟩:=Dy.half_y F (by omega) (by omega)
  have hs:h=s':=hs
  subst hs
  rw [vc_croot_half1]
  cases s
  ·refine cond_f rfl ?_
   have dX:Dy.Dyd.mk false d e=Dy.absD ⟨false,d,e⟩:=rfl
   refine ⟨⟨by rw [eq1];exact F.mS,by rw [eq2];exact F.mS,(congrArg Dy.Dyd.neg eq1).trans F.nS,(congrArg Dy.Dyd.neg eq2).trans F.nS,fun c=>F.zS ((congrArg Dy.Dyd.mag eq1).symm.trans c),fun c=>F.zS ((congrArg Dy.Dyd.mag eq2).symm.trans c),by omega,by omega,by rw [eq2];exact F.rS.1,by rw [eq2];exact F.rS.2,by rw [eq2];exact F.fs2.may⟩,
    dpeel (x:=(Dy.rootF (Dy.Dyd.mk u v w) (N:Int)).1) fun b7 l8 n9 d7=>dpeel fun b10 l11 n12 d10=> ?_⟩
   have d7:Dy.Dyd.mk b7 l8 n9=Dy.sLo (Dy.sqD ⟨false,d,e⟩ ⟨h,d',e'⟩) N:=by rw [eq1] at d7;exact d7
   have d10:Dy.Dyd.mk b10 l11 n12=Dy.sHi (Dy.sqD ⟨false,d,e⟩ ⟨h,d',e'⟩) N:=by rw [eq2] at d10;exact d10
   refine ⟨⟨by rw [d7];exact F.fs1.may,by rw [d10];exact F.fs2.may,by rw [dX];exact F.mA,by rw [dX];exact F.mA,by rw [d7,dX];exact Dy.fit_mid F.fa1 (by decide),by rw [d10,dX];exact Dy.fit_mid F.fa2 (by decide),by omega,by omega⟩,dpeel fun b13 l14 n15 d13=>dpeel fun b16 l17 n18 d16=> ?_⟩
   rw [d7,dX] at d13
   rw [d10,dX] at d16
   refine ⟨⟨by rw [d13];exact Dy.fit_mid F.fe1 (by decide),by rw [d16];exact Dy.fit_mid F.fe2 (by decide),by decide,by decide⟩,dpeel fun b19 l20 n21 d19=>dpeel fun b22 l23 n24 d22=> ?_⟩
   have d19:Dy.Dyd.mk b19 l20 n21=Dy.gLo (Dy.sqD ⟨false,d,e⟩ ⟨h,d',e'⟩) (Dy.absD ⟨false,d,e⟩) N:=by rw [d13] at d19;exact d19
   have d22:Dy.Dyd.mk b22 l23 n24=Dy.gHi (Dy.sqD ⟨false,d,e⟩ ⟨h,d',e'⟩) (Dy.absD ⟨false,d,e⟩) N:=by rw [d16] at d22;exact d22
   refine ⟨⟨by rw [d19];exact F.fg1.may,by rw [d22];exact F.fg2.may,(congrArg Dy.Dyd.neg d19).trans F.ng1,(congrArg Dy.Dyd.neg d22).trans F.ng2,fun c=>F.mg1 ((congrArg Dy.Dyd.mag d19).symm.trans c),fun c=>F.mg2 ((congrArg Dy.Dyd.mag d22).symm.trans c),by omega,by omega,by rw [d22];exact F.rG.1,by rw [d22];exact F.rG.2,by rw [d22];exact F.fl2.may⟩,
    dpeel (x:=(Dy.rootF (Dy.Dyd.mk b19 l20 n21) (N:Int)).1) fun b25 l26 n27 d25=>dpeel fun b28 l29 n30 d28=> ?_⟩
   have d25:Dy.Dyd.mk b25 l26 n27=Dy.lgLo (Dy.sqD ⟨false,d,e⟩ ⟨h,d',e'⟩) (Dy.absD ⟨false,d,e⟩) N:=by rw [d19] at d25;exact d25
   have d28:Dy.Dyd.mk b28 l29 n30=Dy.lgHi (Dy.sqD ⟨false,d,e⟩ ⟨h,d',e'⟩) (Dy.absD ⟨false,d,e⟩) N:=by rw [d22] at d28;exact d28
   refine ⟨⟨mY,mY,by decide,by decide⟩,dpeel fun b31 l32 n33 d31=>dpeel fun b34 l35 n36 d34=> ?_⟩
   have hb31:b31=h:=(congrArg Dy.Dyd.neg d31).trans nY2
   have hb34:b34=h:=(congrArg Dy.Dyd.neg d34).trans nY2
   refine ⟨⟨by rw [d31];exact Dy.fit_mid fY2 (by decide),by rw [d34];exact Dy.fit_mid fY2 (by decide),by rw [d25];exact Dy.fit_mid F.fl1 (by decide),by rw [d28];exact Dy.fit_mid F.fl2 (by decide),(congrArg Dy.Dyd.neg d25).trans F.nl1,(congrArg Dy.Dyd.neg d28).trans F.nl2,
    fun c=>F.ml1 ((congrArg Dy.Dyd.mag d25).symm.trans c),fun c=>F.ml2 ((congrArg Dy.Dyd.mag d28).symm.trans c),by rw [show l32=_ from congrArg Dy.Dyd.mag d31];exact Dy.fit_len fY2 (by decide),by rw [show l35=_ from congrArg Dy.Dyd.mag d34];exact Dy.fit_len fY2 (by decide),
    by rw [show l26=_ from congrArg Dy.Dyd.mag d25];exact Dy.fit_len F.fl1 (by decide),by rw [show l29=_ from congrArg Dy.Dyd.mag d28];exact Dy.fit_len F.fl2 (by decide),by omega,by omega⟩,dpeel fun b37 l38 n39 d37=>dpeel fun b40 l41 n42 d40=> ?_⟩
   rw [d31,d25,d28,hb31,qY.1] at d37
   rw [d34,d25,d28,hb34,qY.2] at d40
   refine cond_t rfl (tup2 (avS_of d25 d28) ?_)
   rw [show AV.agg [.bool b37,.dig [0] l38,.num .i64 n39,.bool b40,.dig [0] l41,.num .i64 n42]=_ from avS_of d37 d40]
   rfl
  ·refine cond_t rfl ⟨⟨mx,mx⟩,?_⟩
   have x0:d≠[]:=fun c=>by
    subst c
    exact absurd (Dy.mayD_nil mx).1 (by decide)
   refine dpeel fun b1 l2 n3 dX=>dpeel fun b4 l5 n6 dX4=> ?_
   rw [Dy.neg_abs rfl x0] at dX dX4
   refine ⟨⟨by rw [eq1];exact F.mS,by rw [eq2];exact F.mS,(congrArg Dy.Dyd.neg eq1).trans F.nS,(congrArg Dy.Dyd.neg eq2).trans F.nS,fun c=>F.zS ((congrArg Dy.Dyd.mag eq1).symm.trans c),fun c=>F.zS ((congrArg Dy.Dyd.mag eq2).symm.trans c),by omega,by omega,by rw [eq2];exact F.rS.1,by rw [eq2];exact F.rS.2,by rw [eq2];exact F.fs2.may⟩,
    dpeel (x:=(Dy.rootF (Dy.Dyd.mk u v w) (N:Int)).1) fun b7 l8 n9 d7=>dpeel fun b10 l11 n12 d10=> ?_⟩
   have d7:Dy.Dyd.mk b7 l8 n9=Dy.sLo (Dy.sqD ⟨true,d,e⟩ ⟨h,d',e'⟩) N:=by rw [eq1] at d7;exact d7
   have d10:Dy.Dyd.mk b10 l11 n12=Dy.sHi (Dy.sqD ⟨true,d,e⟩ ⟨h,d',e'⟩) N:=by rw [eq2] at d10;exact d10
   refine ⟨⟨by rw [d7];exact F.fs1.may,by rw [d10];exact F.fs2.may,by rw [dX];exact F.mA,by rw [dX4];exact F.mA,by rw [d7,dX];exact Dy.fit_mid F.fa1 (by decide),by rw [d10,dX4];exact Dy.fit_mid F.fa2 (by decide),by omega,by omega⟩,dpeel fun b13 l14 n15 d13=>dpeel fun b16 l17 n18 d16=> ?_⟩
   rw [d7,dX] at d13
   rw [d10,dX4] at d16
   refine ⟨⟨by rw [d13];exact Dy.fit_mid F.fe1 (by decide),by rw [d16];exact Dy.fit_mid F.fe2 (by decide),by decide,by decide⟩,dpeel fun b19 l20 n21 d19=>dpeel fun b22 l23 n24 d22=> ?_⟩
   have d19:Dy.Dyd.mk b19 l20 n21=Dy.gLo (Dy.sqD ⟨true,d,e⟩ ⟨h,d',e'⟩) (Dy.absD ⟨true,d,e⟩) N:=by rw [d13] at d19;exact d19
   have d22:Dy.Dyd.mk b22 l23 n24=Dy.gHi (Dy.sqD ⟨true,d,e⟩ ⟨h,d',e'⟩) (Dy.absD ⟨true,d,e⟩) N:=by rw [d16] at d22;exact d22
   refine ⟨⟨by rw [d19];exact F.fg1.may,by rw [d22];exact F.fg2.may,(congrArg Dy.Dyd.neg d19).trans F.ng1,(congrArg Dy.Dyd.neg d22).trans F.ng2,fun c=>F.mg1 ((congrArg Dy.Dyd.mag d19).symm.trans c),fun c=>F.mg2 ((congrArg Dy.Dyd.mag d22).symm.trans c),by omega,by omega,by rw [d22];exact F.rG.1,by rw [d22];exact F.rG.2,by rw [d22];exact F.fl2.may⟩,
    dpeel (x:=(Dy.rootF (Dy.Dyd.mk b19 l20 n21) (N:Int)).1) fun b25 l26 n27 d25=>dpeel fun b28 l29 n30 d28=> ?_⟩
   have d25:Dy.Dyd.mk b25 l26 n27=Dy.lgLo (Dy.sqD ⟨true,d,e⟩ ⟨h,d',e'⟩) (Dy.absD ⟨true,d,e⟩) N:=by rw [d19] at d25;exact d25
   have d28:Dy.Dyd.mk b28 l29 n30=Dy.lgHi (Dy.sqD ⟨true,d,e⟩ ⟨h,d',e'⟩) (Dy.absD ⟨true,d,e⟩) N:=by rw [d22] at d28;exact d28
   refine ⟨⟨mY,mY,by decide,by decide⟩,dpeel fun b31 l32 n33 d31=>dpeel fun b34 l35 n36 d34=> ?_⟩
   have hb31:b31=h:=(congrArg Dy.Dyd.neg d31).trans nY2
   have hb34:b34=h:=(congrArg Dy.Dyd.neg d34).trans nY2
   refine ⟨⟨by rw [d31];exact Dy.fit_mid fY2 (by decide),by rw [d34];exact Dy.fit_mid fY2 (by decide),by rw [d25];exact Dy.fit_mid F.fl1 (by decide),by rw [d28];exact Dy.fit_mid F.fl2 (by decide),(congrArg Dy.Dyd.neg d25).trans F.nl1,(congrArg Dy.Dyd.neg d28).trans F.nl2,
    fun c=>F.ml1 ((congrArg Dy.Dyd.mag d25).symm.trans c),fun c=>F.ml2 ((congrArg Dy.Dyd.mag d28).symm.trans c),by rw [show l32=_ from congrArg Dy.Dyd.mag d31];exact Dy.fit_len fY2 (by decide),by rw [show l35=_ from congrArg Dy.Dyd.mag d34];exact Dy.fit_len fY2 (by decide),
    by rw [show l26=_ from congrArg Dy.Dyd.mag d25];exact Dy.fit_len F.fl1 (by decide),by rw [show l29=_ from congrArg Dy.Dyd.mag d28];exact Dy.fit_len F.fl2 (by decide),by omega,by omega⟩,dpeel fun b37 l38 n39 d37=>dpeel fun b40 l41 n42 d40=> ?_⟩
   rw [d31,d25,d28,hb31,qY.1] at d37
   rw [d34,d25,d28,hb34,qY.2] at d40
   refine cond_f rfl ?_
   cases h
   ·refine cond_f rfl (tup2 ?_ (avS_of d25 d28))
    rw [show AV.agg [.bool b37,.dig [0] l38,.num .i64 n39,.bool b40,.dig [0] l41,.num .i64 n42]=_ from avS_of d37 d40]
    rfl
   ·rw [cond_true] at d37 d40
    refine cond_t rfl ?_
    rw [d37,d40,d25,d28]
    refine ⟨⟨Dy.may_negD F.fq2.may,Dy.may_negD F.fq1.may⟩,?_⟩
    rw [Dy.negD_negD F.fq1.may,Dy.negD_negD F.fq2.may]
    exact dpeel fun _ _ _ d43=>dpeel fun _ _ _ d46=>⟨⟨F.fl1.may,F.fl2.may⟩,dpeel fun _ _ _ d49=>dpeel fun _ _ _ d52=>tup2 (avS_of d43 d46) (avS_of d49 d52)⟩
 ·cases h
theorem ok_tabC1:PhiOk Tryz.prog Inv (look tabC1):=look_cons ok_tabC0 ok_croot_half1
theorem ok_croot_half2 (args:List AV) (s:Spec) (h:cHalf2 args=some s) (hp:andO s.pre True):Contract Tryz.prog Inv 86 args s.res:=by
 unfold cHalf2 at h
 split at h
 ·split at h
  ·rename_i c
   subst c
   cases h
   obtain ⟨hp, -⟩:=hp
   refine contract0 false ok_tabC1 Tryz.func86 (by kernel_rfl) (by kernel_rfl) fun hok=> ?_
   rw [vc_croot_half2]
   exact ⟨hp,dpeel fun _ _ _ d1=>dpeel fun _ _ _ d2=>dpeel fun _ _ _ d3=>dpeel fun _ _ _ d4=>tup2 (avS_of d1 d2) rfl⟩
  ·cases h
 ·cases h
theorem ok_croot_half3 (args:List AV) (s:Spec) (h:cHalf3 args=some s) (hp:andO s.pre True):Contract Tryz.prog Inv 87 args s.res:=by
 unfold cHalf3 at h
 split at h
 ·split at h
  ·rename_i c
   subst c
   cases h
   obtain ⟨hp, -⟩:=hp
   refine contract0 false ok_tabC1 Tryz.func87 (by kernel_rfl) (by kernel_rfl) fun hok=> ?_
   rw [vc_croot_half3]
   exact ⟨hp,dpeel fun _ _ _ d1=>dpeel fun _ _ _ d2=>dpeel fun _ _ _ d3=>dpeel fun _ _ _ d4=>tup2 (avS_of d3 d4) rfl⟩
  ·cases h
 ·cases h
theorem ok_tabC2:PhiOk Tryz.prog Inv (look tabC2):=look_cons (look_cons ok_tabC1 ok_croot_half3) ok_croot_half2
end Go.AI

namespace Go.Dy
set_option maxRecDepth 100000
theorem bey_cut {w V:Nat} (hV:20000≤V) (hV2:V≤100000) (h1:2^(V-1588)≤w) (h2:w<2^(V+600)):
  mid (formZ (cutV (w:Int) 64) (-(V:Int)))∧mayD (beyD (formZ (cutV (w:Int) 64) (-(V:Int))))=true∧(beyD (formZ (cutV (w:Int) 64) (-(V:Int)))).neg=false∧(beyD (formZ (cutV (w:Int) 64) (-(V:Int)))).mag≠[]∧
   topD (beyD (formZ (cutV (w:Int) 64) (-(V:Int))))=(bl w:Int)-V∧mid (negD (formZ (cutV (w:Int) 64) (-(V:Int))))∧beyD (negD (formZ (cutV (w:Int) 64) (-(V:Int))))=negD (beyD (formZ (cutV (w:Int) 64) (-(V:Int)))):=by
 have hl:V-1588<bl w:=lt_bl.2 h1
 have hl2:bl w≤V+600:=bl_le.2 h2
 obtain ⟨q,hq⟩:∃q,w/2^(bl w-64)=q:=⟨_,rfl⟩
 have hbq:bl q=64:=by rw [←hq,bl_div_two_pow];omega
 have hq0:q≠0:=fun c=>by rw [c,bl_zero] at hbq;omega
 obtain ⟨u,hu⟩:∃u:Int, -(V:Int)+((bl w-64:Nat):Int)-2=u:=⟨_,rfl⟩
 have hf:formZ (cutV (w:Int) 64) (-(V:Int))=formZ ((4*q:Nat):Int) u:=by
  have e1:cutV (w:Int) 64=(q:Int)*2^(bl w-64):=by
   unfold cutV cutN
   rw [decide_eq_false (by omega),Int.natAbs_natCast,hq]
   show ((q*2^(bl w-64):Nat):Int)=_
   rw [Int.natCast_mul,Int.natCast_pow]
   rfl
  rw [e1,formZ_mul,show ((4*q:Nat):Int)=(q:Int)*2^2 by rw [Int.natCast_mul];omega,formZ_mul]
  congr 1
  omega
 have hb4:bl (4*q)=66:=by
  have:=bl_mul_two_pow hq0 2
  rw [show q*2^2=4*q by omega] at this
  omega
 have hb5:bl (4*q+1)=66:=by
  have a:=lt_two_bl (4*q)
  rw [hb4] at a
  have a2:bl (4*q+1)≤66:=bl_le.2 (by omega)
  have a3:=bl_mono (show 4*q≤4*q+1 by omega)
  omega
 have ht:=top_formZ (z:=((4*q:Nat):Int)) (e:=u) (by omega)
 rw [Int.natAbs_natCast,hb4] at ht
 have hn:(formZ ((4*q:Nat):Int) u).neg=false:=by
  unfold formZ
  rw [form_pos (by omega)]
  show decide (((4*q:Nat):Int)<0)=false
  exact decide_eq_false (by omega)
 have hm:(formZ ((4*q:Nat):Int) u).mag≠[]:=by
  unfold formZ
  rw [show decide (((4*q:Nat):Int)<0)=false from decide_eq_false (by omega)]
  exact form_ne (by omega) _
 have hbey:beyD (formZ ((4*q:Nat):Int) u)=formZ ((4*q+1:Nat):Int) u:=by
  unfold beyD
  rw [hn,if_neg (by decide),ht,show u+((66:Nat):Int)-66=u by omega]
  have:=add_unit (z:=((4*q:Nat):Int)) (u:=u) (by omega) true
  rw [if_pos rfl,if_pos rfl] at this
  rw [this]
  congr 1
 have hbey2:beyD (negD (formZ ((4*q:Nat):Int) u))=negD (formZ ((4*q+1:Nat):Int) u):=by
  have hnn:(negD (formZ ((4*q:Nat):Int) u)).neg=true:=by
   unfold negD
   rw [hn,decide_eq_true hm]
   rfl
  have htn:topD (negD (formZ ((4*q:Nat):Int) u))=u+((66:Nat):Int):=ht
  unfold beyD
  rw [hnn,if_pos rfl,htn,show u+((66:Nat):Int)-66=u by omega,←formZ_other,←formZ_other]
  have:=add_unit (z:= -((4*q:Nat):Int)) (u:=u) (by omega) false
  rw [if_neg (by decide),if_neg (by decide)] at this
  rw [this]
  congr 1
  omega
 rw [hf,hbey,hbey2]
 have f4:=(fit_formZ (z:=((4*q:Nat):Int)) (e:=u) (L:=66) (E:=200000) (by rw [Int.natAbs_natCast];omega) (by omega) (by rw [Int.natAbs_natCast];omega) (by decide) (by decide)).1
 have f5:=(fit_formZ (z:=((4*q+1:Nat):Int)) (e:=u) (L:=66) (E:=200000) (by rw [Int.natAbs_natCast];omega) (by omega) (by rw [Int.natAbs_natCast];omega) (by decide) (by decide)).1
 have ht5:=top_formZ (z:=((4*q+1:Nat):Int)) (e:=u) (by omega)
 rw [Int.natAbs_natCast,hb5] at ht5
 refine ⟨fit_mid f4 (by decide),f5.may,?_,?_,by rw [ht5];omega,fit_mid (fit_neg f4) (by decide),rfl⟩
 ·unfold formZ
  rw [form_pos (by omega)]
  show decide (((4*q+1:Nat):Int)<0)=false
  exact decide_eq_false (by omega)
 ·unfold formZ
  rw [show decide (((4*q+1:Nat):Int)<0)=false from decide_eq_false (by omega)]
  exact form_ne (by omega) _
theorem parts_T {A B V k:Nat} (hA:A<2^(V+2*k)) (hB:B<2^(V+2*k)):bigV A B V<2^(V+k+1)∧smallV A B V<2^(V+k+1):=by
 have hr:rtE A B V<2^(2*V+2*k+1):=by
  refine isq_lt ?_
  rw [← @rtE_parts A B V]
  have e:2^(2*V+2*k+1)=2^(V+2*k)*2^V+2^(V+2*k)*2^V:=by
   rw [←Nat.pow_add,show 2*V+2*k+1=(V+2*k+V)+1 by omega,Nat.pow_succ];omega
  have hp:=Nat.two_pow_pos V
  have h1:A*2^V<2^(V+2*k)*2^V:=Nat.mul_lt_mul_of_pos_right hA hp
  have h2:B*2^V<2^(V+2*k)*2^V:=Nat.mul_lt_mul_of_pos_right hB hp
  rw [e]
  generalize 2^(V+2*k)*2^V=y at*
  generalize A*2^V=p at*
  generalize B*2^V=q at*
  have h3:=Nat.mul_lt_mul_of_lt_of_lt h1 h1
  have h4:=Nat.mul_lt_mul_of_lt_of_lt h2 h2
  have h5:(y+y)*(y+y)=4*(y*y):=by rw [show y+y=2*y by omega,Nat.mul_mul_mul_comm]
  omega
 have h5:=Nat.pow_le_pow_right (n:=2) (by decide) (show 2*V+2*k+1≤2*(V+k+1) by omega)
 constructor
 ·rcases Nat.lt_or_ge (bigV A B V) (2^(V+k+1)) with c|c
  ·exact c
  ·exfalso
   have h1:=Nat.mul_le_mul c c
   rw [pow_sq] at h1
   have h2:=(@bigV_spec A B V).1
   have h3:=(@rtE_ge A B V).1
   omega
 ·rcases Nat.lt_or_ge (smallV A B V) (2^(V+k+1)) with c|c
  ·exact c
  ·exfalso
   have h1:=Nat.mul_le_mul c c
   rw [pow_sq] at h1
   have h2:=(@smallV_spec A B V).1
   omega
structure partW (V k:Nat) (w:Nat):Prop where
 lo:2^(V-1588)≤w
 hi:w<2^(V+k+1)
theorem parts_off {x y:Dyd} (h:offZ x y) {k:Nat} (tx:topD x≤2*k) (ty:topD y≤2*k):
  ∃V p q:Nat,V=40000∧bigD x y 64=formZ (cutV (p:Int) 64) (-(V:Int))∧smallD x y 64=formZ (cutV (q:Int) 64) (-(V:Int))∧partW V k p∧partW V k q:=by
 obtain ⟨V,hV⟩:∃V,V=crV:=⟨_,rfl⟩
 obtain ⟨ho,hp, -, -, -, -⟩:=offZ_off h hV
 have hV4:V=40000:=hV
 have exx:=h.ex
 have exy:=h.ey
 obtain ⟨A,hA,lA, -⟩:=top_at h.mx h.nx (V:=V) (T:=2*k) (by omega) (by omega)
 obtain ⟨B,hB,lB, -⟩:=top_at h.my h.ny (V:=V) (T:=2*k) (by omega) (by omega)
 have eA:offA x=A:=by unfold offA;rw [←hV,hA];rfl
 have eB:offA y=B:=by unfold offA;rw [←hV,hB];rfl
 have hT:=parts_T lA lB
 have b1:=bigV_low hp
 have b2:=smallV_low hp
 rw [eA,eB] at b1 b2
 refine ⟨V,bigV A B V,smallV A B V,hV4,?_,?_,⟨?_,hT.1⟩,⟨b2,hT.2⟩⟩
 ·unfold bigD;rw [eA,eB,←hV]
 ·unfold smallD;rw [eA,eB,←hV]
 ·exact Nat.le_trans (Nat.pow_le_pow_right (by decide) (by omega)) b1
theorem eq_of_cmp {a b:Dyd} (ma:mayD a=true) (mb:mayD b=true) (h:cmpD a b=0):a=b:=by
 have h1:min a.exp b.exp≤a.exp:=by omega
 have h2:min a.exp b.exp≤b.exp:=by omega
 have e:=(cmp_eq_iff h1 h2).1 h
 have a1:=formZ_at ma h1
 have b1:=formZ_at mb h2
 rw [e] at a1
 exact a1.symm.trans b1
theorem half_known' {X Y:Dyd} (off:offZ (absD X) (absD Y)) {n:Nat} (n1:20≤n) (n2:n≤8192):
 ((mid (lgLo (sqD X Y) (absD X) n)∧mid (lgHi (sqD X Y) (absD X) n))∧(mid (stLo (sqD X Y) (absD X) (absD Y) n)∧mid (stHi (sqD X Y) (absD X) (absD Y) n)))∧
 ((okR (lgLo (sqD X Y) (absD X) n) (lgHi (sqD X Y) (absD X) n) (64:Int)=true→(cutR (lgLo (sqD X Y) (absD X) n) (64:Int)).1=bigD (absD X) (absD Y) 64)∧
  (okR (stLo (sqD X Y) (absD X) (absD Y) n) (stHi (sqD X Y) (absD X) (absD Y) n) (64:Int)=true→(cutR (stLo (sqD X Y) (absD X) (absD Y) n) (64:Int)).1=smallD (absD X) (absD Y) 64))∧
 (4700≤n→okR (lgLo (sqD X Y) (absD X) n) (lgHi (sqD X Y) (absD X) n) (64:Int)=true∧okR (stLo (sqD X Y) (absD X) (absD Y) n) (stHi (sqD X Y) (absD X) (absD Y) n) (64:Int)=true)∧
 (okR (negD (lgHi (sqD X Y) (absD X) n)) (negD (lgLo (sqD X Y) (absD X) n)) (64:Int)=okR (lgLo (sqD X Y) (absD X) n) (lgHi (sqD X Y) (absD X) n) (64:Int)∧
  okR (negD (stHi (sqD X Y) (absD X) (absD Y) n)) (negD (stLo (sqD X Y) (absD X) (absD Y) n)) (64:Int)=okR (stLo (sqD X Y) (absD X) (absD Y) n) (stHi (sqD X Y) (absD X) (absD Y) n) (64:Int)):=by
 obtain ⟨⟨⟨f1,f2⟩,f3,f4⟩,⟨k1,k2⟩,k3,k4⟩:=half_known off n1 n2
 exact ⟨⟨⟨fit_mid f1 (by decide),fit_mid f2 (by decide)⟩,fit_mid f3 (by decide),fit_mid f4 (by decide)⟩,⟨k1 64 (by decide),k2 64 (by decide)⟩,fun h=>k3 h 64 (by decide) (by decide),k4 64 (by decide)⟩
theorem re_known {X Y:Dyd} (off:offZ (absD X) (absD Y)) {n:Nat} (n1:20≤n) (n2:n≤8192):
  mid (reLo X Y n)∧mid (reHi X Y n)∧(okR (reLo X Y n) (reHi X Y n) 64=true→(cutR (reLo X Y n) 64).1=reD X Y)∧(4700≤n→okR (reLo X Y n) (reHi X Y n) 64=true):=by
 obtain ⟨⟨⟨f1,f2⟩,f3,f4⟩,⟨k1,k2⟩,k3,k4⟩:=half_known' off n1 n2
 have e1:X.neg=false→reLo X Y n=lgLo (sqD X Y) (absD X) n∧reHi X Y n=lgHi (sqD X Y) (absD X) n∧reD X Y=bigD (absD X) (absD Y) 64:=fun h=>by unfold reLo reHi reD;rw [h,cond_false,cond_false,cond_false];exact ⟨rfl,rfl,rfl⟩
 have e2:X.neg=true→reLo X Y n=stLo (sqD X Y) (absD X) (absD Y) n∧reHi X Y n=stHi (sqD X Y) (absD X) (absD Y) n∧reD X Y=smallD (absD X) (absD Y) 64:=fun h=>by unfold reLo reHi reD;rw [h,cond_true,cond_true,cond_true];exact ⟨rfl,rfl,rfl⟩
 cases h:X.neg
 ·obtain ⟨a,b,c⟩:=e1 h
  rw [a,b,c]
  exact ⟨f1,f2,k1,fun h=>(k3 h).1⟩
 ·obtain ⟨a,b,c⟩:=e2 h
  rw [a,b,c]
  exact ⟨f3,f4,k2,fun h=>(k3 h).2⟩
theorem in_known {X Y:Dyd} (off:offZ (absD X) (absD Y)) {n:Nat} (n1:20≤n) (n2:n≤8192):
  mid (inLo X Y n)∧mid (inHi X Y n)∧(okR (inLo X Y n) (inHi X Y n) 64=true→(cutR (inLo X Y n) 64).1=bif X.neg then bigD (absD X) (absD Y) 64 else smallD (absD X) (absD Y) 64)∧(4700≤n→okR (inLo X Y n) (inHi X Y n) 64=true)∧
   okR (negD (inHi X Y n)) (negD (inLo X Y n)) 64=okR (inLo X Y n) (inHi X Y n) 64:=by
 obtain ⟨⟨⟨f1,f2⟩,f3,f4⟩,⟨k1,k2⟩,k3,k4⟩:=half_known' off n1 n2
 have e1:X.neg=false→inLo X Y n=stLo (sqD X Y) (absD X) (absD Y) n∧inHi X Y n=stHi (sqD X Y) (absD X) (absD Y) n:=fun h=>by unfold inLo inHi;rw [h,cond_false,cond_false];exact ⟨rfl,rfl⟩
 have e2:X.neg=true→inLo X Y n=lgLo (sqD X Y) (absD X) n∧inHi X Y n=lgHi (sqD X Y) (absD X) n:=fun h=>by unfold inLo inHi;rw [h,cond_true,cond_true];exact ⟨rfl,rfl⟩
 cases h:X.neg
 ·obtain ⟨a,b⟩:=e1 h
  rw [a,b,cond_false]
  exact ⟨f3,f4,k2,fun h=>(k3 h).2,k4.2⟩
 ·obtain ⟨a,b⟩:=e2 h
  rw [a,b,cond_true]
  exact ⟨f1,f2,k1,fun h=>(k3 h).1,k4.1⟩
theorem mid_neg {d:Dyd} (h:mid d):mid (negD d):=fit_mid (fit_neg (mid_fit h)) (by decide)
theorem im_gen {lo hi v:Dyd} {neg:Bool} (h:mid lo∧mid hi∧(okR lo hi 64=true→(cutR lo 64).1=v)∧okR (negD hi) (negD lo) 64=okR lo hi 64):
  mid (bif neg then negD hi else lo)∧mid (bif neg then negD lo else hi)∧(okR (bif neg then negD hi else lo) (bif neg then negD lo else hi) 64=true→(cutR (bif neg then negD hi else lo) 64).1=bif neg then negD v else v)∧
   okR (bif neg then negD hi else lo) (bif neg then negD lo else hi) 64=okR lo hi 64:=by
 obtain ⟨f1,f2,k1,k3⟩:=h
 cases neg
 ·rw [cond_false,cond_false,cond_false]
  exact ⟨f1,f2,k1,rfl⟩
 ·rw [cond_true,cond_true,cond_true,k3]
  refine ⟨mid_neg f2,mid_neg f1,fun h=> ?_,rfl⟩
  have e:=eq_of_cmp (cut_may f1 (n:=64) (by decide)) (cut_may f2 (n:=64) (by decide)) (okR_iff.1 h).2
  have e2:=cutR_neg f2.1 (b:=64) (by decide)
  rw [show ((64:Nat):Int)=64 from rfl] at e2
  rw [e2,←e,k1 h]
theorem im_known {X Y:Dyd} (off:offZ (absD X) (absD Y)) {n:Nat} (n1:20≤n) (n2:n≤8192):
  mid (imLo X Y n)∧mid (imHi X Y n)∧(okR (imLo X Y n) (imHi X Y n) 64=true→(cutR (imLo X Y n) 64).1=imD X Y)∧(4700≤n→okR (imLo X Y n) (imHi X Y n) 64=true):=by
 obtain ⟨f1,f2,k1,k2,k3⟩:=in_known off n1 n2
 obtain ⟨g1,g2,g3,g4⟩:=im_gen (neg:=Y.neg) ⟨f1,f2,k1,k3⟩
 unfold imLo imHi imD
 refine ⟨g1,g2,g3,fun h=> ?_⟩
 rw [g4]
 exact k2 h
theorem bey_gen {P Q:Dyd} {s s':Bool} (hp:mid P∧mayD (beyD P)=true∧mid (negD P)∧beyD (negD P)=negD (beyD P)) (hq:mid Q∧mayD (beyD Q)=true∧mid (negD Q)∧beyD (negD Q)=negD (beyD Q)):
  (mid (bif s then Q else P)∧mayD (beyD (bif s then Q else P))=true)∧(mid (bif s' then negD (bif s then P else Q) else (bif s then P else Q))∧mayD (beyD (bif s' then negD (bif s then P else Q) else (bif s then P else Q)))=true):=by
 cases s<;>cases s'<;>simp only [cond_true,cond_false]
 ·exact ⟨⟨hp.1,hp.2.1⟩,⟨hq.1,hq.2.1⟩⟩
 ·exact ⟨⟨hp.1,hp.2.1⟩,⟨hq.2.2.1,by rw [hq.2.2.2];exact may_negD hq.2.1⟩⟩
 ·exact ⟨⟨hq.1,hq.2.1⟩,⟨hp.1,hp.2.1⟩⟩
 ·exact ⟨⟨hq.1,hq.2.1⟩,⟨hp.2.2.1,by rw [hp.2.2.2];exact may_negD hp.2.1⟩⟩
theorem part_bey {x y:Dyd} (off:offZ x y) {k:Nat} (hk:k≤512) (tx:topD x≤2*k) (ty:topD y≤2*k):
  ((mid (bigD x y 64)∧mayD (beyD (bigD x y 64))=true∧mid (negD (bigD x y 64))∧beyD (negD (bigD x y 64))=negD (beyD (bigD x y 64)))∧((beyD (bigD x y 64)).neg=false∧(beyD (bigD x y 64)).mag≠[]∧topD (beyD (bigD x y 64))≤k+1))∧
  ((mid (smallD x y 64)∧mayD (beyD (smallD x y 64))=true∧mid (negD (smallD x y 64))∧beyD (negD (smallD x y 64))=negD (beyD (smallD x y 64)))∧((beyD (smallD x y 64)).neg=false∧(beyD (smallD x y 64)).mag≠[]∧topD (beyD (smallD x y 64))≤k+1)):=by
 obtain ⟨V,p,q,hV,e1,e2,hp,hq⟩:=parts_off off tx ty
 have hp2:=bey_cut (w:=p) (V:=V) (by omega) (by omega) hp.lo (Nat.lt_of_lt_of_le hp.hi (Nat.pow_le_pow_right (by decide) (by omega)))
 have hq2:=bey_cut (w:=q) (V:=V) (by omega) (by omega) hq.lo (Nat.lt_of_lt_of_le hq.hi (Nat.pow_le_pow_right (by decide) (by omega)))
 have bp:=bl_le.2 hp.hi
 have bq:=bl_le.2 hq.hi
 rw [←e1] at hp2
 rw [←e2] at hq2
 obtain ⟨a1,a2,a3,a4,a5,a6,a7⟩:=hp2
 obtain ⟨c1,c2,c3,c4,c5,c6,c7⟩:=hq2
 exact ⟨⟨⟨a1,a2,a6,a7⟩,a3,a4,by omega⟩,⟨⟨c1,c2,c6,c7⟩,c3,c4,by omega⟩⟩
theorem bey_ok {X Y:Dyd} (off:offZ (absD X) (absD Y)):(mid (reD X Y)∧mayD (beyD (reD X Y))=true)∧(mid (imD X Y)∧mayD (beyD (imD X Y))=true):=by
 have h:=part_bey off (k:=512) (by decide) off.tx off.ty
 exact bey_gen h.1.1 h.2.1
end Go.Dy
