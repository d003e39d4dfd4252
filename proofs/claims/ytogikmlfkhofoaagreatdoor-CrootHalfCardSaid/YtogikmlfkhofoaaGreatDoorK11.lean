/- My texts AVdquo, AIdquo, AIdquo2, AIspecR, in one. -/
import Derived.Test.YtogikmlfkhofoaaGreatDoorK10
namespace Go.AI
open Dy IntKind
open Go Go.RowKit Go.Proofs
set_option linter.unusedVariables false
set_option maxRecDepth 100000
set_option maxHeartbeats 0
theorem vc_dyad_made (s:Bool) (more:Bool) (q:List Nat) (e:Int) (k:Int) (Q:AV→Prop):(evF Tryz.prog (look tabE2) (lam []) false Tryz.f147 [.bool s,.dig [2] q,.num .i64 e,.bool more,.num .i64 k] Q)=(∀(l1:List Nat),l1=(shiftN q (i64.wrap ((0:Int)-if i64.wrap ((↑(lenN q):Int)-k)>(0:Int) then i64.wrap ((↑(lenN q):Int)-k) else (0:Int)))).mag→∀(b2:Bool),b2=(shiftN q (i64.wrap ((0:Int)-if i64.wrap ((↑(lenN q):Int)-k)>(0:Int) then i64.wrap ((↑(lenN q):Int)-k) else (0:Int)))).lost→∀(n3:Int),n3=(shiftN q (i64.wrap ((0:Int)-if i64.wrap ((↑(lenN q):Int)-k)>(0:Int) then i64.wrap ((↑(lenN q):Int)-k) else (0:Int)))).err→∀(b4:Bool),b4=(makeD s l1 (i64.wrap (e+if i64.wrap ((↑(lenN q):Int)-k)>(0:Int) then i64.wrap ((↑(lenN q):Int)-k) else (0:Int)))).1.neg→∀(l5:List Nat),l5=(makeD s l1 (i64.wrap (e+if i64.wrap ((↑(lenN q):Int)-k)>(0:Int) then i64.wrap ((↑(lenN q):Int)-k) else (0:Int)))).1.mag→∀(n6:Int),n6=(makeD s l1 (i64.wrap (e+if i64.wrap ((↑(lenN q):Int)-k)>(0:Int) then i64.wrap ((↑(lenN q):Int)-k) else (0:Int)))).1.exp→∀(n7:Int),n7=(makeD s l1 (i64.wrap (e+if i64.wrap ((↑(lenN q):Int)-k)>(0:Int) then i64.wrap ((↑(lenN q):Int)-k) else (0:Int)))).snd→bif !decide (n7=(0:Int)) then Q (.tup [.agg [.bool false,.dig [0] [],.num .i64 0],.bool false,.num .i64 n7]) else bif b2 then Q (.tup [.agg [.bool b4,.dig [0] l5,.num .i64 n6],.bool true,.num .i64 0]) else Q (.tup [.agg [.bool b4,.dig [0] l5,.num .i64 n6],.bool more,.num .i64 0])):=by kernel_rfl
theorem vc_dyad_Quo (s:Bool) (s':Bool) (m:List Nat) (m':List Nat) (e:Int) (e':Int) (k:Int) (Q:AV→Prop):(evF Tryz.prog (look tabF0) (lam []) false Tryz.f189 [.agg [.bool s,.dig [1] m,.num .i64 e],.agg [.bool s',.dig [2] m',.num .i64 e'],.num .i64 k] Q)=(bif !(mayD (Dyd.mk s m e)&&mayD (Dyd.mk s' m' e')) then Q (.tup [.agg [.bool false,.dig [0] [],.num .i64 0],.bool false,.num .i64 2]) else bif decide (k<1) then Q (.tup [.agg [.bool false,.dig [0] [],.num .i64 0],.bool false,.num .i64 2]) else bif !decide (askD k=(0:Int)) then Q (.tup [.agg [.bool false,.dig [0] [],.num .i64 0],.bool false,.num .i64 (askD k)]) else bif decide ((↑m'.length:Int)=(0:Int)) then Q (.tup [.agg [.bool false,.dig [0] [],.num .i64 0],.bool false,.num .i64 11]) else bif decide ((↑m.length:Int)=(0:Int)) then Q (.tup [.agg [.bool false,.dig [0] [],.num .i64 0],.bool false,.num .i64 0]) else bif decide ((if i64.wrap (i64.wrap (i64.wrap (k+(1:Int))+(↑(lenN m'):Int))-(↑(lenN m):Int))>(0:Int) then i64.wrap (i64.wrap (i64.wrap (k+(1:Int))+(↑(lenN m'):Int))-(↑(lenN m):Int)) else (0:Int))>i64.wrap ((131072:Int)-(↑(lenN m):Int))) then False else∀(l1:List Nat),l1=(shiftN m (if i64.wrap (i64.wrap (i64.wrap (k+(1:Int))+(↑(lenN m'):Int))-(↑(lenN m):Int))>(0:Int) then i64.wrap (i64.wrap (i64.wrap (k+(1:Int))+(↑(lenN m'):Int))-(↑(lenN m):Int)) else (0:Int))).mag→∀(b2:Bool),b2=(shiftN m (if i64.wrap (i64.wrap (i64.wrap (k+(1:Int))+(↑(lenN m'):Int))-(↑(lenN m):Int))>(0:Int) then i64.wrap (i64.wrap (i64.wrap (k+(1:Int))+(↑(lenN m'):Int))-(↑(lenN m):Int)) else (0:Int))).lost→∀(n3:Int),n3=(shiftN m (if i64.wrap (i64.wrap (i64.wrap (k+(1:Int))+(↑(lenN m'):Int))-(↑(lenN m):Int))>(0:Int) then i64.wrap (i64.wrap (i64.wrap (k+(1:Int))+(↑(lenN m'):Int))-(↑(lenN m):Int)) else (0:Int))).err→∀(l4:List Nat),l4=(quoR l1 m').quo→∀(l5:List Nat),l5=(quoR l1 m').rem→∀(n6:Int),n6=(quoR l1 m').err→(may l4=true∧(-1099511627776:Int)≤i64.wrap (i64.wrap (e-e')-if i64.wrap (i64.wrap (i64.wrap (k+(1:Int))+(↑(lenN m'):Int))-(↑(lenN m):Int))>(0:Int) then i64.wrap (i64.wrap (i64.wrap (k+(1:Int))+(↑(lenN m'):Int))-(↑(lenN m):Int)) else (0:Int))∧i64.wrap (i64.wrap (e-e')-if i64.wrap (i64.wrap (i64.wrap (k+(1:Int))+(↑(lenN m'):Int))-(↑(lenN m):Int))>(0:Int) then i64.wrap (i64.wrap (i64.wrap (k+(1:Int))+(↑(lenN m'):Int))-(↑(lenN m):Int)) else (0:Int))≤(1099511627776:Int)∧1≤k∧k≤8192)∧∀(b7:Bool),b7=(madeD (!s==s') (val l4) (i64.wrap (i64.wrap (e-e')-if i64.wrap (i64.wrap (i64.wrap (k+(1:Int))+(↑(lenN m'):Int))-(↑(lenN m):Int))>(0:Int) then i64.wrap (i64.wrap (i64.wrap (k+(1:Int))+(↑(lenN m'):Int))-(↑(lenN m):Int)) else (0:Int))) (decide ((↑l5.length:Int)>(0:Int))) k).num.neg→∀(l8:List Nat),l8=(madeD (!s==s') (val l4) (i64.wrap (i64.wrap (e-e')-if i64.wrap (i64.wrap (i64.wrap (k+(1:Int))+(↑(lenN m'):Int))-(↑(lenN m):Int))>(0:Int) then i64.wrap (i64.wrap (i64.wrap (k+(1:Int))+(↑(lenN m'):Int))-(↑(lenN m):Int)) else (0:Int))) (decide ((↑l5.length:Int)>(0:Int))) k).num.mag→∀(n9:Int),n9=(madeD (!s==s') (val l4) (i64.wrap (i64.wrap (e-e')-if i64.wrap (i64.wrap (i64.wrap (k+(1:Int))+(↑(lenN m'):Int))-(↑(lenN m):Int))>(0:Int) then i64.wrap (i64.wrap (i64.wrap (k+(1:Int))+(↑(lenN m'):Int))-(↑(lenN m):Int)) else (0:Int))) (decide ((↑l5.length:Int)>(0:Int))) k).num.exp→∀(b10:Bool),b10=(madeD (!s==s') (val l4) (i64.wrap (i64.wrap (e-e')-if i64.wrap (i64.wrap (i64.wrap (k+(1:Int))+(↑(lenN m'):Int))-(↑(lenN m):Int))>(0:Int) then i64.wrap (i64.wrap (i64.wrap (k+(1:Int))+(↑(lenN m'):Int))-(↑(lenN m):Int)) else (0:Int))) (decide ((↑l5.length:Int)>(0:Int))) k).lost→∀(n11:Int),n11=(madeD (!s==s') (val l4) (i64.wrap (i64.wrap (e-e')-if i64.wrap (i64.wrap (i64.wrap (k+(1:Int))+(↑(lenN m'):Int))-(↑(lenN m):Int))>(0:Int) then i64.wrap (i64.wrap (i64.wrap (k+(1:Int))+(↑(lenN m'):Int))-(↑(lenN m):Int)) else (0:Int))) (decide ((↑l5.length:Int)>(0:Int))) k).err→Q (.tup [.agg [.bool b7,.dig [0] l8,.num .i64 n9],.bool b10,.num .i64 n11])):=by kernel_rfl
theorem vc_dyad_Root (s:Bool) (m:List Nat) (e:Int) (k:Int) (Q:AV→Prop):(evF Tryz.prog (look tabF0) (lam []) false Tryz.f76 [.agg [.bool s,.dig [1] m,.num .i64 e],.num .i64 k] Q)=(bif !mayD (Dyd.mk s m e) then Q (.tup [.agg [.bool false,.dig [0] [],.num .i64 0],.bool false,.num .i64 2]) else bif !decide (askD k=(0:Int)) then Q (.tup [.agg [.bool false,.dig [0] [],.num .i64 0],.bool false,.num .i64 (askD k)]) else bif decide ((↑m.length:Int)=(0:Int)) then Q (.tup [.agg [.bool false,.dig [0] [],.num .i64 0],.bool false,.num .i64 0]) else bif s then Q (.tup [.agg [.bool false,.dig [0] [],.num .i64 0],.bool false,.num .i64 10]) else bif !decide (i64.wrap (↑(BitVec.ofInt (64:Nat) (i64.wrap (e-i64.wrap (i64.wrap (i64.wrap ((2:Int)*k)+(2:Int))-(↑(lenN m):Int))))&&&BitVec.ofInt (64:Nat) (1:Int)).toNat:Int)=(0:Int)) then∀(l1:List Nat),l1=(shiftN m (i64.wrap (i64.wrap (i64.wrap (i64.wrap ((2:Int)*k)+(2:Int))-(↑(lenN m):Int))+(1:Int)))).mag→∀(b2:Bool),b2=(shiftN m (i64.wrap (i64.wrap (i64.wrap (i64.wrap ((2:Int)*k)+(2:Int))-(↑(lenN m):Int))+(1:Int)))).lost→∀(n3:Int),n3=(shiftN m (i64.wrap (i64.wrap (i64.wrap (i64.wrap ((2:Int)*k)+(2:Int))-(↑(lenN m):Int))+(1:Int)))).err→∀(l4:List Nat),l4=(rootR l1).mag→∀(b5:Bool),b5=(rootR l1).exact→∀(n6:Int),n6=(rootR l1).err→bif b2 then (may l4=true∧(-1099511627776:Int)≤i64.wrap ((i64.wrap (e-i64.wrap (i64.wrap (i64.wrap (i64.wrap ((2:Int)*k)+(2:Int))-(↑(lenN m):Int))+(1:Int)))).tdiv (2:Int))∧i64.wrap ((i64.wrap (e-i64.wrap (i64.wrap (i64.wrap (i64.wrap ((2:Int)*k)+(2:Int))-(↑(lenN m):Int))+(1:Int)))).tdiv (2:Int))≤(1099511627776:Int)∧1≤k∧k≤8192)∧∀(b7:Bool),b7=(madeD false (val l4) (i64.wrap ((i64.wrap (e-i64.wrap (i64.wrap (i64.wrap (i64.wrap ((2:Int)*k)+(2:Int))-(↑(lenN m):Int))+(1:Int)))).tdiv (2:Int))) true k).num.neg→∀(l8:List Nat),l8=(madeD false (val l4) (i64.wrap ((i64.wrap (e-i64.wrap (i64.wrap (i64.wrap (i64.wrap ((2:Int)*k)+(2:Int))-(↑(lenN m):Int))+(1:Int)))).tdiv (2:Int))) true k).num.mag→∀(n9:Int),n9=(madeD false (val l4) (i64.wrap ((i64.wrap (e-i64.wrap (i64.wrap (i64.wrap (i64.wrap ((2:Int)*k)+(2:Int))-(↑(lenN m):Int))+(1:Int)))).tdiv (2:Int))) true k).num.exp→∀(b10:Bool),b10=(madeD false (val l4) (i64.wrap ((i64.wrap (e-i64.wrap (i64.wrap (i64.wrap (i64.wrap ((2:Int)*k)+(2:Int))-(↑(lenN m):Int))+(1:Int)))).tdiv (2:Int))) true k).lost→∀(n11:Int),n11=(madeD false (val l4) (i64.wrap ((i64.wrap (e-i64.wrap (i64.wrap (i64.wrap (i64.wrap ((2:Int)*k)+(2:Int))-(↑(lenN m):Int))+(1:Int)))).tdiv (2:Int))) true k).err→Q (.tup [.agg [.bool b7,.dig [0] l8,.num .i64 n9],.bool b10,.num .i64 n11]) else (may l4=true∧(-1099511627776:Int)≤i64.wrap ((i64.wrap (e-i64.wrap (i64.wrap (i64.wrap (i64.wrap ((2:Int)*k)+(2:Int))-(↑(lenN m):Int))+(1:Int)))).tdiv (2:Int))∧i64.wrap ((i64.wrap (e-i64.wrap (i64.wrap (i64.wrap (i64.wrap ((2:Int)*k)+(2:Int))-(↑(lenN m):Int))+(1:Int)))).tdiv (2:Int))≤(1099511627776:Int)∧1≤k∧k≤8192)∧∀(b12:Bool),b12=(madeD false (val l4) (i64.wrap ((i64.wrap (e-i64.wrap (i64.wrap (i64.wrap (i64.wrap ((2:Int)*k)+(2:Int))-(↑(lenN m):Int))+(1:Int)))).tdiv (2:Int))) (!b5) k).num.neg→∀(l13:List Nat),l13=(madeD false (val l4) (i64.wrap ((i64.wrap (e-i64.wrap (i64.wrap (i64.wrap (i64.wrap ((2:Int)*k)+(2:Int))-(↑(lenN m):Int))+(1:Int)))).tdiv (2:Int))) (!b5) k).num.mag→∀(n14:Int),n14=(madeD false (val l4) (i64.wrap ((i64.wrap (e-i64.wrap (i64.wrap (i64.wrap (i64.wrap ((2:Int)*k)+(2:Int))-(↑(lenN m):Int))+(1:Int)))).tdiv (2:Int))) (!b5) k).num.exp→∀(b15:Bool),b15=(madeD false (val l4) (i64.wrap ((i64.wrap (e-i64.wrap (i64.wrap (i64.wrap (i64.wrap ((2:Int)*k)+(2:Int))-(↑(lenN m):Int))+(1:Int)))).tdiv (2:Int))) (!b5) k).lost→∀(n16:Int),n16=(madeD false (val l4) (i64.wrap ((i64.wrap (e-i64.wrap (i64.wrap (i64.wrap (i64.wrap ((2:Int)*k)+(2:Int))-(↑(lenN m):Int))+(1:Int)))).tdiv (2:Int))) (!b5) k).err→Q (.tup [.agg [.bool b12,.dig [0] l13,.num .i64 n14],.bool b15,.num .i64 n16]) else∀(l17:List Nat),l17=(shiftN m (i64.wrap (i64.wrap (i64.wrap ((2:Int)*k)+(2:Int))-(↑(lenN m):Int)))).mag→∀(b18:Bool),b18=(shiftN m (i64.wrap (i64.wrap (i64.wrap ((2:Int)*k)+(2:Int))-(↑(lenN m):Int)))).lost→∀(n19:Int),n19=(shiftN m (i64.wrap (i64.wrap (i64.wrap ((2:Int)*k)+(2:Int))-(↑(lenN m):Int)))).err→∀(l20:List Nat),l20=(rootR l17).mag→∀(b21:Bool),b21=(rootR l17).exact→∀(n22:Int),n22=(rootR l17).err→bif b18 then (may l20=true∧(-1099511627776:Int)≤i64.wrap ((i64.wrap (e-i64.wrap (i64.wrap (i64.wrap ((2:Int)*k)+(2:Int))-(↑(lenN m):Int)))).tdiv (2:Int))∧i64.wrap ((i64.wrap (e-i64.wrap (i64.wrap (i64.wrap ((2:Int)*k)+(2:Int))-(↑(lenN m):Int)))).tdiv (2:Int))≤(1099511627776:Int)∧1≤k∧k≤8192)∧∀(b23:Bool),b23=(madeD false (val l20) (i64.wrap ((i64.wrap (e-i64.wrap (i64.wrap (i64.wrap ((2:Int)*k)+(2:Int))-(↑(lenN m):Int)))).tdiv (2:Int))) true k).num.neg→∀(l24:List Nat),l24=(madeD false (val l20) (i64.wrap ((i64.wrap (e-i64.wrap (i64.wrap (i64.wrap ((2:Int)*k)+(2:Int))-(↑(lenN m):Int)))).tdiv (2:Int))) true k).num.mag→∀(n25:Int),n25=(madeD false (val l20) (i64.wrap ((i64.wrap (e-i64.wrap (i64.wrap (i64.wrap ((2:Int)*k)+(2:Int))-(↑(lenN m):Int)))).tdiv (2:Int))) true k).num.exp→∀(b26:Bool),b26=(madeD false (val l20) (i64.wrap ((i64.wrap (e-i64.wrap (i64.wrap (i64.wrap ((2:Int)*k)+(2:Int))-(↑(lenN m):Int)))).tdiv (2:Int))) true k).lost→∀(n27:Int),n27=(madeD false (val l20) (i64.wrap ((i64.wrap (e-i64.wrap (i64.wrap (i64.wrap ((2:Int)*k)+(2:Int))-(↑(lenN m):Int)))).tdiv (2:Int))) true k).err→Q (.tup [.agg [.bool b23,.dig [0] l24,.num .i64 n25],.bool b26,.num .i64 n27]) else (may l20=true∧(-1099511627776:Int)≤i64.wrap ((i64.wrap (e-i64.wrap (i64.wrap (i64.wrap ((2:Int)*k)+(2:Int))-(↑(lenN m):Int)))).tdiv (2:Int))∧i64.wrap ((i64.wrap (e-i64.wrap (i64.wrap (i64.wrap ((2:Int)*k)+(2:Int))-(↑(lenN m):Int)))).tdiv (2:Int))≤(1099511627776:Int)∧1≤k∧k≤8192)∧∀(b28:Bool),b28=(madeD false (val l20) (i64.wrap ((i64.wrap (e-i64.wrap (i64.wrap (i64.wrap ((2:Int)*k)+(2:Int))-(↑(lenN m):Int)))).tdiv (2:Int))) (!b21) k).num.neg→∀(l29:List Nat),l29=(madeD false (val l20) (i64.wrap ((i64.wrap (e-i64.wrap (i64.wrap (i64.wrap ((2:Int)*k)+(2:Int))-(↑(lenN m):Int)))).tdiv (2:Int))) (!b21) k).num.mag→∀(n30:Int),n30=(madeD false (val l20) (i64.wrap ((i64.wrap (e-i64.wrap (i64.wrap (i64.wrap ((2:Int)*k)+(2:Int))-(↑(lenN m):Int)))).tdiv (2:Int))) (!b21) k).num.exp→∀(b31:Bool),b31=(madeD false (val l20) (i64.wrap ((i64.wrap (e-i64.wrap (i64.wrap (i64.wrap ((2:Int)*k)+(2:Int))-(↑(lenN m):Int)))).tdiv (2:Int))) (!b21) k).lost→∀(n32:Int),n32=(madeD false (val l20) (i64.wrap ((i64.wrap (e-i64.wrap (i64.wrap (i64.wrap ((2:Int)*k)+(2:Int))-(↑(lenN m):Int)))).tdiv (2:Int))) (!b21) k).err→Q (.tup [.agg [.bool b28,.dig [0] l29,.num .i64 n30],.bool b31,.num .i64 n32])):=by kernel_rfl
theorem vc_ref2_Quo (s:Bool) (s':Bool) (m:List Nat) (m':List Nat) (e:Int) (e':Int) (k:Int) (Q:AV→Prop):(evF Tryz.prog (look tabF0) (lam []) false Tryz.f197 [.agg [.bool s,.dig [1] m,.num .i64 e],.agg [.bool s',.dig [2] m',.num .i64 e'],.num .i64 k] Q)=(bif decide ((↑m.length:Int)=(0:Int)) then Q (.tup [.agg [.bool false,.dig [0] [],.num .i64 0],.bool false]) else (dg (val m')=m'∧m'.length≤1048576)∧(dg (val m)=m∧m.length≤1048576)∧bif decide (i64.wrap (i64.wrap (i64.wrap (k+(1:Int))+(↑(bl (val m')):Int))-(↑(bl (val m)):Int))<(0:Int)) then ((0:Int)≤(0:Int)∧(0:Int)≤(33554432:Int)∧m.length≤1048576)∧(dg (val (dg (val m*(1:Nat))))=dg (val m*(1:Nat))∧dg (val m')=m'∧m'≠[]∧(dg (val m*(1:Nat))).length≤100000∧m'.length≤100000)∧∀(l1:List Nat),l1=dg (val (dg (val m*(1:Nat)))/val m')→∀(l2:List Nat),l2=dg (val (dg (val m*(1:Nat)))%val m')→(dg (val l1)=l1∧l1.length≤1048576∧(-1099511627776:Int)≤i64.wrap (i64.wrap (e-e')-(0:Int))∧i64.wrap (i64.wrap (e-e')-(0:Int))≤(1099511627776:Int))∧∀(b3:Bool),b3=(form (!s==s') (val l1) (i64.wrap (i64.wrap (e-e')-(0:Int)))).neg→∀(l4:List Nat),l4=(form (!s==s') (val l1) (i64.wrap (i64.wrap (e-e')-(0:Int)))).mag→∀(n5:Int),n5=(form (!s==s') (val l1) (i64.wrap (i64.wrap (e-e')-(0:Int)))).exp→(dg (val l4)=l4∧l4.length≤4096∧tz (val l4)=(0:Nat)∧ -1099511627776≤n5∧n5+(131072:Int)≤(1099511627776:Int)∧1≤k)∧∀(b6:Bool),b6=(cutR (Dyd.mk b3 l4 n5) k).1.neg→∀(l7:List Nat),l7=(cutR (Dyd.mk b3 l4 n5) k).1.mag→∀(n8:Int),n8=(cutR (Dyd.mk b3 l4 n5) k).1.exp→∀(b9:Bool),b9=(cutR (Dyd.mk b3 l4 n5) k).snd→bif b9 then Q (.tup [.agg [.bool b6,.dig [0] l7,.num .i64 n8],.bool true]) else Q (.tup [.agg [.bool b6,.dig [0] l7,.num .i64 n8],.bool (decide ((↑l2.length:Int)>(0:Int)))]) else ((0:Int)≤i64.wrap (i64.wrap (i64.wrap (k+(1:Int))+(↑(bl (val m')):Int))-(↑(bl (val m)):Int))∧i64.wrap (i64.wrap (i64.wrap (k+(1:Int))+(↑(bl (val m')):Int))-(↑(bl (val m)):Int))≤(33554432:Int)∧m.length≤1048576)∧(dg (val (dg (val m*(2:Nat)^(i64.wrap (i64.wrap (i64.wrap (k+(1:Int))+(↑(bl (val m')):Int))-(↑(bl (val m)):Int))).toNat)))=dg (val m*(2:Nat)^(i64.wrap (i64.wrap (i64.wrap (k+(1:Int))+(↑(bl (val m')):Int))-(↑(bl (val m)):Int))).toNat)∧dg (val m')=m'∧m'≠[]∧(dg (val m*(2:Nat)^(i64.wrap (i64.wrap (i64.wrap (k+(1:Int))+(↑(bl (val m')):Int))-(↑(bl (val m)):Int))).toNat)).length≤100000∧m'.length≤100000)∧∀(l10:List Nat),l10=dg (val (dg (val m*(2:Nat)^(i64.wrap (i64.wrap (i64.wrap (k+(1:Int))+(↑(bl (val m')):Int))-(↑(bl (val m)):Int))).toNat))/val m')→∀(l11:List Nat),l11=dg (val (dg (val m*(2:Nat)^(i64.wrap (i64.wrap (i64.wrap (k+(1:Int))+(↑(bl (val m')):Int))-(↑(bl (val m)):Int))).toNat))%val m')→(dg (val l10)=l10∧l10.length≤1048576∧(-1099511627776:Int)≤i64.wrap (i64.wrap (e-e')-i64.wrap (i64.wrap (i64.wrap (k+(1:Int))+(↑(bl (val m')):Int))-(↑(bl (val m)):Int)))∧i64.wrap (i64.wrap (e-e')-i64.wrap (i64.wrap (i64.wrap (k+(1:Int))+(↑(bl (val m')):Int))-(↑(bl (val m)):Int)))≤(1099511627776:Int))∧∀(b12:Bool),b12=(form (!s==s') (val l10) (i64.wrap (i64.wrap (e-e')-i64.wrap (i64.wrap (i64.wrap (k+(1:Int))+(↑(bl (val m')):Int))-(↑(bl (val m)):Int))))).neg→∀(l13:List Nat),l13=(form (!s==s') (val l10) (i64.wrap (i64.wrap (e-e')-i64.wrap (i64.wrap (i64.wrap (k+(1:Int))+(↑(bl (val m')):Int))-(↑(bl (val m)):Int))))).mag→∀(n14:Int),n14=(form (!s==s') (val l10) (i64.wrap (i64.wrap (e-e')-i64.wrap (i64.wrap (i64.wrap (k+(1:Int))+(↑(bl (val m')):Int))-(↑(bl (val m)):Int))))).exp→(dg (val l13)=l13∧l13.length≤4096∧tz (val l13)=(0:Nat)∧ -1099511627776≤n14∧n14+(131072:Int)≤(1099511627776:Int)∧1≤k)∧∀(b15:Bool),b15=(cutR (Dyd.mk b12 l13 n14) k).1.neg→∀(l16:List Nat),l16=(cutR (Dyd.mk b12 l13 n14) k).1.mag→∀(n17:Int),n17=(cutR (Dyd.mk b12 l13 n14) k).1.exp→∀(b18:Bool),b18=(cutR (Dyd.mk b12 l13 n14) k).snd→bif b18 then Q (.tup [.agg [.bool b15,.dig [0] l16,.num .i64 n17],.bool true]) else Q (.tup [.agg [.bool b15,.dig [0] l16,.num .i64 n17],.bool (decide ((↑l11.length:Int)>(0:Int)))])):=by kernel_rfl
theorem vc_ref2_Root (s:Bool) (m:List Nat) (e:Int) (k:Int) (Q:AV→Prop):(evF Tryz.prog (look tabF0) (lam []) false Tryz.f42 [.agg [.bool s,.dig [1] m,.num .i64 e],.num .i64 k] Q)=((dg (val m)=m∧m.length≤1048576)∧bif decide (i64.wrap (i64.wrap (i64.wrap ((2:Int)*k)+(2:Int))-(↑(bl (val m)):Int))<(0:Int)) then bif !decide ((i64.wrap (e-(0:Int))).tmod (2:Int)=(0:Int)) then ((0:Int)≤i64.wrap ((0:Int)+(1:Int))∧i64.wrap ((0:Int)+(1:Int))≤(33554432:Int)∧m.length≤1048576)∧(dg (val (dg (val m*(2:Nat))))=dg (val m*(2:Nat))∧(dg (val m*(2:Nat))).length≤100000)∧∀(l1:List Nat),l1=dg (isq (val (dg (val m*(2:Nat)))))→∀(b2:Bool),b2=decide (isq (val (dg (val m*(2:Nat))))*isq (val (dg (val m*(2:Nat))))=val (dg (val m*(2:Nat))))→(dg (val l1)=l1∧l1.length≤1048576∧(-1099511627776:Int)≤i64.wrap ((i64.wrap (e-i64.wrap ((0:Int)+(1:Int)))).tdiv (2:Int))∧i64.wrap ((i64.wrap (e-i64.wrap ((0:Int)+(1:Int)))).tdiv (2:Int))≤(1099511627776:Int))∧∀(b3:Bool),b3=(form false (val l1) (i64.wrap ((i64.wrap (e-i64.wrap ((0:Int)+(1:Int)))).tdiv (2:Int)))).neg→∀(l4:List Nat),l4=(form false (val l1) (i64.wrap ((i64.wrap (e-i64.wrap ((0:Int)+(1:Int)))).tdiv (2:Int)))).mag→∀(n5:Int),n5=(form false (val l1) (i64.wrap ((i64.wrap (e-i64.wrap ((0:Int)+(1:Int)))).tdiv (2:Int)))).exp→(dg (val l4)=l4∧l4.length≤4096∧tz (val l4)=(0:Nat)∧ -1099511627776≤n5∧n5+(131072:Int)≤(1099511627776:Int)∧1≤k)∧∀(b6:Bool),b6=(cutR (Dyd.mk b3 l4 n5) k).1.neg→∀(l7:List Nat),l7=(cutR (Dyd.mk b3 l4 n5) k).1.mag→∀(n8:Int),n8=(cutR (Dyd.mk b3 l4 n5) k).1.exp→∀(b9:Bool),b9=(cutR (Dyd.mk b3 l4 n5) k).snd→bif b9 then Q (.tup [.agg [.bool b6,.dig [0] l7,.num .i64 n8],.bool true]) else Q (.tup [.agg [.bool b6,.dig [0] l7,.num .i64 n8],.bool !b2]) else ((0:Int)≤(0:Int)∧(0:Int)≤(33554432:Int)∧m.length≤1048576)∧(dg (val (dg (val m*(1:Nat))))=dg (val m*(1:Nat))∧(dg (val m*(1:Nat))).length≤100000)∧∀(l10:List Nat),l10=dg (isq (val (dg (val m*(1:Nat)))))→∀(b11:Bool),b11=decide (isq (val (dg (val m*(1:Nat))))*isq (val (dg (val m*(1:Nat))))=val (dg (val m*(1:Nat))))→(dg (val l10)=l10∧l10.length≤1048576∧(-1099511627776:Int)≤i64.wrap ((i64.wrap (e-(0:Int))).tdiv (2:Int))∧i64.wrap ((i64.wrap (e-(0:Int))).tdiv (2:Int))≤(1099511627776:Int))∧∀(b12:Bool),b12=(form false (val l10) (i64.wrap ((i64.wrap (e-(0:Int))).tdiv (2:Int)))).neg→∀(l13:List Nat),l13=(form false (val l10) (i64.wrap ((i64.wrap (e-(0:Int))).tdiv (2:Int)))).mag→∀(n14:Int),n14=(form false (val l10) (i64.wrap ((i64.wrap (e-(0:Int))).tdiv (2:Int)))).exp→(dg (val l13)=l13∧l13.length≤4096∧tz (val l13)=(0:Nat)∧ -1099511627776≤n14∧n14+(131072:Int)≤(1099511627776:Int)∧1≤k)∧∀(b15:Bool),b15=(cutR (Dyd.mk b12 l13 n14) k).1.neg→∀(l16:List Nat),l16=(cutR (Dyd.mk b12 l13 n14) k).1.mag→∀(n17:Int),n17=(cutR (Dyd.mk b12 l13 n14) k).1.exp→∀(b18:Bool),b18=(cutR (Dyd.mk b12 l13 n14) k).snd→bif b18 then Q (.tup [.agg [.bool b15,.dig [0] l16,.num .i64 n17],.bool true]) else Q (.tup [.agg [.bool b15,.dig [0] l16,.num .i64 n17],.bool !b11]) else bif !decide ((i64.wrap (e-i64.wrap (i64.wrap (i64.wrap ((2:Int)*k)+(2:Int))-(↑(bl (val m)):Int)))).tmod (2:Int)=(0:Int)) then ((0:Int)≤i64.wrap (i64.wrap (i64.wrap (i64.wrap ((2:Int)*k)+(2:Int))-(↑(bl (val m)):Int))+(1:Int))∧i64.wrap (i64.wrap (i64.wrap (i64.wrap ((2:Int)*k)+(2:Int))-(↑(bl (val m)):Int))+(1:Int))≤(33554432:Int)∧m.length≤1048576)∧(dg (val (dg (val m*(2:Nat)^(i64.wrap (i64.wrap (i64.wrap (i64.wrap ((2:Int)*k)+(2:Int))-(↑(bl (val m)):Int))+(1:Int))).toNat)))=dg (val m*(2:Nat)^(i64.wrap (i64.wrap (i64.wrap (i64.wrap ((2:Int)*k)+(2:Int))-(↑(bl (val m)):Int))+(1:Int))).toNat)∧(dg (val m*(2:Nat)^(i64.wrap (i64.wrap (i64.wrap (i64.wrap ((2:Int)*k)+(2:Int))-(↑(bl (val m)):Int))+(1:Int))).toNat)).length≤100000)∧∀(l19:List Nat),l19=dg (isq (val (dg (val m*(2:Nat)^(i64.wrap (i64.wrap (i64.wrap (i64.wrap ((2:Int)*k)+(2:Int))-(↑(bl (val m)):Int))+(1:Int))).toNat))))→∀(b20:Bool),b20=decide (isq (val (dg (val m*(2:Nat)^(i64.wrap (i64.wrap (i64.wrap (i64.wrap ((2:Int)*k)+(2:Int))-(↑(bl (val m)):Int))+(1:Int))).toNat)))*isq (val (dg (val m*(2:Nat)^(i64.wrap (i64.wrap (i64.wrap (i64.wrap ((2:Int)*k)+(2:Int))-(↑(bl (val m)):Int))+(1:Int))).toNat)))=val (dg (val m*(2:Nat)^(i64.wrap (i64.wrap (i64.wrap (i64.wrap ((2:Int)*k)+(2:Int))-(↑(bl (val m)):Int))+(1:Int))).toNat)))→(dg (val l19)=l19∧l19.length≤1048576∧(-1099511627776:Int)≤i64.wrap ((i64.wrap (e-i64.wrap (i64.wrap (i64.wrap (i64.wrap ((2:Int)*k)+(2:Int))-(↑(bl (val m)):Int))+(1:Int)))).tdiv (2:Int))∧i64.wrap ((i64.wrap (e-i64.wrap (i64.wrap (i64.wrap (i64.wrap ((2:Int)*k)+(2:Int))-(↑(bl (val m)):Int))+(1:Int)))).tdiv (2:Int))≤(1099511627776:Int))∧∀(b21:Bool),b21=(form false (val l19) (i64.wrap ((i64.wrap (e-i64.wrap (i64.wrap (i64.wrap (i64.wrap ((2:Int)*k)+(2:Int))-(↑(bl (val m)):Int))+(1:Int)))).tdiv (2:Int)))).neg→∀(l22:List Nat),l22=(form false (val l19) (i64.wrap ((i64.wrap (e-i64.wrap (i64.wrap (i64.wrap (i64.wrap ((2:Int)*k)+(2:Int))-(↑(bl (val m)):Int))+(1:Int)))).tdiv (2:Int)))).mag→∀(n23:Int),n23=(form false (val l19) (i64.wrap ((i64.wrap (e-i64.wrap (i64.wrap (i64.wrap (i64.wrap ((2:Int)*k)+(2:Int))-(↑(bl (val m)):Int))+(1:Int)))).tdiv (2:Int)))).exp→(dg (val l22)=l22∧l22.length≤4096∧tz (val l22)=(0:Nat)∧ -1099511627776≤n23∧n23+(131072:Int)≤(1099511627776:Int)∧1≤k)∧∀(b24:Bool),b24=(cutR (Dyd.mk b21 l22 n23) k).1.neg→∀(l25:List Nat),l25=(cutR (Dyd.mk b21 l22 n23) k).1.mag→∀(n26:Int),n26=(cutR (Dyd.mk b21 l22 n23) k).1.exp→∀(b27:Bool),b27=(cutR (Dyd.mk b21 l22 n23) k).snd→bif b27 then Q (.tup [.agg [.bool b24,.dig [0] l25,.num .i64 n26],.bool true]) else Q (.tup [.agg [.bool b24,.dig [0] l25,.num .i64 n26],.bool !b20]) else ((0:Int)≤i64.wrap (i64.wrap (i64.wrap ((2:Int)*k)+(2:Int))-(↑(bl (val m)):Int))∧i64.wrap (i64.wrap (i64.wrap ((2:Int)*k)+(2:Int))-(↑(bl (val m)):Int))≤(33554432:Int)∧m.length≤1048576)∧(dg (val (dg (val m*(2:Nat)^(i64.wrap (i64.wrap (i64.wrap ((2:Int)*k)+(2:Int))-(↑(bl (val m)):Int))).toNat)))=dg (val m*(2:Nat)^(i64.wrap (i64.wrap (i64.wrap ((2:Int)*k)+(2:Int))-(↑(bl (val m)):Int))).toNat)∧(dg (val m*(2:Nat)^(i64.wrap (i64.wrap (i64.wrap ((2:Int)*k)+(2:Int))-(↑(bl (val m)):Int))).toNat)).length≤100000)∧∀(l28:List Nat),l28=dg (isq (val (dg (val m*(2:Nat)^(i64.wrap (i64.wrap (i64.wrap ((2:Int)*k)+(2:Int))-(↑(bl (val m)):Int))).toNat))))→∀(b29:Bool),b29=decide (isq (val (dg (val m*(2:Nat)^(i64.wrap (i64.wrap (i64.wrap ((2:Int)*k)+(2:Int))-(↑(bl (val m)):Int))).toNat)))*isq (val (dg (val m*(2:Nat)^(i64.wrap (i64.wrap (i64.wrap ((2:Int)*k)+(2:Int))-(↑(bl (val m)):Int))).toNat)))=val (dg (val m*(2:Nat)^(i64.wrap (i64.wrap (i64.wrap ((2:Int)*k)+(2:Int))-(↑(bl (val m)):Int))).toNat)))→(dg (val l28)=l28∧l28.length≤1048576∧(-1099511627776:Int)≤i64.wrap ((i64.wrap (e-i64.wrap (i64.wrap (i64.wrap ((2:Int)*k)+(2:Int))-(↑(bl (val m)):Int)))).tdiv (2:Int))∧i64.wrap ((i64.wrap (e-i64.wrap (i64.wrap (i64.wrap ((2:Int)*k)+(2:Int))-(↑(bl (val m)):Int)))).tdiv (2:Int))≤(1099511627776:Int))∧∀(b30:Bool),b30=(form false (val l28) (i64.wrap ((i64.wrap (e-i64.wrap (i64.wrap (i64.wrap ((2:Int)*k)+(2:Int))-(↑(bl (val m)):Int)))).tdiv (2:Int)))).neg→∀(l31:List Nat),l31=(form false (val l28) (i64.wrap ((i64.wrap (e-i64.wrap (i64.wrap (i64.wrap ((2:Int)*k)+(2:Int))-(↑(bl (val m)):Int)))).tdiv (2:Int)))).mag→∀(n32:Int),n32=(form false (val l28) (i64.wrap ((i64.wrap (e-i64.wrap (i64.wrap (i64.wrap ((2:Int)*k)+(2:Int))-(↑(bl (val m)):Int)))).tdiv (2:Int)))).exp→(dg (val l31)=l31∧l31.length≤4096∧tz (val l31)=(0:Nat)∧ -1099511627776≤n32∧n32+(131072:Int)≤(1099511627776:Int)∧1≤k)∧∀(b33:Bool),b33=(cutR (Dyd.mk b30 l31 n32) k).1.neg→∀(l34:List Nat),l34=(cutR (Dyd.mk b30 l31 n32) k).1.mag→∀(n35:Int),n35=(cutR (Dyd.mk b30 l31 n32) k).1.exp→∀(b36:Bool),b36=(cutR (Dyd.mk b30 l31 n32) k).snd→bif b36 then Q (.tup [.agg [.bool b33,.dig [0] l34,.num .i64 n35],.bool true]) else Q (.tup [.agg [.bool b33,.dig [0] l34,.num .i64 n35],.bool !b29])):=by kernel_rfl
end Go.AI

namespace Go.Dy
theorem lenN_may {a:List Nat} (h:may a=true):lenN a=bl (val a):=by unfold lenN;rw [if_pos h]
theorem shiftN_off {a:List Nat} (h:may a=true) (n:Nat):(shiftN a (-(n:Int))).lost=decide (val a%2^n≠0):=by
 by_cases h0:val a=0
 ·unfold shiftN
  rw [if_pos h,if_pos h0,h0,Nat.zero_mod]
  rfl
 ·by_cases hn:0<n
  ·exact shiftN_lost h n h0 hn
  ·have hn0:n=0:=by omega
   subst hn0
   have hb:=may_bl h
   unfold shiftN
   rw [if_pos h,if_neg h0,if_neg (by omega),if_neg (by omega),Nat.pow_zero,Nat.mod_one]
   rfl
theorem shiftN_offu {a:List Nat} (h:may a=true) (n:Nat) (hn:bl (val a)+n≤131072):(shiftN a (n:Int)).lost=false:=by
 unfold shiftN
 rw [if_pos h]
 by_cases h0:val a=0
 ·rw [if_pos h0]
 ·rw [if_neg h0,if_neg (by omega),if_neg (by omega)]
theorem dg_len_dec (n:Nat):decide (((dg n).length:Int)>0)=decide (n≠0):=by
 rw [decide_eq_decide]
 constructor
 ·intro h e
  rw [e,dg_zero] at h
  exact absurd h (by decide)
 ·intro h
  have:dg n≠[]:=fun e=>h (dg_eq_nil.1 e)
  have:=List.length_pos_iff.2 this
  omega
theorem isq_le (n:Nat):isq n≤n:=Nat.le_trans (Nat.le_mul_self _) (isq_spec n).1
theorem isq_bl {N j:Nat} (h:bl N≤2*j):bl (isq N)≤j:=by
 refine bl_le.2 ?_
 rcases Nat.lt_or_ge (isq N) (2^j) with c|c
 ·exact c
 ·exfalso
  have h2:=bl_le.1 h
  have h3:=Nat.mul_le_mul c c
  rw [←Nat.pow_add] at h3
  have h1:=(isq_spec N).1
  rw [show 2*j=j+j by omega] at h2
  omega
theorem tdiv_even {x:Int} (h:x%2=0):x.tdiv 2=x/2:=Int.tdiv_eq_ediv_of_dvd (Int.dvd_of_emod_eq_zero h)
theorem tmod_two (x:Int):x.tmod 2=0 ↔ x%2=0:=⟨fun h=>Int.emod_eq_zero_of_dvd (Int.dvd_of_tmod_eq_zero h),fun h=>Int.tmod_eq_zero_of_dvd (Int.dvd_of_emod_eq_zero h)⟩
theorem form_dg {s:Bool} {n:Nat} {e:Int}:dg (val (form s n e).mag)=(form s n e).mag∧tz (val (form s n e).mag)=0∧bl (val (form s n e).mag)≤bl n∧min e 0≤(form s n e).exp∧(form s n e).exp≤max 0 (e+bl n):=by
 by_cases h:n=0
 ·subst h
  rw [form_zero]
  refine ⟨rfl,rfl,Nat.le_refl _,?_,?_⟩
  ·show min e 0≤0;omega
  ·show 0≤max 0 _;omega
 ·rw [form_pos h]
  simp only [val_dg]
  have:=tz_lt_bl h
  exact ⟨trivial,tz_odd (div_tz_odd h),bl_mono (Nat.div_le_self _ _),by omega,by omega⟩
end Go.Dy
namespace Go.AI
open Go Go.RowKit Go.Proofs
set_option linter.unusedVariables false
set_option maxRecDepth 100000
set_option maxHeartbeats 1000000
theorem and_one (x:Int):IntKind.i64.wrap (((BitVec.ofInt 64 x&&&BitVec.ofInt 64 1).toNat:Nat):Int)=x%2:=by
 have h:(BitVec.ofInt 64 x&&&BitVec.ofInt 64 1).toNat=(x%18446744073709551616).toNat%2:=by
  rw [BitVec.toNat_and,BitVec.toNat_ofInt,BitVec.toNat_ofInt]
  show (x%18446744073709551616).toNat&&&1=_
  rw [Nat.and_one_is_mod]
 rw [h,wrap_i64 (by omega) (by omega)]
 omega
theorem ok_ref2_CutW (args:List AV) (s:Spec) (h:rCutW args=some s) (hp:andO s.pre True):Contract Tryz.prog Inv 99 args s.res:=by
 unfold rCutW at h
 split at h
 ·cases h
  rename_i s m e b
  obtain ⟨⟨hc,n1,hz,x1,x2,hb1⟩, -⟩:=hp
  refine contract0 true ok_tab19 Tryz.func99 (by kernel_rfl) (by kernel_rfl) fun hok=> ?_
  have h5:=(oks_d hok).2.2
  have hn:=range_i64 (oks1_num h5).1
  have b1:Dy.bl (Dy.val m)≤131072:=Dy.len_bl.1 (by rw [hc];exact n1)
  rw [vc_ref2_Cut,wrap_i64 (n:=(Dy.bl (Dy.val m):Int)-b) (by omega) (by omega)]
  unfold Dy.cutR Dy.headD Dy.overD
  simp only
  refine ⟨⟨hc,by omega⟩,cond_i (fun h=> ?_) (fun h=> ?_)⟩
  ·have h:=of_decide_eq_true h
   rw [if_pos h]
   rfl
  ·have h:=of_decide_eq_false h
   rw [if_neg h]
   have hv:Dy.val m≠0:=fun e0=>by rw [e0,Dy.bl_zero] at h;omega
   obtain ⟨n,hn'⟩:∃n:Nat,(Dy.bl (Dy.val m):Int)-b=n:=⟨((Dy.bl (Dy.val m):Int)-b).toNat,by omega⟩
   rw [hn'] at h ⊢
   rw [wrap_i64 (by omega) (by omega),Int.toNat_natCast,hz,decide_eq_true (show Dy.val m≠0∧((0:Nat):Int)<(n:Int) from ⟨hv,by omega⟩)]
   refine ⟨⟨hc,by omega,by omega⟩,?_⟩
   rintro _ rfl _ rfl
   rw [Dy.val_dg]
   have hb2:Dy.bl (Dy.val m/2^n)≤131072:=by rw [Dy.bl_div_two_pow];omega
   refine ⟨⟨rfl,Dy.dg_len (by omega),by omega,by omega⟩,?_⟩
   rintro _ rfl _ rfl _ rfl
   rfl
 ·cases h
theorem ok_dyad_made (args:List AV) (s:Spec) (h:dMade args=some s) (hp:andO s.pre True):Contract Tryz.prog Inv 147 args s.res:=by
 unfold dMade at h
 split at h
 ·cases h
  rename_i s q e more k
  obtain ⟨⟨hm,x1,x2,hk1,hk2⟩, -⟩:=hp
  refine contract0 false ok_tabE2 Tryz.func147 (by kernel_rfl) (by kernel_rfl) fun hok=> ?_
  have hb:=Dy.may_bl hm
  rw [vc_dyad_made,Dy.lenN_may hm]
  unfold Dy.madeD
  obtain ⟨t,ht⟩:∃t:Nat,((Dy.bl (Dy.val q):Int)-k).toNat=t:=⟨_,rfl⟩
  have e1:(if IntKind.i64.wrap ((Dy.bl (Dy.val q):Int)-k)>0 then IntKind.i64.wrap ((Dy.bl (Dy.val q):Int)-k) else 0)=(t:Int):=by
   rw [wrap_i64 (by omega) (by omega)]
   split<;>omega
  rw [e1,ht,wrap_i64 (n:=(0:Int)-t) (by omega) (by omega),Int.zero_sub,wrap_i64 (n:=e+t) (by omega) (by omega),Dy.shiftN_neg hm,Dy.shiftN_off hm]
  rintro _ rfl _ rfl _ -
  have hq:Dy.bl (Dy.val q/2^t)≤131072:=by rw [Dy.bl_div_two_pow];omega
  rw [Dy.makeD_dg hq]
  rintro _ rfl _ rfl _ rfl _ rfl
  refine cond_i (fun h1=> ?_) (fun h1=> ?_)
  ·simp only [Bool.not_eq_true',decide_eq_false_iff_not] at h1
   rw [if_neg h1]
   rfl
  ·simp only [Bool.not_eq_false',decide_eq_true_eq] at h1
   rw [if_pos h1]
   refine cond_i (fun h2=> ?_) (fun h2=> ?_)
   ·rw [h2];rfl
   ·rw [h2];rfl
 ·cases h
theorem ok_tabF0:PhiOk Tryz.prog Inv (look tabF0):=look_cons (look_cons ok_tabE2 ok_dyad_made) ok_ref2_CutW
theorem ok_dyad_Quo (args:List AV) (s:Spec) (h:dQuo args=some s) (hp:andO s.pre True):Contract Tryz.prog Inv 189 args s.res:=by
 unfold dQuo at h
 split at h
 ·cases h
  rename_i s m e s' m' e' k
  obtain ⟨⟨hl,hl'⟩, -⟩:=hp
  refine contract0 false ok_tabF0 Tryz.func189 (by kernel_rfl) (by kernel_rfl) fun hok=> ?_
  rw [vc_dyad_Quo]
  unfold Dy.quoD
  simp only
  refine cond_i (fun h=> ?_) (fun h=> ?_)
  ·simp only [Bool.not_eq_true'] at h
   rw [h];rfl
  simp only [Bool.not_eq_false'] at h
  rw [h]
  simp only [Bool.true_and]
  obtain ⟨hd,hd'⟩:=(Bool.and_eq_true _ _ ▸ h:_∧_)
  refine cond_i (fun h1=> ?_) (fun h1=> ?_)
  ·have h1:=of_decide_eq_true h1
   rw [if_neg (by rw [decide_eq_true_eq];omega)]
   rfl
  have h1:=of_decide_eq_false h1
  rw [if_pos (decide_eq_true (by omega))]
  refine cond_i (fun h2=> ?_) (fun h2=> ?_)
  ·simp only [Bool.not_eq_true',decide_eq_false_iff_not] at h2
   unfold Dy.askD at h2 ⊢
   rw [if_neg h1] at h2 ⊢
   by_cases c:8192<k
   ·rw [if_pos c,if_neg (by omega)];rfl
   ·rw [if_neg c] at h2;exact absurd rfl h2
  simp only [Bool.not_eq_false',decide_eq_true_eq] at h2
  have hk:k≤8192:=by
   unfold Dy.askD at h2
   rw [if_neg h1] at h2
   by_cases c:8192<k
   ·rw [if_pos c] at h2;exact absurd h2 (by decide)
   ·omega
  rw [if_pos hk]
  refine cond_i (fun h3=> ?_) (fun h3=>cond_i (fun h4=> ?_) (fun h4=> ?_))
  ·have h3:=List.length_eq_zero_iff.1 (Int.ofNat_eq_zero.1 (of_decide_eq_true h3))
   rw [if_pos h3];rfl
  ·have h3:=of_decide_eq_false h3
   have h4:=List.length_eq_zero_iff.1 (Int.ofNat_eq_zero.1 (of_decide_eq_true h4))
   rw [if_neg (fun e=>h3 (by rw [e];rfl)),if_pos h4];rfl
  ·have h3:=of_decide_eq_false h3
   have h4:=of_decide_eq_false h4
   have m0':m'≠[]:=fun e=>h3 (by rw [e];rfl)
   have m0:m≠[]:=fun e=>h4 (by rw [e];rfl)
   rw [if_neg m0',if_neg m0]
   have may1:=Dy.mayD_may hd
   have may2:=Dy.mayD_may hd'
   have x1:=Dy.mayD_exp hd
   have x2:=Dy.mayD_exp hd'
   have v2:=Dy.val_ne may2 m0'
   have b1:Dy.bl (Dy.val m)≤32000:=(Dy.length_dg_bl (n:=Dy.val m) (k:=1000)).1 (by rw [Dy.may_dg may1];exact hl)
   have b2:Dy.bl (Dy.val m')≤32000:=(Dy.length_dg_bl (n:=Dy.val m') (k:=1000)).1 (by rw [Dy.may_dg may2];exact hl')
   rw [Dy.lenN_may may1,Dy.lenN_may may2]
   have hqs:Dy.quoS (Dy.val m) (Dy.val m') k=(k+1+(Dy.bl (Dy.val m'):Int)-(Dy.bl (Dy.val m):Int)).toNat:=rfl
   generalize Dy.quoS (Dy.val m) (Dy.val m') k=n at hqs ⊢
   have e1:(if IntKind.i64.wrap (IntKind.i64.wrap (IntKind.i64.wrap (k+1)+(Dy.bl (Dy.val m'):Int))-(Dy.bl (Dy.val m):Int))>0 then IntKind.i64.wrap (IntKind.i64.wrap (IntKind.i64.wrap (k+1)+(Dy.bl (Dy.val m'):Int))-(Dy.bl (Dy.val m):Int)) else 0)=(n:Int):=by
    rw [wrap_i64 (n:=k+1) (by omega) (by omega),wrap_i64 (n:=k+1+_) (by omega) (by omega),wrap_i64 (by omega) (by omega)]
    split<;>omega
   rw [e1,wrap_i64 (n:=(131072:Int)-_) (by omega) (by omega),wrap_i64 (n:=e-e') (by omega) (by omega),wrap_i64 (n:=e-e'-_) (by omega) (by omega),Dy.shiftN_up may1 n (by omega)]
   refine cond_f (decide_eq_false (by omega)) ?_
   rintro _ rfl _-_ -
   have hX:Dy.bl (Dy.val m*2^n)≤131072:=Nat.le_trans (Dy.bl_mul_le b1) (by omega)
   have may3:Dy.may (Dy.dg (Dy.val m*2^n))=true:=Dy.may_dgn.2 (Dy.len_bl.2 hX)
   have hq:Dy.quoR (Dy.dg (Dy.val m*2^n)) m'=⟨Dy.dg (Dy.val m*2^n/Dy.val m'),Dy.dg (Dy.val m*2^n%Dy.val m'),0⟩:=by
    unfold Dy.quoR
    rw [may3,may2,if_pos (show (true&&true)=true from rfl),if_neg v2,Dy.val_dg]
   rw [hq]
   have hQ:Dy.bl (Dy.val m*2^n/Dy.val m')≤131072:=Nat.le_trans (Dy.bl_mono (Nat.div_le_self _ _)) hX
   rintro _ rfl _ rfl _ -
   refine ⟨⟨Dy.may_dgn.2 (Dy.len_bl.2 hQ),by omega,by omega,by omega,hk⟩,?_⟩
   rw [Dy.val_dg,Dy.dg_len_dec]
   rintro _ rfl _ rfl _ rfl _ rfl _ rfl
   rfl
 ·cases h
theorem root_tail {m:List Nat} {e k n:Int} (may1:Dy.may m=true) (x1: -16777216≤e∧e≤16777216) (hk1:1≤k) (hk:k≤8192) (hn1: -200000≤n) (hn2:(Dy.bl (Dy.val m):Int)+n≤131072) (hn3:(e-n)%2=0)
  {Q:AV→Prop} (hQ:Q (.tup [avD [0] (Dy.madeD false (Dy.isq (Dy.sh2 (Dy.val m) n)) ((e-n)/2) (Dy.fell (Dy.val m) n||decide (Dy.isq (Dy.sh2 (Dy.val m) n)*Dy.isq (Dy.sh2 (Dy.val m) n)≠Dy.sh2 (Dy.val m) n)) k).num,
   .bool (Dy.madeD false (Dy.isq (Dy.sh2 (Dy.val m) n)) ((e-n)/2) (Dy.fell (Dy.val m) n||decide (Dy.isq (Dy.sh2 (Dy.val m) n)*Dy.isq (Dy.sh2 (Dy.val m) n)≠Dy.sh2 (Dy.val m) n)) k).lost,
   .num .i64 (Dy.madeD false (Dy.isq (Dy.sh2 (Dy.val m) n)) ((e-n)/2) (Dy.fell (Dy.val m) n||decide (Dy.isq (Dy.sh2 (Dy.val m) n)*Dy.isq (Dy.sh2 (Dy.val m) n)≠Dy.sh2 (Dy.val m) n)) k).err])):
  ∀l1,l1=(Dy.shiftN m n).mag→∀b2,b2=(Dy.shiftN m n).lost→∀n3,n3=(Dy.shiftN m n).err→∀l4,l4=(Dy.rootR l1).mag→∀b5,b5=(Dy.rootR l1).exact→∀n6,n6=(Dy.rootR l1).err→
   bif b2 then (Dy.may l4=true∧ -1099511627776≤IntKind.i64.wrap ((IntKind.i64.wrap (e-n)).tdiv 2)∧IntKind.i64.wrap ((IntKind.i64.wrap (e-n)).tdiv 2)≤1099511627776∧1≤k∧k≤8192)∧
    ∀b7,b7=(Dy.madeD false (Dy.val l4) (IntKind.i64.wrap ((IntKind.i64.wrap (e-n)).tdiv 2)) true k).num.neg→∀l8,l8=(Dy.madeD false (Dy.val l4) (IntKind.i64.wrap ((IntKind.i64.wrap (e-n)).tdiv 2)) true k).num.mag→
    ∀n9,n9=(Dy.madeD false (Dy.val l4) (IntKind.i64.wrap ((IntKind.i64.wrap (e-n)).tdiv 2)) true k).num.exp→∀b10,b10=(Dy.madeD false (Dy.val l4) (IntKind.i64.wrap ((IntKind.i64.wrap (e-n)).tdiv 2)) true k).lost→
    ∀n11,n11=(Dy.madeD false (Dy.val l4) (IntKind.i64.wrap ((IntKind.i64.wrap (e-n)).tdiv 2)) true k).err→Q (.tup [.agg [.bool b7,.dig [0] l8,.num .i64 n9],.bool b10,.num .i64 n11])
   else (Dy.may l4=true∧ -1099511627776≤IntKind.i64.wrap ((IntKind.i64.wrap (e-n)).tdiv 2)∧IntKind.i64.wrap ((IntKind.i64.wrap (e-n)).tdiv 2)≤1099511627776∧1≤k∧k≤8192)∧
    ∀b7,b7=(Dy.madeD false (Dy.val l4) (IntKind.i64.wrap ((IntKind.i64.wrap (e-n)).tdiv 2)) (!b5) k).num.neg→∀l8,l8=(Dy.madeD false (Dy.val l4) (IntKind.i64.wrap ((IntKind.i64.wrap (e-n)).tdiv 2)) (!b5) k).num.mag→
    ∀n9,n9=(Dy.madeD false (Dy.val l4) (IntKind.i64.wrap ((IntKind.i64.wrap (e-n)).tdiv 2)) (!b5) k).num.exp→∀b10,b10=(Dy.madeD false (Dy.val l4) (IntKind.i64.wrap ((IntKind.i64.wrap (e-n)).tdiv 2)) (!b5) k).lost→
    ∀n11,n11=(Dy.madeD false (Dy.val l4) (IntKind.i64.wrap ((IntKind.i64.wrap (e-n)).tdiv 2)) (!b5) k).err→Q (.tup [.agg [.bool b7,.dig [0] l8,.num .i64 n9],.bool b10,.num .i64 n11]):=by
 have hb:=Dy.may_bl may1
 have we:IntKind.i64.wrap ((IntKind.i64.wrap (e-n)).tdiv 2)=(e-n)/2:=by
  rw [wrap_i64 (n:=e-n) (by omega) (by omega)]
  rw [Dy.tdiv_even hn3,wrap_i64 (by omega) (by omega)]
 have hsh:(Dy.shiftN m n).mag=Dy.dg (Dy.sh2 (Dy.val m) n)∧(Dy.shiftN m n).lost=Dy.fell (Dy.val m) n∧Dy.bl (Dy.sh2 (Dy.val m) n)≤131072:=by
  unfold Dy.sh2 Dy.fell
  by_cases c:n<0
  ·obtain ⟨j,hj⟩:∃j:Nat,n= -(j:Int):=⟨(-n).toNat,by omega⟩
   subst hj
   rw [if_pos c,Int.neg_neg,Int.toNat_natCast]
   refine ⟨Dy.shiftN_neg may1 j,?_,Nat.le_trans (Dy.bl_mono (Nat.div_le_self _ _)) hb⟩
   rw [Dy.shiftN_off may1,decide_eq_decide]
   exact ⟨fun h=>⟨c,h⟩,fun h=>h.2⟩
  ·obtain ⟨j,hj⟩:∃j:Nat,n=(j:Int):=⟨n.toNat,by omega⟩
   subst hj
   rw [if_neg c,Int.toNat_natCast]
   refine ⟨Dy.shiftN_up may1 j (by omega),?_,Nat.le_trans (Dy.bl_mul_le (Nat.le_refl _)) (by omega)⟩
   rw [Dy.shiftN_offu may1 j (by omega),decide_eq_false (fun h=>c h.1)]
 obtain ⟨h1,h2,h3⟩:=hsh
 rw [we,h1,h2]
 generalize Dy.sh2 (Dy.val m) n=X at*
 generalize Dy.fell (Dy.val m) n=f at*
 rintro _ rfl _ rfl _ -
 have hr:Dy.rootR (Dy.dg X)=⟨Dy.dg (Dy.isq X),decide (Dy.isq X*Dy.isq X=X),0⟩:=by
  unfold Dy.rootR
  rw [if_pos (Dy.may_dgn.2 (Dy.len_bl.2 h3)),Dy.val_dg]
 rw [hr]
 rintro _ rfl _ rfl _ -
 have hq:Dy.may (Dy.dg (Dy.isq X))=true:=Dy.may_dgn.2 (Dy.len_bl.2 (Nat.le_trans (Dy.bl_mono (Dy.isq_le X)) h3))
 rw [Dy.val_dg]
 have hdn:(!decide (Dy.isq X*Dy.isq X=X))=decide (Dy.isq X*Dy.isq X≠X):=by simp
 simp only
 rw [hdn]
 refine cond_i (fun c=> ?_) (fun c=> ?_)
 ·refine ⟨⟨hq,by omega,by omega,hk1,hk⟩,?_⟩
  rw [c] at hQ
  rintro _ rfl _ rfl _ rfl _ rfl _ rfl
  exact hQ
 ·refine ⟨⟨hq,by omega,by omega,hk1,hk⟩,?_⟩
  rw [c] at hQ
  rintro _ rfl _ rfl _ rfl _ rfl _ rfl
  exact hQ
theorem ok_dyad_Root (args:List AV) (s:Spec) (h:dRoot args=some s) (hp:andO s.pre True):Contract Tryz.prog Inv 76 args s.res:=by
 unfold dRoot at h
 split at h
 ·cases h
  rename_i s m e k
  refine contract0 false ok_tabF0 Tryz.func76 (by kernel_rfl) (by kernel_rfl) fun hok=> ?_
  rw [vc_dyad_Root]
  unfold Dy.rootD
  simp only
  refine cond_i (fun h=> ?_) (fun h=> ?_)
  ·simp only [Bool.not_eq_true'] at h
   rw [h];rfl
  simp only [Bool.not_eq_false'] at h
  rw [h]
  simp only [Bool.true_and]
  refine cond_i (fun h2=> ?_) (fun h2=> ?_)
  ·simp only [Bool.not_eq_true',decide_eq_false_iff_not] at h2
   unfold Dy.askD at h2 ⊢
   by_cases c1:k<1
   ·rw [if_pos c1,if_neg (by rw [decide_eq_true_eq];omega)];rfl
   rw [if_neg c1] at h2 ⊢
   rw [if_pos (decide_eq_true (by omega))]
   by_cases c:8192<k
   ·rw [if_pos c,if_neg (by omega)];rfl
   ·rw [if_neg c] at h2;exact absurd rfl h2
  simp only [Bool.not_eq_false',decide_eq_true_eq] at h2
  obtain ⟨hk1,hk⟩:1≤k∧k≤8192:=by
   unfold Dy.askD at h2
   by_cases c1:k<1
   ·rw [if_pos c1] at h2;exact absurd h2 (by decide)
   rw [if_neg c1] at h2
   by_cases c:8192<k
   ·rw [if_pos c] at h2;exact absurd h2 (by decide)
   ·omega
  rw [if_pos (decide_eq_true hk1),if_pos hk]
  refine cond_i (fun h3=> ?_) (fun h3=> ?_)
  ·have h3:=List.length_eq_zero_iff.1 (Int.ofNat_eq_zero.1 (of_decide_eq_true h3))
   rw [if_pos h3];rfl
  have h3:=of_decide_eq_false h3
  have m0:m≠[]:=fun e=>h3 (by rw [e];rfl)
  rw [if_neg m0]
  cases s with
  |true=>exact rfl
  |false=>
   have may1:=Dy.mayD_may h
   have x1:=Dy.mayD_exp h
   have b1:=Dy.may_bl may1
   refine cond_f rfl ?_
   rw [if_neg (by decide),Dy.lenN_may may1,and_one]
   unfold Dy.rootS Dy.evenS
   rw [wrap_i64 (n:=2*k) (by omega) (by omega),wrap_i64 (n:=2*k+2) (by omega) (by omega),wrap_i64 (n:=2*k+2-_) (by omega) (by omega),wrap_i64 (n:=2*k+2-_+1) (by omega) (by omega),wrap_i64 (n:=e-(2*k+2-(Dy.bl (Dy.val m):Int))) (by omega) (by omega)]
   refine cond_i (fun h4=> ?_) (fun h4=> ?_)
   ·simp only [Bool.not_eq_true',decide_eq_false_iff_not] at h4
    rw [if_neg h4]
    exact root_tail (Q:=fun r=>r=_) may1 x1 hk1 hk (by omega) (by omega) (by omega) rfl
   ·simp only [Bool.not_eq_false',decide_eq_true_eq] at h4
    rw [if_pos h4]
    have:=root_tail (Q:=fun r=>r=(.tup [avD [0] (Dy.madeD false (Dy.isq (Dy.sh2 (Dy.val m) (2*k+2-(Dy.bl (Dy.val m):Int)))) ((e-(2*k+2-(Dy.bl (Dy.val m):Int)))/2) (Dy.fell (Dy.val m) (2*k+2-(Dy.bl (Dy.val m):Int))||decide (Dy.isq (Dy.sh2 (Dy.val m) (2*k+2-(Dy.bl (Dy.val m):Int)))*Dy.isq (Dy.sh2 (Dy.val m) (2*k+2-(Dy.bl (Dy.val m):Int)))≠Dy.sh2 (Dy.val m) (2*k+2-(Dy.bl (Dy.val m):Int)))) k).num,
     .bool (Dy.madeD false (Dy.isq (Dy.sh2 (Dy.val m) (2*k+2-(Dy.bl (Dy.val m):Int)))) ((e-(2*k+2-(Dy.bl (Dy.val m):Int)))/2) (Dy.fell (Dy.val m) (2*k+2-(Dy.bl (Dy.val m):Int))||decide (Dy.isq (Dy.sh2 (Dy.val m) (2*k+2-(Dy.bl (Dy.val m):Int)))*Dy.isq (Dy.sh2 (Dy.val m) (2*k+2-(Dy.bl (Dy.val m):Int)))≠Dy.sh2 (Dy.val m) (2*k+2-(Dy.bl (Dy.val m):Int)))) k).lost,
     .num .i64 (Dy.madeD false (Dy.isq (Dy.sh2 (Dy.val m) (2*k+2-(Dy.bl (Dy.val m):Int)))) ((e-(2*k+2-(Dy.bl (Dy.val m):Int)))/2) (Dy.fell (Dy.val m) (2*k+2-(Dy.bl (Dy.val m):Int))||decide (Dy.isq (Dy.sh2 (Dy.val m) (2*k+2-(Dy.bl (Dy.val m):Int)))*Dy.isq (Dy.sh2 (Dy.val m) (2*k+2-(Dy.bl (Dy.val m):Int)))≠Dy.sh2 (Dy.val m) (2*k+2-(Dy.bl (Dy.val m):Int)))) k).err]))
     may1 x1 hk1 hk (n:=2*k+2-(Dy.bl (Dy.val m):Int)) (by omega) (by omega) h4 rfl
    rw [wrap_i64 (n:=e-(2*k+2-(Dy.bl (Dy.val m):Int))) (by omega) (by omega)] at this
    exact this
 ·cases h
theorem form_tail {q:Nat} {neg x:Bool} {u k:Int} (hq:Dy.bl q≤131072) (hu: -100000000≤u∧u≤100000000) (hk:1≤k) {Q:AV→Prop} (hQ:Q (.tup [avD [0] (Dy.cutR (Dy.form neg q u) k).1,.bool ((Dy.cutR (Dy.form neg q u) k).2||x)])):
  (Dy.dg (Dy.val (Dy.dg q))=Dy.dg q∧(Dy.dg q).length≤1048576∧ -1099511627776≤u∧u≤1099511627776)∧
  ∀b3,b3=(Dy.form neg (Dy.val (Dy.dg q)) u).neg→∀l4,l4=(Dy.form neg (Dy.val (Dy.dg q)) u).mag→∀n5,n5=(Dy.form neg (Dy.val (Dy.dg q)) u).exp→
   (Dy.dg (Dy.val l4)=l4∧l4.length≤4096∧Dy.tz (Dy.val l4)=0∧ -1099511627776≤n5∧n5+131072≤1099511627776∧1≤k)∧
   ∀b6,b6=(Dy.cutR (Dy.Dyd.mk b3 l4 n5) k).1.neg→∀l7,l7=(Dy.cutR (Dy.Dyd.mk b3 l4 n5) k).1.mag→∀n8,n8=(Dy.cutR (Dy.Dyd.mk b3 l4 n5) k).1.exp→∀b9,b9=(Dy.cutR (Dy.Dyd.mk b3 l4 n5) k).snd→
    bif b9 then Q (.tup [.agg [.bool b6,.dig [0] l7,.num .i64 n8],.bool true]) else Q (.tup [.agg [.bool b6,.dig [0] l7,.num .i64 n8],.bool x]):=by
 refine ⟨⟨by rw [Dy.val_dg],Dy.dg_len (by omega),by omega,by omega⟩,?_⟩
 rw [Dy.val_dg]
 obtain ⟨f1,f2,f3,f4,f5⟩:=Dy.form_dg (s:=neg) (n:=q) (e:=u)
 rintro _ rfl _ rfl _ rfl
 have hl:(Dy.form neg q u).mag.length≤4096:=by
  rw [←f1]
  exact Dy.len_bl.2 (by omega)
 refine ⟨⟨f1,hl,f2,by omega,by omega,hk⟩,?_⟩
 rintro _ rfl _ rfl _ rfl _ rfl
 refine cond_i (fun c=> ?_) (fun c=> ?_)
 ·have c:(Dy.cutR (Dy.form neg q u) k).2=true:=c
  rw [c] at hQ
  exact hQ
 ·have c:(Dy.cutR (Dy.form neg q u) k).2=false:=c
  rw [c] at hQ
  exact hQ
theorem rquo_tail {N:Nat} {m':List Nat} {neg:Bool} {u k:Int} (hm:Dy.may m'=true) (h0:m'≠[]) (hN:Dy.bl N≤131072) (hu: -100000000≤u∧u≤100000000) (hk:1≤k)
  {Q:AV→Prop} (hQ:Q (.tup [avD [0] (Dy.cutR (Dy.form neg (N/Dy.val m') u) k).1,.bool ((Dy.cutR (Dy.form neg (N/Dy.val m') u) k).2||decide (N%Dy.val m'≠0))])):
  (Dy.dg (Dy.val (Dy.dg N))=Dy.dg N∧Dy.dg (Dy.val m')=m'∧m'≠[]∧(Dy.dg N).length≤100000∧m'.length≤100000)∧
  ∀l1,l1=Dy.dg (Dy.val (Dy.dg N)/Dy.val m')→∀l2,l2=Dy.dg (Dy.val (Dy.dg N)%Dy.val m')→
  (Dy.dg (Dy.val l1)=l1∧l1.length≤1048576∧ -1099511627776≤u∧u≤1099511627776)∧
  ∀b3,b3=(Dy.form neg (Dy.val l1) u).neg→∀l4,l4=(Dy.form neg (Dy.val l1) u).mag→∀n5,n5=(Dy.form neg (Dy.val l1) u).exp→
   (Dy.dg (Dy.val l4)=l4∧l4.length≤4096∧Dy.tz (Dy.val l4)=0∧ -1099511627776≤n5∧n5+131072≤1099511627776∧1≤k)∧
   ∀b6,b6=(Dy.cutR (Dy.Dyd.mk b3 l4 n5) k).1.neg→∀l7,l7=(Dy.cutR (Dy.Dyd.mk b3 l4 n5) k).1.mag→∀n8,n8=(Dy.cutR (Dy.Dyd.mk b3 l4 n5) k).1.exp→∀b9,b9=(Dy.cutR (Dy.Dyd.mk b3 l4 n5) k).snd→
    bif b9 then Q (.tup [.agg [.bool b6,.dig [0] l7,.num .i64 n8],.bool true]) else Q (.tup [.agg [.bool b6,.dig [0] l7,.num .i64 n8],.bool (decide ((l2.length:Int)>0))]):=by
 refine ⟨⟨by rw [Dy.val_dg],Dy.may_dg hm,h0,?_,by have:=Dy.may_len hm;omega⟩,?_⟩
 ·have:=Dy.len_bl.2 hN;omega
 rw [Dy.val_dg]
 rintro _ rfl _ rfl
 rw [Dy.dg_len_dec]
 exact form_tail (Nat.le_trans (Dy.bl_mono (Nat.div_le_self _ _)) hN) hu hk hQ
theorem rroot_tail {N:Nat} {u k:Int} (hN:Dy.bl N≤160000) (hu: -100000000≤u∧u≤100000000) (hk:1≤k)
  {Q:AV→Prop} (hQ:Q (.tup [avD [0] (Dy.cutR (Dy.form false (Dy.isq N) u) k).1,.bool ((Dy.cutR (Dy.form false (Dy.isq N) u) k).2||decide (Dy.isq N*Dy.isq N≠N))])):
  (Dy.dg (Dy.val (Dy.dg N))=Dy.dg N∧(Dy.dg N).length≤100000)∧
  ∀l1,l1=Dy.dg (Dy.isq (Dy.val (Dy.dg N)))→∀b2,b2=decide (Dy.isq (Dy.val (Dy.dg N))*Dy.isq (Dy.val (Dy.dg N))=Dy.val (Dy.dg N))→
  (Dy.dg (Dy.val l1)=l1∧l1.length≤1048576∧ -1099511627776≤u∧u≤1099511627776)∧
  ∀b3,b3=(Dy.form false (Dy.val l1) u).neg→∀l4,l4=(Dy.form false (Dy.val l1) u).mag→∀n5,n5=(Dy.form false (Dy.val l1) u).exp→
   (Dy.dg (Dy.val l4)=l4∧l4.length≤4096∧Dy.tz (Dy.val l4)=0∧ -1099511627776≤n5∧n5+131072≤1099511627776∧1≤k)∧
   ∀b6,b6=(Dy.cutR (Dy.Dyd.mk b3 l4 n5) k).1.neg→∀l7,l7=(Dy.cutR (Dy.Dyd.mk b3 l4 n5) k).1.mag→∀n8,n8=(Dy.cutR (Dy.Dyd.mk b3 l4 n5) k).1.exp→∀b9,b9=(Dy.cutR (Dy.Dyd.mk b3 l4 n5) k).snd→
    bif b9 then Q (.tup [.agg [.bool b6,.dig [0] l7,.num .i64 n8],.bool true]) else Q (.tup [.agg [.bool b6,.dig [0] l7,.num .i64 n8],.bool !b2]):=by
 refine ⟨⟨by rw [Dy.val_dg],?_⟩,?_⟩
 ·exact Nat.le_trans (Dy.length_dg_bl (k:=5000).2 (by omega)) (by omega)
 rw [Dy.val_dg]
 rintro _ rfl _ rfl
 have hdn:(!decide (Dy.isq N*Dy.isq N=N))=decide (Dy.isq N*Dy.isq N≠N):=by simp
 rw [hdn]
 exact form_tail (Dy.isq_bl (by omega)) hu hk hQ
theorem ok_ref2_Quo (args:List AV) (s:Spec) (h:rQuoD args=some s) (hp:andO s.pre True):Contract Tryz.prog Inv 197 args s.res:=by
 unfold rQuoD at h
 split at h
 ·cases h
  rename_i s m e s' m' e' k
  obtain ⟨⟨hd,hd',m0',hk1,hk,hl,hl'⟩, -⟩:=hp
  refine contract0 false ok_tabF0 Tryz.func197 (by kernel_rfl) (by kernel_rfl) fun hok=> ?_
  rw [vc_ref2_Quo]
  unfold Dy.quoF
  simp only
  have may1:=Dy.mayD_may hd
  have may2:=Dy.mayD_may hd'
  have x1:=Dy.mayD_exp hd
  have x2:=Dy.mayD_exp hd'
  have b1:Dy.bl (Dy.val m)≤32000:=(Dy.length_dg_bl (n:=Dy.val m) (k:=1000)).1 (by rw [Dy.may_dg may1];exact hl)
  have b2:Dy.bl (Dy.val m')≤32000:=(Dy.length_dg_bl (n:=Dy.val m') (k:=1000)).1 (by rw [Dy.may_dg may2];exact hl')
  refine cond_i (fun h3=> ?_) (fun h3=> ?_)
  ·have h3:=List.length_eq_zero_iff.1 (Int.ofNat_eq_zero.1 (of_decide_eq_true h3))
   rw [if_pos h3];rfl
  have h3:=of_decide_eq_false h3
  have m0:m≠[]:=fun e=>h3 (by rw [e];rfl)
  rw [if_neg m0]
  have hqs:Dy.quoS (Dy.val m) (Dy.val m') k=(k+1+(Dy.bl (Dy.val m'):Int)-(Dy.bl (Dy.val m):Int)).toNat:=rfl
  generalize Dy.quoS (Dy.val m) (Dy.val m') k=n at hqs ⊢
  have w1:IntKind.i64.wrap (IntKind.i64.wrap (IntKind.i64.wrap (k+1)+(Dy.bl (Dy.val m'):Int))-(Dy.bl (Dy.val m):Int))=k+1+(Dy.bl (Dy.val m'):Int)-(Dy.bl (Dy.val m):Int):=by
   rw [wrap_i64 (n:=k+1) (by omega) (by omega),wrap_i64 (n:=k+1+_) (by omega) (by omega),wrap_i64 (by omega) (by omega)]
  have hX:Dy.bl (Dy.val m*2^n)≤131072:=Nat.le_trans (Dy.bl_mul_le b1) (by omega)
  rw [w1,wrap_i64 (n:=e-e') (by omega) (by omega)]
  refine ⟨⟨Dy.may_dg may2,by omega⟩,⟨Dy.may_dg may1,by omega⟩,cond_i (fun h4=> ?_) (fun h4=> ?_)⟩
  ·have h4:=of_decide_eq_true h4
   have hn:n=0:=by omega
   subst hn
   refine ⟨⟨by omega,by omega,by omega⟩,?_⟩
   rw [wrap_i64 (n:=e-e'-0) (by omega) (by omega)]
   exact rquo_tail (Q:=fun r=>r=_) (u:=e-e'-0) may2 m0' hX (by omega) hk1 rfl
  ·have h4:=of_decide_eq_false h4
   have hn:k+1+(Dy.bl (Dy.val m'):Int)-(Dy.bl (Dy.val m):Int)=(n:Int):=by omega
   rw [hn,Int.toNat_natCast,wrap_i64 (n:=e-e'-_) (by omega) (by omega)]
   refine ⟨⟨by omega,by omega,by omega⟩,?_⟩
   exact rquo_tail (Q:=fun r=>r=_) (u:=e-e'-n) may2 m0' hX (by omega) hk1 rfl
 ·cases h
theorem ok_ref2_Root (args:List AV) (s:Spec) (h:rRootD args=some s) (hp:andO s.pre True):Contract Tryz.prog Inv 42 args s.res:=by
 unfold rRootD at h
 split at h
 ·cases h
  rename_i s m e k
  obtain ⟨⟨hd,hk1,hk⟩, -⟩:=hp
  refine contract0 false ok_tabF0 Tryz.func42 (by kernel_rfl) (by kernel_rfl) fun hok=> ?_
  rw [vc_ref2_Root]
  unfold Dy.rootF
  simp only
  have may1:=Dy.mayD_may hd
  have x1:=Dy.mayD_exp hd
  have b1:=Dy.may_bl may1
  have n1:=Dy.may_len may1
  rw [wrap_i64 (n:=2*k) (by omega) (by omega),wrap_i64 (n:=2*k+2) (by omega) (by omega),wrap_i64 (n:=2*k+2-_) (by omega) (by omega)]
  have even:∀x:Int,decide (x.tmod 2=0)=decide (x%2=0):=fun x=>by rw [decide_eq_decide];exact Dy.tmod_two x
  have half:∀n:Nat,n≤200000→(e-(n:Int))%2=0→IntKind.i64.wrap ((IntKind.i64.wrap (e-(n:Int))).tdiv 2)=(e-(n:Int))/2:=fun n hn h=>by
   rw [wrap_i64 (n:=e-(n:Int)) (by omega) (by omega),Dy.tdiv_even h,wrap_i64 (by omega) (by omega)]
  have hN:∀n:Nat,(n:Int)≤max 1 (2*k+3-(Dy.bl (Dy.val m):Int))→Dy.bl (Dy.val m*2^n)≤160000:=fun n hn=>Nat.le_trans (Dy.bl_mul_le (Nat.le_refl _)) (by omega)
  unfold Dy.rootZ Dy.evenS
  refine ⟨⟨Dy.may_dg may1,by omega⟩,cond_i (fun h4=> ?_) (fun h4=> ?_)⟩
  ·have h4:=of_decide_eq_true h4
   rw [if_pos h4,even,wrap_i64 (n:=e-0) (by omega) (by omega),wrap_i64 (n:=(0:Int)+1) (by omega) (by omega)]
   refine cond_i (fun h5=> ?_) (fun h5=> ?_)
   ·simp only [Bool.not_eq_true',decide_eq_false_iff_not] at h5
    rw [if_neg h5]
    refine ⟨⟨by omega,by omega,by omega⟩,?_⟩
    have:=half 1 (by omega) (by omega)
    rw [show ((1:Nat):Int)=0+1 from rfl] at this
    rw [this]
    exact rroot_tail (Q:=fun r=>r=_) (u:=(e-(0+1))/2) (hN 1 (by omega)) (by omega) hk1 rfl
   ·simp only [Bool.not_eq_false',decide_eq_true_eq] at h5
    rw [if_pos h5]
    refine ⟨⟨by omega,by omega,by omega⟩,?_⟩
    have:=half 0 (by omega) h5
    rw [show ((0:Nat):Int)=0 from rfl,wrap_i64 (n:=e-0) (by omega) (by omega)] at this
    rw [this]
    exact rroot_tail (Q:=fun r=>r=_) (u:=(e-0)/2) (hN 0 (by omega)) (by omega) hk1 rfl
  ·have h4:=of_decide_eq_false h4
   obtain ⟨n,hn⟩:∃n:Nat,2*k+2-(Dy.bl (Dy.val m):Int)=(n:Int):=⟨(2*k+2-(Dy.bl (Dy.val m):Int)).toNat,by omega⟩
   rw [if_neg h4,hn,even,wrap_i64 (n:=e-n) (by omega) (by omega),wrap_i64 (n:=(n:Int)+1) (by omega) (by omega)]
   refine cond_i (fun h5=> ?_) (fun h5=> ?_)
   ·simp only [Bool.not_eq_true',decide_eq_false_iff_not] at h5
    rw [if_neg h5]
    refine ⟨⟨by omega,by omega,by omega⟩,?_⟩
    have:=half (n+1) (by omega) (by omega)
    rw [show ((n+1:Nat):Int)=(n:Int)+1 from rfl] at this
    rw [this]
    exact rroot_tail (Q:=fun r=>r=_) (u:=(e-((n:Int)+1))/2) (hN (n+1) (by omega)) (by omega) hk1 rfl
   ·simp only [Bool.not_eq_false',decide_eq_true_eq] at h5
    rw [if_pos h5]
    refine ⟨⟨by omega,by omega,by omega⟩,?_⟩
    have:=half n (by omega) h5
    rw [wrap_i64 (n:=e-n) (by omega) (by omega)] at this
    rw [this]
    exact rroot_tail (Q:=fun r=>r=_) (u:=(e-n)/2) (hN n (by omega)) (by omega) hk1 rfl
 ·cases h
theorem ok_tabF:PhiOk Tryz.prog Inv (look tabF):=look_cons (look_cons (look_cons (look_cons ok_tabF0 ok_ref2_Root) ok_ref2_Quo) ok_dyad_Root) ok_dyad_Quo
end Go.AI

namespace Go.Dy
theorem form_cut {s:Bool} {q:Nat} {e:Int} {t:Nat} (h:q%2^t=0):form s (q/2^t) (e+t)=form s q e:=by
 rw [←form_mul,Nat.div_mul_cancel (Nat.dvd_of_mod_eq_zero h)]
theorem cutR_form (s:Bool) (q:Nat) (e k:Int) (hk:1≤k):
  cutR (form s q e) k=(form s (q/2^((bl q:Int)-k).toNat) (e+(((bl q:Int)-k).toNat:Int)),decide (q%2^((bl q:Int)-k).toNat≠0)):=by
 generalize ht:((bl q:Int)-k).toNat=t
 by_cases h0:q=0
 ·subst h0
  rw [Nat.zero_div,Nat.zero_mod,form_zero,form_zero]
  unfold cutR overD
  rw [if_pos (by show (0:Int)-k≤0;omega)]
  rfl
 ·have hz:=tz_lt_bl h0
  have hb:bl (q/2^tz q)=bl q-tz q:=bl_div_two_pow q (tz q)
  have hd:=dvd_iff_le_tz h0 t
  have ho:overD (form s q e) k=(bl q:Int)-tz q-k:=by
   rw [form_pos h0]
   unfold overD
   simp only [val_dg]
   rw [hb]
   omega
  unfold cutR
  by_cases c:t≤tz q
  ·rw [if_pos (by omega),form_cut (hd.2 c),decide_eq_false (by simpa using hd.2 c)]
  ·rw [if_neg (by omega),decide_eq_true (show q%2^t≠0 from fun h=>c (hd.1 h))]
   congr 1
   unfold headD
   rw [ho,form_pos h0]
   simp only [val_dg]
   have:((bl q:Int)-tz q-k).toNat=t-tz q:=by omega
   rw [this,Nat.div_div_eq_div_mul,←Nat.pow_add,show tz q+(t-tz q)=t by omega,show e+(tz q:Int)+((bl q:Int)-tz q-k)=e+(t:Int) by omega]
theorem madeD_eq (s:Bool) (q:Nat) (e:Int) (more:Bool) (k:Int) (hk1:1≤k) (hk:k≤8192):
  madeD s q e more k=if inside (cutR (form s q e) k).1.exp then ⟨(cutR (form s q e) k).1,(cutR (form s q e) k).2||more,0⟩ else ⟨zeroD,false,20⟩:=by
 rw [cutR_form s q e k hk1]
 unfold madeD
 generalize ht:((bl q:Int)-k).toNat=t
 have hb:bl (q/2^t)≤131072:=by rw [bl_div_two_pow];omega
 obtain ⟨f1,f2,f3,f4,f5⟩:=form_dg (s:=s) (n:=q/2^t) (e:=e+t)
 have hl:(form s (q/2^t) (e+t)).mag.length≤4096:=by
  rw [←f1]
  exact len_bl.2 (by omega)
 have hB:boundD (form s (q/2^t) (e+t))=if inside (form s (q/2^t) (e+t)).exp then (form s (q/2^t) (e+t),0) else (zeroD,20):=by
  unfold boundD
  rw [if_pos hl]
 rw [hB]
 simp only
 cases inside (form s (q/2^t) (e+t)).exp with
 |true=>simp
 |false=>simp
theorem isq_div (X j:Nat):isq (X/2^(2*j))=isq X/2^j:=by
 have hp:=Nat.two_pow_pos j
 have e2:2^(2*j)=2^j*2^j:=by rw [←Nat.pow_add,show 2*j=j+j by omega]
 rw [e2]
 obtain ⟨h1,h2⟩:=isq_spec X
 generalize hP:2^j=P at*
 have hPP:0<P*P:=Nat.mul_pos hp hp
 have hd:=Nat.div_add_mod (isq X) P
 have hm:=Nat.mod_lt (isq X) hp
 generalize isq X=r at*
 generalize hw:r/P=w at*
 refine isq_uniq ?_ ?_
 ·rw [Nat.le_div_iff_mul_le hPP]
  have:P*w≤r:=by omega
  have h3:=Nat.mul_le_mul this this
  rw [Nat.mul_mul_mul_comm] at h3
  rw [Nat.mul_comm (w*w)]
  omega
 ·rw [Nat.div_lt_iff_lt_mul hPP]
  have:r+1≤P*(w+1):=by rw [Nat.mul_add];omega
  have h3:=Nat.mul_le_mul this this
  rw [Nat.mul_mul_mul_comm P] at h3
  rw [Nat.mul_comm ((w+1)*(w+1))]
  omega
theorem root_lost (X j t:Nat):(decide (isq X/2^j%2^t≠0)||(decide (X%2^(2*j)≠0)||decide (isq X/2^j*(isq X/2^j)≠X/2^(2*j))))=(decide (isq X%2^(j+t)≠0)||decide (isq X*isq X≠X)):=by
 have e2:2^(2*j)=2^j*2^j:=by rw [←Nat.pow_add,show 2*j=j+j by omega]
 have hi:=isq_div X j
 rw [Bool.eq_iff_iff]
 simp only [Bool.or_eq_true,decide_eq_true_eq]
 have key:(isq X%2^(j+t)=0∧isq X*isq X=X) ↔ (isq X/2^j%2^t=0∧X%2^(2*j)=0∧isq X/2^j*(isq X/2^j)=X/2^(2*j)):=by
  have hp:=Nat.two_pow_pos j
  rw [e2] at hi ⊢
  rw [Nat.pow_add]
  generalize 2^j=P at*
  generalize 2^t=T at*
  constructor
  ·rintro ⟨h1,h2⟩
   obtain ⟨w,hw⟩:=Nat.dvd_of_mod_eq_zero h1
   have e3:isq X/P=T*w:=by rw [hw,Nat.mul_assoc,Nat.mul_div_cancel_left _ hp]
   have e4:X=P*P*(T*w*(T*w)):=by
    rw [Nat.mul_mul_mul_comm P P,←Nat.mul_assoc P T w,←hw]
    exact h2.symm
   refine ⟨by rw [e3,Nat.mul_mod_right],?_,?_⟩
   ·rw [e4,Nat.mul_mod_right]
   ·rw [e3]
    conv=>rhs;rw [e4]
    rw [Nat.mul_div_cancel_left _ (Nat.mul_pos hp hp)]
  ·rintro ⟨h1,h2,h3⟩
   obtain ⟨w,hw⟩:=Nat.dvd_of_mod_eq_zero h1
   obtain ⟨v,hv⟩:=Nat.dvd_of_mod_eq_zero h2
   rw [hv,Nat.mul_div_cancel_left _ (Nat.mul_pos hp hp),←hv,hw] at h3
   have e4:X=(P*T*w)*(P*T*w):=by
    rw [hv,←h3,Nat.mul_assoc P T w,Nat.mul_mul_mul_comm P (T*w)]
   have e5:isq X=P*T*w:=by
    refine isq_uniq (by omega) ?_
    rw [e4]
    exact Nat.mul_lt_mul'' (by omega) (by omega)
   refine ⟨by rw [e5,Nat.mul_mod_right],by rw [e5];exact e4.symm⟩
 constructor
 ·intro h
  refine Decidable.byContradiction fun c=> ?_
  have:=key.1 ⟨Decidable.byContradiction fun d=>c (.inl d),Decidable.byContradiction fun d=>c (.inr d)⟩
  rcases h with h|h|h
  ·exact h this.1
  ·exact h this.2.1
  ·exact h this.2.2
 ·intro h
  refine Decidable.byContradiction fun c=> ?_
  have:=key.2 ⟨Decidable.byContradiction fun d=>c (.inl d),Decidable.byContradiction fun d=>c (.inr (.inl d)),Decidable.byContradiction fun d=>c (.inr (.inr d))⟩
  rcases h with h|h
  ·exact h this.1
  ·exact h this.2
theorem quoD_eq {a b:Dyd} {k:Int} (ha:mayD a=true) (hb:mayD b=true) (h0:b.mag≠[]) (hk1:1≤k) (hk:k≤8192):
  quoD a b k=if inside (quoF a b k).1.exp then ⟨(quoF a b k).1,(quoF a b k).2,0⟩ else ⟨zeroD,false,20⟩:=by
 unfold quoD quoF
 rw [ha,hb,if_pos (by simpa using hk1),if_pos hk,if_neg h0]
 by_cases c:a.mag=[]
 ·rw [if_pos c,if_pos c]
  rfl
 ·rw [if_neg c,if_neg c,madeD_eq _ _ _ _ _ hk1 hk]
theorem evenS_spec (e n:Int):(e-evenS e n)%2=0∧n≤evenS e n∧evenS e n≤n+1:=by
 unfold evenS
 split<;>omega
theorem rootD_eq {d:Dyd} {k:Int} (hd:mayD d=true) (hn:d.neg=false) (h0:d.mag≠[]) (hk1:1≤k) (hk:k≤8192):
  rootD d k=if inside (rootF d k).1.exp then ⟨(rootF d k).1,(rootF d k).2,0⟩ else ⟨zeroD,false,20⟩:=by
 obtain ⟨s,m,e⟩:=d
 have h0:m≠[]:=h0
 have hn:s=false:=hn
 subst hn
 have hm:=val_ne (mayD_may hd) h0
 unfold rootD
 rw [hd,if_pos (by simpa using hk1),if_pos hk,if_neg h0]
 simp only [Bool.false_eq_true,if_false]
 rw [madeD_eq _ _ _ _ _ hk1 hk]
 unfold rootF
 simp only
 have hS:rootS (val m) e k=evenS e (2*k+2-(bl (val m):Int)):=rfl
 obtain ⟨hS1,hS2,hS3⟩:=evenS_spec e (2*k+2-(bl (val m):Int))
 rw [←hS] at hS1 hS2 hS3
 obtain ⟨hZ1,hZ2,hZ3⟩:=evenS_spec e (if 2*k+2-(bl (val m):Int)<0 then 0 else 2*k+2-(bl (val m):Int))
 have hZ:rootZ (val m) e k=(evenS e (if 2*k+2-(bl (val m):Int)<0 then 0 else 2*k+2-(bl (val m):Int))).toNat:=rfl
 generalize hz0:(if 2*k+2-(bl (val m):Int)<0 then (0:Int) else 2*k+2-(bl (val m):Int))=z0 at hZ hZ1 hZ2 hZ3
 have hz1:0≤z0∧2*k+2-(bl (val m):Int)≤z0∧(0≤2*k+2-(bl (val m):Int)→z0=2*k+2-(bl (val m):Int)):=by
  rw [←hz0]
  split<;>omega
 have hpar:¬(2*k+2-(bl (val m):Int)<0)→(evenS e z0)=rootS (val m) e k:=fun c=>by rw [hS,hz1.2.2 (by omega)]
 generalize rootS (val m) e k=n at*
 generalize hzz:evenS e z0=z at*
 rw [hZ]
 generalize hM:val m=M at*
 by_cases c:n<0
 ·-- bits fall off in the one, in the other none
  obtain ⟨j,hj⟩:∃j:Nat,z=n+2*(j:Int):=⟨((z-n)/2).toNat,by
   have hzn:n≤z:=by
    by_cases c2:2*k+2-(bl M:Int)<0
    ·omega
    ·omega
   omega⟩
  obtain ⟨u,hu⟩:∃u:Nat,z=(u:Int):=⟨z.toNat,by omega⟩
  have hX:sh2 M n=M*2^u/2^(2*j):=by
   unfold sh2
   rw [if_pos c,show 2*j=u+(-n).toNat by omega,Nat.pow_add,←Nat.div_div_eq_div_mul,Nat.mul_div_cancel _ (Nat.two_pow_pos _)]
  have hF:fell M n=decide (M*2^u%2^(2*j)≠0):=by
   unfold fell
   rw [decide_eq_decide,show 2*j=u+(-n).toNat by omega,Nat.pow_add,Nat.mul_comm M,Nat.mul_mod_mul_left]
   have:=Nat.two_pow_pos u
   constructor
   ·rintro ⟨-,h⟩ h2
    rcases Nat.mul_eq_zero.1 h2 with h3|h3
    ·omega
    ·exact h h3
   ·intro h
    exact ⟨c,fun h2=>h (by rw [h2,Nat.mul_zero])⟩
  rw [hX,hF,isq_div,hu,Int.toNat_natCast,cutR_form _ _ _ _ hk1,cutR_form _ _ _ _ hk1]
  have hbn:bl (isq (M*2^u)/2^j)=bl (isq (M*2^u))-j:=bl_div_two_pow _ _
  have hlow:k<(bl (isq (M*2^u)/2^j):Int):=by
   rw [←isq_div,←hX]
   have hbs:bl (sh2 M n)=bl M-(-n).toNat:=by
    unfold sh2
    rw [if_pos c]
    exact bl_div_two_pow _ _
   refine Decidable.byContradiction fun h=> ?_
   have h1:bl (isq (sh2 M n))≤k.toNat:=by omega
   have h2:=(isq_spec (sh2 M n)).2
   have h3:=bl_le.1 h1
   have h4:=Nat.mul_le_mul (Nat.succ_le_of_lt h3) (Nat.succ_le_of_lt h3)
   rw [←Nat.pow_add] at h4
   have h5:bl (sh2 M n)≤k.toNat+k.toNat:=bl_le.2 (Nat.lt_of_lt_of_le h2 h4)
   omega
  have e1:(((bl (isq (M*2^u)):Nat):Int)-k).toNat=j+(((bl (isq (M*2^u)/2^j):Nat):Int)-k).toNat:=by omega
  rw [e1]
  generalize (((bl (isq (M*2^u)/2^j):Nat):Int)-k).toNat=t
  have e2:isq (M*2^u)/2^j/2^t=isq (M*2^u)/2^(j+t):=by rw [Nat.div_div_eq_div_mul,←Nat.pow_add]
  have e3:(e-n)/2+(t:Int)=(e-(u:Int))/2+((j+t:Nat):Int):=by omega
  simp only
  rw [root_lost,e2,e3]
 ·have hz:z=n:=by
   by_cases c2:2*k+2-(bl M:Int)<0
   ·omega
   ·exact hpar c2
  obtain ⟨u,hu⟩:∃u:Nat,n=(u:Int):=⟨n.toNat,by omega⟩
  have hX:sh2 M n=M*2^u:=by unfold sh2;rw [if_neg c,hu,Int.toNat_natCast]
  have hF:fell M n=false:=decide_eq_false (fun h=>c h.1)
  rw [hX,hF,hz,hu,Int.toNat_natCast,Bool.false_or]
end Go.Dy

namespace Go.Dy
def unitOf (e:Int):Dyd:=⟨false,[1],e⟩
def subD (a b:Dyd):Dyd:=addD a (negD b)
def stepD (q:Dyd) (lost high neg:Bool) (u:Int):Dyd:=if (lost&&(neg !=high))=true then (if high=true then addD q (unitOf u) else subD q (unitOf u)) else q
def endD (d:Dyd) (n:Int) (high:Bool):Dyd:=stepD (cutR d n).1 (cutR d n).2 high d.neg (topD d-n)
def quoE (a b:Dyd) (n:Int) (high:Bool):Dyd:=stepD (quoF a b n).1 (quoF a b n).2 high (quoF a b n).1.neg (topD (quoF a b n).1-n)
def mid (d:Dyd):Prop:=mayD d=true∧ -1000000≤d.exp∧d.exp≤1000000
def shD (d:Dyd) (k:Int):Dyd:=if d.mag=[] then zeroD else ⟨d.neg,d.mag,d.exp+k⟩
def minD (a b:Dyd):Dyd:=if cmpD b a<0 then b else a
def maxD (a b:Dyd):Dyd:=if cmpD a b<0 then b else a
def min4 (a b c d:Dyd):Dyd:=minD (minD (minD a b) c) d
def max4 (a b c d:Dyd):Dyd:=maxD (maxD (maxD a b) c) d
def signS (lo hi:Dyd):Int:=if signD lo=signD hi then signD lo else 0
structure Arc where
 plus:Nat
 minus:Nat
 terms:Nat
 next:Nat
end Go.Dy
namespace Go.AI
open Go Go.RowKit Go.Proofs
set_option linter.unusedVariables false
def dyF (x:Dy.Dyd) (P:Bool→List Nat→Int→Prop):Prop:=∀b,b=x.neg→∀l,l=x.mag→∀n,n=x.exp→P b l n
def avS (p:List Nat) (a b:Dy.Dyd):AV:= .agg [.bool a.neg,.dig p a.mag,.num .i64 a.exp,.bool b.neg,.dig p b.mag,.num .i64 b.exp]
def sPowerS:List AV→Option Spec
 |[.num .i64 n]=>some ⟨none,avD [0] (Dy.unitOf n)⟩
 |_=>none
def sOfS:List AV→Option Spec
 |[.agg [.bool s,.dig [1] m,.num .i64 e]]=>some ⟨none,avS [0,1] ⟨s,m,e⟩ ⟨s,m,e⟩⟩
 |_=>none
def sAddS:List AV→Option Spec
 |[.agg [.bool s,.dig [1] m,.num .i64 e],.agg [.bool s',.dig [2] m',.num .i64 e']]=>
  some ⟨some (Dy.mayD ⟨s,m,e⟩=true∧Dy.mayD ⟨s',m',e'⟩=true∧Dy.mayD (Dy.addD ⟨s,m,e⟩ ⟨s',m',e'⟩)=true),avD [0] (Dy.addD ⟨s,m,e⟩ ⟨s',m',e'⟩)⟩
 |_=>none
def sSubS:List AV→Option Spec
 |[.agg [.bool s,.dig [1] m,.num .i64 e],.agg [.bool s',.dig [2] m',.num .i64 e']]=>
  some ⟨some (Dy.mayD ⟨s,m,e⟩=true∧Dy.mayD ⟨s',m',e'⟩=true∧Dy.mayD (Dy.subD ⟨s,m,e⟩ ⟨s',m',e'⟩)=true),avD [0] (Dy.subD ⟨s,m,e⟩ ⟨s',m',e'⟩)⟩
 |_=>none
def sMulS:List AV→Option Spec
 |[.agg [.bool s,.dig [1] m,.num .i64 e],.agg [.bool s',.dig [2] m',.num .i64 e']]=>
  some ⟨some (Dy.mayD ⟨s,m,e⟩=true∧Dy.mayD ⟨s',m',e'⟩=true∧Dy.mayD (Dy.mulD ⟨s,m,e⟩ ⟨s',m',e'⟩)=true),avD [0] (Dy.mulD ⟨s,m,e⟩ ⟨s',m',e'⟩)⟩
 |_=>none
def sLessS:List AV→Option Spec
 |[.agg [.bool s,.dig [1] m,.num .i64 e],.agg [.bool s',.dig [2] m',.num .i64 e']]=>
  some ⟨some (Dy.mayD ⟨s,m,e⟩=true∧Dy.mayD ⟨s',m',e'⟩=true),.bool (decide (Dy.cmpD ⟨s,m,e⟩ ⟨s',m',e'⟩<0))⟩
 |_=>none
def sEndS:List AV→Option Spec
 |[.num .i64 n,.agg [.bool s,.dig [2] m,.num .i64 e],.bool high]=>
  some ⟨some (Dy.mid ⟨s,m,e⟩∧1≤n∧n≤8192),avD [0] (Dy.endD ⟨s,m,e⟩ n high)⟩
 |_=>none
def sQuoS:List AV→Option Spec
 |[.num .i64 n,.agg [.bool s,.dig [2] m,.num .i64 e],.agg [.bool s',.dig [3] m',.num .i64 e'],.bool high]=>
  some ⟨some (Dy.mid ⟨s,m,e⟩∧Dy.mid ⟨s',m',e'⟩∧m'≠[]∧m.length≤1000∧m'.length≤1000∧1≤n∧n≤8192∧s'=false),avD [0] (Dy.quoE ⟨s,m,e⟩ ⟨s',m',e'⟩ n high)⟩
 |_=>none
def sOutS:List AV→Option Spec
 |[.num .i64 n,.agg [.bool s,.dig [2] m,.num .i64 e],.agg [.bool s',.dig [3] m',.num .i64 e']]=>
  some ⟨some (Dy.mid ⟨s,m,e⟩∧Dy.mid ⟨s',m',e'⟩∧1≤n∧n≤8192),avS [0] (Dy.endD ⟨s,m,e⟩ n false) (Dy.endD ⟨s',m',e'⟩ n true)⟩
 |_=>none
def sNegS:List AV→Option Spec
 |[.agg [.bool s,.dig [1] m,.num .i64 e,.bool s',.dig [1] m',.num .i64 e']]=>
  some ⟨some (Dy.mayD ⟨s,m,e⟩=true∧Dy.mayD ⟨s',m',e'⟩=true),avS [0] (Dy.negD ⟨s',m',e'⟩) (Dy.negD ⟨s,m,e⟩)⟩
 |_=>none
def sScaleS:List AV→Option Spec
 |[.agg [.bool s,.dig [1] m,.num .i64 e,.bool s',.dig [1] m',.num .i64 e'],.num .i64 k]=>
  some ⟨some (Dy.mid ⟨s,m,e⟩∧Dy.mid ⟨s',m',e'⟩∧ -1000000≤k∧k≤1000000),avS [0] (Dy.shD ⟨s,m,e⟩ k) (Dy.shD ⟨s',m',e'⟩ k)⟩
 |_=>none
def sMulSp:List AV→Option Spec
 |[.num .i64 n,.agg [.bool s,.dig [2] m,.num .i64 e,.bool s',.dig [2] m',.num .i64 e'],.agg [.bool t,.dig [3] l,.num .i64 f,.bool t',.dig [3] l',.num .i64 f']]=>
  some ⟨some (Dy.mayD ⟨s,m,e⟩=true∧Dy.mayD ⟨s',m',e'⟩=true∧Dy.mayD ⟨t,l,f⟩=true∧Dy.mayD ⟨t',l',f'⟩=true∧
    Dy.mid (Dy.mulD ⟨s,m,e⟩ ⟨t,l,f⟩)∧Dy.mid (Dy.mulD ⟨s,m,e⟩ ⟨t',l',f'⟩)∧Dy.mid (Dy.mulD ⟨s',m',e'⟩ ⟨t,l,f⟩)∧Dy.mid (Dy.mulD ⟨s',m',e'⟩ ⟨t',l',f'⟩)∧1≤n∧n≤8192),
   avS [0] (Dy.endD (bif !s&& !t then Dy.mulD ⟨s,m,e⟩ ⟨t,l,f⟩ else Dy.min4 (Dy.mulD ⟨s,m,e⟩ ⟨t,l,f⟩) (Dy.mulD ⟨s,m,e⟩ ⟨t',l',f'⟩) (Dy.mulD ⟨s',m',e'⟩ ⟨t,l,f⟩) (Dy.mulD ⟨s',m',e'⟩ ⟨t',l',f'⟩)) n false)
    (Dy.endD (bif !s&& !t then Dy.mulD ⟨s',m',e'⟩ ⟨t',l',f'⟩ else Dy.max4 (Dy.mulD ⟨s,m,e⟩ ⟨t,l,f⟩) (Dy.mulD ⟨s,m,e⟩ ⟨t',l',f'⟩) (Dy.mulD ⟨s',m',e'⟩ ⟨t,l,f⟩) (Dy.mulD ⟨s',m',e'⟩ ⟨t',l',f'⟩)) n true)⟩
 |_=>none
def sDivSp:List AV→Option Spec
 |[.num .i64 n,.agg [.bool s,.dig [2] m,.num .i64 e,.bool s',.dig [2] m',.num .i64 e'],.agg [.bool t,.dig [3] l,.num .i64 f,.bool t',.dig [3] l',.num .i64 f']]=>
  some ⟨some (Dy.mid ⟨s,m,e⟩∧Dy.mid ⟨s',m',e'⟩∧Dy.mid ⟨t,l,f⟩∧Dy.mid ⟨t',l',f'⟩∧t=false∧t'=false∧l≠[]∧l'≠[]∧m.length≤1000∧m'.length≤1000∧l.length≤1000∧l'.length≤1000∧1≤n∧n≤8192),
   avS [0] (Dy.quoE ⟨s,m,e⟩ (bif s then ⟨t,l,f⟩ else ⟨t',l',f'⟩) n false) (Dy.quoE ⟨s',m',e'⟩ (bif s' then ⟨t',l',f'⟩ else ⟨t,l,f⟩) n true)⟩
 |_=>none
def sSignSp:List AV→Option Spec
 |[.agg [.bool s,.dig [1] m,.num .i64 e,.bool s',.dig [1] m',.num .i64 e']]=>
  some ⟨some (Dy.mayD ⟨s,m,e⟩=true∧Dy.mayD ⟨s',m',e'⟩=true),.num .i64 (Dy.signS ⟨s,m,e⟩ ⟨s',m',e'⟩)⟩
 |_=>none
def sCutSp:List AV→Option Spec
 |[.agg [.bool s,.dig [1] m,.num .i64 e,.bool s',.dig [1] m',.num .i64 e'],.num .i64 b]=>
  some ⟨some (Dy.mid ⟨s,m,e⟩∧Dy.mid ⟨s',m',e'⟩∧1≤b∧b≤8192),
   .tup [avD [0] (bif decide (Dy.signS ⟨s,m,e⟩ ⟨s',m',e'⟩=0) then Dy.zeroD else (Dy.cutR ⟨s,m,e⟩ b).1),
    .bool (!decide (Dy.signS ⟨s,m,e⟩ ⟨s',m',e'⟩=0)&&decide (Dy.cmpD (Dy.cutR ⟨s,m,e⟩ b).1 (Dy.cutR ⟨s',m',e'⟩ b).1=0))]⟩
 |_=>none
def tabR0:List (Nat×(List AV→Option Spec)):=(151,sPowerS)::(73,sOfS)::(140,sAddS)::(190,sSubS)::(141,sMulS)::(142,sLessS)::tabF
def tabR1:List (Nat×(List AV→Option Spec)):=(177,sEndS)::(153,sQuoS)::tabR0
def tabR2:List (Nat×(List AV→Option Spec)):=(139,sOutS)::(191,sSignSp)::(81,sNegS)::(83,sScaleS)::tabR1
def tabR3:List (Nat×(List AV→Option Spec)):=(75,sMulSp)::(84,sDivSp)::(154,sCutSp)::tabR2
end Go.AI
