/- My texts AVdquo, AIdquo, AIdquo2, AIspecR, in one. -/
import Derived.Test.YtogikmlfkhofoaaGreatDoorK10
open BitVec renaming ofInt→A7
open Bool renaming not_eq_false'→F1,not_eq_true'→G0,true_and→AT
open Decidable renaming byContradiction→G8
open Int renaming ofNat_eq_zero→P6,toNat_natCast→A2
open List renaming length_eq_zero_iff→G5
open Nat renaming div_div_eq_div_mul→K7,div_le_self→L1,dvd_of_mod_eq_zero→Z8,le_refl→I6,le_trans→D9,mul_assoc→B9,mul_comm→B6,mul_div_cancel_left→j2,mul_le_mul→I7,mul_mod_right→HY,mul_mul_mul_comm→F7,mul_pos→U9,pow_add→B8,two_pow_pos→A9
namespace Go.AI
open Dy Dyd IntKind
open Go Go.RowKit Go.Proofs
set_option linter.unusedVariables false
set_option maxRecDepth 100000
set_option maxHeartbeats 0
theorem B13 (s:Bool) (more:Bool) (q:List Nat) (e:Int) (k:Int) (Q:AV→Prop):(evF Tryz.prog (look D1f) (lam []) false Tryz.f147 [.bool s,.dig [2] q,.num .i64 e,.bool more,.num .i64 k] Q)=(∀(l1:List Nat),l1=(H3 q (i64.wrap ((0:Int)-if i64.wrap ((↑(F3 q):Int)-k)>0 then i64.wrap ((↑(F3 q):Int)-k) else (0:Int)))).mag→∀b2,b2=(H3 q (i64.wrap ((0:Int)-if i64.wrap ((↑(F3 q):Int)-k)>0 then i64.wrap ((↑(F3 q):Int)-k) else (0:Int)))).lost→∀n3,n3=(H3 q (i64.wrap ((0:Int)-if i64.wrap ((↑(F3 q):Int)-k)>0 then i64.wrap ((↑(F3 q):Int)-k) else (0:Int)))).err→∀b4,b4=(N7 s l1 (i64.wrap (e+if i64.wrap ((↑(F3 q):Int)-k)>0 then i64.wrap ((↑(F3 q):Int)-k) else (0:Int)))).1.neg→∀(l5:List Nat),l5=(N7 s l1 (i64.wrap (e+if i64.wrap ((↑(F3 q):Int)-k)>0 then i64.wrap ((↑(F3 q):Int)-k) else (0:Int)))).1.mag→∀n6,n6=(N7 s l1 (i64.wrap (e+if i64.wrap ((↑(F3 q):Int)-k)>0 then i64.wrap ((↑(F3 q):Int)-k) else (0:Int)))).1.exp→∀n7,n7=(N7 s l1 (i64.wrap (e+if i64.wrap ((↑(F3 q):Int)-k)>0 then i64.wrap ((↑(F3 q):Int)-k) else (0:Int)))).snd→bif !decide (n7=0) then Q (.tup [.agg [.bool false,.dig [0] [],.num .i64 0],.bool false,.num .i64 n7]) else bif b2 then Q (.tup [.agg [.bool b4,.dig [0] l5,.num .i64 n6],.bool true,.num .i64 0]) else Q (.tup [.agg [.bool b4,.dig [0] l5,.num .i64 n6],.bool more,.num .i64 0])):=by kernel_rfl
theorem B6x (s:Bool) (s':Bool) (m:List Nat) (m':List Nat) (e:Int) (e':Int) (k:Int) (Q:AV→Prop):(evF Tryz.prog (look A71) (lam []) false Tryz.f189 [.agg [.bool s,.dig [1] m,.num .i64 e],.agg [.bool s',.dig [2] m',.num .i64 e'],.num .i64 k] Q)=(bif !(A5 (mk s m e)&&A5 (mk s' m' e')) then Q (.tup [.agg [.bool false,.dig [0] [],.num .i64 0],.bool false,.num .i64 2]) else bif decide (k<1) then Q (.tup [.agg [.bool false,.dig [0] [],.num .i64 0],.bool false,.num .i64 2]) else bif !decide (NC k=0) then Q (.tup [.agg [.bool false,.dig [0] [],.num .i64 0],.bool false,.num .i64 (NC k)]) else bif decide ((↑m'.length:Int)=0) then Q (.tup [.agg [.bool false,.dig [0] [],.num .i64 0],.bool false,.num .i64 11]) else bif decide ((↑m.length:Int)=0) then Q (.tup [.agg [.bool false,.dig [0] [],.num .i64 0],.bool false,.num .i64 0]) else bif decide ((if i64.wrap (i64.wrap (i64.wrap (k+1)+(↑(F3 m'):Int))-(↑(F3 m):Int))>0 then i64.wrap (i64.wrap (i64.wrap (k+1)+(↑(F3 m'):Int))-(↑(F3 m):Int)) else (0:Int))>i64.wrap ((131072:Int)-(↑(F3 m):Int))) then False else∀(l1:List Nat),l1=(H3 m (if i64.wrap (i64.wrap (i64.wrap (k+1)+(↑(F3 m'):Int))-(↑(F3 m):Int))>0 then i64.wrap (i64.wrap (i64.wrap (k+1)+(↑(F3 m'):Int))-(↑(F3 m):Int)) else (0:Int))).mag→∀b2,b2=(H3 m (if i64.wrap (i64.wrap (i64.wrap (k+1)+(↑(F3 m'):Int))-(↑(F3 m):Int))>0 then i64.wrap (i64.wrap (i64.wrap (k+1)+(↑(F3 m'):Int))-(↑(F3 m):Int)) else (0:Int))).lost→∀n3,n3=(H3 m (if i64.wrap (i64.wrap (i64.wrap (k+1)+(↑(F3 m'):Int))-(↑(F3 m):Int))>0 then i64.wrap (i64.wrap (i64.wrap (k+1)+(↑(F3 m'):Int))-(↑(F3 m):Int)) else (0:Int))).err→∀(l4:List Nat),l4=(UB l1 m').quo→∀(l5:List Nat),l5=(UB l1 m').rem→∀n6,n6=(UB l1 m').err→(may l4=true∧(-1099511627776:Int)≤i64.wrap (i64.wrap (e-e')-if i64.wrap (i64.wrap (i64.wrap (k+1)+(↑(F3 m'):Int))-(↑(F3 m):Int))>0 then i64.wrap (i64.wrap (i64.wrap (k+1)+(↑(F3 m'):Int))-(↑(F3 m):Int)) else (0:Int))∧i64.wrap (i64.wrap (e-e')-if i64.wrap (i64.wrap (i64.wrap (k+1)+(↑(F3 m'):Int))-(↑(F3 m):Int))>0 then i64.wrap (i64.wrap (i64.wrap (k+1)+(↑(F3 m'):Int))-(↑(F3 m):Int)) else (0:Int))≤1099511627776∧1≤k∧k≤8192)∧∀b7,b7=(O5 (!s==s') (val l4) (i64.wrap (i64.wrap (e-e')-if i64.wrap (i64.wrap (i64.wrap (k+1)+(↑(F3 m'):Int))-(↑(F3 m):Int))>0 then i64.wrap (i64.wrap (i64.wrap (k+1)+(↑(F3 m'):Int))-(↑(F3 m):Int)) else (0:Int))) (decide ((↑l5.length:Int)>0)) k).num.neg→∀(l8:List Nat),l8=(O5 (!s==s') (val l4) (i64.wrap (i64.wrap (e-e')-if i64.wrap (i64.wrap (i64.wrap (k+1)+(↑(F3 m'):Int))-(↑(F3 m):Int))>0 then i64.wrap (i64.wrap (i64.wrap (k+1)+(↑(F3 m'):Int))-(↑(F3 m):Int)) else (0:Int))) (decide ((↑l5.length:Int)>0)) k).num.mag→∀n9,n9=(O5 (!s==s') (val l4) (i64.wrap (i64.wrap (e-e')-if i64.wrap (i64.wrap (i64.wrap (k+1)+(↑(F3 m'):Int))-(↑(F3 m):Int))>0 then i64.wrap (i64.wrap (i64.wrap (k+1)+(↑(F3 m'):Int))-(↑(F3 m):Int)) else (0:Int))) (decide ((↑l5.length:Int)>0)) k).num.exp→∀b10,b10=(O5 (!s==s') (val l4) (i64.wrap (i64.wrap (e-e')-if i64.wrap (i64.wrap (i64.wrap (k+1)+(↑(F3 m'):Int))-(↑(F3 m):Int))>0 then i64.wrap (i64.wrap (i64.wrap (k+1)+(↑(F3 m'):Int))-(↑(F3 m):Int)) else (0:Int))) (decide ((↑l5.length:Int)>0)) k).lost→∀n11,n11=(O5 (!s==s') (val l4) (i64.wrap (i64.wrap (e-e')-if i64.wrap (i64.wrap (i64.wrap (k+1)+(↑(F3 m'):Int))-(↑(F3 m):Int))>0 then i64.wrap (i64.wrap (i64.wrap (k+1)+(↑(F3 m'):Int))-(↑(F3 m):Int)) else (0:Int))) (decide ((↑l5.length:Int)>0)) k).err→Q (.tup [.agg [.bool b7,.dig [0] l8,.num .i64 n9],.bool b10,.num .i64 n11])):=by kernel_rfl
theorem B0y (s:Bool) (m:List Nat) (e:Int) (k:Int) (Q:AV→Prop):(evF Tryz.prog (look A71) (lam []) false Tryz.f76 [.agg [.bool s,.dig [1] m,.num .i64 e],.num .i64 k] Q)=(bif !A5 (mk s m e) then Q (.tup [.agg [.bool false,.dig [0] [],.num .i64 0],.bool false,.num .i64 2]) else bif !decide (NC k=0) then Q (.tup [.agg [.bool false,.dig [0] [],.num .i64 0],.bool false,.num .i64 (NC k)]) else bif decide ((↑m.length:Int)=0) then Q (.tup [.agg [.bool false,.dig [0] [],.num .i64 0],.bool false,.num .i64 0]) else bif s then Q (.tup [.agg [.bool false,.dig [0] [],.num .i64 0],.bool false,.num .i64 10]) else bif !decide (i64.wrap (↑(A7 (64:Nat) (i64.wrap (e-i64.wrap (i64.wrap (i64.wrap ((2:Int)*k)+2)-(↑(F3 m):Int))))&&&A7 (64:Nat) (1:Int)).toNat:Int)=0) then∀(l1:List Nat),l1=(H3 m (i64.wrap (i64.wrap (i64.wrap (i64.wrap ((2:Int)*k)+2)-(↑(F3 m):Int))+1))).mag→∀b2,b2=(H3 m (i64.wrap (i64.wrap (i64.wrap (i64.wrap ((2:Int)*k)+2)-(↑(F3 m):Int))+1))).lost→∀n3,n3=(H3 m (i64.wrap (i64.wrap (i64.wrap (i64.wrap ((2:Int)*k)+2)-(↑(F3 m):Int))+1))).err→∀(l4:List Nat),l4=(HG l1).mag→∀b5,b5=(HG l1).exact→∀n6,n6=(HG l1).err→bif b2 then (may l4=true∧(-1099511627776:Int)≤i64.wrap ((i64.wrap (e-i64.wrap (i64.wrap (i64.wrap (i64.wrap ((2:Int)*k)+2)-(↑(F3 m):Int))+1))).tdiv (2:Int))∧i64.wrap ((i64.wrap (e-i64.wrap (i64.wrap (i64.wrap (i64.wrap ((2:Int)*k)+2)-(↑(F3 m):Int))+1))).tdiv (2:Int))≤1099511627776∧1≤k∧k≤8192)∧∀b7,b7=(O5 false (val l4) (i64.wrap ((i64.wrap (e-i64.wrap (i64.wrap (i64.wrap (i64.wrap ((2:Int)*k)+2)-(↑(F3 m):Int))+1))).tdiv (2:Int))) true k).num.neg→∀(l8:List Nat),l8=(O5 false (val l4) (i64.wrap ((i64.wrap (e-i64.wrap (i64.wrap (i64.wrap (i64.wrap ((2:Int)*k)+2)-(↑(F3 m):Int))+1))).tdiv (2:Int))) true k).num.mag→∀n9,n9=(O5 false (val l4) (i64.wrap ((i64.wrap (e-i64.wrap (i64.wrap (i64.wrap (i64.wrap ((2:Int)*k)+2)-(↑(F3 m):Int))+1))).tdiv (2:Int))) true k).num.exp→∀b10,b10=(O5 false (val l4) (i64.wrap ((i64.wrap (e-i64.wrap (i64.wrap (i64.wrap (i64.wrap ((2:Int)*k)+2)-(↑(F3 m):Int))+1))).tdiv (2:Int))) true k).lost→∀n11,n11=(O5 false (val l4) (i64.wrap ((i64.wrap (e-i64.wrap (i64.wrap (i64.wrap (i64.wrap ((2:Int)*k)+2)-(↑(F3 m):Int))+1))).tdiv (2:Int))) true k).err→Q (.tup [.agg [.bool b7,.dig [0] l8,.num .i64 n9],.bool b10,.num .i64 n11]) else (may l4=true∧(-1099511627776:Int)≤i64.wrap ((i64.wrap (e-i64.wrap (i64.wrap (i64.wrap (i64.wrap ((2:Int)*k)+2)-(↑(F3 m):Int))+1))).tdiv (2:Int))∧i64.wrap ((i64.wrap (e-i64.wrap (i64.wrap (i64.wrap (i64.wrap ((2:Int)*k)+2)-(↑(F3 m):Int))+1))).tdiv (2:Int))≤1099511627776∧1≤k∧k≤8192)∧∀b12,b12=(O5 false (val l4) (i64.wrap ((i64.wrap (e-i64.wrap (i64.wrap (i64.wrap (i64.wrap ((2:Int)*k)+2)-(↑(F3 m):Int))+1))).tdiv (2:Int))) (!b5) k).num.neg→∀(l13:List Nat),l13=(O5 false (val l4) (i64.wrap ((i64.wrap (e-i64.wrap (i64.wrap (i64.wrap (i64.wrap ((2:Int)*k)+2)-(↑(F3 m):Int))+1))).tdiv (2:Int))) (!b5) k).num.mag→∀n14,n14=(O5 false (val l4) (i64.wrap ((i64.wrap (e-i64.wrap (i64.wrap (i64.wrap (i64.wrap ((2:Int)*k)+2)-(↑(F3 m):Int))+1))).tdiv (2:Int))) (!b5) k).num.exp→∀b15,b15=(O5 false (val l4) (i64.wrap ((i64.wrap (e-i64.wrap (i64.wrap (i64.wrap (i64.wrap ((2:Int)*k)+2)-(↑(F3 m):Int))+1))).tdiv (2:Int))) (!b5) k).lost→∀n16,n16=(O5 false (val l4) (i64.wrap ((i64.wrap (e-i64.wrap (i64.wrap (i64.wrap (i64.wrap ((2:Int)*k)+2)-(↑(F3 m):Int))+1))).tdiv (2:Int))) (!b5) k).err→Q (.tup [.agg [.bool b12,.dig [0] l13,.num .i64 n14],.bool b15,.num .i64 n16]) else∀(l17:List Nat),l17=(H3 m (i64.wrap (i64.wrap (i64.wrap ((2:Int)*k)+2)-(↑(F3 m):Int)))).mag→∀b18,b18=(H3 m (i64.wrap (i64.wrap (i64.wrap ((2:Int)*k)+2)-(↑(F3 m):Int)))).lost→∀n19,n19=(H3 m (i64.wrap (i64.wrap (i64.wrap ((2:Int)*k)+2)-(↑(F3 m):Int)))).err→∀(l20:List Nat),l20=(HG l17).mag→∀b21,b21=(HG l17).exact→∀n22,n22=(HG l17).err→bif b18 then (may l20=true∧(-1099511627776:Int)≤i64.wrap ((i64.wrap (e-i64.wrap (i64.wrap (i64.wrap ((2:Int)*k)+2)-(↑(F3 m):Int)))).tdiv (2:Int))∧i64.wrap ((i64.wrap (e-i64.wrap (i64.wrap (i64.wrap ((2:Int)*k)+2)-(↑(F3 m):Int)))).tdiv (2:Int))≤1099511627776∧1≤k∧k≤8192)∧∀b23,b23=(O5 false (val l20) (i64.wrap ((i64.wrap (e-i64.wrap (i64.wrap (i64.wrap ((2:Int)*k)+2)-(↑(F3 m):Int)))).tdiv (2:Int))) true k).num.neg→∀(l24:List Nat),l24=(O5 false (val l20) (i64.wrap ((i64.wrap (e-i64.wrap (i64.wrap (i64.wrap ((2:Int)*k)+2)-(↑(F3 m):Int)))).tdiv (2:Int))) true k).num.mag→∀n25,n25=(O5 false (val l20) (i64.wrap ((i64.wrap (e-i64.wrap (i64.wrap (i64.wrap ((2:Int)*k)+2)-(↑(F3 m):Int)))).tdiv (2:Int))) true k).num.exp→∀b26,b26=(O5 false (val l20) (i64.wrap ((i64.wrap (e-i64.wrap (i64.wrap (i64.wrap ((2:Int)*k)+2)-(↑(F3 m):Int)))).tdiv (2:Int))) true k).lost→∀n27,n27=(O5 false (val l20) (i64.wrap ((i64.wrap (e-i64.wrap (i64.wrap (i64.wrap ((2:Int)*k)+2)-(↑(F3 m):Int)))).tdiv (2:Int))) true k).err→Q (.tup [.agg [.bool b23,.dig [0] l24,.num .i64 n25],.bool b26,.num .i64 n27]) else (may l20=true∧(-1099511627776:Int)≤i64.wrap ((i64.wrap (e-i64.wrap (i64.wrap (i64.wrap ((2:Int)*k)+2)-(↑(F3 m):Int)))).tdiv (2:Int))∧i64.wrap ((i64.wrap (e-i64.wrap (i64.wrap (i64.wrap ((2:Int)*k)+2)-(↑(F3 m):Int)))).tdiv (2:Int))≤1099511627776∧1≤k∧k≤8192)∧∀b28,b28=(O5 false (val l20) (i64.wrap ((i64.wrap (e-i64.wrap (i64.wrap (i64.wrap ((2:Int)*k)+2)-(↑(F3 m):Int)))).tdiv (2:Int))) (!b21) k).num.neg→∀(l29:List Nat),l29=(O5 false (val l20) (i64.wrap ((i64.wrap (e-i64.wrap (i64.wrap (i64.wrap ((2:Int)*k)+2)-(↑(F3 m):Int)))).tdiv (2:Int))) (!b21) k).num.mag→∀n30,n30=(O5 false (val l20) (i64.wrap ((i64.wrap (e-i64.wrap (i64.wrap (i64.wrap ((2:Int)*k)+2)-(↑(F3 m):Int)))).tdiv (2:Int))) (!b21) k).num.exp→∀b31,b31=(O5 false (val l20) (i64.wrap ((i64.wrap (e-i64.wrap (i64.wrap (i64.wrap ((2:Int)*k)+2)-(↑(F3 m):Int)))).tdiv (2:Int))) (!b21) k).lost→∀n32,n32=(O5 false (val l20) (i64.wrap ((i64.wrap (e-i64.wrap (i64.wrap (i64.wrap ((2:Int)*k)+2)-(↑(F3 m):Int)))).tdiv (2:Int))) (!b21) k).err→Q (.tup [.agg [.bool b28,.dig [0] l29,.num .i64 n30],.bool b31,.num .i64 n32])):=by kernel_rfl
theorem B7g (s:Bool) (s':Bool) (m:List Nat) (m':List Nat) (e:Int) (e':Int) (k:Int) (Q:AV→Prop):(evF Tryz.prog (look A71) (lam []) false Tryz.f197 [.agg [.bool s,.dig [1] m,.num .i64 e],.agg [.bool s',.dig [2] m',.num .i64 e'],.num .i64 k] Q)=(bif decide ((↑m.length:Int)=0) then Q (.tup [.agg [.bool false,.dig [0] [],.num .i64 0],.bool false]) else (dg (val m')=m'∧m'.length≤1048576)∧(dg (val m)=m∧m.length≤1048576)∧bif decide (i64.wrap (i64.wrap (i64.wrap (k+1)+(↑(bl (val m')):Int))-(↑(bl (val m)):Int))<0) then ((0:Int)≤0∧(0:Int)≤33554432∧m.length≤1048576)∧(dg (val (dg (val m*1)))=dg (val m*1)∧dg (val m')=m'∧m'≠[]∧(dg (val m*1)).length≤100000∧m'.length≤100000)∧∀(l1:List Nat),l1=dg (val (dg (val m*1))/val m')→∀(l2:List Nat),l2=dg (val (dg (val m*1))%val m')→(dg (val l1)=l1∧l1.length≤1048576∧(-1099511627776:Int)≤i64.wrap (i64.wrap (e-e')-0)∧i64.wrap (i64.wrap (e-e')-0)≤1099511627776)∧∀b3,b3=(form (!s==s') (val l1) (i64.wrap (i64.wrap (e-e')-0))).neg→∀(l4:List Nat),l4=(form (!s==s') (val l1) (i64.wrap (i64.wrap (e-e')-0))).mag→∀n5,n5=(form (!s==s') (val l1) (i64.wrap (i64.wrap (e-e')-0))).exp→(dg (val l4)=l4∧l4.length≤4096∧tz (val l4)=0∧ -1099511627776≤n5∧n5+131072≤1099511627776∧1≤k)∧∀b6,b6=(F6 (mk b3 l4 n5) k).1.neg→∀(l7:List Nat),l7=(F6 (mk b3 l4 n5) k).1.mag→∀n8,n8=(F6 (mk b3 l4 n5) k).1.exp→∀b9,b9=(F6 (mk b3 l4 n5) k).snd→bif b9 then Q (.tup [.agg [.bool b6,.dig [0] l7,.num .i64 n8],.bool true]) else Q (.tup [.agg [.bool b6,.dig [0] l7,.num .i64 n8],.bool (decide ((↑l2.length:Int)>0))]) else ((0:Int)≤i64.wrap (i64.wrap (i64.wrap (k+1)+(↑(bl (val m')):Int))-(↑(bl (val m)):Int))∧i64.wrap (i64.wrap (i64.wrap (k+1)+(↑(bl (val m')):Int))-(↑(bl (val m)):Int))≤33554432∧m.length≤1048576)∧(dg (val (dg (val m*2^(i64.wrap (i64.wrap (i64.wrap (k+1)+(↑(bl (val m')):Int))-(↑(bl (val m)):Int))).toNat)))=dg (val m*2^(i64.wrap (i64.wrap (i64.wrap (k+1)+(↑(bl (val m')):Int))-(↑(bl (val m)):Int))).toNat)∧dg (val m')=m'∧m'≠[]∧(dg (val m*2^(i64.wrap (i64.wrap (i64.wrap (k+1)+(↑(bl (val m')):Int))-(↑(bl (val m)):Int))).toNat)).length≤100000∧m'.length≤100000)∧∀(l10:List Nat),l10=dg (val (dg (val m*2^(i64.wrap (i64.wrap (i64.wrap (k+1)+(↑(bl (val m')):Int))-(↑(bl (val m)):Int))).toNat))/val m')→∀(l11:List Nat),l11=dg (val (dg (val m*2^(i64.wrap (i64.wrap (i64.wrap (k+1)+(↑(bl (val m')):Int))-(↑(bl (val m)):Int))).toNat))%val m')→(dg (val l10)=l10∧l10.length≤1048576∧(-1099511627776:Int)≤i64.wrap (i64.wrap (e-e')-i64.wrap (i64.wrap (i64.wrap (k+1)+(↑(bl (val m')):Int))-(↑(bl (val m)):Int)))∧i64.wrap (i64.wrap (e-e')-i64.wrap (i64.wrap (i64.wrap (k+1)+(↑(bl (val m')):Int))-(↑(bl (val m)):Int)))≤1099511627776)∧∀b12,b12=(form (!s==s') (val l10) (i64.wrap (i64.wrap (e-e')-i64.wrap (i64.wrap (i64.wrap (k+1)+(↑(bl (val m')):Int))-(↑(bl (val m)):Int))))).neg→∀(l13:List Nat),l13=(form (!s==s') (val l10) (i64.wrap (i64.wrap (e-e')-i64.wrap (i64.wrap (i64.wrap (k+1)+(↑(bl (val m')):Int))-(↑(bl (val m)):Int))))).mag→∀n14,n14=(form (!s==s') (val l10) (i64.wrap (i64.wrap (e-e')-i64.wrap (i64.wrap (i64.wrap (k+1)+(↑(bl (val m')):Int))-(↑(bl (val m)):Int))))).exp→(dg (val l13)=l13∧l13.length≤4096∧tz (val l13)=0∧ -1099511627776≤n14∧n14+131072≤1099511627776∧1≤k)∧∀b15,b15=(F6 (mk b12 l13 n14) k).1.neg→∀(l16:List Nat),l16=(F6 (mk b12 l13 n14) k).1.mag→∀n17,n17=(F6 (mk b12 l13 n14) k).1.exp→∀b18,b18=(F6 (mk b12 l13 n14) k).snd→bif b18 then Q (.tup [.agg [.bool b15,.dig [0] l16,.num .i64 n17],.bool true]) else Q (.tup [.agg [.bool b15,.dig [0] l16,.num .i64 n17],.bool (decide ((↑l11.length:Int)>0))])):=by kernel_rfl
theorem B1b (s:Bool) (m:List Nat) (e:Int) (k:Int) (Q:AV→Prop):(evF Tryz.prog (look A71) (lam []) false Tryz.f42 [.agg [.bool s,.dig [1] m,.num .i64 e],.num .i64 k] Q)=((dg (val m)=m∧m.length≤1048576)∧bif decide (i64.wrap (i64.wrap (i64.wrap ((2:Int)*k)+2)-(↑(bl (val m)):Int))<0) then bif !decide ((i64.wrap (e-0)).tmod (2:Int)=0) then ((0:Int)≤i64.wrap ((0:Int)+1)∧i64.wrap ((0:Int)+1)≤33554432∧m.length≤1048576)∧(dg (val (dg (val m*2)))=dg (val m*2)∧(dg (val m*2)).length≤100000)∧∀(l1:List Nat),l1=dg (isq (val (dg (val m*2))))→∀b2,b2=decide (isq (val (dg (val m*2)))*isq (val (dg (val m*2)))=val (dg (val m*2)))→(dg (val l1)=l1∧l1.length≤1048576∧(-1099511627776:Int)≤i64.wrap ((i64.wrap (e-i64.wrap ((0:Int)+1))).tdiv (2:Int))∧i64.wrap ((i64.wrap (e-i64.wrap ((0:Int)+1))).tdiv (2:Int))≤1099511627776)∧∀b3,b3=(form false (val l1) (i64.wrap ((i64.wrap (e-i64.wrap ((0:Int)+1))).tdiv (2:Int)))).neg→∀(l4:List Nat),l4=(form false (val l1) (i64.wrap ((i64.wrap (e-i64.wrap ((0:Int)+1))).tdiv (2:Int)))).mag→∀n5,n5=(form false (val l1) (i64.wrap ((i64.wrap (e-i64.wrap ((0:Int)+1))).tdiv (2:Int)))).exp→(dg (val l4)=l4∧l4.length≤4096∧tz (val l4)=0∧ -1099511627776≤n5∧n5+131072≤1099511627776∧1≤k)∧∀b6,b6=(F6 (mk b3 l4 n5) k).1.neg→∀(l7:List Nat),l7=(F6 (mk b3 l4 n5) k).1.mag→∀n8,n8=(F6 (mk b3 l4 n5) k).1.exp→∀b9,b9=(F6 (mk b3 l4 n5) k).snd→bif b9 then Q (.tup [.agg [.bool b6,.dig [0] l7,.num .i64 n8],.bool true]) else Q (.tup [.agg [.bool b6,.dig [0] l7,.num .i64 n8],.bool !b2]) else ((0:Int)≤0∧(0:Int)≤33554432∧m.length≤1048576)∧(dg (val (dg (val m*1)))=dg (val m*1)∧(dg (val m*1)).length≤100000)∧∀(l10:List Nat),l10=dg (isq (val (dg (val m*1))))→∀b11,b11=decide (isq (val (dg (val m*1)))*isq (val (dg (val m*1)))=val (dg (val m*1)))→(dg (val l10)=l10∧l10.length≤1048576∧(-1099511627776:Int)≤i64.wrap ((i64.wrap (e-0)).tdiv (2:Int))∧i64.wrap ((i64.wrap (e-0)).tdiv (2:Int))≤1099511627776)∧∀b12,b12=(form false (val l10) (i64.wrap ((i64.wrap (e-0)).tdiv (2:Int)))).neg→∀(l13:List Nat),l13=(form false (val l10) (i64.wrap ((i64.wrap (e-0)).tdiv (2:Int)))).mag→∀n14,n14=(form false (val l10) (i64.wrap ((i64.wrap (e-0)).tdiv (2:Int)))).exp→(dg (val l13)=l13∧l13.length≤4096∧tz (val l13)=0∧ -1099511627776≤n14∧n14+131072≤1099511627776∧1≤k)∧∀b15,b15=(F6 (mk b12 l13 n14) k).1.neg→∀(l16:List Nat),l16=(F6 (mk b12 l13 n14) k).1.mag→∀n17,n17=(F6 (mk b12 l13 n14) k).1.exp→∀b18,b18=(F6 (mk b12 l13 n14) k).snd→bif b18 then Q (.tup [.agg [.bool b15,.dig [0] l16,.num .i64 n17],.bool true]) else Q (.tup [.agg [.bool b15,.dig [0] l16,.num .i64 n17],.bool !b11]) else bif !decide ((i64.wrap (e-i64.wrap (i64.wrap (i64.wrap ((2:Int)*k)+2)-(↑(bl (val m)):Int)))).tmod (2:Int)=0) then ((0:Int)≤i64.wrap (i64.wrap (i64.wrap (i64.wrap ((2:Int)*k)+2)-(↑(bl (val m)):Int))+1)∧i64.wrap (i64.wrap (i64.wrap (i64.wrap ((2:Int)*k)+2)-(↑(bl (val m)):Int))+1)≤33554432∧m.length≤1048576)∧(dg (val (dg (val m*2^(i64.wrap (i64.wrap (i64.wrap (i64.wrap ((2:Int)*k)+2)-(↑(bl (val m)):Int))+1)).toNat)))=dg (val m*2^(i64.wrap (i64.wrap (i64.wrap (i64.wrap ((2:Int)*k)+2)-(↑(bl (val m)):Int))+1)).toNat)∧(dg (val m*2^(i64.wrap (i64.wrap (i64.wrap (i64.wrap ((2:Int)*k)+2)-(↑(bl (val m)):Int))+1)).toNat)).length≤100000)∧∀(l19:List Nat),l19=dg (isq (val (dg (val m*2^(i64.wrap (i64.wrap (i64.wrap (i64.wrap ((2:Int)*k)+2)-(↑(bl (val m)):Int))+1)).toNat))))→∀b20,b20=decide (isq (val (dg (val m*2^(i64.wrap (i64.wrap (i64.wrap (i64.wrap ((2:Int)*k)+2)-(↑(bl (val m)):Int))+1)).toNat)))*isq (val (dg (val m*2^(i64.wrap (i64.wrap (i64.wrap (i64.wrap ((2:Int)*k)+2)-(↑(bl (val m)):Int))+1)).toNat)))=val (dg (val m*2^(i64.wrap (i64.wrap (i64.wrap (i64.wrap ((2:Int)*k)+2)-(↑(bl (val m)):Int))+1)).toNat)))→(dg (val l19)=l19∧l19.length≤1048576∧(-1099511627776:Int)≤i64.wrap ((i64.wrap (e-i64.wrap (i64.wrap (i64.wrap (i64.wrap ((2:Int)*k)+2)-(↑(bl (val m)):Int))+1))).tdiv (2:Int))∧i64.wrap ((i64.wrap (e-i64.wrap (i64.wrap (i64.wrap (i64.wrap ((2:Int)*k)+2)-(↑(bl (val m)):Int))+1))).tdiv (2:Int))≤1099511627776)∧∀b21,b21=(form false (val l19) (i64.wrap ((i64.wrap (e-i64.wrap (i64.wrap (i64.wrap (i64.wrap ((2:Int)*k)+2)-(↑(bl (val m)):Int))+1))).tdiv (2:Int)))).neg→∀(l22:List Nat),l22=(form false (val l19) (i64.wrap ((i64.wrap (e-i64.wrap (i64.wrap (i64.wrap (i64.wrap ((2:Int)*k)+2)-(↑(bl (val m)):Int))+1))).tdiv (2:Int)))).mag→∀n23,n23=(form false (val l19) (i64.wrap ((i64.wrap (e-i64.wrap (i64.wrap (i64.wrap (i64.wrap ((2:Int)*k)+2)-(↑(bl (val m)):Int))+1))).tdiv (2:Int)))).exp→(dg (val l22)=l22∧l22.length≤4096∧tz (val l22)=0∧ -1099511627776≤n23∧n23+131072≤1099511627776∧1≤k)∧∀b24,b24=(F6 (mk b21 l22 n23) k).1.neg→∀(l25:List Nat),l25=(F6 (mk b21 l22 n23) k).1.mag→∀n26,n26=(F6 (mk b21 l22 n23) k).1.exp→∀b27,b27=(F6 (mk b21 l22 n23) k).snd→bif b27 then Q (.tup [.agg [.bool b24,.dig [0] l25,.num .i64 n26],.bool true]) else Q (.tup [.agg [.bool b24,.dig [0] l25,.num .i64 n26],.bool !b20]) else ((0:Int)≤i64.wrap (i64.wrap (i64.wrap ((2:Int)*k)+2)-(↑(bl (val m)):Int))∧i64.wrap (i64.wrap (i64.wrap ((2:Int)*k)+2)-(↑(bl (val m)):Int))≤33554432∧m.length≤1048576)∧(dg (val (dg (val m*2^(i64.wrap (i64.wrap (i64.wrap ((2:Int)*k)+2)-(↑(bl (val m)):Int))).toNat)))=dg (val m*2^(i64.wrap (i64.wrap (i64.wrap ((2:Int)*k)+2)-(↑(bl (val m)):Int))).toNat)∧(dg (val m*2^(i64.wrap (i64.wrap (i64.wrap ((2:Int)*k)+2)-(↑(bl (val m)):Int))).toNat)).length≤100000)∧∀(l28:List Nat),l28=dg (isq (val (dg (val m*2^(i64.wrap (i64.wrap (i64.wrap ((2:Int)*k)+2)-(↑(bl (val m)):Int))).toNat))))→∀b29,b29=decide (isq (val (dg (val m*2^(i64.wrap (i64.wrap (i64.wrap ((2:Int)*k)+2)-(↑(bl (val m)):Int))).toNat)))*isq (val (dg (val m*2^(i64.wrap (i64.wrap (i64.wrap ((2:Int)*k)+2)-(↑(bl (val m)):Int))).toNat)))=val (dg (val m*2^(i64.wrap (i64.wrap (i64.wrap ((2:Int)*k)+2)-(↑(bl (val m)):Int))).toNat)))→(dg (val l28)=l28∧l28.length≤1048576∧(-1099511627776:Int)≤i64.wrap ((i64.wrap (e-i64.wrap (i64.wrap (i64.wrap ((2:Int)*k)+2)-(↑(bl (val m)):Int)))).tdiv (2:Int))∧i64.wrap ((i64.wrap (e-i64.wrap (i64.wrap (i64.wrap ((2:Int)*k)+2)-(↑(bl (val m)):Int)))).tdiv (2:Int))≤1099511627776)∧∀b30,b30=(form false (val l28) (i64.wrap ((i64.wrap (e-i64.wrap (i64.wrap (i64.wrap ((2:Int)*k)+2)-(↑(bl (val m)):Int)))).tdiv (2:Int)))).neg→∀(l31:List Nat),l31=(form false (val l28) (i64.wrap ((i64.wrap (e-i64.wrap (i64.wrap (i64.wrap ((2:Int)*k)+2)-(↑(bl (val m)):Int)))).tdiv (2:Int)))).mag→∀n32,n32=(form false (val l28) (i64.wrap ((i64.wrap (e-i64.wrap (i64.wrap (i64.wrap ((2:Int)*k)+2)-(↑(bl (val m)):Int)))).tdiv (2:Int)))).exp→(dg (val l31)=l31∧l31.length≤4096∧tz (val l31)=0∧ -1099511627776≤n32∧n32+131072≤1099511627776∧1≤k)∧∀b33,b33=(F6 (mk b30 l31 n32) k).1.neg→∀(l34:List Nat),l34=(F6 (mk b30 l31 n32) k).1.mag→∀n35,n35=(F6 (mk b30 l31 n32) k).1.exp→∀b36,b36=(F6 (mk b30 l31 n32) k).snd→bif b36 then Q (.tup [.agg [.bool b33,.dig [0] l34,.num .i64 n35],.bool true]) else Q (.tup [.agg [.bool b33,.dig [0] l34,.num .i64 n35],.bool !b29])):=by kernel_rfl
end Go.AI

namespace Go.Dy
theorem TH {a:List Nat} (h:may a=true):F3 a=bl (val a):=by unfold F3;rw [if_pos h]
theorem RT {a:List Nat} (h:may a=true) (n:Nat):(H3 a (-(n:Int))).lost=decide (val a%2^n≠0):=by
 by_cases h0:val a=0
 ·unfold H3
  rw [if_pos h,if_pos h0,h0,Nat.zero_mod]
  rfl
 ·by_cases hn:0<n
  ·exact B5u h n h0 hn
  ·have hn0:n=0:=by omega
   subst hn0
   have hb:=O8 h
   unfold H3
   rw [if_pos h,if_neg h0,if_neg (by omega),if_neg (by omega),Nat.pow_zero,Nat.mod_one]
   rfl
theorem XM {a:List Nat} (h:may a=true) (n:Nat) (hn:bl (val a)+n≤131072):(H3 a (n:Int)).lost=false:=by
 unfold H3
 rw [if_pos h]
 by_cases h0:val a=0
 ·rw [if_pos h0]
 ·rw [if_neg h0,if_neg (by omega),if_neg (by omega)]
theorem A02 (n:Nat):decide (((dg n).length:Int)>0)=decide (n≠0):=by
 rw [decide_eq_decide]
 constructor
 ·intro h e
  rw [e,O0] at h
  exact absurd h (by decide)
 ·intro h
  have:dg n≠[]:=fun e=>h (T6.1 e)
  have:=List.length_pos_iff.2 this
  omega
theorem C8g (n:Nat):isq n≤n:=D9 (Nat.le_mul_self _) (W3 n).1
theorem C8f {N j:Nat} (h:bl N≤2*j):bl (isq N)≤j:=by
 refine I8.2 ?_
 rcases Nat.lt_or_ge (isq N) (2^j) with c|c
 ·exact c
 ·exfalso
  have h2:=I8.1 h
  have h3:=I7 c c
  rw [←B8] at h3
  have h1:=(W3 N).1
  rw [show 2*j=j+j by omega] at h2
  omega
theorem A75 {x:Int} (h:x%2=0):x.tdiv 2=x/2:=Int.tdiv_eq_ediv_of_dvd (Int.dvd_of_emod_eq_zero h)
theorem D1p (x:Int):x.tmod 2=0 ↔ x%2=0:=⟨fun h=>Int.emod_eq_zero_of_dvd (Int.dvd_of_tmod_eq_zero h),fun h=>Int.tmod_eq_zero_of_dvd (Int.dvd_of_emod_eq_zero h)⟩
theorem OV {s:Bool} {n:Nat} {e:Int}:dg (val (form s n e).mag)=(form s n e).mag∧tz (val (form s n e).mag)=0∧bl (val (form s n e).mag)≤bl n∧min e 0≤(form s n e).exp∧(form s n e).exp≤max 0 (e+bl n):=by
 by_cases h:n=0
 ·subst h
  rw [Y2]
  refine ⟨rfl,rfl,I6 _,?_,?_⟩
  ·show min e 0≤0;omega
  ·show 0≤max 0 _;omega
 ·rw [H6 h]
  simp only [E3]
  have:=Z2 h
  exact ⟨trivial,WQ (T0 h),K1 (L1 _ _),by omega,by omega⟩
end Go.Dy
namespace Go.AI
open Go Go.RowKit Go.Proofs
set_option linter.unusedVariables false
set_option maxRecDepth 100000
set_option maxHeartbeats 1000000
theorem D2d (x:Int):IntKind.i64.wrap (((A7 64 x&&&A7 64 1).toNat:Nat):Int)=x%2:=by
 have h:(A7 64 x&&&A7 64 1).toNat=(x%18446744073709551616).toNat%2:=by
  rw [BitVec.toNat_and,BitVec.toNat_ofInt,BitVec.toNat_ofInt]
  show (x%18446744073709551616).toNat&&&1=_
  rw [Nat.and_one_is_mod]
 rw [h,wrap_i64 (by omega) (by omega)]
 omega
theorem A9k (args:List AV) (s:Spec) (h:D03 args=some s) (hp:C6 s.pre True):Contract Tryz.prog Inv 99 args s.res:=by
 unfold D03 at h
 split at h
 ·cases h
  rename_i s m e b
  obtain ⟨⟨hc,n1,hz,x1,x2,hb1⟩, -⟩:=hp
  refine A4 true HD Tryz.func99 (by kernel_rfl) (by kernel_rfl) fun hok=> ?_
  have h5:=(A6o hok).2.2
  have hn:=range_i64 (J5 h5).1
  have b1:Dy.bl (Dy.val m)≤131072:=Dy.R0.1 (by rw [hc];exact n1)
  rw [XY,wrap_i64 (n:=(Dy.bl (Dy.val m):Int)-b) (by omega) (by omega)]
  unfold Dy.F6 Dy.headD Dy.HF
  simp only
  refine ⟨⟨hc,by omega⟩,A8 (fun h=> ?_) (fun h=> ?_)⟩
  ·have h:=A1 h
   rw [if_pos h]
   rfl
  ·have h:=A0 h
   rw [if_neg h]
   have hv:Dy.val m≠0:=fun e0=>by rw [e0,Dy.K2] at h;omega
   obtain ⟨n,hn'⟩:∃n:Nat,(Dy.bl (Dy.val m):Int)-b=n:=⟨((Dy.bl (Dy.val m):Int)-b).toNat,by omega⟩
   rw [hn'] at h ⊢
   rw [wrap_i64 (by omega) (by omega),A2,hz,decide_eq_true (show Dy.val m≠0∧((0:Nat):Int)<(n:Int) from ⟨hv,by omega⟩)]
   refine ⟨⟨hc,by omega,by omega⟩,?_⟩
   rintro _ rfl _ rfl
   rw [Dy.E3]
   have hb2:Dy.bl (Dy.val m/2^n)≤131072:=by rw [Dy.C5];omega
   refine ⟨⟨rfl,Dy.BY (by omega),by omega,by omega⟩,?_⟩
   rintro _ rfl _ rfl _ rfl
   rfl
 ·cases h
theorem A9d (args:List AV) (s:Spec) (h:C7e args=some s) (hp:C6 s.pre True):Contract Tryz.prog Inv 147 args s.res:=by
 unfold C7e at h
 split at h
 ·cases h
  rename_i s q e more k
  obtain ⟨⟨hm,x1,x2,hk1,hk2⟩, -⟩:=hp
  refine A4 false B54 Tryz.func147 (by kernel_rfl) (by kernel_rfl) fun hok=> ?_
  have hb:=Dy.O8 hm
  rw [B13,Dy.TH hm]
  unfold Dy.O5
  obtain ⟨t,ht⟩:∃t:Nat,((Dy.bl (Dy.val q):Int)-k).toNat=t:=⟨_,rfl⟩
  have e1:(if IntKind.i64.wrap ((Dy.bl (Dy.val q):Int)-k)>0 then IntKind.i64.wrap ((Dy.bl (Dy.val q):Int)-k) else 0)=(t:Int):=by
   rw [wrap_i64 (by omega) (by omega)]
   split<;>omega
  rw [e1,ht,wrap_i64 (n:=(0:Int)-t) (by omega) (by omega),Int.zero_sub,wrap_i64 (n:=e+t) (by omega) (by omega),Dy.o4 hm,Dy.RT hm]
  rintro _ rfl _ rfl _ -
  have hq:Dy.bl (Dy.val q/2^t)≤131072:=by rw [Dy.C5];omega
  rw [Dy.AO hq]
  rintro _ rfl _ rfl _ rfl _ rfl
  refine A8 (fun h1=> ?_) (fun h1=> ?_)
  ·simp only [G0,decide_eq_false_iff_not] at h1
   rw [if_neg h1]
   rfl
  ·simp only [F1,decide_eq_true_eq] at h1
   rw [if_pos h1]
   refine A8 (fun h2=> ?_) (fun h2=> ?_)
   ·rw [h2];rfl
   ·rw [h2];rfl
 ·cases h
theorem NT:G6 Tryz.prog Inv (look A71):=A3 (A3 B54 A9d) A9k
theorem B3s (args:List AV) (s:Spec) (h:D4k args=some s) (hp:C6 s.pre True):Contract Tryz.prog Inv 189 args s.res:=by
 unfold D4k at h
 split at h
 ·cases h
  rename_i s m e s' m' e' k
  obtain ⟨⟨hl,hl'⟩, -⟩:=hp
  refine A4 false NT Tryz.func189 (by kernel_rfl) (by kernel_rfl) fun hok=> ?_
  rw [B6x]
  unfold Dy.A4n
  simp only
  refine A8 (fun h=> ?_) (fun h=> ?_)
  ·simp only [G0] at h
   rw [h];rfl
  simp only [F1] at h
  rw [h]
  simp only [AT]
  obtain ⟨hd,hd'⟩:=(Bool.and_eq_true _ _ ▸ h:_∧_)
  refine A8 (fun h1=> ?_) (fun h1=> ?_)
  ·have h1:=A1 h1
   rw [if_neg (by rw [decide_eq_true_eq];omega)]
   rfl
  have h1:=A0 h1
  rw [if_pos (decide_eq_true (by omega))]
  refine A8 (fun h2=> ?_) (fun h2=> ?_)
  ·simp only [G0,decide_eq_false_iff_not] at h2
   unfold Dy.NC at h2 ⊢
   rw [if_neg h1] at h2 ⊢
   by_cases c:8192<k
   ·rw [if_pos c,if_neg (by omega)];rfl
   ·rw [if_neg c] at h2;exact absurd rfl h2
  simp only [F1,decide_eq_true_eq] at h2
  have hk:k≤8192:=by
   unfold Dy.NC at h2
   rw [if_neg h1] at h2
   by_cases c:8192<k
   ·rw [if_pos c] at h2;exact absurd h2 (by decide)
   ·omega
  rw [if_pos hk]
  refine A8 (fun h3=> ?_) (fun h3=>A8 (fun h4=> ?_) (fun h4=> ?_))
  ·have h3:=G5.1 (P6.1 (A1 h3))
   rw [if_pos h3];rfl
  ·have h3:=A0 h3
   have h4:=G5.1 (P6.1 (A1 h4))
   rw [if_neg (fun e=>h3 (by rw [e];rfl)),if_pos h4];rfl
  ·have h3:=A0 h3
   have h4:=A0 h4
   have m0':m'≠[]:=fun e=>h3 (by rw [e];rfl)
   have m0:m≠[]:=fun e=>h4 (by rw [e];rfl)
   rw [if_neg m0',if_neg m0]
   have may1:=Dy.C1 hd
   have may2:=Dy.C1 hd'
   have x1:=Dy.J2 hd
   have x2:=Dy.J2 hd'
   have v2:=Dy.Q1 may2 m0'
   have b1:Dy.bl (Dy.val m)≤32000:=(Dy.J3 (n:=Dy.val m) (k:=1000)).1 (by rw [Dy.K5 may1];exact hl)
   have b2:Dy.bl (Dy.val m')≤32000:=(Dy.J3 (n:=Dy.val m') (k:=1000)).1 (by rw [Dy.K5 may2];exact hl')
   rw [Dy.TH may1,Dy.TH may2]
   have hqs:Dy.LJ (Dy.val m) (Dy.val m') k=(k+1+(Dy.bl (Dy.val m'):Int)-(Dy.bl (Dy.val m):Int)).toNat:=rfl
   generalize Dy.LJ (Dy.val m) (Dy.val m') k=n at hqs ⊢
   have e1:(if IntKind.i64.wrap (IntKind.i64.wrap (IntKind.i64.wrap (k+1)+(Dy.bl (Dy.val m'):Int))-(Dy.bl (Dy.val m):Int))>0 then IntKind.i64.wrap (IntKind.i64.wrap (IntKind.i64.wrap (k+1)+(Dy.bl (Dy.val m'):Int))-(Dy.bl (Dy.val m):Int)) else 0)=(n:Int):=by
    rw [wrap_i64 (n:=k+1) (by omega) (by omega),wrap_i64 (n:=k+1+_) (by omega) (by omega),wrap_i64 (by omega) (by omega)]
    split<;>omega
   rw [e1,wrap_i64 (n:=(131072:Int)-_) (by omega) (by omega),wrap_i64 (n:=e-e') (by omega) (by omega),wrap_i64 (n:=e-e'-_) (by omega) (by omega),Dy.CK may1 n (by omega)]
   refine B1 (decide_eq_false (by omega)) ?_
   rintro _ rfl _-_ -
   have hX:Dy.bl (Dy.val m*2^n)≤131072:=D9 (Dy.Y0 b1) (by omega)
   have may3:Dy.may (Dy.dg (Dy.val m*2^n))=true:=Dy.T9.2 (Dy.R0.2 hX)
   have hq:Dy.UB (Dy.dg (Dy.val m*2^n)) m'=⟨Dy.dg (Dy.val m*2^n/Dy.val m'),Dy.dg (Dy.val m*2^n%Dy.val m'),0⟩:=by
    unfold Dy.UB
    rw [may3,may2,if_pos (show (true&&true)=true from rfl),if_neg v2,Dy.E3]
   rw [hq]
   have hQ:Dy.bl (Dy.val m*2^n/Dy.val m')≤131072:=D9 (Dy.K1 (L1 _ _)) hX
   rintro _ rfl _ rfl _ -
   refine ⟨⟨Dy.T9.2 (Dy.R0.2 hQ),by omega,by omega,by omega,hk⟩,?_⟩
   rw [Dy.E3,Dy.A02]
   rintro _ rfl _ rfl _ rfl _ rfl _ rfl
   rfl
 ·cases h
theorem A6s {m:List Nat} {e k n:Int} (may1:Dy.may m=true) (x1: -16777216≤e∧e≤16777216) (hk1:1≤k) (hk:k≤8192) (hn1: -200000≤n) (hn2:(Dy.bl (Dy.val m):Int)+n≤131072) (hn3:(e-n)%2=0)
  {Q:AV→Prop} (hQ:Q (.tup [avD [0] (Dy.O5 false (Dy.isq (Dy.sh2 (Dy.val m) n)) ((e-n)/2) (Dy.VU (Dy.val m) n||decide (Dy.isq (Dy.sh2 (Dy.val m) n)*Dy.isq (Dy.sh2 (Dy.val m) n)≠Dy.sh2 (Dy.val m) n)) k).num,
   .bool (Dy.O5 false (Dy.isq (Dy.sh2 (Dy.val m) n)) ((e-n)/2) (Dy.VU (Dy.val m) n||decide (Dy.isq (Dy.sh2 (Dy.val m) n)*Dy.isq (Dy.sh2 (Dy.val m) n)≠Dy.sh2 (Dy.val m) n)) k).lost,
   .num .i64 (Dy.O5 false (Dy.isq (Dy.sh2 (Dy.val m) n)) ((e-n)/2) (Dy.VU (Dy.val m) n||decide (Dy.isq (Dy.sh2 (Dy.val m) n)*Dy.isq (Dy.sh2 (Dy.val m) n)≠Dy.sh2 (Dy.val m) n)) k).err])):
  ∀l1,l1=(Dy.H3 m n).mag→∀b2,b2=(Dy.H3 m n).lost→∀n3,n3=(Dy.H3 m n).err→∀l4,l4=(Dy.HG l1).mag→∀b5,b5=(Dy.HG l1).exact→∀n6,n6=(Dy.HG l1).err→
   bif b2 then (Dy.may l4=true∧ -1099511627776≤IntKind.i64.wrap ((IntKind.i64.wrap (e-n)).tdiv 2)∧IntKind.i64.wrap ((IntKind.i64.wrap (e-n)).tdiv 2)≤1099511627776∧1≤k∧k≤8192)∧
    ∀b7,b7=(Dy.O5 false (Dy.val l4) (IntKind.i64.wrap ((IntKind.i64.wrap (e-n)).tdiv 2)) true k).num.neg→∀l8,l8=(Dy.O5 false (Dy.val l4) (IntKind.i64.wrap ((IntKind.i64.wrap (e-n)).tdiv 2)) true k).num.mag→
    ∀n9,n9=(Dy.O5 false (Dy.val l4) (IntKind.i64.wrap ((IntKind.i64.wrap (e-n)).tdiv 2)) true k).num.exp→∀b10,b10=(Dy.O5 false (Dy.val l4) (IntKind.i64.wrap ((IntKind.i64.wrap (e-n)).tdiv 2)) true k).lost→
    ∀n11,n11=(Dy.O5 false (Dy.val l4) (IntKind.i64.wrap ((IntKind.i64.wrap (e-n)).tdiv 2)) true k).err→Q (.tup [.agg [.bool b7,.dig [0] l8,.num .i64 n9],.bool b10,.num .i64 n11])
   else (Dy.may l4=true∧ -1099511627776≤IntKind.i64.wrap ((IntKind.i64.wrap (e-n)).tdiv 2)∧IntKind.i64.wrap ((IntKind.i64.wrap (e-n)).tdiv 2)≤1099511627776∧1≤k∧k≤8192)∧
    ∀b7,b7=(Dy.O5 false (Dy.val l4) (IntKind.i64.wrap ((IntKind.i64.wrap (e-n)).tdiv 2)) (!b5) k).num.neg→∀l8,l8=(Dy.O5 false (Dy.val l4) (IntKind.i64.wrap ((IntKind.i64.wrap (e-n)).tdiv 2)) (!b5) k).num.mag→
    ∀n9,n9=(Dy.O5 false (Dy.val l4) (IntKind.i64.wrap ((IntKind.i64.wrap (e-n)).tdiv 2)) (!b5) k).num.exp→∀b10,b10=(Dy.O5 false (Dy.val l4) (IntKind.i64.wrap ((IntKind.i64.wrap (e-n)).tdiv 2)) (!b5) k).lost→
    ∀n11,n11=(Dy.O5 false (Dy.val l4) (IntKind.i64.wrap ((IntKind.i64.wrap (e-n)).tdiv 2)) (!b5) k).err→Q (.tup [.agg [.bool b7,.dig [0] l8,.num .i64 n9],.bool b10,.num .i64 n11]):=by
 have hb:=Dy.O8 may1
 have we:IntKind.i64.wrap ((IntKind.i64.wrap (e-n)).tdiv 2)=(e-n)/2:=by
  rw [wrap_i64 (n:=e-n) (by omega) (by omega)]
  rw [Dy.A75 hn3,wrap_i64 (by omega) (by omega)]
 have hsh:(Dy.H3 m n).mag=Dy.dg (Dy.sh2 (Dy.val m) n)∧(Dy.H3 m n).lost=Dy.VU (Dy.val m) n∧Dy.bl (Dy.sh2 (Dy.val m) n)≤131072:=by
  unfold Dy.sh2 Dy.VU
  by_cases c:n<0
  ·obtain ⟨j,hj⟩:∃j:Nat,n= -(j:Int):=⟨(-n).toNat,by omega⟩
   subst hj
   rw [if_pos c,Int.neg_neg,A2]
   refine ⟨Dy.o4 may1 j,?_,D9 (Dy.K1 (L1 _ _)) hb⟩
   rw [Dy.RT may1,decide_eq_decide]
   exact ⟨fun h=>⟨c,h⟩,fun h=>h.2⟩
  ·obtain ⟨j,hj⟩:∃j:Nat,n=(j:Int):=⟨n.toNat,by omega⟩
   subst hj
   rw [if_neg c,A2]
   refine ⟨Dy.CK may1 j (by omega),?_,D9 (Dy.Y0 (I6 _)) (by omega)⟩
   rw [Dy.XM may1 j (by omega),decide_eq_false (fun h=>c h.1)]
 obtain ⟨h1,h2,h3⟩:=hsh
 rw [we,h1,h2]
 generalize Dy.sh2 (Dy.val m) n=X at*
 generalize Dy.VU (Dy.val m) n=f at*
 rintro _ rfl _ rfl _ -
 have hr:Dy.HG (Dy.dg X)=⟨Dy.dg (Dy.isq X),decide (Dy.isq X*Dy.isq X=X),0⟩:=by
  unfold Dy.HG
  rw [if_pos (Dy.T9.2 (Dy.R0.2 h3)),Dy.E3]
 rw [hr]
 rintro _ rfl _ rfl _ -
 have hq:Dy.may (Dy.dg (Dy.isq X))=true:=Dy.T9.2 (Dy.R0.2 (D9 (Dy.K1 (Dy.C8g X)) h3))
 rw [Dy.E3]
 have hdn:(!decide (Dy.isq X*Dy.isq X=X))=decide (Dy.isq X*Dy.isq X≠X):=by simp
 simp only
 rw [hdn]
 refine A8 (fun c=> ?_) (fun c=> ?_)
 ·refine ⟨⟨hq,by omega,by omega,hk1,hk⟩,?_⟩
  rw [c] at hQ
  rintro _ rfl _ rfl _ rfl _ rfl _ rfl
  exact hQ
 ·refine ⟨⟨hq,by omega,by omega,hk1,hk⟩,?_⟩
  rw [c] at hQ
  rintro _ rfl _ rfl _ rfl _ rfl _ rfl
  exact hQ
theorem A98 (args:List AV) (s:Spec) (h:C7g args=some s) (hp:C6 s.pre True):Contract Tryz.prog Inv 76 args s.res:=by
 unfold C7g at h
 split at h
 ·cases h
  rename_i s m e k
  refine A4 false NT Tryz.func76 (by kernel_rfl) (by kernel_rfl) fun hok=> ?_
  rw [B0y]
  unfold Dy.BD
  simp only
  refine A8 (fun h=> ?_) (fun h=> ?_)
  ·simp only [G0] at h
   rw [h];rfl
  simp only [F1] at h
  rw [h]
  simp only [AT]
  refine A8 (fun h2=> ?_) (fun h2=> ?_)
  ·simp only [G0,decide_eq_false_iff_not] at h2
   unfold Dy.NC at h2 ⊢
   by_cases c1:k<1
   ·rw [if_pos c1,if_neg (by rw [decide_eq_true_eq];omega)];rfl
   rw [if_neg c1] at h2 ⊢
   rw [if_pos (decide_eq_true (by omega))]
   by_cases c:8192<k
   ·rw [if_pos c,if_neg (by omega)];rfl
   ·rw [if_neg c] at h2;exact absurd rfl h2
  simp only [F1,decide_eq_true_eq] at h2
  obtain ⟨hk1,hk⟩:1≤k∧k≤8192:=by
   unfold Dy.NC at h2
   by_cases c1:k<1
   ·rw [if_pos c1] at h2;exact absurd h2 (by decide)
   rw [if_neg c1] at h2
   by_cases c:8192<k
   ·rw [if_pos c] at h2;exact absurd h2 (by decide)
   ·omega
  rw [if_pos (decide_eq_true hk1),if_pos hk]
  refine A8 (fun h3=> ?_) (fun h3=> ?_)
  ·have h3:=G5.1 (P6.1 (A1 h3))
   rw [if_pos h3];rfl
  have h3:=A0 h3
  have m0:m≠[]:=fun e=>h3 (by rw [e];rfl)
  rw [if_neg m0]
  cases s with
  |true=>exact rfl
  |false=>
   have may1:=Dy.C1 h
   have x1:=Dy.J2 h
   have b1:=Dy.O8 may1
   refine B1 rfl ?_
   rw [if_neg (by decide),Dy.TH may1,D2d]
   unfold Dy.QJ Dy.DY
   rw [wrap_i64 (n:=2*k) (by omega) (by omega),wrap_i64 (n:=2*k+2) (by omega) (by omega),wrap_i64 (n:=2*k+2-_) (by omega) (by omega),wrap_i64 (n:=2*k+2-_+1) (by omega) (by omega),wrap_i64 (n:=e-(2*k+2-(Dy.bl (Dy.val m):Int))) (by omega) (by omega)]
   refine A8 (fun h4=> ?_) (fun h4=> ?_)
   ·simp only [G0,decide_eq_false_iff_not] at h4
    rw [if_neg h4]
    exact A6s (Q:=fun r=>r=_) may1 x1 hk1 hk (by omega) (by omega) (by omega) rfl
   ·simp only [F1,decide_eq_true_eq] at h4
    rw [if_pos h4]
    have:=A6s (Q:=fun r=>r=(.tup [avD [0] (Dy.O5 false (Dy.isq (Dy.sh2 (Dy.val m) (2*k+2-(Dy.bl (Dy.val m):Int)))) ((e-(2*k+2-(Dy.bl (Dy.val m):Int)))/2) (Dy.VU (Dy.val m) (2*k+2-(Dy.bl (Dy.val m):Int))||decide (Dy.isq (Dy.sh2 (Dy.val m) (2*k+2-(Dy.bl (Dy.val m):Int)))*Dy.isq (Dy.sh2 (Dy.val m) (2*k+2-(Dy.bl (Dy.val m):Int)))≠Dy.sh2 (Dy.val m) (2*k+2-(Dy.bl (Dy.val m):Int)))) k).num,
     .bool (Dy.O5 false (Dy.isq (Dy.sh2 (Dy.val m) (2*k+2-(Dy.bl (Dy.val m):Int)))) ((e-(2*k+2-(Dy.bl (Dy.val m):Int)))/2) (Dy.VU (Dy.val m) (2*k+2-(Dy.bl (Dy.val m):Int))||decide (Dy.isq (Dy.sh2 (Dy.val m) (2*k+2-(Dy.bl (Dy.val m):Int)))*Dy.isq (Dy.sh2 (Dy.val m) (2*k+2-(Dy.bl (Dy.val m):Int)))≠Dy.sh2 (Dy.val m) (2*k+2-(Dy.bl (Dy.val m):Int)))) k).lost,
     .num .i64 (Dy.O5 false (Dy.isq (Dy.sh2 (Dy.val m) (2*k+2-(Dy.bl (Dy.val m):Int)))) ((e-(2*k+2-(Dy.bl (Dy.val m):Int)))/2) (Dy.VU (Dy.val m) (2*k+2-(Dy.bl (Dy.val m):Int))||decide (Dy.isq (Dy.sh2 (Dy.val m) (2*k+2-(Dy.bl (Dy.val m):Int)))*Dy.isq (Dy.sh2 (Dy.val m) (2*k+2-(Dy.bl (Dy.val m):Int)))≠Dy.sh2 (Dy.val m) (2*k+2-(Dy.bl (Dy.val m):Int)))) k).err]))
     may1 x1 hk1 hk (n:=2*k+2-(Dy.bl (Dy.val m):Int)) (by omega) (by omega) h4 rfl
    rw [wrap_i64 (n:=e-(2*k+2-(Dy.bl (Dy.val m):Int))) (by omega) (by omega)] at this
    exact this
 ·cases h
theorem A6a {q:Nat} {neg x:Bool} {u k:Int} (hq:Dy.bl q≤131072) (hu: -100000000≤u∧u≤100000000) (hk:1≤k) {Q:AV→Prop} (hQ:Q (.tup [avD [0] (Dy.F6 (Dy.form neg q u) k).1,.bool ((Dy.F6 (Dy.form neg q u) k).2||x)])):
  (Dy.dg (Dy.val (Dy.dg q))=Dy.dg q∧(Dy.dg q).length≤1048576∧ -1099511627776≤u∧u≤1099511627776)∧
  ∀b3,b3=(Dy.form neg (Dy.val (Dy.dg q)) u).neg→∀l4,l4=(Dy.form neg (Dy.val (Dy.dg q)) u).mag→∀n5,n5=(Dy.form neg (Dy.val (Dy.dg q)) u).exp→
   (Dy.dg (Dy.val l4)=l4∧l4.length≤4096∧Dy.tz (Dy.val l4)=0∧ -1099511627776≤n5∧n5+131072≤1099511627776∧1≤k)∧
   ∀b6,b6=(Dy.F6 (Dy.Dyd.mk b3 l4 n5) k).1.neg→∀l7,l7=(Dy.F6 (Dy.Dyd.mk b3 l4 n5) k).1.mag→∀n8,n8=(Dy.F6 (Dy.Dyd.mk b3 l4 n5) k).1.exp→∀b9,b9=(Dy.F6 (Dy.Dyd.mk b3 l4 n5) k).snd→
    bif b9 then Q (.tup [.agg [.bool b6,.dig [0] l7,.num .i64 n8],.bool true]) else Q (.tup [.agg [.bool b6,.dig [0] l7,.num .i64 n8],.bool x]):=by
 refine ⟨⟨by rw [Dy.E3],Dy.BY (by omega),by omega,by omega⟩,?_⟩
 rw [Dy.E3]
 obtain ⟨f1,f2,f3,f4,f5⟩:=Dy.OV (s:=neg) (n:=q) (e:=u)
 rintro _ rfl _ rfl _ rfl
 have hl:(Dy.form neg q u).mag.length≤4096:=by
  rw [←f1]
  exact Dy.R0.2 (by omega)
 refine ⟨⟨f1,hl,f2,by omega,by omega,hk⟩,?_⟩
 rintro _ rfl _ rfl _ rfl _ rfl
 refine A8 (fun c=> ?_) (fun c=> ?_)
 ·have c:(Dy.F6 (Dy.form neg q u) k).2=true:=c
  rw [c] at hQ
  exact hQ
 ·have c:(Dy.F6 (Dy.form neg q u) k).2=false:=c
  rw [c] at hQ
  exact hQ
theorem A6t {N:Nat} {m':List Nat} {neg:Bool} {u k:Int} (hm:Dy.may m'=true) (h0:m'≠[]) (hN:Dy.bl N≤131072) (hu: -100000000≤u∧u≤100000000) (hk:1≤k)
  {Q:AV→Prop} (hQ:Q (.tup [avD [0] (Dy.F6 (Dy.form neg (N/Dy.val m') u) k).1,.bool ((Dy.F6 (Dy.form neg (N/Dy.val m') u) k).2||decide (N%Dy.val m'≠0))])):
  (Dy.dg (Dy.val (Dy.dg N))=Dy.dg N∧Dy.dg (Dy.val m')=m'∧m'≠[]∧(Dy.dg N).length≤100000∧m'.length≤100000)∧
  ∀l1,l1=Dy.dg (Dy.val (Dy.dg N)/Dy.val m')→∀l2,l2=Dy.dg (Dy.val (Dy.dg N)%Dy.val m')→
  (Dy.dg (Dy.val l1)=l1∧l1.length≤1048576∧ -1099511627776≤u∧u≤1099511627776)∧
  ∀b3,b3=(Dy.form neg (Dy.val l1) u).neg→∀l4,l4=(Dy.form neg (Dy.val l1) u).mag→∀n5,n5=(Dy.form neg (Dy.val l1) u).exp→
   (Dy.dg (Dy.val l4)=l4∧l4.length≤4096∧Dy.tz (Dy.val l4)=0∧ -1099511627776≤n5∧n5+131072≤1099511627776∧1≤k)∧
   ∀b6,b6=(Dy.F6 (Dy.Dyd.mk b3 l4 n5) k).1.neg→∀l7,l7=(Dy.F6 (Dy.Dyd.mk b3 l4 n5) k).1.mag→∀n8,n8=(Dy.F6 (Dy.Dyd.mk b3 l4 n5) k).1.exp→∀b9,b9=(Dy.F6 (Dy.Dyd.mk b3 l4 n5) k).snd→
    bif b9 then Q (.tup [.agg [.bool b6,.dig [0] l7,.num .i64 n8],.bool true]) else Q (.tup [.agg [.bool b6,.dig [0] l7,.num .i64 n8],.bool (decide ((l2.length:Int)>0))]):=by
 refine ⟨⟨by rw [Dy.E3],Dy.K5 hm,h0,?_,by have:=Dy.J4 hm;omega⟩,?_⟩
 ·have:=Dy.R0.2 hN;omega
 rw [Dy.E3]
 rintro _ rfl _ rfl
 rw [Dy.A02]
 exact A6a (D9 (Dy.K1 (L1 _ _)) hN) hu hk hQ
theorem LK {N:Nat} {u k:Int} (hN:Dy.bl N≤160000) (hu: -100000000≤u∧u≤100000000) (hk:1≤k)
  {Q:AV→Prop} (hQ:Q (.tup [avD [0] (Dy.F6 (Dy.form false (Dy.isq N) u) k).1,.bool ((Dy.F6 (Dy.form false (Dy.isq N) u) k).2||decide (Dy.isq N*Dy.isq N≠N))])):
  (Dy.dg (Dy.val (Dy.dg N))=Dy.dg N∧(Dy.dg N).length≤100000)∧
  ∀l1,l1=Dy.dg (Dy.isq (Dy.val (Dy.dg N)))→∀b2,b2=decide (Dy.isq (Dy.val (Dy.dg N))*Dy.isq (Dy.val (Dy.dg N))=Dy.val (Dy.dg N))→
  (Dy.dg (Dy.val l1)=l1∧l1.length≤1048576∧ -1099511627776≤u∧u≤1099511627776)∧
  ∀b3,b3=(Dy.form false (Dy.val l1) u).neg→∀l4,l4=(Dy.form false (Dy.val l1) u).mag→∀n5,n5=(Dy.form false (Dy.val l1) u).exp→
   (Dy.dg (Dy.val l4)=l4∧l4.length≤4096∧Dy.tz (Dy.val l4)=0∧ -1099511627776≤n5∧n5+131072≤1099511627776∧1≤k)∧
   ∀b6,b6=(Dy.F6 (Dy.Dyd.mk b3 l4 n5) k).1.neg→∀l7,l7=(Dy.F6 (Dy.Dyd.mk b3 l4 n5) k).1.mag→∀n8,n8=(Dy.F6 (Dy.Dyd.mk b3 l4 n5) k).1.exp→∀b9,b9=(Dy.F6 (Dy.Dyd.mk b3 l4 n5) k).snd→
    bif b9 then Q (.tup [.agg [.bool b6,.dig [0] l7,.num .i64 n8],.bool true]) else Q (.tup [.agg [.bool b6,.dig [0] l7,.num .i64 n8],.bool !b2]):=by
 refine ⟨⟨by rw [Dy.E3],?_⟩,?_⟩
 ·exact D9 (Dy.J3 (k:=5000).2 (by omega)) (by omega)
 rw [Dy.E3]
 rintro _ rfl _ rfl
 have hdn:(!decide (Dy.isq N*Dy.isq N=N))=decide (Dy.isq N*Dy.isq N≠N):=by simp
 rw [hdn]
 exact A6a (Dy.C8f (by omega)) hu hk hQ
theorem B4b (args:List AV) (s:Spec) (h:D09 args=some s) (hp:C6 s.pre True):Contract Tryz.prog Inv 197 args s.res:=by
 unfold D09 at h
 split at h
 ·cases h
  rename_i s m e s' m' e' k
  obtain ⟨⟨hd,hd',m0',hk1,hk,hl,hl'⟩, -⟩:=hp
  refine A4 false NT Tryz.func197 (by kernel_rfl) (by kernel_rfl) fun hok=> ?_
  rw [B7g]
  unfold Dy.GC
  simp only
  have may1:=Dy.C1 hd
  have may2:=Dy.C1 hd'
  have x1:=Dy.J2 hd
  have x2:=Dy.J2 hd'
  have b1:Dy.bl (Dy.val m)≤32000:=(Dy.J3 (n:=Dy.val m) (k:=1000)).1 (by rw [Dy.K5 may1];exact hl)
  have b2:Dy.bl (Dy.val m')≤32000:=(Dy.J3 (n:=Dy.val m') (k:=1000)).1 (by rw [Dy.K5 may2];exact hl')
  refine A8 (fun h3=> ?_) (fun h3=> ?_)
  ·have h3:=G5.1 (P6.1 (A1 h3))
   rw [if_pos h3];rfl
  have h3:=A0 h3
  have m0:m≠[]:=fun e=>h3 (by rw [e];rfl)
  rw [if_neg m0]
  have hqs:Dy.LJ (Dy.val m) (Dy.val m') k=(k+1+(Dy.bl (Dy.val m'):Int)-(Dy.bl (Dy.val m):Int)).toNat:=rfl
  generalize Dy.LJ (Dy.val m) (Dy.val m') k=n at hqs ⊢
  have w1:IntKind.i64.wrap (IntKind.i64.wrap (IntKind.i64.wrap (k+1)+(Dy.bl (Dy.val m'):Int))-(Dy.bl (Dy.val m):Int))=k+1+(Dy.bl (Dy.val m'):Int)-(Dy.bl (Dy.val m):Int):=by
   rw [wrap_i64 (n:=k+1) (by omega) (by omega),wrap_i64 (n:=k+1+_) (by omega) (by omega),wrap_i64 (by omega) (by omega)]
  have hX:Dy.bl (Dy.val m*2^n)≤131072:=D9 (Dy.Y0 b1) (by omega)
  rw [w1,wrap_i64 (n:=e-e') (by omega) (by omega)]
  refine ⟨⟨Dy.K5 may2,by omega⟩,⟨Dy.K5 may1,by omega⟩,A8 (fun h4=> ?_) (fun h4=> ?_)⟩
  ·have h4:=A1 h4
   have hn:n=0:=by omega
   subst hn
   refine ⟨⟨by omega,by omega,by omega⟩,?_⟩
   rw [wrap_i64 (n:=e-e'-0) (by omega) (by omega)]
   exact A6t (Q:=fun r=>r=_) (u:=e-e'-0) may2 m0' hX (by omega) hk1 rfl
  ·have h4:=A0 h4
   have hn:k+1+(Dy.bl (Dy.val m'):Int)-(Dy.bl (Dy.val m):Int)=(n:Int):=by omega
   rw [hn,A2,wrap_i64 (n:=e-e'-_) (by omega) (by omega)]
   refine ⟨⟨by omega,by omega,by omega⟩,?_⟩
   exact A6t (Q:=fun r=>r=_) (u:=e-e'-n) may2 m0' hX (by omega) hk1 rfl
 ·cases h
theorem A9m (args:List AV) (s:Spec) (h:C11 args=some s) (hp:C6 s.pre True):Contract Tryz.prog Inv 42 args s.res:=by
 unfold C11 at h
 split at h
 ·cases h
  rename_i s m e k
  obtain ⟨⟨hd,hk1,hk⟩, -⟩:=hp
  refine A4 false NT Tryz.func42 (by kernel_rfl) (by kernel_rfl) fun hok=> ?_
  rw [B1b]
  unfold Dy.C3
  simp only
  have may1:=Dy.C1 hd
  have x1:=Dy.J2 hd
  have b1:=Dy.O8 may1
  have n1:=Dy.J4 may1
  rw [wrap_i64 (n:=2*k) (by omega) (by omega),wrap_i64 (n:=2*k+2) (by omega) (by omega),wrap_i64 (n:=2*k+2-_) (by omega) (by omega)]
  have even:∀x:Int,decide (x.tmod 2=0)=decide (x%2=0):=fun x=>by rw [decide_eq_decide];exact Dy.D1p x
  have half:∀n:Nat,n≤200000→(e-(n:Int))%2=0→IntKind.i64.wrap ((IntKind.i64.wrap (e-(n:Int))).tdiv 2)=(e-(n:Int))/2:=fun n hn h=>by
   rw [wrap_i64 (n:=e-(n:Int)) (by omega) (by omega),Dy.A75 h,wrap_i64 (by omega) (by omega)]
  have hN:∀n:Nat,(n:Int)≤max 1 (2*k+3-(Dy.bl (Dy.val m):Int))→Dy.bl (Dy.val m*2^n)≤160000:=fun n hn=>D9 (Dy.Y0 (I6 _)) (by omega)
  unfold Dy.U5 Dy.DY
  refine ⟨⟨Dy.K5 may1,by omega⟩,A8 (fun h4=> ?_) (fun h4=> ?_)⟩
  ·have h4:=A1 h4
   rw [if_pos h4,even,wrap_i64 (n:=e-0) (by omega) (by omega),wrap_i64 (n:=(0:Int)+1) (by omega) (by omega)]
   refine A8 (fun h5=> ?_) (fun h5=> ?_)
   ·simp only [G0,decide_eq_false_iff_not] at h5
    rw [if_neg h5]
    refine ⟨⟨by omega,by omega,by omega⟩,?_⟩
    have:=half 1 (by omega) (by omega)
    rw [show ((1:Nat):Int)=0+1 from rfl] at this
    rw [this]
    exact LK (Q:=fun r=>r=_) (u:=(e-(0+1))/2) (hN 1 (by omega)) (by omega) hk1 rfl
   ·simp only [F1,decide_eq_true_eq] at h5
    rw [if_pos h5]
    refine ⟨⟨by omega,by omega,by omega⟩,?_⟩
    have:=half 0 (by omega) h5
    rw [show ((0:Nat):Int)=0 from rfl,wrap_i64 (n:=e-0) (by omega) (by omega)] at this
    rw [this]
    exact LK (Q:=fun r=>r=_) (u:=(e-0)/2) (hN 0 (by omega)) (by omega) hk1 rfl
  ·have h4:=A0 h4
   obtain ⟨n,hn⟩:∃n:Nat,2*k+2-(Dy.bl (Dy.val m):Int)=(n:Int):=⟨(2*k+2-(Dy.bl (Dy.val m):Int)).toNat,by omega⟩
   rw [if_neg h4,hn,even,wrap_i64 (n:=e-n) (by omega) (by omega),wrap_i64 (n:=(n:Int)+1) (by omega) (by omega)]
   refine A8 (fun h5=> ?_) (fun h5=> ?_)
   ·simp only [G0,decide_eq_false_iff_not] at h5
    rw [if_neg h5]
    refine ⟨⟨by omega,by omega,by omega⟩,?_⟩
    have:=half (n+1) (by omega) (by omega)
    rw [show ((n+1:Nat):Int)=(n:Int)+1 from rfl] at this
    rw [this]
    exact LK (Q:=fun r=>r=_) (u:=(e-((n:Int)+1))/2) (hN (n+1) (by omega)) (by omega) hk1 rfl
   ·simp only [F1,decide_eq_true_eq] at h5
    rw [if_pos h5]
    refine ⟨⟨by omega,by omega,by omega⟩,?_⟩
    have:=half n (by omega) h5
    rw [wrap_i64 (n:=e-n) (by omega) (by omega)] at this
    rw [this]
    exact LK (Q:=fun r=>r=_) (u:=(e-n)/2) (hN n (by omega)) (by omega) hk1 rfl
 ·cases h
theorem LD:G6 Tryz.prog Inv (look B68):=A3 (A3 (A3 (A3 NT A9m) B4b) A98) B3s
end Go.AI

namespace Go.Dy
theorem C7s {s:Bool} {q:Nat} {e:Int} {t:Nat} (h:q%2^t=0):form s (q/2^t) (e+t)=form s q e:=by
 rw [←EW,Nat.div_mul_cancel (Z8 h)]
theorem r8 (s:Bool) (q:Nat) (e k:Int) (hk:1≤k):
  F6 (form s q e) k=(form s (q/2^((bl q:Int)-k).toNat) (e+(((bl q:Int)-k).toNat:Int)),decide (q%2^((bl q:Int)-k).toNat≠0)):=by
 generalize ht:((bl q:Int)-k).toNat=t
 by_cases h0:q=0
 ·subst h0
  rw [Nat.zero_div,Nat.zero_mod,Y2,Y2]
  unfold F6 HF
  rw [if_pos (by show (0:Int)-k≤0;omega)]
  rfl
 ·have hz:=Z2 h0
  have hb:bl (q/2^tz q)=bl q-tz q:=C5 q (tz q)
  have hd:=EN h0 t
  have ho:HF (form s q e) k=(bl q:Int)-tz q-k:=by
   rw [H6 h0]
   unfold HF
   simp only [E3]
   rw [hb]
   omega
  unfold F6
  by_cases c:t≤tz q
  ·rw [if_pos (by omega),C7s (hd.2 c),decide_eq_false (by simpa using hd.2 c)]
  ·rw [if_neg (by omega),decide_eq_true (show q%2^t≠0 from fun h=>c (hd.1 h))]
   congr 1
   unfold headD
   rw [ho,H6 h0]
   simp only [E3]
   have:((bl q:Int)-tz q-k).toNat=t-tz q:=by omega
   rw [this,K7,←B8,show tz q+(t-tz q)=t by omega,show e+(tz q:Int)+((bl q:Int)-tz q-k)=e+(t:Int) by omega]
theorem B35 (s:Bool) (q:Nat) (e:Int) (more:Bool) (k:Int) (hk1:1≤k) (hk:k≤8192):
  O5 s q e more k=if inside (F6 (form s q e) k).1.exp then ⟨(F6 (form s q e) k).1,(F6 (form s q e) k).2||more,0⟩ else ⟨L7,false,20⟩:=by
 rw [r8 s q e k hk1]
 unfold O5
 generalize ht:((bl q:Int)-k).toNat=t
 have hb:bl (q/2^t)≤131072:=by rw [C5];omega
 obtain ⟨f1,f2,f3,f4,f5⟩:=OV (s:=s) (n:=q/2^t) (e:=e+t)
 have hl:(form s (q/2^t) (e+t)).mag.length≤4096:=by
  rw [←f1]
  exact R0.2 (by omega)
 have hB:I2 (form s (q/2^t) (e+t))=if inside (form s (q/2^t) (e+t)).exp then (form s (q/2^t) (e+t),0) else (L7,20):=by
  unfold I2
  rw [if_pos hl]
 rw [hB]
 simp only
 cases inside (form s (q/2^t) (e+t)).exp with
 |true=>simp
 |false=>simp
theorem A88 (X j:Nat):isq (X/2^(2*j))=isq X/2^j:=by
 have hp:=A9 j
 have e2:2^(2*j)=2^j*2^j:=by rw [←B8,show 2*j=j+j by omega]
 rw [e2]
 obtain ⟨h1,h2⟩:=W3 X
 generalize hP:2^j=P at*
 have hPP:0<P*P:=U9 hp hp
 have hd:=Nat.div_add_mod (isq X) P
 have hm:=Nat.mod_lt (isq X) hp
 generalize isq X=r at*
 generalize hw:r/P=w at*
 refine GV ?_ ?_
 ·rw [Nat.le_div_iff_mul_le hPP]
  have:P*w≤r:=by omega
  have h3:=I7 this this
  rw [F7] at h3
  rw [B6 (w*w)]
  omega
 ·rw [Nat.div_lt_iff_lt_mul hPP]
  have:r+1≤P*(w+1):=by rw [Nat.mul_add];omega
  have h3:=I7 this this
  rw [F7 P] at h3
  rw [B6 ((w+1)*(w+1))]
  omega
theorem C66 (X j t:Nat):(decide (isq X/2^j%2^t≠0)||(decide (X%2^(2*j)≠0)||decide (isq X/2^j*(isq X/2^j)≠X/2^(2*j))))=(decide (isq X%2^(j+t)≠0)||decide (isq X*isq X≠X)):=by
 have e2:2^(2*j)=2^j*2^j:=by rw [←B8,show 2*j=j+j by omega]
 have hi:=A88 X j
 rw [Bool.eq_iff_iff]
 simp only [Bool.or_eq_true,decide_eq_true_eq]
 have key:(isq X%2^(j+t)=0∧isq X*isq X=X) ↔ (isq X/2^j%2^t=0∧X%2^(2*j)=0∧isq X/2^j*(isq X/2^j)=X/2^(2*j)):=by
  have hp:=A9 j
  rw [e2] at hi ⊢
  rw [B8]
  generalize 2^j=P at*
  generalize 2^t=T at*
  constructor
  ·rintro ⟨h1,h2⟩
   obtain ⟨w,hw⟩:=Z8 h1
   have e3:isq X/P=T*w:=by rw [hw,B9,j2 _ hp]
   have e4:X=P*P*(T*w*(T*w)):=by
    rw [F7 P P,←B9 P T w,←hw]
    exact h2.symm
   refine ⟨by rw [e3,HY],?_,?_⟩
   ·rw [e4,HY]
   ·rw [e3]
    conv=>rhs;rw [e4]
    rw [j2 _ (U9 hp hp)]
  ·rintro ⟨h1,h2,h3⟩
   obtain ⟨w,hw⟩:=Z8 h1
   obtain ⟨v,hv⟩:=Z8 h2
   rw [hv,j2 _ (U9 hp hp),←hv,hw] at h3
   have e4:X=(P*T*w)*(P*T*w):=by
    rw [hv,←h3,B9 P T w,F7 P (T*w)]
   have e5:isq X=P*T*w:=by
    refine GV (by omega) ?_
    rw [e4]
    exact Nat.mul_lt_mul'' (by omega) (by omega)
   refine ⟨by rw [e5,HY],by rw [e5];exact e4.symm⟩
 constructor
 ·intro h
  refine G8 fun c=> ?_
  have:=key.1 ⟨G8 fun d=>c (.inl d),G8 fun d=>c (.inr d)⟩
  rcases h with h|h|h
  ·exact h this.1
  ·exact h this.2.1
  ·exact h this.2.2
 ·intro h
  refine G8 fun c=> ?_
  have:=key.2 ⟨G8 fun d=>c (.inl d),G8 fun d=>c (.inr (.inl d)),G8 fun d=>c (.inr (.inr d))⟩
  rcases h with h|h
  ·exact h this.1
  ·exact h this.2
theorem D3e {a b:Dyd} {k:Int} (ha:A5 a=true) (hb:A5 b=true) (h0:b.mag≠[]) (hk1:1≤k) (hk:k≤8192):
  A4n a b k=if inside (GC a b k).1.exp then ⟨(GC a b k).1,(GC a b k).2,0⟩ else ⟨L7,false,20⟩:=by
 unfold A4n GC
 rw [ha,hb,if_pos (by simpa using hk1),if_pos hk,if_neg h0]
 by_cases c:a.mag=[]
 ·rw [if_pos c,if_pos c]
  rfl
 ·rw [if_neg c,if_neg c,B35 _ _ _ _ _ hk1 hk]
theorem KS (e n:Int):(e-DY e n)%2=0∧n≤DY e n∧DY e n≤n+1:=by
 unfold DY
 split<;>omega
theorem D0f {d:Dyd} {k:Int} (hd:A5 d=true) (hn:d.neg=false) (h0:d.mag≠[]) (hk1:1≤k) (hk:k≤8192):
  BD d k=if inside (C3 d k).1.exp then ⟨(C3 d k).1,(C3 d k).2,0⟩ else ⟨L7,false,20⟩:=by
 obtain ⟨s,m,e⟩:=d
 have h0:m≠[]:=h0
 have hn:s=false:=hn
 subst hn
 have hm:=Q1 (C1 hd) h0
 unfold BD
 rw [hd,if_pos (by simpa using hk1),if_pos hk,if_neg h0]
 simp only [Bool.false_eq_true,if_false]
 rw [B35 _ _ _ _ _ hk1 hk]
 unfold C3
 simp only
 have hS:QJ (val m) e k=DY e (2*k+2-(bl (val m):Int)):=rfl
 obtain ⟨hS1,hS2,hS3⟩:=KS e (2*k+2-(bl (val m):Int))
 rw [←hS] at hS1 hS2 hS3
 obtain ⟨hZ1,hZ2,hZ3⟩:=KS e (if 2*k+2-(bl (val m):Int)<0 then 0 else 2*k+2-(bl (val m):Int))
 have hZ:U5 (val m) e k=(DY e (if 2*k+2-(bl (val m):Int)<0 then 0 else 2*k+2-(bl (val m):Int))).toNat:=rfl
 generalize hz0:(if 2*k+2-(bl (val m):Int)<0 then (0:Int) else 2*k+2-(bl (val m):Int))=z0 at hZ hZ1 hZ2 hZ3
 have hz1:0≤z0∧2*k+2-(bl (val m):Int)≤z0∧(0≤2*k+2-(bl (val m):Int)→z0=2*k+2-(bl (val m):Int)):=by
  rw [←hz0]
  split<;>omega
 have hpar:¬(2*k+2-(bl (val m):Int)<0)→(DY e z0)=QJ (val m) e k:=fun c=>by rw [hS,hz1.2.2 (by omega)]
 generalize QJ (val m) e k=n at*
 generalize hzz:DY e z0=z at*
 rw [hZ]
 generalize hM:val m=M at*
 by_cases c:n<0
 ·-- bits fall off in the one, in the other none
  obtain ⟨j,hj⟩:∃j:Nat,z=n+2*(j:Int):=⟨((z-n)/2).toNat,by
   have hzn:n≤z:=by
    by_cases c2:2*k+2-(bl M:Int)<0
    ·omega
    ·omega
   omega⟩
  obtain ⟨u,hu⟩:∃u:Nat,z=(u:Int):=⟨z.toNat,by omega⟩
  have hX:sh2 M n=M*2^u/2^(2*j):=by
   unfold sh2
   rw [if_pos c,show 2*j=u+(-n).toNat by omega,B8,←K7,Nat.mul_div_cancel _ (A9 _)]
  have hF:VU M n=decide (M*2^u%2^(2*j)≠0):=by
   unfold VU
   rw [decide_eq_decide,show 2*j=u+(-n).toNat by omega,B8,B6 M,Nat.mul_mod_mul_left]
   have:=A9 u
   constructor
   ·rintro ⟨-,h⟩ h2
    rcases Nat.mul_eq_zero.1 h2 with h3|h3
    ·omega
    ·exact h h3
   ·intro h
    exact ⟨c,fun h2=>h (by rw [h2,Nat.mul_zero])⟩
  rw [hX,hF,A88,hu,A2,r8 _ _ _ _ hk1,r8 _ _ _ _ hk1]
  have hbn:bl (isq (M*2^u)/2^j)=bl (isq (M*2^u))-j:=C5 _ _
  have hlow:k<(bl (isq (M*2^u)/2^j):Int):=by
   rw [←A88,←hX]
   have hbs:bl (sh2 M n)=bl M-(-n).toNat:=by
    unfold sh2
    rw [if_pos c]
    exact C5 _ _
   refine G8 fun h=> ?_
   have h1:bl (isq (sh2 M n))≤k.toNat:=by omega
   have h2:=(W3 (sh2 M n)).2
   have h3:=I8.1 h1
   have h4:=I7 (Nat.succ_le_of_lt h3) (Nat.succ_le_of_lt h3)
   rw [←B8] at h4
   have h5:bl (sh2 M n)≤k.toNat+k.toNat:=I8.2 (Nat.lt_of_lt_of_le h2 h4)
   omega
  have e1:(((bl (isq (M*2^u)):Nat):Int)-k).toNat=j+(((bl (isq (M*2^u)/2^j):Nat):Int)-k).toNat:=by omega
  rw [e1]
  generalize (((bl (isq (M*2^u)/2^j):Nat):Int)-k).toNat=t
  have e2:isq (M*2^u)/2^j/2^t=isq (M*2^u)/2^(j+t):=by rw [K7,←B8]
  have e3:(e-n)/2+(t:Int)=(e-(u:Int))/2+((j+t:Nat):Int):=by omega
  simp only
  rw [C66,e2,e3]
 ·have hz:z=n:=by
   by_cases c2:2*k+2-(bl M:Int)<0
   ·omega
   ·exact hpar c2
  obtain ⟨u,hu⟩:∃u:Nat,n=(u:Int):=⟨n.toNat,by omega⟩
  have hX:sh2 M n=M*2^u:=by unfold sh2;rw [if_neg c,hu,A2]
  have hF:VU M n=false:=decide_eq_false (fun h=>c h.1)
  rw [hX,hF,hz,hu,A2,Bool.false_or]
end Go.Dy

namespace Go.Dy
def K0 (e:Int):Dyd:=⟨false,[1],e⟩
def GF (a b:Dyd):Dyd:=C2 a (G9 b)
def CL (q:Dyd) (lost high neg:Bool) (u:Int):Dyd:=if (lost&&(neg !=high))=true then (if high=true then C2 q (K0 u) else GF q (K0 u)) else q
def O7 (d:Dyd) (n:Int) (high:Bool):Dyd:=CL (F6 d n).1 (F6 d n).2 high d.neg (C7 d-n)
def V5 (a b:Dyd) (n:Int) (high:Bool):Dyd:=CL (GC a b n).1 (GC a b n).2 high (GC a b n).1.neg (C7 (GC a b n).1-n)
def mid (d:Dyd):Prop:=A5 d=true∧ -1000000≤d.exp∧d.exp≤1000000
def shD (d:Dyd) (k:Int):Dyd:=if d.mag=[] then L7 else ⟨d.neg,d.mag,d.exp+k⟩
def minD (a b:Dyd):Dyd:=if Y1 b a<0 then b else a
def maxD (a b:Dyd):Dyd:=if Y1 a b<0 then b else a
def C5r (a b c d:Dyd):Dyd:=minD (minD (minD a b) c) d
def C5q (a b c d:Dyd):Dyd:=maxD (maxD (maxD a b) c) d
def y5 (lo hi:Dyd):Int:=if F0 lo=F0 hi then F0 lo else 0
structure Arc where
 plus:Nat
 minus:Nat
 terms:Nat
 next:Nat
end Go.Dy
namespace Go.AI
open Go Go.RowKit Go.Proofs
set_option linter.unusedVariables false
def dyF (x:Dy.Dyd) (P:Bool→List Nat→Int→Prop):Prop:=∀b,b=x.neg→∀l,l=x.mag→∀n,n=x.exp→P b l n
def avS (p:List Nat) (a b:Dy.Dyd):AV:= .agg [.bool a.neg,.dig p a.mag,.num .i64 a.exp,.bool b.neg,.dig p b.mag,.num .i64 b.exp]
def B0e:List AV→Option Spec
 |[.num .i64 n]=>some ⟨none,avD [0] (Dy.K0 n)⟩
 |_=>none
def D5q:List AV→Option Spec
 |[.agg [.bool s,.dig [1] m,.num .i64 e]]=>some ⟨none,avS [0,1] ⟨s,m,e⟩ ⟨s,m,e⟩⟩
 |_=>none
def D0k:List AV→Option Spec
 |[.agg [.bool s,.dig [1] m,.num .i64 e],.agg [.bool s',.dig [2] m',.num .i64 e']]=>
  some ⟨some (Dy.A5 ⟨s,m,e⟩=true∧Dy.A5 ⟨s',m',e'⟩=true∧Dy.A5 (Dy.C2 ⟨s,m,e⟩ ⟨s',m',e'⟩)=true),avD [0] (Dy.C2 ⟨s,m,e⟩ ⟨s',m',e'⟩)⟩
 |_=>none
def D0x:List AV→Option Spec
 |[.agg [.bool s,.dig [1] m,.num .i64 e],.agg [.bool s',.dig [2] m',.num .i64 e']]=>
  some ⟨some (Dy.A5 ⟨s,m,e⟩=true∧Dy.A5 ⟨s',m',e'⟩=true∧Dy.A5 (Dy.GF ⟨s,m,e⟩ ⟨s',m',e'⟩)=true),avD [0] (Dy.GF ⟨s,m,e⟩ ⟨s',m',e'⟩)⟩
 |_=>none
def D0r:List AV→Option Spec
 |[.agg [.bool s,.dig [1] m,.num .i64 e],.agg [.bool s',.dig [2] m',.num .i64 e']]=>
  some ⟨some (Dy.A5 ⟨s,m,e⟩=true∧Dy.A5 ⟨s',m',e'⟩=true∧Dy.A5 (Dy.E6 ⟨s,m,e⟩ ⟨s',m',e'⟩)=true),avD [0] (Dy.E6 ⟨s,m,e⟩ ⟨s',m',e'⟩)⟩
 |_=>none
def C1n:List AV→Option Spec
 |[.agg [.bool s,.dig [1] m,.num .i64 e],.agg [.bool s',.dig [2] m',.num .i64 e']]=>
  some ⟨some (Dy.A5 ⟨s,m,e⟩=true∧Dy.A5 ⟨s',m',e'⟩=true),.bool (decide (Dy.Y1 ⟨s,m,e⟩ ⟨s',m',e'⟩<0))⟩
 |_=>none
def D0n:List AV→Option Spec
 |[.num .i64 n,.agg [.bool s,.dig [2] m,.num .i64 e],.bool high]=>
  some ⟨some (Dy.mid ⟨s,m,e⟩∧1≤n∧n≤8192),avD [0] (Dy.O7 ⟨s,m,e⟩ n high)⟩
 |_=>none
def D0u:List AV→Option Spec
 |[.num .i64 n,.agg [.bool s,.dig [2] m,.num .i64 e],.agg [.bool s',.dig [3] m',.num .i64 e'],.bool high]=>
  some ⟨some (Dy.mid ⟨s,m,e⟩∧Dy.mid ⟨s',m',e'⟩∧m'≠[]∧m.length≤1000∧m'.length≤1000∧1≤n∧n≤8192∧s'=false),avD [0] (Dy.V5 ⟨s,m,e⟩ ⟨s',m',e'⟩ n high)⟩
 |_=>none
def D0t:List AV→Option Spec
 |[.num .i64 n,.agg [.bool s,.dig [2] m,.num .i64 e],.agg [.bool s',.dig [3] m',.num .i64 e']]=>
  some ⟨some (Dy.mid ⟨s,m,e⟩∧Dy.mid ⟨s',m',e'⟩∧1≤n∧n≤8192),avS [0] (Dy.O7 ⟨s,m,e⟩ n false) (Dy.O7 ⟨s',m',e'⟩ n true)⟩
 |_=>none
def D0s:List AV→Option Spec
 |[.agg [.bool s,.dig [1] m,.num .i64 e,.bool s',.dig [1] m',.num .i64 e']]=>
  some ⟨some (Dy.A5 ⟨s,m,e⟩=true∧Dy.A5 ⟨s',m',e'⟩=true),avS [0] (Dy.G9 ⟨s',m',e'⟩) (Dy.G9 ⟨s,m,e⟩)⟩
 |_=>none
def B0f:List AV→Option Spec
 |[.agg [.bool s,.dig [1] m,.num .i64 e,.bool s',.dig [1] m',.num .i64 e'],.num .i64 k]=>
  some ⟨some (Dy.mid ⟨s,m,e⟩∧Dy.mid ⟨s',m',e'⟩∧ -1000000≤k∧k≤1000000),avS [0] (Dy.shD ⟨s,m,e⟩ k) (Dy.shD ⟨s',m',e'⟩ k)⟩
 |_=>none
def C1o:List AV→Option Spec
 |[.num .i64 n,.agg [.bool s,.dig [2] m,.num .i64 e,.bool s',.dig [2] m',.num .i64 e'],.agg [.bool t,.dig [3] l,.num .i64 f,.bool t',.dig [3] l',.num .i64 f']]=>
  some ⟨some (Dy.A5 ⟨s,m,e⟩=true∧Dy.A5 ⟨s',m',e'⟩=true∧Dy.A5 ⟨t,l,f⟩=true∧Dy.A5 ⟨t',l',f'⟩=true∧
    Dy.mid (Dy.E6 ⟨s,m,e⟩ ⟨t,l,f⟩)∧Dy.mid (Dy.E6 ⟨s,m,e⟩ ⟨t',l',f'⟩)∧Dy.mid (Dy.E6 ⟨s',m',e'⟩ ⟨t,l,f⟩)∧Dy.mid (Dy.E6 ⟨s',m',e'⟩ ⟨t',l',f'⟩)∧1≤n∧n≤8192),
   avS [0] (Dy.O7 (bif !s&& !t then Dy.E6 ⟨s,m,e⟩ ⟨t,l,f⟩ else Dy.C5r (Dy.E6 ⟨s,m,e⟩ ⟨t,l,f⟩) (Dy.E6 ⟨s,m,e⟩ ⟨t',l',f'⟩) (Dy.E6 ⟨s',m',e'⟩ ⟨t,l,f⟩) (Dy.E6 ⟨s',m',e'⟩ ⟨t',l',f'⟩)) n false)
    (Dy.O7 (bif !s&& !t then Dy.E6 ⟨s',m',e'⟩ ⟨t',l',f'⟩ else Dy.C5q (Dy.E6 ⟨s,m,e⟩ ⟨t,l,f⟩) (Dy.E6 ⟨s,m,e⟩ ⟨t',l',f'⟩) (Dy.E6 ⟨s',m',e'⟩ ⟨t,l,f⟩) (Dy.E6 ⟨s',m',e'⟩ ⟨t',l',f'⟩)) n true)⟩
 |_=>none
def C1k:List AV→Option Spec
 |[.num .i64 n,.agg [.bool s,.dig [2] m,.num .i64 e,.bool s',.dig [2] m',.num .i64 e'],.agg [.bool t,.dig [3] l,.num .i64 f,.bool t',.dig [3] l',.num .i64 f']]=>
  some ⟨some (Dy.mid ⟨s,m,e⟩∧Dy.mid ⟨s',m',e'⟩∧Dy.mid ⟨t,l,f⟩∧Dy.mid ⟨t',l',f'⟩∧t=false∧t'=false∧l≠[]∧l'≠[]∧m.length≤1000∧m'.length≤1000∧l.length≤1000∧l'.length≤1000∧1≤n∧n≤8192),
   avS [0] (Dy.V5 ⟨s,m,e⟩ (bif s then ⟨t,l,f⟩ else ⟨t',l',f'⟩) n false) (Dy.V5 ⟨s',m',e'⟩ (bif s' then ⟨t',l',f'⟩ else ⟨t,l,f⟩) n true)⟩
 |_=>none
def B0g:List AV→Option Spec
 |[.agg [.bool s,.dig [1] m,.num .i64 e,.bool s',.dig [1] m',.num .i64 e']]=>
  some ⟨some (Dy.A5 ⟨s,m,e⟩=true∧Dy.A5 ⟨s',m',e'⟩=true),.num .i64 (Dy.y5 ⟨s,m,e⟩ ⟨s',m',e'⟩)⟩
 |_=>none
def C1i:List AV→Option Spec
 |[.agg [.bool s,.dig [1] m,.num .i64 e,.bool s',.dig [1] m',.num .i64 e'],.num .i64 b]=>
  some ⟨some (Dy.mid ⟨s,m,e⟩∧Dy.mid ⟨s',m',e'⟩∧1≤b∧b≤8192),
   .tup [avD [0] (bif decide (Dy.y5 ⟨s,m,e⟩ ⟨s',m',e'⟩=0) then Dy.L7 else (Dy.F6 ⟨s,m,e⟩ b).1),
    .bool (!decide (Dy.y5 ⟨s,m,e⟩ ⟨s',m',e'⟩=0)&&decide (Dy.Y1 (Dy.F6 ⟨s,m,e⟩ b).1 (Dy.F6 ⟨s',m',e'⟩ b).1=0))]⟩
 |_=>none
def C4w:List (Nat×(List AV→Option Spec)):=(151,B0e)::(73,D5q)::(140,D0k)::(190,D0x)::(141,D0r)::(142,C1n)::B68
def A73:List (Nat×(List AV→Option Spec)):=(177,D0n)::(153,D0u)::C4w
def B6c:List (Nat×(List AV→Option Spec)):=(139,D0t)::(191,B0g)::(81,D0s)::(83,B0f)::A73
def A74:List (Nat×(List AV→Option Spec)):=(75,C1o)::(84,C1k)::(154,C1i)::B6c
end Go.AI
