/- My texts AVcroot, AIcroot, AIcroot2, AIhalf1, AIspecD, AVhalf, AIhalf, AVhalf2, AIhalf2, in one. -/
import Derived.Test.YtogikmlfkhofoaaGreatDoorK17
open Decidable renaming byContradiction→G8
open Int renaming toNat_natCast→A2
open Nat renaming le_refl→I6,le_trans→D9,mul_add→D0,mul_le_mul_left→F2,mul_one→M0,two_pow_pos→A9
namespace Go.AI
open Dy Dyd IntKind
open Go Go.RowKit Go.Proofs
set_option linter.unusedVariables false
set_option maxRecDepth 100000
set_option maxHeartbeats 0
theorem A4v (a:Int) (b:Int) (c:Int) (d:Int) (Q:AV→Prop):(evF Tryz.prog (look US) (lam []) false Tryz.f21 [.agg [.num .u64 a,.num .u8 b],.agg [.num .u64 c,.num .u8 d]] Q)=(Q (.agg [.num .u64 a,.num .u64 c,.num .u8 b,.num .u8 d])):=by kernel_rfl
theorem A4z (f:Int) (m:Int) (a:Int) (b:Int) (k:Int) (k':Int) (g:Bool) (h:Bool) (s:Bool) (d:List Nat) (e:Int) (s':Bool) (d':List Nat) (e':Int) (neg:Bool) (Q:AV→Prop):(evF Tryz.prog (look US) (lam []) false Tryz.f24 [.agg [.num .u8 f,.num .u8 m,.num .u64 a,.num .u64 b,.num .u8 k,.num .u8 k',.bool g,.bool h,.bool s,.dig [1] d,.num .i64 e,.bool s',.dig [1] d',.num .i64 e'],.bool neg] Q)=(isF f∧∀n1,n1=(↑(D5 f neg):Int)→∀n2,n2=(0:Int)→Q (.agg [.num .u64 n1,.num .u8 0])):=by kernel_rfl
theorem A4x (f:Int) (m:Int) (a:Int) (b:Int) (k:Int) (k':Int) (g:Bool) (h:Bool) (s:Bool) (d:List Nat) (e:Int) (s':Bool) (d':List Nat) (e':Int) (t:Bool) (l:List Nat) (i:Int) (neg:Bool) (Q:AV→Prop):(evF Tryz.prog (look US) (lam []) false Tryz.f27 [.agg [.num .u8 f,.num .u8 m,.num .u64 a,.num .u64 b,.num .u8 k,.num .u8 k',.bool g,.bool h,.bool s,.dig [1] d,.num .i64 e,.bool s',.dig [1] d',.num .i64 e'],.agg [.bool t,.dig [2] l,.num .i64 i],.bool neg] Q)=(bif neg then bif decide (m≥4) then (L2 f (u8.wrap ((9:Int)-m))=0∧A5 (mk t l i)=true∧t=false)∧∀n1,n1=(↑(S3 f (u8.wrap ((9:Int)-m)) (mk t l i)).fst:Int)→∀n2,n2=(S3 f (u8.wrap ((9:Int)-m)) (mk t l i)).snd→∀n3,n3=(0:Int)→bif neg then H9 f n1=0∧∀n4,n4=(↑(YE f n1.toNat):Int)→∀n5,n5=(0:Int)→Q (.agg [.num .u64 n4,.num .u8 n2]) else Q (.agg [.num .u64 n1,.num .u8 n2]) else (L2 f m=0∧A5 (mk t l i)=true∧t=false)∧∀n6,n6=(↑(S3 f m (mk t l i)).fst:Int)→∀n7,n7=(S3 f m (mk t l i)).snd→∀n8,n8=(0:Int)→bif neg then H9 f n6=0∧∀n9,n9=(↑(YE f n6.toNat):Int)→∀n10,n10=(0:Int)→Q (.agg [.num .u64 n9,.num .u8 n7]) else Q (.agg [.num .u64 n6,.num .u8 n7]) else (L2 f m=0∧A5 (mk t l i)=true∧t=false)∧∀n11,n11=(↑(S3 f m (mk t l i)).fst:Int)→∀n12,n12=(S3 f m (mk t l i)).snd→∀n13,n13=(0:Int)→bif neg then H9 f n11=0∧∀n14,n14=(↑(YE f n11.toNat):Int)→∀n15,n15=(0:Int)→Q (.agg [.num .u64 n14,.num .u8 n12]) else Q (.agg [.num .u64 n11,.num .u8 n12])):=by kernel_rfl
theorem WR (f:Int) (m:Int) (a:Int) (b:Int) (k:Int) (k':Int) (g:Bool) (h:Bool) (s:Bool) (d:List Nat) (e:Int) (s':Bool) (d':List Nat) (e':Int) (t:Bool) (l:List Nat) (i:Int) (Q:AV→Prop):(evF Tryz.prog (look US) (lam []) false Tryz.f88 [.agg [.num .u8 f,.num .u8 m,.num .u64 a,.num .u64 b,.num .u8 k,.num .u8 k',.bool g,.bool h,.bool s,.dig [1] d,.num .i64 e,.bool s',.dig [1] d',.num .i64 e'],.agg [.bool t,.dig [2] l,.num .i64 i]] Q)=((L2 f m=0∧A5 (mk t l i)=true)∧∀n1,n1=(↑(H8 f m (mk t l i)).fst:Int)→∀n2,n2=(H8 f m (mk t l i)).snd→∀n3,n3=(0:Int)→Q (.agg [.num .u64 n1,.num .u8 n2])):=by kernel_rfl
theorem QQ (f:Int) (m:Int) (a:Int) (b:Int) (Q:AV→Prop):(evF Tryz.prog (look US) (lam []) false Tryz.f20 [.num .u8 f,.num .u8 m,.agg [.num .u64 a,.num .u64 b]] Q)=(∀n1,n1=(↑(bif decide (L2 f m=0) then NX f m false else (0:Nat)):Int)→∀n2,n2=L2 f m→bif !decide (n2=0) then Q (.tup [.agg [.num .u8 f,.num .u8 m,.num .u64 a,.num .u64 b,.num .u8 0,.num .u8 0,.bool false,.bool false,.bool false,.dig [0] [],.num .i64 0,.bool false,.dig [0] [],.num .i64 0],.num .i64 n2]) else bif !decide ((if H9 f a=0 then H9 f b else H9 f a)=0) then Q (.tup [.agg [.num .u8 f,.num .u8 m,.num .u64 a,.num .u64 b,.num .u8 0,.num .u8 0,.bool false,.bool false,.bool false,.dig [0] [],.num .i64 0,.bool false,.dig [0] [],.num .i64 0],.num .i64 (if H9 f a=0 then H9 f b else H9 f a)]) else H9 f a=0∧∀n3,n3=D3 f a.toNat→∀n4,n4=(0:Int)→H9 f b=0∧∀n5,n5=D3 f b.toNat→∀n6,n6=(0:Int)→H9 f a=0∧dyF (if 4≤D3 f a.toNat then L7 else S6 f a.toNat) fun b7 l8 n9=>∀(n10:Int),(n10=if 4≤D3 f a.toNat then (7:Int) else (0:Int))→H9 f b=0∧dyF (if 4≤D3 f b.toNat then L7 else S6 f b.toNat) fun b11 l12 n13=>∀(n14:Int),(n14=if 4≤D3 f b.toNat then (7:Int) else (0:Int))→H9 f a=0∧∀b15,b15=o9 f a.toNat→∀n16,n16=(↑(Y3 f a.toNat):Int)→∀n17,n17=(↑(wFr f a.toNat):Int)→∀n18,n18=(0:Int)→bif b15 then H9 f b=0∧∀b19,b19=o9 f b.toNat→∀n20,n20=(↑(Y3 f b.toNat):Int)→∀n21,n21=(↑(wFr f b.toNat):Int)→∀n22,n22=(0:Int)→bif b19 then Q (.tup [.agg [.num .u8 f,.num .u8 m,.num .u64 a,.num .u64 b,.num .u8 n3,.num .u8 n5,.bool !decide (n3=5),.bool !decide (n5=5),.bool b7,.dig [0] l8,.num .i64 n9,.bool b11,.dig [0] l12,.num .i64 n13],.num .i64 0]) else Q (.tup [.agg [.num .u8 f,.num .u8 m,.num .u64 a,.num .u64 b,.num .u8 n3,.num .u8 n5,.bool !decide (n3=5),.bool false,.bool b7,.dig [0] l8,.num .i64 n9,.bool b11,.dig [0] l12,.num .i64 n13],.num .i64 0]) else H9 f b=0∧∀b23,b23=o9 f b.toNat→∀n24,n24=(↑(Y3 f b.toNat):Int)→∀n25,n25=(↑(wFr f b.toNat):Int)→∀n26,n26=(0:Int)→bif b23 then Q (.tup [.agg [.num .u8 f,.num .u8 m,.num .u64 a,.num .u64 b,.num .u8 n3,.num .u8 n5,.bool false,.bool !decide (n5=5),.bool b7,.dig [0] l8,.num .i64 n9,.bool b11,.dig [0] l12,.num .i64 n13],.num .i64 0]) else Q (.tup [.agg [.num .u8 f,.num .u8 m,.num .u64 a,.num .u64 b,.num .u8 n3,.num .u8 n5,.bool false,.bool false,.bool b7,.dig [0] l8,.num .i64 n9,.bool b11,.dig [0] l12,.num .i64 n13],.num .i64 0])):=by kernel_rfl
theorem A4y (f:Int) (m:Int) (a:Int) (b:Int) (k:Int) (k':Int) (g:Bool) (h:Bool) (s:Bool) (d:List Nat) (e:Int) (s':Bool) (d':List Nat) (e':Int) (Q:AV→Prop):(evF Tryz.prog (look D1e) (lam []) false Tryz.f28 [.agg [.num .u8 f,.num .u8 m,.num .u64 a,.num .u64 b,.num .u8 k,.num .u8 k',.bool g,.bool h,.bool s,.dig [1] d,.num .i64 e,.bool s',.dig [1] d',.num .i64 e']] Q)=(dyF (mk s d e) fun b1 l2 n3=>dyF (mk s d e) fun b4 l5 n6=>dyF (mk s' d' e') fun b7 l8 n9=>dyF (mk s' d' e') fun b10 l11 n12=>(A5 (mk b1 l2 n3)=true∧A5 (mk b4 l5 n6)=true∧A5 (mk b1 l2 n3)=true∧A5 (mk b4 l5 n6)=true∧mid (E6 (mk b1 l2 n3) (mk b1 l2 n3))∧mid (E6 (mk b1 l2 n3) (mk b4 l5 n6))∧mid (E6 (mk b4 l5 n6) (mk b1 l2 n3))∧mid (E6 (mk b4 l5 n6) (mk b4 l5 n6))∧(1:Int)≤4500∧(4500:Int)≤8192)∧dyF (O7 (bif !b1&& !b1 then E6 (mk b1 l2 n3) (mk b1 l2 n3) else C5r (E6 (mk b1 l2 n3) (mk b1 l2 n3)) (E6 (mk b1 l2 n3) (mk b4 l5 n6)) (E6 (mk b4 l5 n6) (mk b1 l2 n3)) (E6 (mk b4 l5 n6) (mk b4 l5 n6))) (4500:Int) false) fun b13 l14 n15=>dyF (O7 (bif !b1&& !b1 then E6 (mk b4 l5 n6) (mk b4 l5 n6) else C5q (E6 (mk b1 l2 n3) (mk b1 l2 n3)) (E6 (mk b1 l2 n3) (mk b4 l5 n6)) (E6 (mk b4 l5 n6) (mk b1 l2 n3)) (E6 (mk b4 l5 n6) (mk b4 l5 n6))) (4500:Int) true) fun b16 l17 n18=>(A5 (mk b7 l8 n9)=true∧A5 (mk b10 l11 n12)=true∧A5 (mk b7 l8 n9)=true∧A5 (mk b10 l11 n12)=true∧mid (E6 (mk b7 l8 n9) (mk b7 l8 n9))∧mid (E6 (mk b7 l8 n9) (mk b10 l11 n12))∧mid (E6 (mk b10 l11 n12) (mk b7 l8 n9))∧mid (E6 (mk b10 l11 n12) (mk b10 l11 n12))∧(1:Int)≤4500∧(4500:Int)≤8192)∧dyF (O7 (bif !b7&& !b7 then E6 (mk b7 l8 n9) (mk b7 l8 n9) else C5r (E6 (mk b7 l8 n9) (mk b7 l8 n9)) (E6 (mk b7 l8 n9) (mk b10 l11 n12)) (E6 (mk b10 l11 n12) (mk b7 l8 n9)) (E6 (mk b10 l11 n12) (mk b10 l11 n12))) (4500:Int) false) fun b19 l20 n21=>dyF (O7 (bif !b7&& !b7 then E6 (mk b10 l11 n12) (mk b10 l11 n12) else C5q (E6 (mk b7 l8 n9) (mk b7 l8 n9)) (E6 (mk b7 l8 n9) (mk b10 l11 n12)) (E6 (mk b10 l11 n12) (mk b7 l8 n9)) (E6 (mk b10 l11 n12) (mk b10 l11 n12))) (4500:Int) true) fun b22 l23 n24=>(A5 (mk b13 l14 n15)=true∧A5 (mk b16 l17 n18)=true∧A5 (mk b19 l20 n21)=true∧A5 (mk b22 l23 n24)=true∧mid (C2 (mk b13 l14 n15) (mk b19 l20 n21))∧mid (C2 (mk b16 l17 n18) (mk b22 l23 n24))∧(1:Int)≤4500∧(4500:Int)≤8192)∧dyF (O7 (C2 (mk b13 l14 n15) (mk b19 l20 n21)) (4500:Int) false) fun b25 l26 n27=>dyF (O7 (C2 (mk b16 l17 n18) (mk b22 l23 n24)) (4500:Int) true) fun b28 l29 n30=>dyF (BD (mk b25 l26 n27) (4500:Int)).num fun b31 l32 n33=>∀b34,b34=(BD (mk b25 l26 n27) (4500:Int)).lost→∀n35,n35=(BD (mk b25 l26 n27) (4500:Int)).err→bif !b34 then dyF (O4 (A5 (mk b31 l32 n33)&&A5 (mk s d e)) (C2 (mk b31 l32 n33) (mk s d e))).1 fun b36 l37 n38=>∀n39,n39=(O4 (A5 (mk b31 l32 n33)&&A5 (mk s d e)) (C2 (mk b31 l32 n33) (mk s d e))).snd→dyF (O4 (A5 (mk b31 l32 n33)&&A5 (mk s d e)) (C2 (mk b31 l32 n33) (G9 (mk s d e)))).1 fun b40 l41 n42=>∀n43,n43=(O4 (A5 (mk b31 l32 n33)&&A5 (mk s d e)) (C2 (mk b31 l32 n33) (G9 (mk s d e)))).snd→dyF (EG (mk b36 l37 n38) (-1:Int)).1 fun b44 l45 n46=>∀n47,n47=(EG (mk b36 l37 n38) (-1:Int)).snd→dyF (EG (mk b40 l41 n42) (-1:Int)).1 fun b48 l49 n50=>∀n51,n51=(EG (mk b40 l41 n42) (-1:Int)).snd→(L2 f m=0∧A5 (mk b44 l45 n46)=true∧b44=false)∧∀n52,n52=(↑(S5 f m (mk b44 l45 n46) false).fst:Int)→∀n53,n53=(S5 f m (mk b44 l45 n46) false).snd→(L2 f m=0∧A5 (mk b48 l49 n50)=true∧b48=false)∧∀n54,n54=(↑(S5 f m (mk b48 l49 n50) h).fst:Int)→∀n55,n55=(S5 f m (mk b48 l49 n50) h).snd→∀n56,n56=n52→∀n57,n57=n54→∀n58,n58=n53→∀n59,n59=n55→Q (.agg [.num .u64 n56,.num .u64 n57,.num .u8 n58,.num .u8 n59]) else capOk (mk s d e) (mk s' d' e') (mk b1 l2 n3) (mk b4 l5 n6) (mk b25 l26 n27) (mk b28 l29 n30) (mk b7 l8 n9) (mk b10 l11 n12) h∧dyF (K4 (reD (mk s d e) (mk s' d' e'))) fun b60 l61 n62=>capOk (mk s d e) (mk s' d' e') (mk b1 l2 n3) (mk b4 l5 n6) (mk b25 l26 n27) (mk b28 l29 n30) (mk b7 l8 n9) (mk b10 l11 n12) h∧dyF (K4 (imD (mk s d e) (mk s' d' e'))) fun b63 l64 n65=>(L2 f m=0∧A5 (mk b60 l61 n62)=true)∧∀n66,n66=(↑(H8 f m (mk b60 l61 n62)).fst:Int)→∀n67,n67=(H8 f m (mk b60 l61 n62)).snd→(L2 f m=0∧A5 (mk b63 l64 n65)=true)∧∀n68,n68=(↑(H8 f m (mk b63 l64 n65)).fst:Int)→∀n69,n69=(H8 f m (mk b63 l64 n65)).snd→∀n70,n70=n66→∀n71,n71=n68→∀n72,n72=n67→∀n73,n73=n69→Q (.agg [.num .u64 n70,.num .u64 n71,.num .u8 n72,.num .u8 n73])):=by kernel_rfl
def EI (n22:Int) (n24:Int) (n23:Int) (n25:Int) (Q:AV→Prop):Prop:=(∀n26,n26=n22→∀n27,n27=n24→∀n28,n28=n23→∀n29,n29=n25→Q (.tup [.agg [.num .u64 n26,.num .u64 n27,.num .u8 n28,.num .u8 n29],.num .i64 0]))
def EJ (n6:Int) (n1:Int) (n2:Int) (b9:Bool) (l10:List Nat) (n11:Int) (b8:Bool) (Q:AV→Prop) (b12:Bool) (l13:List Nat) (n14:Int):Prop:=(bif decide (n6=1) then (L2 n1 n2=0∧A5 (mk b9 l10 n11)=true∧b9=false)∧∀n30,n30=(↑(S5 n1 n2 (mk b9 l10 n11) false).fst:Int)→∀n31,n31=(S5 n1 n2 (mk b9 l10 n11) false).snd→isF n1∧∀n32,n32=(↑(D5 n1 b8):Int)→∀n33,n33=(0:Int)→EI n30 n32 n31 n33 Q else numOk n1 n2 (mk b9 l10 n11) (mk b12 l13 n14) b8∧∀n38,n38=(↑(ME n1 n2 (mk b9 l10 n11) (mk b12 l13 n14) b8).fst.fst:Int)→∀n39,n39=(↑(ME n1 n2 (mk b9 l10 n11) (mk b12 l13 n14) b8).snd.fst:Int)→∀n40,n40=(ME n1 n2 (mk b9 l10 n11) (mk b12 l13 n14) b8).fst.snd→∀n41,n41=(ME n1 n2 (mk b9 l10 n11) (mk b12 l13 n14) b8).snd.snd→Q (.tup [.agg [.num .u64 n38,.num .u64 n39,.num .u8 n40,.num .u8 n41],.num .i64 0]))
def EK (n5:Int) (n6:Int) (b9:Bool) (l10:List Nat) (n11:Int) (n1:Int) (n2:Int) (b8:Bool) (Q:AV→Prop) (b12:Bool) (l13:List Nat) (n14:Int):Prop:=(bif decide (n5=4) then False else bif decide (n6=5) then False else bif decide (n5=5) then False else bif decide (n6=1) then bif decide ((if A5 (mk b9 l10 n11)=true then F0 (mk b9 l10 n11) else (0:Int))<0) then dyF (TM (A5 (mk b9 l10 n11)) (B7 (mk b9 l10 n11))).1 fun b18 l19 n20=>∀n21,n21=(TM (A5 (mk b9 l10 n11)) (B7 (mk b9 l10 n11))).snd→isF n1∧∀n22,n22=(↑(D5 n1 false):Int)→∀n23,n23=(0:Int)→(L2 n1 n2=0∧A5 (mk b18 l19 n20)=true∧b18=false)∧∀n24,n24=(↑(S5 n1 n2 (mk b18 l19 n20) b8).fst:Int)→∀n25,n25=(S5 n1 n2 (mk b18 l19 n20) b8).snd→EI n22 n24 n23 n25 Q else EJ n6 n1 n2 b9 l10 n11 b8 Q b12 l13 n14 else EJ n6 n1 n2 b9 l10 n11 b8 Q b12 l13 n14)
def EL (n5:Int) (b7:Bool) (n1:Int) (n6:Int) (b9:Bool) (l10:List Nat) (n11:Int) (n2:Int) (b8:Bool) (Q:AV→Prop) (b12:Bool) (l13:List Nat) (n14:Int):Prop:=(bif decide (n5=4) then bif b7 then isF n1∧∀n16,n16=(↑(D5 n1 false):Int)→∀n17,n17=(0:Int)→False else EK n5 n6 b9 l10 n11 n1 n2 b8 Q b12 l13 n14 else EK n5 n6 b9 l10 n11 n1 n2 b8 Q b12 l13 n14)
def BB (n5:Int) (n6:Int) (b7:Bool) (n1:Int) (b9:Bool) (l10:List Nat) (n11:Int) (n2:Int) (b8:Bool) (Q:AV→Prop) (b12:Bool) (l13:List Nat) (n14:Int):Prop:=(bif decide (n5=4) then bif decide (n6=5) then False else EL n5 b7 n1 n6 b9 l10 n11 n2 b8 Q b12 l13 n14 else EL n5 b7 n1 n6 b9 l10 n11 n2 b8 Q b12 l13 n14)
theorem A4u (f:Int) (m:Int) (a:Int) (b:Int) (Q:AV→Prop):(evF Tryz.prog (look B67) (lam []) false Tryz.f6 [.num .u8 f,.num .u8 m,.agg [.num .u64 a,.num .u64 b]] Q)=((L2 f m=0∧H9 f a=0∧H9 f b=0∧D3 f a.toNat<4∧D3 f b.toNat<4)∧∀n1,n1=f→∀n2,n2=m→∀n3,n3=a→∀n4,n4=b→∀n5,n5=D3 f a.toNat→∀n6,n6=D3 f b.toNat→∀b7,b7=o9 f a.toNat→∀b8,b8=o9 f b.toNat→dyF (S6 f a.toNat) fun b9 l10 n11=>dyF (S6 f b.toNat) fun b12 l13 n14=>∀n15,n15=(0:Int)→bif !decide (n15=0) then Q (.tup [.agg [.num .u64 0,.num .u64 0,.num .u8 0,.num .u8 0],.num .i64 n15]) else bif decide (n6=4) then False else bif decide (n5=4) then bif decide (n6=5) then bif b7 then False else BB n5 n6 b7 n1 b9 l10 n11 n2 b8 Q b12 l13 n14 else BB n5 n6 b7 n1 b9 l10 n11 n2 b8 Q b12 l13 n14 else BB n5 n6 b7 n1 b9 l10 n11 n2 b8 Q b12 l13 n14):=by kernel_rfl
end Go.AI

namespace Go.AI
open Go Go.RowKit Go.Proofs
set_option linter.unusedVariables false
set_option maxRecDepth 100000
set_option maxHeartbeats 1000000
theorem A3p (args:List AV) (s:Spec) (h:A5y args=some s) (hp:C6 s.pre True):Contract Tryz.prog Inv 21 args s.res:=by
 unfold A5y at h
 split at h
 ·cases h
  refine A4 false DB Tryz.func21 (by kernel_rfl) (by kernel_rfl) fun hok=> ?_
  rw [A4v]
 ·cases h
theorem A3u (args:List AV) (s:Spec) (h:C74 args=some s) (hp:C6 s.pre True):Contract Tryz.prog Inv 24 args s.res:=by
 unfold C74 at h
 split at h
 ·cases h
  obtain ⟨p, -⟩:=hp
  refine A4 false DB Tryz.func24 (by kernel_rfl) (by kernel_rfl) fun hok=> ?_
  rw [A4z]
  refine ⟨p,?_⟩
  rintro _ rfl _ -
  rfl
 ·cases h
theorem wrap_u8 {n:Int} (h:0≤n∧n<256):IntKind.u8.wrap n=n:=by
 simp [IntKind.wrap,IntKind.signed,IntKind.bits]
 omega
theorem A3s (args:List AV) (s:Spec) (h:C72 args=some s) (hp:C6 s.pre True):Contract Tryz.prog Inv 27 args s.res:=by
 unfold C72 at h
 split at h
 ·cases h
  rename_i f m a b k k' g h s d e s' d' e' t l i neg
  obtain ⟨⟨em,hm,rfl⟩, -⟩:=hp
  obtain ⟨hf,m1,m2, -⟩:=Dy.W5 em
  have hg:=fun m'=>Dy.C1a (m:=m') hf hm rfl
  refine A4 false DB Tryz.func27 (by kernel_rfl) (by kernel_rfl) fun hok=> ?_
  rw [A4x]
  have hw:IntKind.u8.wrap (9-m)=9-m:=wrap_u8 (by omega)
  rw [hw]
  cases neg
  ·have eo:Dy.Z6 m false=m:=by unfold Dy.Z6;rw [if_neg (by simp)]
   refine B1 rfl ⟨⟨em,hm,rfl⟩,?_⟩
   rintro _ rfl _ rfl _ -
   refine B1 rfl ?_
   unfold Dy.S5
   rw [eo]
   rfl
  ·have ho:=Dy.C61 em true
   refine B5 rfl (A8 (fun h=> ?_) (fun h=> ?_))
   ·have eo:Dy.Z6 m true=9-m:=by unfold Dy.Z6;rw [if_pos ⟨rfl,A1 h⟩]
    rw [eo] at ho
    refine ⟨⟨ho,hm,rfl⟩,?_⟩
    rintro _ rfl _ rfl _ -
    refine B5 rfl ⟨hg _,?_⟩
    rw [A2]
    rintro _ rfl _ -
    unfold Dy.S5
    rw [eo]
    rfl
   ·have eo:Dy.Z6 m true=m:=by unfold Dy.Z6;rw [if_neg (fun c=>A0 h c.2)]
    refine ⟨⟨em,hm,rfl⟩,?_⟩
    rintro _ rfl _ rfl _ -
    refine B5 rfl ⟨hg _,?_⟩
    rw [A2]
    rintro _ rfl _ -
    unfold Dy.S5
    rw [eo]
    rfl
 ·cases h
theorem WG (args:List AV) (s:Spec) (h:ZX args=some s) (hp:C6 s.pre True):Contract Tryz.prog Inv 88 args s.res:=by
 unfold ZX at h
 split at h
 ·cases h
  obtain ⟨p, -⟩:=hp
  refine A4 false DB Tryz.func88 (by kernel_rfl) (by kernel_rfl) fun hok=> ?_
  rw [WR]
  refine ⟨p,?_⟩
  rintro _ rfl _ rfl _ -
  rfl
 ·cases h
theorem A3r (args:List AV) (s:Spec) (h:C71 args=some s) (hp:C6 s.pre True):Contract Tryz.prog Inv 20 args s.res:=by
 unfold C71 at h
 split at h
 ·cases h
  rename_i f m a b
  obtain ⟨⟨em,ea,eb,ca,cb⟩, -⟩:=hp
  refine A4 false DB Tryz.func20 (by kernel_rfl) (by kernel_rfl) fun hok=> ?_
  have na:(!decide (Dy.D3 f a.toNat=5))=true:=by rw [decide_eq_false (by omega)];rfl
  have nb:(!decide (Dy.D3 f b.toNat=5))=true:=by rw [decide_eq_false (by omega)];rfl
  rw [QQ,if_pos ea,if_neg (show¬4≤Dy.D3 f a.toNat by omega),if_neg (show¬4≤Dy.D3 f b.toNat by omega),em,eb]
  rintro _-_ rfl
  refine B1 rfl (B1 rfl ⟨ea,?_⟩)
  rintro _ rfl _ -
  refine ⟨rfl,?_⟩
  rintro _ rfl _ -
  refine ⟨ea,B4 fun b7 l8 n9 d7=> ?_⟩
  rintro _ -
  refine ⟨rfl,B4 fun b11 l12 n13 d11=> ?_⟩
  rintro _ -
  rw [na,nb,←d7,←d11]
  refine ⟨ea,?_⟩
  rintro _ rfl _-_-_ -
  refine A8 (fun h=>⟨rfl,?_⟩) (fun h=>⟨rfl,?_⟩)
  ·rintro _ rfl _-_-_ -
   rw [h]
   refine A8 (fun h'=> ?_) (fun h'=> ?_)
   ·rw [h']
   ·rw [h']
  ·rintro _ rfl _-_-_ -
   rw [h]
   refine A8 (fun h'=> ?_) (fun h'=> ?_)
   ·rw [h']
   ·rw [h']
 ·cases h
theorem B52:G6 Tryz.prog Inv (look D1e):=A3 (A3 (A3 (A3 (A3 DB A3r) WG) A3s) A3u) A3p
end Go.AI

namespace Go.Dy
theorem min_self (Z:Dyd):C5r Z Z Z Z=Z:=by
 have h:minD Z Z=Z:=by unfold minD;split<;>rfl
 unfold C5r
 rw [h,h,h]
theorem max_self (Z:Dyd):C5q Z Z Z Z=Z:=by
 have h:maxD Z Z=Z:=by unfold maxD;split<;>rfl
 unfold C5q
 rw [h,h,h]
theorem cond_self (b:Bool) (Z:Dyd):(bif b then Z else Z)=Z:=by cases b<;>rfl
end Go.Dy
namespace Go.AI
open Go Go.RowKit Go.Proofs
set_option linter.unusedVariables false
set_option maxRecDepth 100000
set_option maxHeartbeats 1000000
theorem A3t (args:List AV) (s:Spec) (h:B8k args=some s) (hp:C6 s.pre True):Contract Tryz.prog Inv 28 args s.res:=by
 unfold B8k at h
 split at h
 ·cases h
  rename_i f m a b k k' g h s d e s' d' e'
  obtain ⟨n, -⟩:=hp
  refine A4 false B52 Tryz.func28 (by kernel_rfl) (by kernel_rfl) fun hok=> ?_
  obtain ⟨X,hX⟩:∃X:Dy.Dyd,X=⟨s,d,e⟩:=⟨_,rfl⟩
  obtain ⟨Y,hY⟩:∃Y:Dy.Dyd,Y=⟨s',d',e'⟩:=⟨_,rfl⟩
  rw [A4y]
  rw [←hX,←hY] at n ⊢
  obtain ⟨ax,fax,fx,fxx,xx⟩:=Dy.IL n.mx n.bx n.ex n.tx
  obtain ⟨ay,fay,fy,fyy,xy⟩:=Dy.IL n.my n.by_ n.ey n.ty
  obtain ⟨V,hV⟩:∃V:Nat,V=6000:=⟨_,rfl⟩
  obtain ⟨N,hN⟩:∃N:Nat,N=4500:=⟨_,rfl⟩
  have hN':(4500:Int)=(N:Int):=by rw [hN];rfl
  obtain ⟨-, -, -, -, -, -, -, -,mS,nS,zS,bS,eS,eS2⟩:=Dy.UO n hV (T:=1024) n.tx n.ty (I6 _)
  have eSq:Dy.C2 (Dy.E6 X X) (Dy.E6 Y Y)=Dy.sqD X Y:=by unfold Dy.sqD;rw [←Dy.TJ,←Dy.TJ]
  have sx:=fun hi=>Dy.VS fxx.may (n:=N) (by omega) (D9 fxx.bits (by omega)) hi
  have sy:=fun hi=>Dy.VS fyy.may (n:=N) (by omega) (D9 fyy.bits (by omega)) hi
  have sS:=fun hi=>Dy.VS mS (n:=N) (by omega) (by omega) hi
  have rD:=(Dy.DC mS nS zS (n:=N) (by omega) (by omega)).2.2.2.1
  have mX:=Dy.J9 fxx (by decide)
  have mY:=Dy.J9 fyy (by decide)
  have mSq:Dy.mid (Dy.sqD X Y):=⟨mS,by omega,by omega⟩
  rw [hN']
  refine B4 fun b1 l2 n3 d1=>B4 fun b4 l5 n6 d4=>B4 fun b7 l8 n9 d7=>B4 fun b10 l11 n12 d10=> ?_
  rw [d1,d4,d7,d10,Dy.min_self,Dy.max_self,Dy.min_self,Dy.max_self,Dy.cond_self,Dy.cond_self,sx false,sx true,sy false,sy true]
  refine ⟨⟨n.mx,n.mx,n.mx,n.mx,mX,mX,mX,mX,by omega,by omega⟩,B4 fun b13 l14 n15 d13=>B4 fun b16 l17 n18 d16=>⟨⟨n.my,n.my,n.my,n.my,mY,mY,mY,mY,by omega,by omega⟩,B4 fun b19 l20 n21 d19=>B4 fun b22 l23 n24 d22=> ?_⟩⟩
  rw [d13,d16,d19,d22,eSq,sS false,sS true]
  refine ⟨⟨fxx.may,fxx.may,fyy.may,fyy.may,mSq,mSq,by omega,by omega⟩,B4 fun b25 l26 n27 d25=>B4 fun b28 l29 n30 d28=> ?_⟩
  rw [d25,d28,rD]
  refine B4 fun b31 l32 n33 d31=> ?_
  have d31:Dy.Dyd.mk b31 l32 n33=(Dy.C3 (Dy.sqD X Y) N).1:=d31
  rintro _ rfl _ -
  unfold Dy.ME
  rw [hN']
  refine A8 (fun hl=> ?_) (fun hl=> ?_)
  ·have hl:(Dy.C3 (Dy.sqD X Y) N).2=false:=by simpa using hl
   have hl2:=hl
   rw [hN] at hl2
   obtain ⟨fr,ex⟩:=Dy.WZ n (T:=1024) n.tx n.ty (I6 _) hl2
   rw [←hN] at fr ex
   have E1:=ex false X rfl
   have E2:=ex true (Dy.G9 X) rfl
   rw [if_pos hl]
   have fr':=fr.mono (L':=5000) (E':=7000) (by omega) (by decide)
   have fx':=fx.mono (L':=5000) (E':=7000) (by decide) (by decide)
   have b1:=Dy.B26 fr' fx' (by decide) (by decide)
   have b2:=Dy.B27 fr' fx' (by decide) (by decide)
   have m1:=Dy.J9 (Dy.KV fr' fx' (by decide) (by decide)).1 (by decide)
   have m2:=Dy.J9 (Dy.KV fr' (Dy.YY fx') (by decide) (by decide)).1 (by decide)
   have k1:=LW m1 (k:= -1) ⟨by decide,by decide⟩
   have k2:=LW m2 (k:= -1) ⟨by decide,by decide⟩
   unfold Dy.GF
   generalize (Dy.C3 (Dy.sqD X Y) N).1=R at*
   rw [d31,b1,b2]
   refine B4 (x:=Dy.C2 R X) fun b36 l37 n38 d36=> ?_
   rintro _ -
   refine B4 (x:=Dy.C2 R (Dy.G9 X)) fun b40 l41 n42 d40=> ?_
   rintro _ -
   rw [d36,d40,k1,k2]
   refine B4 (x:=Dy.shD (Dy.C2 R X) (-1)) fun b44 l45 n46 d44=> ?_
   rintro _ -
   refine B4 (x:=Dy.shD (Dy.C2 R (Dy.G9 X)) (-1)) fun b48 l49 n50 d48=> ?_
   rintro _ -
   refine ⟨⟨n.em,by rw [d44];exact E1.1,(congrArg Dy.Dyd.neg d44).trans E1.2.1⟩,?_⟩
   rw [d44]
   rintro _ rfl _ rfl
   refine ⟨⟨n.em,by rw [d48];exact E2.1,(congrArg Dy.Dyd.neg d48).trans E2.2.1⟩,?_⟩
   rw [d48]
   rintro _ rfl _ rfl _ rfl _ rfl _ rfl _ rfl
   rfl
  ·have hl:(Dy.C3 (Dy.sqD X Y) N).2=true:=by simpa using hl
   have hl2:=hl
   rw [←hN'] at hl2
   have off:=n.D6a hl2
   have hb:=Dy.B8a off
   have cap:Dy.capOk X Y X X (Dy.sqD X Y) (Dy.sqD X Y) Y Y h:=⟨rfl,rfl,rfl,rfl,rfl,rfl,off,n.mx,n.my,n.hs⟩
   rw [if_neg (show¬(Dy.C3 (Dy.sqD X Y) N).2=false by rw [hl];decide)]
   refine ⟨cap,B4 fun b60 l61 n62 d60=>⟨cap,B4 fun b63 l64 n65 d63=>⟨⟨n.em,by rw [d60];exact hb.1.2⟩,?_⟩⟩⟩
   rw [d60]
   rintro _ rfl _ rfl
   refine ⟨⟨n.em,by rw [d63];exact hb.2.2⟩,?_⟩
   rw [d63]
   rintro _ rfl _ rfl _ rfl _ rfl _ rfl _ rfl
   rfl
 ·cases h
theorem TT:G6 Tryz.prog Inv (look B67):=A3 B52 A3t
theorem JB (args:List AV) (s:Spec) (h:C73 args=some s) (hp:C6 s.pre True):Contract Tryz.prog Inv 6 args s.res:=by
 unfold C73 at h
 split at h
 ·cases h
  rename_i f m a b
  obtain ⟨⟨em,ea,eb,ca,cb⟩, -⟩:=hp
  refine A4 false TT Tryz.func6 (by kernel_rfl) (by kernel_rfl) fun hok=> ?_
  obtain ⟨hf, -, -, -, -, -⟩:=Dy.W5 em
  obtain ⟨vx1,vx2,vx3,vx4,vx5,vx6,vx7⟩:=Dy.PQ hf ca
  obtain ⟨vy1,vy2,vy3,vy4,vy5,vy6,vy7⟩:=Dy.PQ hf cb
  have hW:Dy.P8 f≤1024:=by rcases Dy.J0 hf with c|c<;>omega
  have a4:decide (Dy.D3 f a.toNat=4)=false:=decide_eq_false (by omega)
  have a5:decide (Dy.D3 f a.toNat=5)=false:=decide_eq_false (by omega)
  have b4:decide (Dy.D3 f b.toNat=4)=false:=decide_eq_false (by omega)
  have b5:decide (Dy.D3 f b.toNat=5)=false:=decide_eq_false (by omega)
  rw [A4u];delta EI EJ EK EL BB
  refine ⟨⟨em,ea,eb,ca,cb⟩,?_⟩
  intro n1 e1 n2 e2 n3 e3 n4 e4
  have e1:=e1.symm
  have e2:=e2.symm
  have e3:=e3.symm
  have e4:=e4.symm
  subst e1 e2 e3 e4
  rintro _ rfl _ rfl _ rfl _ rfl
  have hsg:(if Dy.A5 (Dy.S6 f a.toNat)=true then Dy.F0 (Dy.S6 f a.toNat) else (0:Int))<0 ↔ (Dy.S6 f a.toNat).neg=true:=by
   rw [if_pos vx1]
   unfold Dy.F0
   by_cases c:(Dy.S6 f a.toNat).mag=[]
   ·rw [if_pos c,vx7 c];simp
   ·rw [if_neg c]
    cases (Dy.S6 f a.toNat).neg<;>simp
  unfold Dy.NG
  generalize Dy.S6 f a.toNat=X at*
  generalize Dy.S6 f b.toNat=Y at*
  refine B4 fun b9 l10 n11 d9=>B4 fun b12 l13 n14 d12=> ?_
  rintro _ rfl
  have hb9:b9=X.neg:=congrArg Dy.Dyd.neg d9
  rw [d9,d12,hb9]
  refine B1 rfl (B1 b4 (B1 a4 (B1 a4 (B1 a4 (B1 a4 (B1 b5 (B1 a5 ?_)))))))
  refine A8 (fun h1=> ?_) (fun h1=> ?_)
  ·have h1':=A1 h1
   rw [if_pos h1']
   refine A8 (fun h2=> ?_) (fun h2=> ?_)
   ·have hn:=hsg.1 (A1 h2)
    have eo:Dy.TM (Dy.A5 X) (Dy.B7 X)=(Dy.B7 X,0):=by unfold Dy.TM;rw [if_pos vx1]
    rw [if_pos hn,eo]
    have ma:Dy.A5 (Dy.B7 X)=true:=by
     obtain ⟨s,m',e⟩:=X
     have h:=vx1
     show Dy.A5 ⟨false,m',e⟩=true
     rw [Dy.S2] at h ⊢
     exact ⟨h.1,h.2.elim (fun c=> .inl ⟨c.1,rfl,c.2.2⟩) .inr⟩
    refine B4 (x:=Dy.B7 X) fun b424 l425 n426 d424=> ?_
    rintro _ -
    refine ⟨hf,?_⟩
    rintro _ rfl _ rfl
    refine ⟨⟨em,by rw [d424];exact ma,congrArg Dy.Dyd.neg d424⟩,?_⟩
    rw [d424]
    rintro _ rfl _ rfl _ rfl _ rfl _ rfl _ rfl
    rfl
   ·have hn:¬X.neg=true:=fun c=>A0 h2 (hsg.2 c)
    rw [if_neg hn]
    refine B5 h1 ⟨⟨em,vx1,by simpa using hn⟩,?_⟩
    rintro _ rfl _ rfl
    refine ⟨hf,?_⟩
    rintro _ rfl _ rfl _ rfl _ rfl _ rfl _ rfl
    rfl
  ·have h1':=A0 h1
   rw [if_neg h1']
   have y0:Y.mag≠[]:=fun c=>h1' (vy5.1 c)
   refine B1 h1 ⟨⟨em,vx1,vy1,y0,vx2,vy2,vx3,vy3,by omega,by omega,(vy6 y0).symm⟩,?_⟩
   rintro _ rfl _ rfl _ rfl _ rfl
   rfl
 ·cases h
theorem JY:G6 Tryz.prog Inv (look A2h):=A3 TT JB
end Go.AI

namespace Go.Dy
set_option maxRecDepth 100000
end Go.Dy

namespace Go.Dy
@[irreducible] def crK (f m a b:Int):(Nat×Int)×(Nat×Int):=NG f m a b
end Go.Dy
namespace Go.AI
open Go Go.RowKit Go.Proofs
set_option linter.unusedVariables false
def B8j:List AV→Option Spec
 |[.num .u8 f,.num .u8 m,.agg [.num .u64 a,.num .u64 b]]=>
  some ⟨some (Dy.L2 f m=0∧Dy.H9 f a=0∧Dy.H9 f b=0∧Dy.D3 f a.toNat<4∧Dy.D3 f b.toNat<4),.tup [avP (Dy.crK f m a b),.num .i64 0]⟩
 |_=>none
def D6f:List (Nat×(List AV→Option Spec)):=(6,B8j)::B67
def hIs:List AV→Option Spec
 |[.num .u8 f]=>some ⟨none,.bool (Dy.AZ f)⟩
 |_=>none
def C81:List AV→Option Spec
 |[.num .u8 f]=>some ⟨none,.num .u64 (2^Dy.M8 f:Nat)⟩
 |_=>none
def C7w:List AV→Option Spec
 |[.num .u8 f]=>some ⟨none,.num .i64 (Dy.A6 f:Nat)⟩
 |_=>none
def XE:List AV→Option Spec
 |[.num .u8 f]=>some ⟨none,.num .i64 (Dy.P7 f:Nat)⟩
 |_=>none
def C7y:List AV→Option Spec
 |[.num .u8 m]=>some ⟨none,.bool (decide (1≤m∧m≤5))⟩
 |_=>none
def B69:List (Nat×(List AV→Option Spec)):=(89,hIs)::(59,C81)::(51,C7w)::(60,XE)::(90,C7y)::A2h
def C7x:List AV→Option Spec
 |[.num .u8 f,.num .u64 w]=>some ⟨none,.num .i64 (Dy.H9 f w)⟩
 |_=>none
def B91:List AV→Option Spec
 |[.num .u8 f,.num .u64 w]=>some ⟨some (Dy.H9 f w=0),.agg [.bool (Dy.o9 f w.toNat),.num .i64 (Dy.Y3 f w.toNat:Nat),.num .u64 (Dy.wFr f w.toNat:Nat)]⟩
 |_=>none
def B90:List AV→Option Spec
 |[.num .u8 f,.num .u8 m,.dig [3] []]=>some ⟨none,.num .i64 (Dy.L2 f m)⟩
 |_=>none
def C4u:List (Nat×(List AV→Option Spec)):=(91,C7x)::(18,B91)::(29,B90)::B69
def B8y:List AV→Option Spec
 |[.num .u8 f,.num .u64 w]=>some ⟨some (Dy.H9 f w=0),.num .u8 (Dy.D3 f w.toNat)⟩
 |_=>none
def C80:List AV→Option Spec
 |[.num .u8 f,.vec [2] 2 [.agg [.num .u64 a,.num .u64 b]]]=>some ⟨none,.num .i64 (bif Dy.AZ f then (if Dy.H9 f a=0∧Dy.H9 f b=0 then 0 else 6) else 4)⟩
 |_=>none
def XQ:List (Nat×(List AV→Option Spec)):=(19,B8y)::(30,C80)::C4u
def C7z:List AV→Option Spec
 |[.num .u8 f,.num .u8 m,.vec [3] 2 [.agg [.num .u64 a,.num .u64 b]]]=>some ⟨none,.num .i64 (if Dy.L2 f m=0 then (if Dy.H9 f a=0∧Dy.H9 f b=0 then 0 else 6) else Dy.L2 f m)⟩
 |_=>none
def B8z:List AV→Option Spec
 |[]=>some ⟨none,.bool true⟩
 |_=>none
end Go.AI

namespace Go.AI
open Dy IntKind
open Go Go.RowKit Go.Proofs
set_option linter.unusedVariables false
set_option maxRecDepth 100000
set_option maxHeartbeats 0
theorem C2w (f:Int) (Q:AV→Prop):(evF Tryz.prog (look A2h) (lam []) false Tryz.f89 [.num .u8 f] Q)=(bif decide (f=1) then Q (.bool true) else Q (.bool (decide (f=2)))):=by kernel_rfl
theorem B1h (f:Int) (Q:AV→Prop):(evF Tryz.prog (look A2h) (lam []) false Tryz.f59 [.num .u8 f] Q)=(bif decide (f=1) then Q (.num .u64 2147483648) else Q (.num .u64 9223372036854775808)):=by kernel_rfl
theorem B1e (f:Int) (Q:AV→Prop):(evF Tryz.prog (look A2h) (lam []) false Tryz.f51 [.num .u8 f] Q)=(bif decide (f=1) then Q (.num .i64 23) else Q (.num .i64 52)):=by kernel_rfl
theorem B1g (f:Int) (Q:AV→Prop):(evF Tryz.prog (look A2h) (lam []) false Tryz.f60 [.num .u8 f] Q)=(bif decide (f=1) then Q (.num .i64 255) else Q (.num .i64 2047)):=by kernel_rfl
theorem C2x (m:Int) (Q:AV→Prop):(evF Tryz.prog (look A2h) (lam []) false Tryz.f90 [.num .u8 m] Q)=(bif decide (m≥1) then Q (.bool (decide (m≤5))) else Q (.bool false)):=by kernel_rfl
theorem B1f (f:Int) (w:Int) (Q:AV→Prop):(evF Tryz.prog (look B69) (lam []) false Tryz.f91 [.num .u8 f,.num .u64 w] Q)=(bif !AZ f then Q (.num .i64 4) else bif decide (f=1) then bif decide (w≥4294967296) then Q (.num .i64 6) else Q (.num .i64 0) else Q (.num .i64 0)):=by kernel_rfl
theorem A5c (f:Int) (w:Int) (Q:AV→Prop):(evF Tryz.prog (look B69) (lam []) false Tryz.f18 [.num .u8 f,.num .u64 w] Q)=((↑((2:Nat)^M8 f):Int)≠0∧(0:Int)≤(↑(A6 f):Int)∧u64.wrap ((1:Int)*2^min (↑(A6 f):Int).toNat (64:Nat))≠0∧(0:Int)≤(↑(A6 f):Int)∧Q (.agg [.bool (decide (w≥(↑((2:Nat)^M8 f):Int))),.num .i64 (i64.wrap ((w.tmod (↑((2:Nat)^M8 f):Int)).fdiv ((2:Int)^min (↑(A6 f):Int).toNat (64:Nat)))),.num .u64 ((w.tmod (↑((2:Nat)^M8 f):Int)).tmod (u64.wrap ((1:Int)*2^min (↑(A6 f):Int).toNat (64:Nat))))])):=by kernel_rfl
theorem A5d (f:Int) (m:Int) (Q:AV→Prop):(evF Tryz.prog (look B69) (lam [((6:Nat),LoopAnn.unroll (1:Nat))]) false Tryz.f29 [.num .u8 f,.num .u8 m,.dig [3] []] Q)=(bif !AZ f then Q (.num .i64 4) else bif !decide (1≤m∧m≤5) then Q (.num .i64 5) else Q (.num .i64 0)):=by kernel_rfl
theorem A5b (f:Int) (w:Int) (Q:AV→Prop):(evF Tryz.prog (look C4u) (lam []) false Tryz.f19 [.num .u8 f,.num .u64 w] Q)=(H9 f w=0∧∀b1,b1=o9 f w.toNat→∀n2,n2=(↑(Y3 f w.toNat):Int)→∀n3,n3=(↑(wFr f w.toNat):Int)→bif decide (n2=0) then bif decide (n3=0) then Q (.num .u8 1) else bif decide (n2=0) then Q (.num .u8 2) else bif decide (n2<(↑(P7 f):Int)) then Q (.num .u8 3) else bif decide (n3=0) then Q (.num .u8 4) else Q (.num .u8 5) else bif decide (n2=0) then Q (.num .u8 2) else bif decide (n2<(↑(P7 f):Int)) then Q (.num .u8 3) else bif decide (n3=0) then Q (.num .u8 4) else Q (.num .u8 5)):=by kernel_rfl
theorem A58 (f:Int) (a:Int) (b:Int) (Q:AV→Prop):(evF Tryz.prog (look C4u) (lam [((4:Nat),LoopAnn.unroll (2:Nat))]) false Tryz.f30 [.num .u8 f,.vec [2] (2:Nat) [.agg [.num .u64 a,.num .u64 b]]] Q)=(bif !AZ f then Q (.num .i64 4) else ((0:Int)≤0∧(0:Int)<(↑[AV.agg [AV.num u64 a,AV.num u64 b]].length:Int))∧bif !decide (H9 f a=0) then Q (.num .i64 6) else ((0:Int)≤0∧(0:Int)<(↑[AV.agg [AV.num u64 a,AV.num u64 b]].length:Int))∧bif !decide (H9 f b=0) then Q (.num .i64 6) else Q (.num .i64 0)):=by kernel_rfl
theorem A2z (f:Int) (m:Int) (a:Int) (b:Int) (Q:AV→Prop):(evF Tryz.prog (look XQ) (lam []) false Tryz.f7 [.num .u8 f,.num .u8 m,.vec [3] (2:Nat) [.agg [.num .u64 a,.num .u64 b]]] Q)=(bif !decide (L2 f m=0) then Q (.num .i64 (L2 f m)) else Q (.num .i64 (bif AZ f then if H9 f a=0∧H9 f b=0 then (0:Int) else (6:Int) else (4:Int)))):=by kernel_rfl
end Go.AI

namespace Go.Dy
theorem D2r (f:Int):AZ f=(bif decide (f=1) then true else decide (f=2)):=by
 unfold AZ
 cases decide (f=1)<;>rfl
theorem B28 {f:Int} (hf:isF f) (w:Nat):D3 f w=if Y3 f w=0 then (if wFr f w=0 then 1 else 2) else if Y3 f w<P7 f then 3 else if wFr f w=0 then (if Y3 f w=P7 f then 4 else 5) else 5:=by
 have hp:0<2^A6 f:=A9 _
 have hfr:wFr f w<2^A6 f:=Nat.mod_lt _ hp
 have hdm:2^A6 f*Y3 f w+wFr f w=R1 f w:=Nat.div_add_mod _ _
 have hM:0<P7 f:=by rcases J0 hf with c|c<;>omega
 unfold D3 N6
 rw [←hdm,Nat.mul_comm (P7 f)]
 generalize wFr f w=r at*
 generalize Y3 f w=x at*
 generalize P7 f=M at*
 generalize 2^A6 f=P at*
 rcases Nat.lt_trichotomy x M with c|c|c
 ·have h1:=F2 P (show x+1≤M by omega)
  rw [D0,M0] at h1
  by_cases h0:x=0
  ·subst h0
   rw [Nat.mul_zero,if_pos rfl]
   by_cases hr:r=0
   ·rw [if_pos (by omega),if_pos hr]
   ·rw [if_neg (by omega),if_pos (by omega),if_neg hr]
  ·have h2:=F2 P (show 1≤x by omega)
   rw [if_neg (by omega),if_neg (by omega),if_pos (by omega),if_neg h0,if_pos c]
 ·subst c
  have h2:=F2 P (show 1≤x by omega)
  rw [if_neg (by omega),if_neg (by omega),if_neg (by omega),if_neg (show¬x=0 by omega),if_neg (show¬x<x by omega)]
  by_cases hr:r=0
  ·rw [if_pos (by omega),if_pos hr,if_pos rfl]
  ·rw [if_neg (by omega),if_neg hr]
 ·have h1:=F2 P (show M+1≤x by omega)
  rw [D0,M0] at h1
  have h2:=F2 P (show 1≤M by omega)
  rw [if_neg (by omega),if_neg (by omega),if_neg (by omega),if_neg (by omega),if_neg (show¬x=0 by omega),if_neg (by omega)]
  split
  ·rw [if_neg (by omega)]
  ·rfl
theorem C51 {f:Int} (hf:isF f) (w:Nat):Y3 f w≤P7 f:=by
 have h:=KE f w
 unfold Y3
 have hp:0<2^A6 f:=A9 _
 have:2^M8 f=(P7 f+1)*2^A6 f:=by rcases hf with rfl|rfl<;>decide
 have h2:R1 f w/2^A6 f<P7 f+1:=by
  rw [Nat.div_lt_iff_lt_mul hp]
  omega
 omega
end Go.Dy
namespace Go.AI
open Go Go.RowKit Go.Proofs
set_option linter.unusedVariables false
set_option maxRecDepth 100000
set_option maxHeartbeats 1000000
theorem C0k (args:List AV) (s:Spec) (h:hIs args=some s) (hp:C6 s.pre True):Contract Tryz.prog Inv 89 args s.res:=by
 unfold hIs at h
 split at h
 ·cases h
  refine A4 false JY Tryz.func89 (by kernel_rfl) (by kernel_rfl) fun hok=> ?_
  rw [C2w,Dy.D2r]
  refine A8 (fun h=> ?_) (fun h=> ?_)
  ·rw [h];rfl
  ·rw [h];rfl
 ·cases h
theorem A9s (args:List AV) (s:Spec) (h:C81 args=some s) (hp:C6 s.pre True):Contract Tryz.prog Inv 59 args s.res:=by
 unfold C81 at h
 split at h
 ·cases h
  refine A4 false JY Tryz.func59 (by kernel_rfl) (by kernel_rfl) fun hok=> ?_
  rw [B1h]
  unfold Dy.M8
  refine A8 (fun h=> ?_) (fun h=> ?_)
  ·rw [if_pos (A1 h)];rfl
  ·rw [if_neg (A0 h)];rfl
 ·cases h
theorem A9p (args:List AV) (s:Spec) (h:C7w args=some s) (hp:C6 s.pre True):Contract Tryz.prog Inv 51 args s.res:=by
 unfold C7w at h
 split at h
 ·cases h
  refine A4 false JY Tryz.func51 (by kernel_rfl) (by kernel_rfl) fun hok=> ?_
  rw [B1e]
  unfold Dy.A6
  refine A8 (fun h=> ?_) (fun h=> ?_)
  ·rw [if_pos (A1 h)];rfl
  ·rw [if_neg (A0 h)];rfl
 ·cases h
theorem A9r (args:List AV) (s:Spec) (h:XE args=some s) (hp:C6 s.pre True):Contract Tryz.prog Inv 60 args s.res:=by
 unfold XE at h
 split at h
 ·cases h
  refine A4 false JY Tryz.func60 (by kernel_rfl) (by kernel_rfl) fun hok=> ?_
  rw [B1g]
  unfold Dy.P7
  refine A8 (fun h=> ?_) (fun h=> ?_)
  ·rw [if_pos (A1 h)];rfl
  ·rw [if_neg (A0 h)];rfl
 ·cases h
theorem C0l (args:List AV) (s:Spec) (h:C7y args=some s) (hp:C6 s.pre True):Contract Tryz.prog Inv 90 args s.res:=by
 unfold C7y at h
 split at h
 ·cases h
  refine A4 false JY Tryz.func90 (by kernel_rfl) (by kernel_rfl) fun hok=> ?_
  rw [C2x]
  refine A8 (fun h=> ?_) (fun h=> ?_)
  ·have h:=A1 h
   refine congrArg AV.bool (decide_eq_decide.2 ?_)
   omega
  ·have h:=A0 h
   rw [decide_eq_false (by omega)]
 ·cases h
theorem TU:G6 Tryz.prog Inv (look B69):=A3 (A3 (A3 (A3 (A3 JY C0l) A9r) A9p) A9s) C0k
theorem A9q (args:List AV) (s:Spec) (h:C7x args=some s) (hp:C6 s.pre True):Contract Tryz.prog Inv 91 args s.res:=by
 unfold C7x at h
 split at h
 ·cases h
  rename_i f w
  refine A4 false TU Tryz.func91 (by kernel_rfl) (by kernel_rfl) fun hok=> ?_
  have hw:=j4 hok.2.1
  rw [B1f]
  unfold Dy.H9
  rcases Dy.EE f with c|c|c
  ·subst c
   refine B1 rfl (B5 rfl ?_)
   rw [show Dy.AZ 1=true from rfl,cond_true]
   refine A8 (fun h=> ?_) (fun h=> ?_)
   ·have:=A1 h
    rw [if_pos (show ((2*Dy.shS 1:Nat):Int)≤w by show (4294967296:Int)≤w;omega)]
   ·have:=A0 h
    rw [if_neg (show¬((2*Dy.shS 1:Nat):Int)≤w by show¬(4294967296:Int)≤w;omega)]
  ·subst c
   refine B1 rfl (B1 rfl ?_)
   rw [show Dy.AZ 2=true from rfl,cond_true]
   rw [if_neg (show¬((2*Dy.shS 2:Nat):Int)≤w by show¬(18446744073709551616:Int)≤w;omega)]
  ·rw [Dy.JU c]
   exact rfl
 ·cases h
theorem A2j (v k:Nat):((v:Nat):Int).tmod ((k:Nat):Int)=((v%k:Nat):Int):=by
 rw [Int.tmod_eq_emod_of_nonneg (by omega)]
 exact (Int.natCast_emod v k).symm
theorem A46 (args:List AV) (s:Spec) (h:B91 args=some s) (hp:C6 s.pre True):Contract Tryz.prog Inv 18 args s.res:=by
 unfold B91 at h
 split at h
 ·cases h
  rename_i f w
  obtain ⟨p, -⟩:=hp
  refine A4 false TU Tryz.func18 (by kernel_rfl) (by kernel_rfl) fun hok=> ?_
  rw [A5c]
  have hf:=(Dy.r9 p).1
  have hw:=(Dy.r9 p).2
  have hw0:=j4 hok.2.1
  obtain ⟨v,rfl⟩:=Int.eq_ofNat_of_zero_le hw0.1
  have h1:=A9 (Dy.M8 f)
  have h2:=A9 (Dy.A6 f)
  have h3:=Dy.LI hf
  have h4:=Dy.KE f v
  have hb:=Dy.W8 hf
  have hF:=Dy.OL hf
  rw [pw hf,A2,A2]
  have e1:((v:Nat):Int).tmod ((2^Dy.M8 f:Nat):Int)=((Dy.R1 f v:Nat):Int):=A2j v _
  have e2:((Dy.R1 f v:Nat):Int).tmod ((2^Dy.A6 f:Nat):Int)=((Dy.wFr f v:Nat):Int):=A2j _ _
  rw [e1,e2,fdiv_pow (by omega),A2,Nat.min_eq_left (by omega),
   wrap_i64 (Int.le_trans (by decide) (Int.natCast_nonneg _)) (by have:=Nat.div_le_self (Dy.R1 f v) (2^Dy.A6 f);have:2^Dy.M8 f≤2^63:=Nat.pow_le_pow_right (by decide) (by omega);omega)]
  refine ⟨by omega,by omega,by omega,by omega,?_⟩
  have e3:decide (((v:Nat):Int)≥((2^Dy.M8 f:Nat):Int))=Dy.o9 f v:=by
   unfold Dy.o9
   exact decide_eq_decide.2 (by omega)
  rw [e3]
  rfl
 ·cases h
theorem A47 (args:List AV) (s:Spec) (h:B90 args=some s) (hp:C6 s.pre True):Contract Tryz.prog Inv 29 args s.res:=by
 unfold B90 at h
 split at h
 ·cases h
  rename_i f m
  refine E8 false 27 (lam [(6,.unroll 1)]) TU Tryz.func29 (by kernel_rfl) rfl (EP (k:=1) (by kernel_rfl) (by kernel_rfl)) fun hok=> ?_
  rw [A5d]
  unfold Dy.L2
  cases hb:Dy.AZ f
  ·exact B5 rfl rfl
  ·refine B1 rfl (A8 (fun h=> ?_) (fun h=> ?_))
   ·have h:¬(1≤m∧m≤5):=fun c=>by rw [decide_eq_true c] at h;cases h
    rw [cond_true,if_neg h]
   ·have h:1≤m∧m≤5:=G8 fun c=>by rw [decide_eq_false c] at h;cases h
    rw [cond_true,if_pos h]
 ·cases h
theorem A1k:G6 Tryz.prog Inv (look C4u):=A3 (A3 (A3 TU A47) A46) A9q
theorem A45 (args:List AV) (s:Spec) (h:B8y args=some s) (hp:C6 s.pre True):Contract Tryz.prog Inv 19 args s.res:=by
 unfold B8y at h
 split at h
 ·cases h
  rename_i f w
  obtain ⟨p, -⟩:=hp
  refine A4 false A1k Tryz.func19 (by kernel_rfl) (by kernel_rfl) fun hok=> ?_
  obtain ⟨hf,hw⟩:=Dy.r9 p
  have hx:=Dy.C51 hf w.toNat
  rw [A5b,Dy.B28 hf]
  refine ⟨p,?_⟩
  rintro _ rfl _ rfl _ rfl
  refine A8 (fun h1=> ?_) (fun h1=> ?_)
  ·have h1':=A1 h1
   rw [if_pos (by omega)]
   refine A8 (fun h2=> ?_) (fun h2=> ?_)
   ·have:=A1 h2
    rw [if_pos (by omega)]
   ·have:=A0 h2
    rw [if_neg (by omega)]
    exact B5 h1 rfl
  ·have h1':=A0 h1
   rw [if_neg (by omega)]
   refine B1 h1 (A8 (fun h2=> ?_) (fun h2=> ?_))
   ·have:=A1 h2
    rw [if_pos (by omega)]
   ·have:=A0 h2
    rw [if_neg (by omega)]
    refine A8 (fun h3=> ?_) (fun h3=> ?_)
    ·have:=A1 h3
     rw [if_pos (by omega),if_pos (by omega)]
    ·have:=A0 h3
     rw [if_neg (by omega)]
 ·cases h
theorem A42 (args:List AV) (s:Spec) (h:C80 args=some s) (hp:C6 s.pre True):Contract Tryz.prog Inv 30 args s.res:=by
 unfold C80 at h
 split at h
 ·cases h
  rename_i f a b
  refine E8 false 33 (lam [(4,.unroll 2)]) A1k Tryz.func30 (by kernel_rfl) rfl (EP (k:=2) (by kernel_rfl) (by kernel_rfl)) fun hok=> ?_
  rw [A58]
  cases hb:Dy.AZ f
  ·exact B5 rfl rfl
  ·rw [cond_true]
   refine B1 rfl ⟨⟨by decide,(by decide:(0:Int)<1)⟩,A8 (fun h=> ?_) (fun h=>⟨⟨by decide,(by decide:(0:Int)<1)⟩,A8 (fun h'=> ?_) (fun h'=> ?_)⟩)⟩
   ·rw [if_neg (fun c=>by simp [c.1] at h)]
   ·rw [if_neg (fun c=>by simp [c.2] at h')]
   ·rw [if_pos ⟨by simpa using h,by simpa using h'⟩]
 ·cases h
theorem HE:G6 Tryz.prog Inv (look XQ):=A3 (A3 A1k A42) A45
theorem A16 (args:List AV) (s:Spec) (h:C7z args=some s) (hp:C6 s.pre True):Contract Tryz.prog Inv 7 args s.res:=by
 unfold C7z at h
 split at h
 ·cases h
  rename_i f m a b
  refine A4 false HE Tryz.func7 (by kernel_rfl) (by kernel_rfl) fun hok=> ?_
  rw [A2z]
  refine A8 (fun h=> ?_) (fun h=> ?_)
  ·rw [if_neg (by simpa using h)]
  ·have h:Dy.L2 f m=0:=by simpa using h
   rw [if_pos h,Dy.OY (Dy.W5 h).1,cond_true]
 ·cases h
end Go.AI

namespace Go.AI
open Dy IntKind
open Go Go.RowKit Go.Proofs
set_option linter.unusedVariables false
set_option maxRecDepth 100000
set_option maxHeartbeats 0
theorem A2y (Q:AV→Prop):(evF Tryz.prog (look D6f) (lam []) false Tryz.f9 [] Q)=((L2 (1:Int) (1:Int)=0∧H9 (1:Int) (1077936128:Int)=0∧H9 (1:Int) (1082130432:Int)=0∧D3 (1:Int) (1077936128:Nat)<4∧D3 (1:Int) (1082130432:Nat)<4)∧∀n1,n1=(↑(crK (1:Int) (1:Int) (1077936128:Int) (1082130432:Int)).fst.fst:Int)→∀n2,n2=(↑(crK (1:Int) (1:Int) (1077936128:Int) (1082130432:Int)).snd.fst:Int)→∀n3,n3=(crK (1:Int) (1:Int) (1077936128:Int) (1082130432:Int)).fst.snd→∀n4,n4=(crK (1:Int) (1:Int) (1077936128:Int) (1082130432:Int)).snd.snd→∀n5,n5=(0:Int)→bif decide (n1=1073741824)&&(decide (n2=1065353216)&&true)&&(decide (n3=0)&&(decide (n4=0)&&true)) then Q (.bool (decide (n5=0))) else Q (.bool false)):=by kernel_rfl
end Go.AI

namespace Go.Dy
theorem A1z {s:Nat} (hs:s%2=1) {j k:Int} (h1:1≤k) (hk:(bl s:Int)≤k):C3 ⟨false,dg (s*s),2*j⟩ k=(⟨false,dg s,j⟩,false):=by
 obtain ⟨t,ht⟩:∃t:Nat,U5 (s*s) (2*j) k=2*t:=by
  unfold U5 DY
  generalize hz:(if 2*k+2-(bl (s*s):Int)<0 then (0:Int) else 2*k+2-(bl (s*s):Int))=z0
  have h0:0≤z0:=by rw [←hz];split<;>omega
  split
  ·exact ⟨z0.toNat/2,by omega⟩
  ·exact ⟨(z0+1).toNat/2,by omega⟩
 have e0:s*s*2^(2*t)=(s*2^t)*(s*2^t):=by rw [Nat.mul_mul_mul_comm,Y8]
 have e1:isq (s*s*2^(2*t))=s*2^t:=by
  rw [e0]
  refine GV (I6 _) ?_
  rw [Nat.add_mul,D0]
  omega
 have e2:(2*j-((2*t:Nat):Int))/2=j-t:=by omega
 have e3:form false (s*2^t) (j-t)=⟨false,dg s,j⟩:=by
  rw [EW,NK hs]
  congr 1
  omega
 have e4:F6 ⟨false,dg s,j⟩ k=(⟨false,dg s,j⟩,false):=by
  unfold F6 HF
  simp only [E3]
  rw [if_pos (by omega)]
 unfold C3
 simp only [E3]
 rw [ht,e1,e2,e3,e4,e0]
 simp
theorem B99:crK 1 1 1077936128 1082130432=((1073741824,0),(1065353216,0)):=by
 have hX:S6 1 (1077936128:Int).toNat=⟨false,[3],0⟩:=by kernel_rfl
 have hY:S6 1 (1082130432:Int).toNat=⟨false,[1],2⟩:=by kernel_rfl
 have hS:sqD ⟨false,[3],0⟩ ⟨false,[1],2⟩=⟨false,dg (5*5),2*0⟩:=by kernel_rfl
 have h5:∀k:Int,k=4500→C3 ⟨false,dg (5*5),2*0⟩ k=(⟨false,dg 5,0⟩,false):=fun k e=>A1z rfl (by omega) (by rw [e];decide)
 have h4:C3 ⟨false,dg (1*1),2*1⟩ 64=(⟨false,dg 1,1⟩,false):=A1z rfl (by decide) (by decide)
 have h1:C3 ⟨false,dg (1*1),2*0⟩ 64=(⟨false,dg 1,0⟩,false):=A1z rfl (by decide) (by decide)
 have a1:shD (C2 ⟨false,dg 5,0⟩ ⟨false,[3],0⟩) (-1)=⟨false,dg (1*1),2*1⟩:=by kernel_rfl
 have a2:shD (GF ⟨false,dg 5,0⟩ ⟨false,[3],0⟩) (-1)=⟨false,dg (1*1),2*0⟩:=by kernel_rfl
 have r1:S5 1 1 ⟨false,dg (1*1),2*1⟩ false=(1073741824,0):=by
  unfold S5 S3
  rw [h4]
  kernel_rfl
 have r2:S5 1 1 ⟨false,dg (1*1),2*0⟩ false=(1065353216,0):=by
  unfold S5 S3
  rw [h1]
  kernel_rfl
 have hc:¬D3 1 (1082130432:Int).toNat=1:=by decide
 have hn:o9 1 (1082130432:Int).toNat=false:=by decide
 unfold crK NG
 rw [if_neg hc,hX,hY,hn]
 unfold ME
 rw [hS,h5 4500 rfl,if_pos rfl]
 simp only
 rw [a1,a2,r1,r2]
end Go.Dy
namespace Go.AI
open Go Go.RowKit Go.Proofs
set_option linter.unusedVariables false
set_option maxRecDepth 100000
set_option maxHeartbeats 1000000
theorem A0t (args:List AV) (s:Spec) (h:B8j args=some s) (hp:C6 s.pre True):Contract Tryz.prog Inv 6 args s.res:=by
 refine JB args s ?_ hp
 unfold B8j at h
 unfold Dy.crK at h
 exact h
theorem D3a:G6 Tryz.prog Inv (look D6f):=A3 TT A0t
theorem A15 (args:List AV) (s:Spec) (h:B8z args=some s) (hp:C6 s.pre True):Contract Tryz.prog Inv 9 args s.res:=by
 unfold B8z at h
 split at h
 ·cases h
  refine A4 false D3a Tryz.func9 (by kernel_rfl) (by kernel_rfl) fun hok=> ?_
  rw [A2y,Dy.B99]
  refine ⟨⟨by decide,by decide,by decide,by decide,by decide⟩,?_⟩
  rintro _ rfl _ rfl _ rfl _ rfl _ rfl
  rfl
 ·cases h
end Go.AI
