/- My texts AVcroot, AIcroot, AIcroot2, AIhalf1, AIspecD, AVhalf, AIhalf, AVhalf2, AIhalf2, in one. -/
import Derived.Test.YtogikmlfkhofoaaGreatDoorK17
namespace Go.AI
open Dy IntKind
open Go Go.RowKit Go.Proofs
set_option linter.unusedVariables false
set_option maxRecDepth 100000
set_option maxHeartbeats 0
theorem vc_croot_both (a:Int) (b:Int) (c:Int) (d:Int) (Q:AV→Prop):(evF Tryz.prog (look tabC3) (lam []) false Tryz.f21 [.agg [.num .u64 a,.num .u8 b],.agg [.num .u64 c,.num .u8 d]] Q)=(Q (.agg [.num .u64 a,.num .u64 c,.num .u8 b,.num .u8 d])):=by kernel_rfl
theorem vc_croot_zero (f:Int) (m:Int) (a:Int) (b:Int) (k:Int) (k':Int) (g:Bool) (h:Bool) (s:Bool) (d:List Nat) (e:Int) (s':Bool) (d':List Nat) (e':Int) (neg:Bool) (Q:AV→Prop):(evF Tryz.prog (look tabC3) (lam []) false Tryz.f24 [.agg [.num .u8 f,.num .u8 m,.num .u64 a,.num .u64 b,.num .u8 k,.num .u8 k',.bool g,.bool h,.bool s,.dig [1] d,.num .i64 e,.bool s',.dig [1] d',.num .i64 e'],.bool neg] Q)=(isF f∧∀(n1:Int),n1=(↑(signW f neg):Int)→∀(n2:Int),n2=(0:Int)→Q (.agg [.num .u64 n1,.num .u8 0])):=by kernel_rfl
theorem vc_croot_root (f:Int) (m:Int) (a:Int) (b:Int) (k:Int) (k':Int) (g:Bool) (h:Bool) (s:Bool) (d:List Nat) (e:Int) (s':Bool) (d':List Nat) (e':Int) (t:Bool) (l:List Nat) (i:Int) (neg:Bool) (Q:AV→Prop):(evF Tryz.prog (look tabC3) (lam []) false Tryz.f27 [.agg [.num .u8 f,.num .u8 m,.num .u64 a,.num .u64 b,.num .u8 k,.num .u8 k',.bool g,.bool h,.bool s,.dig [1] d,.num .i64 e,.bool s',.dig [1] d',.num .i64 e'],.agg [.bool t,.dig [2] l,.num .i64 i],.bool neg] Q)=(bif neg then bif decide (m≥(4:Int)) then (errM f (u8.wrap ((9:Int)-m))=(0:Int)∧mayD (Dyd.mk t l i)=true∧t=false)∧∀(n1:Int),n1=(↑(rootW f (u8.wrap ((9:Int)-m)) (Dyd.mk t l i)).fst:Int)→∀(n2:Int),n2=(rootW f (u8.wrap ((9:Int)-m)) (Dyd.mk t l i)).snd→∀(n3:Int),n3=(0:Int)→bif neg then errW f n1=(0:Int)∧∀(n4:Int),n4=(↑(negW f n1.toNat):Int)→∀(n5:Int),n5=(0:Int)→Q (.agg [.num .u64 n4,.num .u8 n2]) else Q (.agg [.num .u64 n1,.num .u8 n2]) else (errM f m=(0:Int)∧mayD (Dyd.mk t l i)=true∧t=false)∧∀(n6:Int),n6=(↑(rootW f m (Dyd.mk t l i)).fst:Int)→∀(n7:Int),n7=(rootW f m (Dyd.mk t l i)).snd→∀(n8:Int),n8=(0:Int)→bif neg then errW f n6=(0:Int)∧∀(n9:Int),n9=(↑(negW f n6.toNat):Int)→∀(n10:Int),n10=(0:Int)→Q (.agg [.num .u64 n9,.num .u8 n7]) else Q (.agg [.num .u64 n6,.num .u8 n7]) else (errM f m=(0:Int)∧mayD (Dyd.mk t l i)=true∧t=false)∧∀(n11:Int),n11=(↑(rootW f m (Dyd.mk t l i)).fst:Int)→∀(n12:Int),n12=(rootW f m (Dyd.mk t l i)).snd→∀(n13:Int),n13=(0:Int)→bif neg then errW f n11=(0:Int)∧∀(n14:Int),n14=(↑(negW f n11.toNat):Int)→∀(n15:Int),n15=(0:Int)→Q (.agg [.num .u64 n14,.num .u8 n12]) else Q (.agg [.num .u64 n11,.num .u8 n12])):=by kernel_rfl
theorem vc_croot_rounded (f:Int) (m:Int) (a:Int) (b:Int) (k:Int) (k':Int) (g:Bool) (h:Bool) (s:Bool) (d:List Nat) (e:Int) (s':Bool) (d':List Nat) (e':Int) (t:Bool) (l:List Nat) (i:Int) (Q:AV→Prop):(evF Tryz.prog (look tabC3) (lam []) false Tryz.f88 [.agg [.num .u8 f,.num .u8 m,.num .u64 a,.num .u64 b,.num .u8 k,.num .u8 k',.bool g,.bool h,.bool s,.dig [1] d,.num .i64 e,.bool s',.dig [1] d',.num .i64 e'],.agg [.bool t,.dig [2] l,.num .i64 i]] Q)=((errM f m=(0:Int)∧mayD (Dyd.mk t l i)=true)∧∀(n1:Int),n1=(↑(roundW f m (Dyd.mk t l i)).fst:Int)→∀(n2:Int),n2=(roundW f m (Dyd.mk t l i)).snd→∀(n3:Int),n3=(0:Int)→Q (.agg [.num .u64 n1,.num .u8 n2])):=by kernel_rfl
theorem vc_croot_open (f:Int) (m:Int) (a:Int) (b:Int) (Q:AV→Prop):(evF Tryz.prog (look tabC3) (lam []) false Tryz.f20 [.num .u8 f,.num .u8 m,.agg [.num .u64 a,.num .u64 b]] Q)=(∀(n1:Int),n1=(↑(bif decide (errM f m=(0:Int)) then overW f m false else (0:Nat)):Int)→∀(n2:Int),n2=errM f m→bif !decide (n2=(0:Int)) then Q (.tup [.agg [.num .u8 f,.num .u8 m,.num .u64 a,.num .u64 b,.num .u8 0,.num .u8 0,.bool false,.bool false,.bool false,.dig [0] [],.num .i64 0,.bool false,.dig [0] [],.num .i64 0],.num .i64 n2]) else bif !decide ((if errW f a=(0:Int) then errW f b else errW f a)=(0:Int)) then Q (.tup [.agg [.num .u8 f,.num .u8 m,.num .u64 a,.num .u64 b,.num .u8 0,.num .u8 0,.bool false,.bool false,.bool false,.dig [0] [],.num .i64 0,.bool false,.dig [0] [],.num .i64 0],.num .i64 (if errW f a=(0:Int) then errW f b else errW f a)]) else errW f a=(0:Int)∧∀(n3:Int),n3=wClass f a.toNat→∀(n4:Int),n4=(0:Int)→errW f b=(0:Int)∧∀(n5:Int),n5=wClass f b.toNat→∀(n6:Int),n6=(0:Int)→errW f a=(0:Int)∧dyF (if 4≤wClass f a.toNat then zeroD else wVal f a.toNat) fun b7 l8 n9=>∀(n10:Int),(n10=if 4≤wClass f a.toNat then (7:Int) else (0:Int))→errW f b=(0:Int)∧dyF (if 4≤wClass f b.toNat then zeroD else wVal f b.toNat) fun b11 l12 n13=>∀(n14:Int),(n14=if 4≤wClass f b.toNat then (7:Int) else (0:Int))→errW f a=(0:Int)∧∀(b15:Bool),b15=wNeg f a.toNat→∀(n16:Int),n16=(↑(wExp f a.toNat):Int)→∀(n17:Int),n17=(↑(wFr f a.toNat):Int)→∀(n18:Int),n18=(0:Int)→bif b15 then errW f b=(0:Int)∧∀(b19:Bool),b19=wNeg f b.toNat→∀(n20:Int),n20=(↑(wExp f b.toNat):Int)→∀(n21:Int),n21=(↑(wFr f b.toNat):Int)→∀(n22:Int),n22=(0:Int)→bif b19 then Q (.tup [.agg [.num .u8 f,.num .u8 m,.num .u64 a,.num .u64 b,.num .u8 n3,.num .u8 n5,.bool !decide (n3=(5:Int)),.bool !decide (n5=(5:Int)),.bool b7,.dig [0] l8,.num .i64 n9,.bool b11,.dig [0] l12,.num .i64 n13],.num .i64 0]) else Q (.tup [.agg [.num .u8 f,.num .u8 m,.num .u64 a,.num .u64 b,.num .u8 n3,.num .u8 n5,.bool !decide (n3=(5:Int)),.bool false,.bool b7,.dig [0] l8,.num .i64 n9,.bool b11,.dig [0] l12,.num .i64 n13],.num .i64 0]) else errW f b=(0:Int)∧∀(b23:Bool),b23=wNeg f b.toNat→∀(n24:Int),n24=(↑(wExp f b.toNat):Int)→∀(n25:Int),n25=(↑(wFr f b.toNat):Int)→∀(n26:Int),n26=(0:Int)→bif b23 then Q (.tup [.agg [.num .u8 f,.num .u8 m,.num .u64 a,.num .u64 b,.num .u8 n3,.num .u8 n5,.bool false,.bool !decide (n5=(5:Int)),.bool b7,.dig [0] l8,.num .i64 n9,.bool b11,.dig [0] l12,.num .i64 n13],.num .i64 0]) else Q (.tup [.agg [.num .u8 f,.num .u8 m,.num .u64 a,.num .u64 b,.num .u8 n3,.num .u8 n5,.bool false,.bool false,.bool b7,.dig [0] l8,.num .i64 n9,.bool b11,.dig [0] l12,.num .i64 n13],.num .i64 0])):=by kernel_rfl
theorem vc_croot_sqrt (f:Int) (m:Int) (a:Int) (b:Int) (k:Int) (k':Int) (g:Bool) (h:Bool) (s:Bool) (d:List Nat) (e:Int) (s':Bool) (d':List Nat) (e':Int) (Q:AV→Prop):(evF Tryz.prog (look tabC4) (lam []) false Tryz.f28 [.agg [.num .u8 f,.num .u8 m,.num .u64 a,.num .u64 b,.num .u8 k,.num .u8 k',.bool g,.bool h,.bool s,.dig [1] d,.num .i64 e,.bool s',.dig [1] d',.num .i64 e']] Q)=(dyF (Dyd.mk s d e) fun b1 l2 n3=>dyF (Dyd.mk s d e) fun b4 l5 n6=>dyF (Dyd.mk s' d' e') fun b7 l8 n9=>dyF (Dyd.mk s' d' e') fun b10 l11 n12=>(mayD (Dyd.mk b1 l2 n3)=true∧mayD (Dyd.mk b4 l5 n6)=true∧mayD (Dyd.mk b1 l2 n3)=true∧mayD (Dyd.mk b4 l5 n6)=true∧mid (mulD (Dyd.mk b1 l2 n3) (Dyd.mk b1 l2 n3))∧mid (mulD (Dyd.mk b1 l2 n3) (Dyd.mk b4 l5 n6))∧mid (mulD (Dyd.mk b4 l5 n6) (Dyd.mk b1 l2 n3))∧mid (mulD (Dyd.mk b4 l5 n6) (Dyd.mk b4 l5 n6))∧(1:Int)≤(4500:Int)∧(4500:Int)≤(8192:Int))∧dyF (endD (bif !b1&& !b1 then mulD (Dyd.mk b1 l2 n3) (Dyd.mk b1 l2 n3) else min4 (mulD (Dyd.mk b1 l2 n3) (Dyd.mk b1 l2 n3)) (mulD (Dyd.mk b1 l2 n3) (Dyd.mk b4 l5 n6)) (mulD (Dyd.mk b4 l5 n6) (Dyd.mk b1 l2 n3)) (mulD (Dyd.mk b4 l5 n6) (Dyd.mk b4 l5 n6))) (4500:Int) false) fun b13 l14 n15=>dyF (endD (bif !b1&& !b1 then mulD (Dyd.mk b4 l5 n6) (Dyd.mk b4 l5 n6) else max4 (mulD (Dyd.mk b1 l2 n3) (Dyd.mk b1 l2 n3)) (mulD (Dyd.mk b1 l2 n3) (Dyd.mk b4 l5 n6)) (mulD (Dyd.mk b4 l5 n6) (Dyd.mk b1 l2 n3)) (mulD (Dyd.mk b4 l5 n6) (Dyd.mk b4 l5 n6))) (4500:Int) true) fun b16 l17 n18=>(mayD (Dyd.mk b7 l8 n9)=true∧mayD (Dyd.mk b10 l11 n12)=true∧mayD (Dyd.mk b7 l8 n9)=true∧mayD (Dyd.mk b10 l11 n12)=true∧mid (mulD (Dyd.mk b7 l8 n9) (Dyd.mk b7 l8 n9))∧mid (mulD (Dyd.mk b7 l8 n9) (Dyd.mk b10 l11 n12))∧mid (mulD (Dyd.mk b10 l11 n12) (Dyd.mk b7 l8 n9))∧mid (mulD (Dyd.mk b10 l11 n12) (Dyd.mk b10 l11 n12))∧(1:Int)≤(4500:Int)∧(4500:Int)≤(8192:Int))∧dyF (endD (bif !b7&& !b7 then mulD (Dyd.mk b7 l8 n9) (Dyd.mk b7 l8 n9) else min4 (mulD (Dyd.mk b7 l8 n9) (Dyd.mk b7 l8 n9)) (mulD (Dyd.mk b7 l8 n9) (Dyd.mk b10 l11 n12)) (mulD (Dyd.mk b10 l11 n12) (Dyd.mk b7 l8 n9)) (mulD (Dyd.mk b10 l11 n12) (Dyd.mk b10 l11 n12))) (4500:Int) false) fun b19 l20 n21=>dyF (endD (bif !b7&& !b7 then mulD (Dyd.mk b10 l11 n12) (Dyd.mk b10 l11 n12) else max4 (mulD (Dyd.mk b7 l8 n9) (Dyd.mk b7 l8 n9)) (mulD (Dyd.mk b7 l8 n9) (Dyd.mk b10 l11 n12)) (mulD (Dyd.mk b10 l11 n12) (Dyd.mk b7 l8 n9)) (mulD (Dyd.mk b10 l11 n12) (Dyd.mk b10 l11 n12))) (4500:Int) true) fun b22 l23 n24=>(mayD (Dyd.mk b13 l14 n15)=true∧mayD (Dyd.mk b16 l17 n18)=true∧mayD (Dyd.mk b19 l20 n21)=true∧mayD (Dyd.mk b22 l23 n24)=true∧mid (addD (Dyd.mk b13 l14 n15) (Dyd.mk b19 l20 n21))∧mid (addD (Dyd.mk b16 l17 n18) (Dyd.mk b22 l23 n24))∧(1:Int)≤(4500:Int)∧(4500:Int)≤(8192:Int))∧dyF (endD (addD (Dyd.mk b13 l14 n15) (Dyd.mk b19 l20 n21)) (4500:Int) false) fun b25 l26 n27=>dyF (endD (addD (Dyd.mk b16 l17 n18) (Dyd.mk b22 l23 n24)) (4500:Int) true) fun b28 l29 n30=>dyF (rootD (Dyd.mk b25 l26 n27) (4500:Int)).num fun b31 l32 n33=>∀(b34:Bool),b34=(rootD (Dyd.mk b25 l26 n27) (4500:Int)).lost→∀(n35:Int),n35=(rootD (Dyd.mk b25 l26 n27) (4500:Int)).err→bif !b34 then dyF (boundIf (mayD (Dyd.mk b31 l32 n33)&&mayD (Dyd.mk s d e)) (addD (Dyd.mk b31 l32 n33) (Dyd.mk s d e))).1 fun b36 l37 n38=>∀(n39:Int),n39=(boundIf (mayD (Dyd.mk b31 l32 n33)&&mayD (Dyd.mk s d e)) (addD (Dyd.mk b31 l32 n33) (Dyd.mk s d e))).snd→dyF (boundIf (mayD (Dyd.mk b31 l32 n33)&&mayD (Dyd.mk s d e)) (addD (Dyd.mk b31 l32 n33) (negD (Dyd.mk s d e)))).1 fun b40 l41 n42=>∀(n43:Int),n43=(boundIf (mayD (Dyd.mk b31 l32 n33)&&mayD (Dyd.mk s d e)) (addD (Dyd.mk b31 l32 n33) (negD (Dyd.mk s d e)))).snd→dyF (shiftD (Dyd.mk b36 l37 n38) (-1:Int)).1 fun b44 l45 n46=>∀(n47:Int),n47=(shiftD (Dyd.mk b36 l37 n38) (-1:Int)).snd→dyF (shiftD (Dyd.mk b40 l41 n42) (-1:Int)).1 fun b48 l49 n50=>∀(n51:Int),n51=(shiftD (Dyd.mk b40 l41 n42) (-1:Int)).snd→(errM f m=(0:Int)∧mayD (Dyd.mk b44 l45 n46)=true∧b44=false)∧∀(n52:Int),n52=(↑(rootN f m (Dyd.mk b44 l45 n46) false).fst:Int)→∀(n53:Int),n53=(rootN f m (Dyd.mk b44 l45 n46) false).snd→(errM f m=(0:Int)∧mayD (Dyd.mk b48 l49 n50)=true∧b48=false)∧∀(n54:Int),n54=(↑(rootN f m (Dyd.mk b48 l49 n50) h).fst:Int)→∀(n55:Int),n55=(rootN f m (Dyd.mk b48 l49 n50) h).snd→∀(n56:Int),n56=n52→∀(n57:Int),n57=n54→∀(n58:Int),n58=n53→∀(n59:Int),n59=n55→Q (.agg [.num .u64 n56,.num .u64 n57,.num .u8 n58,.num .u8 n59]) else capOk (Dyd.mk s d e) (Dyd.mk s' d' e') (Dyd.mk b1 l2 n3) (Dyd.mk b4 l5 n6) (Dyd.mk b25 l26 n27) (Dyd.mk b28 l29 n30) (Dyd.mk b7 l8 n9) (Dyd.mk b10 l11 n12) h∧dyF (beyD (reD (Dyd.mk s d e) (Dyd.mk s' d' e'))) fun b60 l61 n62=>capOk (Dyd.mk s d e) (Dyd.mk s' d' e') (Dyd.mk b1 l2 n3) (Dyd.mk b4 l5 n6) (Dyd.mk b25 l26 n27) (Dyd.mk b28 l29 n30) (Dyd.mk b7 l8 n9) (Dyd.mk b10 l11 n12) h∧dyF (beyD (imD (Dyd.mk s d e) (Dyd.mk s' d' e'))) fun b63 l64 n65=>(errM f m=(0:Int)∧mayD (Dyd.mk b60 l61 n62)=true)∧∀(n66:Int),n66=(↑(roundW f m (Dyd.mk b60 l61 n62)).fst:Int)→∀(n67:Int),n67=(roundW f m (Dyd.mk b60 l61 n62)).snd→(errM f m=(0:Int)∧mayD (Dyd.mk b63 l64 n65)=true)∧∀(n68:Int),n68=(↑(roundW f m (Dyd.mk b63 l64 n65)).fst:Int)→∀(n69:Int),n69=(roundW f m (Dyd.mk b63 l64 n65)).snd→∀(n70:Int),n70=n66→∀(n71:Int),n71=n68→∀(n72:Int),n72=n67→∀(n73:Int),n73=n69→Q (.agg [.num .u64 n70,.num .u64 n71,.num .u8 n72,.num .u8 n73])):=by kernel_rfl
theorem vc_croot_Sqrt (f:Int) (m:Int) (a:Int) (b:Int) (Q:AV→Prop):(evF Tryz.prog (look tabC5) (lam []) false Tryz.f6 [.num .u8 f,.num .u8 m,.agg [.num .u64 a,.num .u64 b]] Q)=((errM f m=(0:Int)∧errW f a=(0:Int)∧errW f b=(0:Int)∧wClass f a.toNat<(4:Int)∧wClass f b.toNat<(4:Int))∧∀(n1:Int),n1=f→∀(n2:Int),n2=m→∀(n3:Int),n3=a→∀(n4:Int),n4=b→∀(n5:Int),n5=wClass f a.toNat→∀(n6:Int),n6=wClass f b.toNat→∀(b7:Bool),b7=wNeg f a.toNat→∀(b8:Bool),b8=wNeg f b.toNat→dyF (wVal f a.toNat) fun b9 l10 n11=>dyF (wVal f b.toNat) fun b12 l13 n14=>∀(n15:Int),n15=(0:Int)→bif !decide (n15=(0:Int)) then Q (.tup [.agg [.num .u64 0,.num .u64 0,.num .u8 0,.num .u8 0],.num .i64 n15]) else bif decide (n6=(4:Int)) then False else bif decide (n5=(4:Int)) then bif decide (n6=(5:Int)) then bif b7 then False else bif decide (n5=(4:Int)) then bif decide (n6=(5:Int)) then False else bif decide (n5=(4:Int)) then bif b7 then isF n1∧∀(n16:Int),n16=(↑(signW n1 false):Int)→∀(n17:Int),n17=(0:Int)→False else bif decide (n5=(4:Int)) then False else bif decide (n6=(5:Int)) then False else bif decide (n5=(5:Int)) then False else bif decide (n6=(1:Int)) then bif decide ((if mayD (Dyd.mk b9 l10 n11)=true then signD (Dyd.mk b9 l10 n11) else (0:Int))<(0:Int)) then dyF (okIf (mayD (Dyd.mk b9 l10 n11)) (absD (Dyd.mk b9 l10 n11))).1 fun b18 l19 n20=>∀(n21:Int),n21=(okIf (mayD (Dyd.mk b9 l10 n11)) (absD (Dyd.mk b9 l10 n11))).snd→isF n1∧∀(n22:Int),n22=(↑(signW n1 false):Int)→∀(n23:Int),n23=(0:Int)→(errM n1 n2=(0:Int)∧mayD (Dyd.mk b18 l19 n20)=true∧b18=false)∧∀(n24:Int),n24=(↑(rootN n1 n2 (Dyd.mk b18 l19 n20) b8).fst:Int)→∀(n25:Int),n25=(rootN n1 n2 (Dyd.mk b18 l19 n20) b8).snd→∀(n26:Int),n26=n22→∀(n27:Int),n27=n24→∀(n28:Int),n28=n23→∀(n29:Int),n29=n25→Q (.tup [.agg [.num .u64 n26,.num .u64 n27,.num .u8 n28,.num .u8 n29],.num .i64 0]) else bif decide (n6=(1:Int)) then (errM n1 n2=(0:Int)∧mayD (Dyd.mk b9 l10 n11)=true∧b9=false)∧∀(n30:Int),n30=(↑(rootN n1 n2 (Dyd.mk b9 l10 n11) false).fst:Int)→∀(n31:Int),n31=(rootN n1 n2 (Dyd.mk b9 l10 n11) false).snd→isF n1∧∀(n32:Int),n32=(↑(signW n1 b8):Int)→∀(n33:Int),n33=(0:Int)→∀(n34:Int),n34=n30→∀(n35:Int),n35=n32→∀(n36:Int),n36=n31→∀(n37:Int),n37=n33→Q (.tup [.agg [.num .u64 n34,.num .u64 n35,.num .u8 n36,.num .u8 n37],.num .i64 0]) else numOk n1 n2 (Dyd.mk b9 l10 n11) (Dyd.mk b12 l13 n14) b8∧∀(n38:Int),n38=(↑(sqrtN n1 n2 (Dyd.mk b9 l10 n11) (Dyd.mk b12 l13 n14) b8).fst.fst:Int)→∀(n39:Int),n39=(↑(sqrtN n1 n2 (Dyd.mk b9 l10 n11) (Dyd.mk b12 l13 n14) b8).snd.fst:Int)→∀(n40:Int),n40=(sqrtN n1 n2 (Dyd.mk b9 l10 n11) (Dyd.mk b12 l13 n14) b8).fst.snd→∀(n41:Int),n41=(sqrtN n1 n2 (Dyd.mk b9 l10 n11) (Dyd.mk b12 l13 n14) b8).snd.snd→Q (.tup [.agg [.num .u64 n38,.num .u64 n39,.num .u8 n40,.num .u8 n41],.num .i64 0]) else bif decide (n6=(1:Int)) then (errM n1 n2=(0:Int)∧mayD (Dyd.mk b9 l10 n11)=true∧b9=false)∧∀(n42:Int),n42=(↑(rootN n1 n2 (Dyd.mk b9 l10 n11) false).fst:Int)→∀(n43:Int),n43=(rootN n1 n2 (Dyd.mk b9 l10 n11) false).snd→isF n1∧∀(n44:Int),n44=(↑(signW n1 b8):Int)→∀(n45:Int),n45=(0:Int)→∀(n46:Int),n46=n42→∀(n47:Int),n47=n44→∀(n48:Int),n48=n43→∀(n49:Int),n49=n45→Q (.tup [.agg [.num .u64 n46,.num .u64 n47,.num .u8 n48,.num .u8 n49],.num .i64 0]) else numOk n1 n2 (Dyd.mk b9 l10 n11) (Dyd.mk b12 l13 n14) b8∧∀(n50:Int),n50=(↑(sqrtN n1 n2 (Dyd.mk b9 l10 n11) (Dyd.mk b12 l13 n14) b8).fst.fst:Int)→∀(n51:Int),n51=(↑(sqrtN n1 n2 (Dyd.mk b9 l10 n11) (Dyd.mk b12 l13 n14) b8).snd.fst:Int)→∀(n52:Int),n52=(sqrtN n1 n2 (Dyd.mk b9 l10 n11) (Dyd.mk b12 l13 n14) b8).fst.snd→∀(n53:Int),n53=(sqrtN n1 n2 (Dyd.mk b9 l10 n11) (Dyd.mk b12 l13 n14) b8).snd.snd→Q (.tup [.agg [.num .u64 n50,.num .u64 n51,.num .u8 n52,.num .u8 n53],.num .i64 0]) else bif decide (n5=(4:Int)) then False else bif decide (n6=(5:Int)) then False else bif decide (n5=(5:Int)) then False else bif decide (n6=(1:Int)) then bif decide ((if mayD (Dyd.mk b9 l10 n11)=true then signD (Dyd.mk b9 l10 n11) else (0:Int))<(0:Int)) then dyF (okIf (mayD (Dyd.mk b9 l10 n11)) (absD (Dyd.mk b9 l10 n11))).1 fun b54 l55 n56=>∀(n57:Int),n57=(okIf (mayD (Dyd.mk b9 l10 n11)) (absD (Dyd.mk b9 l10 n11))).snd→isF n1∧∀(n58:Int),n58=(↑(signW n1 false):Int)→∀(n59:Int),n59=(0:Int)→(errM n1 n2=(0:Int)∧mayD (Dyd.mk b54 l55 n56)=true∧b54=false)∧∀(n60:Int),n60=(↑(rootN n1 n2 (Dyd.mk b54 l55 n56) b8).fst:Int)→∀(n61:Int),n61=(rootN n1 n2 (Dyd.mk b54 l55 n56) b8).snd→∀(n62:Int),n62=n58→∀(n63:Int),n63=n60→∀(n64:Int),n64=n59→∀(n65:Int),n65=n61→Q (.tup [.agg [.num .u64 n62,.num .u64 n63,.num .u8 n64,.num .u8 n65],.num .i64 0]) else bif decide (n6=(1:Int)) then (errM n1 n2=(0:Int)∧mayD (Dyd.mk b9 l10 n11)=true∧b9=false)∧∀(n66:Int),n66=(↑(rootN n1 n2 (Dyd.mk b9 l10 n11) false).fst:Int)→∀(n67:Int),n67=(rootN n1 n2 (Dyd.mk b9 l10 n11) false).snd→isF n1∧∀(n68:Int),n68=(↑(signW n1 b8):Int)→∀(n69:Int),n69=(0:Int)→∀(n70:Int),n70=n66→∀(n71:Int),n71=n68→∀(n72:Int),n72=n67→∀(n73:Int),n73=n69→Q (.tup [.agg [.num .u64 n70,.num .u64 n71,.num .u8 n72,.num .u8 n73],.num .i64 0]) else numOk n1 n2 (Dyd.mk b9 l10 n11) (Dyd.mk b12 l13 n14) b8∧∀(n74:Int),n74=(↑(sqrtN n1 n2 (Dyd.mk b9 l10 n11) (Dyd.mk b12 l13 n14) b8).fst.fst:Int)→∀(n75:Int),n75=(↑(sqrtN n1 n2 (Dyd.mk b9 l10 n11) (Dyd.mk b12 l13 n14) b8).snd.fst:Int)→∀(n76:Int),n76=(sqrtN n1 n2 (Dyd.mk b9 l10 n11) (Dyd.mk b12 l13 n14) b8).fst.snd→∀(n77:Int),n77=(sqrtN n1 n2 (Dyd.mk b9 l10 n11) (Dyd.mk b12 l13 n14) b8).snd.snd→Q (.tup [.agg [.num .u64 n74,.num .u64 n75,.num .u8 n76,.num .u8 n77],.num .i64 0]) else bif decide (n6=(1:Int)) then (errM n1 n2=(0:Int)∧mayD (Dyd.mk b9 l10 n11)=true∧b9=false)∧∀(n78:Int),n78=(↑(rootN n1 n2 (Dyd.mk b9 l10 n11) false).fst:Int)→∀(n79:Int),n79=(rootN n1 n2 (Dyd.mk b9 l10 n11) false).snd→isF n1∧∀(n80:Int),n80=(↑(signW n1 b8):Int)→∀(n81:Int),n81=(0:Int)→∀(n82:Int),n82=n78→∀(n83:Int),n83=n80→∀(n84:Int),n84=n79→∀(n85:Int),n85=n81→Q (.tup [.agg [.num .u64 n82,.num .u64 n83,.num .u8 n84,.num .u8 n85],.num .i64 0]) else numOk n1 n2 (Dyd.mk b9 l10 n11) (Dyd.mk b12 l13 n14) b8∧∀(n86:Int),n86=(↑(sqrtN n1 n2 (Dyd.mk b9 l10 n11) (Dyd.mk b12 l13 n14) b8).fst.fst:Int)→∀(n87:Int),n87=(↑(sqrtN n1 n2 (Dyd.mk b9 l10 n11) (Dyd.mk b12 l13 n14) b8).snd.fst:Int)→∀(n88:Int),n88=(sqrtN n1 n2 (Dyd.mk b9 l10 n11) (Dyd.mk b12 l13 n14) b8).fst.snd→∀(n89:Int),n89=(sqrtN n1 n2 (Dyd.mk b9 l10 n11) (Dyd.mk b12 l13 n14) b8).snd.snd→Q (.tup [.agg [.num .u64 n86,.num .u64 n87,.num .u8 n88,.num .u8 n89],.num .i64 0]) else bif decide (n5=(4:Int)) then bif b7 then isF n1∧∀(n90:Int),n90=(↑(signW n1 false):Int)→∀(n91:Int),n91=(0:Int)→False else bif decide (n5=(4:Int)) then False else bif decide (n6=(5:Int)) then False else bif decide (n5=(5:Int)) then False else bif decide (n6=(1:Int)) then bif decide ((if mayD (Dyd.mk b9 l10 n11)=true then signD (Dyd.mk b9 l10 n11) else (0:Int))<(0:Int)) then dyF (okIf (mayD (Dyd.mk b9 l10 n11)) (absD (Dyd.mk b9 l10 n11))).1 fun b92 l93 n94=>∀(n95:Int),n95=(okIf (mayD (Dyd.mk b9 l10 n11)) (absD (Dyd.mk b9 l10 n11))).snd→isF n1∧∀(n96:Int),n96=(↑(signW n1 false):Int)→∀(n97:Int),n97=(0:Int)→(errM n1 n2=(0:Int)∧mayD (Dyd.mk b92 l93 n94)=true∧b92=false)∧∀(n98:Int),n98=(↑(rootN n1 n2 (Dyd.mk b92 l93 n94) b8).fst:Int)→∀(n99:Int),n99=(rootN n1 n2 (Dyd.mk b92 l93 n94) b8).snd→∀(n100:Int),n100=n96→∀(n101:Int),n101=n98→∀(n102:Int),n102=n97→∀(n103:Int),n103=n99→Q (.tup [.agg [.num .u64 n100,.num .u64 n101,.num .u8 n102,.num .u8 n103],.num .i64 0]) else bif decide (n6=(1:Int)) then (errM n1 n2=(0:Int)∧mayD (Dyd.mk b9 l10 n11)=true∧b9=false)∧∀(n104:Int),n104=(↑(rootN n1 n2 (Dyd.mk b9 l10 n11) false).fst:Int)→∀(n105:Int),n105=(rootN n1 n2 (Dyd.mk b9 l10 n11) false).snd→isF n1∧∀(n106:Int),n106=(↑(signW n1 b8):Int)→∀(n107:Int),n107=(0:Int)→∀(n108:Int),n108=n104→∀(n109:Int),n109=n106→∀(n110:Int),n110=n105→∀(n111:Int),n111=n107→Q (.tup [.agg [.num .u64 n108,.num .u64 n109,.num .u8 n110,.num .u8 n111],.num .i64 0]) else numOk n1 n2 (Dyd.mk b9 l10 n11) (Dyd.mk b12 l13 n14) b8∧∀(n112:Int),n112=(↑(sqrtN n1 n2 (Dyd.mk b9 l10 n11) (Dyd.mk b12 l13 n14) b8).fst.fst:Int)→∀(n113:Int),n113=(↑(sqrtN n1 n2 (Dyd.mk b9 l10 n11) (Dyd.mk b12 l13 n14) b8).snd.fst:Int)→∀(n114:Int),n114=(sqrtN n1 n2 (Dyd.mk b9 l10 n11) (Dyd.mk b12 l13 n14) b8).fst.snd→∀(n115:Int),n115=(sqrtN n1 n2 (Dyd.mk b9 l10 n11) (Dyd.mk b12 l13 n14) b8).snd.snd→Q (.tup [.agg [.num .u64 n112,.num .u64 n113,.num .u8 n114,.num .u8 n115],.num .i64 0]) else bif decide (n6=(1:Int)) then (errM n1 n2=(0:Int)∧mayD (Dyd.mk b9 l10 n11)=true∧b9=false)∧∀(n116:Int),n116=(↑(rootN n1 n2 (Dyd.mk b9 l10 n11) false).fst:Int)→∀(n117:Int),n117=(rootN n1 n2 (Dyd.mk b9 l10 n11) false).snd→isF n1∧∀(n118:Int),n118=(↑(signW n1 b8):Int)→∀(n119:Int),n119=(0:Int)→∀(n120:Int),n120=n116→∀(n121:Int),n121=n118→∀(n122:Int),n122=n117→∀(n123:Int),n123=n119→Q (.tup [.agg [.num .u64 n120,.num .u64 n121,.num .u8 n122,.num .u8 n123],.num .i64 0]) else numOk n1 n2 (Dyd.mk b9 l10 n11) (Dyd.mk b12 l13 n14) b8∧∀(n124:Int),n124=(↑(sqrtN n1 n2 (Dyd.mk b9 l10 n11) (Dyd.mk b12 l13 n14) b8).fst.fst:Int)→∀(n125:Int),n125=(↑(sqrtN n1 n2 (Dyd.mk b9 l10 n11) (Dyd.mk b12 l13 n14) b8).snd.fst:Int)→∀(n126:Int),n126=(sqrtN n1 n2 (Dyd.mk b9 l10 n11) (Dyd.mk b12 l13 n14) b8).fst.snd→∀(n127:Int),n127=(sqrtN n1 n2 (Dyd.mk b9 l10 n11) (Dyd.mk b12 l13 n14) b8).snd.snd→Q (.tup [.agg [.num .u64 n124,.num .u64 n125,.num .u8 n126,.num .u8 n127],.num .i64 0]) else bif decide (n5=(4:Int)) then False else bif decide (n6=(5:Int)) then False else bif decide (n5=(5:Int)) then False else bif decide (n6=(1:Int)) then bif decide ((if mayD (Dyd.mk b9 l10 n11)=true then signD (Dyd.mk b9 l10 n11) else (0:Int))<(0:Int)) then dyF (okIf (mayD (Dyd.mk b9 l10 n11)) (absD (Dyd.mk b9 l10 n11))).1 fun b128 l129 n130=>∀(n131:Int),n131=(okIf (mayD (Dyd.mk b9 l10 n11)) (absD (Dyd.mk b9 l10 n11))).snd→isF n1∧∀(n132:Int),n132=(↑(signW n1 false):Int)→∀(n133:Int),n133=(0:Int)→(errM n1 n2=(0:Int)∧mayD (Dyd.mk b128 l129 n130)=true∧b128=false)∧∀(n134:Int),n134=(↑(rootN n1 n2 (Dyd.mk b128 l129 n130) b8).fst:Int)→∀(n135:Int),n135=(rootN n1 n2 (Dyd.mk b128 l129 n130) b8).snd→∀(n136:Int),n136=n132→∀(n137:Int),n137=n134→∀(n138:Int),n138=n133→∀(n139:Int),n139=n135→Q (.tup [.agg [.num .u64 n136,.num .u64 n137,.num .u8 n138,.num .u8 n139],.num .i64 0]) else bif decide (n6=(1:Int)) then (errM n1 n2=(0:Int)∧mayD (Dyd.mk b9 l10 n11)=true∧b9=false)∧∀(n140:Int),n140=(↑(rootN n1 n2 (Dyd.mk b9 l10 n11) false).fst:Int)→∀(n141:Int),n141=(rootN n1 n2 (Dyd.mk b9 l10 n11) false).snd→isF n1∧∀(n142:Int),n142=(↑(signW n1 b8):Int)→∀(n143:Int),n143=(0:Int)→∀(n144:Int),n144=n140→∀(n145:Int),n145=n142→∀(n146:Int),n146=n141→∀(n147:Int),n147=n143→Q (.tup [.agg [.num .u64 n144,.num .u64 n145,.num .u8 n146,.num .u8 n147],.num .i64 0]) else numOk n1 n2 (Dyd.mk b9 l10 n11) (Dyd.mk b12 l13 n14) b8∧∀(n148:Int),n148=(↑(sqrtN n1 n2 (Dyd.mk b9 l10 n11) (Dyd.mk b12 l13 n14) b8).fst.fst:Int)→∀(n149:Int),n149=(↑(sqrtN n1 n2 (Dyd.mk b9 l10 n11) (Dyd.mk b12 l13 n14) b8).snd.fst:Int)→∀(n150:Int),n150=(sqrtN n1 n2 (Dyd.mk b9 l10 n11) (Dyd.mk b12 l13 n14) b8).fst.snd→∀(n151:Int),n151=(sqrtN n1 n2 (Dyd.mk b9 l10 n11) (Dyd.mk b12 l13 n14) b8).snd.snd→Q (.tup [.agg [.num .u64 n148,.num .u64 n149,.num .u8 n150,.num .u8 n151],.num .i64 0]) else bif decide (n6=(1:Int)) then (errM n1 n2=(0:Int)∧mayD (Dyd.mk b9 l10 n11)=true∧b9=false)∧∀(n152:Int),n152=(↑(rootN n1 n2 (Dyd.mk b9 l10 n11) false).fst:Int)→∀(n153:Int),n153=(rootN n1 n2 (Dyd.mk b9 l10 n11) false).snd→isF n1∧∀(n154:Int),n154=(↑(signW n1 b8):Int)→∀(n155:Int),n155=(0:Int)→∀(n156:Int),n156=n152→∀(n157:Int),n157=n154→∀(n158:Int),n158=n153→∀(n159:Int),n159=n155→Q (.tup [.agg [.num .u64 n156,.num .u64 n157,.num .u8 n158,.num .u8 n159],.num .i64 0]) else numOk n1 n2 (Dyd.mk b9 l10 n11) (Dyd.mk b12 l13 n14) b8∧∀(n160:Int),n160=(↑(sqrtN n1 n2 (Dyd.mk b9 l10 n11) (Dyd.mk b12 l13 n14) b8).fst.fst:Int)→∀(n161:Int),n161=(↑(sqrtN n1 n2 (Dyd.mk b9 l10 n11) (Dyd.mk b12 l13 n14) b8).snd.fst:Int)→∀(n162:Int),n162=(sqrtN n1 n2 (Dyd.mk b9 l10 n11) (Dyd.mk b12 l13 n14) b8).fst.snd→∀(n163:Int),n163=(sqrtN n1 n2 (Dyd.mk b9 l10 n11) (Dyd.mk b12 l13 n14) b8).snd.snd→Q (.tup [.agg [.num .u64 n160,.num .u64 n161,.num .u8 n162,.num .u8 n163],.num .i64 0]) else bif decide (n5=(4:Int)) then bif decide (n6=(5:Int)) then False else bif decide (n5=(4:Int)) then bif b7 then isF n1∧∀(n164:Int),n164=(↑(signW n1 false):Int)→∀(n165:Int),n165=(0:Int)→False else bif decide (n5=(4:Int)) then False else bif decide (n6=(5:Int)) then False else bif decide (n5=(5:Int)) then False else bif decide (n6=(1:Int)) then bif decide ((if mayD (Dyd.mk b9 l10 n11)=true then signD (Dyd.mk b9 l10 n11) else (0:Int))<(0:Int)) then dyF (okIf (mayD (Dyd.mk b9 l10 n11)) (absD (Dyd.mk b9 l10 n11))).1 fun b166 l167 n168=>∀(n169:Int),n169=(okIf (mayD (Dyd.mk b9 l10 n11)) (absD (Dyd.mk b9 l10 n11))).snd→isF n1∧∀(n170:Int),n170=(↑(signW n1 false):Int)→∀(n171:Int),n171=(0:Int)→(errM n1 n2=(0:Int)∧mayD (Dyd.mk b166 l167 n168)=true∧b166=false)∧∀(n172:Int),n172=(↑(rootN n1 n2 (Dyd.mk b166 l167 n168) b8).fst:Int)→∀(n173:Int),n173=(rootN n1 n2 (Dyd.mk b166 l167 n168) b8).snd→∀(n174:Int),n174=n170→∀(n175:Int),n175=n172→∀(n176:Int),n176=n171→∀(n177:Int),n177=n173→Q (.tup [.agg [.num .u64 n174,.num .u64 n175,.num .u8 n176,.num .u8 n177],.num .i64 0]) else bif decide (n6=(1:Int)) then (errM n1 n2=(0:Int)∧mayD (Dyd.mk b9 l10 n11)=true∧b9=false)∧∀(n178:Int),n178=(↑(rootN n1 n2 (Dyd.mk b9 l10 n11) false).fst:Int)→∀(n179:Int),n179=(rootN n1 n2 (Dyd.mk b9 l10 n11) false).snd→isF n1∧∀(n180:Int),n180=(↑(signW n1 b8):Int)→∀(n181:Int),n181=(0:Int)→∀(n182:Int),n182=n178→∀(n183:Int),n183=n180→∀(n184:Int),n184=n179→∀(n185:Int),n185=n181→Q (.tup [.agg [.num .u64 n182,.num .u64 n183,.num .u8 n184,.num .u8 n185],.num .i64 0]) else numOk n1 n2 (Dyd.mk b9 l10 n11) (Dyd.mk b12 l13 n14) b8∧∀(n186:Int),n186=(↑(sqrtN n1 n2 (Dyd.mk b9 l10 n11) (Dyd.mk b12 l13 n14) b8).fst.fst:Int)→∀(n187:Int),n187=(↑(sqrtN n1 n2 (Dyd.mk b9 l10 n11) (Dyd.mk b12 l13 n14) b8).snd.fst:Int)→∀(n188:Int),n188=(sqrtN n1 n2 (Dyd.mk b9 l10 n11) (Dyd.mk b12 l13 n14) b8).fst.snd→∀(n189:Int),n189=(sqrtN n1 n2 (Dyd.mk b9 l10 n11) (Dyd.mk b12 l13 n14) b8).snd.snd→Q (.tup [.agg [.num .u64 n186,.num .u64 n187,.num .u8 n188,.num .u8 n189],.num .i64 0]) else bif decide (n6=(1:Int)) then (errM n1 n2=(0:Int)∧mayD (Dyd.mk b9 l10 n11)=true∧b9=false)∧∀(n190:Int),n190=(↑(rootN n1 n2 (Dyd.mk b9 l10 n11) false).fst:Int)→∀(n191:Int),n191=(rootN n1 n2 (Dyd.mk b9 l10 n11) false).snd→isF n1∧∀(n192:Int),n192=(↑(signW n1 b8):Int)→∀(n193:Int),n193=(0:Int)→∀(n194:Int),n194=n190→∀(n195:Int),n195=n192→∀(n196:Int),n196=n191→∀(n197:Int),n197=n193→Q (.tup [.agg [.num .u64 n194,.num .u64 n195,.num .u8 n196,.num .u8 n197],.num .i64 0]) else numOk n1 n2 (Dyd.mk b9 l10 n11) (Dyd.mk b12 l13 n14) b8∧∀(n198:Int),n198=(↑(sqrtN n1 n2 (Dyd.mk b9 l10 n11) (Dyd.mk b12 l13 n14) b8).fst.fst:Int)→∀(n199:Int),n199=(↑(sqrtN n1 n2 (Dyd.mk b9 l10 n11) (Dyd.mk b12 l13 n14) b8).snd.fst:Int)→∀(n200:Int),n200=(sqrtN n1 n2 (Dyd.mk b9 l10 n11) (Dyd.mk b12 l13 n14) b8).fst.snd→∀(n201:Int),n201=(sqrtN n1 n2 (Dyd.mk b9 l10 n11) (Dyd.mk b12 l13 n14) b8).snd.snd→Q (.tup [.agg [.num .u64 n198,.num .u64 n199,.num .u8 n200,.num .u8 n201],.num .i64 0]) else bif decide (n5=(4:Int)) then False else bif decide (n6=(5:Int)) then False else bif decide (n5=(5:Int)) then False else bif decide (n6=(1:Int)) then bif decide ((if mayD (Dyd.mk b9 l10 n11)=true then signD (Dyd.mk b9 l10 n11) else (0:Int))<(0:Int)) then dyF (okIf (mayD (Dyd.mk b9 l10 n11)) (absD (Dyd.mk b9 l10 n11))).1 fun b202 l203 n204=>∀(n205:Int),n205=(okIf (mayD (Dyd.mk b9 l10 n11)) (absD (Dyd.mk b9 l10 n11))).snd→isF n1∧∀(n206:Int),n206=(↑(signW n1 false):Int)→∀(n207:Int),n207=(0:Int)→(errM n1 n2=(0:Int)∧mayD (Dyd.mk b202 l203 n204)=true∧b202=false)∧∀(n208:Int),n208=(↑(rootN n1 n2 (Dyd.mk b202 l203 n204) b8).fst:Int)→∀(n209:Int),n209=(rootN n1 n2 (Dyd.mk b202 l203 n204) b8).snd→∀(n210:Int),n210=n206→∀(n211:Int),n211=n208→∀(n212:Int),n212=n207→∀(n213:Int),n213=n209→Q (.tup [.agg [.num .u64 n210,.num .u64 n211,.num .u8 n212,.num .u8 n213],.num .i64 0]) else bif decide (n6=(1:Int)) then (errM n1 n2=(0:Int)∧mayD (Dyd.mk b9 l10 n11)=true∧b9=false)∧∀(n214:Int),n214=(↑(rootN n1 n2 (Dyd.mk b9 l10 n11) false).fst:Int)→∀(n215:Int),n215=(rootN n1 n2 (Dyd.mk b9 l10 n11) false).snd→isF n1∧∀(n216:Int),n216=(↑(signW n1 b8):Int)→∀(n217:Int),n217=(0:Int)→∀(n218:Int),n218=n214→∀(n219:Int),n219=n216→∀(n220:Int),n220=n215→∀(n221:Int),n221=n217→Q (.tup [.agg [.num .u64 n218,.num .u64 n219,.num .u8 n220,.num .u8 n221],.num .i64 0]) else numOk n1 n2 (Dyd.mk b9 l10 n11) (Dyd.mk b12 l13 n14) b8∧∀(n222:Int),n222=(↑(sqrtN n1 n2 (Dyd.mk b9 l10 n11) (Dyd.mk b12 l13 n14) b8).fst.fst:Int)→∀(n223:Int),n223=(↑(sqrtN n1 n2 (Dyd.mk b9 l10 n11) (Dyd.mk b12 l13 n14) b8).snd.fst:Int)→∀(n224:Int),n224=(sqrtN n1 n2 (Dyd.mk b9 l10 n11) (Dyd.mk b12 l13 n14) b8).fst.snd→∀(n225:Int),n225=(sqrtN n1 n2 (Dyd.mk b9 l10 n11) (Dyd.mk b12 l13 n14) b8).snd.snd→Q (.tup [.agg [.num .u64 n222,.num .u64 n223,.num .u8 n224,.num .u8 n225],.num .i64 0]) else bif decide (n6=(1:Int)) then (errM n1 n2=(0:Int)∧mayD (Dyd.mk b9 l10 n11)=true∧b9=false)∧∀(n226:Int),n226=(↑(rootN n1 n2 (Dyd.mk b9 l10 n11) false).fst:Int)→∀(n227:Int),n227=(rootN n1 n2 (Dyd.mk b9 l10 n11) false).snd→isF n1∧∀(n228:Int),n228=(↑(signW n1 b8):Int)→∀(n229:Int),n229=(0:Int)→∀(n230:Int),n230=n226→∀(n231:Int),n231=n228→∀(n232:Int),n232=n227→∀(n233:Int),n233=n229→Q (.tup [.agg [.num .u64 n230,.num .u64 n231,.num .u8 n232,.num .u8 n233],.num .i64 0]) else numOk n1 n2 (Dyd.mk b9 l10 n11) (Dyd.mk b12 l13 n14) b8∧∀(n234:Int),n234=(↑(sqrtN n1 n2 (Dyd.mk b9 l10 n11) (Dyd.mk b12 l13 n14) b8).fst.fst:Int)→∀(n235:Int),n235=(↑(sqrtN n1 n2 (Dyd.mk b9 l10 n11) (Dyd.mk b12 l13 n14) b8).snd.fst:Int)→∀(n236:Int),n236=(sqrtN n1 n2 (Dyd.mk b9 l10 n11) (Dyd.mk b12 l13 n14) b8).fst.snd→∀(n237:Int),n237=(sqrtN n1 n2 (Dyd.mk b9 l10 n11) (Dyd.mk b12 l13 n14) b8).snd.snd→Q (.tup [.agg [.num .u64 n234,.num .u64 n235,.num .u8 n236,.num .u8 n237],.num .i64 0]) else bif decide (n5=(4:Int)) then bif b7 then isF n1∧∀(n238:Int),n238=(↑(signW n1 false):Int)→∀(n239:Int),n239=(0:Int)→False else bif decide (n5=(4:Int)) then False else bif decide (n6=(5:Int)) then False else bif decide (n5=(5:Int)) then False else bif decide (n6=(1:Int)) then bif decide ((if mayD (Dyd.mk b9 l10 n11)=true then signD (Dyd.mk b9 l10 n11) else (0:Int))<(0:Int)) then dyF (okIf (mayD (Dyd.mk b9 l10 n11)) (absD (Dyd.mk b9 l10 n11))).1 fun b240 l241 n242=>∀(n243:Int),n243=(okIf (mayD (Dyd.mk b9 l10 n11)) (absD (Dyd.mk b9 l10 n11))).snd→isF n1∧∀(n244:Int),n244=(↑(signW n1 false):Int)→∀(n245:Int),n245=(0:Int)→(errM n1 n2=(0:Int)∧mayD (Dyd.mk b240 l241 n242)=true∧b240=false)∧∀(n246:Int),n246=(↑(rootN n1 n2 (Dyd.mk b240 l241 n242) b8).fst:Int)→∀(n247:Int),n247=(rootN n1 n2 (Dyd.mk b240 l241 n242) b8).snd→∀(n248:Int),n248=n244→∀(n249:Int),n249=n246→∀(n250:Int),n250=n245→∀(n251:Int),n251=n247→Q (.tup [.agg [.num .u64 n248,.num .u64 n249,.num .u8 n250,.num .u8 n251],.num .i64 0]) else bif decide (n6=(1:Int)) then (errM n1 n2=(0:Int)∧mayD (Dyd.mk b9 l10 n11)=true∧b9=false)∧∀(n252:Int),n252=(↑(rootN n1 n2 (Dyd.mk b9 l10 n11) false).fst:Int)→∀(n253:Int),n253=(rootN n1 n2 (Dyd.mk b9 l10 n11) false).snd→isF n1∧∀(n254:Int),n254=(↑(signW n1 b8):Int)→∀(n255:Int),n255=(0:Int)→∀(n256:Int),n256=n252→∀(n257:Int),n257=n254→∀(n258:Int),n258=n253→∀(n259:Int),n259=n255→Q (.tup [.agg [.num .u64 n256,.num .u64 n257,.num .u8 n258,.num .u8 n259],.num .i64 0]) else numOk n1 n2 (Dyd.mk b9 l10 n11) (Dyd.mk b12 l13 n14) b8∧∀(n260:Int),n260=(↑(sqrtN n1 n2 (Dyd.mk b9 l10 n11) (Dyd.mk b12 l13 n14) b8).fst.fst:Int)→∀(n261:Int),n261=(↑(sqrtN n1 n2 (Dyd.mk b9 l10 n11) (Dyd.mk b12 l13 n14) b8).snd.fst:Int)→∀(n262:Int),n262=(sqrtN n1 n2 (Dyd.mk b9 l10 n11) (Dyd.mk b12 l13 n14) b8).fst.snd→∀(n263:Int),n263=(sqrtN n1 n2 (Dyd.mk b9 l10 n11) (Dyd.mk b12 l13 n14) b8).snd.snd→Q (.tup [.agg [.num .u64 n260,.num .u64 n261,.num .u8 n262,.num .u8 n263],.num .i64 0]) else bif decide (n6=(1:Int)) then (errM n1 n2=(0:Int)∧mayD (Dyd.mk b9 l10 n11)=true∧b9=false)∧∀(n264:Int),n264=(↑(rootN n1 n2 (Dyd.mk b9 l10 n11) false).fst:Int)→∀(n265:Int),n265=(rootN n1 n2 (Dyd.mk b9 l10 n11) false).snd→isF n1∧∀(n266:Int),n266=(↑(signW n1 b8):Int)→∀(n267:Int),n267=(0:Int)→∀(n268:Int),n268=n264→∀(n269:Int),n269=n266→∀(n270:Int),n270=n265→∀(n271:Int),n271=n267→Q (.tup [.agg [.num .u64 n268,.num .u64 n269,.num .u8 n270,.num .u8 n271],.num .i64 0]) else numOk n1 n2 (Dyd.mk b9 l10 n11) (Dyd.mk b12 l13 n14) b8∧∀(n272:Int),n272=(↑(sqrtN n1 n2 (Dyd.mk b9 l10 n11) (Dyd.mk b12 l13 n14) b8).fst.fst:Int)→∀(n273:Int),n273=(↑(sqrtN n1 n2 (Dyd.mk b9 l10 n11) (Dyd.mk b12 l13 n14) b8).snd.fst:Int)→∀(n274:Int),n274=(sqrtN n1 n2 (Dyd.mk b9 l10 n11) (Dyd.mk b12 l13 n14) b8).fst.snd→∀(n275:Int),n275=(sqrtN n1 n2 (Dyd.mk b9 l10 n11) (Dyd.mk b12 l13 n14) b8).snd.snd→Q (.tup [.agg [.num .u64 n272,.num .u64 n273,.num .u8 n274,.num .u8 n275],.num .i64 0]) else bif decide (n5=(4:Int)) then False else bif decide (n6=(5:Int)) then False else bif decide (n5=(5:Int)) then False else bif decide (n6=(1:Int)) then bif decide ((if mayD (Dyd.mk b9 l10 n11)=true then signD (Dyd.mk b9 l10 n11) else (0:Int))<(0:Int)) then dyF (okIf (mayD (Dyd.mk b9 l10 n11)) (absD (Dyd.mk b9 l10 n11))).1 fun b276 l277 n278=>∀(n279:Int),n279=(okIf (mayD (Dyd.mk b9 l10 n11)) (absD (Dyd.mk b9 l10 n11))).snd→isF n1∧∀(n280:Int),n280=(↑(signW n1 false):Int)→∀(n281:Int),n281=(0:Int)→(errM n1 n2=(0:Int)∧mayD (Dyd.mk b276 l277 n278)=true∧b276=false)∧∀(n282:Int),n282=(↑(rootN n1 n2 (Dyd.mk b276 l277 n278) b8).fst:Int)→∀(n283:Int),n283=(rootN n1 n2 (Dyd.mk b276 l277 n278) b8).snd→∀(n284:Int),n284=n280→∀(n285:Int),n285=n282→∀(n286:Int),n286=n281→∀(n287:Int),n287=n283→Q (.tup [.agg [.num .u64 n284,.num .u64 n285,.num .u8 n286,.num .u8 n287],.num .i64 0]) else bif decide (n6=(1:Int)) then (errM n1 n2=(0:Int)∧mayD (Dyd.mk b9 l10 n11)=true∧b9=false)∧∀(n288:Int),n288=(↑(rootN n1 n2 (Dyd.mk b9 l10 n11) false).fst:Int)→∀(n289:Int),n289=(rootN n1 n2 (Dyd.mk b9 l10 n11) false).snd→isF n1∧∀(n290:Int),n290=(↑(signW n1 b8):Int)→∀(n291:Int),n291=(0:Int)→∀(n292:Int),n292=n288→∀(n293:Int),n293=n290→∀(n294:Int),n294=n289→∀(n295:Int),n295=n291→Q (.tup [.agg [.num .u64 n292,.num .u64 n293,.num .u8 n294,.num .u8 n295],.num .i64 0]) else numOk n1 n2 (Dyd.mk b9 l10 n11) (Dyd.mk b12 l13 n14) b8∧∀(n296:Int),n296=(↑(sqrtN n1 n2 (Dyd.mk b9 l10 n11) (Dyd.mk b12 l13 n14) b8).fst.fst:Int)→∀(n297:Int),n297=(↑(sqrtN n1 n2 (Dyd.mk b9 l10 n11) (Dyd.mk b12 l13 n14) b8).snd.fst:Int)→∀(n298:Int),n298=(sqrtN n1 n2 (Dyd.mk b9 l10 n11) (Dyd.mk b12 l13 n14) b8).fst.snd→∀(n299:Int),n299=(sqrtN n1 n2 (Dyd.mk b9 l10 n11) (Dyd.mk b12 l13 n14) b8).snd.snd→Q (.tup [.agg [.num .u64 n296,.num .u64 n297,.num .u8 n298,.num .u8 n299],.num .i64 0]) else bif decide (n6=(1:Int)) then (errM n1 n2=(0:Int)∧mayD (Dyd.mk b9 l10 n11)=true∧b9=false)∧∀(n300:Int),n300=(↑(rootN n1 n2 (Dyd.mk b9 l10 n11) false).fst:Int)→∀(n301:Int),n301=(rootN n1 n2 (Dyd.mk b9 l10 n11) false).snd→isF n1∧∀(n302:Int),n302=(↑(signW n1 b8):Int)→∀(n303:Int),n303=(0:Int)→∀(n304:Int),n304=n300→∀(n305:Int),n305=n302→∀(n306:Int),n306=n301→∀(n307:Int),n307=n303→Q (.tup [.agg [.num .u64 n304,.num .u64 n305,.num .u8 n306,.num .u8 n307],.num .i64 0]) else numOk n1 n2 (Dyd.mk b9 l10 n11) (Dyd.mk b12 l13 n14) b8∧∀(n308:Int),n308=(↑(sqrtN n1 n2 (Dyd.mk b9 l10 n11) (Dyd.mk b12 l13 n14) b8).fst.fst:Int)→∀(n309:Int),n309=(↑(sqrtN n1 n2 (Dyd.mk b9 l10 n11) (Dyd.mk b12 l13 n14) b8).snd.fst:Int)→∀(n310:Int),n310=(sqrtN n1 n2 (Dyd.mk b9 l10 n11) (Dyd.mk b12 l13 n14) b8).fst.snd→∀(n311:Int),n311=(sqrtN n1 n2 (Dyd.mk b9 l10 n11) (Dyd.mk b12 l13 n14) b8).snd.snd→Q (.tup [.agg [.num .u64 n308,.num .u64 n309,.num .u8 n310,.num .u8 n311],.num .i64 0]) else bif decide (n5=(4:Int)) then bif decide (n6=(5:Int)) then False else bif decide (n5=(4:Int)) then bif b7 then isF n1∧∀(n312:Int),n312=(↑(signW n1 false):Int)→∀(n313:Int),n313=(0:Int)→False else bif decide (n5=(4:Int)) then False else bif decide (n6=(5:Int)) then False else bif decide (n5=(5:Int)) then False else bif decide (n6=(1:Int)) then bif decide ((if mayD (Dyd.mk b9 l10 n11)=true then signD (Dyd.mk b9 l10 n11) else (0:Int))<(0:Int)) then dyF (okIf (mayD (Dyd.mk b9 l10 n11)) (absD (Dyd.mk b9 l10 n11))).1 fun b314 l315 n316=>∀(n317:Int),n317=(okIf (mayD (Dyd.mk b9 l10 n11)) (absD (Dyd.mk b9 l10 n11))).snd→isF n1∧∀(n318:Int),n318=(↑(signW n1 false):Int)→∀(n319:Int),n319=(0:Int)→(errM n1 n2=(0:Int)∧mayD (Dyd.mk b314 l315 n316)=true∧b314=false)∧∀(n320:Int),n320=(↑(rootN n1 n2 (Dyd.mk b314 l315 n316) b8).fst:Int)→∀(n321:Int),n321=(rootN n1 n2 (Dyd.mk b314 l315 n316) b8).snd→∀(n322:Int),n322=n318→∀(n323:Int),n323=n320→∀(n324:Int),n324=n319→∀(n325:Int),n325=n321→Q (.tup [.agg [.num .u64 n322,.num .u64 n323,.num .u8 n324,.num .u8 n325],.num .i64 0]) else bif decide (n6=(1:Int)) then (errM n1 n2=(0:Int)∧mayD (Dyd.mk b9 l10 n11)=true∧b9=false)∧∀(n326:Int),n326=(↑(rootN n1 n2 (Dyd.mk b9 l10 n11) false).fst:Int)→∀(n327:Int),n327=(rootN n1 n2 (Dyd.mk b9 l10 n11) false).snd→isF n1∧∀(n328:Int),n328=(↑(signW n1 b8):Int)→∀(n329:Int),n329=(0:Int)→∀(n330:Int),n330=n326→∀(n331:Int),n331=n328→∀(n332:Int),n332=n327→∀(n333:Int),n333=n329→Q (.tup [.agg [.num .u64 n330,.num .u64 n331,.num .u8 n332,.num .u8 n333],.num .i64 0]) else numOk n1 n2 (Dyd.mk b9 l10 n11) (Dyd.mk b12 l13 n14) b8∧∀(n334:Int),n334=(↑(sqrtN n1 n2 (Dyd.mk b9 l10 n11) (Dyd.mk b12 l13 n14) b8).fst.fst:Int)→∀(n335:Int),n335=(↑(sqrtN n1 n2 (Dyd.mk b9 l10 n11) (Dyd.mk b12 l13 n14) b8).snd.fst:Int)→∀(n336:Int),n336=(sqrtN n1 n2 (Dyd.mk b9 l10 n11) (Dyd.mk b12 l13 n14) b8).fst.snd→∀(n337:Int),n337=(sqrtN n1 n2 (Dyd.mk b9 l10 n11) (Dyd.mk b12 l13 n14) b8).snd.snd→Q (.tup [.agg [.num .u64 n334,.num .u64 n335,.num .u8 n336,.num .u8 n337],.num .i64 0]) else bif decide (n6=(1:Int)) then (errM n1 n2=(0:Int)∧mayD (Dyd.mk b9 l10 n11)=true∧b9=false)∧∀(n338:Int),n338=(↑(rootN n1 n2 (Dyd.mk b9 l10 n11) false).fst:Int)→∀(n339:Int),n339=(rootN n1 n2 (Dyd.mk b9 l10 n11) false).snd→isF n1∧∀(n340:Int),n340=(↑(signW n1 b8):Int)→∀(n341:Int),n341=(0:Int)→∀(n342:Int),n342=n338→∀(n343:Int),n343=n340→∀(n344:Int),n344=n339→∀(n345:Int),n345=n341→Q (.tup [.agg [.num .u64 n342,.num .u64 n343,.num .u8 n344,.num .u8 n345],.num .i64 0]) else numOk n1 n2 (Dyd.mk b9 l10 n11) (Dyd.mk b12 l13 n14) b8∧∀(n346:Int),n346=(↑(sqrtN n1 n2 (Dyd.mk b9 l10 n11) (Dyd.mk b12 l13 n14) b8).fst.fst:Int)→∀(n347:Int),n347=(↑(sqrtN n1 n2 (Dyd.mk b9 l10 n11) (Dyd.mk b12 l13 n14) b8).snd.fst:Int)→∀(n348:Int),n348=(sqrtN n1 n2 (Dyd.mk b9 l10 n11) (Dyd.mk b12 l13 n14) b8).fst.snd→∀(n349:Int),n349=(sqrtN n1 n2 (Dyd.mk b9 l10 n11) (Dyd.mk b12 l13 n14) b8).snd.snd→Q (.tup [.agg [.num .u64 n346,.num .u64 n347,.num .u8 n348,.num .u8 n349],.num .i64 0]) else bif decide (n5=(4:Int)) then False else bif decide (n6=(5:Int)) then False else bif decide (n5=(5:Int)) then False else bif decide (n6=(1:Int)) then bif decide ((if mayD (Dyd.mk b9 l10 n11)=true then signD (Dyd.mk b9 l10 n11) else (0:Int))<(0:Int)) then dyF (okIf (mayD (Dyd.mk b9 l10 n11)) (absD (Dyd.mk b9 l10 n11))).1 fun b350 l351 n352=>∀(n353:Int),n353=(okIf (mayD (Dyd.mk b9 l10 n11)) (absD (Dyd.mk b9 l10 n11))).snd→isF n1∧∀(n354:Int),n354=(↑(signW n1 false):Int)→∀(n355:Int),n355=(0:Int)→(errM n1 n2=(0:Int)∧mayD (Dyd.mk b350 l351 n352)=true∧b350=false)∧∀(n356:Int),n356=(↑(rootN n1 n2 (Dyd.mk b350 l351 n352) b8).fst:Int)→∀(n357:Int),n357=(rootN n1 n2 (Dyd.mk b350 l351 n352) b8).snd→∀(n358:Int),n358=n354→∀(n359:Int),n359=n356→∀(n360:Int),n360=n355→∀(n361:Int),n361=n357→Q (.tup [.agg [.num .u64 n358,.num .u64 n359,.num .u8 n360,.num .u8 n361],.num .i64 0]) else bif decide (n6=(1:Int)) then (errM n1 n2=(0:Int)∧mayD (Dyd.mk b9 l10 n11)=true∧b9=false)∧∀(n362:Int),n362=(↑(rootN n1 n2 (Dyd.mk b9 l10 n11) false).fst:Int)→∀(n363:Int),n363=(rootN n1 n2 (Dyd.mk b9 l10 n11) false).snd→isF n1∧∀(n364:Int),n364=(↑(signW n1 b8):Int)→∀(n365:Int),n365=(0:Int)→∀(n366:Int),n366=n362→∀(n367:Int),n367=n364→∀(n368:Int),n368=n363→∀(n369:Int),n369=n365→Q (.tup [.agg [.num .u64 n366,.num .u64 n367,.num .u8 n368,.num .u8 n369],.num .i64 0]) else numOk n1 n2 (Dyd.mk b9 l10 n11) (Dyd.mk b12 l13 n14) b8∧∀(n370:Int),n370=(↑(sqrtN n1 n2 (Dyd.mk b9 l10 n11) (Dyd.mk b12 l13 n14) b8).fst.fst:Int)→∀(n371:Int),n371=(↑(sqrtN n1 n2 (Dyd.mk b9 l10 n11) (Dyd.mk b12 l13 n14) b8).snd.fst:Int)→∀(n372:Int),n372=(sqrtN n1 n2 (Dyd.mk b9 l10 n11) (Dyd.mk b12 l13 n14) b8).fst.snd→∀(n373:Int),n373=(sqrtN n1 n2 (Dyd.mk b9 l10 n11) (Dyd.mk b12 l13 n14) b8).snd.snd→Q (.tup [.agg [.num .u64 n370,.num .u64 n371,.num .u8 n372,.num .u8 n373],.num .i64 0]) else bif decide (n6=(1:Int)) then (errM n1 n2=(0:Int)∧mayD (Dyd.mk b9 l10 n11)=true∧b9=false)∧∀(n374:Int),n374=(↑(rootN n1 n2 (Dyd.mk b9 l10 n11) false).fst:Int)→∀(n375:Int),n375=(rootN n1 n2 (Dyd.mk b9 l10 n11) false).snd→isF n1∧∀(n376:Int),n376=(↑(signW n1 b8):Int)→∀(n377:Int),n377=(0:Int)→∀(n378:Int),n378=n374→∀(n379:Int),n379=n376→∀(n380:Int),n380=n375→∀(n381:Int),n381=n377→Q (.tup [.agg [.num .u64 n378,.num .u64 n379,.num .u8 n380,.num .u8 n381],.num .i64 0]) else numOk n1 n2 (Dyd.mk b9 l10 n11) (Dyd.mk b12 l13 n14) b8∧∀(n382:Int),n382=(↑(sqrtN n1 n2 (Dyd.mk b9 l10 n11) (Dyd.mk b12 l13 n14) b8).fst.fst:Int)→∀(n383:Int),n383=(↑(sqrtN n1 n2 (Dyd.mk b9 l10 n11) (Dyd.mk b12 l13 n14) b8).snd.fst:Int)→∀(n384:Int),n384=(sqrtN n1 n2 (Dyd.mk b9 l10 n11) (Dyd.mk b12 l13 n14) b8).fst.snd→∀(n385:Int),n385=(sqrtN n1 n2 (Dyd.mk b9 l10 n11) (Dyd.mk b12 l13 n14) b8).snd.snd→Q (.tup [.agg [.num .u64 n382,.num .u64 n383,.num .u8 n384,.num .u8 n385],.num .i64 0]) else bif decide (n5=(4:Int)) then bif b7 then isF n1∧∀(n386:Int),n386=(↑(signW n1 false):Int)→∀(n387:Int),n387=(0:Int)→False else bif decide (n5=(4:Int)) then False else bif decide (n6=(5:Int)) then False else bif decide (n5=(5:Int)) then False else bif decide (n6=(1:Int)) then bif decide ((if mayD (Dyd.mk b9 l10 n11)=true then signD (Dyd.mk b9 l10 n11) else (0:Int))<(0:Int)) then dyF (okIf (mayD (Dyd.mk b9 l10 n11)) (absD (Dyd.mk b9 l10 n11))).1 fun b388 l389 n390=>∀(n391:Int),n391=(okIf (mayD (Dyd.mk b9 l10 n11)) (absD (Dyd.mk b9 l10 n11))).snd→isF n1∧∀(n392:Int),n392=(↑(signW n1 false):Int)→∀(n393:Int),n393=(0:Int)→(errM n1 n2=(0:Int)∧mayD (Dyd.mk b388 l389 n390)=true∧b388=false)∧∀(n394:Int),n394=(↑(rootN n1 n2 (Dyd.mk b388 l389 n390) b8).fst:Int)→∀(n395:Int),n395=(rootN n1 n2 (Dyd.mk b388 l389 n390) b8).snd→∀(n396:Int),n396=n392→∀(n397:Int),n397=n394→∀(n398:Int),n398=n393→∀(n399:Int),n399=n395→Q (.tup [.agg [.num .u64 n396,.num .u64 n397,.num .u8 n398,.num .u8 n399],.num .i64 0]) else bif decide (n6=(1:Int)) then (errM n1 n2=(0:Int)∧mayD (Dyd.mk b9 l10 n11)=true∧b9=false)∧∀(n400:Int),n400=(↑(rootN n1 n2 (Dyd.mk b9 l10 n11) false).fst:Int)→∀(n401:Int),n401=(rootN n1 n2 (Dyd.mk b9 l10 n11) false).snd→isF n1∧∀(n402:Int),n402=(↑(signW n1 b8):Int)→∀(n403:Int),n403=(0:Int)→∀(n404:Int),n404=n400→∀(n405:Int),n405=n402→∀(n406:Int),n406=n401→∀(n407:Int),n407=n403→Q (.tup [.agg [.num .u64 n404,.num .u64 n405,.num .u8 n406,.num .u8 n407],.num .i64 0]) else numOk n1 n2 (Dyd.mk b9 l10 n11) (Dyd.mk b12 l13 n14) b8∧∀(n408:Int),n408=(↑(sqrtN n1 n2 (Dyd.mk b9 l10 n11) (Dyd.mk b12 l13 n14) b8).fst.fst:Int)→∀(n409:Int),n409=(↑(sqrtN n1 n2 (Dyd.mk b9 l10 n11) (Dyd.mk b12 l13 n14) b8).snd.fst:Int)→∀(n410:Int),n410=(sqrtN n1 n2 (Dyd.mk b9 l10 n11) (Dyd.mk b12 l13 n14) b8).fst.snd→∀(n411:Int),n411=(sqrtN n1 n2 (Dyd.mk b9 l10 n11) (Dyd.mk b12 l13 n14) b8).snd.snd→Q (.tup [.agg [.num .u64 n408,.num .u64 n409,.num .u8 n410,.num .u8 n411],.num .i64 0]) else bif decide (n6=(1:Int)) then (errM n1 n2=(0:Int)∧mayD (Dyd.mk b9 l10 n11)=true∧b9=false)∧∀(n412:Int),n412=(↑(rootN n1 n2 (Dyd.mk b9 l10 n11) false).fst:Int)→∀(n413:Int),n413=(rootN n1 n2 (Dyd.mk b9 l10 n11) false).snd→isF n1∧∀(n414:Int),n414=(↑(signW n1 b8):Int)→∀(n415:Int),n415=(0:Int)→∀(n416:Int),n416=n412→∀(n417:Int),n417=n414→∀(n418:Int),n418=n413→∀(n419:Int),n419=n415→Q (.tup [.agg [.num .u64 n416,.num .u64 n417,.num .u8 n418,.num .u8 n419],.num .i64 0]) else numOk n1 n2 (Dyd.mk b9 l10 n11) (Dyd.mk b12 l13 n14) b8∧∀(n420:Int),n420=(↑(sqrtN n1 n2 (Dyd.mk b9 l10 n11) (Dyd.mk b12 l13 n14) b8).fst.fst:Int)→∀(n421:Int),n421=(↑(sqrtN n1 n2 (Dyd.mk b9 l10 n11) (Dyd.mk b12 l13 n14) b8).snd.fst:Int)→∀(n422:Int),n422=(sqrtN n1 n2 (Dyd.mk b9 l10 n11) (Dyd.mk b12 l13 n14) b8).fst.snd→∀(n423:Int),n423=(sqrtN n1 n2 (Dyd.mk b9 l10 n11) (Dyd.mk b12 l13 n14) b8).snd.snd→Q (.tup [.agg [.num .u64 n420,.num .u64 n421,.num .u8 n422,.num .u8 n423],.num .i64 0]) else bif decide (n5=(4:Int)) then False else bif decide (n6=(5:Int)) then False else bif decide (n5=(5:Int)) then False else bif decide (n6=(1:Int)) then bif decide ((if mayD (Dyd.mk b9 l10 n11)=true then signD (Dyd.mk b9 l10 n11) else (0:Int))<(0:Int)) then dyF (okIf (mayD (Dyd.mk b9 l10 n11)) (absD (Dyd.mk b9 l10 n11))).1 fun b424 l425 n426=>∀(n427:Int),n427=(okIf (mayD (Dyd.mk b9 l10 n11)) (absD (Dyd.mk b9 l10 n11))).snd→isF n1∧∀(n428:Int),n428=(↑(signW n1 false):Int)→∀(n429:Int),n429=(0:Int)→(errM n1 n2=(0:Int)∧mayD (Dyd.mk b424 l425 n426)=true∧b424=false)∧∀(n430:Int),n430=(↑(rootN n1 n2 (Dyd.mk b424 l425 n426) b8).fst:Int)→∀(n431:Int),n431=(rootN n1 n2 (Dyd.mk b424 l425 n426) b8).snd→∀(n432:Int),n432=n428→∀(n433:Int),n433=n430→∀(n434:Int),n434=n429→∀(n435:Int),n435=n431→Q (.tup [.agg [.num .u64 n432,.num .u64 n433,.num .u8 n434,.num .u8 n435],.num .i64 0]) else bif decide (n6=(1:Int)) then (errM n1 n2=(0:Int)∧mayD (Dyd.mk b9 l10 n11)=true∧b9=false)∧∀(n436:Int),n436=(↑(rootN n1 n2 (Dyd.mk b9 l10 n11) false).fst:Int)→∀(n437:Int),n437=(rootN n1 n2 (Dyd.mk b9 l10 n11) false).snd→isF n1∧∀(n438:Int),n438=(↑(signW n1 b8):Int)→∀(n439:Int),n439=(0:Int)→∀(n440:Int),n440=n436→∀(n441:Int),n441=n438→∀(n442:Int),n442=n437→∀(n443:Int),n443=n439→Q (.tup [.agg [.num .u64 n440,.num .u64 n441,.num .u8 n442,.num .u8 n443],.num .i64 0]) else numOk n1 n2 (Dyd.mk b9 l10 n11) (Dyd.mk b12 l13 n14) b8∧∀(n444:Int),n444=(↑(sqrtN n1 n2 (Dyd.mk b9 l10 n11) (Dyd.mk b12 l13 n14) b8).fst.fst:Int)→∀(n445:Int),n445=(↑(sqrtN n1 n2 (Dyd.mk b9 l10 n11) (Dyd.mk b12 l13 n14) b8).snd.fst:Int)→∀(n446:Int),n446=(sqrtN n1 n2 (Dyd.mk b9 l10 n11) (Dyd.mk b12 l13 n14) b8).fst.snd→∀(n447:Int),n447=(sqrtN n1 n2 (Dyd.mk b9 l10 n11) (Dyd.mk b12 l13 n14) b8).snd.snd→Q (.tup [.agg [.num .u64 n444,.num .u64 n445,.num .u8 n446,.num .u8 n447],.num .i64 0]) else bif decide (n6=(1:Int)) then (errM n1 n2=(0:Int)∧mayD (Dyd.mk b9 l10 n11)=true∧b9=false)∧∀(n448:Int),n448=(↑(rootN n1 n2 (Dyd.mk b9 l10 n11) false).fst:Int)→∀(n449:Int),n449=(rootN n1 n2 (Dyd.mk b9 l10 n11) false).snd→isF n1∧∀(n450:Int),n450=(↑(signW n1 b8):Int)→∀(n451:Int),n451=(0:Int)→∀(n452:Int),n452=n448→∀(n453:Int),n453=n450→∀(n454:Int),n454=n449→∀(n455:Int),n455=n451→Q (.tup [.agg [.num .u64 n452,.num .u64 n453,.num .u8 n454,.num .u8 n455],.num .i64 0]) else numOk n1 n2 (Dyd.mk b9 l10 n11) (Dyd.mk b12 l13 n14) b8∧∀(n456:Int),n456=(↑(sqrtN n1 n2 (Dyd.mk b9 l10 n11) (Dyd.mk b12 l13 n14) b8).fst.fst:Int)→∀(n457:Int),n457=(↑(sqrtN n1 n2 (Dyd.mk b9 l10 n11) (Dyd.mk b12 l13 n14) b8).snd.fst:Int)→∀(n458:Int),n458=(sqrtN n1 n2 (Dyd.mk b9 l10 n11) (Dyd.mk b12 l13 n14) b8).fst.snd→∀(n459:Int),n459=(sqrtN n1 n2 (Dyd.mk b9 l10 n11) (Dyd.mk b12 l13 n14) b8).snd.snd→Q (.tup [.agg [.num .u64 n456,.num .u64 n457,.num .u8 n458,.num .u8 n459],.num .i64 0])):=by kernel_rfl
end Go.AI

namespace Go.AI
open Go Go.RowKit Go.Proofs
set_option linter.unusedVariables false
set_option maxRecDepth 100000
set_option maxHeartbeats 1000000
theorem ok_croot_both (args:List AV) (s:Spec) (h:cBoth args=some s) (hp:andO s.pre True):Contract Tryz.prog Inv 21 args s.res:=by
 unfold cBoth at h
 split at h
 ·cases h
  refine contract0 false ok_tabC3 Tryz.func21 (by kernel_rfl) (by kernel_rfl) fun hok=> ?_
  rw [vc_croot_both]
 ·cases h
theorem ok_croot_zero (args:List AV) (s:Spec) (h:cZero args=some s) (hp:andO s.pre True):Contract Tryz.prog Inv 24 args s.res:=by
 unfold cZero at h
 split at h
 ·cases h
  obtain ⟨p, -⟩:=hp
  refine contract0 false ok_tabC3 Tryz.func24 (by kernel_rfl) (by kernel_rfl) fun hok=> ?_
  rw [vc_croot_zero]
  refine ⟨p,?_⟩
  rintro _ rfl _ -
  rfl
 ·cases h
theorem wrap_u8 {n:Int} (h:0≤n∧n<256):IntKind.u8.wrap n=n:=by
 simp [IntKind.wrap,IntKind.signed,IntKind.bits]
 omega
theorem ok_croot_root (args:List AV) (s:Spec) (h:cRoot args=some s) (hp:andO s.pre True):Contract Tryz.prog Inv 27 args s.res:=by
 unfold cRoot at h
 split at h
 ·cases h
  rename_i f m a b k k' g h s d e s' d' e' t l i neg
  obtain ⟨⟨em,hm,rfl⟩, -⟩:=hp
  obtain ⟨hf,m1,m2, -⟩:=Dy.errM_zero em
  have hg:=fun m'=>Dy.rootW_good (m:=m') hf hm rfl
  refine contract0 false ok_tabC3 Tryz.func27 (by kernel_rfl) (by kernel_rfl) fun hok=> ?_
  rw [vc_croot_root]
  have hw:IntKind.u8.wrap (9-m)=9-m:=wrap_u8 (by omega)
  rw [hw]
  cases neg
  ·have eo:Dy.otherM m false=m:=by unfold Dy.otherM;rw [if_neg (by simp)]
   refine cond_f rfl ⟨⟨em,hm,rfl⟩,?_⟩
   rintro _ rfl _ rfl _ -
   refine cond_f rfl ?_
   unfold Dy.rootN
   rw [eo]
   rfl
  ·have ho:=Dy.otherM_ok em true
   refine cond_t rfl (cond_i (fun h=> ?_) (fun h=> ?_))
   ·have eo:Dy.otherM m true=9-m:=by unfold Dy.otherM;rw [if_pos ⟨rfl,of_decide_eq_true h⟩]
    rw [eo] at ho
    refine ⟨⟨ho,hm,rfl⟩,?_⟩
    rintro _ rfl _ rfl _ -
    refine cond_t rfl ⟨hg _,?_⟩
    rw [Int.toNat_natCast]
    rintro _ rfl _ -
    unfold Dy.rootN
    rw [eo]
    rfl
   ·have eo:Dy.otherM m true=m:=by unfold Dy.otherM;rw [if_neg (fun c=>of_decide_eq_false h c.2)]
    refine ⟨⟨em,hm,rfl⟩,?_⟩
    rintro _ rfl _ rfl _ -
    refine cond_t rfl ⟨hg _,?_⟩
    rw [Int.toNat_natCast]
    rintro _ rfl _ -
    unfold Dy.rootN
    rw [eo]
    rfl
 ·cases h
theorem ok_croot_rounded (args:List AV) (s:Spec) (h:cRounded args=some s) (hp:andO s.pre True):Contract Tryz.prog Inv 88 args s.res:=by
 unfold cRounded at h
 split at h
 ·cases h
  obtain ⟨p, -⟩:=hp
  refine contract0 false ok_tabC3 Tryz.func88 (by kernel_rfl) (by kernel_rfl) fun hok=> ?_
  rw [vc_croot_rounded]
  refine ⟨p,?_⟩
  rintro _ rfl _ rfl _ -
  rfl
 ·cases h
theorem ok_croot_open (args:List AV) (s:Spec) (h:cOpen args=some s) (hp:andO s.pre True):Contract Tryz.prog Inv 20 args s.res:=by
 unfold cOpen at h
 split at h
 ·cases h
  rename_i f m a b
  obtain ⟨⟨em,ea,eb,ca,cb⟩, -⟩:=hp
  refine contract0 false ok_tabC3 Tryz.func20 (by kernel_rfl) (by kernel_rfl) fun hok=> ?_
  have na:(!decide (Dy.wClass f a.toNat=5))=true:=by rw [decide_eq_false (by omega)];rfl
  have nb:(!decide (Dy.wClass f b.toNat=5))=true:=by rw [decide_eq_false (by omega)];rfl
  rw [vc_croot_open,if_pos ea,if_neg (show¬4≤Dy.wClass f a.toNat by omega),if_neg (show¬4≤Dy.wClass f b.toNat by omega),em,eb]
  rintro _-_ rfl
  refine cond_f rfl (cond_f rfl ⟨ea,?_⟩)
  rintro _ rfl _ -
  refine ⟨rfl,?_⟩
  rintro _ rfl _ -
  refine ⟨ea,dpeel fun b7 l8 n9 d7=> ?_⟩
  rintro _ -
  refine ⟨rfl,dpeel fun b11 l12 n13 d11=> ?_⟩
  rintro _ -
  rw [na,nb,←d7,←d11]
  refine ⟨ea,?_⟩
  rintro _ rfl _-_-_ -
  refine cond_i (fun h=>⟨rfl,?_⟩) (fun h=>⟨rfl,?_⟩)
  ·rintro _ rfl _-_-_ -
   rw [h]
   refine cond_i (fun h'=> ?_) (fun h'=> ?_)
   ·rw [h']
   ·rw [h']
  ·rintro _ rfl _-_-_ -
   rw [h]
   refine cond_i (fun h'=> ?_) (fun h'=> ?_)
   ·rw [h']
   ·rw [h']
 ·cases h
theorem ok_tabC4:PhiOk Tryz.prog Inv (look tabC4):=look_cons (look_cons (look_cons (look_cons (look_cons ok_tabC3 ok_croot_open) ok_croot_rounded) ok_croot_root) ok_croot_zero) ok_croot_both
end Go.AI

namespace Go.Dy
theorem min_self (Z:Dyd):min4 Z Z Z Z=Z:=by
 have h:minD Z Z=Z:=by unfold minD;split<;>rfl
 unfold min4
 rw [h,h,h]
theorem max_self (Z:Dyd):max4 Z Z Z Z=Z:=by
 have h:maxD Z Z=Z:=by unfold maxD;split<;>rfl
 unfold max4
 rw [h,h,h]
theorem cond_self (b:Bool) (Z:Dyd):(bif b then Z else Z)=Z:=by cases b<;>rfl
end Go.Dy
namespace Go.AI
open Go Go.RowKit Go.Proofs
set_option linter.unusedVariables false
set_option maxRecDepth 100000
set_option maxHeartbeats 1000000
theorem ok_croot_sqrt (args:List AV) (s:Spec) (h:cSqrtN args=some s) (hp:andO s.pre True):Contract Tryz.prog Inv 28 args s.res:=by
 unfold cSqrtN at h
 split at h
 ·cases h
  rename_i f m a b k k' g h s d e s' d' e'
  obtain ⟨n, -⟩:=hp
  refine contract0 false ok_tabC4 Tryz.func28 (by kernel_rfl) (by kernel_rfl) fun hok=> ?_
  obtain ⟨X,hX⟩:∃X:Dy.Dyd,X=⟨s,d,e⟩:=⟨_,rfl⟩
  obtain ⟨Y,hY⟩:∃Y:Dy.Dyd,Y=⟨s',d',e'⟩:=⟨_,rfl⟩
  rw [vc_croot_sqrt]
  rw [←hX,←hY] at n ⊢
  obtain ⟨ax,fax,fx,fxx,xx⟩:=Dy.mul_may n.mx n.bx n.ex n.tx
  obtain ⟨ay,fay,fy,fyy,xy⟩:=Dy.mul_may n.my n.by_ n.ey n.ty
  obtain ⟨V,hV⟩:∃V:Nat,V=6000:=⟨_,rfl⟩
  obtain ⟨N,hN⟩:∃N:Nat,N=4500:=⟨_,rfl⟩
  have hN':(4500:Int)=(N:Int):=by rw [hN];rfl
  obtain ⟨-, -, -, -, -, -, -, -,mS,nS,zS,bS,eS,eS2⟩:=Dy.sq_facts n hV (T:=1024) n.tx n.ty (Nat.le_refl _)
  have eSq:Dy.addD (Dy.mulD X X) (Dy.mulD Y Y)=Dy.sqD X Y:=by unfold Dy.sqD;rw [←Dy.mulD_abs,←Dy.mulD_abs]
  have sx:=fun hi=>Dy.endD_self fxx.may (n:=N) (by omega) (Nat.le_trans fxx.bits (by omega)) hi
  have sy:=fun hi=>Dy.endD_self fyy.may (n:=N) (by omega) (Nat.le_trans fyy.bits (by omega)) hi
  have sS:=fun hi=>Dy.endD_self mS (n:=N) (by omega) (by omega) hi
  have rD:=(Dy.rootF_ok mS nS zS (n:=N) (by omega) (by omega)).2.2.2.1
  have mX:=Dy.fit_mid fxx (by decide)
  have mY:=Dy.fit_mid fyy (by decide)
  have mSq:Dy.mid (Dy.sqD X Y):=⟨mS,by omega,by omega⟩
  rw [hN']
  refine dpeel fun b1 l2 n3 d1=>dpeel fun b4 l5 n6 d4=>dpeel fun b7 l8 n9 d7=>dpeel fun b10 l11 n12 d10=> ?_
  rw [d1,d4,d7,d10,Dy.min_self,Dy.max_self,Dy.min_self,Dy.max_self,Dy.cond_self,Dy.cond_self,sx false,sx true,sy false,sy true]
  refine ⟨⟨n.mx,n.mx,n.mx,n.mx,mX,mX,mX,mX,by omega,by omega⟩,dpeel fun b13 l14 n15 d13=>dpeel fun b16 l17 n18 d16=>⟨⟨n.my,n.my,n.my,n.my,mY,mY,mY,mY,by omega,by omega⟩,dpeel fun b19 l20 n21 d19=>dpeel fun b22 l23 n24 d22=> ?_⟩⟩
  rw [d13,d16,d19,d22,eSq,sS false,sS true]
  refine ⟨⟨fxx.may,fxx.may,fyy.may,fyy.may,mSq,mSq,by omega,by omega⟩,dpeel fun b25 l26 n27 d25=>dpeel fun b28 l29 n30 d28=> ?_⟩
  rw [d25,d28,rD]
  refine dpeel fun b31 l32 n33 d31=> ?_
  have d31:Dy.Dyd.mk b31 l32 n33=(Dy.rootF (Dy.sqD X Y) N).1:=d31
  rintro _ rfl _ -
  unfold Dy.sqrtN
  rw [hN']
  refine cond_i (fun hl=> ?_) (fun hl=> ?_)
  ·have hl:(Dy.rootF (Dy.sqD X Y) N).2=false:=by simpa using hl
   have hl2:=hl
   rw [hN] at hl2
   obtain ⟨fr,ex⟩:=Dy.exact_facts n (T:=1024) n.tx n.ty (Nat.le_refl _) hl2
   rw [←hN] at fr ex
   have E1:=ex false X rfl
   have E2:=ex true (Dy.negD X) rfl
   rw [if_pos hl]
   have fr':=fr.mono (L':=5000) (E':=7000) (by omega) (by decide)
   have fx':=fx.mono (L':=5000) (E':=7000) (by decide) (by decide)
   have b1:=Dy.boundIf_add fr' fx' (by decide) (by decide)
   have b2:=Dy.boundIf_sub fr' fx' (by decide) (by decide)
   have m1:=Dy.fit_mid (Dy.fit_add fr' fx' (by decide) (by decide)).1 (by decide)
   have m2:=Dy.fit_mid (Dy.fit_add fr' (Dy.fit_neg fx') (by decide) (by decide)).1 (by decide)
   have k1:=shiftD_mid m1 (k:= -1) ⟨by decide,by decide⟩
   have k2:=shiftD_mid m2 (k:= -1) ⟨by decide,by decide⟩
   unfold Dy.subD
   generalize (Dy.rootF (Dy.sqD X Y) N).1=R at*
   rw [d31,b1,b2]
   refine dpeel (x:=Dy.addD R X) fun b36 l37 n38 d36=> ?_
   rintro _ -
   refine dpeel (x:=Dy.addD R (Dy.negD X)) fun b40 l41 n42 d40=> ?_
   rintro _ -
   rw [d36,d40,k1,k2]
   refine dpeel (x:=Dy.shD (Dy.addD R X) (-1)) fun b44 l45 n46 d44=> ?_
   rintro _ -
   refine dpeel (x:=Dy.shD (Dy.addD R (Dy.negD X)) (-1)) fun b48 l49 n50 d48=> ?_
   rintro _ -
   refine ⟨⟨n.em,by rw [d44];exact E1.1,(congrArg Dy.Dyd.neg d44).trans E1.2.1⟩,?_⟩
   rw [d44]
   rintro _ rfl _ rfl
   refine ⟨⟨n.em,by rw [d48];exact E2.1,(congrArg Dy.Dyd.neg d48).trans E2.2.1⟩,?_⟩
   rw [d48]
   rintro _ rfl _ rfl _ rfl _ rfl _ rfl _ rfl
   rfl
  ·have hl:(Dy.rootF (Dy.sqD X Y) N).2=true:=by simpa using hl
   have hl2:=hl
   rw [←hN'] at hl2
   have off:=n.offs hl2
   have hb:=Dy.bey_ok off
   have cap:Dy.capOk X Y X X (Dy.sqD X Y) (Dy.sqD X Y) Y Y h:=⟨rfl,rfl,rfl,rfl,rfl,rfl,off,n.mx,n.my,n.hs⟩
   rw [if_neg (show¬(Dy.rootF (Dy.sqD X Y) N).2=false by rw [hl];decide)]
   refine ⟨cap,dpeel fun b60 l61 n62 d60=>⟨cap,dpeel fun b63 l64 n65 d63=>⟨⟨n.em,by rw [d60];exact hb.1.2⟩,?_⟩⟩⟩
   rw [d60]
   rintro _ rfl _ rfl
   refine ⟨⟨n.em,by rw [d63];exact hb.2.2⟩,?_⟩
   rw [d63]
   rintro _ rfl _ rfl _ rfl _ rfl _ rfl _ rfl
   rfl
 ·cases h
theorem ok_tabC5:PhiOk Tryz.prog Inv (look tabC5):=look_cons ok_tabC4 ok_croot_sqrt
theorem ok_croot_Sqrt (args:List AV) (s:Spec) (h:cSqrt args=some s) (hp:andO s.pre True):Contract Tryz.prog Inv 6 args s.res:=by
 unfold cSqrt at h
 split at h
 ·cases h
  rename_i f m a b
  obtain ⟨⟨em,ea,eb,ca,cb⟩, -⟩:=hp
  refine contract0 false ok_tabC5 Tryz.func6 (by kernel_rfl) (by kernel_rfl) fun hok=> ?_
  obtain ⟨hf, -, -, -, -, -⟩:=Dy.errM_zero em
  obtain ⟨vx1,vx2,vx3,vx4,vx5,vx6,vx7⟩:=Dy.wVal_ok hf ca
  obtain ⟨vy1,vy2,vy3,vy4,vy5,vy6,vy7⟩:=Dy.wVal_ok hf cb
  have hW:Dy.wWide f≤1024:=by rcases Dy.fmt_facts hf with c|c<;>omega
  have a4:decide (Dy.wClass f a.toNat=4)=false:=decide_eq_false (by omega)
  have a5:decide (Dy.wClass f a.toNat=5)=false:=decide_eq_false (by omega)
  have b4:decide (Dy.wClass f b.toNat=4)=false:=decide_eq_false (by omega)
  have b5:decide (Dy.wClass f b.toNat=5)=false:=decide_eq_false (by omega)
  rw [vc_croot_Sqrt]
  refine ⟨⟨em,ea,eb,ca,cb⟩,?_⟩
  intro n1 e1 n2 e2 n3 e3 n4 e4
  have e1:=e1.symm
  have e2:=e2.symm
  have e3:=e3.symm
  have e4:=e4.symm
  subst e1 e2 e3 e4
  rintro _ rfl _ rfl _ rfl _ rfl
  have hsg:(if Dy.mayD (Dy.wVal f a.toNat)=true then Dy.signD (Dy.wVal f a.toNat) else (0:Int))<0 ↔ (Dy.wVal f a.toNat).neg=true:=by
   rw [if_pos vx1]
   unfold Dy.signD
   by_cases c:(Dy.wVal f a.toNat).mag=[]
   ·rw [if_pos c,vx7 c];simp
   ·rw [if_neg c]
    cases (Dy.wVal f a.toNat).neg<;>simp
  unfold Dy.crootN
  generalize Dy.wVal f a.toNat=X at*
  generalize Dy.wVal f b.toNat=Y at*
  refine dpeel fun b9 l10 n11 d9=>dpeel fun b12 l13 n14 d12=> ?_
  rintro _ rfl
  have hb9:b9=X.neg:=congrArg Dy.Dyd.neg d9
  rw [d9,d12,hb9]
  refine cond_f rfl (cond_f b4 (cond_f a4 (cond_f a4 (cond_f a4 (cond_f a4 (cond_f b5 (cond_f a5 ?_)))))))
  refine cond_i (fun h1=> ?_) (fun h1=> ?_)
  ·have h1':=of_decide_eq_true h1
   rw [if_pos h1']
   refine cond_i (fun h2=> ?_) (fun h2=> ?_)
   ·have hn:=hsg.1 (of_decide_eq_true h2)
    have eo:Dy.okIf (Dy.mayD X) (Dy.absD X)=(Dy.absD X,0):=by unfold Dy.okIf;rw [if_pos vx1]
    rw [if_pos hn,eo]
    have ma:Dy.mayD (Dy.absD X)=true:=by
     obtain ⟨s,m',e⟩:=X
     have h:=vx1
     show Dy.mayD ⟨false,m',e⟩=true
     rw [Dy.mayD_iff] at h ⊢
     exact ⟨h.1,h.2.elim (fun c=> .inl ⟨c.1,rfl,c.2.2⟩) .inr⟩
    refine dpeel (x:=Dy.absD X) fun b424 l425 n426 d424=> ?_
    rintro _ -
    refine ⟨hf,?_⟩
    rintro _ rfl _ rfl
    refine ⟨⟨em,by rw [d424];exact ma,congrArg Dy.Dyd.neg d424⟩,?_⟩
    rw [d424]
    rintro _ rfl _ rfl _ rfl _ rfl _ rfl _ rfl
    rfl
   ·have hn:¬X.neg=true:=fun c=>of_decide_eq_false h2 (hsg.2 c)
    rw [if_neg hn]
    refine cond_t h1 ⟨⟨em,vx1,by simpa using hn⟩,?_⟩
    rintro _ rfl _ rfl
    refine ⟨hf,?_⟩
    rintro _ rfl _ rfl _ rfl _ rfl _ rfl _ rfl
    rfl
  ·have h1':=of_decide_eq_false h1
   rw [if_neg h1']
   have y0:Y.mag≠[]:=fun c=>h1' (vy5.1 c)
   refine cond_f h1 ⟨⟨em,vx1,vy1,y0,vx2,vy2,vx3,vy3,by omega,by omega,(vy6 y0).symm⟩,?_⟩
   rintro _ rfl _ rfl _ rfl _ rfl
   rfl
 ·cases h
theorem ok_tabC6:PhiOk Tryz.prog Inv (look tabC6):=look_cons ok_tabC5 ok_croot_Sqrt
end Go.AI

namespace Go.Dy
set_option maxRecDepth 100000
theorem word_parts {f:Int} (hf:isF f) {neg:Bool} {z w:Nat} (hw:w=signW f neg+z) (hz:z<wInf f):errW f (w:Int)=0∧wClass f w<4∧wNeg f w=neg∧(wClass f w=1 ↔ z=0):=by
 have hi:=wInf_lt hf
 have hp:=Nat.two_pow_pos (wBit f)
 have hs:wSize f w=z:=by
  unfold wSize
  rw [hw]
  unfold signW
  cases neg
  ·rw [if_neg (by decide),Nat.zero_add]
   exact Nat.mod_eq_of_lt (by omega)
  ·rw [if_pos rfl,Nat.add_mod_left]
   exact Nat.mod_eq_of_lt (by omega)
 refine ⟨errW_of hf ?_,?_,?_,?_⟩
 ·rw [shS_of hf,hw]
  have:=signW_lt hf neg
  omega
 ·unfold wClass
  rw [hs]
  (repeat' split)<;>omega
 ·unfold wNeg
  rw [hw]
  unfold signW
  cases neg
  ·rw [if_neg (by decide)]
   exact decide_eq_false (by omega)
  ·rw [if_pos rfl]
   exact decide_eq_true (by omega)
 ·unfold wClass
  rw [hs]
  by_cases c:z=0
  ·rw [if_pos c]
   exact ⟨fun _=>c,fun _=>rfl⟩
  ·rw [if_neg c]
   refine ⟨fun h=> ?_,fun h=>absurd h c⟩
   (repeat' split at h)<;>omega
def beyOk (k:Nat) (P:Dyd):Prop:=(mid P∧mayD (beyD P)=true∧mid (negD P)∧beyD (negD P)=negD (beyD P))∧((beyD P).neg=false∧(beyD P).mag≠[]∧topD (beyD P)≤k+1)
theorem sqrt_one {f m:Int} (hf:isF f) {k:Nat} (hk:(k:Int)+2≤wWide f) {D:Dyd} (h:beyOk k D):wordOk f false (roundW f m (beyD D))∧wordOk f true (roundW f m (beyD (negD D))):=by
 obtain ⟨⟨-,h1, -,h5⟩,h2,h3,h4⟩:=h
 constructor
 ·have:=roundW_ok (m:=m) hf h1 h3 (by omega)
  rw [h2] at this
  exact this
 ·rw [h5]
  have:=roundW_ok (m:=m) hf (may_negD h1) (show (negD (beyD D)).mag≠[] from h3) (show topD (beyD D)+1≤wWide f by omega)
  have hn:(negD (beyD D)).neg=true:=by
   unfold negD
   rw [h2,decide_eq_true h3]
   rfl
  rw [hn] at this
  exact this
theorem sqrt_gen {f m:Int} (hf:isF f) {k:Nat} (hk:(k:Int)+2≤wWide f) {P Q:Dyd} (hp:beyOk k P) (hq:beyOk k Q) (s s':Bool):
  wordOk f false (roundW f m (beyD (bif s then Q else P)))∧wordOk f s' (roundW f m (beyD (bif s' then negD (bif s then P else Q) else (bif s then P else Q)))):=by
 have oP:=sqrt_one (m:=m) hf hk hp
 have oQ:=sqrt_one (m:=m) hf hk hq
 cases s<;>cases s'<;>simp only [cond_true,cond_false]
 ·exact ⟨oP.1,oQ.1⟩
 ·exact ⟨oP.1,oQ.2⟩
 ·exact ⟨oQ.1,oP.1⟩
 ·exact ⟨oQ.1,oP.2⟩
theorem exact_gen {f m:Int} (hf:isF f) {k:Nat} (hk:wWide f=2*(k:Int)) {R X:Dyd} {h:Bool} (ex:∀s:Bool,∀Z:Dyd,Z=(if s then negD X else X)→mayD (shD (addD R Z) (-1))=true∧(shD (addD R Z) (-1)).neg=false∧(shD (addD R Z) (-1)).mag≠[]∧topD (shD (addD R Z) (-1))≤((2*k:Nat):Int)+2):
  wordOk f false (rootN f m (shD (addD R X) (-1)) false)∧wordOk f h (rootN f m (shD (addD R (negD X)) (-1)) h):=by
 have E1:=ex false X rfl
 have E2:=ex true (negD X) rfl
 exact ⟨rootN_ok hf E1.1 E1.2.1 E1.2.2.1 (by have:=E1.2.2.2;omega) false,rootN_ok hf E2.1 E2.2.1 E2.2.2.1 (by have:=E2.2.2.2;omega) h⟩
theorem sqrt_k {f:Int} (hf:isF f):∃k:Nat,wWide f=2*(k:Int)∧60≤k∧k≤512:=by
 rcases fmt_facts hf with c|c
 ·exact ⟨64,by omega,by decide,by decide⟩
 ·exact ⟨512,by omega,by decide,by decide⟩
theorem sqrt_exact {f m:Int} {X Y:Dyd} {h:Bool} (n:numOk f m X Y h) (tx:topD X≤wWide f) (ty:topD Y≤wWide f) {N:Nat} (hN:N=4500) (hl:(rootF (sqD X Y) N).2=false):
  wordOk f false (rootN f m (shD (addD (rootF (sqD X Y) N).1 X) (-1)) false)∧wordOk f h (rootN f m (shD (addD (rootF (sqD X Y) N).1 (negD X)) (-1)) h):=by
 obtain ⟨hf, -, -, -, -, -⟩:=errM_zero n.em
 obtain ⟨k,hk,k1,k2⟩:=sqrt_k hf
 subst hN
 exact exact_gen hf hk (exact_facts n (T:=2*k) (by omega) (by omega) (by omega) hl).2
theorem sqrt_round {f m:Int} {X Y:Dyd} {h:Bool} (n:numOk f m X Y h) (tx:topD X≤wWide f) (ty:topD Y≤wWide f) (off:offZ (absD X) (absD Y)):
  wordOk f false (roundW f m (beyD (reD X Y)))∧wordOk f Y.neg (roundW f m (beyD (imD X Y))):=by
 obtain ⟨hf, -, -, -, -, -⟩:=errM_zero n.em
 obtain ⟨k,hk,k1,k2⟩:=sqrt_k hf
 have hb:=part_bey off (k:=k) (by omega) (show topD X≤2*k by omega) (show topD Y≤2*k by omega)
 exact sqrt_gen hf (by omega) hb.1 hb.2 X.neg Y.neg
theorem sqrt_ok {f m:Int} {X Y:Dyd} {h:Bool} (n:numOk f m X Y h) (tx:topD X≤wWide f) (ty:topD Y≤wWide f):wordOk f false (sqrtN f m X Y h).1∧wordOk f h (sqrtN f m X Y h).2:=by
 unfold sqrtN
 obtain ⟨N,hN⟩:∃N:Nat,N=4500:=⟨_,rfl⟩
 have hN':(4500:Int)=(N:Int):=by rw [hN];rfl
 rw [hN']
 cases hl:(rootF (sqD X Y) N).2
 ·rw [if_pos rfl]
  exact sqrt_exact n tx ty hN hl
 ·rw [if_neg (by decide)]
  have hl2:=hl
  rw [←hN'] at hl2
  have hs:=n.hs
  rw [hs]
  exact sqrt_round n tx ty (n.offs hl2)
theorem croot_ok {f m a b:Int} (em:errM f m=0) (ca:wClass f a.toNat<4) (cb:wClass f b.toNat<4):
  ∃z1 z2:Nat,((crootN f m a b).1.1=signW f false+z1∧z1<wInf f)∧((crootN f m a b).2.1=signW f (wNeg f b.toNat)+z2∧z2<wInf f)∧(wClass f b.toNat=1→z1=0∨z2=0)∧(wClass f b.toNat≠1→z1=0→(crootN f m a b).1.2=24):=by
 obtain ⟨hf, -, -, -, -, -⟩:=errM_zero em
 obtain ⟨vx1,vx2,vx3,vx4,vx5,vx6,vx7⟩:=wVal_ok hf ca
 obtain ⟨vy1,vy2,vy3,vy4,vy5,vy6,vy7⟩:=wVal_ok hf cb
 have hi:=(wInf_lt hf).2
 have hW:wWide f≤1024:=by rcases fmt_facts hf with c|c<;>omega
 unfold crootN
 generalize wVal f a.toNat=X at*
 generalize wVal f b.toNat=Y at*
 by_cases c1:wClass f b.toNat=1
 ·rw [if_pos c1]
  by_cases hn:X.neg=true
  ·rw [if_pos hn]
   have x0:X.mag≠[]:=fun c=>by rw [vx7 c] at hn;cases hn
   have ma:mayD (absD X)=true:=by
    obtain ⟨s,m',e⟩:=X
    have h:=vx1
    show mayD ⟨false,m',e⟩=true
    rw [mayD_iff] at h ⊢
    exact ⟨h.1,h.2.elim (fun c=> .inl ⟨c.1,rfl,c.2.2⟩) .inr⟩
   obtain ⟨z,h1,h2, -⟩:=rootN_ok (m:=m) hf ma rfl (show (absD X).mag≠[] from x0) (show topD X≤wWide f+3 by omega) (wNeg f b.toNat)
   exact ⟨0,z,⟨rfl,hi⟩,⟨h1,h2⟩,fun _=> .inl rfl,fun c=>absurd c1 c⟩
  ·rw [if_neg hn]
   obtain ⟨z,h1,h2⟩:=rootN_size (m:=m) hf vx1 (by simpa using hn) (show topD X≤wWide f+3 by omega)
   exact ⟨z,0,⟨h1,h2⟩,⟨rfl,hi⟩,fun _=> .inr rfl,fun c=>absurd c1 c⟩
 ·rw [if_neg c1]
  have y0:Y.mag≠[]:=fun c=>c1 (vy5.1 c)
  obtain ⟨⟨z1,h1,h2,h3⟩,⟨z2,h4,h5, -⟩⟩:=sqrt_ok (m:=m) (X:=X) (Y:=Y) (h:=wNeg f b.toNat) ⟨em,vx1,vy1,y0,vx2,vy2,vx3,vy3,by omega,by omega,(vy6 y0).symm⟩ vx4 vy4
  exact ⟨z1,z2,⟨h1,h2⟩,⟨h4,h5⟩,fun c=>absurd c c1,fun _=>h3⟩
end Go.Dy

namespace Go.Dy
@[irreducible] def crK (f m a b:Int):(Nat×Int)×(Nat×Int):=crootN f m a b
end Go.Dy
namespace Go.AI
open Go Go.RowKit Go.Proofs
set_option linter.unusedVariables false
def cSqrtK:List AV→Option Spec
 |[.num .u8 f,.num .u8 m,.agg [.num .u64 a,.num .u64 b]]=>
  some ⟨some (Dy.errM f m=0∧Dy.errW f a=0∧Dy.errW f b=0∧Dy.wClass f a.toNat<4∧Dy.wClass f b.toNat<4),.tup [avP (Dy.crK f m a b),.num .i64 0]⟩
 |_=>none
def tabK:List (Nat×(List AV→Option Spec)):=(6,cSqrtK)::tabC5
def hIs:List AV→Option Spec
 |[.num .u8 f]=>some ⟨none,.bool (Dy.isFb f)⟩
 |_=>none
def hSign:List AV→Option Spec
 |[.num .u8 f]=>some ⟨none,.num .u64 (2^Dy.wBit f:Nat)⟩
 |_=>none
def hFrac:List AV→Option Spec
 |[.num .u8 f]=>some ⟨none,.num .i64 (Dy.wFrac f:Nat)⟩
 |_=>none
def hMost:List AV→Option Spec
 |[.num .u8 f]=>some ⟨none,.num .i64 (Dy.wMost f:Nat)⟩
 |_=>none
def hMode:List AV→Option Spec
 |[.num .u8 m]=>some ⟨none,.bool (decide (1≤m∧m≤5))⟩
 |_=>none
def tabH0:List (Nat×(List AV→Option Spec)):=(89,hIs)::(59,hSign)::(51,hFrac)::(60,hMost)::(90,hMode)::tabC6
def hGood:List AV→Option Spec
 |[.num .u8 f,.num .u64 w]=>some ⟨none,.num .i64 (Dy.errW f w)⟩
 |_=>none
def hSplit:List AV→Option Spec
 |[.num .u8 f,.num .u64 w]=>some ⟨some (Dy.errW f w=0),.agg [.bool (Dy.wNeg f w.toNat),.num .i64 (Dy.wExp f w.toNat:Nat),.num .u64 (Dy.wFr f w.toNat:Nat)]⟩
 |_=>none
def hOpens:List AV→Option Spec
 |[.num .u8 f,.num .u8 m,.dig [3] []]=>some ⟨none,.num .i64 (Dy.errM f m)⟩
 |_=>none
def tabH1:List (Nat×(List AV→Option Spec)):=(91,hGood)::(18,hSplit)::(29,hOpens)::tabH0
def hClass:List AV→Option Spec
 |[.num .u8 f,.num .u64 w]=>some ⟨some (Dy.errW f w=0),.num .u8 (Dy.wClass f w.toNat)⟩
 |_=>none
def hPair:List AV→Option Spec
 |[.num .u8 f,.vec [2] 2 [.agg [.num .u64 a,.num .u64 b]]]=>some ⟨none,.num .i64 (bif Dy.isFb f then (if Dy.errW f a=0∧Dy.errW f b=0 then 0 else 6) else 4)⟩
 |_=>none
def tabH2:List (Nat×(List AV→Option Spec)):=(19,hClass)::(30,hPair)::tabH1
def hFinite:List AV→Option Spec
 |[.num .u8 f,.num .u64 w]=>some ⟨some (Dy.errW f w=0),.bool (decide (Dy.wClass f w.toNat<4))⟩
 |_=>none
def hOpen:List AV→Option Spec
 |[.num .u8 f,.num .u8 m,.vec [3] 2 [.agg [.num .u64 a,.num .u64 b]]]=>some ⟨none,.num .i64 (if Dy.errM f m=0 then (if Dy.errW f a=0∧Dy.errW f b=0 then 0 else 6) else Dy.errM f m)⟩
 |_=>none
def hKnown:List AV→Option Spec
 |[]=>some ⟨none,.bool true⟩
 |_=>none
def tabH3:List (Nat×(List AV→Option Spec)):=(47,hFinite)::(7,hOpen)::(9,hKnown)::tabH2
def hFinZ:List AV→Option Spec
 |[.num .u8 f,.agg [.num .u64 a,.num .u64 b]]=>some ⟨some (Dy.errW f a=0∧Dy.errW f b=0),.bool (decide (Dy.wClass f a.toNat<4)&&decide (Dy.wClass f b.toNat<4))⟩
 |_=>none
def tabH4:List (Nat×(List AV→Option Spec)):=(12,hFinZ)::tabH3
end Go.AI

namespace Go.AI
open Dy IntKind
open Go Go.RowKit Go.Proofs
set_option linter.unusedVariables false
set_option maxRecDepth 100000
set_option maxHeartbeats 0
theorem vc_ref3_Is (f:Int) (Q:AV→Prop):(evF Tryz.prog (look tabC6) (lam []) false Tryz.f89 [.num .u8 f] Q)=(bif decide (f=(1:Int)) then Q (.bool true) else Q (.bool (decide (f=(2:Int))))):=by kernel_rfl
theorem vc_ref3_Sign (f:Int) (Q:AV→Prop):(evF Tryz.prog (look tabC6) (lam []) false Tryz.f59 [.num .u8 f] Q)=(bif decide (f=(1:Int)) then Q (.num .u64 2147483648) else Q (.num .u64 9223372036854775808)):=by kernel_rfl
theorem vc_ref3_Frac (f:Int) (Q:AV→Prop):(evF Tryz.prog (look tabC6) (lam []) false Tryz.f51 [.num .u8 f] Q)=(bif decide (f=(1:Int)) then Q (.num .i64 23) else Q (.num .i64 52)):=by kernel_rfl
theorem vc_ref3_Most (f:Int) (Q:AV→Prop):(evF Tryz.prog (look tabC6) (lam []) false Tryz.f60 [.num .u8 f] Q)=(bif decide (f=(1:Int)) then Q (.num .i64 255) else Q (.num .i64 2047)):=by kernel_rfl
theorem vc_ref4_Is (m:Int) (Q:AV→Prop):(evF Tryz.prog (look tabC6) (lam []) false Tryz.f90 [.num .u8 m] Q)=(bif decide (m≥(1:Int)) then Q (.bool (decide (m≤5))) else Q (.bool false)):=by kernel_rfl
theorem vc_ref3_Good (f:Int) (w:Int) (Q:AV→Prop):(evF Tryz.prog (look tabH0) (lam []) false Tryz.f91 [.num .u8 f,.num .u64 w] Q)=(bif !isFb f then Q (.num .i64 4) else bif decide (f=(1:Int)) then bif decide (w≥(4294967296:Int)) then Q (.num .i64 6) else Q (.num .i64 0) else Q (.num .i64 0)):=by kernel_rfl
theorem vc_ref3_Split (f:Int) (w:Int) (Q:AV→Prop):(evF Tryz.prog (look tabH0) (lam []) false Tryz.f18 [.num .u8 f,.num .u64 w] Q)=((↑((2:Nat)^wBit f):Int)≠(0:Int)∧(0:Int)≤(↑(wFrac f):Int)∧u64.wrap ((1:Int)*(2:Int)^min (↑(wFrac f):Int).toNat (64:Nat))≠(0:Int)∧(0:Int)≤(↑(wFrac f):Int)∧Q (.agg [.bool (decide (w≥(↑((2:Nat)^wBit f):Int))),.num .i64 (i64.wrap ((w.tmod (↑((2:Nat)^wBit f):Int)).fdiv ((2:Int)^min (↑(wFrac f):Int).toNat (64:Nat)))),.num .u64 ((w.tmod (↑((2:Nat)^wBit f):Int)).tmod (u64.wrap ((1:Int)*(2:Int)^min (↑(wFrac f):Int).toNat (64:Nat))))])):=by kernel_rfl
theorem vc_ref5_Opens (f:Int) (m:Int) (Q:AV→Prop):(evF Tryz.prog (look tabH0) (lam [((6:Nat),LoopAnn.unroll (1:Nat))]) false Tryz.f29 [.num .u8 f,.num .u8 m,.dig [3] []] Q)=(bif !isFb f then Q (.num .i64 4) else bif !decide (1≤m∧m≤5) then Q (.num .i64 5) else Q (.num .i64 0)):=by kernel_rfl
theorem vc_ref3_Class (f:Int) (w:Int) (Q:AV→Prop):(evF Tryz.prog (look tabH1) (lam []) false Tryz.f19 [.num .u8 f,.num .u64 w] Q)=(errW f w=(0:Int)∧∀(b1:Bool),b1=wNeg f w.toNat→∀(n2:Int),n2=(↑(wExp f w.toNat):Int)→∀(n3:Int),n3=(↑(wFr f w.toNat):Int)→bif decide (n2=(0:Int)) then bif decide (n3=(0:Int)) then Q (.num .u8 1) else bif decide (n2=(0:Int)) then Q (.num .u8 2) else bif decide (n2<(↑(wMost f):Int)) then Q (.num .u8 3) else bif decide (n3=(0:Int)) then Q (.num .u8 4) else Q (.num .u8 5) else bif decide (n2=(0:Int)) then Q (.num .u8 2) else bif decide (n2<(↑(wMost f):Int)) then Q (.num .u8 3) else bif decide (n3=(0:Int)) then Q (.num .u8 4) else Q (.num .u8 5)):=by kernel_rfl
theorem vc_ref10_Good (f:Int) (a:Int) (b:Int) (Q:AV→Prop):(evF Tryz.prog (look tabH1) (lam [((4:Nat),LoopAnn.unroll (2:Nat))]) false Tryz.f30 [.num .u8 f,.vec [2] (2:Nat) [.agg [.num .u64 a,.num .u64 b]]] Q)=(bif !isFb f then Q (.num .i64 4) else ((0:Int)≤(0:Int)∧(0:Int)<(↑[AV.agg [AV.num u64 a,AV.num u64 b]].length:Int))∧bif !decide (errW f a=(0:Int)) then Q (.num .i64 6) else ((0:Int)≤(0:Int)∧(0:Int)<(↑[AV.agg [AV.num u64 a,AV.num u64 b]].length:Int))∧bif !decide (errW f b=(0:Int)) then Q (.num .i64 6) else Q (.num .i64 0)):=by kernel_rfl
theorem vc_ref3_Finite (f:Int) (w:Int) (Q:AV→Prop):(evF Tryz.prog (look tabH2) (lam []) false Tryz.f47 [.num .u8 f,.num .u64 w] Q)=(errW f w=(0:Int)∧bif !decide (wClass f w.toNat=(4:Int)) then Q (.bool !decide (wClass f w.toNat=(5:Int))) else Q (.bool false)):=by kernel_rfl
theorem vc_law21_opens (f:Int) (m:Int) (a:Int) (b:Int) (Q:AV→Prop):(evF Tryz.prog (look tabH2) (lam []) false Tryz.f7 [.num .u8 f,.num .u8 m,.vec [3] (2:Nat) [.agg [.num .u64 a,.num .u64 b]]] Q)=(bif !decide (errM f m=(0:Int)) then Q (.num .i64 (errM f m)) else Q (.num .i64 (bif isFb f then if errW f a=(0:Int)∧errW f b=(0:Int) then (0:Int) else (6:Int) else (4:Int)))):=by kernel_rfl
end Go.AI

namespace Go.Dy
theorem isFb_eq (f:Int):isFb f=(bif decide (f=1) then true else decide (f=2)):=by
 unfold isFb
 cases decide (f=1)<;>rfl
theorem class_parts {f:Int} (hf:isF f) (w:Nat):wClass f w=if wExp f w=0 then (if wFr f w=0 then 1 else 2) else if wExp f w<wMost f then 3 else if wFr f w=0 then (if wExp f w=wMost f then 4 else 5) else 5:=by
 have hp:0<2^wFrac f:=Nat.two_pow_pos _
 have hfr:wFr f w<2^wFrac f:=Nat.mod_lt _ hp
 have hdm:2^wFrac f*wExp f w+wFr f w=wSize f w:=Nat.div_add_mod _ _
 have hM:0<wMost f:=by rcases fmt_facts hf with c|c<;>omega
 unfold wClass wInf
 rw [←hdm,Nat.mul_comm (wMost f)]
 generalize wFr f w=r at*
 generalize wExp f w=x at*
 generalize wMost f=M at*
 generalize 2^wFrac f=P at*
 rcases Nat.lt_trichotomy x M with c|c|c
 ·have h1:=Nat.mul_le_mul_left P (show x+1≤M by omega)
  rw [Nat.mul_add,Nat.mul_one] at h1
  by_cases h0:x=0
  ·subst h0
   rw [Nat.mul_zero,if_pos rfl]
   by_cases hr:r=0
   ·rw [if_pos (by omega),if_pos hr]
   ·rw [if_neg (by omega),if_pos (by omega),if_neg hr]
  ·have h2:=Nat.mul_le_mul_left P (show 1≤x by omega)
   rw [if_neg (by omega),if_neg (by omega),if_pos (by omega),if_neg h0,if_pos c]
 ·subst c
  have h2:=Nat.mul_le_mul_left P (show 1≤x by omega)
  rw [if_neg (by omega),if_neg (by omega),if_neg (by omega),if_neg (show¬x=0 by omega),if_neg (show¬x<x by omega)]
  by_cases hr:r=0
  ·rw [if_pos (by omega),if_pos hr,if_pos rfl]
  ·rw [if_neg (by omega),if_neg hr]
 ·have h1:=Nat.mul_le_mul_left P (show M+1≤x by omega)
  rw [Nat.mul_add,Nat.mul_one] at h1
  have h2:=Nat.mul_le_mul_left P (show 1≤M by omega)
  rw [if_neg (by omega),if_neg (by omega),if_neg (by omega),if_neg (by omega),if_neg (show¬x=0 by omega),if_neg (by omega)]
  split
  ·rw [if_neg (by omega)]
  ·rfl
theorem wExp_le {f:Int} (hf:isF f) (w:Nat):wExp f w≤wMost f:=by
 have h:=wSize_lt f w
 unfold wExp
 have hp:0<2^wFrac f:=Nat.two_pow_pos _
 have:2^wBit f=(wMost f+1)*2^wFrac f:=by rcases hf with rfl|rfl<;>decide
 have h2:wSize f w/2^wFrac f<wMost f+1:=by
  rw [Nat.div_lt_iff_lt_mul hp]
  omega
 omega
end Go.Dy
namespace Go.AI
open Go Go.RowKit Go.Proofs
set_option linter.unusedVariables false
set_option maxRecDepth 100000
set_option maxHeartbeats 1000000
theorem ok_ref3_Is (args:List AV) (s:Spec) (h:hIs args=some s) (hp:andO s.pre True):Contract Tryz.prog Inv 89 args s.res:=by
 unfold hIs at h
 split at h
 ·cases h
  refine contract0 false ok_tabC6 Tryz.func89 (by kernel_rfl) (by kernel_rfl) fun hok=> ?_
  rw [vc_ref3_Is,Dy.isFb_eq]
  refine cond_i (fun h=> ?_) (fun h=> ?_)
  ·rw [h];rfl
  ·rw [h];rfl
 ·cases h
theorem ok_ref3_Sign (args:List AV) (s:Spec) (h:hSign args=some s) (hp:andO s.pre True):Contract Tryz.prog Inv 59 args s.res:=by
 unfold hSign at h
 split at h
 ·cases h
  refine contract0 false ok_tabC6 Tryz.func59 (by kernel_rfl) (by kernel_rfl) fun hok=> ?_
  rw [vc_ref3_Sign]
  unfold Dy.wBit
  refine cond_i (fun h=> ?_) (fun h=> ?_)
  ·rw [if_pos (of_decide_eq_true h)];rfl
  ·rw [if_neg (of_decide_eq_false h)];rfl
 ·cases h
theorem ok_ref3_Frac (args:List AV) (s:Spec) (h:hFrac args=some s) (hp:andO s.pre True):Contract Tryz.prog Inv 51 args s.res:=by
 unfold hFrac at h
 split at h
 ·cases h
  refine contract0 false ok_tabC6 Tryz.func51 (by kernel_rfl) (by kernel_rfl) fun hok=> ?_
  rw [vc_ref3_Frac]
  unfold Dy.wFrac
  refine cond_i (fun h=> ?_) (fun h=> ?_)
  ·rw [if_pos (of_decide_eq_true h)];rfl
  ·rw [if_neg (of_decide_eq_false h)];rfl
 ·cases h
theorem ok_ref3_Most (args:List AV) (s:Spec) (h:hMost args=some s) (hp:andO s.pre True):Contract Tryz.prog Inv 60 args s.res:=by
 unfold hMost at h
 split at h
 ·cases h
  refine contract0 false ok_tabC6 Tryz.func60 (by kernel_rfl) (by kernel_rfl) fun hok=> ?_
  rw [vc_ref3_Most]
  unfold Dy.wMost
  refine cond_i (fun h=> ?_) (fun h=> ?_)
  ·rw [if_pos (of_decide_eq_true h)];rfl
  ·rw [if_neg (of_decide_eq_false h)];rfl
 ·cases h
theorem ok_ref4_Is (args:List AV) (s:Spec) (h:hMode args=some s) (hp:andO s.pre True):Contract Tryz.prog Inv 90 args s.res:=by
 unfold hMode at h
 split at h
 ·cases h
  refine contract0 false ok_tabC6 Tryz.func90 (by kernel_rfl) (by kernel_rfl) fun hok=> ?_
  rw [vc_ref4_Is]
  refine cond_i (fun h=> ?_) (fun h=> ?_)
  ·have h:=of_decide_eq_true h
   refine congrArg AV.bool (decide_eq_decide.2 ?_)
   omega
  ·have h:=of_decide_eq_false h
   rw [decide_eq_false (by omega)]
 ·cases h
theorem ok_tabH0:PhiOk Tryz.prog Inv (look tabH0):=look_cons (look_cons (look_cons (look_cons (look_cons ok_tabC6 ok_ref4_Is) ok_ref3_Most) ok_ref3_Frac) ok_ref3_Sign) ok_ref3_Is
theorem ok_ref3_Good (args:List AV) (s:Spec) (h:hGood args=some s) (hp:andO s.pre True):Contract Tryz.prog Inv 91 args s.res:=by
 unfold hGood at h
 split at h
 ·cases h
  rename_i f w
  refine contract0 false ok_tabH0 Tryz.func91 (by kernel_rfl) (by kernel_rfl) fun hok=> ?_
  have hw:=u64_range hok.2.1
  rw [vc_ref3_Good]
  unfold Dy.errW
  rcases Dy.isFb_cases f with c|c|c
  ·subst c
   refine cond_f rfl (cond_t rfl ?_)
   rw [show Dy.isFb 1=true from rfl,cond_true]
   refine cond_i (fun h=> ?_) (fun h=> ?_)
   ·have:=of_decide_eq_true h
    rw [if_pos (show ((2*Dy.shS 1:Nat):Int)≤w by show (4294967296:Int)≤w;omega)]
   ·have:=of_decide_eq_false h
    rw [if_neg (show¬((2*Dy.shS 1:Nat):Int)≤w by show¬(4294967296:Int)≤w;omega)]
  ·subst c
   refine cond_f rfl (cond_f rfl ?_)
   rw [show Dy.isFb 2=true from rfl,cond_true]
   rw [if_neg (show¬((2*Dy.shS 2:Nat):Int)≤w by show¬(18446744073709551616:Int)≤w;omega)]
  ·rw [Dy.isFb_not c]
   exact rfl
 ·cases h
theorem tmod_nat (v k:Nat):((v:Nat):Int).tmod ((k:Nat):Int)=((v%k:Nat):Int):=by
 rw [Int.tmod_eq_emod_of_nonneg (by omega)]
 exact (Int.natCast_emod v k).symm
theorem ok_ref3_Split (args:List AV) (s:Spec) (h:hSplit args=some s) (hp:andO s.pre True):Contract Tryz.prog Inv 18 args s.res:=by
 unfold hSplit at h
 split at h
 ·cases h
  rename_i f w
  obtain ⟨p, -⟩:=hp
  refine contract0 false ok_tabH0 Tryz.func18 (by kernel_rfl) (by kernel_rfl) fun hok=> ?_
  rw [vc_ref3_Split]
  have hf:=(Dy.errW_zero p).1
  have hw:=(Dy.errW_zero p).2
  have hw0:=u64_range hok.2.1
  obtain ⟨v,rfl⟩:=Int.eq_ofNat_of_zero_le hw0.1
  have h1:=Nat.two_pow_pos (Dy.wBit f)
  have h2:=Nat.two_pow_pos (Dy.wFrac f)
  have h3:=Dy.pow_bit hf
  have h4:=Dy.wSize_lt f v
  have hb:=Dy.wBit_lt hf
  have hF:=Dy.wFrac_lt hf
  rw [pw hf,Int.toNat_natCast,Int.toNat_natCast]
  have e1:((v:Nat):Int).tmod ((2^Dy.wBit f:Nat):Int)=((Dy.wSize f v:Nat):Int):=tmod_nat v _
  have e2:((Dy.wSize f v:Nat):Int).tmod ((2^Dy.wFrac f:Nat):Int)=((Dy.wFr f v:Nat):Int):=tmod_nat _ _
  rw [e1,e2,fdiv_pow (by omega),Int.toNat_natCast,Nat.min_eq_left (by omega),
   wrap_i64 (Int.le_trans (by decide) (Int.natCast_nonneg _)) (by have:=Nat.div_le_self (Dy.wSize f v) (2^Dy.wFrac f);have:2^Dy.wBit f≤2^63:=Nat.pow_le_pow_right (by decide) (by omega);omega)]
  refine ⟨by omega,by omega,by omega,by omega,?_⟩
  have e3:decide (((v:Nat):Int)≥((2^Dy.wBit f:Nat):Int))=Dy.wNeg f v:=by
   unfold Dy.wNeg
   exact decide_eq_decide.2 (by omega)
  rw [e3]
  rfl
 ·cases h
theorem ok_ref5_Opens (args:List AV) (s:Spec) (h:hOpens args=some s) (hp:andO s.pre True):Contract Tryz.prog Inv 29 args s.res:=by
 unfold hOpens at h
 split at h
 ·cases h
  rename_i f m
  refine contract_at false 27 (lam [(6,.unroll 1)]) ok_tabH0 Tryz.func29 (by kernel_rfl) rfl (loops1u (k:=1) (by kernel_rfl) (by kernel_rfl)) fun hok=> ?_
  rw [vc_ref5_Opens]
  unfold Dy.errM
  cases hb:Dy.isFb f
  ·exact cond_t rfl rfl
  ·refine cond_f rfl (cond_i (fun h=> ?_) (fun h=> ?_))
   ·have h:¬(1≤m∧m≤5):=fun c=>by rw [decide_eq_true c] at h;cases h
    rw [cond_true,if_neg h]
   ·have h:1≤m∧m≤5:=Decidable.byContradiction fun c=>by rw [decide_eq_false c] at h;cases h
    rw [cond_true,if_pos h]
 ·cases h
theorem ok_tabH1:PhiOk Tryz.prog Inv (look tabH1):=look_cons (look_cons (look_cons ok_tabH0 ok_ref5_Opens) ok_ref3_Split) ok_ref3_Good
theorem ok_ref3_Class (args:List AV) (s:Spec) (h:hClass args=some s) (hp:andO s.pre True):Contract Tryz.prog Inv 19 args s.res:=by
 unfold hClass at h
 split at h
 ·cases h
  rename_i f w
  obtain ⟨p, -⟩:=hp
  refine contract0 false ok_tabH1 Tryz.func19 (by kernel_rfl) (by kernel_rfl) fun hok=> ?_
  obtain ⟨hf,hw⟩:=Dy.errW_zero p
  have hx:=Dy.wExp_le hf w.toNat
  rw [vc_ref3_Class,Dy.class_parts hf]
  refine ⟨p,?_⟩
  rintro _ rfl _ rfl _ rfl
  refine cond_i (fun h1=> ?_) (fun h1=> ?_)
  ·have h1':=of_decide_eq_true h1
   rw [if_pos (by omega)]
   refine cond_i (fun h2=> ?_) (fun h2=> ?_)
   ·have:=of_decide_eq_true h2
    rw [if_pos (by omega)]
   ·have:=of_decide_eq_false h2
    rw [if_neg (by omega)]
    exact cond_t h1 rfl
  ·have h1':=of_decide_eq_false h1
   rw [if_neg (by omega)]
   refine cond_f h1 (cond_i (fun h2=> ?_) (fun h2=> ?_))
   ·have:=of_decide_eq_true h2
    rw [if_pos (by omega)]
   ·have:=of_decide_eq_false h2
    rw [if_neg (by omega)]
    refine cond_i (fun h3=> ?_) (fun h3=> ?_)
    ·have:=of_decide_eq_true h3
     rw [if_pos (by omega),if_pos (by omega)]
    ·have:=of_decide_eq_false h3
     rw [if_neg (by omega)]
 ·cases h
theorem ok_ref10_Good (args:List AV) (s:Spec) (h:hPair args=some s) (hp:andO s.pre True):Contract Tryz.prog Inv 30 args s.res:=by
 unfold hPair at h
 split at h
 ·cases h
  rename_i f a b
  refine contract_at false 33 (lam [(4,.unroll 2)]) ok_tabH1 Tryz.func30 (by kernel_rfl) rfl (loops1u (k:=2) (by kernel_rfl) (by kernel_rfl)) fun hok=> ?_
  rw [vc_ref10_Good]
  cases hb:Dy.isFb f
  ·exact cond_t rfl rfl
  ·rw [cond_true]
   refine cond_f rfl ⟨⟨by decide,(by decide:(0:Int)<1)⟩,cond_i (fun h=> ?_) (fun h=>⟨⟨by decide,(by decide:(0:Int)<1)⟩,cond_i (fun h'=> ?_) (fun h'=> ?_)⟩)⟩
   ·rw [if_neg (fun c=>by simp [c.1] at h)]
   ·rw [if_neg (fun c=>by simp [c.2] at h')]
   ·rw [if_pos ⟨by simpa using h,by simpa using h'⟩]
 ·cases h
theorem ok_tabH2:PhiOk Tryz.prog Inv (look tabH2):=look_cons (look_cons ok_tabH1 ok_ref10_Good) ok_ref3_Class
theorem ok_ref3_Finite (args:List AV) (s:Spec) (h:hFinite args=some s) (hp:andO s.pre True):Contract Tryz.prog Inv 47 args s.res:=by
 unfold hFinite at h
 split at h
 ·cases h
  rename_i f w
  obtain ⟨p, -⟩:=hp
  refine contract0 false ok_tabH2 Tryz.func47 (by kernel_rfl) (by kernel_rfl) fun hok=> ?_
  have hc:Dy.wClass f w.toNat≤5:=by unfold Dy.wClass;(repeat' split)<;>omega
  rw [vc_ref3_Finite]
  refine ⟨p,cond_i (fun h=> ?_) (fun h=> ?_)⟩
  ·have h:¬Dy.wClass f w.toNat=4:=by simpa using h
   refine congrArg AV.bool ?_
   rw [Bool.eq_iff_iff]
   simp only [Bool.not_eq_true',decide_eq_false_iff_not,decide_eq_true_eq]
   omega
  ·have h:Dy.wClass f w.toNat=4:=by simpa using h
   rw [h]
   rfl
 ·cases h
theorem ok_law21_opens (args:List AV) (s:Spec) (h:hOpen args=some s) (hp:andO s.pre True):Contract Tryz.prog Inv 7 args s.res:=by
 unfold hOpen at h
 split at h
 ·cases h
  rename_i f m a b
  refine contract0 false ok_tabH2 Tryz.func7 (by kernel_rfl) (by kernel_rfl) fun hok=> ?_
  rw [vc_law21_opens]
  refine cond_i (fun h=> ?_) (fun h=> ?_)
  ·rw [if_neg (by simpa using h)]
  ·have h:Dy.errM f m=0:=by simpa using h
   rw [if_pos h,Dy.isFb_of (Dy.errM_zero h).1,cond_true]
 ·cases h
end Go.AI

namespace Go.AI
open Dy IntKind
open Go Go.RowKit Go.Proofs
set_option linter.unusedVariables false
set_option maxRecDepth 100000
set_option maxHeartbeats 0
theorem vc_law21_known (Q:AV→Prop):(evF Tryz.prog (look tabK) (lam []) false Tryz.f9 [] Q)=((errM (1:Int) (1:Int)=(0:Int)∧errW (1:Int) (1077936128:Int)=(0:Int)∧errW (1:Int) (1082130432:Int)=(0:Int)∧wClass (1:Int) (1077936128:Nat)<(4:Int)∧wClass (1:Int) (1082130432:Nat)<(4:Int))∧∀(n1:Int),n1=(↑(crK (1:Int) (1:Int) (1077936128:Int) (1082130432:Int)).fst.fst:Int)→∀(n2:Int),n2=(↑(crK (1:Int) (1:Int) (1077936128:Int) (1082130432:Int)).snd.fst:Int)→∀(n3:Int),n3=(crK (1:Int) (1:Int) (1077936128:Int) (1082130432:Int)).fst.snd→∀(n4:Int),n4=(crK (1:Int) (1:Int) (1077936128:Int) (1082130432:Int)).snd.snd→∀(n5:Int),n5=(0:Int)→bif decide (n1=(1073741824:Int))&&(decide (n2=(1065353216:Int))&&true)&&(decide (n3=(0:Int))&&(decide (n4=(0:Int))&&true)) then Q (.bool (decide (n5=(0:Int)))) else Q (.bool false)):=by kernel_rfl
theorem vc_ref10_Finite (f:Int) (a:Int) (b:Int) (Q:AV→Prop):(evF Tryz.prog (look tabH3) (lam []) false Tryz.f12 [.num .u8 f,.agg [.num .u64 a,.num .u64 b]] Q)=(errW f a=(0:Int)∧bif decide (wClass f a.toNat<(4:Int)) then errW f b=(0:Int)∧Q (.bool (decide (wClass f b.toNat<(4:Int)))) else Q (.bool false)):=by kernel_rfl
theorem vc_law21_Half (f:Int) (m:Int) (a:Int) (b:Int) (Q:AV→Prop):(evF Tryz.prog (look tabH4) (lam []) false Tryz.f5 [.num .u8 f,.num .u8 m,.agg [.num .u64 a,.num .u64 b]] Q)=(bif !decide ((if errM f m=(0:Int) then if errW f a=(0:Int)∧errW f b=(0:Int) then (0:Int) else (6:Int) else errM f m)=(0:Int)) then Q (.bool true) else (errW f a=(0:Int)∧errW f b=(0:Int))∧bif !(decide (wClass f a.toNat<(4:Int))&&decide (wClass f b.toNat<(4:Int))) then Q (.bool true) else (errM f m=(0:Int)∧errW f a=(0:Int)∧errW f b=(0:Int)∧wClass f a.toNat<(4:Int)∧wClass f b.toNat<(4:Int))∧∀(n1:Int),n1=(↑(crootN f m a b).fst.fst:Int)→∀(n2:Int),n2=(↑(crootN f m a b).snd.fst:Int)→∀(n3:Int),n3=(crootN f m a b).fst.snd→∀(n4:Int),n4=(crootN f m a b).snd.snd→∀(n5:Int),n5=(0:Int)→bif !decide (n5=(0:Int)) then Q (.bool false) else (errW f n1=(0:Int)∧errW f n2=(0:Int))∧bif !(decide (wClass f n1.toNat<(4:Int))&&decide (wClass f n2.toNat<(4:Int))) then Q (.bool false) else errW f n1=(0:Int)∧∀(b6:Bool),b6=wNeg f n1.toNat→∀(n7:Int),n7=(↑(wExp f n1.toNat):Int)→∀(n8:Int),n8=(↑(wFr f n1.toNat):Int)→bif b6 then Q (.bool false) else errW f n2=(0:Int)∧∀(b9:Bool),b9=wNeg f n2.toNat→∀(n10:Int),n10=(↑(wExp f n2.toNat):Int)→∀(n11:Int),n11=(↑(wFr f n2.toNat):Int)→errW f b=(0:Int)∧∀(b12:Bool),b12=wNeg f b.toNat→∀(n13:Int),n13=(↑(wExp f b.toNat):Int)→∀(n14:Int),n14=(↑(wFr f b.toNat):Int)→bif !decide (b9=b12) then Q (.bool false) else errW f b=(0:Int)∧bif decide (wClass f b.toNat=(1:Int)) then errW f n1=(0:Int)∧bif decide (wClass f n1.toNat=(1:Int)) then Q (.bool true) else errW f n2=(0:Int)∧bif decide (wClass f n2.toNat=(1:Int)) then Q (.bool true) else Q (.bool false) else errW f n1=(0:Int)∧bif !decide (wClass f n1.toNat=(1:Int)) then Q (.bool true) else bif !decide (u8.wrap (↑(BitVec.ofInt (8:Nat) n3&&&BitVec.ofInt (8:Nat) (8:Int)).toNat:Int)=(0:Int)) then Q (.bool true) else Q (.bool false)):=by kernel_rfl
end Go.AI

namespace Go.Dy
theorem rootF_sq {s:Nat} (hs:s%2=1) {j k:Int} (h1:1≤k) (hk:(bl s:Int)≤k):rootF ⟨false,dg (s*s),2*j⟩ k=(⟨false,dg s,j⟩,false):=by
 obtain ⟨t,ht⟩:∃t:Nat,rootZ (s*s) (2*j) k=2*t:=by
  unfold rootZ evenS
  generalize hz:(if 2*k+2-(bl (s*s):Int)<0 then (0:Int) else 2*k+2-(bl (s*s):Int))=z0
  have h0:0≤z0:=by rw [←hz];split<;>omega
  split
  ·exact ⟨z0.toNat/2,by omega⟩
  ·exact ⟨(z0+1).toNat/2,by omega⟩
 have e0:s*s*2^(2*t)=(s*2^t)*(s*2^t):=by rw [Nat.mul_mul_mul_comm,pow_sq]
 have e1:isq (s*s*2^(2*t))=s*2^t:=by
  rw [e0]
  refine isq_uniq (Nat.le_refl _) ?_
  rw [Nat.add_mul,Nat.mul_add]
  omega
 have e2:(2*j-((2*t:Nat):Int))/2=j-t:=by omega
 have e3:form false (s*2^t) (j-t)=⟨false,dg s,j⟩:=by
  rw [form_mul,form_odd hs]
  congr 1
  omega
 have e4:cutR ⟨false,dg s,j⟩ k=(⟨false,dg s,j⟩,false):=by
  unfold cutR overD
  simp only [val_dg]
  rw [if_pos (by omega)]
 unfold rootF
 simp only [val_dg]
 rw [ht,e1,e2,e3,e4,e0]
 simp
theorem known_root:crK 1 1 1077936128 1082130432=((1073741824,0),(1065353216,0)):=by
 have hX:wVal 1 (1077936128:Int).toNat=⟨false,[3],0⟩:=by kernel_rfl
 have hY:wVal 1 (1082130432:Int).toNat=⟨false,[1],2⟩:=by kernel_rfl
 have hS:sqD ⟨false,[3],0⟩ ⟨false,[1],2⟩=⟨false,dg (5*5),2*0⟩:=by kernel_rfl
 have h5:∀k:Int,k=4500→rootF ⟨false,dg (5*5),2*0⟩ k=(⟨false,dg 5,0⟩,false):=fun k e=>rootF_sq rfl (by omega) (by rw [e];decide)
 have h4:rootF ⟨false,dg (1*1),2*1⟩ 64=(⟨false,dg 1,1⟩,false):=rootF_sq rfl (by decide) (by decide)
 have h1:rootF ⟨false,dg (1*1),2*0⟩ 64=(⟨false,dg 1,0⟩,false):=rootF_sq rfl (by decide) (by decide)
 have a1:shD (addD ⟨false,dg 5,0⟩ ⟨false,[3],0⟩) (-1)=⟨false,dg (1*1),2*1⟩:=by kernel_rfl
 have a2:shD (subD ⟨false,dg 5,0⟩ ⟨false,[3],0⟩) (-1)=⟨false,dg (1*1),2*0⟩:=by kernel_rfl
 have r1:rootN 1 1 ⟨false,dg (1*1),2*1⟩ false=(1073741824,0):=by
  unfold rootN rootW
  rw [h4]
  kernel_rfl
 have r2:rootN 1 1 ⟨false,dg (1*1),2*0⟩ false=(1065353216,0):=by
  unfold rootN rootW
  rw [h1]
  kernel_rfl
 have hc:¬wClass 1 (1082130432:Int).toNat=1:=by decide
 have hn:wNeg 1 (1082130432:Int).toNat=false:=by decide
 unfold crK crootN
 rw [if_neg hc,hX,hY,hn]
 unfold sqrtN
 rw [hS,h5 4500 rfl,if_pos rfl]
 simp only
 rw [a1,a2,r1,r2]
end Go.Dy
namespace Go.AI
open Go Go.RowKit Go.Proofs
set_option linter.unusedVariables false
set_option maxRecDepth 100000
set_option maxHeartbeats 1000000
theorem ok_croot_SqrtK (args:List AV) (s:Spec) (h:cSqrtK args=some s) (hp:andO s.pre True):Contract Tryz.prog Inv 6 args s.res:=by
 refine ok_croot_Sqrt args s ?_ hp
 unfold cSqrtK at h
 unfold Dy.crK at h
 exact h
theorem ok_tabK:PhiOk Tryz.prog Inv (look tabK):=look_cons ok_tabC5 ok_croot_SqrtK
theorem ok_law21_known (args:List AV) (s:Spec) (h:hKnown args=some s) (hp:andO s.pre True):Contract Tryz.prog Inv 9 args s.res:=by
 unfold hKnown at h
 split at h
 ·cases h
  refine contract0 false ok_tabK Tryz.func9 (by kernel_rfl) (by kernel_rfl) fun hok=> ?_
  rw [vc_law21_known,Dy.known_root]
  refine ⟨⟨by decide,by decide,by decide,by decide,by decide⟩,?_⟩
  rintro _ rfl _ rfl _ rfl _ rfl _ rfl
  rfl
 ·cases h
theorem ok_tabH3:PhiOk Tryz.prog Inv (look tabH3):=look_cons (look_cons (look_cons ok_tabH2 ok_law21_known) ok_law21_opens) ok_ref3_Finite
theorem ok_ref10_Finite (args:List AV) (s:Spec) (h:hFinZ args=some s) (hp:andO s.pre True):Contract Tryz.prog Inv 12 args s.res:=by
 unfold hFinZ at h
 split at h
 ·cases h
  rename_i f a b
  obtain ⟨⟨p1,p2⟩, -⟩:=hp
  refine contract0 false ok_tabH3 Tryz.func12 (by kernel_rfl) (by kernel_rfl) fun hok=> ?_
  rw [vc_ref10_Finite]
  refine ⟨p1,cond_i (fun h=>⟨p2,?_⟩) (fun h=> ?_)⟩
  ·rw [h];rfl
  ·rw [h];rfl
 ·cases h
theorem ok_tabH4:PhiOk Tryz.prog Inv (look tabH4):=look_cons ok_tabH3 ok_ref10_Finite
theorem ok_law_CrootHalf (f m a b:Int):Contract Tryz.prog Inv 5 [.num .u8 f,.num .u8 m,.agg [.num .u64 a,.num .u64 b]] (.bool true):=by
 refine contract0 false ok_tabH4 Tryz.func5 (by kernel_rfl) (by kernel_rfl) fun hok=> ?_
 rw [vc_law21_Half]
 by_cases hO:Dy.errM f m=0
 ·by_cases hW:Dy.errW f a=0∧Dy.errW f b=0
  ·rw [if_pos hO,if_pos hW]
   refine cond_f rfl ⟨hW,?_⟩
   refine cond_i (fun _=>rfl) (fun hc=> ?_)
   have hc:(decide (Dy.wClass f a.toNat<4)&&decide (Dy.wClass f b.toNat<4))=true:=by simpa using hc
   obtain ⟨ca,cb⟩:=Bool.and_eq_true_iff.1 hc
   have ca:=of_decide_eq_true ca
   have cb:=of_decide_eq_true cb
   obtain ⟨hf, -, -, -, -, -⟩:=Dy.errM_zero hO
   obtain ⟨z1,z2,⟨w1,l1⟩,⟨w2,l2⟩,k1,k2⟩:=Dy.croot_ok (m:=m) hO ca cb
   obtain ⟨g1,c1,s1,n1⟩:=Dy.word_parts hf w1 l1
   obtain ⟨g2,c2,s2,n2⟩:=Dy.word_parts hf w2 l2
   refine ⟨⟨hO,hW.1,hW.2,ca,cb⟩,?_⟩
   generalize Dy.crootN f m a b=R at*
   obtain ⟨⟨A,X⟩,⟨B,Y⟩⟩:=R
   simp only at w1 w2 k2 g1 c1 s1 n1 g2 c2 s2 n2 ⊢
   rintro _ rfl _ rfl _ rfl _ rfl _ rfl
   simp only [Int.toNat_natCast] at*
   refine cond_f rfl ⟨⟨g1,g2⟩,?_⟩
   refine cond_f (by rw [decide_eq_true c1,decide_eq_true c2];rfl) ⟨g1,?_⟩
   rintro _ rfl _ rfl _ rfl
   refine cond_f s1 ⟨g2,?_⟩
   rintro _ rfl _ rfl _ rfl
   refine ⟨hW.2,?_⟩
   rintro _ rfl _ rfl _ rfl
   refine cond_f (by rw [s2];simp) ⟨hW.2,cond_i (fun d=>⟨g1,?_⟩) (fun d=>⟨g1,?_⟩)⟩
   ·have d:=of_decide_eq_true d
    refine cond_i (fun _=>trivial) (fun e=>⟨g2,?_⟩)
    have e:=of_decide_eq_false e
    have z:=(k1 d).resolve_left fun c=>e (n1.2 c)
    exact cond_t (decide_eq_true (n2.2 z)) trivial
   ·have d:=of_decide_eq_false d
    refine cond_i (fun _=>trivial) (fun e=> ?_)
    have e:Dy.wClass f A=1:=by simpa using e
    have:=k2 d (n1.1 e)
    subst this
    exact cond_t (by decide) trivial
  ·rw [if_pos hO,if_neg hW]
   exact cond_t rfl rfl
 ·rw [if_neg hO]
  exact cond_t (by simpa using hO) rfl
end Go.AI
