/- My texts AVcrx, AIcrx, AVsqe, AIdocl, AVsqd, AVsqf, AIdocs, in one. -/
import Derived.Test.YtogikmlfkhofoaaGreatDoorK20
open Decidable renaming byContradiction→G8
open Int renaming le_refl→u9,natAbs_natCast→S7,toNat_natCast→A2
open Nat renaming le_refl→I6,le_trans→D9,mul_assoc→B9,mul_comm→B6,mul_lt_mul_of_lt_of_lt→K3,mul_mul_mul_comm→F7,pow_add→B8
namespace Go.AI
open Dy Dyd IntKind
open Go Go.RowKit Go.Proofs
set_option linter.unusedVariables false
set_option maxRecDepth 100000
set_option maxHeartbeats 0
theorem A4w (f:Int) (m:Int) (a:Int) (b:Int) (k:Int) (k':Int) (g:Bool) (h:Bool) (s:Bool) (d:List Nat) (e:Int) (s':Bool) (d':List Nat) (e':Int) (neg:Bool) (Q:AV→Prop):(evF Tryz.prog (look US) (lam []) false Tryz.f22 [.agg [.num .u8 f,.num .u8 m,.num .u64 a,.num .u64 b,.num .u8 k,.num .u8 k',.bool g,.bool h,.bool s,.dig [1] d,.num .i64 e,.bool s',.dig [1] d',.num .i64 e'],.bool neg] Q)=(isF f∧∀n1,n1=(↑(D5 f neg+N6 f):Int)→∀n2,n2=(0:Int)→Q (.agg [.num .u64 n1,.num .u8 0])):=by kernel_rfl
theorem A2r (f:Int) (m:Int) (a:Int) (b:Int) (k:Int) (k':Int) (g:Bool) (h:Bool) (s:Bool) (d:List Nat) (e:Int) (s':Bool) (d':List Nat) (e':Int) (x:Int) (Q:AV→Prop):(evF Tryz.prog (look US) (lam []) false Tryz.f23 [.agg [.num .u8 f,.num .u8 m,.num .u64 a,.num .u64 b,.num .u8 k,.num .u8 k',.bool g,.bool h,.bool s,.dig [1] d,.num .i64 e,.bool s',.dig [1] d',.num .i64 e'],.num .u8 x] Q)=(isF f∧∀n1,n1=(↑(T7 f):Int)→∀n2,n2=(0:Int)→Q (.agg [.num .u64 n1,.num .u8 x])):=by kernel_rfl
def W7 (n16:Int) (n18:Int) (n17:Int) (Q:AV→Prop):Prop:=(∀n19,n19=(0:Int)→∀n20,n20=n16→∀n21,n21=n18→∀n22,n22=n17→∀n23,n23=n19→Q (.tup [.agg [.num .u64 n20,.num .u64 n21,.num .u8 n22,.num .u8 n23],.num .i64 0]))
def y8 (n1:Int) (b8:Bool) (n16:Int) (Q:AV→Prop):Prop:=(∀n17,n17=(0:Int)→isF n1∧∀n18,n18=(↑(D5 n1 b8+N6 n1):Int)→W7 n16 n18 n17 Q)
def y9 (n1:Int) (n32:Int) (Q:AV→Prop):Prop:=(∀n33,n33=(0:Int)→isF n1∧∀n34,n34=(↑(T7 n1):Int)→W7 n32 n34 n33 Q)
def z9 (n1:Int) (b8:Bool) (n48:Int) (n49:Int) (Q:AV→Prop):Prop:=(isF n1∧∀n50,n50=(↑(D5 n1 b8):Int)→W7 n48 n50 n49 Q)
def AA (n1:Int) (Q:AV→Prop):Prop:=(isF n1∧∀n56,n56=(↑(T7 n1):Int)→y9 n1 n56 Q)
def AB (n5:Int) (n1:Int) (b8:Bool) (Q:AV→Prop) (n6:Int) (n2:Int) (b9:Bool) (l10:List Nat) (n11:Int):Prop:=(bif decide (n5=4) then isF n1∧∀n48,n48=(↑(D5 n1 false+N6 n1):Int)→∀n49,n49=(0:Int)→z9 n1 b8 n48 n49 Q else bif decide (n6=5) then AA n1 Q else bif decide (n5=5) then AA n1 Q else bif decide (n6=1) then False else bif decide (n6=1) then (L2 n1 n2=0∧A5 (mk b9 l10 n11)=true∧b9=false)∧∀n72,n72=(↑(S5 n1 n2 (mk b9 l10 n11) false).fst:Int)→∀n73,n73=(S5 n1 n2 (mk b9 l10 n11) false).snd→z9 n1 b8 n72 n73 Q else False)
def AD (n5:Int) (b7:Bool) (n1:Int) (b8:Bool) (Q:AV→Prop) (n6:Int) (n2:Int) (b9:Bool) (l10:List Nat) (n11:Int):Prop:=(bif decide (n5=4) then bif b7 then isF n1∧∀n40,n40=(↑(D5 n1 false):Int)→y8 n1 b8 n40 Q else AB n5 n1 b8 Q n6 n2 b9 l10 n11 else AB n5 n1 b8 Q n6 n2 b9 l10 n11)
def c8 (n5:Int) (n6:Int) (n1:Int) (Q:AV→Prop) (b7:Bool) (b8:Bool) (n2:Int) (b9:Bool) (l10:List Nat) (n11:Int):Prop:=(bif decide (n5=4) then bif decide (n6=5) then isF n1∧∀n32,n32=(↑(D5 n1 false+N6 n1):Int)→y9 n1 n32 Q else AD n5 b7 n1 b8 Q n6 n2 b9 l10 n11 else AD n5 b7 n1 b8 Q n6 n2 b9 l10 n11)
theorem OJ (f:Int) (m:Int) (a:Int) (b:Int) (Q:AV→Prop):(evF Tryz.prog (look (((25:Nat),fun x=>none)::((28:Nat),fun x=>none)::D1i)) (lam []) false Tryz.f6 [.num .u8 f,.num .u8 m,.agg [.num .u64 a,.num .u64 b]] Q)=(∀n1,n1=f→∀n2,n2=m→∀n3,n3=a→∀n4,n4=b→∀(n5:Int),(n5=bif BL f m a b then D3 f a.toNat else (0:Int))→∀(n6:Int),(n6=bif BL f m a b then D3 f b.toNat else (0:Int))→∀b7,b7=(BL f m a b&&AG f a.toNat)→∀b8,b8=(BL f m a b&&AG f b.toNat)→dyF (bif BL f m a b then A5s f a.toNat else L7) fun b9 l10 n11=>dyF (bif BL f m a b then A5s f b.toNat else L7) fun b12 l13 n14=>∀n15,n15=KR f m a b→bif !decide (n15=0) then Q (.tup [.agg [.num .u64 0,.num .u64 0,.num .u8 0,.num .u8 0],.num .i64 n15]) else bif decide (n6=4) then isF n1∧∀n16,n16=(↑(D5 n1 false+N6 n1):Int)→y8 n1 b8 n16 Q else bif decide (n5=4) then bif decide (n6=5) then bif b7 then isF n1∧∀n24,n24=(↑(T7 n1):Int)→∀n25,n25=(0:Int)→isF n1∧∀n26,n26=(↑(D5 n1 false+N6 n1):Int)→W7 n24 n26 n25 Q else c8 n5 n6 n1 Q b7 b8 n2 b9 l10 n11 else c8 n5 n6 n1 Q b7 b8 n2 b9 l10 n11 else c8 n5 n6 n1 Q b7 b8 n2 b9 l10 n11):=by kernel_rfl
end Go.AI

namespace Go.Dy
theorem IA (f:Int) (w:Nat):1≤D3 f w∧D3 f w≤5:=by
 unfold D3
 (repeat' split)<;>omega
end Go.Dy
namespace Go.AI
open Go Go.RowKit Go.Proofs
set_option linter.unusedVariables false
set_option maxRecDepth 100000
set_option maxHeartbeats 2000000
theorem eqI {x:Int} {P:Int→Prop} (h:P x):∀n,n=x→P n:=fun _ e=>e ▸ h
theorem eqB {x:Bool} {P:Bool→Prop} (h:P x):∀n,n=x→P n:=fun _ e=>e ▸ h
theorem ok_none {g:Nat} (args:List AV) (s:Spec) (h:(fun _:List AV=>(none:Option Spec)) args=some s) (hp:C6 s.pre True):Contract Tryz.prog Inv g args s.res:=by cases h
theorem A3q (args:List AV) (s:Spec) (h:C70 args=some s) (hp:C6 s.pre True):Contract Tryz.prog Inv 22 args s.res:=by
 unfold C70 at h
 split at h
 ·cases h
  obtain ⟨hf, -⟩:=hp
  refine A4 false DB Tryz.func22 (by kernel_rfl) (by kernel_rfl) fun hok=> ?_
  rw [A4w]
  refine ⟨hf,?_⟩
  rintro _ rfl _ -
  rfl
 ·cases h
theorem A0y (args:List AV) (s:Spec) (h:B8h args=some s) (hp:C6 s.pre True):Contract Tryz.prog Inv 23 args s.res:=by
 unfold B8h at h
 split at h
 ·cases h
  obtain ⟨hf, -⟩:=hp
  refine A4 false DB Tryz.func23 (by kernel_rfl) (by kernel_rfl) fun hok=> ?_
  rw [A2r]
  refine ⟨hf,?_⟩
  rintro _ rfl _ -
  rfl
 ·cases h
theorem A0z (args:List AV) (s:Spec) (h:B8i args=some s) (hp:C6 s.pre True):Contract Tryz.prog Inv 20 args s.res:=by
 unfold B8i at h
 split at h
 ·cases h
  rename_i f m a b
  refine A4 false DB Tryz.func20 (by kernel_rfl) (by kernel_rfl) fun hok=> ?_
  rw [QQ]
  refine eqI (eqI ?_)
  by_cases em:Dy.L2 f m=0
  ·have e1:Dy.KR f m a b=if Dy.H9 f a=0 then Dy.H9 f b else Dy.H9 f a:=by unfold Dy.KR;rw [if_pos em]
   refine B1 (by rw [em];rfl) ?_
   rw [←e1]
   by_cases hE:Dy.KR f m a b=0
   ·have hg:Dy.BL f m a b=true:=decide_eq_true hE
    have p1:Dy.H9 f a=0:=G8 fun c=>by rw [e1,if_neg c] at hE;exact c hE
    have p2:Dy.H9 f b=0:=by rw [e1,if_pos p1] at hE;exact hE
    refine B1 (by rw [hE];rfl) ?_
    rw [hg,hE]
    refine ⟨p1,eqI (eqI ⟨p2,eqI (eqI ⟨p1,?_⟩)⟩)⟩
    refine B4 fun b7 l8 n9 d1=>eqI ⟨p2,B4 fun b11 l12 n13 d2=>eqI ⟨p1,eqB (eqI (eqI (eqI ?_)))⟩⟩
    have d1:Dy.Dyd.mk b7 l8 n9=Dy.A5s f a.toNat:=d1
    have d2:Dy.Dyd.mk b11 l12 n13=Dy.A5s f b.toNat:=d2
    rw [cond_true,cond_true,cond_true,cond_true,←d1,←d2]
    unfold Dy.AG
    refine A8 (fun c=>⟨p2,eqB (eqI (eqI (eqI ?_)))⟩) (fun c=>⟨p2,eqB (eqI (eqI (eqI ?_)))⟩)
    ·refine A8 (fun c'=> ?_) (fun c'=> ?_)
     ·rw [c,c'];rfl
     ·rw [c,c'];rfl
    ·refine A8 (fun c'=> ?_) (fun c'=> ?_)
     ·rw [c,c'];rfl
     ·rw [c,c'];rfl
   ·have hg:Dy.BL f m a b=false:=decide_eq_false hE
    refine B5 (by rw [decide_eq_false hE];rfl) ?_
    rw [hg]
    rfl
  ·have e1:Dy.KR f m a b=Dy.L2 f m:=by unfold Dy.KR;rw [if_neg em]
   have hE:¬Dy.KR f m a b=0:=by rw [e1];exact em
   have hg:Dy.BL f m a b=false:=decide_eq_false hE
   refine B5 (by rw [decide_eq_false em];rfl) ?_
   rw [hg,e1]
   rfl
 ·cases h
theorem C9i:G6 Tryz.prog Inv (look D1i):=A3 (A3 (A3 TT A0z) A0y) A3q
theorem B57:G6 Tryz.prog Inv (look ((25,fun _=>none)::(28,fun _=>none)::D1i)):=A3 (A3 C9i ok_none) ok_none
theorem A0u (args:List AV) (s:Spec) (h:B8l args=some s) (hp:C6 s.pre True):Contract Tryz.prog Inv 6 args s.res:=by
 unfold B8l at h
 split at h
 ·cases h
  rename_i f m a b
  by_cases hE:Dy.KR f m a b=0
  ·have hg:Dy.BL f m a b=true:=decide_eq_true hE
   have em:Dy.L2 f m=0:=G8 fun c=>by unfold Dy.KR at hE;rw [if_neg c] at hE;exact c hE
   have p1:Dy.H9 f a=0:=G8 fun c=>by unfold Dy.KR at hE;rw [if_pos em,if_neg c] at hE;exact c hE
   have p2:Dy.H9 f b=0:=by unfold Dy.KR at hE;rw [if_pos em,if_pos p1] at hE;exact hE
   obtain ⟨hf, -, -, -, -, -⟩:=Dy.W5 em
   obtain ⟨ka1,ka2⟩:=Dy.IA f a.toNat
   obtain ⟨kb1,kb2⟩:=Dy.IA f b.toNat
   have hz:Dy.zrX f m a b=Dy.crF f m a b:=by unfold Dy.zrX;rw [if_pos hE]
   rw [hz,hE]
   by_cases hfin:Dy.D3 f a.toNat<4∧Dy.D3 f b.toNat<4
   ·have hc:Dy.crF f m a b=Dy.NG f m a b:=by
     unfold Dy.crF
     rw [if_neg (by omega),if_neg (by omega),if_neg (by omega)]
    rw [hc]
    have:=JB [.num .u8 f,.num .u8 m,.agg [.num .u64 a,.num .u64 b]] _ rfl ⟨⟨em,p1,p2,hfin.1,hfin.2⟩,trivial⟩
    exact this
   ·refine A4 false B57 Tryz.func6 (by kernel_rfl) (by kernel_rfl) fun hok=> ?_
    rw [OJ];delta W7 y8 y9 z9 AA AB AD c8
    refine eqI (eqI (eqI (eqI (eqI (eqI (eqB (eqB ?_)))))))
    refine B4 fun b9 l10 n11 _=>B4 fun b12 l13 n14 _=>eqI ?_
    unfold Dy.crF
    rw [hE,hg]
    generalize Dy.D3 f a.toNat=k at*
    generalize Dy.D3 f b.toNat=k' at*
    generalize Dy.AG f a.toNat=s at*
    generalize Dy.AG f b.toNat=s' at*
    clear hz hg hE em p1 p2
    have hk:k'=4∨(k=4∧(k'=1∨k'=2∨k'=3∨k'=5))∨(k=5∧(k'=1∨k'=2∨k'=3∨k'=5))∨(k'=5∧(k=1∨k=2∨k=3)):=by omega
    refine B1 rfl ?_
    rcases hk with rfl|⟨rfl,rfl|rfl|rfl|rfl⟩|⟨rfl,rfl|rfl|rfl|rfl⟩|⟨rfl,rfl|rfl|rfl⟩
    ·refine B5 rfl ⟨hf,eqI (eqI ⟨hf,eqI (eqI (eqI (eqI (eqI (eqI ?_)))))⟩)⟩
     rfl
    all_goals cases s
    all_goals repeat (first|refine B5 rfl ?_|refine B1 rfl ?_)
    all_goals refine ⟨hf,eqI (eqI ⟨hf,eqI (eqI (eqI (eqI (eqI (eqI ?_)))))⟩)⟩
    all_goals rfl
  ·have hg:Dy.BL f m a b=false:=decide_eq_false hE
   have hz:Dy.zrX f m a b=((0,0),(0,0)):=by unfold Dy.zrX;rw [if_neg hE]
   rw [hz]
   refine A4 false B57 Tryz.func6 (by kernel_rfl) (by kernel_rfl) fun hok=> ?_
   rw [OJ];delta W7 y8 y9 z9 AA AB AD c8
   refine eqI (eqI (eqI (eqI (eqI (eqI (eqB (eqB ?_)))))))
   refine B4 fun b9 l10 n11 _=>B4 fun b12 l13 n14 _=>eqI ?_
   refine B5 (by rw [decide_eq_false hE];rfl) ?_
   rfl
 ·cases h
end Go.AI

namespace Go.AI
open Dy Dyd IntKind
open Go Go.RowKit Go.Proofs
set_option linter.unusedVariables false
set_option maxRecDepth 100000
set_option maxHeartbeats 0
theorem B6p (f:Int) (m:Int) (r:Int) (r':Int) (t:Int) (t':Int) (neg:Bool) (s:Bool) (d:List Nat) (e:Int) (s':Bool) (d':List Nat) (e':Int) (n:Int) (K:Exit→List AV→Prop):(M7 Tryz.prog (look A2i) RI (3:Nat) (206:Nat) OZ (D8 Tryz.f10 (0:Nat)) [.num .u8 f,.num .u8 m,.boxv [.num .u64 r,.num .u64 r',.num .u8 t,.num .u8 t'],.bool neg,.boxv [.bool s,.dig [4] d,.num .i64 e],.boxv [.bool s',.dig [4] d',.num .i64 e'],.num .i64 n] K)=(∀b1,b1=false→∀(l2:List Nat),l2=d'→∀n3,n3=e'→(A5 (mk s d e)=true∧b1=false∧offZ (B7 (mk s d e)) (B7 (mk b1 l2 n3))∧20≤n∧n≤8192)∧dyF (Z4 (mk s d e) (mk b1 l2 n3) n) fun b4 l5 n6=>dyF (g9 (mk s d e) (mk b1 l2 n3) n) fun b7 l8 n9=>dyF (CX (mk s d e) (mk b1 l2 n3) n) fun b10 l11 n12=>dyF (EZ (mk s d e) (mk b1 l2 n3) n) fun b13 l14 n15=>(A5 (mk b4 l5 n6)=true∧A5 (mk b7 l8 n9)=true∧(1:Int)≤60)∧dyF (bif decide (F0 (mk b4 l5 n6)*F0 (mk b7 l8 n9)≤0) then L7 else (F6 (mk b4 l5 n6) (60:Int)).fst) fun b16 l17 n18=>∀(b19:Bool),(b19=bif decide (F0 (mk b4 l5 n6)*F0 (mk b7 l8 n9)≤0) then false else DZ (F6 (mk b4 l5 n6) (60:Int)).fst (F6 (mk b7 l8 n9) (60:Int)).fst)→(A5 (mk b10 l11 n12)=true∧A5 (mk b13 l14 n15)=true∧(1:Int)≤60)∧dyF (bif decide (F0 (mk b10 l11 n12)*F0 (mk b13 l14 n15)≤0) then L7 else (F6 (mk b10 l11 n12) (60:Int)).fst) fun b20 l21 n22=>∀(b23:Bool),(b23=bif decide (F0 (mk b10 l11 n12)*F0 (mk b13 l14 n15)≤0) then false else DZ (F6 (mk b10 l11 n12) (60:Int)).fst (F6 (mk b13 l14 n15) (60:Int)).fst)→bif b19 then bif b23 then (L2 f m=0∧small (mk b16 l17 n18)∧small (CU (mk b16 l17 n18) true))∧∀n24,n24=(↑(H8 f m (CU (mk b16 l17 n18) true)).fst:Int)→∀n25,n25=(H8 f m (CU (mk b16 l17 n18) true)).snd→(L2 f m=0∧small (mk neg l21 n22)∧small (CU (mk neg l21 n22) true))∧∀n26,n26=(↑(H8 f m (CU (mk neg l21 n22) true)).fst:Int)→∀n27,n27=(H8 f m (CU (mk neg l21 n22) true)).snd→∀n28,n28=n24→∀n29,n29=n26→∀n30,n30=n25→∀n31,n31=n27→K Exit.ret [.num .u8 f,.num .u8 m,.boxv [.num .u64 n28,.num .u64 n29,.num .u8 n30,.num .u8 n31],.bool neg,.boxv [.bool s,.dig [4] d,.num .i64 e],.boxv [.bool s',.dig [4] d',.num .i64 e'],.num .i64 n] else K Exit.normal [.num .u8 f,.num .u8 m,.boxv [.num .u64 r,.num .u64 r',.num .u8 t,.num .u8 t'],.bool neg,.boxv [.bool s,.dig [4] d,.num .i64 e],.boxv [.bool s',.dig [4] d',.num .i64 e'],.num .i64 (i64.wrap ((2:Int)*n))] else K Exit.normal [.num .u8 f,.num .u8 m,.boxv [.num .u64 r,.num .u64 r',.num .u8 t,.num .u8 t'],.bool neg,.boxv [.bool s,.dig [4] d,.num .i64 e],.boxv [.bool s',.dig [4] d',.num .i64 e'],.num .i64 (i64.wrap ((2:Int)*n))]):=by kernel_rfl
end Go.AI

namespace Go.Dy
set_option maxRecDepth 100000
theorem C3n {lo hi:Dyd} (ha:mid lo) (hc:mid hi):agr lo hi 60=okR lo hi 60:=by
 have ma:=FY ha (n:=60) (by decide)
 have mc:=FY hc (n:=60) (by decide)
 have he:DZ (F6 lo 60).1 (F6 hi 60).1=decide (Y1 (F6 lo 60).1 (F6 hi 60).1=0):=by
  rw [Bool.eq_iff_iff,PM,decide_eq_true_eq]
  refine ⟨fun h=> ?_,fun h=>A65 ma mc h⟩
  rw [h]
  exact (QY (u9 _) (u9 _)).2 rfl
 have hs:decide (F0 lo*F0 hi≤0)=decide (y5 lo hi=0):=by
  have g1:F0 lo= -1∨F0 lo=0∨F0 lo=1:=by unfold F0;(repeat' split)<;>simp
  have g2:F0 hi= -1∨F0 hi=0∨F0 hi=1:=by unfold F0;(repeat' split)<;>simp
  unfold y5
  rcases g1 with h|h|h<;>rcases g2 with h'|h'|h'<;>rw [h,h']<;>decide
 unfold agr okR
 rw [he,hs]
 cases decide (y5 lo hi=0)<;>rfl
theorem A6c {X Y:Dyd} (off:offZ (B7 X) (B7 Y)) {n:Nat} (n1:20≤n) (n2:n≤8192):
 ((mid (o0 (sqD X Y) (B7 X) n)∧mid (AE (sqD X Y) (B7 X) n))∧(mid (BQ (sqD X Y) (B7 X) (B7 Y) n)∧mid (DE (sqD X Y) (B7 X) (B7 Y) n)))∧
 ((okR (o0 (sqD X Y) (B7 X) n) (AE (sqD X Y) (B7 X) n) (60:Int)=true→(F6 (o0 (sqD X Y) (B7 X) n) (60:Int)).1=EC (B7 X) (B7 Y) 60)∧
  (okR (BQ (sqD X Y) (B7 X) (B7 Y) n) (DE (sqD X Y) (B7 X) (B7 Y) n) (60:Int)=true→(F6 (BQ (sqD X Y) (B7 X) (B7 Y) n) (60:Int)).1=V6 (B7 X) (B7 Y) 60))∧
 (4700≤n→okR (o0 (sqD X Y) (B7 X) n) (AE (sqD X Y) (B7 X) n) (60:Int)=true∧okR (BQ (sqD X Y) (B7 X) (B7 Y) n) (DE (sqD X Y) (B7 X) (B7 Y) n) (60:Int)=true):=by
 obtain ⟨⟨⟨f1,f2⟩,f3,f4⟩,⟨k1,k2⟩,k3,k4⟩:=A07 off n1 n2
 exact ⟨⟨⟨J9 f1 (by decide),J9 f2 (by decide)⟩,J9 f3 (by decide),J9 f4 (by decide)⟩,⟨k1 60 (by decide),k2 60 (by decide)⟩,fun h=>k3 h 60 (by decide) (by decide)⟩
theorem D5h {X Y:Dyd} (off:offZ (B7 X) (B7 Y)) {n:Nat} (n1:20≤n) (n2:n≤8192):
  mid (Z4 X Y n)∧mid (g9 X Y n)∧(okR (Z4 X Y n) (g9 X Y n) 60=true→(F6 (Z4 X Y n) 60).1=bif X.neg then V6 (B7 X) (B7 Y) 60 else EC (B7 X) (B7 Y) 60)∧(4700≤n→okR (Z4 X Y n) (g9 X Y n) 60=true):=by
 obtain ⟨⟨⟨f1,f2⟩,f3,f4⟩,⟨k1,k2⟩,k3⟩:=A6c off n1 n2
 have e1:X.neg=false→Z4 X Y n=o0 (sqD X Y) (B7 X) n∧g9 X Y n=AE (sqD X Y) (B7 X) n:=fun h=>by unfold Z4 g9;rw [h,cond_false,cond_false];exact ⟨rfl,rfl⟩
 have e2:X.neg=true→Z4 X Y n=BQ (sqD X Y) (B7 X) (B7 Y) n∧g9 X Y n=DE (sqD X Y) (B7 X) (B7 Y) n:=fun h=>by unfold Z4 g9;rw [h,cond_true,cond_true];exact ⟨rfl,rfl⟩
 cases h:X.neg
 ·obtain ⟨a,b⟩:=e1 h
  rw [a,b,cond_false]
  exact ⟨f1,f2,k1,fun h=>(k3 h).1⟩
 ·obtain ⟨a,b⟩:=e2 h
  rw [a,b,cond_true]
  exact ⟨f3,f4,k2,fun h=>(k3 h).2⟩
theorem D4t {X Y:Dyd} (off:offZ (B7 X) (B7 Y)) {n:Nat} (n1:20≤n) (n2:n≤8192):
  mid (CX X Y n)∧mid (EZ X Y n)∧(okR (CX X Y n) (EZ X Y n) 60=true→(F6 (CX X Y n) 60).1=bif X.neg then EC (B7 X) (B7 Y) 60 else V6 (B7 X) (B7 Y) 60)∧(4700≤n→okR (CX X Y n) (EZ X Y n) 60=true):=by
 obtain ⟨⟨⟨f1,f2⟩,f3,f4⟩,⟨k1,k2⟩,k3⟩:=A6c off n1 n2
 have e1:X.neg=false→CX X Y n=BQ (sqD X Y) (B7 X) (B7 Y) n∧EZ X Y n=DE (sqD X Y) (B7 X) (B7 Y) n:=fun h=>by unfold CX EZ;rw [h,cond_false,cond_false];exact ⟨rfl,rfl⟩
 have e2:X.neg=true→CX X Y n=o0 (sqD X Y) (B7 X) n∧EZ X Y n=AE (sqD X Y) (B7 X) n:=fun h=>by unfold CX EZ;rw [h,cond_true,cond_true];exact ⟨rfl,rfl⟩
 cases h:X.neg
 ·obtain ⟨a,b⟩:=e1 h
  rw [a,b,cond_false]
  exact ⟨f3,f4,k2,fun h=>(k3 h).2⟩
 ·obtain ⟨a,b⟩:=e2 h
  rw [a,b,cond_true]
  exact ⟨f1,f2,k1,fun h=>(k3 h).1⟩
theorem C7l {X Y:Dyd} (off:offZ (B7 X) (B7 Y)) {n:Int} (n1:20≤n) (n2:n≤8192):
  ((mid (Z4 X Y n)∧mid (g9 X Y n))∧(mid (CX X Y n)∧mid (EZ X Y n)))∧
   (EU X Y n=true→(agr (Z4 X Y n) (g9 X Y n) 60=true∧agr (CX X Y n) (EZ X Y n) 60=true)∧(F6 (Z4 X Y n) 60).1=(bif X.neg then V6 (B7 X) (B7 Y) 60 else EC (B7 X) (B7 Y) 60)∧
    (F6 (CX X Y n) 60).1=(bif X.neg then EC (B7 X) (B7 Y) 60 else V6 (B7 X) (B7 Y) 60))∧(4700≤n→EU X Y n=true):=by
 obtain ⟨N,rfl⟩:=Int.eq_ofNat_of_zero_le (show 0≤n by omega)
 obtain ⟨a1,a2,a3,a4⟩:=D5h off (n:=N) (by omega) (by omega)
 obtain ⟨b1,b2,b3,b4⟩:=D4t off (n:=N) (by omega) (by omega)
 have ea:=C3n a1 a2
 have eb:=C3n b1 b2
 refine ⟨⟨⟨a1,a2⟩,b1,b2⟩,fun h=> ?_,fun h=> ?_⟩
 ·unfold EU at h
  obtain ⟨h1,h2⟩:=Bool.and_eq_true_iff.1 h
  exact ⟨⟨h1,h2⟩,a3 (by rw [←ea];exact h1),b3 (by rw [←eb];exact h2)⟩
 ·unfold EU
  rw [ea,eb,a4 (by omega),b4 (by omega)]
  rfl
theorem C0z {x y:Dyd} (h:offZ x y):
  ∃V p q:Nat,V=40000∧(∀b,EC x y b=C8 (W0 (p:Int) b) (-(V:Int)))∧(∀b,V6 x y b=C8 (W0 (q:Int) b) (-(V:Int)))∧partW V 512 p∧partW V 512 q:=by
 obtain ⟨V,hV⟩:∃V,V=crV:=⟨_,rfl⟩
 obtain ⟨ho,hp, -, -, -, -⟩:=TL h hV
 have hV4:V=40000:=hV
 have exx:=h.ex
 have exy:=h.ey
 obtain ⟨A,hA,lA, -⟩:=HM h.mx h.nx (V:=V) (T:=2*512) (by omega) h.tx
 obtain ⟨B,hB,lB, -⟩:=HM h.my h.ny (V:=V) (T:=2*512) (by omega) h.ty
 have eA:BO x=A:=by unfold BO;rw [←hV,hA];rfl
 have eB:BO y=B:=by unfold BO;rw [←hV,hB];rfl
 have hT:=C4g lA lB
 have b1:=NE hp
 have b2:=HJ hp
 rw [eA,eB] at b1 b2
 refine ⟨V,CV A B V,T3 A B V,hV4,fun b=> ?_,fun b=> ?_,⟨?_,hT.1⟩,⟨b2,hT.2⟩⟩
 ·unfold EC;rw [eA,eB,←hV]
 ·unfold V6;rw [eA,eB,←hV]
 ·exact D9 (Nat.pow_le_pow_right (by decide) (by omega)) b1
structure docPart (f m:Int) (P Q:Dyd):Prop where
 s1:small P
 s2:small (CU P true)
 rd:H8 f m (CU P true)=H8 f m (K4 Q)
theorem B5h {f m:Int} (hf:isF f) {V w:Nat} (hV:V=40000) (hw:partW V 512 w):
  docPart f m (C8 (W0 (w:Int) 60) (-(V:Int))) (C8 (W0 (w:Int) 64) (-(V:Int)))∧docPart f m (G9 (C8 (W0 (w:Int) 60) (-(V:Int)))) (G9 (C8 (W0 (w:Int) 64) (-(V:Int))))∧
   (C8 (W0 (w:Int) 60) (-(V:Int))).neg=false∧(C8 (W0 (w:Int) 60) (-(V:Int))).mag≠[]:=by
 have h1:V-1588<bl w:=a9.2 hw.lo
 have h2:bl w≤V+512+1:=I8.2 hw.hi
 have key:∀b:Nat,C8 (W0 (w:Int) b) (-(V:Int))=form false (w/2^(bl w-b)) (-(V:Int)+((bl w-b:Nat):Int)):=fun b=>by
  unfold W0 DR
  rw [decide_eq_false (by omega),S7,S1,EW]
 have hq:bl (w/2^(bl w-60))=60:=by rw [C5];omega
 have hc:bl (w/2^(bl w-64))=64:=by rw [C5];omega
 have hqc:w/2^(bl w-60)=w/2^(bl w-64)/16:=by rw [Nat.div_div_eq_div_mul,show (16:Nat)=2^4 from rfl,←B8];congr 2;omega
 have hx: -(V:Int)+((bl w-60:Nat):Int)= -(V:Int)+((bl w-64:Nat):Int)+4:=by omega
 have hlo: -2000≤ -(V:Int)+((bl w-60:Nat):Int):=by omega
 have hhi: -(V:Int)+((bl w-60:Nat):Int)≤600:=by omega
 rw [key 60,key 64]
 generalize -(V:Int)+((bl w-60:Nat):Int)=x at*
 generalize -(V:Int)+((bl w-64:Nat):Int)=e at*
 generalize w/2^(bl w-60)=q at*
 generalize w/2^(bl w-64)=c at*
 have hq0:q≠0:=fun e=>by rw [e,K2] at hq;omega
 have hc0:c≠0:=fun e=>by rw [e,K2] at hc;omega
 have hn:∀(z:Nat) (u:Int),z≠0→G9 (form false z u)=form true z u:=fun z u hz=>by
  unfold G9
  rw [EX hz,decide_eq_true (CH hz),H6 hz,H6 hz]
  rfl
 have gen:∀s:Bool,docPart f m (form s q x) (form s c e):=fun s=>by
  have f1:=(U4 (s:=s) (n:=q) (e:=x) (L:=60) (E:=5000) (by omega) (by omega) (by omega) (by decide) (by decide)).1
  have hb2:=KM hq (by decide)
  have f2:=(U4 (s:=s) (n:=4*q+1) (e:=x-2) (L:=62) (E:=5000) (by omega) (by omega) (by omega) (by decide) (by decide)).1
  refine ⟨⟨f1.may,f1.lo,f1.hi,by have:=f1.bits;omega⟩,?_,C1c hf hc hqc hx⟩
  rw [OQ hq]
  exact ⟨f2.may,f2.lo,f2.hi,by have:=f2.bits;omega⟩
 refine ⟨gen false,?_,EX hq0,CH hq0⟩
 rw [hn q x hq0,hn c e hc0]
 exact gen true
def C56:Nat→Int
 |0=>8192
 |1=>4096
 |2=>2048
 |3=>1024
 |4=>512
 |5=>256
 |_=>128
theorem C57 (k:Nat) (h:k≤5):2*C56 (k+1)=C56 k∧128≤C56 (k+1)∧C56 (k+1)≤4096:=by
 match k,h with
 |0,_=>decide
 |1,_=>decide
 |2,_=>decide
 |3,_=>decide
 |4,_=>decide
 |5,_=>decide
theorem C7j {n:Int} (h:D2n n):∃k:Nat,k≤6∧n=C56 k:=by
 rcases h with h|h|h|h|h|h|h
 ·exact ⟨6,by decide,h⟩
 ·exact ⟨5,by decide,h⟩
 ·exact ⟨4,by decide,h⟩
 ·exact ⟨3,by decide,h⟩
 ·exact ⟨2,by decide,h⟩
 ·exact ⟨1,by decide,h⟩
 ·exact ⟨0,by decide,h⟩
theorem C62 {f m:Int} {neg:Bool} {X Y:Dyd} (h:docPre f m neg X Y):
  docPart f m (bif X.neg then V6 (B7 X) (B7 Y) 60 else EC (B7 X) (B7 Y) 60) (reD X Y)∧
   ∀D,D=(bif X.neg then EC (B7 X) (B7 Y) 60 else V6 (B7 X) (B7 Y) 60)→docPart f m ⟨neg,D.mag,D.exp⟩ (imD X Y):=by
 obtain ⟨hf, -, -, -, -, -⟩:=W5 h.em
 obtain ⟨V,p,q,hV,e1,e2,hp,hq⟩:=C0z h.off
 obtain ⟨p1,p2,p3,p4⟩:=B5h (m:=m) hf hV hp
 obtain ⟨q1,q2,q3,q4⟩:=B5h (m:=m) hf hV hq
 have ng:∀D:Dyd,D.neg=false→D.mag≠[]→G9 D=⟨true,D.mag,D.exp⟩:=fun D h1 h2=>by unfold G9;rw [h1,decide_eq_true h2];rfl
 have ps:∀D:Dyd,D.neg=false→D=⟨false,D.mag,D.exp⟩:=fun D h1=>by rw [←h1]
 unfold reD imD
 rw [e1,e2,e1,e2,h.hn]
 refine ⟨?_,fun D hD=> ?_⟩
 ·cases X.neg
  ·exact p1
  ·exact q1
 ·subst hD
  cases X.neg<;>cases Y.neg<;>simp only [cond_true,cond_false]
  ·rw [←ps _ q3];exact q1
  ·rw [←ng _ q3 q4];exact q2
  ·rw [←ps _ p3];exact p1
  ·rw [←ng _ p3 p4];exact p2
end Go.Dy
namespace Go.AI
open Go Go.RowKit Go.Proofs
set_option linter.unusedVariables false
set_option maxRecDepth 100000
set_option maxHeartbeats 1000000
theorem VR {f m r r' t t':Int} {neg s:Bool} {d:List Nat} {e:Int} {s':Bool} {d':List Nat} {e' n:Int} {K:Exit→List AV→Prop} (h:Dy.docPre f m neg ⟨s,d,e⟩ ⟨s',d',e'⟩) (n1:20≤n) (n2:n≤8192)
  (h1:Dy.EU ⟨s,d,e⟩ ⟨false,d',e'⟩ n=true→K .ret [.num .u8 f,.num .u8 m,
   .boxv [.num .u64 ((Dy.H8 f m (Dy.K4 (Dy.reD ⟨s,d,e⟩ ⟨s',d',e'⟩))).1:Nat),.num .u64 ((Dy.H8 f m (Dy.K4 (Dy.imD ⟨s,d,e⟩ ⟨s',d',e'⟩))).1:Nat),.num .u8 (Dy.H8 f m (Dy.K4 (Dy.reD ⟨s,d,e⟩ ⟨s',d',e'⟩))).2,.num .u8 (Dy.H8 f m (Dy.K4 (Dy.imD ⟨s,d,e⟩ ⟨s',d',e'⟩))).2],
   .bool neg,.boxv [.bool s,.dig [4] d,.num .i64 e],.boxv [.bool s',.dig [4] d',.num .i64 e'],.num .i64 n])
  (h2:Dy.EU ⟨s,d,e⟩ ⟨false,d',e'⟩ n=false→True∧K .normal [.num .u8 f,.num .u8 m,.boxv [.num .u64 r,.num .u64 r',.num .u8 t,.num .u8 t'],.bool neg,.boxv [.bool s,.dig [4] d,.num .i64 e],.boxv [.bool s',.dig [4] d',.num .i64 e'],.num .i64 (2*n)]):
  M7 Tryz.prog (look A2i) RI 3 206 OZ (D8 Tryz.f10 0) [.num .u8 f,.num .u8 m,.boxv [.num .u64 r,.num .u64 r',.num .u8 t,.num .u8 t'],.bool neg,.boxv [.bool s,.dig [4] d,.num .i64 e],.boxv [.bool s',.dig [4] d',.num .i64 e'],.num .i64 n] K:=by
 have aY:Dy.B7 ⟨s',d',e'⟩=Dy.B7 ⟨false,d',e'⟩:=rfl
 have off:Dy.offZ (Dy.B7 ⟨s,d,e⟩) (Dy.B7 ⟨false,d',e'⟩):=h.off
 obtain ⟨⟨⟨a1,a2⟩,b1,b2⟩,hok,h47⟩:=Dy.C7l off n1 n2
 obtain ⟨dp,dq⟩:=Dy.C62 h
 rw [aY] at dp dq
 rw [B6p]
 refine eq3 ⟨⟨h.mx,rfl,off,n1,n2⟩,?_⟩
 refine B4 fun b4 l5 n6 d4=>B4 fun b7 l8 n9 d7=>B4 fun b10 l11 n12 d10=>B4 fun b13 l14 n15 d13=> ?_
 rw [d4,d7,d10,d13]
 refine ⟨⟨a1.1,a2.1,by decide⟩,B4 fun b16 l17 n18 d16=> ?_⟩
 intro b19 e19
 have e19:b19=Dy.agr (Dy.Z4 ⟨s,d,e⟩ ⟨false,d',e'⟩ n) (Dy.g9 ⟨s,d,e⟩ ⟨false,d',e'⟩ n) 60:=e19
 refine ⟨⟨b1.1,b2.1,by decide⟩,B4 fun b20 l21 n22 d20=> ?_⟩
 intro b23 e23
 have e23:b23=Dy.agr (Dy.CX ⟨s,d,e⟩ ⟨false,d',e'⟩ n) (Dy.EZ ⟨s,d,e⟩ ⟨false,d',e'⟩ n) 60:=e23
 have hw:IntKind.i64.wrap (2*n)=2*n:=wrap_i64 (by omega) (by omega)
 rw [hw]
 cases hq:Dy.EU ⟨s,d,e⟩ ⟨false,d',e'⟩ n with
 |true=>
  have hK:=h1 hq
  obtain ⟨⟨q1,q2⟩,q3,q4⟩:=hok hq
  have g:∀lo hi:Dy.Dyd,Dy.agr lo hi 60=true→decide (Dy.F0 lo*Dy.F0 hi≤0)=false:=fun lo hi h=>by
   unfold Dy.agr at h
   cases c:decide (Dy.F0 lo*Dy.F0 hi≤0)
   ·rfl
   ·rw [c] at h;cases h
  rw [g _ _ q1,cond_false,q3] at d16
  rw [g _ _ q2,cond_false,q4] at d20
  have dq:=dq _ d20
  simp only at dq
  rw [q1] at e19
  rw [q2] at e23
  rw [←d16] at dp
  refine B5 e19 (B5 e23 ⟨⟨h.em,dp.s1,dp.s2⟩,eqI (eqI ⟨⟨h.em,dq.s1,dq.s2⟩,eqI (eqI (eqI (eqI (eqI (eqI ?_)))))⟩)⟩)
  have r1:Dy.H8 f m (Dy.CU ⟨b16,l17,n18⟩ true)=_:=dp.rd
  have r2:Dy.H8 f m (Dy.CU ⟨neg,l21,n22⟩ true)=_:=dq.rd
  rw [r1,r2]
  exact hK
 |false=>
  obtain ⟨-,hK⟩:=h2 hq
  unfold Dy.EU at hq
  rw [←e19,←e23] at hq
  refine A8 (fun c=>B1 ?_ hK) (fun c=>hK)
  rw [c] at hq
  exact hq
theorem C7k {f m r r' t t':Int} {neg s:Bool} {d:List Nat} {e:Int} {s':Bool} {d':List Nat} {e' n:Int} {K:Exit→List AV→Prop} (h:Dy.docPre f m neg ⟨s,d,e⟩ ⟨s',d',e'⟩) (hn:Dy.D2n n)
  (hK:K .ret [.num .u8 f,.num .u8 m,
   .boxv [.num .u64 ((Dy.H8 f m (Dy.K4 (Dy.reD ⟨s,d,e⟩ ⟨s',d',e'⟩))).1:Nat),.num .u64 ((Dy.H8 f m (Dy.K4 (Dy.imD ⟨s,d,e⟩ ⟨s',d',e'⟩))).1:Nat),.num .u8 (Dy.H8 f m (Dy.K4 (Dy.reD ⟨s,d,e⟩ ⟨s',d',e'⟩))).2,.num .u8 (Dy.H8 f m (Dy.K4 (Dy.imD ⟨s,d,e⟩ ⟨s',d',e'⟩))).2],
   .bool neg,.boxv [.bool s,.dig [4] d,.num .i64 e],.boxv [.bool s',.dig [4] d',.num .i64 e'],.num .i64 (Dy.B2h (Dy.EU ⟨s,d,e⟩ ⟨false,d',e'⟩) 10 n)]):
  ∃j,P4 Tryz.prog (look A2i) RI 3 206 OZ (D8 Tryz.f10 0) j [.num .u8 f,.num .u8 m,.boxv [.num .u64 r,.num .u64 r',.num .u8 t,.num .u8 t'],.bool neg,.boxv [.bool s,.dig [4] d,.num .i64 e],.boxv [.bool s',.dig [4] d',.num .i64 e'],.num .i64 n] K:=by
 have key:∀(fu g:Nat) (n:Int),fu≤6→fu<g→n=Dy.C56 fu→K .ret [.num .u8 f,.num .u8 m,
   .boxv [.num .u64 ((Dy.H8 f m (Dy.K4 (Dy.reD ⟨s,d,e⟩ ⟨s',d',e'⟩))).1:Nat),.num .u64 ((Dy.H8 f m (Dy.K4 (Dy.imD ⟨s,d,e⟩ ⟨s',d',e'⟩))).1:Nat),.num .u8 (Dy.H8 f m (Dy.K4 (Dy.reD ⟨s,d,e⟩ ⟨s',d',e'⟩))).2,.num .u8 (Dy.H8 f m (Dy.K4 (Dy.imD ⟨s,d,e⟩ ⟨s',d',e'⟩))).2],
   .bool neg,.boxv [.bool s,.dig [4] d,.num .i64 e],.boxv [.bool s',.dig [4] d',.num .i64 e'],.num .i64 (Dy.B2h (Dy.EU ⟨s,d,e⟩ ⟨false,d',e'⟩) g n)]→
   ∃j,P4 Tryz.prog (look A2i) RI 3 206 OZ (D8 Tryz.f10 0) j [.num .u8 f,.num .u8 m,.boxv [.num .u64 r,.num .u64 r',.num .u8 t,.num .u8 t'],.bool neg,.boxv [.bool s,.dig [4] d,.num .i64 e],.boxv [.bool s',.dig [4] d',.num .i64 e'],.num .i64 n] K:=by
  intro fu
  induction fu with
  |zero=>
   intro g n hf hg hb hK
   obtain ⟨g,rfl⟩:∃g',g=g'+1:=⟨g-1,by omega⟩
   have hb:n=8192:=hb
   have ok:Dy.EU ⟨s,d,e⟩ ⟨false,d',e'⟩ n=true:=(Dy.C7l (X:=⟨s,d,e⟩) (Y:=⟨false,d',e'⟩) h.off (by omega) (by omega)).2.2 (by omega)
   have:Dy.B2h (Dy.EU ⟨s,d,e⟩ ⟨false,d',e'⟩) (g+1) n=n:=if_pos ok
   rw [this] at hK
   exact D4 (VR h (by omega) (by omega) (fun _=>hK) (fun c=>by rw [ok] at c;cases c))
  |succ fu ih=>
   intro g n hf hg hb hK
   obtain ⟨g,rfl⟩:∃g',g=g'+1:=⟨g-1,by omega⟩
   obtain ⟨c1,c2,c3⟩:=Dy.C57 fu (by omega)
   cases ok:Dy.EU ⟨s,d,e⟩ ⟨false,d',e'⟩ n with
   |true=>
    have:Dy.B2h (Dy.EU ⟨s,d,e⟩ ⟨false,d',e'⟩) (g+1) n=n:=if_pos ok
    rw [this] at hK
    exact D4 (VR h (by omega) (by omega) (fun _=>hK) (fun c=>by rw [ok] at c;cases c))
   |false=>
    have:Dy.B2h (Dy.EU ⟨s,d,e⟩ ⟨false,d',e'⟩) (g+1) n=Dy.B2h (Dy.EU ⟨s,d,e⟩ ⟨false,d',e'⟩) g (2*n):=if_neg (by rw [ok];decide)
    rw [this] at hK
    obtain ⟨j,hj⟩:=ih g (2*n) (by omega) (by omega) (by omega) hK
    exact E9 j (VR h (by omega) (by omega) (fun c=>by rw [ok] at c;cases c) (fun _=>⟨trivial,hj⟩))
 obtain ⟨k,k1,k2⟩:=Dy.C7j hn
 exact key k 10 n k1 (by omega) k2 hK
end Go.AI

namespace Go.AI
open Dy IntKind
open Go Go.RowKit Go.Proofs
set_option linter.unusedVariables false
set_option maxRecDepth 100000
set_option maxHeartbeats 0
theorem B0v (f:Int) (m:Int) (a:Int) (b:Int) (Q:AV→Prop):(evF Tryz.prog (look (((14:Nat),fun x=>none)::B6b)) (lam [((31:Nat),LoopAnn.unroll (1:Nat))]) false Tryz.f10 [.num .u8 f,.num .u8 m,.agg [.num .u64 a,.num .u64 b]] Q)=(H9 f a=0∧H9 f b=0∧H9 f b=0∧H9 f a=0∧bif decide (D3 f b.toNat=4) then isF f∧∀n1,n1=(↑(D5 f false+N6 f):Int)→∀n2,n2=(0:Int)→isF f∧∀n3,n3=(↑(D5 f (AG f b.toNat)+N6 f):Int)→∀n4,n4=(0:Int)→∀n5,n5=n1→∀n6,n6=n3→∀n7,n7=n2→∀n8,n8=n4→Q (.agg [.num .u64 n5,.num .u64 n6,.num .u8 n7,.num .u8 n8]) else bif decide (D3 f a.toNat=4) then bif decide (D3 f b.toNat=5) then bif AG f a.toNat then isF f∧∀n9,n9=(↑(T7 f):Int)→∀n10,n10=(0:Int)→isF f∧∀n11,n11=(↑(D5 f false+N6 f):Int)→∀n12,n12=(0:Int)→∀n13,n13=n9→∀n14,n14=n11→∀n15,n15=n10→∀n16,n16=n12→Q (.agg [.num .u64 n13,.num .u64 n14,.num .u8 n15,.num .u8 n16]) else isF f∧∀n17,n17=(↑(D5 f false+N6 f):Int)→∀n18,n18=(0:Int)→isF f∧∀n19,n19=(↑(T7 f):Int)→∀n20,n20=(0:Int)→∀n21,n21=n17→∀n22,n22=n19→∀n23,n23=n18→∀n24,n24=n20→Q (.agg [.num .u64 n21,.num .u64 n22,.num .u8 n23,.num .u8 n24]) else bif decide (D3 f a.toNat=4) then bif AG f a.toNat then isF f∧∀n25,n25=(↑(D5 f false):Int)→∀n26,n26=(0:Int)→isF f∧∀n27,n27=(↑(D5 f (AG f b.toNat)+N6 f):Int)→∀n28,n28=(0:Int)→∀n29,n29=n25→∀n30,n30=n27→∀n31,n31=n26→∀n32,n32=n28→Q (.agg [.num .u64 n29,.num .u64 n30,.num .u8 n31,.num .u8 n32]) else bif decide (D3 f a.toNat=4) then isF f∧∀n33,n33=(↑(D5 f false+N6 f):Int)→∀n34,n34=(0:Int)→isF f∧∀n35,n35=(↑(D5 f (AG f b.toNat)):Int)→∀n36,n36=(0:Int)→∀n37,n37=n33→∀n38,n38=n35→∀n39,n39=n34→∀n40,n40=n36→Q (.agg [.num .u64 n37,.num .u64 n38,.num .u8 n39,.num .u8 n40]) else bif decide (D3 f a.toNat=5) then isF f∧∀n41,n41=(↑(T7 f):Int)→∀n42,n42=(0:Int)→isF f∧∀n43,n43=(↑(T7 f):Int)→∀n44,n44=(0:Int)→∀n45,n45=n41→∀n46,n46=n43→∀n47,n47=n42→∀n48,n48=n44→Q (.agg [.num .u64 n45,.num .u64 n46,.num .u8 n47,.num .u8 n48]) else bif decide (D3 f b.toNat=5) then isF f∧∀n49,n49=(↑(T7 f):Int)→∀n50,n50=(0:Int)→isF f∧∀n51,n51=(↑(T7 f):Int)→∀n52,n52=(0:Int)→∀n53,n53=n49→∀n54,n54=n51→∀n55,n55=n50→∀n56,n56=n52→Q (.agg [.num .u64 n53,.num .u64 n54,.num .u8 n55,.num .u8 n56]) else False else bif decide (D3 f a.toNat=4) then isF f∧∀n57,n57=(↑(D5 f false+N6 f):Int)→∀n58,n58=(0:Int)→isF f∧∀n59,n59=(↑(D5 f (AG f b.toNat)):Int)→∀n60,n60=(0:Int)→∀n61,n61=n57→∀n62,n62=n59→∀n63,n63=n58→∀n64,n64=n60→Q (.agg [.num .u64 n61,.num .u64 n62,.num .u8 n63,.num .u8 n64]) else bif decide (D3 f a.toNat=5) then isF f∧∀n65,n65=(↑(T7 f):Int)→∀n66,n66=(0:Int)→isF f∧∀n67,n67=(↑(T7 f):Int)→∀n68,n68=(0:Int)→∀n69,n69=n65→∀n70,n70=n67→∀n71,n71=n66→∀n72,n72=n68→Q (.agg [.num .u64 n69,.num .u64 n70,.num .u8 n71,.num .u8 n72]) else bif decide (D3 f b.toNat=5) then isF f∧∀n73,n73=(↑(T7 f):Int)→∀n74,n74=(0:Int)→isF f∧∀n75,n75=(↑(T7 f):Int)→∀n76,n76=(0:Int)→∀n77,n77=n73→∀n78,n78=n75→∀n79,n79=n74→∀n80,n80=n76→Q (.agg [.num .u64 n77,.num .u64 n78,.num .u8 n79,.num .u8 n80]) else False else bif decide (D3 f a.toNat=4) then bif AG f a.toNat then isF f∧∀n81,n81=(↑(D5 f false):Int)→∀n82,n82=(0:Int)→isF f∧∀n83,n83=(↑(D5 f (AG f b.toNat)+N6 f):Int)→∀n84,n84=(0:Int)→∀n85,n85=n81→∀n86,n86=n83→∀n87,n87=n82→∀n88,n88=n84→Q (.agg [.num .u64 n85,.num .u64 n86,.num .u8 n87,.num .u8 n88]) else bif decide (D3 f a.toNat=4) then isF f∧∀n89,n89=(↑(D5 f false+N6 f):Int)→∀n90,n90=(0:Int)→isF f∧∀n91,n91=(↑(D5 f (AG f b.toNat)):Int)→∀n92,n92=(0:Int)→∀n93,n93=n89→∀n94,n94=n91→∀n95,n95=n90→∀n96,n96=n92→Q (.agg [.num .u64 n93,.num .u64 n94,.num .u8 n95,.num .u8 n96]) else bif decide (D3 f a.toNat=5) then isF f∧∀n97,n97=(↑(T7 f):Int)→∀n98,n98=(0:Int)→isF f∧∀n99,n99=(↑(T7 f):Int)→∀n100,n100=(0:Int)→∀n101,n101=n97→∀n102,n102=n99→∀n103,n103=n98→∀n104,n104=n100→Q (.agg [.num .u64 n101,.num .u64 n102,.num .u8 n103,.num .u8 n104]) else bif decide (D3 f b.toNat=5) then isF f∧∀n105,n105=(↑(T7 f):Int)→∀n106,n106=(0:Int)→isF f∧∀n107,n107=(↑(T7 f):Int)→∀n108,n108=(0:Int)→∀n109,n109=n105→∀n110,n110=n107→∀n111,n111=n106→∀n112,n112=n108→Q (.agg [.num .u64 n109,.num .u64 n110,.num .u8 n111,.num .u8 n112]) else False else bif decide (D3 f a.toNat=4) then isF f∧∀n113,n113=(↑(D5 f false+N6 f):Int)→∀n114,n114=(0:Int)→isF f∧∀n115,n115=(↑(D5 f (AG f b.toNat)):Int)→∀n116,n116=(0:Int)→∀n117,n117=n113→∀n118,n118=n115→∀n119,n119=n114→∀n120,n120=n116→Q (.agg [.num .u64 n117,.num .u64 n118,.num .u8 n119,.num .u8 n120]) else bif decide (D3 f a.toNat=5) then isF f∧∀n121,n121=(↑(T7 f):Int)→∀n122,n122=(0:Int)→isF f∧∀n123,n123=(↑(T7 f):Int)→∀n124,n124=(0:Int)→∀n125,n125=n121→∀n126,n126=n123→∀n127,n127=n122→∀n128,n128=n124→Q (.agg [.num .u64 n125,.num .u64 n126,.num .u8 n127,.num .u8 n128]) else bif decide (D3 f b.toNat=5) then isF f∧∀n129,n129=(↑(T7 f):Int)→∀n130,n130=(0:Int)→isF f∧∀n131,n131=(↑(T7 f):Int)→∀n132,n132=(0:Int)→∀n133,n133=n129→∀n134,n134=n131→∀n135,n135=n130→∀n136,n136=n132→Q (.agg [.num .u64 n133,.num .u64 n134,.num .u8 n135,.num .u8 n136]) else False):=by kernel_rfl
end Go.AI

namespace Go.AI
open Dy Dyd IntKind
open Go Go.RowKit Go.Proofs
set_option linter.unusedVariables false
set_option maxRecDepth 100000
set_option maxHeartbeats 0
def FQ (n17:Int) (n25:Int) (n18:Int) (n26:Int) (Q:AV→Prop):Prop:=(∀n27,n27=n17→∀n28,n28=n25→∀n29,n29=n18→∀n30,n30=n26→Q (.agg [.num .u64 n27,.num .u64 n28,.num .u8 n29,.num .u8 n30]))
def BW (b3:Bool) (f:Int) (b:Int) (n17:Int) (n18:Int) (Q:AV→Prop):Prop:=(bif b3 then isF f∧∀n19,n19=(↑(D5 f false):Int)→∀n20,n20=(0:Int)→isF f∧∀n21,n21=n19→∀n22,n22=(↑(D5 f (AG f b.toNat)+R1 f n17.toNat):Int)→∀n23,n23=n20→∀n24,n24=n18→Q (.agg [.num .u64 n21,.num .u64 n22,.num .u8 n23,.num .u8 n24]) else isF f∧∀n25,n25=(↑(D5 f (AG f b.toNat)):Int)→∀n26,n26=(0:Int)→FQ n17 n25 n18 n26 Q)
def FR (f:Int) (a:Int) (b:Int) (m:Int) (Q:AV→Prop):Prop:=(bif decide (D3 f a.toNat=4) then False else bif decide (D3 f a.toNat=5) then False else bif decide (D3 f b.toNat=5) then False else (H9 f a=0∧D3 f a.toNat<4)∧dyF (S6 f a.toNat) fun b3 l4 n5=>(H9 f b=0∧D3 f b.toNat<4)∧dyF (S6 f b.toNat) fun b6 l7 n8=>bif decide (F0 (mk b6 l7 n8)=0) then∀b9,b9=false→∀(l10:List Nat),l10=l4→∀n11,n11=n5→(L2 f m=0∧b9=false∧small (mk b9 l10 n11))∧∀n12,n12=(↑(S3 f m (mk b9 l10 n11)).fst:Int)→∀n13,n13=(S3 f m (mk b9 l10 n11)).snd→bif b3 then bif AG f b.toNat then∀b14,b14=false→∀(l15:List Nat),l15=l4→∀n16,n16=n5→(L2 f (if m=4 then (5:Int) else if m=5 then (4:Int) else m)=0∧b14=false∧small (mk b14 l15 n16))∧∀n17,n17=(↑(S3 f (if m=4 then (5:Int) else if m=5 then (4:Int) else m) (mk b14 l15 n16)).fst:Int)→∀n18,n18=(S3 f (if m=4 then (5:Int) else if m=5 then (4:Int) else m) (mk b14 l15 n16)).snd→BW b3 f b n17 n18 Q else BW b3 f b n12 n13 Q else BW b3 f b n12 n13 Q else (H9 f a=0∧H9 f b=0∧D3 f a.toNat<4∧D3 f b.toNat<4)∧dyF (C2 (E6 (S6 f a.toNat) (S6 f a.toNat)) (E6 (S6 f b.toNat) (S6 f b.toNat))) fun b55 l56 n57=>(A5 (mk b55 l56 n57)=true∧(1:Int)≤4400∧(4400:Int)≤8192)∧dyF (F6 (form false (isq (val (mk b55 l56 n57).mag*2^U5 (val (mk b55 l56 n57).mag) (mk b55 l56 n57).exp (4400:Int))) (((mk b55 l56 n57).exp-(↑(U5 (val (mk b55 l56 n57).mag) (mk b55 l56 n57).exp (4400:Int)):Int))/2)) (4400:Int)).1 fun b58 l59 n60=>∀b61,b61=(C3 (mk b55 l56 n57) (4400:Int)).snd→bif !b61 then (L2 f m=0∧small (mk b3 l4 n5)∧small (mk b58 l59 n60)∧∀(X:Dyd),X=C2 (mk b58 l59 n60) (mk b3 l4 n5)∨X=C2 (mk b58 l59 n60) (G9 (mk b3 l4 n5))→small (shD X (-1:Int))∧(shD X (-1:Int)).neg=false∧X.mag≠[]∧C7 (shD X (-1:Int))≤P8 f+3)∧∀n62,n62=(↑(S5 f m (shD (C2 (mk b58 l59 n60) (mk b3 l4 n5)) (-1:Int)) false).fst:Int)→∀n63,n63=(S5 f m (shD (C2 (mk b58 l59 n60) (mk b3 l4 n5)) (-1:Int)) false).snd→∀n64,n64=(↑(S5 f m (shD (C2 (mk b58 l59 n60) (G9 (mk b3 l4 n5))) (-1:Int)) (AG f b.toNat)).fst:Int)→∀n65,n65=(S5 f m (shD (C2 (mk b58 l59 n60) (G9 (mk b3 l4 n5))) (-1:Int)) (AG f b.toNat)).snd→FQ n62 n64 n63 n65 Q else (docPre f m (AG f b.toNat) (mk b3 l4 n5) (mk b6 l7 n8)∧D2n (128:Int))∧Q (.agg [.num .u64 (↑(H8 f m (K4 (reD (mk b3 l4 n5) (mk b6 l7 n8)))).fst:Int),.num .u64 (↑(H8 f m (K4 (imD (mk b3 l4 n5) (mk b6 l7 n8)))).fst:Int),.num .u8 (H8 f m (K4 (reD (mk b3 l4 n5) (mk b6 l7 n8)))).snd,.num .u8 (H8 f m (K4 (imD (mk b3 l4 n5) (mk b6 l7 n8)))).snd]))
def FT (f:Int) (a:Int) (b:Int) (m:Int) (Q:AV→Prop):Prop:=(bif decide (D3 f a.toNat=4) then bif AG f a.toNat then isF f∧∀n1,n1=(↑(D5 f false):Int)→∀n2,n2=(0:Int)→False else FR f a b m Q else FR f a b m Q)
theorem B0w (f:Int) (m:Int) (a:Int) (b:Int) (Q:AV→Prop):(evF Tryz.prog (look A2i) RI false Tryz.f10 [.num .u8 f,.num .u8 m,.agg [.num .u64 a,.num .u64 b]] Q)=(H9 f a=0∧H9 f b=0∧H9 f b=0∧H9 f a=0∧bif decide (D3 f b.toNat=4) then False else bif decide (D3 f a.toNat=4) then bif decide (D3 f b.toNat=5) then bif AG f a.toNat then False else False else FT f a b m Q else FT f a b m Q):=by kernel_rfl
end Go.AI

namespace Go.Dy
set_option maxRecDepth 100000
theorem D2f (d:Dyd) (u:Int):at_ (B7 d) u=((at_ d u).natAbs:Int):=by
 obtain ⟨s,m,e⟩:=d
 unfold B7
 rw [j6,j6,HA]
 rfl
theorem A6g {f m:Int} {X Y:Dyd} {h:Bool} {k:Nat} (hk:k=4926) (n:numOk f m X Y h) {D:Dyd} (hD:D=sqD X Y) {N:Nat} (h1:4400≤N) (h2:N≤4500):
  ∃s:Nat,((C3 D N).2=false ↔ ∃w,s=w*2^k∧s*s=s*s∧at_ D (-(2*(6000:Nat):Int))=((s*s:Nat):Int))∧((C3 D N).2=false→(C3 D N).1=form false s (-((6000:Nat):Int)))∧bl s≤7025∧
   s=isq (at_ D (-(2*(6000:Nat):Int))).natAbs:=by
 obtain ⟨V,hV⟩:∃V:Nat,V=6000:=⟨_,rfl⟩
 obtain ⟨A,B,hA,hB,aS,B0,lA,lB,mS,nS,zS,bS,eS,eS2⟩:=UO (T:=1024) n hV n.tx n.ty (I6 _)
 rw [←hD] at aS mS nS zS bS eS eS2
 rw [←hV]
 rw [show (-(2*(V:Int)):Int)= -(2*(V:Int)) from rfl] at aS
 obtain ⟨b,k1,k2,k3⟩:=IN mS nS zS (V:=V) (n:=N) (by omega) (by omega) aS
 have ex: -1074≤(B7 X).exp:=n.ex
 have ey: -1074≤(B7 Y).exp:=n.ey
 have dA:=VL (d:=B7 X) rfl (V:=V) (k:=V-1074) (by omega) hA
 have dB:=VL (d:=B7 Y) rfl (V:=V) (k:=V-1074) (by omega) hB
 have hlt:A*A+B*B<2^(2*(V+1025)):=by
  have a:=K3 lA lA
  have b:=K3 lB lB
  rw [Y8] at a b
  have e:2^(2*(V+1025))=4*2^(2*(V+1024)):=by rw [show 2*(V+1025)=2*(V+1024)+2 by omega,B8,B6]
  omega
 have hs2:=(W3 (A*A+B*B)).1
 have hsl:=PO hs2 hlt
 have hbl:=I8.2 hsl
 have hdv:isq (A*A+B*B)*isq (A*A+B*B)=A*A+B*B→2^(V-1074)∣isq (A*A+B*B):=fun c=>by
  obtain ⟨α,hα⟩:=dA
  obtain ⟨β,hβ⟩:=dB
  refine RO _ _ ?_
  rw [c,hα,hβ,F7,F7 (2^(V-1074)) β,Y8,←Nat.mul_add]
  exact ⟨_,rfl⟩
 refine ⟨isq (A*A+B*B),?_,fun hl=> ?_,by omega,by rw [aS,S7]⟩
 ·rw [k3,aS]
  constructor
  ·rintro ⟨c1, -⟩
   obtain ⟨w,hw⟩:=hdv c1
   exact ⟨w,by rw [hw,show V-1074=k by omega];exact B6 _ _,rfl,by rw [c1]⟩
  ·rintro ⟨w,hw, -,c⟩
   have c:=(Int.ofNat.inj c).symm
   refine ⟨c,?_⟩
   rw [hw]
   have e:2^k=2^b*2^(k-b):=by rw [←B8];congr 1;omega
   rw [e,←B9,B6 w,B9]
   exact Nat.mul_mod_right _ _
 ·obtain ⟨c1,c2⟩:=k3.1 hl
  rw [k2,←EW]
  congr 1
  exact Nat.div_mul_cancel (Nat.dvd_of_mod_eq_zero c2)
theorem C49 {f m:Int} {X Y:Dyd} {h:Bool} (n:numOk f m X Y h) {D:Dyd} (hD:D=sqD X Y) {N:Nat} (hN:N=4400) {M:Nat} (hM:M=4500):
  (C3 D N).2=(C3 D M).2∧((C3 D N).2=false→(C3 D N).1=(C3 D M).1∧∃w:Nat,(C3 D N).1=form false w (-1074)∧bl w≤2100):=by
 obtain ⟨k,hk⟩:∃k:Nat,k=4926:=⟨_,rfl⟩
 obtain ⟨s,h1,h2,h3,h4⟩:=A6g hk n hD (N:=N) (by omega) (by omega)
 obtain ⟨s',k1,k2,k3,k4⟩:=A6g hk n hD (N:=M) (by omega) (by omega)
 rw [←h4] at k4
 subst k4
 have hh:(C3 D N).2=false ↔ (C3 D M).2=false:=h1.trans k1.symm
 have he:(C3 D N).2=(C3 D M).2:=by
  cases c:(C3 D M).2
  ·exact hh.2 c
  ·cases d:(C3 D N).2
   ·have:=hh.1 d;rw [c] at this;cases this
   ·rfl
 refine ⟨he,fun hl=>⟨by rw [h2 hl,k2 (hh.1 hl)],?_⟩⟩
 obtain ⟨w,hw, -, -⟩:=h1.1 hl
 have e1:=h2 hl
 refine ⟨w,?_,?_⟩
 ·rw [e1,hw,EW]
  congr 1
  omega
 ·by_cases c:w=0
  ·rw [c,K2];omega
  ·have:=E7 c k
   rw [←hw] at this
   omega
theorem XN {z:Int} (hb:bl z.natAbs≤2200):small (shD (C8 z (-1074)) (-1)):=by
 rw [LP]
 have ff:=(R9 (z:=z) (e:= -1074+ -1) (L:=2200) (E:=5000) hb (by decide) (by omega) (by decide) (by decide)).1
 exact ⟨ff.may,ff.lo,ff.hi,by have:=ff.bits;omega⟩
theorem C8p {f m:Int} {X Y:Dyd} {h:Bool} (n:numOk f m X Y h) (tx:C7 X≤P8 f) (ty:C7 Y≤P8 f) {D:Dyd} (hD:D=sqD X Y) {N:Nat} (hN:N=4400) (hl:(C3 D N).2=false) {R:Dyd} (hR:R=(C3 D N).1):
  small R∧(∀Z,Z=C2 R X∨Z=C2 R (G9 X)→small (shD Z (-1))∧(shD Z (-1)).neg=false∧Z.mag≠[]∧C7 (shD Z (-1))≤P8 f+3)∧
   ME f m X Y h=(S5 f m (shD (C2 R X) (-1)) false,S5 f m (shD (C2 R (G9 X)) (-1)) h):=by
 obtain ⟨hf, -, -, -, -, -⟩:=W5 n.em
 obtain ⟨M,hM⟩:∃M:Nat,M=4500:=⟨_,rfl⟩
 obtain ⟨e1,e2⟩:=C49 n hD hN hM
 obtain ⟨e3,w,e4,e5⟩:=e2 hl
 have hl5:(C3 (sqD X Y) M).2=false:=by rw [←hD,←e1];exact hl
 have hRM:R=(C3 (sqD X Y) M).1:=by rw [hR,e3,hD]
 have hW:=J0 hf
 obtain ⟨T,hT⟩:∃T:Nat,P8 f=T:=⟨(P8 f).toNat,by rcases hW with c|c<;>omega⟩
 have hT2:T≤1024:=by rcases hW with c|c<;>omega
 rw [hM] at hl5 hRM
 obtain ⟨-,ex⟩:=WZ n (T:=T) (by omega) (by omega) hT2 hl5
 rw [←hRM] at ex
 have hRw:R=form false w (-1074):=by rw [hR,e4]
 have fR:=(U4 (s:=false) (n:=w) (e:= -1074) (L:=2100) (E:=5000) e5 (by decide) (by omega) (by decide) (by decide)).1
 rw [←hRw] at fR
 have eR:R=C8 (w:Int) (-1074):=by rw [hRw,W2];rfl
 have hxe:=n.ex
 obtain ⟨-, -,fx, -, -⟩:=IL n.mx n.bx n.ex n.tx
 have eX:X=C8 (at_ X (-1074)) (-1074):=(BK n.mx n.ex).symm
 have hXb:bl (at_ X (-1074)).natAbs≤2100:=by
  obtain ⟨A,hA,lA, -⟩:=HM (IL n.mx n.bx n.ex n.tx).1 rfl (V:=1074) (T:=1024) (by have: -1074≤(B7 X).exp:=n.ex;omega) n.tx
  have h9:=D2f X (-1074)
  rw [show (-1074:Int)= -((1074:Nat):Int) from rfl] at h9 ⊢
  rw [hA] at h9
  have h9:=Int.ofNat.inj h9
  rw [←h9]
  exact D9 (I8.2 lA) (by decide)
 have hsum:∀z:Int,z.natAbs=(at_ X (-1074)).natAbs→bl ((w:Int)+z).natAbs≤2200:=fun z hz=>by
  have:((w:Int)+z).natAbs≤w+(at_ X (-1074)).natAbs:=by omega
  refine D9 (K1 this) (D9 (VO (k:=2100) e5 hXb) (by decide))
 have sh0:∀{D:Dyd},(shD D (-1)).mag≠[]→D.mag≠[]:=fun {D} h c=>by
  unfold shD at h
  rw [if_pos c] at h
  exact h rfl
 refine ⟨⟨fR.may,fR.lo,fR.hi,by have:=fR.bits;omega⟩,fun Z hZ=> ?_,?_⟩
 ·rcases hZ with rfl|rfl
  ·obtain ⟨-,g2,g3,g4⟩:=ex false X rfl
   refine ⟨?_,g2,sh0 g3,by omega⟩
   rw [eR,eX,C6w]
   exact XN (hsum _ rfl)
  ·obtain ⟨-,g2,g3,g4⟩:=ex true (G9 X) rfl
   refine ⟨?_,g2,sh0 g3,by omega⟩
   rw [eR,eX,C9b,C6w]
   exact XN (hsum _ (Int.natAbs_neg _))
 ·unfold ME
  have hM4:(4500:Int)=((4500:Nat):Int):=rfl
  rw [hM4,if_pos hl5,←hRM]
  rfl
theorem C68 {f m:Int} {X Y:Dyd} {h:Bool} (n:numOk f m X Y h) {D:Dyd} (hD:D=sqD X Y) {N:Nat} (hN:N=4400) (hl:(C3 D N).2=true):
  offZ (B7 X) (B7 Y)∧ME f m X Y h=(H8 f m (K4 (reD X Y)),H8 f m (K4 (imD X Y))):=by
 obtain ⟨M,hM⟩:∃M:Nat,M=4500:=⟨_,rfl⟩
 obtain ⟨e1, -⟩:=C49 n hD hN hM
 have hl5:(C3 (sqD X Y) M).2=true:=by rw [←hD,←e1];exact hl
 rw [hM] at hl5
 refine ⟨n.D6a hl5,?_⟩
 unfold ME
 have hM4:(4500:Int)=((4500:Nat):Int):=rfl
 rw [hM4,if_neg (by rw [hl5];decide)]
end Go.Dy
namespace Go.AI
open Go Go.RowKit Go.Proofs
set_option linter.unusedVariables false
set_option maxRecDepth 100000
set_option maxHeartbeats 2000000
theorem C8t:L6 Tryz.prog (look A2i) RI 3 206 OZ (D8 Tryz.f10 0) C8z:=by
 intro vals r h K hK
 unfold C8z at h
 split at h
 ·cases h
  simp only [j0] at hK
  exact C7k hK.1.1 hK.1.2 hK.2
 ·cases h
theorem C9k:G6 Tryz.prog Inv (look A2i):=A3 (A3 A1m ok_none) ok_none
theorem C9l:G6 Tryz.prog Inv (look ((14,fun _=>none)::B6b)):=A3 A1m ok_none
theorem B3i (args:List AV) (s:Spec) (h:C8n args=some s) (hp:C6 s.pre True):Contract Tryz.prog Inv 10 args s.res:=by
 unfold C8n at h
 split at h
 ·cases h
  rename_i f m a b
  obtain ⟨⟨em,p1,p2⟩, -⟩:=hp
  obtain ⟨hf,m1,m2, -, -, -⟩:=Dy.W5 em
  obtain ⟨ka1,ka2⟩:=Dy.IA f a.toNat
  obtain ⟨kb1,kb2⟩:=Dy.IA f b.toNat
  by_cases hfin:Dy.D3 f a.toNat<4∧Dy.D3 f b.toNat<4
  ·obtain ⟨ca,cb⟩:=hfin
   obtain ⟨vx1,vx2,vx3,vx4,vx5,vx6,vx7⟩:=Dy.PQ hf ca
   obtain ⟨vy1,vy2,vy3,vy4,vy5,vy6,vy7⟩:=Dy.PQ hf cb
   have hW:Dy.P8 f≤1024:=by rcases Dy.J0 hf with c|c<;>omega
   have hc:Dy.crF f m a b=Dy.NG f m a b:=by
    unfold Dy.crF
    rw [if_neg (by omega),if_neg (by omega),if_neg (by omega)]
   have hmin:Dy.AG f b.toNat=Dy.o9 f b.toNat:=by
    unfold Dy.AG
    rw [decide_eq_false (by omega),Bool.not_false,Bool.and_true]
   refine E8 false 206 RI C9k Tryz.func10 (by kernel_rfl) rfl (W4 (by kernel_rfl) (by kernel_rfl) C8t) fun hok=> ?_
   rw [B0w];delta FQ BW FR FT;rw [hc,hmin]
   unfold Dy.NG
   refine ⟨p1,p2,p2,p1,B1 (decide_eq_false (by omega)) (B1 (decide_eq_false (by omega)) (B1 (decide_eq_false (by omega)) (B1 (decide_eq_false (by omega)) (B1 (decide_eq_false (by omega)) (B1 (decide_eq_false (by omega)) ?_)))))⟩
   generalize Dy.S6 f a.toNat=X at*
   generalize Dy.S6 f b.toNat=Y at*
   generalize Dy.o9 f b.toNat=hb at*
   refine ⟨⟨p1,ca⟩,B4 fun b206 l207 n208 dX=>⟨⟨p2,cb⟩,B4 fun b209 l210 n211 dY=> ?_⟩⟩
   have aX:Dy.Dyd.mk false l207 n208=Dy.B7 X:=by rw [←dX];rfl
   have nX:b206=X.neg:=congrArg Dy.Dyd.neg dX
   have mA:Dy.A5 (Dy.B7 X)=true:=(Dy.IL vx1 vx2 vx3 (by omega)).1
   have fA:=Dy.FC mA vx2 vx3 (show Dy.C7 X≤1024 by omega)
   have sA:Dy.small (Dy.B7 X):=⟨mA,by have:=fA.lo;omega,by have:=fA.hi;omega,by have:=fA.bits;omega⟩
   have sX:Dy.small X:=⟨vx1,by have:=fA.lo;show -5000≤X.exp;have e9:(Dy.B7 X).exp=X.exp:=rfl;omega,by have:=fA.hi;have e9:(Dy.B7 X).exp=X.exp:=rfl;omega,by omega⟩
   rw [dX,dY]
   by_cases k1:Dy.D3 f b.toNat=1
   ·have hy0:Y.mag=[]:=vy5.2 k1
    rw [if_pos k1]
    refine B5 (by unfold Dy.F0;rw [if_pos hy0];rfl) (eq3 ?_)
    rw [aX]
    refine ⟨⟨em,rfl,sA⟩,eqI (eqI ?_)⟩
    have hz:∀M:Int,∃z,(Dy.S3 f M (Dy.B7 X)).1=Dy.D5 f false+z∧z<Dy.N6 f:=fun M=>Dy.A21 (m:=M) hf mA rfl (show Dy.C7 X≤Dy.P8 f+3 by omega)
    have hNW:∀M:Int,Dy.YE f (Dy.S3 f M (Dy.B7 X)).1=Dy.D5 f true+Dy.R1 f (Dy.S3 f M (Dy.B7 X)).1∧Dy.D5 f false+Dy.R1 f (Dy.S3 f M (Dy.B7 X)).1=(Dy.S3 f M (Dy.B7 X)).1:=fun M=>by
     obtain ⟨z,z1,z2⟩:=hz M
     exact Dy.A6k hf z1 (by omega)
    have em':Dy.L2 f (if m=4 then 5 else if m=5 then 4 else m)=0:=by
     unfold Dy.L2
     rw [Dy.OY hf,cond_true]
     (repeat' split)<;>omega
    have ho:Dy.Z6 m true=if m=4 then 5 else if m=5 then 4 else m:=by
     unfold Dy.Z6
     by_cases h4:4≤m
     ·rw [if_pos ⟨rfl,h4⟩]
      (repeat' split)<;>omega
     ·rw [if_neg (fun c=>h4 c.2)]
      (repeat' split)<;>omega
    cases hn:X.neg
    ·rw [if_neg (show¬(false=true) by decide)]
     rw [hn] at nX
     subst nX
     have eA:Dy.B7 X=X:=by rw [←aX];exact dX
     refine B1 rfl (B1 rfl ⟨hf,eqI (eqI (eqI (eqI (eqI (eqI ?_)))))⟩)
     rw [eA]
     rfl
    ·rw [if_pos (show true=true from rfl)]
     rw [hn] at nX
     subst nX
     refine B5 rfl ?_
     cases hb
     ·refine B1 rfl (B5 rfl ⟨hf,eqI (eqI ⟨hf,eqI (eqI (eqI (eqI ?_)))⟩)⟩)
      rw [A2,(hNW m).2]
      rfl
     ·refine B5 rfl (eq3 ?_)
      rw [aX]
      refine ⟨⟨em',rfl,sA⟩,eqI (eqI (B5 rfl ⟨hf,eqI (eqI ⟨hf,eqI (eqI (eqI (eqI ?_)))⟩)⟩))⟩
      rw [A2,←ho,←(hNW (Dy.Z6 m true)).1]
      rfl
   ·have y0:Y.mag≠[]:=fun c=>k1 (vy5.1 c)
    have nk:Dy.numOk f m X Y hb:=⟨em,vx1,vy1,y0,vx2,vy2,vx3,vy3,by omega,by omega,(vy6 y0).symm⟩
    rw [if_neg k1]
    have hsg:¬Dy.F0 Y=0:=by
     unfold Dy.F0
     rw [if_neg y0]
     split<;>decide
    refine B1 (decide_eq_false hsg) ⟨⟨p1,p2,ca,cb⟩,B4 fun b258 l259 n260 dD=> ?_⟩
    have hD:Dy.Dyd.mk b258 l259 n260=Dy.sqD X Y:=by rw [dD,Dy.LC X,Dy.LC Y];rfl
    have mD:Dy.A5 (Dy.Dyd.mk b258 l259 n260)=true:=by
     rw [hD]
     obtain ⟨A,B, -, -, -, -, -, -,mS, -⟩:=Dy.UO nk rfl nk.tx nk.ty (I6 _)
     exact mS
    obtain ⟨D,hDD⟩:∃D,D=Dy.Dyd.mk b258 l259 n260:=⟨_,rfl⟩
    rw [←hDD] at hD mD ⊢
    obtain ⟨N,hN⟩:∃N:Nat,N=4400:=⟨_,rfl⟩
    have hN4:(4400:Int)=(N:Int):=by rw [hN];rfl
    rw [hN4]
    refine ⟨⟨mD,by omega,by omega⟩,B4 (x:=(Dy.C3 D (N:Int)).1) fun b261 l262 n263 dR=>eqB ?_⟩
    cases hl:(Dy.C3 D (N:Int)).2
    ·obtain ⟨g1,g2,g3⟩:=Dy.C8p nk vx4 vy4 hD hN hl dR
     rw [g3]
     refine B5 rfl ⟨⟨em,sX,g1,g2⟩,eqI (eqI (eqI (eqI (eqI (eqI (eqI (eqI ?_)))))))⟩
     rfl
    ·obtain ⟨off,g3⟩:=Dy.C68 nk hD hN hl
     rw [g3]
     refine B1 rfl ⟨⟨⟨em,nk.hs,vx1,vy1,off⟩,.inl rfl⟩,?_⟩
     rfl
  ·refine E8 false 206 (lam [(31,.unroll 1)]) C9l Tryz.func10 (by kernel_rfl) rfl (EP (k:=1) (by kernel_rfl) (by kernel_rfl)) fun hok=> ?_
   rw [B0v]
   refine ⟨p1,p2,p2,p1,?_⟩
   unfold Dy.crF
   generalize Dy.D3 f a.toNat=k at*
   generalize Dy.D3 f b.toNat=k' at*
   generalize Dy.AG f a.toNat=s at*
   generalize Dy.AG f b.toNat=s' at*
   have hk:k'=4∨(k=4∧(k'=1∨k'=2∨k'=3∨k'=5))∨(k=5∧(k'=1∨k'=2∨k'=3∨k'=5))∨(k'=5∧(k=1∨k=2∨k=3)):=by omega
   rcases hk with rfl|⟨rfl,rfl|rfl|rfl|rfl⟩|⟨rfl,rfl|rfl|rfl|rfl⟩|⟨rfl,rfl|rfl|rfl⟩
   ·refine B5 rfl ⟨hf,eqI (eqI ⟨hf,eqI (eqI (eqI (eqI (eqI (eqI ?_)))))⟩)⟩
    rfl
   all_goals cases s
   all_goals repeat (first|refine B5 rfl ?_|refine B1 rfl ?_)
   all_goals refine ⟨hf,eqI (eqI ⟨hf,eqI (eqI (eqI (eqI (eqI (eqI ?_)))))⟩)⟩
   all_goals rfl
 ·cases h
end Go.AI
