/- My texts AIdyad4, AIspec5, AVlaw1, AIlaw1, AIring, AIspec6, AVdyad3, AIdyad5, AVlaw2, AIlaw3, AIfloor, AIspec7, AVref2, AIref2, in one. -/
import Derived.Test.YtogikmlfkhofoaaGreatDoorK7
open BitVec renaming ofInt→A7
open Bool renaming and_eq_true_iff→P1,false_eq_true→J7,not_eq_false'→F1,not_eq_true'→G0,true_and→AT
open Int renaming add_mul→BG,eq_ofNat_of_zero_le→C4,le_ediv_iff_mul_le→KF,le_refl→u9,mul_assoc→AU,mul_lt_mul_of_pos_right→FV,natCast_mul→L5,neg_mul→AH,ofNat_eq_zero→P6,pow_add→MP,pow_pos→MQ,toNat_natCast→A2
open List renaming getD_eq_getElem?_getD→D7,getElem?_eq_none→M1,length_cons→T5,length_eq_zero_iff→G5,take_of_length_le→H7
open Nat renaming add_mul→H2,add_zero→I4,le_trans→D9,mod_lt→R5,mul_add→D0,mul_assoc→B9,mul_comm→B6,mul_le_mul→I7,mul_le_mul_right→C0,mul_lt_mul''→EB,mul_ne_zero→X0,mul_pos→U9,mul_zero→O3,one_mul→Q2,pow_add→B8,pow_succ→I5,two_pow_pos→A9,zero_mul→R2
namespace Go.Dy
theorem KA (s:Bool):sgn s 0=0:=by cases s<;>rfl
theorem D2k (s:Bool) (a b:Nat):U2 (sgn s a) (sgn s b)=(if s then -1 else 1)*U2 a b:=by
 unfold sgn
 cases s
 ·simp
 ·simp only [if_true]
  rw [C76]
  omega
theorem C59 (a b:Int):U2 a b= -1∨U2 a b=0∨U2 a b=1:=by
 unfold U2
 split
 ·exact .inl rfl
 ·split
  ·exact .inr (.inr rfl)
  ·exact .inr (.inl rfl)
theorem IC {a b:Int} (h:a<b):U2 a b= -1:=by unfold U2;rw [if_pos h]
theorem IB {a b:Int} (h:b<a):U2 a b=1:=by unfold U2;rw [if_neg (by omega),if_pos h]
theorem A5z {s s':Bool} {m m':List Nat} {e e':Int} (h:A5 ⟨s,m,e⟩=true) (h':A5 ⟨s',m',e'⟩=true):
  (F0 ⟨s,m,e⟩<F0 ⟨s',m',e'⟩→Y1 ⟨s,m,e⟩ ⟨s',m',e'⟩= -1)∧(F0 ⟨s',m',e'⟩<F0 ⟨s,m,e⟩→Y1 ⟨s,m,e⟩ ⟨s',m',e'⟩=1)∧
  (F0 ⟨s,m,e⟩=F0 ⟨s',m',e'⟩→(m=[] ↔ m'=[])∧Y1 ⟨s,m,e⟩ ⟨s',m',e'⟩=F0 ⟨s,m,e⟩*U2 (val m*2^(e-min e e').toNat:Nat) (val m'*2^(e'-min e e').toNat:Nat)):=by
 unfold Y1
 rw [j6,j6]
 simp only [unit]
 unfold F0
 simp only
 have p1:=A9 (e-min e e').toNat
 have p2:=A9 (e'-min e e').toNat
 by_cases c:m=[]
 ·subst c
  obtain ⟨rfl,rfl⟩:=CZ h
  by_cases c':m'=[]
  ·subst c'
   obtain ⟨rfl,rfl⟩:=CZ h'
   simp [val,sgn,U2]
  ·have v:=Q1 (C1 h') c'
   simp only [if_neg c',if_true]
   have hp:0<val m'*2^(e'-min 0 e').toNat:=U9 (by omega) p2
   generalize val m'*2^(e'-min 0 e').toNat=B at*
   simp only [val,R2,KA]
   unfold sgn
   cases s'
   ·simp only [J7,if_false]
    refine ⟨fun _=>IC (by omega),fun h=>by omega,fun h=>by omega⟩
   ·simp only [if_true]
    refine ⟨fun h=>by omega,fun h=>IB (by omega),fun h=>by omega⟩
 ·have v:=Q1 (C1 h) c
  have hp:0<val m*2^(e-min e e').toNat:=U9 (by omega) p1
  simp only [if_neg c]
  by_cases c':m'=[]
  ·subst c'
   obtain ⟨rfl,rfl⟩:=CZ h'
   generalize val m*2^(e-min e 0).toNat=A at*
   simp only [val,R2,KA,if_true]
   unfold sgn
   cases s
   ·simp only [J7,if_false]
    refine ⟨fun h=>by omega,fun _=>IB (by omega),fun h=>by omega⟩
   ·simp only [if_true]
    refine ⟨fun h=>IC (by omega),fun h=>by omega,fun h=>by omega⟩
  ·have v':=Q1 (C1 h') c'
   have hp':0<val m'*2^(e'-min e e').toNat:=U9 (by omega) p2
   simp only [if_neg c']
   generalize val m*2^(e-min e e').toNat=A at*
   generalize val m'*2^(e'-min e e').toNat=B at*
   by_cases hs:s=s'
   ·subst hs
    refine ⟨fun h=>by omega,fun h=>by omega,fun _=>⟨by simp [c,c'],D2k s A B⟩⟩
   ·unfold sgn
    cases s<;>cases s'<;>simp at hs ⊢
    ·exact IB (by omega)
    ·exact IC (by omega)
end Go.Dy
namespace Go.AI
open Go Go.RowKit Go.Proofs
set_option linter.unusedVariables false
set_option maxRecDepth 100000
theorem A1c:G6 Tryz.prog Inv (look C4o):=
 A3 (A3 (A3 (A3 (A3 (A3 HB B3q) A9b) A12) A41) B3l) B3r
theorem B3n (args:List AV) (s:Spec) (h:D4d args=some s) (hp:C6 s.pre True):Contract Tryz.prog Inv 179 args s.res:=by
 unfold D4d at h
 split at h
 ·cases h
  rename_i s m e s' m' e'
  refine A4 false A1c Tryz.func179 (by kernel_rfl) (by kernel_rfl) fun hok=> ?_
  rw [B6s]
  refine A8 (fun h=> ?_) (fun h=> ?_)
  ·simp only [G0] at h
   rw [h];rfl
  ·simp only [F1] at h
   obtain ⟨hd,hd'⟩:=P1.1 h
   rw [h,if_pos hd,if_pos hd',if_pos rfl,if_pos rfl]
   obtain ⟨k1,k2,k3⟩:=Dy.A5z hd hd'
   refine A8 (fun h1=> ?_) (fun h1=>A8 (fun h2=> ?_) (fun h2=> ?_))
   ·rw [k1 (A1 h1)]
   ·rw [k2 (A1 h2)]
   ·have h1:=A0 h1
    have h2:=A0 h2
    obtain ⟨k4,k5⟩:=k3 (by omega)
    have hw:IntKind.i64.wrap (Dy.Y1 ⟨s,m,e⟩ ⟨s',m',e'⟩)=Dy.Y1 ⟨s,m,e⟩ ⟨s',m',e'⟩:=by
     have:Dy.Y1 ⟨s,m,e⟩ ⟨s',m',e'⟩= -1∨Dy.Y1 ⟨s,m,e⟩ ⟨s',m',e'⟩=0∨Dy.Y1 ⟨s,m,e⟩ ⟨s',m',e'⟩=1:=Dy.C59 _ _
     exact wrap_i64 (by omega) (by omega)
    rw [←k5,hw]
    exact ⟨⟨hd,hd',k4⟩,rfl⟩
 ·cases h
theorem A9c (args:List AV) (s:Spec) (h:C7d args=some s) (hp:C6 s.pre True):Contract Tryz.prog Inv 188 args s.res:=by
 unfold C7d at h
 split at h
 ·cases h
  rename_i p x q y e
  obtain ⟨⟨hx,hy,nx,ny,he⟩, -⟩:=hp
  refine A4 false A1c Tryz.func188 (by kernel_rfl) (by kernel_rfl) fun hok=> ?_
  have b1:=Dy.O8 hx
  have b2:=Dy.O8 hy
  rw [B12,Dy.SA hx hy,Dy.UP hx hy,Dy.UP hy hx,Dy.GU,Dy.GU]
  refine A8 (fun h=> ?_) (fun h=> ?_)
  ·have h:=A1 h
   subst h
   rw [Dy.GD,Dy.S1]
   intro l1 e1 n2 e2
   by_cases c:Dy.bl (Dy.val x+Dy.val y)≤131072
   ·simp only [if_pos c] at e1 e2
    subst e1 e2
    refine B1 (by simp) ?_
    rw [Dy.AO c]
    rintro _ rfl _ rfl _ rfl _ rfl
    rfl
   ·simp only [if_neg c] at e1 e2
    subst e1 e2
    refine B5 (by simp) ⟨⟨hx,hy,he,?_⟩,?_⟩
    ·have:=mt (Dy.R0 (n:=Dy.val x+Dy.val y)).1 c
     omega
    ·rintro _ rfl _ rfl _ rfl _ rfl
     rfl
  ·have h:=A0 h
   unfold Dy.YB
   rw [hx,hy,Bool.and_self,if_pos rfl]
   intro n11 e11 _ _
   subst e11
   refine A8 (fun h1=> ?_) (fun h1=> ?_)
   ·have h1:=Dy.GQ.1 (A1 h1)
    rw [Dy.B5q h (by omega),Dy.S1,if_neg (by omega)]
    rintro _ rfl _ -
    rw [Dy.AO (Dy.KL (by omega) b2)]
    rintro _ rfl _ rfl _ rfl _ rfl
    rfl
   ·have h1:=mt Dy.GQ.2 (A0 h1)
    rw [Dy.UJ h (by omega),Dy.S1,if_neg (by omega)]
    rintro _ rfl _ -
    rw [Dy.AO (Dy.KL (by omega) b1)]
    rintro _ rfl _ rfl _ rfl _ rfl
    rfl
 ·cases h
theorem B4u:G6 Tryz.prog Inv (look D16):=A3 (A3 A1c A9c) B3n
theorem B3v (args:List AV) (s:Spec) (h:C79 args=some s) (hp:C6 s.pre True):Contract Tryz.prog Inv 149 args s.res:=by
 unfold C79 at h
 split at h
 ·cases h
  rename_i s m e s' m' e'
  obtain ⟨⟨hd,hd'⟩, -⟩:=hp
  refine A4 false B4u Tryz.func149 (by kernel_rfl) (by kernel_rfl) fun hok=> ?_
  have may1:=Dy.C1 hd
  have may2:=Dy.C1 hd'
  have b1:=Dy.O8 may1
  have b2:=Dy.O8 may2
  have x1:=Dy.J2 hd
  have x2:=Dy.J2 hd'
  have n1:=Dy.J4 may1
  have n2:=Dy.J4 may2
  have l1:Dy.F3 m=Dy.bl (Dy.val m):=by unfold Dy.F3;rw [if_pos may1]
  have l2:Dy.F3 m'=Dy.bl (Dy.val m'):=by unfold Dy.F3;rw [if_pos may2]
  rw [B70,l1,l2]
  refine A8 (fun h=> ?_) (fun h=>A8 (fun h1=> ?_) (fun h1=> ?_))
  ·have h:=G5.1 (P6.1 (A1 h))
   subst h
   rw [Dy.VK,Dy.RZ hd' hd,Dy.AM hd']
   refine ⟨by omega,?_⟩
   rintro _ rfl _ rfl _ rfl
   rfl
  ·have h1:=G5.1 (P6.1 (A1 h1))
   subst h1
   rw [Dy.RZ hd hd',Dy.AM hd]
   refine ⟨by omega,?_⟩
   rintro _ rfl _ rfl _ rfl
   rfl
  ·have h:=A0 h
   have h1:=A0 h1
   have m1:m≠[]:=fun e=>h (by rw [e];rfl)
   have m2:m'≠[]:=fun e=>h1 (by rw [e];rfl)
   have v1:=Dy.Q1 may1 m1
   have v2:=Dy.Q1 may2 m2
   have i1:Dy.inside e=true:=Dy.N5.2 x1
   have i2:Dy.inside e'=true:=Dy.N5.2 x2
   rw [wrap_i64 (n:=e'-e) (by omega) (by omega),wrap_i64 (n:=e-e') (by omega) (by omega),wrap_i64 (by omega) (by omega),wrap_i64 (by omega) (by omega)]
   refine A8 (fun h2=> ?_) (fun h2=> ?_)
   ·have h2:=A1 h2
    rw [Dy.VK]
    refine A8 (fun h3=> ?_) (fun h3=>A8 (fun h4=> ?_) (fun h4=> ?_))
    ·have h3:=A1 h3
     rw [Dy.B2j hd' hd m2 m1 (by omega)]
     rfl
    ·have h3:=A0 h3
     have h4:=A1 h4
     refine ⟨⟨hd',hd,m2,m1,rfl,by omega,by omega⟩,?_⟩
     rintro _ rfl _ rfl _ rfl _ rfl
     rfl
    ·have h4:=A0 h4
     obtain ⟨g,hg⟩:∃g:Nat,e'-e=g:=⟨(e'-e).toNat,by omega⟩
     rw [hg] at h4 ⊢
     rw [Dy.CK may2 g (by omega)]
     rintro _ rfl _-_ -
     have hb:=Dy.E7 v2 g
     have hp:=A9 g
     have hnn:Dy.dg (Dy.val m'*2^g)≠[]:=fun e=>(X0 v2 (by omega)) (Dy.T6.1 e)
     refine ⟨⟨Dy.T9.2 (Dy.R0.2 (by omega)),may1,hnn,m1,i1⟩,?_⟩
     rw [Dy.RY (by omega),hg,A2,Dy.GU,Dy.GU,Dy.E3]
     rintro _ rfl _ rfl _ rfl _ rfl
     rfl
   ·have h2:=A0 h2
    refine A8 (fun h3=> ?_) (fun h3=>A8 (fun h4=> ?_) (fun h4=> ?_))
    ·have h3:=A1 h3
     rw [Dy.B2j hd hd' m1 m2 (by omega)]
     rfl
    ·have h3:=A0 h3
     have h4:=A1 h4
     refine ⟨⟨hd,hd',m1,m2,rfl,by omega,by omega⟩,?_⟩
     rintro _ rfl _ rfl _ rfl _ rfl
     rfl
    ·have h4:=A0 h4
     obtain ⟨g,hg⟩:∃g:Nat,e-e'=g:=⟨(e-e').toNat,by omega⟩
     rw [hg] at h4 ⊢
     rw [Dy.CK may1 g (by omega)]
     rintro _ rfl _-_ -
     have hb:=Dy.E7 v1 g
     have hp:=A9 g
     have hnn:Dy.dg (Dy.val m*2^g)≠[]:=fun e=>(X0 v1 (by omega)) (Dy.T6.1 e)
     refine ⟨⟨Dy.T9.2 (Dy.R0.2 (by omega)),may2,hnn,m2,i2⟩,?_⟩
     rw [Dy.RY (by omega),hg,A2,Dy.GU,Dy.GU,Dy.E3]
     rintro _ rfl _ rfl _ rfl _ rfl
     rfl
 ·cases h
theorem A1d:G6 Tryz.prog Inv (look C4p):=A3 B4u B3v
theorem B3m (args:List AV) (s:Spec) (h:D4c args=some s) (hp:C6 s.pre True):Contract Tryz.prog Inv 77 args s.res:=by
 unfold D4c at h
 split at h
 ·cases h
  rename_i s m e s' m' e'
  refine A4 false A1d Tryz.func77 (by kernel_rfl) (by kernel_rfl) fun hok=> ?_
  rw [B6r]
  unfold Dy.O4
  refine A8 (fun h=> ?_) (fun h=> ?_)
  ·simp only [G0] at h
   rw [h];rfl
  ·simp only [F1] at h
   rw [h,if_pos rfl]
   refine ⟨P1.1 h,?_⟩
   rintro _ rfl _ rfl _ rfl _ rfl
   rfl
 ·cases h
theorem NQ {s:Bool} {m:List Nat} {e:Int} (h:Dy.A5 ⟨s,m,e⟩=true):Dy.A5 ⟨!s&&decide (m≠[]),m,e⟩=true:=by
 rw [Dy.S2] at h ⊢
 obtain ⟨h1,h2⟩:=h
 refine ⟨h1,?_⟩
 rcases h2 with ⟨h3,h4,h5⟩|h2
 ·exact .inl ⟨h3,by simp [h3],h5⟩
 ·exact .inr h2
theorem B3t (args:List AV) (s:Spec) (h:D4l args=some s) (hp:C6 s.pre True):Contract Tryz.prog Inv 78 args s.res:=by
 unfold D4l at h
 split at h
 ·cases h
  rename_i s m e s' m' e'
  refine A4 false A1d Tryz.func78 (by kernel_rfl) (by kernel_rfl) fun hok=> ?_
  rw [B6y]
  unfold Dy.O4
  refine A8 (fun h=> ?_) (fun h=> ?_)
  ·simp only [G0] at h
   rw [h];rfl
  ·simp only [F1] at h
   rw [h,if_pos rfl]
   obtain ⟨h1,h2⟩:=P1.1 h
   have:=Dy.J4 (Dy.C1 h2)
   refine ⟨by omega,?_⟩
   rintro _ rfl _ rfl _ rfl
   refine ⟨⟨h1,NQ h2⟩,?_⟩
   rintro _ rfl _ rfl _ rfl _ rfl
   rfl
 ·cases h
theorem HC:G6 Tryz.prog Inv (look XP):=A3 (A3 A1d B3t) B3m
end Go.AI

namespace Go.Dy
def DZ (a b:Dyd):Bool:=(a.neg==b.neg&&a.exp==b.exp)&&decide (a.mag=b.mag)
theorem PM {a b:Dyd}:DZ a b=true ↔ a=b:=by
 obtain ⟨s,m,e⟩:=a
 obtain ⟨s',m',e'⟩:=b
 simp [DZ,and_assoc]
 intro _
 constructor
 ·rintro ⟨h2,h3⟩;exact ⟨h3,h2⟩
 ·rintro ⟨h2,h3⟩;exact ⟨h3,h2⟩
end Go.Dy
namespace Go.AI
open Go Go.RowKit Go.Proofs
set_option linter.unusedVariables false
def C15:List AV→Option Spec
 |[.agg [.bool s,.dig [1] m,.num .i64 e],.agg [.bool s',.dig [2] m',.num .i64 e']]=>some ⟨none,.bool (Dy.DZ ⟨s,m,e⟩ ⟨s',m',e'⟩)⟩
 |_=>none
def D05:List AV→Option Spec
 |[.bool s,.dig [2] m,.num .i64 e]=>some ⟨some (Dy.dg (Dy.val m)=m∧m.length≤1048576∧ -1099511627776≤e∧e≤1099511627776),avD [0] (Dy.form s (Dy.val m) e)⟩
 |_=>none
def D0a:List AV→Option Spec
 |[.agg [.bool s,.dig [1] m,.num .i64 e]]=>some ⟨none,.num .i64 (Dy.F0 ⟨s,m,e⟩)⟩
 |_=>none
def D5f:List AV→Option Spec
 |[.agg [.bool s,.dig [1] m,.num .i64 e]]=>some ⟨some (Dy.dg (Dy.val m)=m∧m.length≤1048576∧ -1099511627776≤e∧e≤1099511627776),.num .i64 (Dy.C7 ⟨s,m,e⟩)⟩
 |_=>none
def D5e:List AV→Option Spec
 |[.agg [.bool s,.dig [1] m,.num .i64 e]]=>some ⟨none,.agg [.bool (if m=[] then s else !s),.dig [0,1] m,.num .i64 e]⟩
 |_=>none
def D57:List AV→Option Spec
 |[.agg [.bool s,.dig [1] m,.num .i64 e]]=>some ⟨none,.agg [.bool false,.dig [0,1] m,.num .i64 e]⟩
 |_=>none
def D17:List (Nat×(List AV→Option Spec)):=(107,C15)::(54,D05)::(36,D0a)::(110,D5f)::(163,D5e)::(38,D57)::
 XP
def B64:List (Nat×(List AV→Option Spec)):=(15,D4f)::D17
end Go.AI

namespace Go.AI
open Dy IntKind
open Go Go.RowKit Go.Proofs
set_option linter.unusedVariables false
set_option maxRecDepth 100000
set_option maxHeartbeats 0
theorem B1c (s:Bool) (s':Bool) (m:List Nat) (m':List Nat) (e:Int) (e':Int) (Q:AV→Prop):(evF Tryz.prog (look XP) (lam []) false Tryz.f107 [.agg [.bool s,.dig [1] m,.num .i64 e],.agg [.bool s',.dig [2] m',.num .i64 e']] Q)=(bif decide (s=s') then bif decide (e=e') then Q (.bool (decide (m=m'))) else Q (.bool false) else Q (.bool false)):=by kernel_rfl
theorem B1a (s:Bool) (m:List Nat) (e:Int) (Q:AV→Prop):(evF Tryz.prog (look XP) (lam []) false Tryz.f54 [.bool s,.dig [2] m,.num .i64 e] Q)=(bif decide ((↑m.length:Int)=0) then Q (.agg [.bool false,.dig [0] [],.num .i64 0]) else (dg (val m)=m∧m.length≤1048576)∧(dg (val m)=m∧(0:Int)≤(↑(tz (val m)):Int)∧m.length≤1048576)∧∀(l1:List Nat),l1=dg (val m/2^(↑(tz (val m)):Int).toNat)→∀b2,b2=decide (val m≠0∧(↑(tz (val m)):Int)<(↑(tz (val m)):Int))→Q (.agg [.bool s,.dig [0] l1,.num .i64 (i64.wrap (e+(↑(tz (val m)):Int)))])):=by kernel_rfl
theorem B1d (s:Bool) (m:List Nat) (e:Int) (Q:AV→Prop):(evF Tryz.prog (look XP) (lam []) false Tryz.f36 [.agg [.bool s,.dig [1] m,.num .i64 e]] Q)=(bif decide ((↑m.length:Int)=0) then Q (.num .i64 0) else bif s then Q (.num .i64 (-1)) else Q (.num .i64 1)):=by kernel_rfl
theorem B7i (s:Bool) (m:List Nat) (e:Int) (Q:AV→Prop):(evF Tryz.prog (look XP) (lam []) false Tryz.f110 [.agg [.bool s,.dig [1] m,.num .i64 e]] Q)=(bif decide ((↑m.length:Int)=0) then Q (.num .i64 0) else (dg (val m)=m∧m.length≤1048576)∧Q (.num .i64 (i64.wrap (e+(↑(bl (val m)):Int))))):=by kernel_rfl
theorem B7f (s:Bool) (m:List Nat) (e:Int) (Q:AV→Prop):(evF Tryz.prog (look XP) (lam []) true Tryz.f163 [.agg [.bool s,.dig [1] m,.num .i64 e]] Q)=(bif decide ((↑m.length:Int)>0) then Q (.agg [.bool !s,.dig [0,1] m,.num .i64 e]) else Q (.agg [.bool s,.dig [0,1] m,.num .i64 e])):=by kernel_rfl
theorem B7a (s:Bool) (m:List Nat) (e:Int) (Q:AV→Prop):(evF Tryz.prog (look XP) (lam []) true Tryz.f38 [.agg [.bool s,.dig [1] m,.num .i64 e]] Q)=(Q (.agg [.bool false,.dig [0,1] m,.num .i64 e])):=by kernel_rfl
theorem B7d (n:Int) (Q:AV→Prop):(evF Tryz.prog (look D17) (lam []) false Tryz.f15 [.num .i64 n] Q)=(bif decide (n<0) then (dg (val (dg (u64.wrap ((0:Int)-u64.wrap n)).toNat))=dg (u64.wrap ((0:Int)-u64.wrap n)).toNat∧(dg (u64.wrap ((0:Int)-u64.wrap n)).toNat).length≤1048576∧(-1099511627776:Int)≤0∧(0:Int)≤1099511627776)∧∀b1,b1=(form (decide (n<0)) (val (dg (u64.wrap ((0:Int)-u64.wrap n)).toNat)) (0:Int)).neg→∀(l2:List Nat),l2=(form (decide (n<0)) (val (dg (u64.wrap ((0:Int)-u64.wrap n)).toNat)) (0:Int)).mag→∀n3,n3=(form (decide (n<0)) (val (dg (u64.wrap ((0:Int)-u64.wrap n)).toNat)) (0:Int)).exp→Q (.agg [.bool b1,.dig [0] l2,.num .i64 n3]) else (dg (val (dg (u64.wrap n).toNat))=dg (u64.wrap n).toNat∧(dg (u64.wrap n).toNat).length≤1048576∧(-1099511627776:Int)≤0∧(0:Int)≤1099511627776)∧∀b4,b4=(form (decide (n<0)) (val (dg (u64.wrap n).toNat)) (0:Int)).neg→∀(l5:List Nat),l5=(form (decide (n<0)) (val (dg (u64.wrap n).toNat)) (0:Int)).mag→∀n6,n6=(form (decide (n<0)) (val (dg (u64.wrap n).toNat)) (0:Int)).exp→Q (.agg [.bool b4,.dig [0] l5,.num .i64 n6])):=by kernel_rfl
end Go.AI

namespace Go.AI
open Go Go.RowKit Go.Proofs
set_option linter.unusedVariables false
set_option maxRecDepth 100000
theorem A9n (args:List AV) (s:Spec) (h:C15 args=some s) (hp:C6 s.pre True):Contract Tryz.prog Inv 107 args s.res:=by
 unfold C15 at h
 split at h
 ·cases h
  refine A4 false HC Tryz.func107 (by kernel_rfl) (by kernel_rfl) fun hok=> ?_
  rw [B1c]
  unfold Dy.DZ
  refine A8 (fun h=>A8 (fun h1=> ?_) (fun h1=> ?_)) (fun h=> ?_)
  ·simp only [A1 h,A1 h1,BEq.rfl,AT]
  ·have h1:=A0 h1
   simp [h1]
  ·have h:=A0 h
   simp [h]
 ·cases h
theorem A9l (args:List AV) (s:Spec) (h:D05 args=some s) (hp:C6 s.pre True):Contract Tryz.prog Inv 54 args s.res:=by
 unfold D05 at h
 split at h
 ·cases h
  rename_i s m e
  obtain ⟨⟨hc,hl,he1,he2⟩, -⟩:=hp
  refine A4 false HC Tryz.func54 (by kernel_rfl) (by kernel_rfl) fun hok=> ?_
  obtain ⟨hm, -⟩:=E4 (PK hok)
  rw [B1a]
  refine A8 (fun h=> ?_) (fun h=> ?_)
  ·have h:=G5.1 (P6.1 (A1 h))
   subst h
   rfl
  ·have h:=A0 h
   have h1':m≠[]:=fun e=>h (by rw [e];rfl)
   have hv:Dy.val m≠0:=fun e=>h1' (by rw [←hc,e,Dy.O0])
   have ht:=Dy.Z2 hv
   have hb:=Dy.I8.2 (Dy.I0 hm.2)
   refine ⟨⟨hc,hl⟩,⟨hc,by omega,hl⟩,?_⟩
   rw [A2,wrap_i64 (by omega) (by omega),Dy.H6 hv]
   rintro _ rfl _ -
   rfl
 ·cases h
theorem A9o (args:List AV) (s:Spec) (h:D0a args=some s) (hp:C6 s.pre True):Contract Tryz.prog Inv 36 args s.res:=by
 unfold D0a at h
 split at h
 ·cases h
  rename_i s m e
  refine A4 false HC Tryz.func36 (by kernel_rfl) (by kernel_rfl) fun hok=> ?_
  rw [B1d]
  unfold Dy.F0
  refine A8 (fun h1=> ?_) (fun h1=> ?_)
  ·have h1:=G5.1 (P6.1 (A1 h1))
   subst h1
   rfl
  ·have h1:=A0 h1
   have h1':m≠[]:=fun e=>h1 (by rw [e];rfl)
   simp only [if_neg h1']
   cases s<;>rfl
 ·cases h
theorem B4d (args:List AV) (s:Spec) (h:D5f args=some s) (hp:C6 s.pre True):Contract Tryz.prog Inv 110 args s.res:=by
 unfold D5f at h
 split at h
 ·cases h
  rename_i s m e
  obtain ⟨⟨hc,hl,he1,he2⟩, -⟩:=hp
  refine A4 false HC Tryz.func110 (by kernel_rfl) (by kernel_rfl) fun hok=> ?_
  obtain ⟨hm, -⟩:=A6o hok
  have hb:=Dy.I8.2 (Dy.I0 hm.2)
  rw [B7i]
  unfold Dy.C7
  refine A8 (fun h1=> ?_) (fun h1=> ?_)
  ·have h1:=G5.1 (P6.1 (A1 h1))
   subst h1
   rfl
  ·have h1:=A0 h1
   have h1':m≠[]:=fun e=>h1 (by rw [e];rfl)
   simp only [if_neg h1']
   rw [wrap_i64 (by omega) (by omega)]
   exact ⟨⟨hc,hl⟩,rfl⟩
 ·cases h
theorem B4a (args:List AV) (s:Spec) (h:D5e args=some s) (hp:C6 s.pre True):Contract Tryz.prog Inv 163 args s.res:=by
 unfold D5e at h
 split at h
 ·cases h
  rename_i s m e
  refine A4 true HC Tryz.func163 (by kernel_rfl) (by kernel_rfl) fun hok=> ?_
  rw [B7f]
  refine A8 (fun h=> ?_) (fun h=> ?_)
  ·have h:=A1 h
   have h1':m≠[]:=fun e=>by rw [e] at h;simp at h
   simp only [if_neg h1']
  ·have h:=A0 h
   have h1':m=[]:=G5.1 (by omega)
   simp only [if_pos h1']
 ·cases h
theorem B44 (args:List AV) (s:Spec) (h:D57 args=some s) (hp:C6 s.pre True):Contract Tryz.prog Inv 38 args s.res:=by
 unfold D57 at h
 split at h
 ·cases h
  refine A4 true HC Tryz.func38 (by kernel_rfl) (by kernel_rfl) fun hok=> ?_
  rw [B7a]
 ·cases h
theorem B4v:G6 Tryz.prog Inv (look D17):=
 A3 (A3 (A3 (A3 (A3 (A3 (HC) B44) B4a) B4d) A9o) A9l) A9n
theorem B48 (args:List AV) (s:Spec) (h:D4f args=some s) (hp:C6 s.pre True):Contract Tryz.prog Inv 15 args s.res:=by
 unfold D4f at h
 split at h
 ·cases h
  rename_i n
  refine A4 false B4v Tryz.func15 (by kernel_rfl) (by kernel_rfl) fun hok=> ?_
  have hn:=range_i64 (J5 hok).1
  rw [B7d,wrap_u64,wrap_u64]
  unfold Dy.D68 Dy.C8
  have hlen:(Dy.dg n.natAbs).length≤1048576:=Dy.J3.2 (by have:=(Dy.I8 (n:=n.natAbs) (k:=64)).2 (by omega);omega)
  refine A8 (fun h=> ?_) (fun h=> ?_)
  ·have h:=A1 h
   rw [show ((0-n%18446744073709551616)%18446744073709551616).toNat=n.natAbs by omega,Dy.E3]
   refine ⟨⟨rfl,hlen,by omega,by omega⟩,?_⟩
   rintro _ rfl _ rfl _ rfl
   rfl
  ·have h:=A0 h
   rw [show (n%18446744073709551616).toNat=n.natAbs by omega,Dy.E3]
   refine ⟨⟨rfl,hlen,by omega,by omega⟩,?_⟩
   rintro _ rfl _ rfl _ rfl
   rfl
 ·cases h
theorem TO:G6 Tryz.prog Inv (look B64):=A3 (B4v) B48
end Go.AI

namespace Go.Dy
set_option maxRecDepth 100000
set_option linter.unusedVariables false
theorem BK {d:Dyd} {u:Int} (h:A5 d=true) (hu:u≤d.exp):C8 (at_ d u) u=d:=by
 obtain ⟨s,m,e⟩:=d
 unfold at_
 simp only at hu ⊢
 rw [s6,show u+((e-u).toNat:Int)=e by omega]
 exact RC h
theorem D2g (u:Int):at_ L7 u=0:=by unfold at_ Dyd.int L7;simp [val]
theorem KK {s:Bool} {n:Nat} {e u:Int} (hu:u≤e):at_ (form s n e) u=sgn s (n*2^(e-u).toNat):=by
 by_cases c:n=0
 ·subst c
  rw [Y2,D2g,R2,KA]
 ·rw [H6 c,j6,E3,show (e+(tz n:Int)-u).toNat=tz n+(e-u).toNat by omega,B8,←B9,Nat.div_mul_cancel (HN n)]
theorem SE {z e u:Int} (hu:u≤e):at_ (C8 z e) u=z*2^(e-u).toNat:=by
 unfold C8
 rw [KK hu,←UI,←LN,show (((2^(e-u).toNat:Nat):Int))=(2:Int)^(e-u).toNat by simp]
theorem q9 (z u:Int):at_ (C8 z u) u=z:=by
 rw [SE (u9 _),show (u-u).toNat=0 by omega,Int.pow_zero,Int.mul_one]
theorem ND (d:Dyd) {u v:Int} (hv:v≤u) (hu:u≤d.exp):at_ d v=at_ d u*2^(u-v).toNat:=by
 unfold at_
 rw [AU,←MP,show (d.exp-v).toNat=(d.exp-u).toNat+(u-v).toNat by omega]
theorem x5 {a b:Dyd} {u:Int} (ha:u≤a.exp) (hb:u≤b.exp):C2 a b=C8 (at_ a u+at_ b u) u:=by
 unfold C2
 have h1:u≤unit a b:=by unfold unit;omega
 have h2:unit a b≤a.exp:=by unfold unit;omega
 have h3:unit a b≤b.exp:=by unfold unit;omega
 rw [ND a h1 h2,ND b h1 h3,←BG,s6,show u+((unit a b-u).toNat:Int)=unit a b by omega]
theorem SD {a b:Dyd} {u:Int} (ha:u≤a.exp) (hb:u≤b.exp):at_ (C2 a b) u=at_ a u+at_ b u:=by rw [x5 ha hb,q9]
theorem OP {a b:Dyd} {u v:Int} (ha:u≤a.exp) (hb:v≤b.exp):at_ (E6 a b) (u+v)=at_ a u*at_ b v:=by
 obtain ⟨s,m,e⟩:=a
 obtain ⟨s',m',e'⟩:=b
 unfold E6
 simp only at ha hb ⊢
 rw [KK (by omega),j6,j6,show (e+e'-(u+v)).toNat=(e-u).toNat+(e'-v).toNat by omega,B8]
 have hn:val m*val m'*(2^(e-u).toNat*2^(e'-v).toNat)=(val m*2^(e-u).toNat)*(val m'*2^(e'-v).toNat):=by
  rw [Nat.mul_mul_mul_comm]
 rw [hn]
 generalize val m*2^(e-u).toNat=A
 generalize val m'*2^(e'-v).toNat=B
 unfold sgn
 cases s<;>cases s'<;>simp [AH,Int.mul_neg]
theorem FX {b:Dyd} (u:Int):at_ (G9 b) u= -at_ b u:=by
 obtain ⟨s,m,e⟩:=b
 unfold G9
 simp only
 rw [j6,j6]
 by_cases c:m=[]
 ·subst c
  simp [val,sgn]
 ·unfold sgn
  cases s<;>simp [c]
structure Fit (d:Dyd) (L E:Nat):Prop where
 may:A5 d=true
 bits:bl (val d.mag)≤L
 lo: -(E:Int)≤d.exp
 hi:d.exp≤E
theorem Fit.mono {d:Dyd} {L E L' E':Nat} (h:Fit d L E) (hl:L≤L') (he:E≤E'):Fit d L' E':=⟨h.may,D9 h.bits hl,by have:=h.lo;omega,by have:=h.hi;omega⟩
theorem U4 {s:Bool} {n:Nat} {e:Int} {L E:Nat} (hb:bl n≤L) (h1: -(E:Int)≤e) (h2:e+bl n≤E) (hL:L≤131072) (hE:E≤16777216):Fit (form s n e) L E∧I2 (form s n e)=(form s n e,0):=by
 have hf:Fit (form s n e) L E:=by
  by_cases c:n=0
  ·subst c
   rw [Y2]
   exact ⟨A6h,by unfold L7;simp only [val,K2];omega,by unfold L7;simp only;omega,by unfold L7;simp only;omega⟩
  ·have ht:=Z2 c
   have hbl:bl (n/2^tz n)≤L:=by rw [C5];omega
   rw [H6 c]
   refine ⟨?_,by rw [E3];exact hbl,by simp only;omega,by simp only;omega⟩
   rw [S2]
   refine ⟨T9.2 (R0.2 (by omega)),.inr ⟨fun e=> ?_,by rw [E3];exact T0 c,N5.2 (by omega)⟩⟩
   have:=T6.1 e
   have h0:=T0 c
   omega
 exact ⟨hf,AM hf.may⟩
theorem R9 {z e:Int} {L E:Nat} (hb:bl z.natAbs≤L) (h1: -(E:Int)≤e) (h2:e+bl z.natAbs≤E) (hL:L≤131072) (hE:E≤16777216):Fit (C8 z e) L E∧I2 (C8 z e)=(C8 z e,0):=U4 hb h1 h2 hL hE
theorem HA (s:Bool) (n:Nat):(sgn s n).natAbs=n:=by unfold sgn;cases s<;>simp
theorem C3q {d:Dyd} {L E:Nat} (h:Fit d L E) {u:Int} (hu:u≤d.exp):bl (at_ d u).natAbs≤L+(d.exp-u).toNat:=by
 obtain ⟨s,m,e⟩:=d
 have h1:=h.bits
 simp only at h1 hu ⊢
 rw [j6,HA]
 by_cases c:val m=0
 ·rw [c,R2,K2];omega
 ·rw [E7 c];omega
theorem D49 {x y:Int} {k:Nat} (hx:bl x.natAbs≤k) (hy:bl y.natAbs≤k):bl (x+y).natAbs≤k+1:=by
 have h1:=I8.1 hx
 have h2:=I8.1 hy
 refine I8.2 ?_
 rw [I5]
 omega
theorem KV {a b:Dyd} {L E:Nat} (ha:Fit a L E) (hb:Fit b L E) (hL:L+2*E+1≤131072) (hE:L+3*E+1≤16777216):
  Fit (C2 a b) (L+2*E+1) (L+3*E+1)∧I2 (C2 a b)=(C2 a b,0):=by
 unfold C2
 have a1:=ha.lo
 have a2:=ha.hi
 have b1:=hb.lo
 have b2:=hb.hi
 have u1:unit a b≤a.exp:=by unfold unit;omega
 have u2:unit a b≤b.exp:=by unfold unit;omega
 have u3: -(E:Int)≤unit a b:=by unfold unit;omega
 have k1:=C3q ha u1
 have k2:=C3q hb u2
 have k3:=D49 (x:=at_ a (unit a b)) (y:=at_ b (unit a b)) (k:=L+2*E) (by omega) (by omega)
 exact R9 k3 (by omega) (by omega) hL hE
theorem YY {b:Dyd} {L E:Nat} (h:Fit b L E):Fit (G9 b) L E:=by
 obtain ⟨s,m,e⟩:=b
 exact ⟨AI.NQ h.may,h.bits,h.lo,h.hi⟩
theorem KW {a b:Dyd} {L E:Nat} (ha:Fit a L E) (hb:Fit b L E) (hL:2*L≤131072) (hE:2*E+2*L≤16777216):
  Fit (E6 a b) (2*L) (2*E+2*L)∧I2 (E6 a b)=(E6 a b,0):=by
 unfold E6
 have a1:=ha.lo
 have a2:=ha.hi
 have b1:=hb.lo
 have b2:=hb.hi
 have k:bl (val a.mag*val b.mag)≤2*L:=by
  refine I8.2 ?_
  rw [show 2*L=L+L by omega,B8]
  exact EB (I8.1 ha.bits) (I8.1 hb.bits)
 exact U4 k (by omega) (by omega) hL hE
theorem B26 {a b:Dyd} {L E:Nat} (ha:Fit a L E) (hb:Fit b L E) (hL:L+2*E+1≤131072) (hE:L+3*E+1≤16777216):O4 (A5 a&&A5 b) (C2 a b)=(C2 a b,0):=by
 unfold O4
 rw [ha.may,hb.may,(KV ha hb hL hE).2]
 rfl
theorem B27 {a b:Dyd} {L E:Nat} (ha:Fit a L E) (hb:Fit b L E) (hL:L+2*E+1≤131072) (hE:L+3*E+1≤16777216):O4 (A5 a&&A5 b) (C2 a (G9 b))=(C2 a (G9 b),0):=by
 unfold O4
 rw [ha.may,hb.may,(KV ha (YY hb) hL hE).2]
 rfl
section
variable {a b c:Dyd} (ha:Fit a 3200 3000) (hb:Fit b 3200 3000) (hc:Fit c 3200 3000)
include ha hb hc
end
theorem C75 (a b:Int) (k:Nat):U2 (a*2^k) (b*2^k)=U2 a b:=by
 have hp:(0:Int)<2^k:=MQ (by decide)
 unfold U2
 by_cases h1:a<b
 ·rw [if_pos h1,if_pos (FV h1 hp)]
 ·by_cases h2:b<a
  ·have:=FV h2 hp
   rw [if_neg h1,if_pos h2,if_neg (by omega),if_pos this]
  ·have:a=b:=by omega
   subst this
   simp
theorem A7p {a b:Dyd} {u:Int} (ha:u≤a.exp) (hb:u≤b.exp):Y1 a b=U2 (at_ a u) (at_ b u):=by
 unfold Y1
 have h1:u≤unit a b:=by unfold unit;omega
 have h2:unit a b≤a.exp:=by unfold unit;omega
 have h3:unit a b≤b.exp:=by unfold unit;omega
 rw [ND a h1 h2,ND b h1 h3,C75]
theorem B5v {d:Dyd} {u:Int} (hd:A5 d=true) (hu:u≤d.exp):F0 d=U2 (at_ d u) 0:=by
 obtain ⟨s,m,e⟩:=d
 rw [j6]
 unfold F0
 simp only
 by_cases c:m=[]
 ·subst c
  simp [val,sgn,U2]
 ·have hv:=Q1 (C1 hd) c
  have hp:=A9 (e-u).toNat
  have:0<val m*2^(e-u).toNat:=U9 (by omega) hp
  generalize val m*2^(e-u).toNat=A at*
  simp only [if_neg c]
  unfold sgn
  cases s
  ·simp only [J7,if_false]
   exact (IB (by omega)).symm
  ·simp only [if_true]
   exact (IC (by omega)).symm
end Go.Dy

namespace Go.Dy
def T8 (d:Dyd):Dyd:=if 0≤d.exp then d else C8 (d.int/2^(-d.exp).toNat) 0
def EG (d:Dyd) (n:Int):Dyd×Int:=
 if A5 d then (if d.mag=[] then (L7,0) else if inside (d.exp+n) then (⟨d.neg,d.mag,d.exp+n⟩,0) else (L7,20)) else (L7,2)
def NC (b:Int):Int:=if b<1 then 2 else if 8192<b then 3 else 0
def HF (d:Dyd) (b:Int):Int:=(bl (val d.mag):Int)-b
def headD (d:Dyd) (b:Int):Dyd:=form d.neg (val d.mag/2^(HF d b).toNat) (d.exp+HF d b)
structure Cutd where
 num:Dyd
 lost:Bool
 err:Int
def A01 (d:Dyd) (b:Int):Cutd:=if HF d b≤0 then ⟨d,false,0⟩ else ⟨(I2 (headD d b)).1,decide ((I2 (headD d b)).2=0),(I2 (headD d b)).2⟩
def QZ (d:Dyd) (b:Int):Cutd:=if A5 d then (if NC b=0 then A01 d b else ⟨L7,false,NC b⟩) else ⟨L7,false,2⟩
end Go.Dy
namespace Go.AI
open Go Go.RowKit Go.Proofs
set_option linter.unusedVariables false
def B8p:List AV→Option Spec
 |[.agg [.bool s,.dig [1] m,.num .i64 e],.num .i64 n]=>some ⟨none,.tup [avD [0] (Dy.EG ⟨s,m,e⟩ n).1,.num .i64 (Dy.EG ⟨s,m,e⟩ n).2]⟩
 |_=>none
def B8o:List AV→Option Spec
 |[.num .i64 b]=>some ⟨none,.num .i64 (Dy.NC b)⟩
 |_=>none
def C7b:List AV→Option Spec
 |[.agg [.bool s,.dig [1] m,.num .i64 e],.num .i64 b]=>some ⟨some (Dy.A5 ⟨s,m,e⟩=true∧1≤b),
   .tup [avD [0] (Dy.A01 ⟨s,m,e⟩ b).num,.bool (Dy.A01 ⟨s,m,e⟩ b).lost,.num .i64 (Dy.A01 ⟨s,m,e⟩ b).err]⟩
 |_=>none
def D4e:List AV→Option Spec
 |[.agg [.bool s,.dig [1] m,.num .i64 e],.num .i64 b]=>some ⟨none,
   .tup [avD [0] (Dy.QZ ⟨s,m,e⟩ b).num,.bool (Dy.QZ ⟨s,m,e⟩ b).lost,.num .i64 (Dy.QZ ⟨s,m,e⟩ b).err]⟩
 |_=>none
def D18:List (Nat×(List AV→Option Spec)):=(79,B8p)::(143,B8o)::(212,C7b)::B64
def KB:List (Nat×(List AV→Option Spec)):=(192,D4e)::D18
end Go.AI

namespace Go.AI
open Dy Dyd IntKind
open Go Go.RowKit Go.Proofs
set_option linter.unusedVariables false
set_option maxRecDepth 100000
set_option maxHeartbeats 0
theorem A54 (s:Bool) (m:List Nat) (e:Int) (n:Int) (Q:AV→Prop):(evF Tryz.prog (look B64) (lam []) false Tryz.f79 [.agg [.bool s,.dig [1] m,.num .i64 e],.num .i64 n] Q)=(bif !A5 (mk s m e) then Q (.tup [.agg [.bool false,.dig [0] [],.num .i64 0],.num .i64 2]) else bif decide ((↑m.length:Int)=0) then Q (.tup [.agg [.bool false,.dig [0] [],.num .i64 0],.num .i64 0]) else bif decide (n>i64.wrap ((16777216:Int)-e)) then Q (.tup [.agg [.bool false,.dig [0] [],.num .i64 0],.num .i64 20]) else bif decide (n<i64.wrap ((-16777216:Int)-e)) then Q (.tup [.agg [.bool false,.dig [0] [],.num .i64 0],.num .i64 20]) else m.length≤1048576∧∀b1,b1=s→∀(l2:List Nat),l2=m→∀n3,n3=e→Q (.tup [.agg [.bool b1,.dig [0] l2,.num .i64 (i64.wrap (n3+n))],.num .i64 0])):=by kernel_rfl
theorem A55 (b:Int) (Q:AV→Prop):(evF Tryz.prog (look B64) (lam []) false Tryz.f143 [.num .i64 b] Q)=(bif decide (b<1) then Q (.num .i64 2) else bif decide (b>8192) then Q (.num .i64 3) else Q (.num .i64 0)):=by kernel_rfl
theorem B71 (s:Bool) (m:List Nat) (e:Int) (b:Int) (Q:AV→Prop):(evF Tryz.prog (look B64) (lam []) false Tryz.f212 [.agg [.bool s,.dig [1] m,.num .i64 e],.num .i64 b] Q)=(bif decide (i64.wrap ((↑(F3 m):Int)-b)≤0) then m.length≤1048576∧∀b1,b1=s→∀(l2:List Nat),l2=m→∀n3,n3=e→Q (.tup [.agg [.bool b1,.dig [0] l2,.num .i64 n3],.bool false,.num .i64 0]) else∀(l4:List Nat),l4=(H3 m (i64.wrap ((0:Int)-i64.wrap ((↑(F3 m):Int)-b)))).mag→∀b5,b5=(H3 m (i64.wrap ((0:Int)-i64.wrap ((↑(F3 m):Int)-b)))).lost→∀n6,n6=(H3 m (i64.wrap ((0:Int)-i64.wrap ((↑(F3 m):Int)-b)))).err→∀b7,b7=(N7 s l4 (i64.wrap (e+i64.wrap ((↑(F3 m):Int)-b)))).1.neg→∀(l8:List Nat),l8=(N7 s l4 (i64.wrap (e+i64.wrap ((↑(F3 m):Int)-b)))).1.mag→∀n9,n9=(N7 s l4 (i64.wrap (e+i64.wrap ((↑(F3 m):Int)-b)))).1.exp→∀n10,n10=(N7 s l4 (i64.wrap (e+i64.wrap ((↑(F3 m):Int)-b)))).snd→Q (.tup [.agg [.bool b7,.dig [0] l8,.num .i64 n9],.bool (n10==(0:Int)),.num .i64 n10])):=by kernel_rfl
theorem B6t (s:Bool) (m:List Nat) (e:Int) (b:Int) (Q:AV→Prop):(evF Tryz.prog (look D18) (lam []) false Tryz.f192 [.agg [.bool s,.dig [1] m,.num .i64 e],.num .i64 b] Q)=(bif !A5 (mk s m e) then Q (.tup [.agg [.bool false,.dig [0] [],.num .i64 0],.bool false,.num .i64 2]) else bif !decide (NC b=0) then Q (.tup [.agg [.bool false,.dig [0] [],.num .i64 0],.bool false,.num .i64 (NC b)]) else (A5 (mk s m e)=true∧1≤b)∧∀b1,b1=(A01 (mk s m e) b).num.neg→∀(l2:List Nat),l2=(A01 (mk s m e) b).num.mag→∀n3,n3=(A01 (mk s m e) b).num.exp→∀b4,b4=(A01 (mk s m e) b).lost→∀n5,n5=(A01 (mk s m e) b).err→Q (.tup [.agg [.bool b1,.dig [0] l2,.num .i64 n3],.bool b4,.num .i64 n5])):=by kernel_rfl
end Go.AI

namespace Go.Dy
set_option maxRecDepth 100000
theorem YV {x P z:Int} (hP:0<P) (h1:z*P≤x) (h2:x<(z+1)*P):x/P=z:=by
 have a1:=(KF (a:=z) (b:=x) hP).2 h1
 have a2:=(Int.ediv_lt_iff_lt_mul (a:=x) (b:=z+1) hP).2 h2
 omega
theorem VV (s:Bool) (M k:Nat):sgn s M/2^k=sgn s (if s&&decide (M%2^k≠0) then M/2^k+1 else M/2^k):=by
 have hp:=A9 k
 rw [show ((2:Int)^k)=((2^k:Nat):Int) by simp]
 have hM:=Nat.div_add_mod M (2^k)
 have hr:=R5 M hp
 generalize 2^k=P at*
 unfold sgn
 cases s
 ·simp
 ·simp only [if_true,AT]
  by_cases c:M%P=0
  ·simp only [c,ne_eq,not_true,decide_false,J7,if_false]
   refine YV (by omega) ?_ ?_
   ·rw [c,I4] at hM
    rw [AH,←L5,B6]
    omega
   ·rw [c,I4] at hM
    rw [BG,AH,←L5,B6]
    omega
  ·simp only [ne_eq,c,not_false_eq_true,decide_true,if_true]
   refine YV (by omega) ?_ ?_
   ·rw [AH,←L5,H2,Q2,B6]
    omega
   ·rw [BG,AH,←L5,H2,Q2,B6]
    omega
theorem B34 {M k:Nat} (h:M≠0):decide ((tz M:Int)<(k:Int))=decide (M%2^k≠0):=by
 rw [decide_eq_decide]
 have:=EN h k
 constructor
 ·intro h1 h2;have:=this.1 h2;omega
 ·intro h1
  by_cases c:k≤tz M
  ·exact absurd (this.2 c) h1
  ·omega
theorem B5u {a:List Nat} (h:may a=true) (n:Nat) (h0:val a≠0) (hn:0<n):(H3 a (-(n:Int))).lost=decide (val a%2^n≠0):=by
 unfold H3
 rw [if_pos h,if_neg h0,if_pos (by omega)]
 simp only [Int.neg_neg]
 exact B34 h0
theorem KN {n k:Nat} (h:bl n≤k):bl (n+1)≤k+1:=by
 have:=I8.1 h
 exact I8.2 (by rw [I5];omega)
end Go.Dy
namespace Go.AI
open Go Go.RowKit Go.Proofs
set_option linter.unusedVariables false
set_option maxRecDepth 100000
theorem A3z (args:List AV) (s:Spec) (h:B8p args=some s) (hp:C6 s.pre True):Contract Tryz.prog Inv 79 args s.res:=by
 unfold B8p at h
 split at h
 ·cases h
  rename_i s m e n
  refine A4 false TO Tryz.func79 (by kernel_rfl) (by kernel_rfl) fun hok=> ?_
  obtain ⟨-, -,h5⟩:=A6o hok
  have hn:=range_i64 (J5 h5).1
  rw [A54]
  unfold Dy.EG
  refine A8 (fun h=> ?_) (fun h=> ?_)
  ·simp only [G0] at h
   simp only [h,J7,if_false]
   rfl
  ·simp only [F1] at h
   have hl:=Dy.J4 (Dy.C1 h)
   have hx:=Dy.J2 h
   simp only [h,if_true]
   rw [wrap_i64 (n:=16777216-e) (by omega) (by omega),wrap_i64 (n:= -16777216-e) (by omega) (by omega)]
   have far:¬(-16777216≤e+n∧e+n≤16777216)→(if Dy.inside (e+n)=true then ((⟨s,m,e+n⟩:Dy.Dyd),(0:Int)) else (Dy.L7,20))=(Dy.L7,20):=fun hf=>by rw [if_neg (fun h=>hf (Dy.N5.1 h))]
   refine A8 (fun h1=> ?_) (fun h1=> ?_)
   ·have h1:=G5.1 (P6.1 (A1 h1))
    subst h1
    rfl
   ·have h1:=A0 h1
    have h1':m≠[]:=fun e=>h1 (by rw [e];rfl)
    simp only [if_neg h1']
    refine A8 (fun h2=> ?_) (fun h2=>A8 (fun h3=> ?_) (fun h3=> ?_))
    ·have h2:=A1 h2
     rw [far (by omega)]
     rfl
    ·have h3:=A1 h3
     rw [far (by omega)]
     rfl
    ·have h2:=A0 h2
     have h3:=A0 h3
     rw [if_pos (Dy.N5.2 (by omega))]
     refine ⟨by omega,?_⟩
     rintro _ rfl _ rfl _ rfl
     rw [wrap_i64 (by omega) (by omega)]
     rfl
 ·cases h
theorem A40 (args:List AV) (s:Spec) (h:B8o args=some s) (hp:C6 s.pre True):Contract Tryz.prog Inv 143 args s.res:=by
 unfold B8o at h
 split at h
 ·cases h
  rename_i b
  refine A4 false TO Tryz.func143 (by kernel_rfl) (by kernel_rfl) fun hok=> ?_
  rw [A55]
  unfold Dy.NC
  refine A8 (fun h=> ?_) (fun h=>A8 (fun h1=> ?_) (fun h1=> ?_))
  ·rw [if_pos (A1 h)]
  ·rw [if_neg (A0 h),if_pos (A1 h1)]
  ·rw [if_neg (A0 h),if_neg (A0 h1)]
 ·cases h
theorem B3w (args:List AV) (s:Spec) (h:C7b args=some s) (hp:C6 s.pre True):Contract Tryz.prog Inv 212 args s.res:=by
 unfold C7b at h
 split at h
 ·cases h
  rename_i s m e b
  have h:=hp.1.1
  have hb1:=hp.1.2
  refine A4 false TO Tryz.func212 (by kernel_rfl) (by kernel_rfl) fun hok=> ?_
  have h5:=(A6o hok).2.2
  have hn:=range_i64 (J5 h5).1
  have hm:=Dy.C1 h
  have hl:=Dy.J4 hm
  have hx:=Dy.J2 h
  have hb:=Dy.O8 hm
  have l1:Dy.F3 m=Dy.bl (Dy.val m):=by unfold Dy.F3;rw [if_pos hm]
  rw [B71,l1]
  unfold Dy.A01 Dy.headD Dy.HF
  simp only
  rw [wrap_i64 (n:=(Dy.bl (Dy.val m):Int)-b) (by omega) (by omega)]
  refine A8 (fun h1=> ?_) (fun h1=> ?_)
  ·have h1:=A1 h1
   rw [if_pos h1]
   refine ⟨by omega,?_⟩
   rintro _ rfl _ rfl _ rfl
   rfl
  ·have h1:=A0 h1
   rw [if_neg h1]
   obtain ⟨n,hn'⟩:∃n:Nat,(Dy.bl (Dy.val m):Int)-b=n:=⟨((Dy.bl (Dy.val m):Int)-b).toNat,by omega⟩
   rw [hn',wrap_i64 (n:=(0:Int)-n) (by omega) (by omega),wrap_i64 (by omega) (by omega),show (0:Int)-(n:Int)= -(n:Int) by omega,Dy.o4 hm,A2]
   rintro _ rfl _-_ -
   rw [Dy.AO (by rw [Dy.C5];omega)]
   rintro _ rfl _ rfl _ rfl _ rfl
   rfl
 ·cases h
theorem B4w:G6 Tryz.prog Inv (look D18):=A3 (A3 (A3 TO B3w) A40) A3z
theorem B3o (args:List AV) (s:Spec) (h:D4e args=some s) (hp:C6 s.pre True):Contract Tryz.prog Inv 192 args s.res:=by
 unfold D4e at h
 split at h
 ·cases h
  rename_i s m e b
  refine A4 false B4w Tryz.func192 (by kernel_rfl) (by kernel_rfl) fun hok=> ?_
  rw [B6t]
  unfold Dy.QZ
  refine A8 (fun h=> ?_) (fun h=> ?_)
  ·simp only [G0] at h
   simp only [h,J7,if_false]
   rfl
  ·simp only [F1] at h
   simp only [h,if_true]
   refine A8 (fun h1=> ?_) (fun h1=> ?_)
   ·simp only [G0,decide_eq_false_iff_not] at h1
    rw [if_neg h1]
    rfl
   ·simp only [F1,decide_eq_true_eq] at h1
    rw [if_pos h1]
    have hb1:1≤b:=by
     unfold Dy.NC at h1
     split at h1
     ·omega
     ·omega
    refine ⟨⟨trivial,hb1⟩,?_⟩
    rintro _ rfl _ rfl _ rfl _ rfl _ rfl
    rfl
 ·cases h
theorem HD:G6 Tryz.prog Inv (look KB):=A3 B4w B3o
end Go.AI

namespace Go.AI
open Dy IntKind
open Go Go.RowKit Go.Proofs
set_option linter.unusedVariables false
set_option maxRecDepth 100000
set_option maxHeartbeats 0
end Go.AI

namespace Go.AI
open Go Go.RowKit Go.Proofs
set_option linter.unusedVariables false
set_option maxRecDepth 100000
theorem t1 {p q:Prop} (h:p):bif decide ((0:Int)=0) then p else q:=h
theorem JQ (a b:Int):(a<b∧Dy.U2 a b= -1)∨(a=b∧Dy.U2 a b=0)∨(b<a∧Dy.U2 a b=1):=by
 unfold Dy.U2
 by_cases h1:a<b
 ·exact .inl ⟨h1,if_pos h1⟩
 ·by_cases h2:b<a
  ·exact .inr (.inr ⟨h2,by rw [if_neg h1,if_pos h2]⟩)
  ·exact .inr (.inl ⟨by omega,by rw [if_neg h1,if_neg h2]⟩)
theorem C5a (X Y Z:Int):(Dy.U2 X Y≤0→Dy.U2 Y Z≤0→Dy.U2 X Z≤0)∧(Dy.U2 X Y<0→Dy.U2 Y Z≤0→Dy.U2 X Z<0)∧Dy.U2 Y X= -Dy.U2 X Y∧(Dy.U2 X Y=0 ↔ X=Y)∧Dy.U2 (X+ -Y) 0=Dy.U2 X Y:=by
 have h1:=JQ X Y
 have h2:=JQ Y Z
 have h3:=JQ X Z
 have h4:=JQ Y X
 have h5:=JQ (X+ -Y) 0
 omega
end Go.AI

namespace Go.Dy
set_option maxRecDepth 100000
theorem C7t (s:Bool) (n:Nat) {e:Int} (h:0≤e):0≤(form s n e).exp:=by
 by_cases c:n=0
 ·subst c;exact u9 _
 ·rw [H6 c];simp only;omega
theorem C5j (M k:Nat) (hM:0<M) (hk:0<k):M/2^k+1≤M:=by
 have h2:2≤2^k:=by
  calc 2=2^1:=rfl
   _≤2^k:=Nat.pow_le_pow_right (by decide) hk
 have:M/2^k≤M/2:=Nat.div_le_div_left h2 (by decide)
 by_cases c:M=1
 ·subst c
  have:1/2^k=0:=Nat.div_eq_of_lt (by omega)
  omega
 ·omega
theorem A67 {d:Dyd} (h:A5 d=true) (he:d.exp<0):∃(k X:Nat),d.exp= -(k:Int)∧0<k∧d.int/2^k=sgn d.neg X∧X≤val d.mag∧T8 d=form d.neg X 0∧val d.mag%2=1:=by
 obtain ⟨s,m,e⟩:=d
 simp only at he ⊢
 have hm:=C1 h
 have hm0:m≠[]:=fun e0=>by subst e0;have:=(CZ h).2;omega
 have hv:=Q1 hm hm0
 obtain ⟨k,hk⟩:∃k:Nat,e= -(k:Int):=⟨(-e).toNat,by omega⟩
 subst hk
 have hk0:0<k:=by omega
 refine ⟨k,if s&&decide (val m%2^k≠0) then val m/2^k+1 else val m/2^k,rfl,hk0,by rw [GU,VV],?_,?_,FB h hm0⟩
 ·split
  ·exact C5j _ _ (by omega) hk0
  ·exact Nat.div_le_self _ _
 ·unfold T8
  rw [if_neg (by simp only;omega)]
  simp only
  rw [GU,show (- -(k:Int)).toNat=k by omega,VV,S1]
theorem C5i {d:Dyd} {L E:Nat} (h:Fit d L E) (hL:L≤131072) (hE:E+L≤16777216):Fit (T8 d) L (E+L)∧0≤(T8 d).exp:=by
 by_cases c:0≤d.exp
 ·have:T8 d=d:=by unfold T8;rw [if_pos c]
  rw [this]
  exact ⟨h.mono (Nat.le_refl _) (by omega),c⟩
 ·obtain ⟨k,X,hk,hk0,hq,hX,hf,_⟩:=A67 h.may (by omega)
  rw [hf]
  have hb:bl X≤L:=D9 (K1 hX) h.bits
  exact ⟨(U4 hb (by omega) (by omega) hL hE).1,C7t _ _ (u9 _)⟩
theorem C7r {d:Dyd} (h:A5 d=true) (n:Nat) (hu: -(n:Int)≤d.exp):
  at_ (T8 d) (-(n:Int))≤at_ d (-(n:Int))∧at_ d (-(n:Int))<at_ (T8 d) (-(n:Int))+2^n∧(at_ (T8 d) (-(n:Int))=at_ d (-(n:Int)) ↔ 0≤d.exp):=by
 have hp:(0:Int)<2^n:=MQ (by decide)
 by_cases c:0≤d.exp
 ·have:T8 d=d:=by unfold T8;rw [if_pos c]
  rw [this]
  exact ⟨u9 _,by omega,by simp [c]⟩
 ·obtain ⟨k,X,hk,hk0,hq,hX,hf,hodd⟩:=A67 h (by omega)
  have hkn:k≤n:=by omega
  have hpk:(0:Int)<2^k:=MQ (by decide)
  have hpn:(0:Int)<2^(n-k):=MQ (by decide)
  have hsplit:(2:Int)^n=2^k*2^(n-k):=by rw [←MP];congr 1;omega
  have e1:at_ (T8 d) (-(n:Int))=sgn d.neg X*2^k*2^(n-k):=by
   rw [hf,KK (by omega),←UI,show (0 - -(n:Int)).toNat=n by omega,show (((2^n:Nat)):Int)=(2:Int)^n by simp,hsplit,AU]
  have e2:at_ d (-(n:Int))=d.int*2^(n-k):=by
   unfold at_
   rw [hk,show (-(k:Int) - -(n:Int)).toNat=n-k by omega]
  have l1:sgn d.neg X*2^k≤d.int:=by rw [←hq];exact (KF hpk).1 (u9 _)
  have l2:d.int<(sgn d.neg X+1)*2^k:=by rw [←hq];exact (Int.ediv_lt_iff_lt_mul hpk).1 (by omega)
  have l3:sgn d.neg X*2^k≠d.int:=by
   intro e
   obtain ⟨j,rfl⟩:∃j,k=j+1:=⟨k-1,by omega⟩
   rw [Int.pow_succ,←AU,Dyd.int_eq] at e
   generalize sgn d.neg X*2^j=Y at e
   unfold sgn at e
   split at e<;>omega
  rw [e1,e2,hsplit]
  have l4:sgn d.neg X*2^k<d.int:=by omega
  have g1:=FV l4 hpn
  have g2:=FV l2 hpn
  rw [BG,Int.one_mul,BG] at g2
  exact ⟨by omega,g2,by constructor<;>intro<;>omega⟩
end Go.Dy

namespace Go.Dy
def column (a b:List Nat) (k:Nat):Nat→Nat
 |0=>0
 |n+1=>column a b k n+(if n≤k then a.getD n 0*b.getD (k-n) 0 else 0)
def F6 (d:Dyd) (b:Int):Dyd×Bool:=if HF d b≤0 then (d,false) else (headD d b,true)
end Go.Dy
namespace Go.AI
open Go Go.RowKit Go.Proofs
set_option linter.unusedVariables false
def D5d:List AV→Option Spec
 |[.dig [1] a,.dig [2] b]=>some ⟨some (a.length≤524288∧b.length≤524288),.dig [0] (Dy.dg (Dy.val a*Dy.val b))⟩
 |_=>none
def D00:List AV→Option Spec
 |[.agg [.bool s,.dig [1] m,.num .i64 e],.agg [.bool s',.dig [2] m',.num .i64 e']]=>
  some ⟨some (Dy.A5 ⟨s,m,e⟩=true∧Dy.A5 ⟨s',m',e'⟩=true∧(m=[]∨m'=[]∨(-300000≤e-e'∧e-e'≤300000))),avD [0,1,2] (Dy.C2 ⟨s,m,e⟩ ⟨s',m',e'⟩)⟩
 |_=>none
def D0b:List AV→Option Spec
 |[.agg [.bool s,.dig [1] m,.num .i64 e],.agg [.bool s',.dig [2] m',.num .i64 e']]=>
  some ⟨some (Dy.A5 ⟨s,m,e⟩=true∧Dy.A5 ⟨s',m',e'⟩=true∧(m=[]∨m'=[]∨(-300000≤e-e'∧e-e'≤300000))),avD [0,1,2] (Dy.C2 ⟨s,m,e⟩ (Dy.G9 ⟨s',m',e'⟩))⟩
 |_=>none
def D06:List AV→Option Spec
 |[.agg [.bool s,.dig [1] m,.num .i64 e],.agg [.bool s',.dig [2] m',.num .i64 e']]=>
  some ⟨some (Dy.A5 ⟨s,m,e⟩=true∧Dy.A5 ⟨s',m',e'⟩=true),avD [0] (Dy.E6 ⟨s,m,e⟩ ⟨s',m',e'⟩)⟩
 |_=>none
def D02:List AV→Option Spec
 |[.agg [.bool s,.dig [1] m,.num .i64 e],.agg [.bool s',.dig [2] m',.num .i64 e']]=>
  some ⟨some (Dy.A5 ⟨s,m,e⟩=true∧Dy.A5 ⟨s',m',e'⟩=true),.num .i64 (Dy.Y1 ⟨s,m,e⟩ ⟨s',m',e'⟩)⟩
 |_=>none
def B0b:List AV→Option Spec
 |[.agg [.bool s,.dig [1] m,.num .i64 e],.num .i64 n]=>some ⟨some (m=[]∨(-1099511627776≤e∧e≤1099511627776∧ -1099511627776≤n∧n≤1099511627776)),.agg [.bool s,.dig [0,1,2] m,.num .i64 (if m=[] then e else e+n)]⟩
 |_=>none
def D5a:List AV→Option Spec
 |[.agg [.bool s,.dig [1] m,.num .i64 e],.num .i64 b]=>some ⟨some (Dy.A5 ⟨s,m,e⟩=true∧1≤b),.tup [avD [0,1,2] (Dy.F6 ⟨s,m,e⟩ b).1,.bool (Dy.F6 ⟨s,m,e⟩ b).2]⟩
 |_=>none
def C10:List AV→Option Spec
 |[.agg [.bool s,.dig [1] m,.num .i64 e]]=>some ⟨some (Dy.A5 ⟨s,m,e⟩=true),avD [0,1] (Dy.T8 ⟨s,m,e⟩)⟩
 |_=>none
def C4q:List (Nat×(List AV→Option Spec)):=(109,D5d)::(57,D00)::(100,B0b)::(99,D5a)::
 (193,C10)::KB
def D19:List (Nat×(List AV→Option Spec)):=(101,D0b)::(48,D06)::C4q
def D40:List (Nat×(List AV→Option Spec)):=(52,D02)::D19
end Go.AI

namespace Go.AI
open Dy Dyd IntKind
open Go Go.RowKit Go.Proofs
set_option linter.unusedVariables false
set_option maxRecDepth 100000
set_option maxHeartbeats 0
theorem B7b (s:Bool) (s':Bool) (m:List Nat) (m':List Nat) (e:Int) (e':Int) (Q:AV→Prop):(evF Tryz.prog (look KB) (lam []) true Tryz.f57 [.agg [.bool s,.dig [1] m,.num .i64 e],.agg [.bool s',.dig [2] m',.num .i64 e']] Q)=(bif decide ((↑m.length:Int)=0) then Q (.agg [.bool s',.dig [0,1,2] m',.num .i64 e']) else bif decide ((↑m'.length:Int)=0) then Q (.agg [.bool s,.dig [0,1,2] m,.num .i64 e]) else bif decide (e'<e) then ((0:Int)≤i64.wrap (e-e')∧i64.wrap (e-e')≤33554432∧m.length≤1048576)∧((0:Int)≤i64.wrap (e'-e')∧i64.wrap (e'-e')≤33554432∧m'.length≤1048576)∧bif decide (s=s') then ((dg (val m*2^(i64.wrap (e-e')).toNat)).length≤1048576∧(dg (val m'*2^(i64.wrap (e'-e')).toNat)).length≤1048576)∧(dg (val (dg (val (dg (val m*2^(i64.wrap (e-e')).toNat))+val (dg (val m'*2^(i64.wrap (e'-e')).toNat)))))=dg (val (dg (val m*2^(i64.wrap (e-e')).toNat))+val (dg (val m'*2^(i64.wrap (e'-e')).toNat)))∧(dg (val (dg (val m*2^(i64.wrap (e-e')).toNat))+val (dg (val m'*2^(i64.wrap (e'-e')).toNat)))).length≤1048576∧ -1099511627776≤e'∧e'≤1099511627776)∧∀b1,b1=(form s (val (dg (val (dg (val m*2^(i64.wrap (e-e')).toNat))+val (dg (val m'*2^(i64.wrap (e'-e')).toNat))))) e').neg→∀(l2:List Nat),l2=(form s (val (dg (val (dg (val m*2^(i64.wrap (e-e')).toNat))+val (dg (val m'*2^(i64.wrap (e'-e')).toNat))))) e').mag→∀n3,n3=(form s (val (dg (val (dg (val m*2^(i64.wrap (e-e')).toNat))+val (dg (val m'*2^(i64.wrap (e'-e')).toNat))))) e').exp→Q (.agg [.bool b1,.dig [0,1,2] l2,.num .i64 n3]) else (dg (val (dg (val m*2^(i64.wrap (e-e')).toNat)))=dg (val m*2^(i64.wrap (e-e')).toNat)∧dg (val (dg (val m'*2^(i64.wrap (e'-e')).toNat)))=dg (val m'*2^(i64.wrap (e'-e')).toNat))∧bif decide (v8 (val (dg (val m*2^(i64.wrap (e-e')).toNat))) (val (dg (val m'*2^(i64.wrap (e'-e')).toNat)))≥0) then (val (dg (val m'*2^(i64.wrap (e'-e')).toNat))≤val (dg (val m*2^(i64.wrap (e-e')).toNat))∧(dg (val m*2^(i64.wrap (e-e')).toNat)).length≤1048576)∧(dg (val (dg (val (dg (val m*2^(i64.wrap (e-e')).toNat))-val (dg (val m'*2^(i64.wrap (e'-e')).toNat)))))=dg (val (dg (val m*2^(i64.wrap (e-e')).toNat))-val (dg (val m'*2^(i64.wrap (e'-e')).toNat)))∧(dg (val (dg (val m*2^(i64.wrap (e-e')).toNat))-val (dg (val m'*2^(i64.wrap (e'-e')).toNat)))).length≤1048576∧ -1099511627776≤e'∧e'≤1099511627776)∧∀b4,b4=(form s (val (dg (val (dg (val m*2^(i64.wrap (e-e')).toNat))-val (dg (val m'*2^(i64.wrap (e'-e')).toNat))))) e').neg→∀(l5:List Nat),l5=(form s (val (dg (val (dg (val m*2^(i64.wrap (e-e')).toNat))-val (dg (val m'*2^(i64.wrap (e'-e')).toNat))))) e').mag→∀n6,n6=(form s (val (dg (val (dg (val m*2^(i64.wrap (e-e')).toNat))-val (dg (val m'*2^(i64.wrap (e'-e')).toNat))))) e').exp→Q (.agg [.bool b4,.dig [0,1,2] l5,.num .i64 n6]) else (val (dg (val m*2^(i64.wrap (e-e')).toNat))≤val (dg (val m'*2^(i64.wrap (e'-e')).toNat))∧(dg (val m'*2^(i64.wrap (e'-e')).toNat)).length≤1048576)∧(dg (val (dg (val (dg (val m'*2^(i64.wrap (e'-e')).toNat))-val (dg (val m*2^(i64.wrap (e-e')).toNat)))))=dg (val (dg (val m'*2^(i64.wrap (e'-e')).toNat))-val (dg (val m*2^(i64.wrap (e-e')).toNat)))∧(dg (val (dg (val m'*2^(i64.wrap (e'-e')).toNat))-val (dg (val m*2^(i64.wrap (e-e')).toNat)))).length≤1048576∧ -1099511627776≤e'∧e'≤1099511627776)∧∀b7,b7=(form s' (val (dg (val (dg (val m'*2^(i64.wrap (e'-e')).toNat))-val (dg (val m*2^(i64.wrap (e-e')).toNat))))) e').neg→∀(l8:List Nat),l8=(form s' (val (dg (val (dg (val m'*2^(i64.wrap (e'-e')).toNat))-val (dg (val m*2^(i64.wrap (e-e')).toNat))))) e').mag→∀n9,n9=(form s' (val (dg (val (dg (val m'*2^(i64.wrap (e'-e')).toNat))-val (dg (val m*2^(i64.wrap (e-e')).toNat))))) e').exp→Q (.agg [.bool b7,.dig [0,1,2] l8,.num .i64 n9]) else ((0:Int)≤i64.wrap (e-e)∧i64.wrap (e-e)≤33554432∧m.length≤1048576)∧((0:Int)≤i64.wrap (e'-e)∧i64.wrap (e'-e)≤33554432∧m'.length≤1048576)∧bif decide (s=s') then ((dg (val m*2^(i64.wrap (e-e)).toNat)).length≤1048576∧(dg (val m'*2^(i64.wrap (e'-e)).toNat)).length≤1048576)∧(dg (val (dg (val (dg (val m*2^(i64.wrap (e-e)).toNat))+val (dg (val m'*2^(i64.wrap (e'-e)).toNat)))))=dg (val (dg (val m*2^(i64.wrap (e-e)).toNat))+val (dg (val m'*2^(i64.wrap (e'-e)).toNat)))∧(dg (val (dg (val m*2^(i64.wrap (e-e)).toNat))+val (dg (val m'*2^(i64.wrap (e'-e)).toNat)))).length≤1048576∧ -1099511627776≤e∧e≤1099511627776)∧∀b10,b10=(form s (val (dg (val (dg (val m*2^(i64.wrap (e-e)).toNat))+val (dg (val m'*2^(i64.wrap (e'-e)).toNat))))) e).neg→∀(l11:List Nat),l11=(form s (val (dg (val (dg (val m*2^(i64.wrap (e-e)).toNat))+val (dg (val m'*2^(i64.wrap (e'-e)).toNat))))) e).mag→∀n12,n12=(form s (val (dg (val (dg (val m*2^(i64.wrap (e-e)).toNat))+val (dg (val m'*2^(i64.wrap (e'-e)).toNat))))) e).exp→Q (.agg [.bool b10,.dig [0,1,2] l11,.num .i64 n12]) else (dg (val (dg (val m*2^(i64.wrap (e-e)).toNat)))=dg (val m*2^(i64.wrap (e-e)).toNat)∧dg (val (dg (val m'*2^(i64.wrap (e'-e)).toNat)))=dg (val m'*2^(i64.wrap (e'-e)).toNat))∧bif decide (v8 (val (dg (val m*2^(i64.wrap (e-e)).toNat))) (val (dg (val m'*2^(i64.wrap (e'-e)).toNat)))≥0) then (val (dg (val m'*2^(i64.wrap (e'-e)).toNat))≤val (dg (val m*2^(i64.wrap (e-e)).toNat))∧(dg (val m*2^(i64.wrap (e-e)).toNat)).length≤1048576)∧(dg (val (dg (val (dg (val m*2^(i64.wrap (e-e)).toNat))-val (dg (val m'*2^(i64.wrap (e'-e)).toNat)))))=dg (val (dg (val m*2^(i64.wrap (e-e)).toNat))-val (dg (val m'*2^(i64.wrap (e'-e)).toNat)))∧(dg (val (dg (val m*2^(i64.wrap (e-e)).toNat))-val (dg (val m'*2^(i64.wrap (e'-e)).toNat)))).length≤1048576∧ -1099511627776≤e∧e≤1099511627776)∧∀b13,b13=(form s (val (dg (val (dg (val m*2^(i64.wrap (e-e)).toNat))-val (dg (val m'*2^(i64.wrap (e'-e)).toNat))))) e).neg→∀(l14:List Nat),l14=(form s (val (dg (val (dg (val m*2^(i64.wrap (e-e)).toNat))-val (dg (val m'*2^(i64.wrap (e'-e)).toNat))))) e).mag→∀n15,n15=(form s (val (dg (val (dg (val m*2^(i64.wrap (e-e)).toNat))-val (dg (val m'*2^(i64.wrap (e'-e)).toNat))))) e).exp→Q (.agg [.bool b13,.dig [0,1,2] l14,.num .i64 n15]) else (val (dg (val m*2^(i64.wrap (e-e)).toNat))≤val (dg (val m'*2^(i64.wrap (e'-e)).toNat))∧(dg (val m'*2^(i64.wrap (e'-e)).toNat)).length≤1048576)∧(dg (val (dg (val (dg (val m'*2^(i64.wrap (e'-e)).toNat))-val (dg (val m*2^(i64.wrap (e-e)).toNat)))))=dg (val (dg (val m'*2^(i64.wrap (e'-e)).toNat))-val (dg (val m*2^(i64.wrap (e-e)).toNat)))∧(dg (val (dg (val m'*2^(i64.wrap (e'-e)).toNat))-val (dg (val m*2^(i64.wrap (e-e)).toNat)))).length≤1048576∧ -1099511627776≤e∧e≤1099511627776)∧∀b16,b16=(form s' (val (dg (val (dg (val m'*2^(i64.wrap (e'-e)).toNat))-val (dg (val m*2^(i64.wrap (e-e)).toNat))))) e).neg→∀(l17:List Nat),l17=(form s' (val (dg (val (dg (val m'*2^(i64.wrap (e'-e)).toNat))-val (dg (val m*2^(i64.wrap (e-e)).toNat))))) e).mag→∀n18,n18=(form s' (val (dg (val (dg (val m'*2^(i64.wrap (e'-e)).toNat))-val (dg (val m*2^(i64.wrap (e-e)).toNat))))) e).exp→Q (.agg [.bool b16,.dig [0,1,2] l17,.num .i64 n18])):=by kernel_rfl
theorem A5a (s:Bool) (m:List Nat) (e:Int) (n:Int) (Q:AV→Prop):(evF Tryz.prog (look KB) (lam []) true Tryz.f100 [.agg [.bool s,.dig [1] m,.num .i64 e],.num .i64 n] Q)=(bif decide ((↑m.length:Int)>0) then Q (.agg [.bool s,.dig [0,1,2] m,.num .i64 (i64.wrap (e+n))]) else Q (.agg [.bool s,.dig [0,1,2] m,.num .i64 e])):=by kernel_rfl
theorem XY (s:Bool) (m:List Nat) (e:Int) (b:Int) (Q:AV→Prop):(evF Tryz.prog (look KB) (lam []) true Tryz.f99 [.agg [.bool s,.dig [1] m,.num .i64 e],.num .i64 b] Q)=((dg (val m)=m∧m.length≤1048576)∧bif decide (i64.wrap ((↑(bl (val m)):Int)-b)≤0) then Q (.tup [.agg [.bool s,.dig [0,1,2] m,.num .i64 e],.bool false]) else (dg (val m)=m∧(0:Int)≤i64.wrap ((↑(bl (val m)):Int)-b)∧m.length≤1048576)∧∀(l1:List Nat),l1=dg (val m/2^(i64.wrap ((↑(bl (val m)):Int)-b)).toNat)→∀b2,b2=decide (val m≠0∧(↑(tz (val m)):Int)<i64.wrap ((↑(bl (val m)):Int)-b))→(dg (val l1)=l1∧l1.length≤1048576∧(-1099511627776:Int)≤i64.wrap (e+i64.wrap ((↑(bl (val m)):Int)-b))∧i64.wrap (e+i64.wrap ((↑(bl (val m)):Int)-b))≤1099511627776)∧∀b3,b3=(form s (val l1) (i64.wrap (e+i64.wrap ((↑(bl (val m)):Int)-b)))).neg→∀(l4:List Nat),l4=(form s (val l1) (i64.wrap (e+i64.wrap ((↑(bl (val m)):Int)-b)))).mag→∀n5,n5=(form s (val l1) (i64.wrap (e+i64.wrap ((↑(bl (val m)):Int)-b)))).exp→Q (.tup [.agg [.bool b3,.dig [0,1,2] l4,.num .i64 n5],.bool b2])):=by kernel_rfl
theorem A59 (s:Bool) (m:List Nat) (e:Int) (Q:AV→Prop):(evF Tryz.prog (look KB) (lam []) true Tryz.f193 [.agg [.bool s,.dig [1] m,.num .i64 e]] Q)=(bif decide (e≥0) then Q (.agg [.bool s,.dig [0,1] m,.num .i64 e]) else (dg (val m)=m∧(0:Int)≤i64.wrap ((0:Int)-e)∧m.length≤1048576)∧∀(l1:List Nat),l1=dg (val m/2^(i64.wrap ((0:Int)-e)).toNat)→∀b2,b2=decide (val m≠0∧(↑(tz (val m)):Int)<i64.wrap ((0:Int)-e))→bif s then bif b2 then (l1.length≤1048576∧(1:Nat)≤1048576)∧(dg (val (dg (val l1+1)))=dg (val l1+1)∧(dg (val l1+1)).length≤1048576∧(-1099511627776:Int)≤0∧(0:Int)≤1099511627776)∧∀b3,b3=(form s (val (dg (val l1+1))) (0:Int)).neg→∀(l4:List Nat),l4=(form s (val (dg (val l1+1))) (0:Int)).mag→∀n5,n5=(form s (val (dg (val l1+1))) (0:Int)).exp→Q (.agg [.bool b3,.dig [0,1] l4,.num .i64 n5]) else (dg (val l1)=l1∧l1.length≤1048576∧(-1099511627776:Int)≤0∧(0:Int)≤1099511627776)∧∀b6,b6=(form s (val l1) (0:Int)).neg→∀(l7:List Nat),l7=(form s (val l1) (0:Int)).mag→∀n8,n8=(form s (val l1) (0:Int)).exp→Q (.agg [.bool b6,.dig [0,1] l7,.num .i64 n8]) else (dg (val l1)=l1∧l1.length≤1048576∧(-1099511627776:Int)≤0∧(0:Int)≤1099511627776)∧∀b9,b9=(form s (val l1) (0:Int)).neg→∀(l10:List Nat),l10=(form s (val l1) (0:Int)).mag→∀n11,n11=(form s (val l1) (0:Int)).exp→Q (.agg [.bool b9,.dig [0,1] l10,.num .i64 n11])):=by kernel_rfl
theorem B7h (s:Bool) (s':Bool) (m:List Nat) (m':List Nat) (e:Int) (e':Int) (Q:AV→Prop):(evF Tryz.prog (look C4q) (lam []) true Tryz.f101 [.agg [.bool s,.dig [1] m,.num .i64 e],.agg [.bool s',.dig [2] m',.num .i64 e']] Q)=(∀(b1:Bool),(b1=if m'=[] then s' else !s')→∀(l2:List Nat),l2=m'→∀n3,n3=e'→(A5 (mk s m e)=true∧A5 (mk b1 l2 n3)=true∧(m=[]∨l2=[]∨ -300000≤e-n3∧e-n3≤300000))∧∀b4,b4=(C2 (mk s m e) (mk b1 l2 n3)).neg→∀(l5:List Nat),l5=(C2 (mk s m e) (mk b1 l2 n3)).mag→∀n6,n6=(C2 (mk s m e) (mk b1 l2 n3)).exp→Q (.agg [.bool b4,.dig [0,1,2] l5,.num .i64 n6])):=by kernel_rfl
theorem B7e (s:Bool) (s':Bool) (m:List Nat) (m':List Nat) (e:Int) (e':Int) (Q:AV→Prop):(evF Tryz.prog (look C4q) (lam []) false Tryz.f48 [.agg [.bool s,.dig [1] m,.num .i64 e],.agg [.bool s',.dig [2] m',.num .i64 e']] Q)=((m.length≤524288∧m'.length≤524288)∧(dg (val (dg (val m*val m')))=dg (val m*val m')∧(dg (val m*val m')).length≤1048576∧(-1099511627776:Int)≤i64.wrap (e+e')∧i64.wrap (e+e')≤1099511627776)∧∀b1,b1=(form (!s==s') (val (dg (val m*val m'))) (i64.wrap (e+e'))).neg→∀(l2:List Nat),l2=(form (!s==s') (val (dg (val m*val m'))) (i64.wrap (e+e'))).mag→∀n3,n3=(form (!s==s') (val (dg (val m*val m'))) (i64.wrap (e+e'))).exp→Q (.agg [.bool b1,.dig [0] l2,.num .i64 n3])):=by kernel_rfl
theorem B7c (s:Bool) (s':Bool) (m:List Nat) (m':List Nat) (e:Int) (e':Int) (Q:AV→Prop):(evF Tryz.prog (look D19) (lam []) false Tryz.f52 [.agg [.bool s,.dig [1] m,.num .i64 e],.agg [.bool s',.dig [2] m',.num .i64 e']] Q)=(bif !decide (F0 (mk s m e)=F0 (mk s' m' e')) then bif decide (F0 (mk s m e)<F0 (mk s' m' e')) then Q (.num .i64 (-1)) else Q (.num .i64 1) else bif decide (F0 (mk s m e)=0) then Q (.num .i64 0) else (dg (val m)=m∧m.length≤1048576∧ -1099511627776≤e∧e≤1099511627776)∧(dg (val m')=m'∧m'.length≤1048576∧ -1099511627776≤e'∧e'≤1099511627776)∧bif !decide (C7 (mk s m e)=C7 (mk s' m' e')) then (dg (val m)=m∧m.length≤1048576∧ -1099511627776≤e∧e≤1099511627776)∧(dg (val m')=m'∧m'.length≤1048576∧ -1099511627776≤e'∧e'≤1099511627776)∧bif decide (decide (C7 (mk s m e)<C7 (mk s' m' e'))=decide (F0 (mk s m e)>0)) then Q (.num .i64 (-1)) else Q (.num .i64 1) else (A5 (mk s m e)=true∧A5 (mk s' m' e')=true∧(m=[]∨m'=[]∨ -300000≤e-e'∧e-e'≤300000))∧∀b1,b1=(C2 (mk s m e) (G9 (mk s' m' e'))).neg→∀(l2:List Nat),l2=(C2 (mk s m e) (G9 (mk s' m' e'))).mag→∀n3,n3=(C2 (mk s m e) (G9 (mk s' m' e'))).exp→Q (.num .i64 (F0 (mk b1 l2 n3)))):=by kernel_rfl
def C93:List AV→Option LR
 |[.dig [1,2,3] a,.dig [1,2,3] b,.grown 152 o,.num .u64 low,.num .u64 high,.num .i64 k]=>
 some (.need (Dy.okl a∧Dy.okl b∧a.length≤524288∧b.length≤524288∧0<a.length∧0<b.length∧o=[]∧low=0∧high=0∧k=0)
 (.done (.exit 0) [.dig [1,2,3] a,.dig [1,2,3] b,.grown 152 (Dy.dgN (a.length+b.length) (Dy.val a*Dy.val b)),.num .u64 0,.num .u64 0,.num .i64 ((a.length+b.length:Nat):Int)]))
 |_=>none
def ZG:List (Nat×Keep):=[(0,.same),(1,.same),(5,.grow 152),(6,.same),(7,.same),(8,.same)]
def C92:List AV→Option LR
 |[.dig [1,2,3] a,.dig [1,2,3] b,.num .u64 low,.num .u64 high,.num .i64 k,.num .i64 i,.grown 152 o]=>
 some (.need (Dy.okl a∧Dy.okl b∧a.length≤524288∧b.length≤524288∧0≤low∧low<18446744073709551616∧0≤high∧high≤16∧0≤k∧k<a.length+b.length∧0<b.length∧i=(if (b.length:Int)≤k then k-b.length+1 else 0))
 (.done (.exit 2) [.dig [1,2,3] a,.dig [1,2,3] b,.num .u64 ((low.toNat+18446744073709551616*high.toNat+Dy.column a b k.toNat a.length)%18446744073709551616:Nat),.num .u64 ((low.toNat+18446744073709551616*high.toNat+Dy.column a b k.toNat a.length)/18446744073709551616:Nat),
 .num .i64 k,.num .i64 (min (k+1) a.length),.grown 152 o]))
 |_=>none
def ZF:List (Nat×Keep):=[(0,.same),(1,.same),(6,.same),(7,.same),(8,.same),(10,.same),(5,.same)]
def XH:=lam [(7,.spec ZG C93),(13,.spec ZF C92)]
theorem C34 (a:List Nat) (b:List Nat) (Q:AV→Prop):(evF Tryz.prog (look KB) XH false Tryz.f109 [.dig [1] a,.dig [2] b] Q)=(bif decide ((↑a.length:Int)=0) then Q (.dig [0] []) else bif decide ((↑b.length:Int)=0) then Q (.dig [0] []) else (okl a∧okl b∧a.length≤524288∧b.length≤524288∧(0:Nat)<a.length∧(0:Nat)<b.length∧([]:List Nat)=[]∧(0:Int)=0∧(0:Int)=0∧(0:Int)=0)∧Q (.dig [0] (dg (val (dgN (a.length+b.length) (val a*val b)))))):=by kernel_rfl
theorem VE (a:List Nat) (b:List Nat) (o:List Nat) (low:Int) (high:Int) (k:Int) (K:Exit→List AV→Prop):(M7 Tryz.prog (look KB) XH (2:Nat) (85:Nat) ZG (D8 Tryz.f109 (0:Nat)) [.dig [1,2,3] a,.dig [1,2,3] b,.grown (152:TypeId) o,.num .u64 low,.num .u64 high,.num .i64 k] K)=(bif decide (k<i64.wrap ((↑a.length:Int)+(↑b.length:Int))) then bif decide (k≥(↑b.length:Int)) then (okl a∧okl b∧a.length≤524288∧b.length≤524288∧0≤low∧low<18446744073709551616∧0≤high∧high≤16∧0≤k∧k<(↑a.length:Int)+(↑b.length:Int)∧(0:Nat)<b.length∧i64.wrap (i64.wrap (k-(↑b.length:Int))+1)=if (↑b.length:Int)≤k then k-(↑b.length:Int)+1 else (0:Int))∧((0:Nat)≤[(u32.wrap (↑((low.toNat+18446744073709551616*high.toNat+column a b k.toNat a.length)%18446744073709551616):Int)).toNat].length∧o.length+[(u32.wrap (↑((low.toNat+18446744073709551616*high.toNat+column a b k.toNat a.length)%18446744073709551616):Int)).toNat].length≤1099511627776)∧K Exit.normal [.dig [1,2,3] a,.dig [1,2,3] b,.grown (152:Nat) (o++[(u32.wrap (↑((low.toNat+18446744073709551616*high.toNat+column a b k.toNat a.length)%18446744073709551616):Int)).toNat]),.num .u64 (u64.wrap (↑(A7 (64:Nat) ((↑((low.toNat+18446744073709551616*high.toNat+column a b k.toNat a.length)%18446744073709551616):Int).fdiv ((2:Int)^(32:Nat)))|||A7 (64:Nat) (u64.wrap ((↑((low.toNat+18446744073709551616*high.toNat+column a b k.toNat a.length)/18446744073709551616):Int)*2^(32:Nat)))).toNat:Int)),.num .u64 ((↑((low.toNat+18446744073709551616*high.toNat+column a b k.toNat a.length)/18446744073709551616):Int).fdiv ((2:Int)^(32:Nat))),.num .i64 (i64.wrap (k+1))] else (okl a∧okl b∧a.length≤524288∧b.length≤524288∧0≤low∧low<18446744073709551616∧0≤high∧high≤16∧0≤k∧k<(↑a.length:Int)+(↑b.length:Int)∧(0:Nat)<b.length∧(0:Int)=if (↑b.length:Int)≤k then k-(↑b.length:Int)+1 else (0:Int))∧((0:Nat)≤[(u32.wrap (↑((low.toNat+18446744073709551616*high.toNat+column a b k.toNat a.length)%18446744073709551616):Int)).toNat].length∧o.length+[(u32.wrap (↑((low.toNat+18446744073709551616*high.toNat+column a b k.toNat a.length)%18446744073709551616):Int)).toNat].length≤1099511627776)∧K Exit.normal [.dig [1,2,3] a,.dig [1,2,3] b,.grown (152:Nat) (o++[(u32.wrap (↑((low.toNat+18446744073709551616*high.toNat+column a b k.toNat a.length)%18446744073709551616):Int)).toNat]),.num .u64 (u64.wrap (↑(A7 (64:Nat) ((↑((low.toNat+18446744073709551616*high.toNat+column a b k.toNat a.length)%18446744073709551616):Int).fdiv ((2:Int)^(32:Nat)))|||A7 (64:Nat) (u64.wrap ((↑((low.toNat+18446744073709551616*high.toNat+column a b k.toNat a.length)/18446744073709551616):Int)*2^(32:Nat)))).toNat:Int)),.num .u64 ((↑((low.toNat+18446744073709551616*high.toNat+column a b k.toNat a.length)/18446744073709551616):Int).fdiv ((2:Int)^(32:Nat))),.num .i64 (i64.wrap (k+1))] else K (Exit.exit (0:Nat)) [.dig [1,2,3] a,.dig [1,2,3] b,.grown (152:Nat) o,.num .u64 low,.num .u64 high,.num .i64 k]):=by kernel_rfl
theorem VF (a:List Nat) (b:List Nat) (o:List Nat) (low:Int) (high:Int) (k:Int) (i:Int) (K:Exit→List AV→Prop):(M7 Tryz.prog (look KB) XH (2:Nat) (85:Nat) ZF (D8 Tryz.f109 (1:Nat)) [.dig [1,2,3] a,.dig [1,2,3] b,.num .u64 low,.num .u64 high,.num .i64 k,.num .i64 i,.grown (152:TypeId) o] K)=(bif decide (i≤k) then bif decide (i<(↑a.length:Int)) then (0≤i∧i<(↑a.length:Int))∧((0:Int)≤i64.wrap (k-i)∧i64.wrap (k-i)<(↑b.length:Int))∧bif decide (u64.wrap (low+u64.wrap (u64.wrap (↑(a.getD i.toNat (0:Nat)):Int)*u64.wrap (↑(b.getD (i64.wrap (k-i)).toNat (0:Nat)):Int)))<u64.wrap (u64.wrap (↑(a.getD i.toNat (0:Nat)):Int)*u64.wrap (↑(b.getD (i64.wrap (k-i)).toNat (0:Nat)):Int))) then K Exit.normal [.dig [1,2,3] a,.dig [1,2,3] b,.num .u64 (u64.wrap (low+u64.wrap (u64.wrap (↑(a.getD i.toNat (0:Nat)):Int)*u64.wrap (↑(b.getD (i64.wrap (k-i)).toNat (0:Nat)):Int)))),.num .u64 (u64.wrap (high+1)),.num .i64 k,.num .i64 (i64.wrap (i+1)),.grown (152:Nat) o] else K Exit.normal [.dig [1,2,3] a,.dig [1,2,3] b,.num .u64 (u64.wrap (low+u64.wrap (u64.wrap (↑(a.getD i.toNat (0:Nat)):Int)*u64.wrap (↑(b.getD (i64.wrap (k-i)).toNat (0:Nat)):Int)))),.num .u64 high,.num .i64 k,.num .i64 (i64.wrap (i+1)),.grown (152:Nat) o] else K (Exit.exit (2:Nat)) [.dig [1,2,3] a,.dig [1,2,3] b,.num .u64 low,.num .u64 high,.num .i64 k,.num .i64 i,.grown (152:Nat) o] else K (Exit.exit (2:Nat)) [.dig [1,2,3] a,.dig [1,2,3] b,.num .u64 low,.num .u64 high,.num .i64 k,.num .i64 i,.grown (152:Nat) o]):=by kernel_rfl
end Go.AI

namespace Go.Dy
theorem WV (x:Nat) (a b:List Nat) (k:Nat):∀n,column (x::a) b (k+1) (n+1)=x*b.getD (k+1) 0+column a b k n
 |0=>by simp [column]
 |n+1=>by
  rw [column,WV x a b k n]
  show _+(if n+1≤k+1 then a.getD n 0*b.getD (k+1-(n+1)) 0 else 0)=x*b.getD (k+1) 0+(column a b k n+(if n≤k then a.getD n 0*b.getD (k-n) 0 else 0))
  rw [show k+1-(n+1)=k-n by omega]
  by_cases c:n≤k
  ·rw [if_pos c,if_pos (by omega)];omega
  ·rw [if_neg c,if_neg (by omega)];omega
theorem WX (x:Nat) (a b:List Nat):∀n,column (x::a) b 0 (n+1)=x*b.getD 0 0
 |0=>by simp [column]
 |n+1=>by rw [column,WX x a b n,if_neg (by omega)];rfl
def SJ (a b:List Nat) (m:Nat):Nat→Nat
 |0=>0
 |n+1=>SJ a b m n+2^(32*n)*column a b n m
theorem QP (b:List Nat) (n:Nat):val (b.take (n+1))=val (b.take n)+2^(32*n)*b.getD n 0:=by
 by_cases c:n<b.length
 ·exact O1 c
 ·rw [H7 (by omega),H7 (by omega),D7,M1 (by omega)]
  simp
theorem A60 (x:Nat) (a b:List Nat) (m:Nat):∀n,SJ (x::a) b (m+1) (n+1)=x*val (b.take (n+1))+4294967296*SJ a b m n
 |0=>by
  rw [QP]
  simp [SJ,WX,val]
 |n+1=>by
  rw [SJ,A60 x a b m n,QP b (n+1),WV,SJ]
  have e:2^(32*(n+1))=2^(32*n)*4294967296:=J6 n
  rw [e]
  generalize 2^(32*n)=P
  generalize val (List.take (n+1) b)=V
  generalize b.getD (n+1) 0=y
  generalize column a b n m=C
  generalize SJ a b m n=D
  have h1:P*4294967296*(x*y)=x*(P*4294967296*y):=Nat.mul_left_comm _ _ _
  have h2:P*4294967296*C=4294967296*(P*C):=by rw [B6 P,B9]
  rw [D0 (P*4294967296),h1,h2,D0,D0]
  omega
theorem B29 (b:List Nat):∀(a:List Nat) (n:Nat),a.length+b.length≤n→SJ a b a.length n=val a*val b
 |[],n,_=>by
  have:∀n,SJ [] b 0 n=0:=by
   intro n
   induction n with
   |zero=>rfl
   |succ n ih=>rw [SJ,ih];simp [column]
  simp [val,this]
 |x::a,n,h=>by
  obtain ⟨n,rfl⟩:∃j,n=j+1:=⟨n-1,by simp at h;omega⟩
  simp only [T5] at h ⊢
  rw [A60,B29 b a n (by omega),H7 (by omega)]
  simp only [val]
  rw [H2,B9]
theorem VQ {a b:List Nat} (ha:D1 a) (hb:D1 b) (k:Nat):∀n,column a b k n≤n*18446744065119617025
 |0=>by simp [column]
 |n+1=>by
  rw [column,H2,Q2]
  refine Nat.add_le_add (VQ ha hb k n) ?_
  split
  ·have h1:=E5 ha n
   have h2:=E5 hb (k-n)
   exact D9 (I7 (show _≤4294967295 by omega) (show _≤4294967295 by omega)) (by decide)
  ·omega
theorem A00 {a b:List Nat} {k:Nat}:∀{n},n+b.length≤k+1→column a b k n=0
 |0,_=>rfl
 |n+1,h=>by
  rw [column,A00 (by omega)]
  by_cases c:n≤k
  ·rw [if_pos c,D7 (l:=b),M1 (by omega)];simp
  ·rw [if_neg c]
theorem WW {a b:List Nat} {k i:Nat} (hi:k<i):∀n,i≤n→column a b k n=column a b k i
 |0,h=>by
  have:i=0:=by omega
  rw [this]
 |n+1,h=>by
  by_cases c:i=n+1
  ·rw [c]
  ·rw [column,if_neg (by omega),WW hi n (by omega)];rfl
end Go.Dy
namespace Go.AI
open Go Go.RowKit Go.Proofs
set_option linter.unusedVariables false
set_option maxRecDepth 100000
theorem YD:L6 Tryz.prog (look KB) XH 2 85 ZF (D8 Tryz.f109 1) C92:=by
 intro vals r h K hK
 unfold C92 at h
 split at h
 ·cases h
  rename_i a b low high k i o
  simp only [j0] at hK
  obtain ⟨⟨ha,hb,hal,hbl,hlow,hlow1,hhi,hhi1,hk,hkl,hb0,hi⟩,hK⟩:=hK
  obtain ⟨low,rfl⟩:=C4 hlow
  obtain ⟨high,rfl⟩:=C4 hhi
  obtain ⟨k,rfl⟩:=C4 hk
  simp only [A2] at hK
  have hcl:=fun n=>Dy.VQ ha.2 hb.2 k n
  have key:∀(u i:Nat),min (k+1) a.length=u+i→(b.length≤k+i+1∨True)→(k<i+b.length)→
    ∃m,P4 Tryz.prog (look KB) XH 2 85 ZF (D8 Tryz.f109 1) m [.dig [1,2,3] a,.dig [1,2,3] b,.num .u64 ((low+18446744073709551616*high+Dy.column a b k i)%18446744073709551616:Nat),
     .num .u64 ((low+18446744073709551616*high+Dy.column a b k i)/18446744073709551616:Nat),.num .i64 k,.num .i64 i,.grown 152 o] K:=by
   intro u
   induction u with
   |zero=>
    intro i hu _ hbi
    refine D4 ?_
    rw [VF]
    have hfin:Dy.column a b k a.length=Dy.column a b k i:=by
     by_cases c:k<i
     ·exact Dy.WW c _ (by omega)
     ·rw [show i=a.length by omega]
    have hmin:min ((k:Int)+1) (a.length:Int)=(i:Int):=by omega
    rw [hfin,hmin] at hK
    by_cases c:i≤k
    ·exact B5 (decide_eq_true (by omega)) (B1 (decide_eq_false (by omega)) hK)
    ·exact B1 (decide_eq_false (by omega)) hK
   |succ u ih=>
    intro i hu _ hbi
    obtain ⟨m,hm⟩:=ih (i+1) (by omega) (.inr trivial) (by omega)
    refine E9 m ?_
    rw [VF]
    have hc1:=hcl i
    have hcol:Dy.column a b k (i+1)=Dy.column a b k i+a.getD i 0*b.getD (k-i) 0:=by rw [Dy.column,if_pos (by omega)]
    rw [hcol] at hm
    have hx:=Dy.E5 ha.2 i
    have hy:=Dy.E5 hb.2 (k-i)
    have ew:IntKind.i64.wrap ((k:Int)-(i:Int))=((k-i:Nat):Int):=by rw [wrap_i64 (by omega) (by omega)];omega
    rw [ew,A2,A2]
    have hp:a.getD i 0*b.getD (k-i) 0≤18446744065119617025:=D9 (I7 (show _≤4294967295 by omega) (show _≤4294967295 by omega)) (by decide)
    have hmul:IntKind.u64.wrap (IntKind.u64.wrap ((a.getD i 0:Nat):Int)*IntKind.u64.wrap ((b.getD (k-i) 0:Nat):Int))=((a.getD i 0*b.getD (k-i) 0:Nat):Int):=by
     have e1:IntKind.u64.wrap ((a.getD i 0:Nat):Int)=((a.getD i 0:Nat):Int):=by rw [wrap_u64];omega
     have e2:IntKind.u64.wrap ((b.getD (k-i) 0:Nat):Int)=((b.getD (k-i) 0:Nat):Int):=by rw [wrap_u64];omega
     rw [e1,e2,←L5,wrap_u64]
     omega
    rw [hmul]
    generalize a.getD i 0*b.getD (k-i) 0=p at*
    have hT:low+18446744073709551616*high+(Dy.column a b k i+p)=(low+18446744073709551616*high+Dy.column a b k i)+p:=by omega
    rw [hT] at hm
    have hTb:low+18446744073709551616*high+Dy.column a b k i≤18446744073709551616*600000:=by
     have:i*18446744065119617025≤524288*18446744065119617025:=C0 _ (by omega)
     omega
    generalize low+18446744073709551616*high+Dy.column a b k i=T at*
    have e3:IntKind.u64.wrap (((T%18446744073709551616:Nat):Int)+(p:Int))=(((T+p)%18446744073709551616:Nat):Int):=by rw [wrap_u64];omega
    have e4:IntKind.i64.wrap ((i:Int)+1)=((i+1:Nat):Int):=by rw [wrap_i64 (by omega) (by omega)];omega
    rw [e3,e4]
    refine B5 (decide_eq_true (by omega)) (B5 (decide_eq_true (by omega)) ⟨by omega,by omega,?_⟩)
    by_cases c:(T+p)%18446744073709551616<p
    ·refine B5 (decide_eq_true (by omega)) ?_
     have e5:IntKind.u64.wrap (((T/18446744073709551616:Nat):Int)+1)=(((T+p)/18446744073709551616:Nat):Int):=by rw [wrap_u64];omega
     rw [e5]
     exact hm
    ·refine B1 (decide_eq_false (by omega)) ?_
     have e5:(T+p)/18446744073709551616=T/18446744073709551616:=by omega
     rw [e5] at hm
     exact hm
  have start:∃i0:Nat,i=(i0:Int)∧Dy.column a b k i0=0∧i0≤min (k+1) a.length∧k<i0+b.length:=by
   by_cases c:b.length≤k
   ·rw [if_pos (by omega)] at hi
    exact ⟨k-b.length+1,by omega,Dy.A00 (by omega),by omega,by omega⟩
   ·rw [if_neg (by omega)] at hi
    exact ⟨0,by omega,rfl,by omega,by omega⟩
  obtain ⟨i0,rfl,hz,hle,hbk⟩:=start
  have:=key (min (k+1) a.length-i0) i0 (by omega) (.inr trivial) hbk
  rw [hz,I4,show (low+18446744073709551616*high)%18446744073709551616=low by omega,show (low+18446744073709551616*high)/18446744073709551616=high by omega] at this
  exact this
 ·cases h
theorem A8u:L6 Tryz.prog (look KB) XH 2 85 ZG (D8 Tryz.f109 0) C93:=by
 intro vals r h K hK
 unfold C93 at h
 split at h
 ·cases h
  rename_i a b o low high k
  simp only [j0] at hK
  obtain ⟨⟨ha,hb,hal,hbl,ha0,hb0,rfl,rfl,rfl,rfl⟩,hK⟩:=hK
  have key:∀(u k:Nat) (o:List Nat) (c:Nat),a.length+b.length=u+k→o.length=k→Dy.D1 o→c<18446744073709551616→Dy.val o+2^(32*k)*c=Dy.SJ a b a.length k→
    ∃m,P4 Tryz.prog (look KB) XH 2 85 ZG (D8 Tryz.f109 0) m [.dig [1,2,3] a,.dig [1,2,3] b,.grown 152 o,.num .u64 c,.num .u64 0,.num .i64 k] K:=by
   intro u
   induction u with
   |zero=>
    intro k o c hu hol hod hc hv
    refine D4 ?_
    rw [VE,wrap_i64 (by omega) (by omega)]
    refine B1 (decide_eq_false (by omega)) ?_
    rw [Dy.B29 b a k (by omega)] at hv
    have hlt:Dy.val a*Dy.val b<2^(32*k):=by
     rw [show k=a.length+b.length by omega,D0,B8]
     exact EB (Dy.I0 ha.2) (Dy.I0 hb.2)
    have hc0:c=0:=by
     by_cases h0:c=0
     ·exact h0
     ·have:2^(32*k)*1≤2^(32*k)*c:=Nat.mul_le_mul_left _ (by omega)
      omega
    subst hc0
    rw [O3,I4] at hv
    rw [←hv,show a.length+b.length=k by omega,Dy.CW hod hol] at hK
    exact hK
   |succ u ih=>
    intro k o c hu hol hod hc hv
    have hcb:=Dy.VQ ha.2 hb.2 k a.length
    have hcb2:a.length*18446744065119617025≤524288*18446744065119617025:=C0 _ hal
    have hcols:Dy.SJ a b a.length (k+1)=Dy.SJ a b a.length k+2^(32*k)*Dy.column a b k a.length:=rfl
    generalize hC:Dy.column a b k a.length=C at*
    have hd:(c+C)%4294967296<4294967296:=R5 _ (by decide)
    obtain ⟨m,hm⟩:=ih (k+1) (o++[(c+C)%4294967296]) ((c+C)/4294967296) (by omega) (by simp [hol]) (Dy.M2.2 ⟨hod,by intro x hx;simp at hx;rw [hx];exact hd⟩) (by omega) (by
     rw [Dy.U6,hol,hcols,←hv,Dy.J6,B9,Nat.add_assoc,←D0,Nat.mod_add_div,D0]
     omega)
    refine E9 m ?_
    rw [VE]
    rw [wrap_i64 (n:=(a.length:Int)+b.length) (by omega) (by omega),wrap_i64 (n:=(k:Int)+1) (by omega) (by omega),wrap_i64 (n:=(k:Int)-b.length) (by omega) (by omega),wrap_i64 (n:=(k:Int)-b.length+1) (by omega) (by omega)]
    simp only [A2,show (0:Int).toNat=0 from rfl,O3,I4,hC]
    have e1:(IntKind.u32.wrap (((c+C)%18446744073709551616:Nat):Int)).toNat=(c+C)%4294967296:=by rw [wrap_u32];omega
    have e2:IntKind.u64.wrap ((((c+C)/18446744073709551616:Nat):Int)*2^32)=(((c+C)/18446744073709551616*4294967296:Nat):Int):=by rw [wrap_u64];omega
    have e3:((((c+C)%18446744073709551616:Nat):Int)).fdiv (2^32)=(((c+C)%18446744073709551616/4294967296:Nat):Int):=by rw [fdiv_pow (by omega),A2]
    have e4:((((c+C)/18446744073709551616:Nat):Int)).fdiv (2^32)=0:=by rw [fdiv_pow (by omega),A2];omega
    have e5:(c+C)%18446744073709551616/4294967296|||(c+C)/18446744073709551616*4294967296=(c+C)/4294967296:=by
     rw [Nat.or_comm]
     have:=LF (a:=(c+C)/18446744073709551616) (b:=(c+C)%18446744073709551616/4294967296) (k:=32) (by omega)
     rw [show (2:Nat)^32=4294967296 from rfl] at this
     rw [this]
     omega
    rw [e1,e2,e3,e4,WT (by omega) (by omega) (by omega) (by omega)]
    simp only [A2]
    rw [e5]
    have goal:(0≤[(c+C)%4294967296].length∧o.length+[(c+C)%4294967296].length≤1099511627776):=⟨Nat.zero_le _,by simp only [T5,List.length_nil];omega⟩
    refine B5 (decide_eq_true (by omega)) ?_
    by_cases hk:b.length≤k
    ·exact B5 (decide_eq_true (by omega)) ⟨⟨ha,hb,hal,hbl,by omega,by omega,by omega,by omega,by omega,by omega,hb0,by rw [if_pos (by omega)]⟩,goal,hm⟩
    ·exact B1 (decide_eq_false (by omega)) ⟨⟨ha,hb,hal,hbl,by omega,by omega,by omega,by omega,by omega,by omega,hb0,by rw [if_neg (by omega)]⟩,goal,hm⟩
  exact key (a.length+b.length) 0 [] 0 (by omega) rfl Dy.Q4 (by omega) (by simp [Dy.val,Dy.SJ])
 ·cases h
theorem C0s (args:List AV) (s:Spec) (h:D5d args=some s) (hp:C6 s.pre True):Contract Tryz.prog Inv 109 args s.res:=by
 unfold D5d at h
 split at h
 ·cases h
  rename_i a b
  obtain ⟨⟨hal,hbl⟩, -⟩:=hp
  refine E8 false 85 XH HD Tryz.func109 (by kernel_rfl) rfl (A8w (by kernel_rfl) (by kernel_rfl) A8u (by kernel_rfl) YD) fun hok=> ?_
  obtain ⟨ha,h2⟩:=E4 hok
  have hb:=(E4 h2).1
  rw [C34]
  refine A8 (fun h=> ?_) (fun h=>A8 (fun h1=> ?_) (fun h1=> ?_))
  ·have h:=G5.1 (P6.1 (A1 h))
   subst h
   simp [Dy.val,Dy.O0]
  ·have h1:=G5.1 (P6.1 (A1 h1))
   subst h1
   simp [Dy.val,Dy.O0]
  ·have h:=A0 h
   have h1:=A0 h1
   refine ⟨⟨ha,hb,hal,hbl,by omega,by omega,rfl,rfl,rfl,rfl⟩,?_⟩
   rw [Dy.m8]
   rw [D0,B8]
   exact EB (Dy.I0 ha.2) (Dy.I0 hb.2)
 ·cases h
end Go.AI
