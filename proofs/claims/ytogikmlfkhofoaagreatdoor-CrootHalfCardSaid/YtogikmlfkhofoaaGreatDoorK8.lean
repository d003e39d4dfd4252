/- My texts AIdyad4, AIspec5, AVlaw1, AIlaw1, AIring, AIspec6, AVdyad3, AIdyad5, AVlaw2, AIlaw3, AIfloor, AIspec7, AVref2, AIref2, in one. -/
import Derived.Test.YtogikmlfkhofoaaGreatDoorK7
namespace Go.Dy
theorem sgn_zero (s:Bool):sgn s 0=0:=by cases s<;>rfl
theorem cmp_sgn (s:Bool) (a b:Nat):cmpZ (sgn s a) (sgn s b)=(if s then -1 else 1)*cmpZ a b:=by
 unfold sgn
 cases s
 ·simp
 ·simp only [if_true]
  rw [cmpZ_neg]
  omega
theorem cmpZ_vals (a b:Int):cmpZ a b= -1∨cmpZ a b=0∨cmpZ a b=1:=by
 unfold cmpZ
 split
 ·exact .inl rfl
 ·split
  ·exact .inr (.inr rfl)
  ·exact .inr (.inl rfl)
theorem cmpZ_lt {a b:Int} (h:a<b):cmpZ a b= -1:=by unfold cmpZ;rw [if_pos h]
theorem cmpZ_gt {a b:Int} (h:b<a):cmpZ a b=1:=by unfold cmpZ;rw [if_neg (by omega),if_pos h]
theorem cmpD_sign {s s':Bool} {m m':List Nat} {e e':Int} (h:mayD ⟨s,m,e⟩=true) (h':mayD ⟨s',m',e'⟩=true):
  (signD ⟨s,m,e⟩<signD ⟨s',m',e'⟩→cmpD ⟨s,m,e⟩ ⟨s',m',e'⟩= -1)∧(signD ⟨s',m',e'⟩<signD ⟨s,m,e⟩→cmpD ⟨s,m,e⟩ ⟨s',m',e'⟩=1)∧
  (signD ⟨s,m,e⟩=signD ⟨s',m',e'⟩→(m=[] ↔ m'=[])∧cmpD ⟨s,m,e⟩ ⟨s',m',e'⟩=signD ⟨s,m,e⟩*cmpZ (val m*2^(e-min e e').toNat:Nat) (val m'*2^(e'-min e e').toNat:Nat)):=by
 unfold cmpD
 rw [at_mk,at_mk]
 simp only [unit]
 unfold signD
 simp only
 have p1:=Nat.two_pow_pos (e-min e e').toNat
 have p2:=Nat.two_pow_pos (e'-min e e').toNat
 by_cases c:m=[]
 ·subst c
  obtain ⟨rfl,rfl⟩:=mayD_nil h
  by_cases c':m'=[]
  ·subst c'
   obtain ⟨rfl,rfl⟩:=mayD_nil h'
   simp [val,sgn,cmpZ]
  ·have v:=val_ne (mayD_may h') c'
   simp only [if_neg c',if_true]
   have hp:0<val m'*2^(e'-min 0 e').toNat:=Nat.mul_pos (by omega) p2
   generalize val m'*2^(e'-min 0 e').toNat=B at*
   simp only [val,Nat.zero_mul,sgn_zero]
   unfold sgn
   cases s'
   ·simp only [Bool.false_eq_true,if_false]
    refine ⟨fun _=>cmpZ_lt (by omega),fun h=>by omega,fun h=>by omega⟩
   ·simp only [if_true]
    refine ⟨fun h=>by omega,fun h=>cmpZ_gt (by omega),fun h=>by omega⟩
 ·have v:=val_ne (mayD_may h) c
  have hp:0<val m*2^(e-min e e').toNat:=Nat.mul_pos (by omega) p1
  simp only [if_neg c]
  by_cases c':m'=[]
  ·subst c'
   obtain ⟨rfl,rfl⟩:=mayD_nil h'
   generalize val m*2^(e-min e 0).toNat=A at*
   simp only [val,Nat.zero_mul,sgn_zero,if_true]
   unfold sgn
   cases s
   ·simp only [Bool.false_eq_true,if_false]
    refine ⟨fun h=>by omega,fun _=>cmpZ_gt (by omega),fun h=>by omega⟩
   ·simp only [if_true]
    refine ⟨fun h=>cmpZ_lt (by omega),fun h=>by omega,fun h=>by omega⟩
  ·have v':=val_ne (mayD_may h') c'
   have hp':0<val m'*2^(e'-min e e').toNat:=Nat.mul_pos (by omega) p2
   simp only [if_neg c']
   generalize val m*2^(e-min e e').toNat=A at*
   generalize val m'*2^(e'-min e e').toNat=B at*
   by_cases hs:s=s'
   ·subst hs
    refine ⟨fun h=>by omega,fun h=>by omega,fun _=>⟨by simp [c,c'],cmp_sgn s A B⟩⟩
   ·unfold sgn
    cases s<;>cases s'<;>simp at hs ⊢
    ·exact cmpZ_gt (by omega)
    ·exact cmpZ_lt (by omega)
end Go.Dy
namespace Go.AI
open Go Go.RowKit Go.Proofs
set_option linter.unusedVariables false
set_option maxRecDepth 100000
theorem ok_tab12:PhiOk Tryz.prog Inv (look tab12):=
 look_cons (look_cons (look_cons (look_cons (look_cons (look_cons ok_tab11 ok_dyad_Mul) ok_dyad_edge) ok_dyad_halved) ok_dyad_sizes) ok_dyad_Abs) ok_dyad_Neg
theorem ok_dyad_Cmp (args:List AV) (s:Spec) (h:dCmp args=some s) (hp:andO s.pre True):Contract Tryz.prog Inv 179 args s.res:=by
 unfold dCmp at h
 split at h
 ·cases h
  rename_i s m e s' m' e'
  refine contract0 false ok_tab12 Tryz.func179 (by kernel_rfl) (by kernel_rfl) fun hok=> ?_
  rw [vc_dyad_Cmp]
  refine cond_i (fun h=> ?_) (fun h=> ?_)
  ·simp only [Bool.not_eq_true'] at h
   rw [h];rfl
  ·simp only [Bool.not_eq_false'] at h
   obtain ⟨hd,hd'⟩:=Bool.and_eq_true_iff.1 h
   rw [h,if_pos hd,if_pos hd',if_pos rfl,if_pos rfl]
   obtain ⟨k1,k2,k3⟩:=Dy.cmpD_sign hd hd'
   refine cond_i (fun h1=> ?_) (fun h1=>cond_i (fun h2=> ?_) (fun h2=> ?_))
   ·rw [k1 (of_decide_eq_true h1)]
   ·rw [k2 (of_decide_eq_true h2)]
   ·have h1:=of_decide_eq_false h1
    have h2:=of_decide_eq_false h2
    obtain ⟨k4,k5⟩:=k3 (by omega)
    have hw:IntKind.i64.wrap (Dy.cmpD ⟨s,m,e⟩ ⟨s',m',e'⟩)=Dy.cmpD ⟨s,m,e⟩ ⟨s',m',e'⟩:=by
     have:Dy.cmpD ⟨s,m,e⟩ ⟨s',m',e'⟩= -1∨Dy.cmpD ⟨s,m,e⟩ ⟨s',m',e'⟩=0∨Dy.cmpD ⟨s,m,e⟩ ⟨s',m',e'⟩=1:=Dy.cmpZ_vals _ _
     exact wrap_i64 (by omega) (by omega)
    rw [←k5,hw]
    exact ⟨⟨hd,hd',k4⟩,rfl⟩
 ·cases h
theorem ok_dyad_join (args:List AV) (s:Spec) (h:dJoin args=some s) (hp:andO s.pre True):Contract Tryz.prog Inv 188 args s.res:=by
 unfold dJoin at h
 split at h
 ·cases h
  rename_i p x q y e
  obtain ⟨⟨hx,hy,nx,ny,he⟩, -⟩:=hp
  refine contract0 false ok_tab12 Tryz.func188 (by kernel_rfl) (by kernel_rfl) fun hok=> ?_
  have b1:=Dy.may_bl hx
  have b2:=Dy.may_bl hy
  rw [vc_dyad_join,Dy.addR_dg hx hy,Dy.subR_dg hx hy,Dy.subR_dg hy hx,Dy.int_mk,Dy.int_mk]
  refine cond_i (fun h=> ?_) (fun h=> ?_)
  ·have h:=of_decide_eq_true h
   subst h
   rw [Dy.sgn_add_same,Dy.formZ_sgn]
   intro l1 e1 n2 e2
   by_cases c:Dy.bl (Dy.val x+Dy.val y)≤131072
   ·simp only [if_pos c] at e1 e2
    subst e1 e2
    refine cond_f (by simp) ?_
    rw [Dy.makeD_dg c]
    rintro _ rfl _ rfl _ rfl _ rfl
    rfl
   ·simp only [if_neg c] at e1 e2
    subst e1 e2
    refine cond_t (by simp) ⟨⟨hx,hy,he,?_⟩,?_⟩
    ·have:=mt (Dy.len_bl (n:=Dy.val x+Dy.val y)).1 c
     omega
    ·rintro _ rfl _ rfl _ rfl _ rfl
     rfl
  ·have h:=of_decide_eq_false h
   unfold Dy.cmpR
   rw [hx,hy,Bool.and_self,if_pos rfl]
   intro n11 e11 _ _
   subst e11
   refine cond_i (fun h1=> ?_) (fun h1=> ?_)
   ·have h1:=Dy.cmpN_neg.1 (of_decide_eq_true h1)
    rw [Dy.sgn_sub' h (by omega),Dy.formZ_sgn,if_neg (by omega)]
    rintro _ rfl _ -
    rw [Dy.makeD_dg (Dy.bl_dec (by omega) b2)]
    rintro _ rfl _ rfl _ rfl _ rfl
    rfl
   ·have h1:=mt Dy.cmpN_neg.2 (of_decide_eq_false h1)
    rw [Dy.sgn_sub h (by omega),Dy.formZ_sgn,if_neg (by omega)]
    rintro _ rfl _ -
    rw [Dy.makeD_dg (Dy.bl_dec (by omega) b1)]
    rintro _ rfl _ rfl _ rfl _ rfl
    rfl
 ·cases h
theorem ok_tab13:PhiOk Tryz.prog Inv (look tab13):=look_cons (look_cons ok_tab12 ok_dyad_join) ok_dyad_Cmp
theorem ok_dyad_add (args:List AV) (s:Spec) (h:dAddL args=some s) (hp:andO s.pre True):Contract Tryz.prog Inv 149 args s.res:=by
 unfold dAddL at h
 split at h
 ·cases h
  rename_i s m e s' m' e'
  obtain ⟨⟨hd,hd'⟩, -⟩:=hp
  refine contract0 false ok_tab13 Tryz.func149 (by kernel_rfl) (by kernel_rfl) fun hok=> ?_
  have may1:=Dy.mayD_may hd
  have may2:=Dy.mayD_may hd'
  have b1:=Dy.may_bl may1
  have b2:=Dy.may_bl may2
  have x1:=Dy.mayD_exp hd
  have x2:=Dy.mayD_exp hd'
  have n1:=Dy.may_len may1
  have n2:=Dy.may_len may2
  have l1:Dy.lenN m=Dy.bl (Dy.val m):=by unfold Dy.lenN;rw [if_pos may1]
  have l2:Dy.lenN m'=Dy.bl (Dy.val m'):=by unfold Dy.lenN;rw [if_pos may2]
  rw [vc_dyad_add,l1,l2]
  refine cond_i (fun h=> ?_) (fun h=>cond_i (fun h1=> ?_) (fun h1=> ?_))
  ·have h:=List.length_eq_zero_iff.1 (Int.ofNat_eq_zero.1 (of_decide_eq_true h))
   subst h
   rw [Dy.addD_comm,Dy.addD_nil hd' hd,Dy.boundD_self hd']
   refine ⟨by omega,?_⟩
   rintro _ rfl _ rfl _ rfl
   rfl
  ·have h1:=List.length_eq_zero_iff.1 (Int.ofNat_eq_zero.1 (of_decide_eq_true h1))
   subst h1
   rw [Dy.addD_nil hd hd',Dy.boundD_self hd]
   refine ⟨by omega,?_⟩
   rintro _ rfl _ rfl _ rfl
   rfl
  ·have h:=of_decide_eq_false h
   have h1:=of_decide_eq_false h1
   have m1:m≠[]:=fun e=>h (by rw [e];rfl)
   have m2:m'≠[]:=fun e=>h1 (by rw [e];rfl)
   have v1:=Dy.val_ne may1 m1
   have v2:=Dy.val_ne may2 m2
   have i1:Dy.inside e=true:=Dy.inside_iff.2 x1
   have i2:Dy.inside e'=true:=Dy.inside_iff.2 x2
   rw [wrap_i64 (n:=e'-e) (by omega) (by omega),wrap_i64 (n:=e-e') (by omega) (by omega),wrap_i64 (by omega) (by omega),wrap_i64 (by omega) (by omega)]
   refine cond_i (fun h2=> ?_) (fun h2=> ?_)
   ·have h2:=of_decide_eq_true h2
    rw [Dy.addD_comm]
    refine cond_i (fun h3=> ?_) (fun h3=>cond_i (fun h4=> ?_) (fun h4=> ?_))
    ·have h3:=of_decide_eq_true h3
     rw [Dy.far_long hd' hd m2 m1 (by omega)]
     rfl
    ·have h3:=of_decide_eq_false h3
     have h4:=of_decide_eq_true h4
     refine ⟨⟨hd',hd,m2,m1,rfl,by omega,by omega⟩,?_⟩
     rintro _ rfl _ rfl _ rfl _ rfl
     rfl
    ·have h4:=of_decide_eq_false h4
     obtain ⟨g,hg⟩:∃g:Nat,e'-e=g:=⟨(e'-e).toNat,by omega⟩
     rw [hg] at h4 ⊢
     rw [Dy.shiftN_up may2 g (by omega)]
     rintro _ rfl _-_ -
     have hb:=Dy.bl_mul_two_pow v2 g
     have hp:=Nat.two_pow_pos g
     have hnn:Dy.dg (Dy.val m'*2^g)≠[]:=fun e=>(Nat.mul_ne_zero v2 (by omega)) (Dy.dg_eq_nil.1 e)
     refine ⟨⟨Dy.may_dgn.2 (Dy.len_bl.2 (by omega)),may1,hnn,m1,i1⟩,?_⟩
     rw [Dy.addD_gap (by omega),hg,Int.toNat_natCast,Dy.int_mk,Dy.int_mk,Dy.val_dg]
     rintro _ rfl _ rfl _ rfl _ rfl
     rfl
   ·have h2:=of_decide_eq_false h2
    refine cond_i (fun h3=> ?_) (fun h3=>cond_i (fun h4=> ?_) (fun h4=> ?_))
    ·have h3:=of_decide_eq_true h3
     rw [Dy.far_long hd hd' m1 m2 (by omega)]
     rfl
    ·have h3:=of_decide_eq_false h3
     have h4:=of_decide_eq_true h4
     refine ⟨⟨hd,hd',m1,m2,rfl,by omega,by omega⟩,?_⟩
     rintro _ rfl _ rfl _ rfl _ rfl
     rfl
    ·have h4:=of_decide_eq_false h4
     obtain ⟨g,hg⟩:∃g:Nat,e-e'=g:=⟨(e-e').toNat,by omega⟩
     rw [hg] at h4 ⊢
     rw [Dy.shiftN_up may1 g (by omega)]
     rintro _ rfl _-_ -
     have hb:=Dy.bl_mul_two_pow v1 g
     have hp:=Nat.two_pow_pos g
     have hnn:Dy.dg (Dy.val m*2^g)≠[]:=fun e=>(Nat.mul_ne_zero v1 (by omega)) (Dy.dg_eq_nil.1 e)
     refine ⟨⟨Dy.may_dgn.2 (Dy.len_bl.2 (by omega)),may2,hnn,m2,i2⟩,?_⟩
     rw [Dy.addD_gap (by omega),hg,Int.toNat_natCast,Dy.int_mk,Dy.int_mk,Dy.val_dg]
     rintro _ rfl _ rfl _ rfl _ rfl
     rfl
 ·cases h
theorem ok_tab14:PhiOk Tryz.prog Inv (look tab14):=look_cons ok_tab13 ok_dyad_add
theorem ok_dyad_Add (args:List AV) (s:Spec) (h:dAdd args=some s) (hp:andO s.pre True):Contract Tryz.prog Inv 77 args s.res:=by
 unfold dAdd at h
 split at h
 ·cases h
  rename_i s m e s' m' e'
  refine contract0 false ok_tab14 Tryz.func77 (by kernel_rfl) (by kernel_rfl) fun hok=> ?_
  rw [vc_dyad_Add]
  unfold Dy.boundIf
  refine cond_i (fun h=> ?_) (fun h=> ?_)
  ·simp only [Bool.not_eq_true'] at h
   rw [h];rfl
  ·simp only [Bool.not_eq_false'] at h
   rw [h,if_pos rfl]
   refine ⟨Bool.and_eq_true_iff.1 h,?_⟩
   rintro _ rfl _ rfl _ rfl _ rfl
   rfl
 ·cases h
theorem mayD_neg {s:Bool} {m:List Nat} {e:Int} (h:Dy.mayD ⟨s,m,e⟩=true):Dy.mayD ⟨!s&&decide (m≠[]),m,e⟩=true:=by
 rw [Dy.mayD_iff] at h ⊢
 obtain ⟨h1,h2⟩:=h
 refine ⟨h1,?_⟩
 rcases h2 with ⟨h3,h4,h5⟩|h2
 ·exact .inl ⟨h3,by simp [h3],h5⟩
 ·exact .inr h2
theorem ok_dyad_Sub (args:List AV) (s:Spec) (h:dSub args=some s) (hp:andO s.pre True):Contract Tryz.prog Inv 78 args s.res:=by
 unfold dSub at h
 split at h
 ·cases h
  rename_i s m e s' m' e'
  refine contract0 false ok_tab14 Tryz.func78 (by kernel_rfl) (by kernel_rfl) fun hok=> ?_
  rw [vc_dyad_Sub]
  unfold Dy.boundIf
  refine cond_i (fun h=> ?_) (fun h=> ?_)
  ·simp only [Bool.not_eq_true'] at h
   rw [h];rfl
  ·simp only [Bool.not_eq_false'] at h
   rw [h,if_pos rfl]
   obtain ⟨h1,h2⟩:=Bool.and_eq_true_iff.1 h
   have:=Dy.may_len (Dy.mayD_may h2)
   refine ⟨by omega,?_⟩
   rintro _ rfl _ rfl _ rfl
   refine ⟨⟨h1,mayD_neg h2⟩,?_⟩
   rintro _ rfl _ rfl _ rfl _ rfl
   rfl
 ·cases h
theorem ok_tab15:PhiOk Tryz.prog Inv (look tab15):=look_cons (look_cons ok_tab14 ok_dyad_Sub) ok_dyad_Add
end Go.AI

namespace Go.Dy
def sameD (a b:Dyd):Bool:=(a.neg==b.neg&&a.exp==b.exp)&&decide (a.mag=b.mag)
end Go.Dy
namespace Go.AI
open Go Go.RowKit Go.Proofs
set_option linter.unusedVariables false
def rSameD:List AV→Option Spec
 |[.agg [.bool s,.dig [1] m,.num .i64 e],.agg [.bool s',.dig [2] m',.num .i64 e']]=>some ⟨none,.bool (Dy.sameD ⟨s,m,e⟩ ⟨s',m',e'⟩)⟩
 |_=>none
def rForm:List AV→Option Spec
 |[.bool s,.dig [2] m,.num .i64 e]=>some ⟨some (Dy.dg (Dy.val m)=m∧m.length≤1048576∧ -1099511627776≤e∧e≤1099511627776),avD [0] (Dy.form s (Dy.val m) e)⟩
 |_=>none
def rSign:List AV→Option Spec
 |[.agg [.bool s,.dig [1] m,.num .i64 e]]=>some ⟨none,.num .i64 (Dy.signD ⟨s,m,e⟩)⟩
 |_=>none
def rTop:List AV→Option Spec
 |[.agg [.bool s,.dig [1] m,.num .i64 e]]=>some ⟨some (Dy.dg (Dy.val m)=m∧m.length≤1048576∧ -1099511627776≤e∧e≤1099511627776),.num .i64 (Dy.topD ⟨s,m,e⟩)⟩
 |_=>none
def rNeg:List AV→Option Spec
 |[.agg [.bool s,.dig [1] m,.num .i64 e]]=>some ⟨none,.agg [.bool (if m=[] then s else !s),.dig [0,1] m,.num .i64 e]⟩
 |_=>none
def rAbs:List AV→Option Spec
 |[.agg [.bool s,.dig [1] m,.num .i64 e]]=>some ⟨none,.agg [.bool false,.dig [0,1] m,.num .i64 e]⟩
 |_=>none
def tab16:List (Nat×(List AV→Option Spec)):=(107,rSameD)::(54,rForm)::(36,rSign)::(110,rTop)::(163,rNeg)::(38,rAbs)::
 tab15
def tab17:List (Nat×(List AV→Option Spec)):=(15,dInt)::tab16
end Go.AI

namespace Go.AI
open Dy IntKind
open Go Go.RowKit Go.Proofs
set_option linter.unusedVariables false
set_option maxRecDepth 100000
set_option maxHeartbeats 0
theorem vc_ref2_Same (s:Bool) (s':Bool) (m:List Nat) (m':List Nat) (e:Int) (e':Int) (Q:AV→Prop):(evF Tryz.prog (look tab15) (lam []) false Tryz.f107 [.agg [.bool s,.dig [1] m,.num .i64 e],.agg [.bool s',.dig [2] m',.num .i64 e']] Q)=(bif decide (s=s') then bif decide (e=e') then Q (.bool (decide (m=m'))) else Q (.bool false) else Q (.bool false)):=by kernel_rfl
theorem vc_ref2_Form (s:Bool) (m:List Nat) (e:Int) (Q:AV→Prop):(evF Tryz.prog (look tab15) (lam []) false Tryz.f54 [.bool s,.dig [2] m,.num .i64 e] Q)=(bif decide ((↑m.length:Int)=(0:Int)) then Q (.agg [.bool false,.dig [0] [],.num .i64 0]) else (dg (val m)=m∧m.length≤1048576)∧(dg (val m)=m∧(0:Int)≤(↑(tz (val m)):Int)∧m.length≤1048576)∧∀(l1:List Nat),l1=dg (val m/(2:Nat)^(↑(tz (val m)):Int).toNat)→∀(b2:Bool),b2=decide (val m≠(0:Nat)∧(↑(tz (val m)):Int)<(↑(tz (val m)):Int))→Q (.agg [.bool s,.dig [0] l1,.num .i64 (i64.wrap (e+(↑(tz (val m)):Int)))])):=by kernel_rfl
theorem vc_ref2_Sign (s:Bool) (m:List Nat) (e:Int) (Q:AV→Prop):(evF Tryz.prog (look tab15) (lam []) false Tryz.f36 [.agg [.bool s,.dig [1] m,.num .i64 e]] Q)=(bif decide ((↑m.length:Int)=(0:Int)) then Q (.num .i64 0) else bif s then Q (.num .i64 (-1)) else Q (.num .i64 1)):=by kernel_rfl
theorem vc_ref2_Top (s:Bool) (m:List Nat) (e:Int) (Q:AV→Prop):(evF Tryz.prog (look tab15) (lam []) false Tryz.f110 [.agg [.bool s,.dig [1] m,.num .i64 e]] Q)=(bif decide ((↑m.length:Int)=(0:Int)) then Q (.num .i64 0) else (dg (val m)=m∧m.length≤1048576)∧Q (.num .i64 (i64.wrap (e+(↑(bl (val m)):Int))))):=by kernel_rfl
theorem vc_ref2_Neg (s:Bool) (m:List Nat) (e:Int) (Q:AV→Prop):(evF Tryz.prog (look tab15) (lam []) true Tryz.f163 [.agg [.bool s,.dig [1] m,.num .i64 e]] Q)=(bif decide ((↑m.length:Int)>(0:Int)) then Q (.agg [.bool !s,.dig [0,1] m,.num .i64 e]) else Q (.agg [.bool s,.dig [0,1] m,.num .i64 e])):=by kernel_rfl
theorem vc_ref2_Abs (s:Bool) (m:List Nat) (e:Int) (Q:AV→Prop):(evF Tryz.prog (look tab15) (lam []) true Tryz.f38 [.agg [.bool s,.dig [1] m,.num .i64 e]] Q)=(Q (.agg [.bool false,.dig [0,1] m,.num .i64 e])):=by kernel_rfl
theorem vc_ref2_Int (n:Int) (Q:AV→Prop):(evF Tryz.prog (look tab16) (lam []) false Tryz.f15 [.num .i64 n] Q)=(bif decide (n<0) then (dg (val (dg (u64.wrap ((0:Int)-u64.wrap n)).toNat))=dg (u64.wrap ((0:Int)-u64.wrap n)).toNat∧(dg (u64.wrap ((0:Int)-u64.wrap n)).toNat).length≤1048576∧(-1099511627776:Int)≤(0:Int)∧(0:Int)≤(1099511627776:Int))∧∀(b1:Bool),b1=(form (decide (n<0)) (val (dg (u64.wrap ((0:Int)-u64.wrap n)).toNat)) (0:Int)).neg→∀(l2:List Nat),l2=(form (decide (n<0)) (val (dg (u64.wrap ((0:Int)-u64.wrap n)).toNat)) (0:Int)).mag→∀(n3:Int),n3=(form (decide (n<0)) (val (dg (u64.wrap ((0:Int)-u64.wrap n)).toNat)) (0:Int)).exp→Q (.agg [.bool b1,.dig [0] l2,.num .i64 n3]) else (dg (val (dg (u64.wrap n).toNat))=dg (u64.wrap n).toNat∧(dg (u64.wrap n).toNat).length≤1048576∧(-1099511627776:Int)≤(0:Int)∧(0:Int)≤(1099511627776:Int))∧∀(b4:Bool),b4=(form (decide (n<0)) (val (dg (u64.wrap n).toNat)) (0:Int)).neg→∀(l5:List Nat),l5=(form (decide (n<0)) (val (dg (u64.wrap n).toNat)) (0:Int)).mag→∀(n6:Int),n6=(form (decide (n<0)) (val (dg (u64.wrap n).toNat)) (0:Int)).exp→Q (.agg [.bool b4,.dig [0] l5,.num .i64 n6])):=by kernel_rfl
end Go.AI

namespace Go.AI
open Go Go.RowKit Go.Proofs
set_option linter.unusedVariables false
set_option maxRecDepth 100000
theorem ok_ref2_Same (args:List AV) (s:Spec) (h:rSameD args=some s) (hp:andO s.pre True):Contract Tryz.prog Inv 107 args s.res:=by
 unfold rSameD at h
 split at h
 ·cases h
  refine contract0 false ok_tab15 Tryz.func107 (by kernel_rfl) (by kernel_rfl) fun hok=> ?_
  rw [vc_ref2_Same]
  unfold Dy.sameD
  refine cond_i (fun h=>cond_i (fun h1=> ?_) (fun h1=> ?_)) (fun h=> ?_)
  ·simp only [of_decide_eq_true h,of_decide_eq_true h1,BEq.rfl,Bool.true_and]
  ·have h1:=of_decide_eq_false h1
   simp [h1]
  ·have h:=of_decide_eq_false h
   simp [h]
 ·cases h
theorem ok_ref2_Form (args:List AV) (s:Spec) (h:rForm args=some s) (hp:andO s.pre True):Contract Tryz.prog Inv 54 args s.res:=by
 unfold rForm at h
 split at h
 ·cases h
  rename_i s m e
  obtain ⟨⟨hc,hl,he1,he2⟩, -⟩:=hp
  refine contract0 false ok_tab15 Tryz.func54 (by kernel_rfl) (by kernel_rfl) fun hok=> ?_
  obtain ⟨hm, -⟩:=oks1_dig (oks1_bool hok)
  rw [vc_ref2_Form]
  refine cond_i (fun h=> ?_) (fun h=> ?_)
  ·have h:=List.length_eq_zero_iff.1 (Int.ofNat_eq_zero.1 (of_decide_eq_true h))
   subst h
   rfl
  ·have h:=of_decide_eq_false h
   have h1':m≠[]:=fun e=>h (by rw [e];rfl)
   have hv:Dy.val m≠0:=fun e=>h1' (by rw [←hc,e,Dy.dg_zero])
   have ht:=Dy.tz_lt_bl hv
   have hb:=Dy.bl_le.2 (Dy.val_lt hm.2)
   refine ⟨⟨hc,hl⟩,⟨hc,by omega,hl⟩,?_⟩
   rw [Int.toNat_natCast,wrap_i64 (by omega) (by omega),Dy.form_pos hv]
   rintro _ rfl _ -
   rfl
 ·cases h
theorem ok_ref2_Sign (args:List AV) (s:Spec) (h:rSign args=some s) (hp:andO s.pre True):Contract Tryz.prog Inv 36 args s.res:=by
 unfold rSign at h
 split at h
 ·cases h
  rename_i s m e
  refine contract0 false ok_tab15 Tryz.func36 (by kernel_rfl) (by kernel_rfl) fun hok=> ?_
  rw [vc_ref2_Sign]
  unfold Dy.signD
  refine cond_i (fun h1=> ?_) (fun h1=> ?_)
  ·have h1:=List.length_eq_zero_iff.1 (Int.ofNat_eq_zero.1 (of_decide_eq_true h1))
   subst h1
   rfl
  ·have h1:=of_decide_eq_false h1
   have h1':m≠[]:=fun e=>h1 (by rw [e];rfl)
   simp only [if_neg h1']
   cases s<;>rfl
 ·cases h
theorem ok_ref2_Top (args:List AV) (s:Spec) (h:rTop args=some s) (hp:andO s.pre True):Contract Tryz.prog Inv 110 args s.res:=by
 unfold rTop at h
 split at h
 ·cases h
  rename_i s m e
  obtain ⟨⟨hc,hl,he1,he2⟩, -⟩:=hp
  refine contract0 false ok_tab15 Tryz.func110 (by kernel_rfl) (by kernel_rfl) fun hok=> ?_
  obtain ⟨hm, -⟩:=oks_d hok
  have hb:=Dy.bl_le.2 (Dy.val_lt hm.2)
  rw [vc_ref2_Top]
  unfold Dy.topD
  refine cond_i (fun h1=> ?_) (fun h1=> ?_)
  ·have h1:=List.length_eq_zero_iff.1 (Int.ofNat_eq_zero.1 (of_decide_eq_true h1))
   subst h1
   rfl
  ·have h1:=of_decide_eq_false h1
   have h1':m≠[]:=fun e=>h1 (by rw [e];rfl)
   simp only [if_neg h1']
   rw [wrap_i64 (by omega) (by omega)]
   exact ⟨⟨hc,hl⟩,rfl⟩
 ·cases h
theorem ok_ref2_Neg (args:List AV) (s:Spec) (h:rNeg args=some s) (hp:andO s.pre True):Contract Tryz.prog Inv 163 args s.res:=by
 unfold rNeg at h
 split at h
 ·cases h
  rename_i s m e
  refine contract0 true ok_tab15 Tryz.func163 (by kernel_rfl) (by kernel_rfl) fun hok=> ?_
  rw [vc_ref2_Neg]
  refine cond_i (fun h=> ?_) (fun h=> ?_)
  ·have h:=of_decide_eq_true h
   have h1':m≠[]:=fun e=>by rw [e] at h;simp at h
   simp only [if_neg h1']
  ·have h:=of_decide_eq_false h
   have h1':m=[]:=List.length_eq_zero_iff.1 (by omega)
   simp only [if_pos h1']
 ·cases h
theorem ok_ref2_Abs (args:List AV) (s:Spec) (h:rAbs args=some s) (hp:andO s.pre True):Contract Tryz.prog Inv 38 args s.res:=by
 unfold rAbs at h
 split at h
 ·cases h
  refine contract0 true ok_tab15 Tryz.func38 (by kernel_rfl) (by kernel_rfl) fun hok=> ?_
  rw [vc_ref2_Abs]
 ·cases h
theorem ok_tab16:PhiOk Tryz.prog Inv (look tab16):=
 look_cons (look_cons (look_cons (look_cons (look_cons (look_cons (ok_tab15) ok_ref2_Abs) ok_ref2_Neg) ok_ref2_Top) ok_ref2_Sign) ok_ref2_Form) ok_ref2_Same
theorem ok_ref2_Int (args:List AV) (s:Spec) (h:dInt args=some s) (hp:andO s.pre True):Contract Tryz.prog Inv 15 args s.res:=by
 unfold dInt at h
 split at h
 ·cases h
  rename_i n
  refine contract0 false ok_tab16 Tryz.func15 (by kernel_rfl) (by kernel_rfl) fun hok=> ?_
  have hn:=range_i64 (oks1_num hok).1
  rw [vc_ref2_Int,wrap_u64,wrap_u64]
  unfold Dy.intD Dy.formZ
  have hlen:(Dy.dg n.natAbs).length≤1048576:=Dy.length_dg_bl.2 (by have:=(Dy.bl_le (n:=n.natAbs) (k:=64)).2 (by omega);omega)
  refine cond_i (fun h=> ?_) (fun h=> ?_)
  ·have h:=of_decide_eq_true h
   rw [show ((0-n%18446744073709551616)%18446744073709551616).toNat=n.natAbs by omega,Dy.val_dg]
   refine ⟨⟨rfl,hlen,by omega,by omega⟩,?_⟩
   rintro _ rfl _ rfl _ rfl
   rfl
  ·have h:=of_decide_eq_false h
   rw [show (n%18446744073709551616).toNat=n.natAbs by omega,Dy.val_dg]
   refine ⟨⟨rfl,hlen,by omega,by omega⟩,?_⟩
   rintro _ rfl _ rfl _ rfl
   rfl
 ·cases h
theorem ok_tab17:PhiOk Tryz.prog Inv (look tab17):=look_cons (ok_tab16) ok_ref2_Int
end Go.AI

namespace Go.Dy
set_option maxRecDepth 100000
set_option linter.unusedVariables false
theorem formZ_at {d:Dyd} {u:Int} (h:mayD d=true) (hu:u≤d.exp):formZ (at_ d u) u=d:=by
 obtain ⟨s,m,e⟩:=d
 unfold at_
 simp only at hu ⊢
 rw [formZ_mul,show u+((e-u).toNat:Int)=e by omega]
 exact formZ_self h
theorem at_zero (u:Int):at_ zeroD u=0:=by unfold at_ Dyd.int zeroD;simp [val]
theorem at_form {s:Bool} {n:Nat} {e u:Int} (hu:u≤e):at_ (form s n e) u=sgn s (n*2^(e-u).toNat):=by
 by_cases c:n=0
 ·subst c
  rw [form_zero,at_zero,Nat.zero_mul,sgn_zero]
 ·rw [form_pos c,at_mk,val_dg,show (e+(tz n:Int)-u).toNat=tz n+(e-u).toNat by omega,Nat.pow_add,←Nat.mul_assoc,Nat.div_mul_cancel (two_tz_dvd n)]
theorem at_formZ {z e u:Int} (hu:u≤e):at_ (formZ z e) u=z*2^(e-u).toNat:=by
 unfold formZ
 rw [at_form hu,←sgn_mul,←sgn_natAbs,show (((2^(e-u).toNat:Nat):Int))=(2:Int)^(e-u).toNat by simp]
theorem at_formZ_self (z u:Int):at_ (formZ z u) u=z:=by
 rw [at_formZ (Int.le_refl _),show (u-u).toNat=0 by omega,Int.pow_zero,Int.mul_one]
theorem at_scale (d:Dyd) {u v:Int} (hv:v≤u) (hu:u≤d.exp):at_ d v=at_ d u*2^(u-v).toNat:=by
 unfold at_
 rw [Int.mul_assoc,←Int.pow_add,show (d.exp-v).toNat=(d.exp-u).toNat+(u-v).toNat by omega]
theorem addD_at {a b:Dyd} {u:Int} (ha:u≤a.exp) (hb:u≤b.exp):addD a b=formZ (at_ a u+at_ b u) u:=by
 unfold addD
 have h1:u≤unit a b:=by unfold unit;omega
 have h2:unit a b≤a.exp:=by unfold unit;omega
 have h3:unit a b≤b.exp:=by unfold unit;omega
 rw [at_scale a h1 h2,at_scale b h1 h3,←Int.add_mul,formZ_mul,show u+((unit a b-u).toNat:Int)=unit a b by omega]
theorem at_addD {a b:Dyd} {u:Int} (ha:u≤a.exp) (hb:u≤b.exp):at_ (addD a b) u=at_ a u+at_ b u:=by rw [addD_at ha hb,at_formZ_self]
theorem at_mulD {a b:Dyd} {u v:Int} (ha:u≤a.exp) (hb:v≤b.exp):at_ (mulD a b) (u+v)=at_ a u*at_ b v:=by
 obtain ⟨s,m,e⟩:=a
 obtain ⟨s',m',e'⟩:=b
 unfold mulD
 simp only at ha hb ⊢
 rw [at_form (by omega),at_mk,at_mk,show (e+e'-(u+v)).toNat=(e-u).toNat+(e'-v).toNat by omega,Nat.pow_add]
 have hn:val m*val m'*(2^(e-u).toNat*2^(e'-v).toNat)=(val m*2^(e-u).toNat)*(val m'*2^(e'-v).toNat):=by
  rw [Nat.mul_mul_mul_comm]
 rw [hn]
 generalize val m*2^(e-u).toNat=A
 generalize val m'*2^(e'-v).toNat=B
 unfold sgn
 cases s<;>cases s'<;>simp [Int.neg_mul,Int.mul_neg]
theorem at_negD {b:Dyd} (u:Int):at_ (negD b) u= -at_ b u:=by
 obtain ⟨s,m,e⟩:=b
 unfold negD
 simp only
 rw [at_mk,at_mk]
 by_cases c:m=[]
 ·subst c
  simp [val,sgn]
 ·unfold sgn
  cases s<;>simp [c]
structure Fit (d:Dyd) (L E:Nat):Prop where
 may:mayD d=true
 bits:bl (val d.mag)≤L
 lo: -(E:Int)≤d.exp
 hi:d.exp≤E
theorem Fit.mono {d:Dyd} {L E L' E':Nat} (h:Fit d L E) (hl:L≤L') (he:E≤E'):Fit d L' E':=⟨h.may,Nat.le_trans h.bits hl,by have:=h.lo;omega,by have:=h.hi;omega⟩
theorem fit_form {s:Bool} {n:Nat} {e:Int} {L E:Nat} (hb:bl n≤L) (h1: -(E:Int)≤e) (h2:e+bl n≤E) (hL:L≤131072) (hE:E≤16777216):Fit (form s n e) L E∧boundD (form s n e)=(form s n e,0):=by
 have hf:Fit (form s n e) L E:=by
  by_cases c:n=0
  ·subst c
   rw [form_zero]
   exact ⟨mayD_zero,by unfold zeroD;simp only [val,bl_zero];omega,by unfold zeroD;simp only;omega,by unfold zeroD;simp only;omega⟩
  ·have ht:=tz_lt_bl c
   have hbl:bl (n/2^tz n)≤L:=by rw [bl_div_two_pow];omega
   rw [form_pos c]
   refine ⟨?_,by rw [val_dg];exact hbl,by simp only;omega,by simp only;omega⟩
   rw [mayD_iff]
   refine ⟨may_dgn.2 (len_bl.2 (by omega)),.inr ⟨fun e=> ?_,by rw [val_dg];exact div_tz_odd c,inside_iff.2 (by omega)⟩⟩
   have:=dg_eq_nil.1 e
   have h0:=div_tz_odd c
   omega
 exact ⟨hf,boundD_self hf.may⟩
theorem fit_formZ {z e:Int} {L E:Nat} (hb:bl z.natAbs≤L) (h1: -(E:Int)≤e) (h2:e+bl z.natAbs≤E) (hL:L≤131072) (hE:E≤16777216):Fit (formZ z e) L E∧boundD (formZ z e)=(formZ z e,0):=fit_form hb h1 h2 hL hE
theorem natAbs_sgn (s:Bool) (n:Nat):(sgn s n).natAbs=n:=by unfold sgn;cases s<;>simp
theorem at_bits {d:Dyd} {L E:Nat} (h:Fit d L E) {u:Int} (hu:u≤d.exp):bl (at_ d u).natAbs≤L+(d.exp-u).toNat:=by
 obtain ⟨s,m,e⟩:=d
 have h1:=h.bits
 simp only at h1 hu ⊢
 rw [at_mk,natAbs_sgn]
 by_cases c:val m=0
 ·rw [c,Nat.zero_mul,bl_zero];omega
 ·rw [bl_mul_two_pow c];omega
theorem bl_sum {x y:Int} {k:Nat} (hx:bl x.natAbs≤k) (hy:bl y.natAbs≤k):bl (x+y).natAbs≤k+1:=by
 have h1:=bl_le.1 hx
 have h2:=bl_le.1 hy
 refine bl_le.2 ?_
 rw [Nat.pow_succ]
 omega
theorem fit_add {a b:Dyd} {L E:Nat} (ha:Fit a L E) (hb:Fit b L E) (hL:L+2*E+1≤131072) (hE:L+3*E+1≤16777216):
  Fit (addD a b) (L+2*E+1) (L+3*E+1)∧boundD (addD a b)=(addD a b,0):=by
 unfold addD
 have a1:=ha.lo
 have a2:=ha.hi
 have b1:=hb.lo
 have b2:=hb.hi
 have u1:unit a b≤a.exp:=by unfold unit;omega
 have u2:unit a b≤b.exp:=by unfold unit;omega
 have u3: -(E:Int)≤unit a b:=by unfold unit;omega
 have k1:=at_bits ha u1
 have k2:=at_bits hb u2
 have k3:=bl_sum (x:=at_ a (unit a b)) (y:=at_ b (unit a b)) (k:=L+2*E) (by omega) (by omega)
 exact fit_formZ k3 (by omega) (by omega) hL hE
theorem fit_neg {b:Dyd} {L E:Nat} (h:Fit b L E):Fit (negD b) L E:=by
 obtain ⟨s,m,e⟩:=b
 exact ⟨AI.mayD_neg h.may,h.bits,h.lo,h.hi⟩
theorem fit_mul {a b:Dyd} {L E:Nat} (ha:Fit a L E) (hb:Fit b L E) (hL:2*L≤131072) (hE:2*E+2*L≤16777216):
  Fit (mulD a b) (2*L) (2*E+2*L)∧boundD (mulD a b)=(mulD a b,0):=by
 unfold mulD
 have a1:=ha.lo
 have a2:=ha.hi
 have b1:=hb.lo
 have b2:=hb.hi
 have k:bl (val a.mag*val b.mag)≤2*L:=by
  refine bl_le.2 ?_
  rw [show 2*L=L+L by omega,Nat.pow_add]
  exact Nat.mul_lt_mul'' (bl_le.1 ha.bits) (bl_le.1 hb.bits)
 exact fit_form k (by omega) (by omega) hL hE
theorem boundIf_add {a b:Dyd} {L E:Nat} (ha:Fit a L E) (hb:Fit b L E) (hL:L+2*E+1≤131072) (hE:L+3*E+1≤16777216):boundIf (mayD a&&mayD b) (addD a b)=(addD a b,0):=by
 unfold boundIf
 rw [ha.may,hb.may,(fit_add ha hb hL hE).2]
 rfl
theorem boundIf_sub {a b:Dyd} {L E:Nat} (ha:Fit a L E) (hb:Fit b L E) (hL:L+2*E+1≤131072) (hE:L+3*E+1≤16777216):boundIf (mayD a&&mayD b) (addD a (negD b))=(addD a (negD b),0):=by
 unfold boundIf
 rw [ha.may,hb.may,(fit_add ha (fit_neg hb) hL hE).2]
 rfl
section
variable {a b c:Dyd} (ha:Fit a 3200 3000) (hb:Fit b 3200 3000) (hc:Fit c 3200 3000)
include ha hb hc
end
theorem cmpZ_mul (a b:Int) (k:Nat):cmpZ (a*2^k) (b*2^k)=cmpZ a b:=by
 have hp:(0:Int)<2^k:=Int.pow_pos (by decide)
 unfold cmpZ
 by_cases h1:a<b
 ·rw [if_pos h1,if_pos (Int.mul_lt_mul_of_pos_right h1 hp)]
 ·by_cases h2:b<a
  ·have:=Int.mul_lt_mul_of_pos_right h2 hp
   rw [if_neg h1,if_pos h2,if_neg (by omega),if_pos this]
  ·have:a=b:=by omega
   subst this
   simp
theorem cmpD_at {a b:Dyd} {u:Int} (ha:u≤a.exp) (hb:u≤b.exp):cmpD a b=cmpZ (at_ a u) (at_ b u):=by
 unfold cmpD
 have h1:u≤unit a b:=by unfold unit;omega
 have h2:unit a b≤a.exp:=by unfold unit;omega
 have h3:unit a b≤b.exp:=by unfold unit;omega
 rw [at_scale a h1 h2,at_scale b h1 h3,cmpZ_mul]
theorem signD_at {d:Dyd} {u:Int} (hd:mayD d=true) (hu:u≤d.exp):signD d=cmpZ (at_ d u) 0:=by
 obtain ⟨s,m,e⟩:=d
 rw [at_mk]
 unfold signD
 simp only
 by_cases c:m=[]
 ·subst c
  simp [val,sgn,cmpZ]
 ·have hv:=val_ne (mayD_may hd) c
  have hp:=Nat.two_pow_pos (e-u).toNat
  have:0<val m*2^(e-u).toNat:=Nat.mul_pos (by omega) hp
  generalize val m*2^(e-u).toNat=A at*
  simp only [if_neg c]
  unfold sgn
  cases s
  ·simp only [Bool.false_eq_true,if_false]
   exact (cmpZ_gt (by omega)).symm
  ·simp only [if_true]
   exact (cmpZ_lt (by omega)).symm
end Go.Dy

namespace Go.Dy
def floorD (d:Dyd):Dyd:=if 0≤d.exp then d else formZ (d.int/2^(-d.exp).toNat) 0
def shiftD (d:Dyd) (n:Int):Dyd×Int:=
 if mayD d then (if d.mag=[] then (zeroD,0) else if inside (d.exp+n) then (⟨d.neg,d.mag,d.exp+n⟩,0) else (zeroD,20)) else (zeroD,2)
def askD (b:Int):Int:=if b<1 then 2 else if 8192<b then 3 else 0
def overD (d:Dyd) (b:Int):Int:=(bl (val d.mag):Int)-b
def headD (d:Dyd) (b:Int):Dyd:=form d.neg (val d.mag/2^(overD d b).toNat) (d.exp+overD d b)
structure Cutd where
 num:Dyd
 lost:Bool
 err:Int
def cutL (d:Dyd) (b:Int):Cutd:=if overD d b≤0 then ⟨d,false,0⟩ else ⟨(boundD (headD d b)).1,decide ((boundD (headD d b)).2=0),(boundD (headD d b)).2⟩
def cutD (d:Dyd) (b:Int):Cutd:=if mayD d then (if askD b=0 then cutL d b else ⟨zeroD,false,askD b⟩) else ⟨zeroD,false,2⟩
end Go.Dy
namespace Go.AI
open Go Go.RowKit Go.Proofs
set_option linter.unusedVariables false
def dShift:List AV→Option Spec
 |[.agg [.bool s,.dig [1] m,.num .i64 e],.num .i64 n]=>some ⟨none,.tup [avD [0] (Dy.shiftD ⟨s,m,e⟩ n).1,.num .i64 (Dy.shiftD ⟨s,m,e⟩ n).2]⟩
 |_=>none
def dAsked:List AV→Option Spec
 |[.num .i64 b]=>some ⟨none,.num .i64 (Dy.askD b)⟩
 |_=>none
def dCutL:List AV→Option Spec
 |[.agg [.bool s,.dig [1] m,.num .i64 e],.num .i64 b]=>some ⟨some (Dy.mayD ⟨s,m,e⟩=true∧1≤b),
   .tup [avD [0] (Dy.cutL ⟨s,m,e⟩ b).num,.bool (Dy.cutL ⟨s,m,e⟩ b).lost,.num .i64 (Dy.cutL ⟨s,m,e⟩ b).err]⟩
 |_=>none
def dCut:List AV→Option Spec
 |[.agg [.bool s,.dig [1] m,.num .i64 e],.num .i64 b]=>some ⟨none,
   .tup [avD [0] (Dy.cutD ⟨s,m,e⟩ b).num,.bool (Dy.cutD ⟨s,m,e⟩ b).lost,.num .i64 (Dy.cutD ⟨s,m,e⟩ b).err]⟩
 |_=>none
def tab18:List (Nat×(List AV→Option Spec)):=(79,dShift)::(143,dAsked)::(212,dCutL)::tab17
def tab19:List (Nat×(List AV→Option Spec)):=(192,dCut)::tab18
end Go.AI

namespace Go.AI
open Dy IntKind
open Go Go.RowKit Go.Proofs
set_option linter.unusedVariables false
set_option maxRecDepth 100000
set_option maxHeartbeats 0
theorem vc_dyad_Shift (s:Bool) (m:List Nat) (e:Int) (n:Int) (Q:AV→Prop):(evF Tryz.prog (look tab17) (lam []) false Tryz.f79 [.agg [.bool s,.dig [1] m,.num .i64 e],.num .i64 n] Q)=(bif !mayD (Dyd.mk s m e) then Q (.tup [.agg [.bool false,.dig [0] [],.num .i64 0],.num .i64 2]) else bif decide ((↑m.length:Int)=(0:Int)) then Q (.tup [.agg [.bool false,.dig [0] [],.num .i64 0],.num .i64 0]) else bif decide (n>i64.wrap ((16777216:Int)-e)) then Q (.tup [.agg [.bool false,.dig [0] [],.num .i64 0],.num .i64 20]) else bif decide (n<i64.wrap ((-16777216:Int)-e)) then Q (.tup [.agg [.bool false,.dig [0] [],.num .i64 0],.num .i64 20]) else m.length≤1048576∧∀(b1:Bool),b1=s→∀(l2:List Nat),l2=m→∀(n3:Int),n3=e→Q (.tup [.agg [.bool b1,.dig [0] l2,.num .i64 (i64.wrap (n3+n))],.num .i64 0])):=by kernel_rfl
theorem vc_dyad_asked (b:Int) (Q:AV→Prop):(evF Tryz.prog (look tab17) (lam []) false Tryz.f143 [.num .i64 b] Q)=(bif decide (b<1) then Q (.num .i64 2) else bif decide (b>(8192:Int)) then Q (.num .i64 3) else Q (.num .i64 0)):=by kernel_rfl
theorem vc_dyad_cut (s:Bool) (m:List Nat) (e:Int) (b:Int) (Q:AV→Prop):(evF Tryz.prog (look tab17) (lam []) false Tryz.f212 [.agg [.bool s,.dig [1] m,.num .i64 e],.num .i64 b] Q)=(bif decide (i64.wrap ((↑(lenN m):Int)-b)≤(0:Int)) then m.length≤1048576∧∀(b1:Bool),b1=s→∀(l2:List Nat),l2=m→∀(n3:Int),n3=e→Q (.tup [.agg [.bool b1,.dig [0] l2,.num .i64 n3],.bool false,.num .i64 0]) else∀(l4:List Nat),l4=(shiftN m (i64.wrap ((0:Int)-i64.wrap ((↑(lenN m):Int)-b)))).mag→∀(b5:Bool),b5=(shiftN m (i64.wrap ((0:Int)-i64.wrap ((↑(lenN m):Int)-b)))).lost→∀(n6:Int),n6=(shiftN m (i64.wrap ((0:Int)-i64.wrap ((↑(lenN m):Int)-b)))).err→∀(b7:Bool),b7=(makeD s l4 (i64.wrap (e+i64.wrap ((↑(lenN m):Int)-b)))).1.neg→∀(l8:List Nat),l8=(makeD s l4 (i64.wrap (e+i64.wrap ((↑(lenN m):Int)-b)))).1.mag→∀(n9:Int),n9=(makeD s l4 (i64.wrap (e+i64.wrap ((↑(lenN m):Int)-b)))).1.exp→∀(n10:Int),n10=(makeD s l4 (i64.wrap (e+i64.wrap ((↑(lenN m):Int)-b)))).snd→Q (.tup [.agg [.bool b7,.dig [0] l8,.num .i64 n9],.bool (n10==(0:Int)),.num .i64 n10])):=by kernel_rfl
theorem vc_dyad_Cut (s:Bool) (m:List Nat) (e:Int) (b:Int) (Q:AV→Prop):(evF Tryz.prog (look tab18) (lam []) false Tryz.f192 [.agg [.bool s,.dig [1] m,.num .i64 e],.num .i64 b] Q)=(bif !mayD (Dyd.mk s m e) then Q (.tup [.agg [.bool false,.dig [0] [],.num .i64 0],.bool false,.num .i64 2]) else bif !decide (askD b=(0:Int)) then Q (.tup [.agg [.bool false,.dig [0] [],.num .i64 0],.bool false,.num .i64 (askD b)]) else (mayD (Dyd.mk s m e)=true∧1≤b)∧∀(b1:Bool),b1=(cutL (Dyd.mk s m e) b).num.neg→∀(l2:List Nat),l2=(cutL (Dyd.mk s m e) b).num.mag→∀(n3:Int),n3=(cutL (Dyd.mk s m e) b).num.exp→∀(b4:Bool),b4=(cutL (Dyd.mk s m e) b).lost→∀(n5:Int),n5=(cutL (Dyd.mk s m e) b).err→Q (.tup [.agg [.bool b1,.dig [0] l2,.num .i64 n3],.bool b4,.num .i64 n5])):=by kernel_rfl
end Go.AI

namespace Go.Dy
set_option maxRecDepth 100000
theorem ediv_eq {x P z:Int} (hP:0<P) (h1:z*P≤x) (h2:x<(z+1)*P):x/P=z:=by
 have a1:=(Int.le_ediv_iff_mul_le (a:=z) (b:=x) hP).2 h1
 have a2:=(Int.ediv_lt_iff_lt_mul (a:=x) (b:=z+1) hP).2 h2
 omega
theorem floor_sgn (s:Bool) (M k:Nat):sgn s M/2^k=sgn s (if s&&decide (M%2^k≠0) then M/2^k+1 else M/2^k):=by
 have hp:=Nat.two_pow_pos k
 rw [show ((2:Int)^k)=((2^k:Nat):Int) by simp]
 have hM:=Nat.div_add_mod M (2^k)
 have hr:=Nat.mod_lt M hp
 generalize 2^k=P at*
 unfold sgn
 cases s
 ·simp
 ·simp only [if_true,Bool.true_and]
  by_cases c:M%P=0
  ·simp only [c,ne_eq,not_true,decide_false,Bool.false_eq_true,if_false]
   refine ediv_eq (by omega) ?_ ?_
   ·rw [c,Nat.add_zero] at hM
    rw [Int.neg_mul,←Int.natCast_mul,Nat.mul_comm]
    omega
   ·rw [c,Nat.add_zero] at hM
    rw [Int.add_mul,Int.neg_mul,←Int.natCast_mul,Nat.mul_comm]
    omega
  ·simp only [ne_eq,c,not_false_eq_true,decide_true,if_true]
   refine ediv_eq (by omega) ?_ ?_
   ·rw [Int.neg_mul,←Int.natCast_mul,Nat.add_mul,Nat.one_mul,Nat.mul_comm]
    omega
   ·rw [Int.add_mul,Int.neg_mul,←Int.natCast_mul,Nat.add_mul,Nat.one_mul,Nat.mul_comm]
    omega
theorem lost_iff {M k:Nat} (h:M≠0):decide ((tz M:Int)<(k:Int))=decide (M%2^k≠0):=by
 rw [decide_eq_decide]
 have:=dvd_iff_le_tz h k
 constructor
 ·intro h1 h2;have:=this.1 h2;omega
 ·intro h1
  by_cases c:k≤tz M
  ·exact absurd (this.2 c) h1
  ·omega
theorem shiftN_lost {a:List Nat} (h:may a=true) (n:Nat) (h0:val a≠0) (hn:0<n):(shiftN a (-(n:Int))).lost=decide (val a%2^n≠0):=by
 unfold shiftN
 rw [if_pos h,if_neg h0,if_pos (by omega)]
 simp only [Int.neg_neg]
 exact lost_iff h0
theorem bl_half_succ {n k:Nat} (h:bl n≤k):bl (n+1)≤k+1:=by
 have:=bl_le.1 h
 exact bl_le.2 (by rw [Nat.pow_succ];omega)
end Go.Dy
namespace Go.AI
open Go Go.RowKit Go.Proofs
set_option linter.unusedVariables false
set_option maxRecDepth 100000
theorem ok_dyad_Shift (args:List AV) (s:Spec) (h:dShift args=some s) (hp:andO s.pre True):Contract Tryz.prog Inv 79 args s.res:=by
 unfold dShift at h
 split at h
 ·cases h
  rename_i s m e n
  refine contract0 false ok_tab17 Tryz.func79 (by kernel_rfl) (by kernel_rfl) fun hok=> ?_
  obtain ⟨-, -,h5⟩:=oks_d hok
  have hn:=range_i64 (oks1_num h5).1
  rw [vc_dyad_Shift]
  unfold Dy.shiftD
  refine cond_i (fun h=> ?_) (fun h=> ?_)
  ·simp only [Bool.not_eq_true'] at h
   simp only [h,Bool.false_eq_true,if_false]
   rfl
  ·simp only [Bool.not_eq_false'] at h
   have hl:=Dy.may_len (Dy.mayD_may h)
   have hx:=Dy.mayD_exp h
   simp only [h,if_true]
   rw [wrap_i64 (n:=16777216-e) (by omega) (by omega),wrap_i64 (n:= -16777216-e) (by omega) (by omega)]
   have far:¬(-16777216≤e+n∧e+n≤16777216)→(if Dy.inside (e+n)=true then ((⟨s,m,e+n⟩:Dy.Dyd),(0:Int)) else (Dy.zeroD,20))=(Dy.zeroD,20):=fun hf=>by rw [if_neg (fun h=>hf (Dy.inside_iff.1 h))]
   refine cond_i (fun h1=> ?_) (fun h1=> ?_)
   ·have h1:=List.length_eq_zero_iff.1 (Int.ofNat_eq_zero.1 (of_decide_eq_true h1))
    subst h1
    rfl
   ·have h1:=of_decide_eq_false h1
    have h1':m≠[]:=fun e=>h1 (by rw [e];rfl)
    simp only [if_neg h1']
    refine cond_i (fun h2=> ?_) (fun h2=>cond_i (fun h3=> ?_) (fun h3=> ?_))
    ·have h2:=of_decide_eq_true h2
     rw [far (by omega)]
     rfl
    ·have h3:=of_decide_eq_true h3
     rw [far (by omega)]
     rfl
    ·have h2:=of_decide_eq_false h2
     have h3:=of_decide_eq_false h3
     rw [if_pos (Dy.inside_iff.2 (by omega))]
     refine ⟨by omega,?_⟩
     rintro _ rfl _ rfl _ rfl
     rw [wrap_i64 (by omega) (by omega)]
     rfl
 ·cases h
theorem ok_dyad_asked (args:List AV) (s:Spec) (h:dAsked args=some s) (hp:andO s.pre True):Contract Tryz.prog Inv 143 args s.res:=by
 unfold dAsked at h
 split at h
 ·cases h
  rename_i b
  refine contract0 false ok_tab17 Tryz.func143 (by kernel_rfl) (by kernel_rfl) fun hok=> ?_
  rw [vc_dyad_asked]
  unfold Dy.askD
  refine cond_i (fun h=> ?_) (fun h=>cond_i (fun h1=> ?_) (fun h1=> ?_))
  ·rw [if_pos (of_decide_eq_true h)]
  ·rw [if_neg (of_decide_eq_false h),if_pos (of_decide_eq_true h1)]
  ·rw [if_neg (of_decide_eq_false h),if_neg (of_decide_eq_false h1)]
 ·cases h
theorem ok_dyad_cut (args:List AV) (s:Spec) (h:dCutL args=some s) (hp:andO s.pre True):Contract Tryz.prog Inv 212 args s.res:=by
 unfold dCutL at h
 split at h
 ·cases h
  rename_i s m e b
  have h:=hp.1.1
  have hb1:=hp.1.2
  refine contract0 false ok_tab17 Tryz.func212 (by kernel_rfl) (by kernel_rfl) fun hok=> ?_
  have h5:=(oks_d hok).2.2
  have hn:=range_i64 (oks1_num h5).1
  have hm:=Dy.mayD_may h
  have hl:=Dy.may_len hm
  have hx:=Dy.mayD_exp h
  have hb:=Dy.may_bl hm
  have l1:Dy.lenN m=Dy.bl (Dy.val m):=by unfold Dy.lenN;rw [if_pos hm]
  rw [vc_dyad_cut,l1]
  unfold Dy.cutL Dy.headD Dy.overD
  simp only
  rw [wrap_i64 (n:=(Dy.bl (Dy.val m):Int)-b) (by omega) (by omega)]
  refine cond_i (fun h1=> ?_) (fun h1=> ?_)
  ·have h1:=of_decide_eq_true h1
   rw [if_pos h1]
   refine ⟨by omega,?_⟩
   rintro _ rfl _ rfl _ rfl
   rfl
  ·have h1:=of_decide_eq_false h1
   rw [if_neg h1]
   obtain ⟨n,hn'⟩:∃n:Nat,(Dy.bl (Dy.val m):Int)-b=n:=⟨((Dy.bl (Dy.val m):Int)-b).toNat,by omega⟩
   rw [hn',wrap_i64 (n:=(0:Int)-n) (by omega) (by omega),wrap_i64 (by omega) (by omega),show (0:Int)-(n:Int)= -(n:Int) by omega,Dy.shiftN_neg hm,Int.toNat_natCast]
   rintro _ rfl _-_ -
   rw [Dy.makeD_dg (by rw [Dy.bl_div_two_pow];omega)]
   rintro _ rfl _ rfl _ rfl _ rfl
   rfl
 ·cases h
theorem ok_tab18:PhiOk Tryz.prog Inv (look tab18):=look_cons (look_cons (look_cons ok_tab17 ok_dyad_cut) ok_dyad_asked) ok_dyad_Shift
theorem ok_dyad_Cut (args:List AV) (s:Spec) (h:dCut args=some s) (hp:andO s.pre True):Contract Tryz.prog Inv 192 args s.res:=by
 unfold dCut at h
 split at h
 ·cases h
  rename_i s m e b
  refine contract0 false ok_tab18 Tryz.func192 (by kernel_rfl) (by kernel_rfl) fun hok=> ?_
  rw [vc_dyad_Cut]
  unfold Dy.cutD
  refine cond_i (fun h=> ?_) (fun h=> ?_)
  ·simp only [Bool.not_eq_true'] at h
   simp only [h,Bool.false_eq_true,if_false]
   rfl
  ·simp only [Bool.not_eq_false'] at h
   simp only [h,if_true]
   refine cond_i (fun h1=> ?_) (fun h1=> ?_)
   ·simp only [Bool.not_eq_true',decide_eq_false_iff_not] at h1
    rw [if_neg h1]
    rfl
   ·simp only [Bool.not_eq_false',decide_eq_true_eq] at h1
    rw [if_pos h1]
    have hb1:1≤b:=by
     unfold Dy.askD at h1
     split at h1
     ·omega
     ·omega
    refine ⟨⟨trivial,hb1⟩,?_⟩
    rintro _ rfl _ rfl _ rfl _ rfl _ rfl
    rfl
 ·cases h
theorem ok_tab19:PhiOk Tryz.prog Inv (look tab19):=look_cons ok_tab18 ok_dyad_Cut
end Go.AI

namespace Go.AI
open Dy IntKind
open Go Go.RowKit Go.Proofs
set_option linter.unusedVariables false
set_option maxRecDepth 100000
set_option maxHeartbeats 0
end Go.AI

namespace Go.AI
open Go Go.RowKit Go.Proofs
set_option linter.unusedVariables false
set_option maxRecDepth 100000
theorem t1 {p q:Prop} (h:p):bif decide ((0:Int)=0) then p else q:=h
theorem cmpZ_spec (a b:Int):(a<b∧Dy.cmpZ a b= -1)∨(a=b∧Dy.cmpZ a b=0)∨(b<a∧Dy.cmpZ a b=1):=by
 unfold Dy.cmpZ
 by_cases h1:a<b
 ·exact .inl ⟨h1,if_pos h1⟩
 ·by_cases h2:b<a
  ·exact .inr (.inr ⟨h2,by rw [if_neg h1,if_pos h2]⟩)
  ·exact .inr (.inl ⟨by omega,by rw [if_neg h1,if_neg h2]⟩)
theorem cmp_chain (X Y Z:Int):(Dy.cmpZ X Y≤0→Dy.cmpZ Y Z≤0→Dy.cmpZ X Z≤0)∧(Dy.cmpZ X Y<0→Dy.cmpZ Y Z≤0→Dy.cmpZ X Z<0)∧Dy.cmpZ Y X= -Dy.cmpZ X Y∧(Dy.cmpZ X Y=0 ↔ X=Y)∧Dy.cmpZ (X+ -Y) 0=Dy.cmpZ X Y:=by
 have h1:=cmpZ_spec X Y
 have h2:=cmpZ_spec Y Z
 have h3:=cmpZ_spec X Z
 have h4:=cmpZ_spec Y X
 have h5:=cmpZ_spec (X+ -Y) 0
 omega
end Go.AI

namespace Go.Dy
set_option maxRecDepth 100000
end Go.Dy

namespace Go.Dy
def column (a b:List Nat) (k:Nat):Nat→Nat
 |0=>0
 |n+1=>column a b k n+(if n≤k then a.getD n 0*b.getD (k-n) 0 else 0)
def cutR (d:Dyd) (b:Int):Dyd×Bool:=if overD d b≤0 then (d,false) else (headD d b,true)
end Go.Dy
namespace Go.AI
open Go Go.RowKit Go.Proofs
set_option linter.unusedVariables false
def rMul:List AV→Option Spec
 |[.dig [1] a,.dig [2] b]=>some ⟨some (a.length≤524288∧b.length≤524288),.dig [0] (Dy.dg (Dy.val a*Dy.val b))⟩
 |_=>none
def rAddD:List AV→Option Spec
 |[.agg [.bool s,.dig [1] m,.num .i64 e],.agg [.bool s',.dig [2] m',.num .i64 e']]=>
  some ⟨some (Dy.mayD ⟨s,m,e⟩=true∧Dy.mayD ⟨s',m',e'⟩=true∧(m=[]∨m'=[]∨(-300000≤e-e'∧e-e'≤300000))),avD [0,1,2] (Dy.addD ⟨s,m,e⟩ ⟨s',m',e'⟩)⟩
 |_=>none
def rSubD:List AV→Option Spec
 |[.agg [.bool s,.dig [1] m,.num .i64 e],.agg [.bool s',.dig [2] m',.num .i64 e']]=>
  some ⟨some (Dy.mayD ⟨s,m,e⟩=true∧Dy.mayD ⟨s',m',e'⟩=true∧(m=[]∨m'=[]∨(-300000≤e-e'∧e-e'≤300000))),avD [0,1,2] (Dy.addD ⟨s,m,e⟩ (Dy.negD ⟨s',m',e'⟩))⟩
 |_=>none
def rMulD:List AV→Option Spec
 |[.agg [.bool s,.dig [1] m,.num .i64 e],.agg [.bool s',.dig [2] m',.num .i64 e']]=>
  some ⟨some (Dy.mayD ⟨s,m,e⟩=true∧Dy.mayD ⟨s',m',e'⟩=true),avD [0] (Dy.mulD ⟨s,m,e⟩ ⟨s',m',e'⟩)⟩
 |_=>none
def rCmpD:List AV→Option Spec
 |[.agg [.bool s,.dig [1] m,.num .i64 e],.agg [.bool s',.dig [2] m',.num .i64 e']]=>
  some ⟨some (Dy.mayD ⟨s,m,e⟩=true∧Dy.mayD ⟨s',m',e'⟩=true),.num .i64 (Dy.cmpD ⟨s,m,e⟩ ⟨s',m',e'⟩)⟩
 |_=>none
def rShiftD:List AV→Option Spec
 |[.agg [.bool s,.dig [1] m,.num .i64 e],.num .i64 n]=>some ⟨some (m=[]∨(-1099511627776≤e∧e≤1099511627776∧ -1099511627776≤n∧n≤1099511627776)),.agg [.bool s,.dig [0,1,2] m,.num .i64 (if m=[] then e else e+n)]⟩
 |_=>none
def rCut:List AV→Option Spec
 |[.agg [.bool s,.dig [1] m,.num .i64 e],.num .i64 b]=>some ⟨some (Dy.mayD ⟨s,m,e⟩=true∧1≤b),.tup [avD [0,1,2] (Dy.cutR ⟨s,m,e⟩ b).1,.bool (Dy.cutR ⟨s,m,e⟩ b).2]⟩
 |_=>none
def rFloor:List AV→Option Spec
 |[.agg [.bool s,.dig [1] m,.num .i64 e]]=>some ⟨some (Dy.mayD ⟨s,m,e⟩=true),avD [0,1] (Dy.floorD ⟨s,m,e⟩)⟩
 |_=>none
def tab20:List (Nat×(List AV→Option Spec)):=(109,rMul)::(57,rAddD)::(100,rShiftD)::(99,rCut)::
 (193,rFloor)::tab19
def tab21:List (Nat×(List AV→Option Spec)):=(101,rSubD)::(48,rMulD)::tab20
def tab22:List (Nat×(List AV→Option Spec)):=(52,rCmpD)::tab21
end Go.AI

namespace Go.AI
open Dy IntKind
open Go Go.RowKit Go.Proofs
set_option linter.unusedVariables false
set_option maxRecDepth 100000
set_option maxHeartbeats 0
theorem vc_ref2_Add (s:Bool) (s':Bool) (m:List Nat) (m':List Nat) (e:Int) (e':Int) (Q:AV→Prop):(evF Tryz.prog (look tab19) (lam []) true Tryz.f57 [.agg [.bool s,.dig [1] m,.num .i64 e],.agg [.bool s',.dig [2] m',.num .i64 e']] Q)=(bif decide ((↑m.length:Int)=(0:Int)) then Q (.agg [.bool s',.dig [0,1,2] m',.num .i64 e']) else bif decide ((↑m'.length:Int)=(0:Int)) then Q (.agg [.bool s,.dig [0,1,2] m,.num .i64 e]) else bif decide (e'<e) then ((0:Int)≤i64.wrap (e-e')∧i64.wrap (e-e')≤(33554432:Int)∧m.length≤1048576)∧((0:Int)≤i64.wrap (e'-e')∧i64.wrap (e'-e')≤(33554432:Int)∧m'.length≤1048576)∧bif decide (s=s') then ((dg (val m*(2:Nat)^(i64.wrap (e-e')).toNat)).length≤1048576∧(dg (val m'*(2:Nat)^(i64.wrap (e'-e')).toNat)).length≤1048576)∧(dg (val (dg (val (dg (val m*(2:Nat)^(i64.wrap (e-e')).toNat))+val (dg (val m'*(2:Nat)^(i64.wrap (e'-e')).toNat)))))=dg (val (dg (val m*(2:Nat)^(i64.wrap (e-e')).toNat))+val (dg (val m'*(2:Nat)^(i64.wrap (e'-e')).toNat)))∧(dg (val (dg (val m*(2:Nat)^(i64.wrap (e-e')).toNat))+val (dg (val m'*(2:Nat)^(i64.wrap (e'-e')).toNat)))).length≤1048576∧ -1099511627776≤e'∧e'≤(1099511627776:Int))∧∀(b1:Bool),b1=(form s (val (dg (val (dg (val m*(2:Nat)^(i64.wrap (e-e')).toNat))+val (dg (val m'*(2:Nat)^(i64.wrap (e'-e')).toNat))))) e').neg→∀(l2:List Nat),l2=(form s (val (dg (val (dg (val m*(2:Nat)^(i64.wrap (e-e')).toNat))+val (dg (val m'*(2:Nat)^(i64.wrap (e'-e')).toNat))))) e').mag→∀(n3:Int),n3=(form s (val (dg (val (dg (val m*(2:Nat)^(i64.wrap (e-e')).toNat))+val (dg (val m'*(2:Nat)^(i64.wrap (e'-e')).toNat))))) e').exp→Q (.agg [.bool b1,.dig [0,1,2] l2,.num .i64 n3]) else (dg (val (dg (val m*(2:Nat)^(i64.wrap (e-e')).toNat)))=dg (val m*(2:Nat)^(i64.wrap (e-e')).toNat)∧dg (val (dg (val m'*(2:Nat)^(i64.wrap (e'-e')).toNat)))=dg (val m'*(2:Nat)^(i64.wrap (e'-e')).toNat))∧bif decide (cmpN (val (dg (val m*(2:Nat)^(i64.wrap (e-e')).toNat))) (val (dg (val m'*(2:Nat)^(i64.wrap (e'-e')).toNat)))≥(0:Int)) then (val (dg (val m'*(2:Nat)^(i64.wrap (e'-e')).toNat))≤val (dg (val m*(2:Nat)^(i64.wrap (e-e')).toNat))∧(dg (val m*(2:Nat)^(i64.wrap (e-e')).toNat)).length≤1048576)∧(dg (val (dg (val (dg (val m*(2:Nat)^(i64.wrap (e-e')).toNat))-val (dg (val m'*(2:Nat)^(i64.wrap (e'-e')).toNat)))))=dg (val (dg (val m*(2:Nat)^(i64.wrap (e-e')).toNat))-val (dg (val m'*(2:Nat)^(i64.wrap (e'-e')).toNat)))∧(dg (val (dg (val m*(2:Nat)^(i64.wrap (e-e')).toNat))-val (dg (val m'*(2:Nat)^(i64.wrap (e'-e')).toNat)))).length≤1048576∧ -1099511627776≤e'∧e'≤(1099511627776:Int))∧∀(b4:Bool),b4=(form s (val (dg (val (dg (val m*(2:Nat)^(i64.wrap (e-e')).toNat))-val (dg (val m'*(2:Nat)^(i64.wrap (e'-e')).toNat))))) e').neg→∀(l5:List Nat),l5=(form s (val (dg (val (dg (val m*(2:Nat)^(i64.wrap (e-e')).toNat))-val (dg (val m'*(2:Nat)^(i64.wrap (e'-e')).toNat))))) e').mag→∀(n6:Int),n6=(form s (val (dg (val (dg (val m*(2:Nat)^(i64.wrap (e-e')).toNat))-val (dg (val m'*(2:Nat)^(i64.wrap (e'-e')).toNat))))) e').exp→Q (.agg [.bool b4,.dig [0,1,2] l5,.num .i64 n6]) else (val (dg (val m*(2:Nat)^(i64.wrap (e-e')).toNat))≤val (dg (val m'*(2:Nat)^(i64.wrap (e'-e')).toNat))∧(dg (val m'*(2:Nat)^(i64.wrap (e'-e')).toNat)).length≤1048576)∧(dg (val (dg (val (dg (val m'*(2:Nat)^(i64.wrap (e'-e')).toNat))-val (dg (val m*(2:Nat)^(i64.wrap (e-e')).toNat)))))=dg (val (dg (val m'*(2:Nat)^(i64.wrap (e'-e')).toNat))-val (dg (val m*(2:Nat)^(i64.wrap (e-e')).toNat)))∧(dg (val (dg (val m'*(2:Nat)^(i64.wrap (e'-e')).toNat))-val (dg (val m*(2:Nat)^(i64.wrap (e-e')).toNat)))).length≤1048576∧ -1099511627776≤e'∧e'≤(1099511627776:Int))∧∀(b7:Bool),b7=(form s' (val (dg (val (dg (val m'*(2:Nat)^(i64.wrap (e'-e')).toNat))-val (dg (val m*(2:Nat)^(i64.wrap (e-e')).toNat))))) e').neg→∀(l8:List Nat),l8=(form s' (val (dg (val (dg (val m'*(2:Nat)^(i64.wrap (e'-e')).toNat))-val (dg (val m*(2:Nat)^(i64.wrap (e-e')).toNat))))) e').mag→∀(n9:Int),n9=(form s' (val (dg (val (dg (val m'*(2:Nat)^(i64.wrap (e'-e')).toNat))-val (dg (val m*(2:Nat)^(i64.wrap (e-e')).toNat))))) e').exp→Q (.agg [.bool b7,.dig [0,1,2] l8,.num .i64 n9]) else ((0:Int)≤i64.wrap (e-e)∧i64.wrap (e-e)≤(33554432:Int)∧m.length≤1048576)∧((0:Int)≤i64.wrap (e'-e)∧i64.wrap (e'-e)≤(33554432:Int)∧m'.length≤1048576)∧bif decide (s=s') then ((dg (val m*(2:Nat)^(i64.wrap (e-e)).toNat)).length≤1048576∧(dg (val m'*(2:Nat)^(i64.wrap (e'-e)).toNat)).length≤1048576)∧(dg (val (dg (val (dg (val m*(2:Nat)^(i64.wrap (e-e)).toNat))+val (dg (val m'*(2:Nat)^(i64.wrap (e'-e)).toNat)))))=dg (val (dg (val m*(2:Nat)^(i64.wrap (e-e)).toNat))+val (dg (val m'*(2:Nat)^(i64.wrap (e'-e)).toNat)))∧(dg (val (dg (val m*(2:Nat)^(i64.wrap (e-e)).toNat))+val (dg (val m'*(2:Nat)^(i64.wrap (e'-e)).toNat)))).length≤1048576∧ -1099511627776≤e∧e≤1099511627776)∧∀(b10:Bool),b10=(form s (val (dg (val (dg (val m*(2:Nat)^(i64.wrap (e-e)).toNat))+val (dg (val m'*(2:Nat)^(i64.wrap (e'-e)).toNat))))) e).neg→∀(l11:List Nat),l11=(form s (val (dg (val (dg (val m*(2:Nat)^(i64.wrap (e-e)).toNat))+val (dg (val m'*(2:Nat)^(i64.wrap (e'-e)).toNat))))) e).mag→∀(n12:Int),n12=(form s (val (dg (val (dg (val m*(2:Nat)^(i64.wrap (e-e)).toNat))+val (dg (val m'*(2:Nat)^(i64.wrap (e'-e)).toNat))))) e).exp→Q (.agg [.bool b10,.dig [0,1,2] l11,.num .i64 n12]) else (dg (val (dg (val m*(2:Nat)^(i64.wrap (e-e)).toNat)))=dg (val m*(2:Nat)^(i64.wrap (e-e)).toNat)∧dg (val (dg (val m'*(2:Nat)^(i64.wrap (e'-e)).toNat)))=dg (val m'*(2:Nat)^(i64.wrap (e'-e)).toNat))∧bif decide (cmpN (val (dg (val m*(2:Nat)^(i64.wrap (e-e)).toNat))) (val (dg (val m'*(2:Nat)^(i64.wrap (e'-e)).toNat)))≥(0:Int)) then (val (dg (val m'*(2:Nat)^(i64.wrap (e'-e)).toNat))≤val (dg (val m*(2:Nat)^(i64.wrap (e-e)).toNat))∧(dg (val m*(2:Nat)^(i64.wrap (e-e)).toNat)).length≤1048576)∧(dg (val (dg (val (dg (val m*(2:Nat)^(i64.wrap (e-e)).toNat))-val (dg (val m'*(2:Nat)^(i64.wrap (e'-e)).toNat)))))=dg (val (dg (val m*(2:Nat)^(i64.wrap (e-e)).toNat))-val (dg (val m'*(2:Nat)^(i64.wrap (e'-e)).toNat)))∧(dg (val (dg (val m*(2:Nat)^(i64.wrap (e-e)).toNat))-val (dg (val m'*(2:Nat)^(i64.wrap (e'-e)).toNat)))).length≤1048576∧ -1099511627776≤e∧e≤1099511627776)∧∀(b13:Bool),b13=(form s (val (dg (val (dg (val m*(2:Nat)^(i64.wrap (e-e)).toNat))-val (dg (val m'*(2:Nat)^(i64.wrap (e'-e)).toNat))))) e).neg→∀(l14:List Nat),l14=(form s (val (dg (val (dg (val m*(2:Nat)^(i64.wrap (e-e)).toNat))-val (dg (val m'*(2:Nat)^(i64.wrap (e'-e)).toNat))))) e).mag→∀(n15:Int),n15=(form s (val (dg (val (dg (val m*(2:Nat)^(i64.wrap (e-e)).toNat))-val (dg (val m'*(2:Nat)^(i64.wrap (e'-e)).toNat))))) e).exp→Q (.agg [.bool b13,.dig [0,1,2] l14,.num .i64 n15]) else (val (dg (val m*(2:Nat)^(i64.wrap (e-e)).toNat))≤val (dg (val m'*(2:Nat)^(i64.wrap (e'-e)).toNat))∧(dg (val m'*(2:Nat)^(i64.wrap (e'-e)).toNat)).length≤1048576)∧(dg (val (dg (val (dg (val m'*(2:Nat)^(i64.wrap (e'-e)).toNat))-val (dg (val m*(2:Nat)^(i64.wrap (e-e)).toNat)))))=dg (val (dg (val m'*(2:Nat)^(i64.wrap (e'-e)).toNat))-val (dg (val m*(2:Nat)^(i64.wrap (e-e)).toNat)))∧(dg (val (dg (val m'*(2:Nat)^(i64.wrap (e'-e)).toNat))-val (dg (val m*(2:Nat)^(i64.wrap (e-e)).toNat)))).length≤1048576∧ -1099511627776≤e∧e≤1099511627776)∧∀(b16:Bool),b16=(form s' (val (dg (val (dg (val m'*(2:Nat)^(i64.wrap (e'-e)).toNat))-val (dg (val m*(2:Nat)^(i64.wrap (e-e)).toNat))))) e).neg→∀(l17:List Nat),l17=(form s' (val (dg (val (dg (val m'*(2:Nat)^(i64.wrap (e'-e)).toNat))-val (dg (val m*(2:Nat)^(i64.wrap (e-e)).toNat))))) e).mag→∀(n18:Int),n18=(form s' (val (dg (val (dg (val m'*(2:Nat)^(i64.wrap (e'-e)).toNat))-val (dg (val m*(2:Nat)^(i64.wrap (e-e)).toNat))))) e).exp→Q (.agg [.bool b16,.dig [0,1,2] l17,.num .i64 n18])):=by kernel_rfl
theorem vc_ref2_Shift (s:Bool) (m:List Nat) (e:Int) (n:Int) (Q:AV→Prop):(evF Tryz.prog (look tab19) (lam []) true Tryz.f100 [.agg [.bool s,.dig [1] m,.num .i64 e],.num .i64 n] Q)=(bif decide ((↑m.length:Int)>(0:Int)) then Q (.agg [.bool s,.dig [0,1,2] m,.num .i64 (i64.wrap (e+n))]) else Q (.agg [.bool s,.dig [0,1,2] m,.num .i64 e])):=by kernel_rfl
theorem vc_ref2_Cut (s:Bool) (m:List Nat) (e:Int) (b:Int) (Q:AV→Prop):(evF Tryz.prog (look tab19) (lam []) true Tryz.f99 [.agg [.bool s,.dig [1] m,.num .i64 e],.num .i64 b] Q)=((dg (val m)=m∧m.length≤1048576)∧bif decide (i64.wrap ((↑(bl (val m)):Int)-b)≤(0:Int)) then Q (.tup [.agg [.bool s,.dig [0,1,2] m,.num .i64 e],.bool false]) else (dg (val m)=m∧(0:Int)≤i64.wrap ((↑(bl (val m)):Int)-b)∧m.length≤1048576)∧∀(l1:List Nat),l1=dg (val m/(2:Nat)^(i64.wrap ((↑(bl (val m)):Int)-b)).toNat)→∀(b2:Bool),b2=decide (val m≠(0:Nat)∧(↑(tz (val m)):Int)<i64.wrap ((↑(bl (val m)):Int)-b))→(dg (val l1)=l1∧l1.length≤1048576∧(-1099511627776:Int)≤i64.wrap (e+i64.wrap ((↑(bl (val m)):Int)-b))∧i64.wrap (e+i64.wrap ((↑(bl (val m)):Int)-b))≤(1099511627776:Int))∧∀(b3:Bool),b3=(form s (val l1) (i64.wrap (e+i64.wrap ((↑(bl (val m)):Int)-b)))).neg→∀(l4:List Nat),l4=(form s (val l1) (i64.wrap (e+i64.wrap ((↑(bl (val m)):Int)-b)))).mag→∀(n5:Int),n5=(form s (val l1) (i64.wrap (e+i64.wrap ((↑(bl (val m)):Int)-b)))).exp→Q (.tup [.agg [.bool b3,.dig [0,1,2] l4,.num .i64 n5],.bool b2])):=by kernel_rfl
theorem vc_ref2_Floor (s:Bool) (m:List Nat) (e:Int) (Q:AV→Prop):(evF Tryz.prog (look tab19) (lam []) true Tryz.f193 [.agg [.bool s,.dig [1] m,.num .i64 e]] Q)=(bif decide (e≥(0:Int)) then Q (.agg [.bool s,.dig [0,1] m,.num .i64 e]) else (dg (val m)=m∧(0:Int)≤i64.wrap ((0:Int)-e)∧m.length≤1048576)∧∀(l1:List Nat),l1=dg (val m/(2:Nat)^(i64.wrap ((0:Int)-e)).toNat)→∀(b2:Bool),b2=decide (val m≠(0:Nat)∧(↑(tz (val m)):Int)<i64.wrap ((0:Int)-e))→bif s then bif b2 then (l1.length≤1048576∧(1:Nat)≤(1048576:Nat))∧(dg (val (dg (val l1+(1:Nat))))=dg (val l1+(1:Nat))∧(dg (val l1+(1:Nat))).length≤1048576∧(-1099511627776:Int)≤(0:Int)∧(0:Int)≤(1099511627776:Int))∧∀(b3:Bool),b3=(form s (val (dg (val l1+(1:Nat)))) (0:Int)).neg→∀(l4:List Nat),l4=(form s (val (dg (val l1+(1:Nat)))) (0:Int)).mag→∀(n5:Int),n5=(form s (val (dg (val l1+(1:Nat)))) (0:Int)).exp→Q (.agg [.bool b3,.dig [0,1] l4,.num .i64 n5]) else (dg (val l1)=l1∧l1.length≤1048576∧(-1099511627776:Int)≤(0:Int)∧(0:Int)≤(1099511627776:Int))∧∀(b6:Bool),b6=(form s (val l1) (0:Int)).neg→∀(l7:List Nat),l7=(form s (val l1) (0:Int)).mag→∀(n8:Int),n8=(form s (val l1) (0:Int)).exp→Q (.agg [.bool b6,.dig [0,1] l7,.num .i64 n8]) else (dg (val l1)=l1∧l1.length≤1048576∧(-1099511627776:Int)≤(0:Int)∧(0:Int)≤(1099511627776:Int))∧∀(b9:Bool),b9=(form s (val l1) (0:Int)).neg→∀(l10:List Nat),l10=(form s (val l1) (0:Int)).mag→∀(n11:Int),n11=(form s (val l1) (0:Int)).exp→Q (.agg [.bool b9,.dig [0,1] l10,.num .i64 n11])):=by kernel_rfl
theorem vc_ref2_Sub (s:Bool) (s':Bool) (m:List Nat) (m':List Nat) (e:Int) (e':Int) (Q:AV→Prop):(evF Tryz.prog (look tab20) (lam []) true Tryz.f101 [.agg [.bool s,.dig [1] m,.num .i64 e],.agg [.bool s',.dig [2] m',.num .i64 e']] Q)=(∀(b1:Bool),(b1=if m'=[] then s' else !s')→∀(l2:List Nat),l2=m'→∀(n3:Int),n3=e'→(mayD (Dyd.mk s m e)=true∧mayD (Dyd.mk b1 l2 n3)=true∧(m=[]∨l2=[]∨ -300000≤e-n3∧e-n3≤300000))∧∀(b4:Bool),b4=(addD (Dyd.mk s m e) (Dyd.mk b1 l2 n3)).neg→∀(l5:List Nat),l5=(addD (Dyd.mk s m e) (Dyd.mk b1 l2 n3)).mag→∀(n6:Int),n6=(addD (Dyd.mk s m e) (Dyd.mk b1 l2 n3)).exp→Q (.agg [.bool b4,.dig [0,1,2] l5,.num .i64 n6])):=by kernel_rfl
theorem vc_ref2_Mul (s:Bool) (s':Bool) (m:List Nat) (m':List Nat) (e:Int) (e':Int) (Q:AV→Prop):(evF Tryz.prog (look tab20) (lam []) false Tryz.f48 [.agg [.bool s,.dig [1] m,.num .i64 e],.agg [.bool s',.dig [2] m',.num .i64 e']] Q)=((m.length≤524288∧m'.length≤524288)∧(dg (val (dg (val m*val m')))=dg (val m*val m')∧(dg (val m*val m')).length≤1048576∧(-1099511627776:Int)≤i64.wrap (e+e')∧i64.wrap (e+e')≤(1099511627776:Int))∧∀(b1:Bool),b1=(form (!s==s') (val (dg (val m*val m'))) (i64.wrap (e+e'))).neg→∀(l2:List Nat),l2=(form (!s==s') (val (dg (val m*val m'))) (i64.wrap (e+e'))).mag→∀(n3:Int),n3=(form (!s==s') (val (dg (val m*val m'))) (i64.wrap (e+e'))).exp→Q (.agg [.bool b1,.dig [0] l2,.num .i64 n3])):=by kernel_rfl
theorem vc_ref2_Cmp (s:Bool) (s':Bool) (m:List Nat) (m':List Nat) (e:Int) (e':Int) (Q:AV→Prop):(evF Tryz.prog (look tab21) (lam []) false Tryz.f52 [.agg [.bool s,.dig [1] m,.num .i64 e],.agg [.bool s',.dig [2] m',.num .i64 e']] Q)=(bif !decide (signD (Dyd.mk s m e)=signD (Dyd.mk s' m' e')) then bif decide (signD (Dyd.mk s m e)<signD (Dyd.mk s' m' e')) then Q (.num .i64 (-1)) else Q (.num .i64 1) else bif decide (signD (Dyd.mk s m e)=(0:Int)) then Q (.num .i64 0) else (dg (val m)=m∧m.length≤1048576∧ -1099511627776≤e∧e≤1099511627776)∧(dg (val m')=m'∧m'.length≤1048576∧ -1099511627776≤e'∧e'≤(1099511627776:Int))∧bif !decide (topD (Dyd.mk s m e)=topD (Dyd.mk s' m' e')) then (dg (val m)=m∧m.length≤1048576∧ -1099511627776≤e∧e≤1099511627776)∧(dg (val m')=m'∧m'.length≤1048576∧ -1099511627776≤e'∧e'≤(1099511627776:Int))∧bif decide (decide (topD (Dyd.mk s m e)<topD (Dyd.mk s' m' e'))=decide (signD (Dyd.mk s m e)>(0:Int))) then Q (.num .i64 (-1)) else Q (.num .i64 1) else (mayD (Dyd.mk s m e)=true∧mayD (Dyd.mk s' m' e')=true∧(m=[]∨m'=[]∨ -300000≤e-e'∧e-e'≤(300000:Int)))∧∀(b1:Bool),b1=(addD (Dyd.mk s m e) (negD (Dyd.mk s' m' e'))).neg→∀(l2:List Nat),l2=(addD (Dyd.mk s m e) (negD (Dyd.mk s' m' e'))).mag→∀(n3:Int),n3=(addD (Dyd.mk s m e) (negD (Dyd.mk s' m' e'))).exp→Q (.num .i64 (signD (Dyd.mk b1 l2 n3)))):=by kernel_rfl
def lsRMO:List AV→Option LR
 |[.dig [1,2,3] a,.dig [1,2,3] b,.grown 152 o,.num .u64 low,.num .u64 high,.num .i64 k]=>
 some (.need (Dy.okl a∧Dy.okl b∧a.length≤524288∧b.length≤524288∧0<a.length∧0<b.length∧o=[]∧low=0∧high=0∧k=0)
 (.done (.exit 0) [.dig [1,2,3] a,.dig [1,2,3] b,.grown 152 (Dy.dgN (a.length+b.length) (Dy.val a*Dy.val b)),.num .u64 0,.num .u64 0,.num .i64 ((a.length+b.length:Nat):Int)]))
 |_=>none
def keepRMO:List (Nat×Keep):=[(0,.same),(1,.same),(5,.grow 152),(6,.same),(7,.same),(8,.same)]
def lsRMI:List AV→Option LR
 |[.dig [1,2,3] a,.dig [1,2,3] b,.num .u64 low,.num .u64 high,.num .i64 k,.num .i64 i,.grown 152 o]=>
 some (.need (Dy.okl a∧Dy.okl b∧a.length≤524288∧b.length≤524288∧0≤low∧low<18446744073709551616∧0≤high∧high≤16∧0≤k∧k<a.length+b.length∧0<b.length∧i=(if (b.length:Int)≤k then k-b.length+1 else 0))
 (.done (.exit 2) [.dig [1,2,3] a,.dig [1,2,3] b,.num .u64 ((low.toNat+18446744073709551616*high.toNat+Dy.column a b k.toNat a.length)%18446744073709551616:Nat),.num .u64 ((low.toNat+18446744073709551616*high.toNat+Dy.column a b k.toNat a.length)/18446744073709551616:Nat),
 .num .i64 k,.num .i64 (min (k+1) a.length),.grown 152 o]))
 |_=>none
def keepRMI:List (Nat×Keep):=[(0,.same),(1,.same),(6,.same),(7,.same),(8,.same),(10,.same),(5,.same)]
def lamRM:=lam [(7,.spec keepRMO lsRMO),(13,.spec keepRMI lsRMI)]
theorem vc_ref_Mul (a:List Nat) (b:List Nat) (Q:AV→Prop):(evF Tryz.prog (look tab19) lamRM false Tryz.f109 [.dig [1] a,.dig [2] b] Q)=(bif decide ((↑a.length:Int)=(0:Int)) then Q (.dig [0] []) else bif decide ((↑b.length:Int)=(0:Int)) then Q (.dig [0] []) else (okl a∧okl b∧a.length≤524288∧b.length≤524288∧(0:Nat)<a.length∧(0:Nat)<b.length∧([]:List Nat)=[]∧(0:Int)=(0:Int)∧(0:Int)=(0:Int)∧(0:Int)=(0:Int))∧Q (.dig [0] (dg (val (dgN (a.length+b.length) (val a*val b)))))):=by kernel_rfl
theorem vc_ref_Mul_1 (a:List Nat) (b:List Nat) (o:List Nat) (low:Int) (high:Int) (k:Int) (K:Exit→List AV→Prop):(evIter Tryz.prog (look tab19) lamRM (2:Nat) (85:Nat) keepRMO (bodyN Tryz.f109 (0:Nat)) [.dig [1,2,3] a,.dig [1,2,3] b,.grown (152:TypeId) o,.num .u64 low,.num .u64 high,.num .i64 k] K)=(bif decide (k<i64.wrap ((↑a.length:Int)+(↑b.length:Int))) then bif decide (k≥(↑b.length:Int)) then (okl a∧okl b∧a.length≤524288∧b.length≤524288∧0≤low∧low<(18446744073709551616:Int)∧0≤high∧high≤(16:Int)∧0≤k∧k<(↑a.length:Int)+(↑b.length:Int)∧(0:Nat)<b.length∧i64.wrap (i64.wrap (k-(↑b.length:Int))+(1:Int))=if (↑b.length:Int)≤k then k-(↑b.length:Int)+(1:Int) else (0:Int))∧((0:Nat)≤[(u32.wrap (↑((low.toNat+(18446744073709551616:Nat)*high.toNat+column a b k.toNat a.length)%(18446744073709551616:Nat)):Int)).toNat].length∧o.length+[(u32.wrap (↑((low.toNat+(18446744073709551616:Nat)*high.toNat+column a b k.toNat a.length)%(18446744073709551616:Nat)):Int)).toNat].length≤1099511627776)∧K Exit.normal [.dig [1,2,3] a,.dig [1,2,3] b,.grown (152:Nat) (o++[(u32.wrap (↑((low.toNat+(18446744073709551616:Nat)*high.toNat+column a b k.toNat a.length)%(18446744073709551616:Nat)):Int)).toNat]),.num .u64 (u64.wrap (↑(BitVec.ofInt (64:Nat) ((↑((low.toNat+(18446744073709551616:Nat)*high.toNat+column a b k.toNat a.length)%(18446744073709551616:Nat)):Int).fdiv ((2:Int)^(32:Nat)))|||BitVec.ofInt (64:Nat) (u64.wrap ((↑((low.toNat+(18446744073709551616:Nat)*high.toNat+column a b k.toNat a.length)/(18446744073709551616:Nat)):Int)*(2:Int)^(32:Nat)))).toNat:Int)),.num .u64 ((↑((low.toNat+(18446744073709551616:Nat)*high.toNat+column a b k.toNat a.length)/(18446744073709551616:Nat)):Int).fdiv ((2:Int)^(32:Nat))),.num .i64 (i64.wrap (k+(1:Int)))] else (okl a∧okl b∧a.length≤524288∧b.length≤524288∧0≤low∧low<(18446744073709551616:Int)∧0≤high∧high≤(16:Int)∧0≤k∧k<(↑a.length:Int)+(↑b.length:Int)∧(0:Nat)<b.length∧(0:Int)=if (↑b.length:Int)≤k then k-(↑b.length:Int)+(1:Int) else (0:Int))∧((0:Nat)≤[(u32.wrap (↑((low.toNat+(18446744073709551616:Nat)*high.toNat+column a b k.toNat a.length)%(18446744073709551616:Nat)):Int)).toNat].length∧o.length+[(u32.wrap (↑((low.toNat+(18446744073709551616:Nat)*high.toNat+column a b k.toNat a.length)%(18446744073709551616:Nat)):Int)).toNat].length≤1099511627776)∧K Exit.normal [.dig [1,2,3] a,.dig [1,2,3] b,.grown (152:Nat) (o++[(u32.wrap (↑((low.toNat+(18446744073709551616:Nat)*high.toNat+column a b k.toNat a.length)%(18446744073709551616:Nat)):Int)).toNat]),.num .u64 (u64.wrap (↑(BitVec.ofInt (64:Nat) ((↑((low.toNat+(18446744073709551616:Nat)*high.toNat+column a b k.toNat a.length)%(18446744073709551616:Nat)):Int).fdiv ((2:Int)^(32:Nat)))|||BitVec.ofInt (64:Nat) (u64.wrap ((↑((low.toNat+(18446744073709551616:Nat)*high.toNat+column a b k.toNat a.length)/(18446744073709551616:Nat)):Int)*(2:Int)^(32:Nat)))).toNat:Int)),.num .u64 ((↑((low.toNat+(18446744073709551616:Nat)*high.toNat+column a b k.toNat a.length)/(18446744073709551616:Nat)):Int).fdiv ((2:Int)^(32:Nat))),.num .i64 (i64.wrap (k+(1:Int)))] else K (Exit.exit (0:Nat)) [.dig [1,2,3] a,.dig [1,2,3] b,.grown (152:Nat) o,.num .u64 low,.num .u64 high,.num .i64 k]):=by kernel_rfl
theorem vc_ref_Mul_2 (a:List Nat) (b:List Nat) (o:List Nat) (low:Int) (high:Int) (k:Int) (i:Int) (K:Exit→List AV→Prop):(evIter Tryz.prog (look tab19) lamRM (2:Nat) (85:Nat) keepRMI (bodyN Tryz.f109 (1:Nat)) [.dig [1,2,3] a,.dig [1,2,3] b,.num .u64 low,.num .u64 high,.num .i64 k,.num .i64 i,.grown (152:TypeId) o] K)=(bif decide (i≤k) then bif decide (i<(↑a.length:Int)) then (0≤i∧i<(↑a.length:Int))∧((0:Int)≤i64.wrap (k-i)∧i64.wrap (k-i)<(↑b.length:Int))∧bif decide (u64.wrap (low+u64.wrap (u64.wrap (↑(a.getD i.toNat (0:Nat)):Int)*u64.wrap (↑(b.getD (i64.wrap (k-i)).toNat (0:Nat)):Int)))<u64.wrap (u64.wrap (↑(a.getD i.toNat (0:Nat)):Int)*u64.wrap (↑(b.getD (i64.wrap (k-i)).toNat (0:Nat)):Int))) then K Exit.normal [.dig [1,2,3] a,.dig [1,2,3] b,.num .u64 (u64.wrap (low+u64.wrap (u64.wrap (↑(a.getD i.toNat (0:Nat)):Int)*u64.wrap (↑(b.getD (i64.wrap (k-i)).toNat (0:Nat)):Int)))),.num .u64 (u64.wrap (high+(1:Int))),.num .i64 k,.num .i64 (i64.wrap (i+(1:Int))),.grown (152:Nat) o] else K Exit.normal [.dig [1,2,3] a,.dig [1,2,3] b,.num .u64 (u64.wrap (low+u64.wrap (u64.wrap (↑(a.getD i.toNat (0:Nat)):Int)*u64.wrap (↑(b.getD (i64.wrap (k-i)).toNat (0:Nat)):Int)))),.num .u64 high,.num .i64 k,.num .i64 (i64.wrap (i+(1:Int))),.grown (152:Nat) o] else K (Exit.exit (2:Nat)) [.dig [1,2,3] a,.dig [1,2,3] b,.num .u64 low,.num .u64 high,.num .i64 k,.num .i64 i,.grown (152:Nat) o] else K (Exit.exit (2:Nat)) [.dig [1,2,3] a,.dig [1,2,3] b,.num .u64 low,.num .u64 high,.num .i64 k,.num .i64 i,.grown (152:Nat) o]):=by kernel_rfl
end Go.AI

namespace Go.Dy
theorem column_cons (x:Nat) (a b:List Nat) (k:Nat):∀n,column (x::a) b (k+1) (n+1)=x*b.getD (k+1) 0+column a b k n
 |0=>by simp [column]
 |n+1=>by
  rw [column,column_cons x a b k n]
  show _+(if n+1≤k+1 then a.getD n 0*b.getD (k+1-(n+1)) 0 else 0)=x*b.getD (k+1) 0+(column a b k n+(if n≤k then a.getD n 0*b.getD (k-n) 0 else 0))
  rw [show k+1-(n+1)=k-n by omega]
  by_cases c:n≤k
  ·rw [if_pos c,if_pos (by omega)];omega
  ·rw [if_neg c,if_neg (by omega)];omega
theorem column_zero (x:Nat) (a b:List Nat):∀n,column (x::a) b 0 (n+1)=x*b.getD 0 0
 |0=>by simp [column]
 |n+1=>by rw [column,column_zero x a b n,if_neg (by omega)];rfl
def cols (a b:List Nat) (m:Nat):Nat→Nat
 |0=>0
 |n+1=>cols a b m n+2^(32*n)*column a b n m
theorem val_take_step (b:List Nat) (n:Nat):val (b.take (n+1))=val (b.take n)+2^(32*n)*b.getD n 0:=by
 by_cases c:n<b.length
 ·exact val_take_succ c
 ·rw [List.take_of_length_le (by omega),List.take_of_length_le (by omega),List.getD_eq_getElem?_getD,List.getElem?_eq_none (by omega)]
  simp
theorem cols_cons (x:Nat) (a b:List Nat) (m:Nat):∀n,cols (x::a) b (m+1) (n+1)=x*val (b.take (n+1))+4294967296*cols a b m n
 |0=>by
  rw [val_take_step]
  simp [cols,column_zero,val]
 |n+1=>by
  rw [cols,cols_cons x a b m n,val_take_step b (n+1),column_cons,cols]
  have e:2^(32*(n+1))=2^(32*n)*4294967296:=pow_split n
  rw [e]
  generalize 2^(32*n)=P
  generalize val (List.take (n+1) b)=V
  generalize b.getD (n+1) 0=y
  generalize column a b n m=C
  generalize cols a b m n=D
  have h1:P*4294967296*(x*y)=x*(P*4294967296*y):=Nat.mul_left_comm _ _ _
  have h2:P*4294967296*C=4294967296*(P*C):=by rw [Nat.mul_comm P,Nat.mul_assoc]
  rw [Nat.mul_add (P*4294967296),h1,h2,Nat.mul_add,Nat.mul_add]
  omega
theorem cols_mul (b:List Nat):∀(a:List Nat) (n:Nat),a.length+b.length≤n→cols a b a.length n=val a*val b
 |[],n,_=>by
  have:∀n,cols [] b 0 n=0:=by
   intro n
   induction n with
   |zero=>rfl
   |succ n ih=>rw [cols,ih];simp [column]
  simp [val,this]
 |x::a,n,h=>by
  obtain ⟨n,rfl⟩:∃j,n=j+1:=⟨n-1,by simp at h;omega⟩
  simp only [List.length_cons] at h ⊢
  rw [cols_cons,cols_mul b a n (by omega),List.take_of_length_le (by omega)]
  simp only [val]
  rw [Nat.add_mul,Nat.mul_assoc]
theorem column_le {a b:List Nat} (ha:digs a) (hb:digs b) (k:Nat):∀n,column a b k n≤n*18446744065119617025
 |0=>by simp [column]
 |n+1=>by
  rw [column,Nat.add_mul,Nat.one_mul]
  refine Nat.add_le_add (column_le ha hb k n) ?_
  split
  ·have h1:=digs_getD ha n
   have h2:=digs_getD hb (k-n)
   exact Nat.le_trans (Nat.mul_le_mul (show _≤4294967295 by omega) (show _≤4294967295 by omega)) (by decide)
  ·omega
theorem column_low {a b:List Nat} {k:Nat}:∀{n},n+b.length≤k+1→column a b k n=0
 |0,_=>rfl
 |n+1,h=>by
  rw [column,column_low (by omega)]
  by_cases c:n≤k
  ·rw [if_pos c,List.getD_eq_getElem?_getD (l:=b),List.getElem?_eq_none (by omega)];simp
  ·rw [if_neg c]
theorem column_stop {a b:List Nat} {k i:Nat} (hi:k<i):∀n,i≤n→column a b k n=column a b k i
 |0,h=>by
  have:i=0:=by omega
  rw [this]
 |n+1,h=>by
  by_cases c:i=n+1
  ·rw [c]
  ·rw [column,if_neg (by omega),column_stop hi n (by omega)];rfl
end Go.Dy
namespace Go.AI
open Go Go.RowKit Go.Proofs
set_option linter.unusedVariables false
set_option maxRecDepth 100000
theorem loop_ref_Mul_in:LoopOk Tryz.prog (look tab19) lamRM 2 85 keepRMI (bodyN Tryz.f109 1) lsRMI:=by
 intro vals r h K hK
 unfold lsRMI at h
 split at h
 ·cases h
  rename_i a b low high k i o
  simp only [evLR] at hK
  obtain ⟨⟨ha,hb,hal,hbl,hlow,hlow1,hhi,hhi1,hk,hkl,hb0,hi⟩,hK⟩:=hK
  obtain ⟨low,rfl⟩:=Int.eq_ofNat_of_zero_le hlow
  obtain ⟨high,rfl⟩:=Int.eq_ofNat_of_zero_le hhi
  obtain ⟨k,rfl⟩:=Int.eq_ofNat_of_zero_le hk
  simp only [Int.toNat_natCast] at hK
  have hcl:=fun n=>Dy.column_le ha.2 hb.2 k n
  have key:∀(u i:Nat),min (k+1) a.length=u+i→(b.length≤k+i+1∨True)→(k<i+b.length)→
    ∃m,iterN Tryz.prog (look tab19) lamRM 2 85 keepRMI (bodyN Tryz.f109 1) m [.dig [1,2,3] a,.dig [1,2,3] b,.num .u64 ((low+18446744073709551616*high+Dy.column a b k i)%18446744073709551616:Nat),
     .num .u64 ((low+18446744073709551616*high+Dy.column a b k i)/18446744073709551616:Nat),.num .i64 k,.num .i64 i,.grown 152 o] K:=by
   intro u
   induction u with
   |zero=>
    intro i hu _ hbi
    refine iterN_last ?_
    rw [vc_ref_Mul_2]
    have hfin:Dy.column a b k a.length=Dy.column a b k i:=by
     by_cases c:k<i
     ·exact Dy.column_stop c _ (by omega)
     ·rw [show i=a.length by omega]
    have hmin:min ((k:Int)+1) (a.length:Int)=(i:Int):=by omega
    rw [hfin,hmin] at hK
    by_cases c:i≤k
    ·exact cond_t (decide_eq_true (by omega)) (cond_f (decide_eq_false (by omega)) hK)
    ·exact cond_f (decide_eq_false (by omega)) hK
   |succ u ih=>
    intro i hu _ hbi
    obtain ⟨m,hm⟩:=ih (i+1) (by omega) (.inr trivial) (by omega)
    refine iterN_next m ?_
    rw [vc_ref_Mul_2]
    have hc1:=hcl i
    have hcol:Dy.column a b k (i+1)=Dy.column a b k i+a.getD i 0*b.getD (k-i) 0:=by rw [Dy.column,if_pos (by omega)]
    rw [hcol] at hm
    have hx:=Dy.digs_getD ha.2 i
    have hy:=Dy.digs_getD hb.2 (k-i)
    have ew:IntKind.i64.wrap ((k:Int)-(i:Int))=((k-i:Nat):Int):=by rw [wrap_i64 (by omega) (by omega)];omega
    rw [ew,Int.toNat_natCast,Int.toNat_natCast]
    have hp:a.getD i 0*b.getD (k-i) 0≤18446744065119617025:=Nat.le_trans (Nat.mul_le_mul (show _≤4294967295 by omega) (show _≤4294967295 by omega)) (by decide)
    have hmul:IntKind.u64.wrap (IntKind.u64.wrap ((a.getD i 0:Nat):Int)*IntKind.u64.wrap ((b.getD (k-i) 0:Nat):Int))=((a.getD i 0*b.getD (k-i) 0:Nat):Int):=by
     have e1:IntKind.u64.wrap ((a.getD i 0:Nat):Int)=((a.getD i 0:Nat):Int):=by rw [wrap_u64];omega
     have e2:IntKind.u64.wrap ((b.getD (k-i) 0:Nat):Int)=((b.getD (k-i) 0:Nat):Int):=by rw [wrap_u64];omega
     rw [e1,e2,←Int.natCast_mul,wrap_u64]
     omega
    rw [hmul]
    generalize a.getD i 0*b.getD (k-i) 0=p at*
    have hT:low+18446744073709551616*high+(Dy.column a b k i+p)=(low+18446744073709551616*high+Dy.column a b k i)+p:=by omega
    rw [hT] at hm
    have hTb:low+18446744073709551616*high+Dy.column a b k i≤18446744073709551616*600000:=by
     have:i*18446744065119617025≤524288*18446744065119617025:=Nat.mul_le_mul_right _ (by omega)
     omega
    generalize low+18446744073709551616*high+Dy.column a b k i=T at*
    have e3:IntKind.u64.wrap (((T%18446744073709551616:Nat):Int)+(p:Int))=(((T+p)%18446744073709551616:Nat):Int):=by rw [wrap_u64];omega
    have e4:IntKind.i64.wrap ((i:Int)+1)=((i+1:Nat):Int):=by rw [wrap_i64 (by omega) (by omega)];omega
    rw [e3,e4]
    refine cond_t (decide_eq_true (by omega)) (cond_t (decide_eq_true (by omega)) ⟨by omega,by omega,?_⟩)
    by_cases c:(T+p)%18446744073709551616<p
    ·refine cond_t (decide_eq_true (by omega)) ?_
     have e5:IntKind.u64.wrap (((T/18446744073709551616:Nat):Int)+1)=(((T+p)/18446744073709551616:Nat):Int):=by rw [wrap_u64];omega
     rw [e5]
     exact hm
    ·refine cond_f (decide_eq_false (by omega)) ?_
     have e5:(T+p)/18446744073709551616=T/18446744073709551616:=by omega
     rw [e5] at hm
     exact hm
  have start:∃i0:Nat,i=(i0:Int)∧Dy.column a b k i0=0∧i0≤min (k+1) a.length∧k<i0+b.length:=by
   by_cases c:b.length≤k
   ·rw [if_pos (by omega)] at hi
    exact ⟨k-b.length+1,by omega,Dy.column_low (by omega),by omega,by omega⟩
   ·rw [if_neg (by omega)] at hi
    exact ⟨0,by omega,rfl,by omega,by omega⟩
  obtain ⟨i0,rfl,hz,hle,hbk⟩:=start
  have:=key (min (k+1) a.length-i0) i0 (by omega) (.inr trivial) hbk
  rw [hz,Nat.add_zero,show (low+18446744073709551616*high)%18446744073709551616=low by omega,show (low+18446744073709551616*high)/18446744073709551616=high by omega] at this
  exact this
 ·cases h
theorem loop_ref_Mul:LoopOk Tryz.prog (look tab19) lamRM 2 85 keepRMO (bodyN Tryz.f109 0) lsRMO:=by
 intro vals r h K hK
 unfold lsRMO at h
 split at h
 ·cases h
  rename_i a b o low high k
  simp only [evLR] at hK
  obtain ⟨⟨ha,hb,hal,hbl,ha0,hb0,rfl,rfl,rfl,rfl⟩,hK⟩:=hK
  have key:∀(u k:Nat) (o:List Nat) (c:Nat),a.length+b.length=u+k→o.length=k→Dy.digs o→c<18446744073709551616→Dy.val o+2^(32*k)*c=Dy.cols a b a.length k→
    ∃m,iterN Tryz.prog (look tab19) lamRM 2 85 keepRMO (bodyN Tryz.f109 0) m [.dig [1,2,3] a,.dig [1,2,3] b,.grown 152 o,.num .u64 c,.num .u64 0,.num .i64 k] K:=by
   intro u
   induction u with
   |zero=>
    intro k o c hu hol hod hc hv
    refine iterN_last ?_
    rw [vc_ref_Mul_1,wrap_i64 (by omega) (by omega)]
    refine cond_f (decide_eq_false (by omega)) ?_
    rw [Dy.cols_mul b a k (by omega)] at hv
    have hlt:Dy.val a*Dy.val b<2^(32*k):=by
     rw [show k=a.length+b.length by omega,Nat.mul_add,Nat.pow_add]
     exact Nat.mul_lt_mul'' (Dy.val_lt ha.2) (Dy.val_lt hb.2)
    have hc0:c=0:=by
     by_cases h0:c=0
     ·exact h0
     ·have:2^(32*k)*1≤2^(32*k)*c:=Nat.mul_le_mul_left _ (by omega)
      omega
    subst hc0
    rw [Nat.mul_zero,Nat.add_zero] at hv
    rw [←hv,show a.length+b.length=k by omega,Dy.dgN_val' hod hol] at hK
    exact hK
   |succ u ih=>
    intro k o c hu hol hod hc hv
    have hcb:=Dy.column_le ha.2 hb.2 k a.length
    have hcb2:a.length*18446744065119617025≤524288*18446744065119617025:=Nat.mul_le_mul_right _ hal
    have hcols:Dy.cols a b a.length (k+1)=Dy.cols a b a.length k+2^(32*k)*Dy.column a b k a.length:=rfl
    generalize hC:Dy.column a b k a.length=C at*
    have hd:(c+C)%4294967296<4294967296:=Nat.mod_lt _ (by decide)
    obtain ⟨m,hm⟩:=ih (k+1) (o++[(c+C)%4294967296]) ((c+C)/4294967296) (by omega) (by simp [hol]) (Dy.digs_append.2 ⟨hod,by intro x hx;simp at hx;rw [hx];exact hd⟩) (by omega) (by
     rw [Dy.val_snoc,hol,hcols,←hv,Dy.pow_split,Nat.mul_assoc,Nat.add_assoc,←Nat.mul_add,Nat.mod_add_div,Nat.mul_add]
     omega)
    refine iterN_next m ?_
    rw [vc_ref_Mul_1]
    rw [wrap_i64 (n:=(a.length:Int)+b.length) (by omega) (by omega),wrap_i64 (n:=(k:Int)+1) (by omega) (by omega),wrap_i64 (n:=(k:Int)-b.length) (by omega) (by omega),wrap_i64 (n:=(k:Int)-b.length+1) (by omega) (by omega)]
    simp only [Int.toNat_natCast,show (0:Int).toNat=0 from rfl,Nat.mul_zero,Nat.add_zero,hC]
    have e1:(IntKind.u32.wrap (((c+C)%18446744073709551616:Nat):Int)).toNat=(c+C)%4294967296:=by rw [wrap_u32];omega
    have e2:IntKind.u64.wrap ((((c+C)/18446744073709551616:Nat):Int)*2^32)=(((c+C)/18446744073709551616*4294967296:Nat):Int):=by rw [wrap_u64];omega
    have e3:((((c+C)%18446744073709551616:Nat):Int)).fdiv (2^32)=(((c+C)%18446744073709551616/4294967296:Nat):Int):=by rw [fdiv_pow (by omega),Int.toNat_natCast]
    have e4:((((c+C)/18446744073709551616:Nat):Int)).fdiv (2^32)=0:=by rw [fdiv_pow (by omega),Int.toNat_natCast];omega
    have e5:(c+C)%18446744073709551616/4294967296|||(c+C)/18446744073709551616*4294967296=(c+C)/4294967296:=by
     rw [Nat.or_comm]
     have:=or_low (a:=(c+C)/18446744073709551616) (b:=(c+C)%18446744073709551616/4294967296) (k:=32) (by omega)
     rw [show (2:Nat)^32=4294967296 from rfl] at this
     rw [this]
     omega
    rw [e1,e2,e3,e4,w64_or (by omega) (by omega) (by omega) (by omega)]
    simp only [Int.toNat_natCast]
    rw [e5]
    have goal:(0≤[(c+C)%4294967296].length∧o.length+[(c+C)%4294967296].length≤1099511627776):=⟨Nat.zero_le _,by simp only [List.length_cons,List.length_nil];omega⟩
    refine cond_t (decide_eq_true (by omega)) ?_
    by_cases hk:b.length≤k
    ·exact cond_t (decide_eq_true (by omega)) ⟨⟨ha,hb,hal,hbl,by omega,by omega,by omega,by omega,by omega,by omega,hb0,by rw [if_pos (by omega)]⟩,goal,hm⟩
    ·exact cond_f (decide_eq_false (by omega)) ⟨⟨ha,hb,hal,hbl,by omega,by omega,by omega,by omega,by omega,by omega,hb0,by rw [if_neg (by omega)]⟩,goal,hm⟩
  exact key (a.length+b.length) 0 [] 0 (by omega) rfl Dy.digs_nil (by omega) (by simp [Dy.val,Dy.cols])
 ·cases h
theorem ok_ref_Mul (args:List AV) (s:Spec) (h:rMul args=some s) (hp:andO s.pre True):Contract Tryz.prog Inv 109 args s.res:=by
 unfold rMul at h
 split at h
 ·cases h
  rename_i a b
  obtain ⟨⟨hal,hbl⟩, -⟩:=hp
  refine contract_at false 85 lamRM ok_tab19 Tryz.func109 (by kernel_rfl) rfl (loops2 (by kernel_rfl) (by kernel_rfl) loop_ref_Mul (by kernel_rfl) loop_ref_Mul_in) fun hok=> ?_
  obtain ⟨ha,h2⟩:=oks1_dig hok
  have hb:=(oks1_dig h2).1
  rw [vc_ref_Mul]
  refine cond_i (fun h=> ?_) (fun h=>cond_i (fun h1=> ?_) (fun h1=> ?_))
  ·have h:=List.length_eq_zero_iff.1 (Int.ofNat_eq_zero.1 (of_decide_eq_true h))
   subst h
   simp [Dy.val,Dy.dg_zero]
  ·have h1:=List.length_eq_zero_iff.1 (Int.ofNat_eq_zero.1 (of_decide_eq_true h1))
   subst h1
   simp [Dy.val,Dy.dg_zero]
  ·have h:=of_decide_eq_false h
   have h1:=of_decide_eq_false h1
   refine ⟨⟨ha,hb,hal,hbl,by omega,by omega,rfl,rfl,rfl,rfl⟩,?_⟩
   rw [Dy.dg_val_dgN]
   rw [Nat.mul_add,Nat.pow_add]
   exact Nat.mul_lt_mul'' (Dy.val_lt ha.2) (Dy.val_lt hb.2)
 ·cases h
end Go.AI
