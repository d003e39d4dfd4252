/- My texts AIref3, AImark, AVmark, AImark2, AImark3, AImark4, AImark5, AIspec8, AIspecH, AVlong, AVhand, AInumH, AIhand0, AIhand1, AIhand2, AIhand3, in one. -/
import Derived.Test.YtogikmlfkhofoaaGreatDoorK8
namespace Go.Dy
set_option maxRecDepth 100000
theorem addD_ways {s s':Bool} {m m':List Nat} {e e' u:Int} {X Y:Nat} (hu:u=min e e') (hX:val m*2^(e-u).toNat=X) (hY:val m'*2^(e'-u).toNat=Y):
  addD ⟨s,m,e⟩ ⟨s',m',e'⟩=if s=s' then form s (X+Y) u else if Y≤X then form s (X-Y) u else form s' (Y-X) u:=by
 unfold addD
 rw [at_mk,at_mk]
 simp only [unit]
 rw [←hu,hX,hY]
 by_cases c:s=s'
 ·subst c
  rw [if_pos rfl,sgn_add_same,formZ_sgn]
 ·rw [if_neg c]
  by_cases c2:Y≤X
  ·rw [if_pos c2,sgn_sub c c2,formZ_sgn]
  ·rw [if_neg c2,sgn_sub' c (by omega),formZ_sgn]
theorem cmpN_ge {a b:Nat}:cmpN a b≥0 ↔ b≤a:=by
 have:=cmpN_neg (a:=a) (b:=b)
 constructor
 ·intro h
  by_cases c:a<b
  ·have:=this.2 c;omega
  ·omega
 ·intro h
  by_cases c:cmpN a b<0
  ·have:=this.1 c;omega
  ·omega
theorem dg_len {n:Nat} (h:bl n≤33554432):(dg n).length≤1048576:=length_dg_bl.2 (by omega)
theorem bl_add_le {x y k:Nat} (hx:bl x≤k) (hy:bl y≤k):bl (x+y)≤k+1:=by
 have h1:=bl_le.1 hx
 have h2:=bl_le.1 hy
 exact bl_le.2 (by rw [Nat.pow_succ];omega)
theorem bl_mul_le {n k j:Nat} (h:bl n≤j):bl (n*2^k)≤j+k:=by
 by_cases c:n=0
 ·rw [c,Nat.zero_mul,bl_zero];omega
 ·rw [bl_mul_two_pow c];omega
theorem signD_formZ (z e:Int):signD (formZ z e)=cmpZ z 0:=by
 by_cases c:z=0
 ·subst c;rfl
 ·have hn:z.natAbs≠0:=by omega
  unfold formZ
  rw [form_pos hn]
  unfold signD
  simp only
  have:dg (z.natAbs/2^tz z.natAbs)≠[]:=fun e0=>by
   have h0:=dg_eq_nil.1 e0
   have h1:=div_tz_odd hn
   omega
  rw [if_neg this]
  by_cases h:z<0
  ·rw [decide_eq_true h,if_pos rfl,cmpZ_lt h]
  ·rw [decide_eq_false h,if_neg (by simp),cmpZ_gt (by omega)]
end Go.Dy
namespace Go.AI
open Go Go.RowKit Go.Proofs
set_option linter.unusedVariables false
set_option maxRecDepth 100000
theorem add_tail {s s':Bool} {X Y:Nat} {u:Int} {d:Dy.Dyd} (hd:d=if s=s' then Dy.form s (X+Y) u else if Y≤X then Dy.form s (X-Y) u else Dy.form s' (Y-X) u)
  (hX:Dy.bl X≤500000) (hY:Dy.bl Y≤500000) (hu: -16777216≤u∧u≤16777216) {Q:AV→Prop} (hQ:Q (avD [0,1,2] d)):
  bif decide (s=s') then ((Dy.dg X).length≤1048576∧(Dy.dg Y).length≤1048576)∧(True∧(Dy.dg (X+Y)).length≤1048576∧ -1099511627776≤u∧u≤1099511627776)∧
    ∀b1,b1=(Dy.form s (X+Y) u).neg→∀l2,l2=(Dy.form s (X+Y) u).mag→∀n3,n3=(Dy.form s (X+Y) u).exp→Q (.agg [.bool b1,.dig [0,1,2] l2,.num .i64 n3])
  else (True∧True)∧bif decide (Dy.cmpN X Y≥0) then (Y≤X∧(Dy.dg X).length≤1048576)∧(True∧(Dy.dg (X-Y)).length≤1048576∧ -1099511627776≤u∧u≤1099511627776)∧
     ∀b1,b1=(Dy.form s (X-Y) u).neg→∀l2,l2=(Dy.form s (X-Y) u).mag→∀n3,n3=(Dy.form s (X-Y) u).exp→Q (.agg [.bool b1,.dig [0,1,2] l2,.num .i64 n3])
   else (X≤Y∧(Dy.dg Y).length≤1048576)∧(True∧(Dy.dg (Y-X)).length≤1048576∧ -1099511627776≤u∧u≤1099511627776)∧
     ∀b1,b1=(Dy.form s' (Y-X) u).neg→∀l2,l2=(Dy.form s' (Y-X) u).mag→∀n3,n3=(Dy.form s' (Y-X) u).exp→Q (.agg [.bool b1,.dig [0,1,2] l2,.num .i64 n3]):=by
 have hs:=Dy.bl_add_le hX hY
 have h1:=Dy.bl_mono (Nat.sub_le X Y)
 have h2:=Dy.bl_mono (Nat.sub_le Y X)
 have l1:=Dy.dg_len (n:=X) (by omega)
 have l2:=Dy.dg_len (n:=Y) (by omega)
 have l3:=Dy.dg_len (n:=X+Y) (by omega)
 have l4:=Dy.dg_len (n:=X-Y) (by omega)
 have l5:=Dy.dg_len (n:=Y-X) (by omega)
 refine cond_i (fun h=> ?_) (fun h=> ?_)
 ·rw [if_pos (of_decide_eq_true h)] at hd
  refine ⟨⟨l1,l2⟩,⟨trivial,l3,by omega,by omega⟩,?_⟩
  rintro _ rfl _ rfl _ rfl
  rw [hd] at hQ
  exact hQ
 ·rw [if_neg (of_decide_eq_false h)] at hd
  refine ⟨⟨trivial,trivial⟩,cond_i (fun h3=> ?_) (fun h3=> ?_)⟩
  ·have h3:=Dy.cmpN_ge.1 (of_decide_eq_true h3)
   rw [if_pos h3] at hd
   refine ⟨⟨h3,l1⟩,⟨trivial,l4,by omega,by omega⟩,?_⟩
   rintro _ rfl _ rfl _ rfl
   rw [hd] at hQ
   exact hQ
  ·have h3:=mt Dy.cmpN_ge.2 (of_decide_eq_false h3)
   rw [if_neg h3] at hd
   refine ⟨⟨by omega,l2⟩,⟨trivial,l5,by omega,by omega⟩,?_⟩
   rintro _ rfl _ rfl _ rfl
   rw [hd] at hQ
   exact hQ
theorem ok_ref2_Add (args:List AV) (s:Spec) (h:rAddD args=some s) (hp:andO s.pre True):Contract Tryz.prog Inv 57 args s.res:=by
 unfold rAddD at h
 split at h
 ·cases h
  rename_i s m e s' m' e'
  have hd:=hp.1.1
  have hd':=hp.1.2.1
  have hg:=hp.1.2.2
  refine contract0 true ok_tab19 Tryz.func57 (by kernel_rfl) (by kernel_rfl) fun hok=> ?_
  have may1:=Dy.mayD_may hd
  have may2:=Dy.mayD_may hd'
  have n1:=Dy.may_len may1
  have n2:=Dy.may_len may2
  have b1:=Dy.may_bl may1
  have b2:=Dy.may_bl may2
  have x1:=Dy.mayD_exp hd
  have x2:=Dy.mayD_exp hd'
  rw [vc_ref2_Add]
  simp only [Dy.val_dg]
  refine cond_i (fun h=> ?_) (fun h=>cond_i (fun h1=> ?_) (fun h1=> ?_))
  ·have h:=List.length_eq_zero_iff.1 (Int.ofNat_eq_zero.1 (of_decide_eq_true h))
   subst h
   rw [Dy.addD_comm,Dy.addD_nil hd' hd]
   rfl
  ·have h1:=List.length_eq_zero_iff.1 (Int.ofNat_eq_zero.1 (of_decide_eq_true h1))
   subst h1
   rw [Dy.addD_nil hd hd']
   rfl
  ·have hg: -300000≤e-e'∧e-e'≤300000:=by
    rcases hg with c|c|c
    ·subst c;exact absurd rfl (of_decide_eq_false h)
    ·subst c;exact absurd rfl (of_decide_eq_false h1)
    ·exact c
   obtain ⟨hg1,hg2⟩:=hg
   refine cond_i (fun h2=> ?_) (fun h2=> ?_)
   ·have h2:=of_decide_eq_true h2
    rw [wrap_i64 (n:=e-e') (by omega) (by omega),wrap_i64 (n:=e'-e') (by omega) (by omega)]
    refine ⟨⟨by omega,by omega,by omega⟩,⟨by omega,by omega,by omega⟩,?_⟩
    refine add_tail (Q:=fun r=>r=avD [0,1,2] (Dy.addD ⟨s,m,e⟩ ⟨s',m',e'⟩)) (Dy.addD_ways (s:=s) (s':=s') (m:=m) (m':=m') (e:=e) (e':=e') (u:=e') (by omega) rfl rfl) ?_ ?_ (by omega) rfl
    ·exact Nat.le_trans (Dy.bl_mul_le b1) (by omega)
    ·exact Nat.le_trans (Dy.bl_mul_le b2) (by omega)
   ·have h2:=of_decide_eq_false h2
    rw [wrap_i64 (n:=e-e) (by omega) (by omega),wrap_i64 (n:=e'-e) (by omega) (by omega)]
    refine ⟨⟨by omega,by omega,by omega⟩,⟨by omega,by omega,by omega⟩,?_⟩
    refine add_tail (Q:=fun r=>r=avD [0,1,2] (Dy.addD ⟨s,m,e⟩ ⟨s',m',e'⟩)) (Dy.addD_ways (s:=s) (s':=s') (m:=m) (m':=m') (e:=e) (e':=e') (u:=e) (by omega) rfl rfl) ?_ ?_ (by omega) rfl
    ·exact Nat.le_trans (Dy.bl_mul_le b1) (by omega)
    ·exact Nat.le_trans (Dy.bl_mul_le b2) (by omega)
 ·cases h
theorem ok_ref2_Shift (args:List AV) (s:Spec) (h:rShiftD args=some s) (hp:andO s.pre True):Contract Tryz.prog Inv 100 args s.res:=by
 unfold rShiftD at h
 split at h
 ·cases h
  rename_i s m e n
  have hpp:=hp.1
  refine contract0 true ok_tab19 Tryz.func100 (by kernel_rfl) (by kernel_rfl) fun hok=> ?_
  rw [vc_ref2_Shift]
  refine cond_i (fun h=> ?_) (fun h=> ?_)
  ·have h:=of_decide_eq_true h
   have hm:m≠[]:=fun e=>by rw [e] at h;simp at h
   obtain ⟨p1,p2,p3,p4⟩:=hpp.resolve_left hm
   rw [wrap_i64 (by omega) (by omega)]
   simp only [if_neg hm]
  ·have h:=of_decide_eq_false h
   have hm:m=[]:=List.length_eq_zero_iff.1 (by omega)
   simp only [if_pos hm]
 ·cases h
theorem ok_ref2_Cut (args:List AV) (s:Spec) (h:rCut args=some s) (hp:andO s.pre True):Contract Tryz.prog Inv 99 args s.res:=by
 unfold rCut at h
 split at h
 ·cases h
  rename_i s m e b
  have hd:=hp.1.1
  have hb1:=hp.1.2
  refine contract0 true ok_tab19 Tryz.func99 (by kernel_rfl) (by kernel_rfl) fun hok=> ?_
  have h5:=(oks_d hok).2.2
  have hn:=range_i64 (oks1_num h5).1
  have may1:=Dy.mayD_may hd
  have n1:=Dy.may_len may1
  have b1:=Dy.may_bl may1
  have x1:=Dy.mayD_exp hd
  rw [vc_ref2_Cut,wrap_i64 (n:=(Dy.bl (Dy.val m):Int)-b) (by omega) (by omega)]
  unfold Dy.cutR Dy.headD Dy.overD
  simp only
  refine ⟨⟨Dy.may_dg may1,by omega⟩,cond_i (fun h=> ?_) (fun h=> ?_)⟩
  ·have h:=of_decide_eq_true h
   rw [if_pos h]
   rfl
  ·have h:=of_decide_eq_false h
   rw [if_neg h]
   have hv:Dy.val m≠0:=fun e0=>by rw [e0,Dy.bl_zero] at h;omega
   have hm0:m≠[]:=fun e0=>hv (by rw [e0];rfl)
   have hz:Dy.tz (Dy.val m)=0:=Dy.tz_odd (Dy.mayD_odd hd hm0)
   obtain ⟨n,hn'⟩:∃n:Nat,(Dy.bl (Dy.val m):Int)-b=n:=⟨((Dy.bl (Dy.val m):Int)-b).toNat,by omega⟩
   rw [hn'] at h ⊢
   rw [wrap_i64 (by omega) (by omega),Int.toNat_natCast,hz,decide_eq_true (show Dy.val m≠0∧((0:Nat):Int)<(n:Int) from ⟨hv,by omega⟩)]
   refine ⟨⟨Dy.may_dg may1,by omega,by omega⟩,?_⟩
   rintro _ rfl _ rfl
   rw [Dy.val_dg]
   have hb2:Dy.bl (Dy.val m/2^n)≤131072:=by rw [Dy.bl_div_two_pow];omega
   refine ⟨⟨rfl,Dy.dg_len (by omega),by omega,by omega⟩,?_⟩
   rintro _ rfl _ rfl _ rfl
   rfl
 ·cases h
theorem ok_ref2_Floor (args:List AV) (s:Spec) (h:rFloor args=some s) (hp:andO s.pre True):Contract Tryz.prog Inv 193 args s.res:=by
 unfold rFloor at h
 split at h
 ·cases h
  rename_i s m e
  have hd:=hp.1
  refine contract0 true ok_tab19 Tryz.func193 (by kernel_rfl) (by kernel_rfl) fun hok=> ?_
  have may1:=Dy.mayD_may hd
  have n1:=Dy.may_len may1
  have b1:=Dy.may_bl may1
  have x1:=Dy.mayD_exp hd
  rw [vc_ref2_Floor]
  unfold Dy.floorD
  simp only
  refine cond_i (fun h=> ?_) (fun h=> ?_)
  ·have h:=of_decide_eq_true h
   rw [if_pos (by omega)]
   rfl
  ·have h:=of_decide_eq_false h
   rw [if_neg (by omega)]
   have hm0:m≠[]:=fun e0=>by subst e0;have:=(Dy.mayD_nil hd).2;omega
   have hv:=Dy.val_ne may1 hm0
   obtain ⟨k,hk⟩:∃k:Nat,e= -(k:Int):=⟨(-e).toNat,by omega⟩
   subst hk
   rw [wrap_i64 (n:=0 - -(k:Int)) (by omega) (by omega),show (0:Int) - -(k:Int)=(k:Int) by omega,Int.toNat_natCast,Dy.int_mk,show (- -(k:Int)).toNat=k by omega,Dy.floor_sgn,Dy.formZ_sgn]
   have hq:Dy.bl (Dy.val m/2^k)≤131072:=by rw [Dy.bl_div_two_pow];omega
   have hq1:=Dy.bl_half_succ hq
   have hdec:decide (Dy.val m≠0∧(Dy.tz (Dy.val m):Int)<(k:Int))=decide (Dy.val m%2^k≠0):=by
    rw [←Dy.lost_iff hv,decide_eq_decide]
    exact ⟨fun h=>h.2,fun h=>⟨hv,h⟩⟩
   refine ⟨⟨Dy.may_dg may1,by omega,by omega⟩,?_⟩
   rintro _ rfl _ rfl
   rw [hdec]
   simp only [Dy.val_dg]
   cases s
   ·refine cond_f rfl ⟨⟨trivial,Dy.dg_len (by omega),by omega,by omega⟩,?_⟩
    simp only [Bool.false_and,Bool.false_eq_true,if_false]
    rintro _ rfl _ rfl _ rfl
    rfl
   ·refine cond_t rfl (cond_i (fun h2=> ?_) (fun h2=> ?_))
    ·rw [h2]
     simp only [Bool.and_self,if_true]
     refine ⟨⟨Dy.dg_len (by omega),by omega⟩,⟨trivial,Dy.dg_len (by omega),by omega,by omega⟩,?_⟩
     rintro _ rfl _ rfl _ rfl
     rfl
    ·rw [h2]
     simp only [Bool.and_false,Bool.false_eq_true,if_false]
     refine ⟨⟨trivial,Dy.dg_len (by omega),by omega,by omega⟩,?_⟩
     rintro _ rfl _ rfl _ rfl
     rfl
 ·cases h
theorem ok_tab20:PhiOk Tryz.prog Inv (look tab20):=
 look_cons (look_cons (look_cons (look_cons (look_cons (ok_tab19) ok_ref2_Floor) ok_ref2_Cut) ok_ref2_Shift) ok_ref2_Add) ok_ref_Mul
theorem ok_ref2_Sub (args:List AV) (s:Spec) (h:rSubD args=some s) (hp:andO s.pre True):Contract Tryz.prog Inv 101 args s.res:=by
 unfold rSubD at h
 split at h
 ·cases h
  rename_i s m e s' m' e'
  have hd:=hp.1.1
  have hd':=hp.1.2.1
  have hg:=hp.1.2.2
  refine contract0 true ok_tab20 Tryz.func101 (by kernel_rfl) (by kernel_rfl) fun hok=> ?_
  have hneg:(if m'=[] then s' else !s')=(!s'&&decide (m'≠[])):=by
   by_cases c:m'=[]
   ·subst c
    rw [(Dy.mayD_nil hd').1]
    rfl
   ·simp [c]
  rw [vc_ref2_Sub,hneg]
  rintro _ rfl _ rfl _ rfl
  refine ⟨⟨hd,mayD_neg hd',hg⟩,?_⟩
  rintro _ rfl _ rfl _ rfl
  rfl
 ·cases h
theorem ok_ref2_Mul (args:List AV) (s:Spec) (h:rMulD args=some s) (hp:andO s.pre True):Contract Tryz.prog Inv 48 args s.res:=by
 unfold rMulD at h
 split at h
 ·cases h
  rename_i s m e s' m' e'
  have hd:=hp.1.1
  have hd':=hp.1.2
  refine contract0 false ok_tab20 Tryz.func48 (by kernel_rfl) (by kernel_rfl) fun hok=> ?_
  have may1:=Dy.mayD_may hd
  have may2:=Dy.mayD_may hd'
  have n1:=Dy.may_len may1
  have n2:=Dy.may_len may2
  have b1:=Dy.may_bl may1
  have b2:=Dy.may_bl may2
  have x1:=Dy.mayD_exp hd
  have x2:=Dy.mayD_exp hd'
  have hb:Dy.bl (Dy.val m*Dy.val m')≤262144:=by
   have gen:∀K:Nat,Dy.bl (Dy.val m)≤K→Dy.bl (Dy.val m')≤K→Dy.bl (Dy.val m*Dy.val m')≤K+K:=fun K h1 h2=>by
    refine Dy.bl_le.2 ?_
    rw [Nat.pow_add]
    exact Nat.mul_lt_mul'' (Dy.bl_le.1 h1) (Dy.bl_le.1 h2)
   exact gen _ b1 b2
  rw [vc_ref2_Mul,wrap_i64 (by omega) (by omega)]
  simp only [Dy.val_dg]
  refine ⟨⟨by omega,by omega⟩,⟨trivial,Dy.dg_len (by omega),by omega,by omega⟩,?_⟩
  rintro _ rfl _ rfl _ rfl
  rfl
 ·cases h
theorem ok_tab21:PhiOk Tryz.prog Inv (look tab21):=look_cons (look_cons (ok_tab20) ok_ref2_Mul) ok_ref2_Sub
theorem ok_ref2_Cmp (args:List AV) (s:Spec) (h:rCmpD args=some s) (hp:andO s.pre True):Contract Tryz.prog Inv 52 args s.res:=by
 unfold rCmpD at h
 split at h
 ·cases h
  rename_i s m e s' m' e'
  have hd:=hp.1.1
  have hd':=hp.1.2
  refine contract0 false ok_tab21 Tryz.func52 (by kernel_rfl) (by kernel_rfl) fun hok=> ?_
  have may1:=Dy.mayD_may hd
  have may2:=Dy.mayD_may hd'
  have n1:=Dy.may_len may1
  have n2:=Dy.may_len may2
  have b1:=Dy.may_bl may1
  have b2:=Dy.may_bl may2
  have x1:=Dy.mayD_exp hd
  have x2:=Dy.mayD_exp hd'
  obtain ⟨k1,k2,k3⟩:=Dy.cmpD_sign hd hd'
  rw [vc_ref2_Cmp]
  refine cond_i (fun h=> ?_) (fun h=> ?_)
  ·simp only [Bool.not_eq_true',decide_eq_false_iff_not] at h
   refine cond_i (fun h1=> ?_) (fun h1=> ?_)
   ·rw [k1 (of_decide_eq_true h1)]
   ·have h1:=of_decide_eq_false h1
    rw [k2 (by omega)]
  ·simp only [Bool.not_eq_false',decide_eq_true_eq] at h
   obtain ⟨k4,k5⟩:=k3 h
   refine cond_i (fun h1=> ?_) (fun h1=> ?_)
   ·have h1:=of_decide_eq_true h1
    rw [k5,h1,Int.zero_mul]
   ·have h1:=of_decide_eq_false h1
    have hm:m≠[]:=fun e0=>h1 (by unfold Dy.signD;simp only [if_pos e0])
    have hm':m'≠[]:=fun e0=>hm (k4.2 e0)
    have v1:=Dy.val_ne may1 hm
    have v2:=Dy.val_ne may2 hm'
    have t1:Dy.topD ⟨s,m,e⟩=e+Dy.bl (Dy.val m):=by unfold Dy.topD;simp only [if_neg hm]
    have t2:Dy.topD ⟨s',m',e'⟩=e'+Dy.bl (Dy.val m'):=by unfold Dy.topD;simp only [if_neg hm']
    have sg:Dy.signD ⟨s,m,e⟩= -1∨Dy.signD ⟨s,m,e⟩=1:=by
     unfold Dy.signD at h1 ⊢
     simp only [if_neg hm] at h1 ⊢
     cases s<;>simp
    have q1:=Dy.bl_mul_two_pow v1 (e-min e e').toNat
    have q2:=Dy.bl_mul_two_pow v2 (e'-min e e').toNat
    rw [t1,t2]
    refine ⟨⟨Dy.may_dg may1,by omega,by omega,by omega⟩,⟨Dy.may_dg may2,by omega,by omega,by omega⟩,cond_i (fun h2=> ?_) (fun h2=> ?_)⟩
    ·simp only [Bool.not_eq_true',decide_eq_false_iff_not] at h2
     refine ⟨⟨Dy.may_dg may1,by omega,by omega,by omega⟩,⟨Dy.may_dg may2,by omega,by omega,by omega⟩,?_⟩
     have hcmp:Dy.cmpZ (Dy.val m*2^(e-min e e').toNat:Nat) (Dy.val m'*2^(e'-min e e').toNat:Nat)=if e+Dy.bl (Dy.val m)<e'+Dy.bl (Dy.val m') then -1 else 1:=by
      by_cases c:e+(Dy.bl (Dy.val m):Int)<e'+(Dy.bl (Dy.val m'):Int)
      ·rw [if_pos c]
       have:=Dy.bl_lt (a:=Dy.val m*2^(e-min e e').toNat) (b:=Dy.val m'*2^(e'-min e e').toNat) (by omega)
       exact Dy.cmpZ_lt (by omega)
      ·rw [if_neg c]
       have:=Dy.bl_lt (a:=Dy.val m'*2^(e'-min e e').toNat) (b:=Dy.val m*2^(e-min e e').toNat) (by omega)
       exact Dy.cmpZ_gt (by omega)
     rw [k5,hcmp]
     by_cases c:e+(Dy.bl (Dy.val m):Int)<e'+(Dy.bl (Dy.val m'):Int)
     ·rw [if_pos c,decide_eq_true c]
      rcases sg with g|g<;>rw [g]<;>rfl
     ·rw [if_neg c,decide_eq_false c]
      rcases sg with g|g<;>rw [g]<;>rfl
    ·simp only [Bool.not_eq_false',decide_eq_true_eq] at h2
     refine ⟨⟨hd,hd',.inr (.inr ⟨by omega,by omega⟩)⟩,?_⟩
     rintro _ rfl _ rfl _ rfl
     have hn:=mayD_neg hd'
     have u1:min e e'≤e:=by omega
     have u2:min e e'≤e':=by omega
     have key:Dy.signD (Dy.addD ⟨s,m,e⟩ (Dy.negD ⟨s',m',e'⟩))=Dy.cmpZ (Dy.at_ ⟨s,m,e⟩ (min e e')+ -Dy.at_ ⟨s',m',e'⟩ (min e e')) 0:=by
      rw [Dy.addD_at (u:=min e e') (by exact u1) (by exact u2),Dy.at_negD]
      exact Dy.signD_formZ _ _
     have fin:Dy.cmpD ⟨s,m,e⟩ ⟨s',m',e'⟩=Dy.cmpZ (Dy.at_ ⟨s,m,e⟩ (min e e')) (Dy.at_ ⟨s',m',e'⟩ (min e e')):=Dy.cmpD_at u1 u2
     have:=(cmp_chain (Dy.at_ ⟨s,m,e⟩ (min e e')) (Dy.at_ ⟨s',m',e'⟩ (min e e')) 0).2.2.2.2
     rw [fin,←this,←key]
 ·cases h
theorem ok_tab22:PhiOk Tryz.prog Inv (look tab22):=look_cons ok_tab21 ok_ref2_Cmp
end Go.AI



namespace Go.AI
open Dy IntKind
end Go.AI









namespace Go.AI
open Go Go.RowKit Go.Proofs
set_option linter.unusedVariables false
def tab23:List (Nat×(List AV→Option Spec)):=tab22
theorem ok_tab23:PhiOk Tryz.prog Inv (look tab23):=ok_tab22
end Go.AI

namespace Go.Dy
def winV (L:List Nat) (lo n:Nat):Nat:=val ((L.drop lo).take n)
def putW (L:List Nat) (lo:Nat) (w:List Nat):List Nat:=L.take lo++w++L.drop (lo+w.length)
def gl (v1 v2 u2:Nat):Nat→Nat→Nat→Nat×Nat
 |0,g,l=>(g,l)
 |f+1,g,l=>if 4294967296≤g∨l*4294967296+u2<g*v2 then (if 4294967296≤l+v1 then (g-1,l+v1) else gl v1 v2 u2 f (g-1) (l+v1)) else (g,l)
end Go.Dy
namespace Go.AI
open Go Go.RowKit Go.Proofs
set_option linter.unusedVariables false
def sTrim2:List AV→Option Spec
 |[.handv 152 L none 0 len]=>some ⟨some (0<L.length∧len=L.length),.boxv [.dig [] L,.addr 0 (Dy.dg (Dy.val L)).length]⟩
 |x=>sTrim x
def sUpO:List AV→Option Spec
 |[.dig [1] a,.num .i64 n]=>some ⟨some (a≠[]∧0≤n∧n≤33554432∧a.length≤1048576),.grown 152 (Dy.dg (Dy.val a*2^n.toNat))⟩
 |_=>none
def sStep:List AV→Option Spec
 |[.handv 152 L none lo len,.dig [2] v]=>some ⟨some (0<L.length∧L.length≤4194304∧2≤v.length∧len=v.length+1∧lo+len≤L.length∧2147483648≤v.getD (v.length-1) 0∧Dy.winV L lo len<4294967296*Dy.val v),
   .boxv [.dig [] (Dy.putW L lo (Dy.dgN len (Dy.winV L lo len%Dy.val v))),.num .u32 (Dy.winV L lo len/Dy.val v:Nat)]⟩
 |_=>none
def sLong:List AV→Option Spec
 |[.dig [1] a,.dig [2] b]=>some ⟨some (Dy.dg (Dy.val a)=a∧Dy.dg (Dy.val b)=b∧2≤b.length∧b.length≤a.length∧a.length≤1048576),.tup [.dig [0] (Dy.dg (Dy.val a/Dy.val b)),.dig [0] (Dy.dg (Dy.val a%Dy.val b))]⟩
 |_=>none
def tabU:List (Nat×(List AV→Option Spec)):=(172,sTrim2)::tab2
def tabS:List (Nat×(List AV→Option Spec)):=tab2
def tabL:List (Nat×(List AV→Option Spec)):=(217,sStep)::(182,sUpO)::tab4
end Go.AI

namespace Go.AI
open Dy IntKind
open Go Go.RowKit Go.Proofs
set_option linter.unusedVariables false
set_option maxRecDepth 100000
set_option maxHeartbeats 0
def lsL1:List AV→Option LR
 |[.dig [1,2,3] a,.num .i64 s,.grown 152 v,.grown 152 u]=>
 some (.need (a.length≤1048576∧u.length≤1048577) (.done (.exit 0) [.dig [1,2,3] a,.num .i64 s,.grown 152 v,.grown 152 (u++List.replicate (a.length+1-u.length) 0)]))
 |_=>none
def keepL1:List (Nat×Keep):=[(0,.same),(6,.same),(7,.same),(8,.same)]
def lsL2:List AV→Option LR
 |[.num .i64 s,.grown 152 v,.grown 152 u,.num .i64 n,.grown 152 q,.num .i64 j]=>
 some (.need (Dy.digs u∧Dy.digs v∧2≤v.length∧n=v.length∧u.length=q.length+v.length∧u.length≤1048577∧q=List.replicate q.length 0∧j=q.length-1∧2147483648≤v.getD (v.length-1) 0∧Dy.val u<Dy.val v*2^(32*q.length))
 (.done (.exit 2) [.num .i64 s,.grown 152 v,.grown 152 (Dy.dgN u.length (Dy.val u%Dy.val v)),.num .i64 n,.grown 152 (Dy.dgN q.length (Dy.val u/Dy.val v)),.num .i64 (-1)]))
 |_=>none
def keepL2:List (Nat×Keep):=[(6,.same),(7,.same),(8,.same),(9,.same),(10,.same),(11,.same)]
def lamLong:=lam [(4,.spec keepL1 lsL1),(9,.spec keepL2 lsL2),(1000012,.unroll 0)]
theorem vc_long (a:List Nat) (b:List Nat) (Q:AV→Prop):(evF Tryz.prog (look tabL) lamLong false Tryz.f206 [.dig [1] a,.dig [2] b] Q)=(((0:Int)≤i64.wrap ((↑b.length:Int)-(1:Int))∧i64.wrap ((↑b.length:Int)-(1:Int))<(↑b.length:Int))∧(b≠[]∧(0:Int)≤(32:Int)-(↑(Lib.bitLen (↑(b.getD (i64.wrap ((↑b.length:Int)-(1:Int))).toNat (0:Nat)):Int).toNat):Int)∧(32:Int)-(↑(Lib.bitLen (↑(b.getD (i64.wrap ((↑b.length:Int)-(1:Int))).toNat (0:Nat)):Int).toNat):Int)≤(33554432:Int)∧b.length≤1048576)∧(a≠[]∧(0:Int)≤(32:Int)-(↑(Lib.bitLen (↑(b.getD (i64.wrap ((↑b.length:Int)-(1:Int))).toNat (0:Nat)):Int).toNat):Int)∧(32:Int)-(↑(Lib.bitLen (↑(b.getD (i64.wrap ((↑b.length:Int)-(1:Int))).toNat (0:Nat)):Int).toNat):Int)≤(33554432:Int)∧a.length≤1048576)∧(a.length≤1048576∧(dg (val a*(2:Nat)^((32:Int)-(↑(Lib.bitLen (↑(b.getD (i64.wrap ((↑b.length:Int)-(1:Int))).toNat (0:Nat)):Int).toNat):Int)).toNat)).length≤1048577)∧((0:Int)≤i64.wrap ((↑(dg (val a*(2:Nat)^((32:Int)-(↑(Lib.bitLen (↑(b.getD (i64.wrap ((↑b.length:Int)-(1:Int))).toNat (0:Nat)):Int).toNat):Int)).toNat)++List.replicate (a.length+(1:Nat)-(dg (val a*(2:Nat)^((32:Int)-(↑(Lib.bitLen (↑(b.getD (i64.wrap ((↑b.length:Int)-(1:Int))).toNat (0:Nat)):Int).toNat):Int)).toNat)).length) (0:Nat)).length:Int)-(↑(dg (val b*(2:Nat)^((32:Int)-(↑(Lib.bitLen (↑(b.getD (i64.wrap ((↑b.length:Int)-(1:Int))).toNat (0:Nat)):Int).toNat):Int)).toNat)).length:Int))∧i64.wrap ((↑(dg (val a*(2:Nat)^((32:Int)-(↑(Lib.bitLen (↑(b.getD (i64.wrap ((↑b.length:Int)-(1:Int))).toNat (0:Nat)):Int).toNat):Int)).toNat)++List.replicate (a.length+(1:Nat)-(dg (val a*(2:Nat)^((32:Int)-(↑(Lib.bitLen (↑(b.getD (i64.wrap ((↑b.length:Int)-(1:Int))).toNat (0:Nat)):Int).toNat):Int)).toNat)).length) (0:Nat)).length:Int)-(↑(dg (val b*(2:Nat)^((32:Int)-(↑(Lib.bitLen (↑(b.getD (i64.wrap ((↑b.length:Int)-(1:Int))).toNat (0:Nat)):Int).toNat):Int)).toNat)).length:Int))≤i64.wrap ((↑(dg (val a*(2:Nat)^((32:Int)-(↑(Lib.bitLen (↑(b.getD (i64.wrap ((↑b.length:Int)-(1:Int))).toNat (0:Nat)):Int).toNat):Int)).toNat)++List.replicate (a.length+(1:Nat)-(dg (val a*(2:Nat)^((32:Int)-(↑(Lib.bitLen (↑(b.getD (i64.wrap ((↑b.length:Int)-(1:Int))).toNat (0:Nat)):Int).toNat):Int)).toNat)).length) (0:Nat)).length:Int)-(↑(dg (val b*(2:Nat)^((32:Int)-(↑(Lib.bitLen (↑(b.getD (i64.wrap ((↑b.length:Int)-(1:Int))).toNat (0:Nat)):Int).toNat):Int)).toNat)).length:Int))∧i64.wrap ((↑(dg (val a*(2:Nat)^((32:Int)-(↑(Lib.bitLen (↑(b.getD (i64.wrap ((↑b.length:Int)-(1:Int))).toNat (0:Nat)):Int).toNat):Int)).toNat)++List.replicate (a.length+(1:Nat)-(dg (val a*(2:Nat)^((32:Int)-(↑(Lib.bitLen (↑(b.getD (i64.wrap ((↑b.length:Int)-(1:Int))).toNat (0:Nat)):Int).toNat):Int)).toNat)).length) (0:Nat)).length:Int)-(↑(dg (val b*(2:Nat)^((32:Int)-(↑(Lib.bitLen (↑(b.getD (i64.wrap ((↑b.length:Int)-(1:Int))).toNat (0:Nat)):Int).toNat):Int)).toNat)).length:Int))≤(2:Int)^(40:Nat))∧(digs (dg (val a*(2:Nat)^((32:Int)-(↑(Lib.bitLen (↑(b.getD (i64.wrap ((↑b.length:Int)-(1:Int))).toNat (0:Nat)):Int).toNat):Int)).toNat)++List.replicate (a.length+(1:Nat)-(dg (val a*(2:Nat)^((32:Int)-(↑(Lib.bitLen (↑(b.getD (i64.wrap ((↑b.length:Int)-(1:Int))).toNat (0:Nat)):Int).toNat):Int)).toNat)).length) (0:Nat))∧digs (dg (val b*(2:Nat)^((32:Int)-(↑(Lib.bitLen (↑(b.getD (i64.wrap ((↑b.length:Int)-(1:Int))).toNat (0:Nat)):Int).toNat):Int)).toNat))∧(2:Nat)≤(dg (val b*(2:Nat)^((32:Int)-(↑(Lib.bitLen (↑(b.getD (i64.wrap ((↑b.length:Int)-(1:Int))).toNat (0:Nat)):Int).toNat):Int)).toNat)).length∧(↑(dg (val b*(2:Nat)^((32:Int)-(↑(Lib.bitLen (↑(b.getD (i64.wrap ((↑b.length:Int)-(1:Int))).toNat (0:Nat)):Int).toNat):Int)).toNat)).length:Int)=(↑(dg (val b*(2:Nat)^((32:Int)-(↑(Lib.bitLen (↑(b.getD (i64.wrap ((↑b.length:Int)-(1:Int))).toNat (0:Nat)):Int).toNat):Int)).toNat)).length:Int)∧(dg (val a*(2:Nat)^((32:Int)-(↑(Lib.bitLen (↑(b.getD (i64.wrap ((↑b.length:Int)-(1:Int))).toNat (0:Nat)):Int).toNat):Int)).toNat)++List.replicate (a.length+(1:Nat)-(dg (val a*(2:Nat)^((32:Int)-(↑(Lib.bitLen (↑(b.getD (i64.wrap ((↑b.length:Int)-(1:Int))).toNat (0:Nat)):Int).toNat):Int)).toNat)).length) (0:Nat)).length=(List.replicate (i64.wrap ((↑(dg (val a*(2:Nat)^((32:Int)-(↑(Lib.bitLen (↑(b.getD (i64.wrap ((↑b.length:Int)-(1:Int))).toNat (0:Nat)):Int).toNat):Int)).toNat)++List.replicate (a.length+(1:Nat)-(dg (val a*(2:Nat)^((32:Int)-(↑(Lib.bitLen (↑(b.getD (i64.wrap ((↑b.length:Int)-(1:Int))).toNat (0:Nat)):Int).toNat):Int)).toNat)).length) (0:Nat)).length:Int)-(↑(dg (val b*(2:Nat)^((32:Int)-(↑(Lib.bitLen (↑(b.getD (i64.wrap ((↑b.length:Int)-(1:Int))).toNat (0:Nat)):Int).toNat):Int)).toNat)).length:Int))).toNat (0:Nat)).length+(dg (val b*(2:Nat)^((32:Int)-(↑(Lib.bitLen (↑(b.getD (i64.wrap ((↑b.length:Int)-(1:Int))).toNat (0:Nat)):Int).toNat):Int)).toNat)).length∧(dg (val a*(2:Nat)^((32:Int)-(↑(Lib.bitLen (↑(b.getD (i64.wrap ((↑b.length:Int)-(1:Int))).toNat (0:Nat)):Int).toNat):Int)).toNat)++List.replicate (a.length+(1:Nat)-(dg (val a*(2:Nat)^((32:Int)-(↑(Lib.bitLen (↑(b.getD (i64.wrap ((↑b.length:Int)-(1:Int))).toNat (0:Nat)):Int).toNat):Int)).toNat)).length) (0:Nat)).length≤1048577∧List.replicate (i64.wrap ((↑(dg (val a*(2:Nat)^((32:Int)-(↑(Lib.bitLen (↑(b.getD (i64.wrap ((↑b.length:Int)-(1:Int))).toNat (0:Nat)):Int).toNat):Int)).toNat)++List.replicate (a.length+(1:Nat)-(dg (val a*(2:Nat)^((32:Int)-(↑(Lib.bitLen (↑(b.getD (i64.wrap ((↑b.length:Int)-(1:Int))).toNat (0:Nat)):Int).toNat):Int)).toNat)).length) (0:Nat)).length:Int)-(↑(dg (val b*(2:Nat)^((32:Int)-(↑(Lib.bitLen (↑(b.getD (i64.wrap ((↑b.length:Int)-(1:Int))).toNat (0:Nat)):Int).toNat):Int)).toNat)).length:Int))).toNat (0:Nat)=List.replicate (List.replicate (i64.wrap ((↑(dg (val a*(2:Nat)^((32:Int)-(↑(Lib.bitLen (↑(b.getD (i64.wrap ((↑b.length:Int)-(1:Int))).toNat (0:Nat)):Int).toNat):Int)).toNat)++List.replicate (a.length+(1:Nat)-(dg (val a*(2:Nat)^((32:Int)-(↑(Lib.bitLen (↑(b.getD (i64.wrap ((↑b.length:Int)-(1:Int))).toNat (0:Nat)):Int).toNat):Int)).toNat)).length) (0:Nat)).length:Int)-(↑(dg (val b*(2:Nat)^((32:Int)-(↑(Lib.bitLen (↑(b.getD (i64.wrap ((↑b.length:Int)-(1:Int))).toNat (0:Nat)):Int).toNat):Int)).toNat)).length:Int))).toNat (0:Nat)).length (0:Nat)∧i64.wrap ((↑(List.replicate (i64.wrap ((↑(dg (val a*(2:Nat)^((32:Int)-(↑(Lib.bitLen (↑(b.getD (i64.wrap ((↑b.length:Int)-(1:Int))).toNat (0:Nat)):Int).toNat):Int)).toNat)++List.replicate (a.length+(1:Nat)-(dg (val a*(2:Nat)^((32:Int)-(↑(Lib.bitLen (↑(b.getD (i64.wrap ((↑b.length:Int)-(1:Int))).toNat (0:Nat)):Int).toNat):Int)).toNat)).length) (0:Nat)).length:Int)-(↑(dg (val b*(2:Nat)^((32:Int)-(↑(Lib.bitLen (↑(b.getD (i64.wrap ((↑b.length:Int)-(1:Int))).toNat (0:Nat)):Int).toNat):Int)).toNat)).length:Int))).toNat (0:Nat)).length:Int)-(1:Int))=(↑(List.replicate (i64.wrap ((↑(dg (val a*(2:Nat)^((32:Int)-(↑(Lib.bitLen (↑(b.getD (i64.wrap ((↑b.length:Int)-(1:Int))).toNat (0:Nat)):Int).toNat):Int)).toNat)++List.replicate (a.length+(1:Nat)-(dg (val a*(2:Nat)^((32:Int)-(↑(Lib.bitLen (↑(b.getD (i64.wrap ((↑b.length:Int)-(1:Int))).toNat (0:Nat)):Int).toNat):Int)).toNat)).length) (0:Nat)).length:Int)-(↑(dg (val b*(2:Nat)^((32:Int)-(↑(Lib.bitLen (↑(b.getD (i64.wrap ((↑b.length:Int)-(1:Int))).toNat (0:Nat)):Int).toNat):Int)).toNat)).length:Int))).toNat (0:Nat)).length:Int)-(1:Int)∧(2147483648:Nat)≤(dg (val b*(2:Nat)^((32:Int)-(↑(Lib.bitLen (↑(b.getD (i64.wrap ((↑b.length:Int)-(1:Int))).toNat (0:Nat)):Int).toNat):Int)).toNat)).getD ((dg (val b*(2:Nat)^((32:Int)-(↑(Lib.bitLen (↑(b.getD (i64.wrap ((↑b.length:Int)-(1:Int))).toNat (0:Nat)):Int).toNat):Int)).toNat)).length-(1:Nat)) (0:Nat)∧val (dg (val a*(2:Nat)^((32:Int)-(↑(Lib.bitLen (↑(b.getD (i64.wrap ((↑b.length:Int)-(1:Int))).toNat (0:Nat)):Int).toNat):Int)).toNat)++List.replicate (a.length+(1:Nat)-(dg (val a*(2:Nat)^((32:Int)-(↑(Lib.bitLen (↑(b.getD (i64.wrap ((↑b.length:Int)-(1:Int))).toNat (0:Nat)):Int).toNat):Int)).toNat)).length) (0:Nat))<val (dg (val b*(2:Nat)^((32:Int)-(↑(Lib.bitLen (↑(b.getD (i64.wrap ((↑b.length:Int)-(1:Int))).toNat (0:Nat)):Int).toNat):Int)).toNat))*(2:Nat)^((32:Nat)*(List.replicate (i64.wrap ((↑(dg (val a*(2:Nat)^((32:Int)-(↑(Lib.bitLen (↑(b.getD (i64.wrap ((↑b.length:Int)-(1:Int))).toNat (0:Nat)):Int).toNat):Int)).toNat)++List.replicate (a.length+(1:Nat)-(dg (val a*(2:Nat)^((32:Int)-(↑(Lib.bitLen (↑(b.getD (i64.wrap ((↑b.length:Int)-(1:Int))).toNat (0:Nat)):Int).toNat):Int)).toNat)).length) (0:Nat)).length:Int)-(↑(dg (val b*(2:Nat)^((32:Int)-(↑(Lib.bitLen (↑(b.getD (i64.wrap ((↑b.length:Int)-(1:Int))).toNat (0:Nat)):Int).toNat):Int)).toNat)).length:Int))).toNat (0:Nat)).length))∧((0:Int)≤(↑(dg (val b*(2:Nat)^((32:Int)-(↑(Lib.bitLen (↑(b.getD (i64.wrap ((↑b.length:Int)-(1:Int))).toNat (0:Nat)):Int).toNat):Int)).toNat)).length:Int)∧(↑(dg (val b*(2:Nat)^((32:Int)-(↑(Lib.bitLen (↑(b.getD (i64.wrap ((↑b.length:Int)-(1:Int))).toNat (0:Nat)):Int).toNat):Int)).toNat)).length:Int)≤(↑(dgN (dg (val a*(2:Nat)^((32:Int)-(↑(Lib.bitLen (↑(b.getD (i64.wrap ((↑b.length:Int)-(1:Int))).toNat (0:Nat)):Int).toNat):Int)).toNat)++List.replicate (a.length+(1:Nat)-(dg (val a*(2:Nat)^((32:Int)-(↑(Lib.bitLen (↑(b.getD (i64.wrap ((↑b.length:Int)-(1:Int))).toNat (0:Nat)):Int).toNat):Int)).toNat)).length) (0:Nat)).length (val (dg (val a*(2:Nat)^((32:Int)-(↑(Lib.bitLen (↑(b.getD (i64.wrap ((↑b.length:Int)-(1:Int))).toNat (0:Nat)):Int).toNat):Int)).toNat)++List.replicate (a.length+(1:Nat)-(dg (val a*(2:Nat)^((32:Int)-(↑(Lib.bitLen (↑(b.getD (i64.wrap ((↑b.length:Int)-(1:Int))).toNat (0:Nat)):Int).toNat):Int)).toNat)).length) (0:Nat))%val (dg (val b*(2:Nat)^((32:Int)-(↑(Lib.bitLen (↑(b.getD (i64.wrap ((↑b.length:Int)-(1:Int))).toNat (0:Nat)):Int).toNat):Int)).toNat)))).length:Int))∧((0:Int)≤(32:Int)-(↑(Lib.bitLen (↑(b.getD (i64.wrap ((↑b.length:Int)-(1:Int))).toNat (0:Nat)):Int).toNat):Int)∧(dg (val (List.take (↑(dg (val b*(2:Nat)^((32:Int)-(↑(Lib.bitLen (↑(b.getD (i64.wrap ((↑b.length:Int)-(1:Int))).toNat (0:Nat)):Int).toNat):Int)).toNat)).length:Int).toNat (dgN (dg (val a*(2:Nat)^((32:Int)-(↑(Lib.bitLen (↑(b.getD (i64.wrap ((↑b.length:Int)-(1:Int))).toNat (0:Nat)):Int).toNat):Int)).toNat)++List.replicate (a.length+(1:Nat)-(dg (val a*(2:Nat)^((32:Int)-(↑(Lib.bitLen (↑(b.getD (i64.wrap ((↑b.length:Int)-(1:Int))).toNat (0:Nat)):Int).toNat):Int)).toNat)).length) (0:Nat)).length (val (dg (val a*(2:Nat)^((32:Int)-(↑(Lib.bitLen (↑(b.getD (i64.wrap ((↑b.length:Int)-(1:Int))).toNat (0:Nat)):Int).toNat):Int)).toNat)++List.replicate (a.length+(1:Nat)-(dg (val a*(2:Nat)^((32:Int)-(↑(Lib.bitLen (↑(b.getD (i64.wrap ((↑b.length:Int)-(1:Int))).toNat (0:Nat)):Int).toNat):Int)).toNat)).length) (0:Nat))%val (dg (val b*(2:Nat)^((32:Int)-(↑(Lib.bitLen (↑(b.getD (i64.wrap ((↑b.length:Int)-(1:Int))).toNat (0:Nat)):Int).toNat):Int)).toNat))))))).length≤1048576)∧Q (.tup [.dig [0] (dg (val (dgN (List.replicate (i64.wrap ((↑(dg (val a*(2:Nat)^((32:Int)-(↑(Lib.bitLen (↑(b.getD (i64.wrap ((↑b.length:Int)-(1:Int))).toNat (0:Nat)):Int).toNat):Int)).toNat)++List.replicate (a.length+(1:Nat)-(dg (val a*(2:Nat)^((32:Int)-(↑(Lib.bitLen (↑(b.getD (i64.wrap ((↑b.length:Int)-(1:Int))).toNat (0:Nat)):Int).toNat):Int)).toNat)).length) (0:Nat)).length:Int)-(↑(dg (val b*(2:Nat)^((32:Int)-(↑(Lib.bitLen (↑(b.getD (i64.wrap ((↑b.length:Int)-(1:Int))).toNat (0:Nat)):Int).toNat):Int)).toNat)).length:Int))).toNat (0:Nat)).length (val (dg (val a*(2:Nat)^((32:Int)-(↑(Lib.bitLen (↑(b.getD (i64.wrap ((↑b.length:Int)-(1:Int))).toNat (0:Nat)):Int).toNat):Int)).toNat)++List.replicate (a.length+(1:Nat)-(dg (val a*(2:Nat)^((32:Int)-(↑(Lib.bitLen (↑(b.getD (i64.wrap ((↑b.length:Int)-(1:Int))).toNat (0:Nat)):Int).toNat):Int)).toNat)).length) (0:Nat))/val (dg (val b*(2:Nat)^((32:Int)-(↑(Lib.bitLen (↑(b.getD (i64.wrap ((↑b.length:Int)-(1:Int))).toNat (0:Nat)):Int).toNat):Int)).toNat)))))),.dig [0] (dg (val (dg (val (dg (val (List.take (↑(dg (val b*(2:Nat)^((32:Int)-(↑(Lib.bitLen (↑(b.getD (i64.wrap ((↑b.length:Int)-(1:Int))).toNat (0:Nat)):Int).toNat):Int)).toNat)).length:Int).toNat (dgN (dg (val a*(2:Nat)^((32:Int)-(↑(Lib.bitLen (↑(b.getD (i64.wrap ((↑b.length:Int)-(1:Int))).toNat (0:Nat)):Int).toNat):Int)).toNat)++List.replicate (a.length+(1:Nat)-(dg (val a*(2:Nat)^((32:Int)-(↑(Lib.bitLen (↑(b.getD (i64.wrap ((↑b.length:Int)-(1:Int))).toNat (0:Nat)):Int).toNat):Int)).toNat)).length) (0:Nat)).length (val (dg (val a*(2:Nat)^((32:Int)-(↑(Lib.bitLen (↑(b.getD (i64.wrap ((↑b.length:Int)-(1:Int))).toNat (0:Nat)):Int).toNat):Int)).toNat)++List.replicate (a.length+(1:Nat)-(dg (val a*(2:Nat)^((32:Int)-(↑(Lib.bitLen (↑(b.getD (i64.wrap ((↑b.length:Int)-(1:Int))).toNat (0:Nat)):Int).toNat):Int)).toNat)).length) (0:Nat))%val (dg (val b*(2:Nat)^((32:Int)-(↑(Lib.bitLen (↑(b.getD (i64.wrap ((↑b.length:Int)-(1:Int))).toNat (0:Nat)):Int).toNat):Int)).toNat)))))))/(2:Nat)^((32:Int)-(↑(Lib.bitLen (↑(b.getD (i64.wrap ((↑b.length:Int)-(1:Int))).toNat (0:Nat)):Int).toNat):Int)).toNat))))])):=by kernel_rfl
theorem vc_long_1 (a:List Nat) (v:List Nat) (u:List Nat) (s:Int) (K:Exit→List AV→Prop):(evIter Tryz.prog (look tabL) lamLong (2:Nat) (68:Nat) keepL1 (bodyN Tryz.f206 (0:Nat)) [.dig [1,2,3] a,.num .i64 s,.grown (152:TypeId) v,.grown (152:TypeId) u] K)=(bif decide ((↑u.length:Int)≤(↑a.length:Int)) then ((0:Nat)≤(1:Nat)∧u.length+(1:Nat)≤(1099511627776:Nat))∧K Exit.normal [.dig [1,2,3] a,.num .i64 s,.grown (152:Nat) v,.grown (152:Nat) (u++[0])] else K (Exit.exit (0:Nat)) [.dig [1,2,3] a,.num .i64 s,.grown (152:Nat) v,.grown (152:Nat) u]):=by kernel_rfl
theorem vc_long_2 (v:List Nat) (u:List Nat) (q:List Nat) (s:Int) (n:Int) (j:Int) (K:Exit→List AV→Prop):(evIter Tryz.prog (look tabL) lamLong (2:Nat) (68:Nat) keepL2 (bodyN Tryz.f206 (1:Nat)) [.num .i64 s,.grown (152:TypeId) v,.grown (152:TypeId) u,.num .i64 n,.grown (152:TypeId) q,.num .i64 j] K)=(bif decide (j≥(0:Int)) then (0≤j∧j<i64.wrap (i64.wrap (j+n)+(1:Int))∧i64.wrap (i64.wrap (j+n)+(1:Int))≤(↑u.length:Int))∧andO (Spec.mk (some ((0:Nat)<u.length∧u.length≤4194304∧(2:Nat)≤v.length∧(i64.wrap (i64.wrap (j+n)+(1:Int))).toNat-j.toNat=v.length+(1:Nat)∧j.toNat+((i64.wrap (i64.wrap (j+n)+(1:Int))).toNat-j.toNat)≤u.length∧(2147483648:Nat)≤v.getD (v.length-(1:Nat)) (0:Nat)∧winV u j.toNat ((i64.wrap (i64.wrap (j+n)+(1:Int))).toNat-j.toNat)<(4294967296:Nat)*val v)) (.boxv [.dig [] (putW u j.toNat (dgN ((i64.wrap (i64.wrap (j+n)+(1:Int))).toNat-j.toNat) (winV u j.toNat ((i64.wrap (i64.wrap (j+n)+(1:Int))).toNat-j.toNat)%val v))),.num .u32 (↑(winV u j.toNat ((i64.wrap (i64.wrap (j+n)+(1:Int))).toNat-j.toNat)/val v):Int)])).pre ((0:Nat)<u.length)∧(0≤j∧j<(↑q.length:Int))∧j.toNat<q.length∧K Exit.normal [.num .i64 s,.grown (152:Nat) v,.grown (152:Nat) (putW u j.toNat (dgN ((i64.wrap (i64.wrap (j+n)+(1:Int))).toNat-j.toNat) (winV u j.toNat ((i64.wrap (i64.wrap (j+n)+(1:Int))).toNat-j.toNat)%val v))),.num .i64 n,.grown (152:Nat) (q.set j.toNat (↑(winV u j.toNat ((i64.wrap (i64.wrap (j+n)+(1:Int))).toNat-j.toNat)/val v):Int).toNat),.num .i64 (i64.wrap (j-(1:Int)))] else K (Exit.exit (2:Nat)) [.num .i64 s,.grown (152:Nat) v,.grown (152:Nat) u,.num .i64 n,.grown (152:Nat) q,.num .i64 j]):=by kernel_rfl
end Go.AI

namespace Go.AI
open Dy IntKind
open Go Go.RowKit Go.Proofs
set_option linter.unusedVariables false
set_option maxRecDepth 100000
set_option maxHeartbeats 0
def lsTrimH:List AV→Option LR
 |[.handv 152 L (some (G,cap)) 0 len]=>some (.need (Dy.okl L∧len≤L.length) (.done (.exit 0) [.handv 152 L (some (G,cap)) 0 (Dy.dg (Dy.winV L 0 len)).length]))
 |_=>none
def lamTrimH:=lam [(1,.spec [(0,.same)] lsTrimH)]
theorem vc_trimH (L:List Nat) (g:Nat) (cap:Nat) (len:Nat) (Q:AV→Prop):(evH Tryz.prog (look tab0) lamTrimH Tryz.f172 (152:TypeId) L g cap (0:Nat) len [] Q)=(∀(l1:List Nat),l1=L→(okl l1∧len≤l1.length)∧∀(l2:List Nat),l2=l1→g=g∧(152:Nat)=nat_lit 152∧l2.length=L.length∧g=g∧cap=cap∧(0:Nat)=nat_lit 0∧(dg (winV l1 (0:Nat) len)).length≤len∧Q (.boxv [.dig [] l2,.addr (0:Nat) (dg (winV l1 (0:Nat) len)).length])):=by kernel_rfl
theorem vc_trimH_1 (L:List Nat) (g:Nat) (cap:Nat) (len:Nat) (K:Exit→List AV→Prop):(evIter Tryz.prog (look tab0) lamTrimH (1:Nat) (21:Nat) [((0:Nat),Keep.same)] (bodyN Tryz.f172 (0:Nat)) [AV.handv (152:TypeId) L (some (g,cap)) (0:Nat) len] K)=(bif decide ((↑len:Int)>(0:Int)) then ((0:Int)≤i64.wrap ((↑len:Int)-(1:Int))∧i64.wrap ((↑len:Int)-(1:Int))<(↑len:Int))∧(0:Nat)+(i64.wrap ((↑len:Int)-(1:Int))).toNat<L.length∧bif decide ((↑(L.getD ((0:Nat)+(i64.wrap ((↑len:Int)-(1:Int))).toNat) (0:Nat)):Int)=(0:Int)) then ((0:Int)≤i64.wrap ((↑len:Int)-(1:Int))∧i64.wrap ((↑len:Int)-(1:Int))≤(↑len:Int))∧K Exit.normal [AV.handv (152:Nat) L (some (g,cap)) (0:Nat) (i64.wrap ((↑len:Int)-(1:Int))).toNat] else K (Exit.exit (0:Nat)) [AV.handv (152:Nat) L (some (g,cap)) (0:Nat) len] else K (Exit.exit (0:Nat)) [AV.handv (152:Nat) L (some (g,cap)) (0:Nat) len]):=by kernel_rfl
theorem vc_upO (a:List Nat) (n:Int) (Q:AV→Prop):(evO Tryz.prog (look tabU) lamUp Tryz.f182 [.dig [1] a,.num .i64 n] Q)=(bif decide ((↑a.length:Int)=(0:Int)) then False else ((0:Int)≤i64.wrap (n.tdiv (32:Int))∧i64.wrap (n.tdiv (32:Int))≤i64.wrap (i64.wrap (i64.wrap (n.tdiv (32:Int))+(↑a.length:Int))+(1:Int))∧i64.wrap (i64.wrap (i64.wrap (n.tdiv (32:Int))+(↑a.length:Int))+(1:Int))≤(2:Int)^(40:Nat))∧(okl a∧a.length≤1048576∧0≤n.tmod (32:Int)∧n.tmod (32:Int)<(32:Int)∧(List.replicate (i64.wrap (n.tdiv (32:Int))).toNat (0:Nat)).length≤1048576∧(0:Int)=(0:Int)∧(↑a.length:Int)=(↑a.length:Int)∧(0:Int)=(0:Int))∧((0:Nat)≤[(↑(val a*(2:Nat)^(n.tmod (32:Int)).toNat/(2:Nat)^((32:Nat)*a.length)):Int).toNat].length∧(List.replicate (i64.wrap (n.tdiv (32:Int))).toNat (0:Nat)++dgN a.length (val a*(2:Nat)^(n.tmod (32:Int)).toNat)).length+[(↑(val a*(2:Nat)^(n.tmod (32:Int)).toNat/(2:Nat)^((32:Nat)*a.length)):Int).toNat].length≤1099511627776)∧andO (Spec.mk (some ((0:Nat)<(List.replicate (i64.wrap (n.tdiv (32:Int))).toNat (0:Nat)++dgN a.length (val a*(2:Nat)^(n.tmod (32:Int)).toNat)++[(↑(val a*(2:Nat)^(n.tmod (32:Int)).toNat/(2:Nat)^((32:Nat)*a.length)):Int).toNat]).length∧(List.replicate (i64.wrap (n.tdiv (32:Int))).toNat (0:Nat)++dgN a.length (val a*(2:Nat)^(n.tmod (32:Int)).toNat)++[(↑(val a*(2:Nat)^(n.tmod (32:Int)).toNat/(2:Nat)^((32:Nat)*a.length)):Int).toNat]).length=(List.replicate (i64.wrap (n.tdiv (32:Int))).toNat (0:Nat)++dgN a.length (val a*(2:Nat)^(n.tmod (32:Int)).toNat)++[(↑(val a*(2:Nat)^(n.tmod (32:Int)).toNat/(2:Nat)^((32:Nat)*a.length)):Int).toNat]).length)) (.boxv [.dig [] (List.replicate (i64.wrap (n.tdiv (32:Int))).toNat (0:Nat)++dgN a.length (val a*(2:Nat)^(n.tmod (32:Int)).toNat)++[(↑(val a*(2:Nat)^(n.tmod (32:Int)).toNat/(2:Nat)^((32:Nat)*a.length)):Int).toNat]),.addr (0:Nat) (dg (val (List.replicate (i64.wrap (n.tdiv (32:Int))).toNat (0:Nat)++dgN a.length (val a*(2:Nat)^(n.tmod (32:Int)).toNat)++[(↑(val a*(2:Nat)^(n.tmod (32:Int)).toNat/(2:Nat)^((32:Nat)*a.length)):Int).toNat]))).length])).pre ((0:Nat)<(List.replicate (i64.wrap (n.tdiv (32:Int))).toNat (0:Nat)++dgN a.length (val a*(2:Nat)^(n.tmod (32:Int)).toNat)++[(↑(val a*(2:Nat)^(n.tmod (32:Int)).toNat/(2:Nat)^((32:Nat)*a.length)):Int).toNat]).length)∧Q (.grown (152:Nat) (List.take (dg (val (List.replicate (i64.wrap (n.tdiv (32:Int))).toNat (0:Nat)++dgN a.length (val a*(2:Nat)^(n.tmod (32:Int)).toNat)++[(↑(val a*(2:Nat)^(n.tmod (32:Int)).toNat/(2:Nat)^((32:Nat)*a.length)):Int).toNat]))).length (List.replicate (i64.wrap (n.tdiv (32:Int))).toNat (0:Nat)++dgN a.length (val a*(2:Nat)^(n.tmod (32:Int)).toNat)++[(↑(val a*(2:Nat)^(n.tmod (32:Int)).toNat/(2:Nat)^((32:Nat)*a.length)):Int).toNat])))):=by kernel_rfl
theorem vc_upO_1 (a:List Nat) (o:List Nat) (s:Int) (c:Int) (k:Int) (i:Int) (K:Exit→List AV→Prop):(evIter Tryz.prog (look tabU) lamUp (2:Nat) (50:Nat) keepUp (bodyN Tryz.f182 (0:Nat)) [.grown (152:TypeId) o,.num .i64 s,.num .u32 c,.dig [1,2,3] a,.num .i64 k,.num .i64 i] K)=(bif decide (i<k) then (0≤i∧i<(↑a.length:Int))∧0≤s∧((0:Nat)≤[(u32.wrap (↑(BitVec.ofInt (32:Nat) (u32.wrap ((↑(a.getD i.toNat (0:Nat)):Int)*(2:Int)^min s.toNat (32:Nat)))|||BitVec.ofInt (32:Nat) c).toNat:Int)).toNat].length∧o.length+[(u32.wrap (↑(BitVec.ofInt (32:Nat) (u32.wrap ((↑(a.getD i.toNat (0:Nat)):Int)*(2:Int)^min s.toNat (32:Nat)))|||BitVec.ofInt (32:Nat) c).toNat:Int)).toNat].length≤1099511627776)∧(0:Int)≤i64.wrap ((32:Int)-s)∧K Exit.normal [.grown (152:Nat) (o++[(u32.wrap (↑(BitVec.ofInt (32:Nat) (u32.wrap ((↑(a.getD i.toNat (0:Nat)):Int)*(2:Int)^min s.toNat (32:Nat)))|||BitVec.ofInt (32:Nat) c).toNat:Int)).toNat]),.num .i64 s,.num .u32 (u32.wrap ((u64.wrap (↑(a.getD i.toNat (0:Nat)):Int)).fdiv ((2:Int)^min (i64.wrap ((32:Int)-s)).toNat (64:Nat)))),.dig [1,2,3] a,.num .i64 k,.num .i64 (i64.wrap (i+(1:Int)))] else K (Exit.exit (0:Nat)) [.grown (152:Nat) o,.num .i64 s,.num .u32 c,.dig [1,2,3] a,.num .i64 k,.num .i64 i]):=by kernel_rfl
def lsG:List AV→Option LR
 |[.handv 152 L (some (G,cap)) lo len,.dig [1,2,3] v,.num .i64 n,.num .u64 g,.num .u64 l]=>
 some (.need (L.length≤4194304∧Dy.digs L∧Dy.digs v∧n=v.length∧2≤v.length∧len=v.length+1∧lo+len≤L.length∧0≤g∧g<18446744073709551616∧0≤l∧l<4294967296)
 (.done (.exit 0) [.handv 152 L (some (G,cap)) lo len,.dig [1,2,3] v,.num .i64 n,
 .num .u64 ((Dy.gl (v.getD (v.length-1) 0) (v.getD (v.length-2) 0) (L.getD (lo+(v.length-2)) 0) g.toNat g.toNat l.toNat).1:Nat),
 .num .u64 ((Dy.gl (v.getD (v.length-1) 0) (v.getD (v.length-2) 0) (L.getD (lo+(v.length-2)) 0) g.toNat g.toNat l.toNat).2:Nat)]))
 |_=>none
def keepG:List (Nat×Keep):=[(0,.same),(1,.same),(5,.same),(7,.same),(8,.same)]
def lsM:List AV→Option LR
 |[.handv 152 L (some (G,cap)) lo len,.dig [1,2,3] v,.num .i64 n,.num .u64 g,.num .u32 bo,.num .u64 ca,.dig [1,2,3] v',.num .i64 k,.num .i64 i]=>
 some (.need (v'=v∧k=v.length∧i=0∧bo=0∧ca=0∧0≤g∧g<4294967296∧Dy.digs v∧Dy.digs L∧len=v.length+1∧lo+len≤L.length∧L.length≤4194304)
 (.done (.exit 2) [.handv 152 (Dy.putW L lo (Dy.dgN v.length (Dy.winV L lo v.length+2^(32*v.length)*(if Dy.winV L lo v.length<g.toNat*Dy.val v%2^(32*v.length) then 1 else 0)-g.toNat*Dy.val v%2^(32*v.length)))) (some (G,cap)) lo len,
 .dig [1,2,3] v,.num .i64 n,.num .u64 g,.num .u32 ((if Dy.winV L lo v.length<g.toNat*Dy.val v%2^(32*v.length) then 1 else 0:Nat):Int),.num .u64 (g.toNat*Dy.val v/2^(32*v.length):Nat),.dig [1,2,3] v,.num .i64 k,.num .i64 k]))
 |_=>none
def keepM:List (Nat×Keep):=[(0,.same),(1,.same),(5,.same),(7,.same),(9,.same),(10,.same),(81,.same),(82,.same),(83,.same)]
def lsA:List AV→Option LR
 |[.handv 152 L (some (G,cap)) lo len,.num .i64 n,.num .u64 g,.num .u32 ov,.dig [1,2,3] v,.num .i64 k,.num .i64 i]=>
 some (.need (k=v.length∧i=0∧ov=0∧Dy.digs v∧Dy.digs L∧len=v.length+1∧lo+len≤L.length∧L.length≤4194304)
 (.done (.exit 4) [.handv 152 (Dy.putW L lo (Dy.dgN v.length (Dy.winV L lo v.length+Dy.val v))) (some (G,cap)) lo len,.num .i64 n,.num .u64 g,.num .u32 ((Dy.winV L lo v.length+Dy.val v)/2^(32*v.length):Nat),.dig [1,2,3] v,.num .i64 k,.num .i64 k]))
 |_=>none
def keepA:List (Nat×Keep):=[(0,.same),(5,.same),(7,.same),(13,.same),(129,.same),(130,.same),(131,.same)]
def lamStep:=lam [(4,.spec keepG lsG),(10,.spec keepM lsM),(21,.spec keepA lsA)]
theorem vc_step (L:List Nat) (v:List Nat) (g:Nat) (cap:Nat) (lo:Nat) (len:Nat) (Q:AV→Prop):(evH Tryz.prog (look tabS) lamStep Tryz.f217 (152:TypeId) L g cap lo len [.dig [2] v] Q)=(((0:Int)≤(↑v.length:Int)∧(↑v.length:Int)<(↑len:Int))∧lo+(↑v.length:Int).toNat<L.length∧((0:Int)≤i64.wrap ((↑v.length:Int)-(1:Int))∧i64.wrap ((↑v.length:Int)-(1:Int))<(↑len:Int))∧lo+(i64.wrap ((↑v.length:Int)-(1:Int))).toNat<L.length∧((0:Int)≤i64.wrap ((↑v.length:Int)-(1:Int))∧i64.wrap ((↑v.length:Int)-(1:Int))<(↑v.length:Int))∧u64.wrap (↑(v.getD (i64.wrap ((↑v.length:Int)-(1:Int))).toNat (0:Nat)):Int)≠(0:Int)∧((0:Int)≤i64.wrap ((↑v.length:Int)-(1:Int))∧i64.wrap ((↑v.length:Int)-(1:Int))<(↑v.length:Int))∧u64.wrap (↑(v.getD (i64.wrap ((↑v.length:Int)-(1:Int))).toNat (0:Nat)):Int)≠(0:Int)∧∀(l1:List Nat),l1=L→∀(l2:List Nat),l2=v→∀(n3:Int),n3=(↑v.length:Int)→∀(n4:Int),n4=u64.wrap ((u64.wrap (↑(BitVec.ofInt (64:Nat) (u64.wrap (u64.wrap (↑(L.getD (lo+(↑v.length:Int).toNat) (0:Nat)):Int)*(2:Int)^(32:Nat)))|||BitVec.ofInt (64:Nat) (u64.wrap (↑(L.getD (lo+(i64.wrap ((↑v.length:Int)-(1:Int))).toNat) (0:Nat)):Int))).toNat:Int)).tdiv (u64.wrap (↑(v.getD (i64.wrap ((↑v.length:Int)-(1:Int))).toNat (0:Nat)):Int)))→∀(n5:Int),n5=(u64.wrap (↑(BitVec.ofInt (64:Nat) (u64.wrap (u64.wrap (↑(L.getD (lo+(↑v.length:Int).toNat) (0:Nat)):Int)*(2:Int)^(32:Nat)))|||BitVec.ofInt (64:Nat) (u64.wrap (↑(L.getD (lo+(i64.wrap ((↑v.length:Int)-(1:Int))).toNat) (0:Nat)):Int))).toNat:Int)).tmod (u64.wrap (↑(v.getD (i64.wrap ((↑v.length:Int)-(1:Int))).toNat (0:Nat)):Int))→(l1.length≤4194304∧digs l1∧digs l2∧n3=(↑l2.length:Int)∧(2:Nat)≤l2.length∧len=l2.length+(1:Nat)∧lo+len≤l1.length∧0≤n4∧n4<18446744073709551616∧0≤n5∧n5<4294967296)∧∀(l6:List Nat),l6=l1→∀(l7:List Nat),l7=l2→∀(n8:Int),n8=n3→∀(n9:Int),n9=(↑(gl (l2.getD (l2.length-(1:Nat)) (0:Nat)) (l2.getD (l2.length-(2:Nat)) (0:Nat)) (l1.getD (lo+(l2.length-(2:Nat))) (0:Nat)) n4.toNat n4.toNat n5.toNat).fst:Int)→∀(n10:Int),n10=(↑(gl (l2.getD (l2.length-(1:Nat)) (0:Nat)) (l2.getD (l2.length-(2:Nat)) (0:Nat)) (l1.getD (lo+(l2.length-(2:Nat))) (0:Nat)) n4.toNat n4.toNat n5.toNat).snd:Int)→∀(l11:List Nat),l11=l6→∀(l12:List Nat),l12=l7→∀(n13:Int),n13=n8→∀(n14:Int),n14=n9→∀(n15:Int),n15=(0:Int)→∀(n16:Int),n16=(0:Int)→∀(l17:List Nat),l17=l7→∀(n18:Int),n18=(↑l7.length:Int)→∀(n19:Int),n19=(0:Int)→(l17=l12∧n18=(↑l12.length:Int)∧n19=(0:Int)∧n15=(0:Int)∧n16=(0:Int)∧0≤n14∧n14<4294967296∧digs l12∧digs l11∧len=l12.length+(1:Nat)∧lo+len≤l11.length∧l11.length≤4194304)∧∀(l20:List Nat),l20=putW l11 lo (dgN l12.length ((winV l11 lo l12.length+(2:Nat)^((32:Nat)*l12.length)*if winV l11 lo l12.length<n14.toNat*val l12%(2:Nat)^((32:Nat)*l12.length) then (1:Nat) else (0:Nat))-n14.toNat*val l12%(2:Nat)^((32:Nat)*l12.length)))→∀(l21:List Nat),l21=l12→∀(n22:Int),n22=n13→∀(n23:Int),n23=n14→∀(n24:Int),n24=(↑(if winV l11 lo l12.length<n14.toNat*val l12%(2:Nat)^((32:Nat)*l12.length) then (1:Nat) else (0:Nat)):Int)→∀(n25:Int),n25=(↑(n14.toNat*val l12/(2:Nat)^((32:Nat)*l12.length)):Int)→∀(l26:List Nat),l26=l12→∀(n27:Int),n27=n18→∀(n28:Int),n28=n18→(0≤n22∧n22<(↑len:Int))∧lo+n22.toNat<l20.length∧n24≤1∧∀(n29:Int),n29=((↑(l20.getD (lo+n22.toNat) (0:Nat)):Int)-u32.wrap n25-n24)%(4294967296:Int)→∀(n30:Int),(n30=if (↑(l20.getD (lo+n22.toNat) (0:Nat)):Int)<u32.wrap n25+n24 then (1:Int) else (0:Int))→(0≤n22∧n22<(↑len:Int))∧lo+n22.toNat<l20.length∧bif decide (n30=(0:Int)) then g=g∧(152:Nat)=nat_lit 152∧(l20.set (lo+n22.toNat) n29.toNat).length=L.length∧Q (.boxv [.dig [] (l20.set (lo+n22.toNat) n29.toNat),.num .u32 (u32.wrap n23)]) else∀(l31:List Nat),l31=l20.set (lo+n22.toNat) n29.toNat→∀(n32:Int),n32=n22→∀(n33:Int),n33=n23→∀(n34:Int),n34=(0:Int)→∀(l35:List Nat),l35=l21→∀(n36:Int),n36=(↑l21.length:Int)→∀(n37:Int),n37=(0:Int)→(n36=(↑l35.length:Int)∧n37=(0:Int)∧n34=(0:Int)∧digs l35∧digs l31∧len=l35.length+(1:Nat)∧lo+len≤l31.length∧l31.length≤4194304)∧∀(l38:List Nat),l38=putW l31 lo (dgN l35.length (winV l31 lo l35.length+val l35))→∀(n39:Int),n39=n32→∀(n40:Int),n40=n33→∀(n41:Int),n41=(↑((winV l31 lo l35.length+val l35)/(2:Nat)^((32:Nat)*l35.length)):Int)→∀(l42:List Nat),l42=l35→∀(n43:Int),n43=n36→∀(n44:Int),n44=n36→(0≤n39∧n39<(↑len:Int))∧lo+n39.toNat<l38.length∧(0≤n39∧n39<(↑len:Int))∧lo+n39.toNat<l38.length∧g=g∧(152:Nat)=nat_lit 152∧(l38.set (lo+n39.toNat) (u32.wrap ((↑(l38.getD (lo+n39.toNat) (0:Nat)):Int)+n41)).toNat).length=L.length∧Q (.boxv [.dig [] (l38.set (lo+n39.toNat) (u32.wrap ((↑(l38.getD (lo+n39.toNat) (0:Nat)):Int)+n41)).toNat),.num .u32 (u32.wrap (u64.wrap (n40-(1:Int))))])):=by kernel_rfl
theorem vc_step_1 (L:List Nat) (v:List Nat) (G:Nat) (cap:Nat) (lo:Nat) (len:Nat) (n:Int) (g:Int) (l:Int) (K:Exit→List AV→Prop):(evIter Tryz.prog (look tabS) lamStep (2:Nat) (160:Nat) keepG (bodyN Tryz.f217 (0:Nat)) [AV.handv (152:TypeId) L (some (G,cap)) lo len,.dig [1,2,3] v,.num .i64 n,.num .u64 g,.num .u64 l] K)=(bif decide (g≥(4294967296:Int)) then ((0:Int)≤i64.wrap (n-(1:Int))∧i64.wrap (n-(1:Int))<(↑v.length:Int))∧bif decide (u64.wrap (l+u64.wrap (↑(v.getD (i64.wrap (n-(1:Int))).toNat (0:Nat)):Int))≥(4294967296:Int)) then K (Exit.exit (0:Nat)) [AV.handv (152:Nat) L (some (G,cap)) lo len,.dig [1,2,3] v,.num .i64 n,.num .u64 (u64.wrap (g-(1:Int))),.num .u64 (u64.wrap (l+u64.wrap (↑(v.getD (i64.wrap (n-(1:Int))).toNat (0:Nat)):Int)))] else K Exit.normal [AV.handv (152:Nat) L (some (G,cap)) lo len,.dig [1,2,3] v,.num .i64 n,.num .u64 (u64.wrap (g-(1:Int))),.num .u64 (u64.wrap (l+u64.wrap (↑(v.getD (i64.wrap (n-(1:Int))).toNat (0:Nat)):Int)))] else ((0:Int)≤i64.wrap (n-(2:Int))∧i64.wrap (n-(2:Int))<(↑v.length:Int))∧((0:Int)≤i64.wrap (n-(2:Int))∧i64.wrap (n-(2:Int))<(↑len:Int))∧lo+(i64.wrap (n-(2:Int))).toNat<L.length∧bif decide (u64.wrap (g*u64.wrap (↑(v.getD (i64.wrap (n-(2:Int))).toNat (0:Nat)):Int))>u64.wrap (↑(BitVec.ofInt (64:Nat) (u64.wrap (l*(2:Int)^(32:Nat)))|||BitVec.ofInt (64:Nat) (u64.wrap (↑(L.getD (lo+(i64.wrap (n-(2:Int))).toNat) (0:Nat)):Int))).toNat:Int)) then ((0:Int)≤i64.wrap (n-(1:Int))∧i64.wrap (n-(1:Int))<(↑v.length:Int))∧bif decide (u64.wrap (l+u64.wrap (↑(v.getD (i64.wrap (n-(1:Int))).toNat (0:Nat)):Int))≥(4294967296:Int)) then K (Exit.exit (0:Nat)) [AV.handv (152:Nat) L (some (G,cap)) lo len,.dig [1,2,3] v,.num .i64 n,.num .u64 (u64.wrap (g-(1:Int))),.num .u64 (u64.wrap (l+u64.wrap (↑(v.getD (i64.wrap (n-(1:Int))).toNat (0:Nat)):Int)))] else K Exit.normal [AV.handv (152:Nat) L (some (G,cap)) lo len,.dig [1,2,3] v,.num .i64 n,.num .u64 (u64.wrap (g-(1:Int))),.num .u64 (u64.wrap (l+u64.wrap (↑(v.getD (i64.wrap (n-(1:Int))).toNat (0:Nat)):Int)))] else K (Exit.exit (0:Nat)) [AV.handv (152:Nat) L (some (G,cap)) lo len,.dig [1,2,3] v,.num .i64 n,.num .u64 g,.num .u64 l]):=by kernel_rfl
theorem vc_step_2 (L:List Nat) (v:List Nat) (v':List Nat) (G:Nat) (cap:Nat) (lo:Nat) (len:Nat) (n:Int) (g:Int) (bo:Int) (ca:Int) (k:Int) (i:Int) (K:Exit→List AV→Prop):(evIter Tryz.prog (look tabS) lamStep (2:Nat) (160:Nat) keepM (bodyN Tryz.f217 (1:Nat)) [AV.handv (152:TypeId) L (some (G,cap)) lo len,.dig [1,2,3] v,.num .i64 n,.num .u64 g,.num .u32 bo,.num .u64 ca,.dig [1,2,3] v',.num .i64 k,.num .i64 i] K)=(bif decide (i<k) then (0≤i∧i<(↑v'.length:Int))∧(0≤i∧i<(↑len:Int))∧lo+i.toNat<L.length∧bo≤(1:Int)∧∀(n1:Int),n1=((↑(L.getD (lo+i.toNat) (0:Nat)):Int)-u32.wrap (u64.wrap (ca+u64.wrap (g*u64.wrap (↑(v'.getD i.toNat (0:Nat)):Int))))-bo)%(4294967296:Int)→∀(n2:Int),(n2=if (↑(L.getD (lo+i.toNat) (0:Nat)):Int)<u32.wrap (u64.wrap (ca+u64.wrap (g*u64.wrap (↑(v'.getD i.toNat (0:Nat)):Int))))+bo then (1:Int) else (0:Int))→(0≤i∧i<(↑len:Int))∧lo+i.toNat<L.length∧K Exit.normal [AV.handv (152:Nat) (L.set (lo+i.toNat) n1.toNat) (some (G,cap)) lo len,.dig [1,2,3] v,.num .i64 n,.num .u64 g,.num .u32 n2,.num .u64 ((u64.wrap (ca+u64.wrap (g*u64.wrap (↑(v'.getD i.toNat (0:Nat)):Int)))).fdiv ((2:Int)^(32:Nat))),.dig [1,2,3] v',.num .i64 k,.num .i64 (i64.wrap (i+(1:Int)))] else K (Exit.exit (2:Nat)) [AV.handv (152:Nat) L (some (G,cap)) lo len,.dig [1,2,3] v,.num .i64 n,.num .u64 g,.num .u32 bo,.num .u64 ca,.dig [1,2,3] v',.num .i64 k,.num .i64 i]):=by kernel_rfl
theorem vc_step_3 (L:List Nat) (v:List Nat) (G:Nat) (cap:Nat) (lo:Nat) (len:Nat) (n:Int) (g:Int) (ov:Int) (k:Int) (i:Int) (K:Exit→List AV→Prop):(evIter Tryz.prog (look tabS) lamStep (2:Nat) (160:Nat) keepA (bodyN Tryz.f217 (2:Nat)) [AV.handv (152:TypeId) L (some (G,cap)) lo len,.num .i64 n,.num .u64 g,.num .u32 ov,.dig [1,2,3] v,.num .i64 k,.num .i64 i] K)=(bif decide (i<k) then (0≤i∧i<(↑v.length:Int))∧(0≤i∧i<(↑len:Int))∧lo+i.toNat<L.length∧∀(n1:Int),n1=((↑(L.getD (lo+i.toNat) (0:Nat)):Int)+(↑(v.getD i.toNat (0:Nat)):Int)+ov)%(4294967296:Int)→∀(n2:Int),n2=((↑(L.getD (lo+i.toNat) (0:Nat)):Int)+(↑(v.getD i.toNat (0:Nat)):Int)+ov)/(4294967296:Int)→(0≤i∧i<(↑len:Int))∧lo+i.toNat<L.length∧K Exit.normal [AV.handv (152:Nat) (L.set (lo+i.toNat) n1.toNat) (some (G,cap)) lo len,.num .i64 n,.num .u64 g,.num .u32 n2,.dig [1,2,3] v,.num .i64 k,.num .i64 (i64.wrap (i+(1:Int)))] else K (Exit.exit (4:Nat)) [AV.handv (152:Nat) L (some (G,cap)) lo len,.num .i64 n,.num .u64 g,.num .u32 ov,.dig [1,2,3] v,.num .i64 k,.num .i64 i]):=by kernel_rfl
end Go.AI

namespace Go.Dy
theorem gl_ok {v1 v2 u2 top q:Nat} (hv2:v2<4294967296) (htop:top<v1*4294967296+4294967296)
  (hq:∀g l,g*v1+l=top→(4294967296≤g∨l*4294967296+u2<g*v2)→q<g):∀f g l,g≤f→g*v1+l=top→q≤g→
   (gl v1 v2 u2 f g l).1*v1+(gl v1 v2 u2 f g l).2=top∧q≤(gl v1 v2 u2 f g l).1∧(gl v1 v2 u2 f g l).1<4294967296∧(gl v1 v2 u2 f g l).1*v2≤(gl v1 v2 u2 f g l).2*4294967296+u2
 |0,g,l,hf,h,hqg=>by
  have:g=0:=by omega
  subst this
  exact ⟨h,hqg,by show 0<4294967296;omega,by simp [gl]⟩
 |f+1,g,l,hf,h,hqg=>by
  unfold gl
  by_cases c:4294967296≤g∨l*4294967296+u2<g*v2
  ·rw [if_pos c]
   have hlt:=hq g l h c
   have h':(g-1)*v1+(l+v1)=top:=by
    have:g=(g-1)+1:=by omega
    rw [this,Nat.add_mul] at h
    omega
   by_cases d:4294967296≤l+v1
   ·rw [if_pos d]
    have hg:g-1<4294967296:=by
     rcases Nat.lt_or_ge (g-1) 4294967296 with e|e
     ·exact e
     ·have:=Nat.mul_le_mul_right v1 e
      rw [Nat.mul_comm 4294967296 v1] at this
      omega
    refine ⟨h',by omega,hg,?_⟩
    have h1:(g-1)*v2≤4294967295*4294967295:=Nat.mul_le_mul (by omega) (by omega)
    have h2:=Nat.mul_le_mul_right 4294967296 d
    show (g-1)*v2≤(l+v1)*4294967296+u2
    omega
   ·rw [if_neg d]
    exact gl_ok hv2 htop hq f (g-1) (l+v1) (by omega) h' (by omega)
  ·rw [if_neg c]
   exact ⟨h,hqg,by show g<4294967296;omega,by show g*v2≤l*4294967296+u2;omega⟩
theorem guess_ok {v1 v2 vr u2 ur top r g l V U:Nat} (hV:V=(v1*4294967296+v2)*r+vr) (hvr:vr<r) (hU:U=(top*4294967296+u2)*r+ur) (hur:ur<r) (hv1:0<v1) (hv2:v2<4294967296) (hu2:u2<4294967296)
  (htop:top<v1*4294967296+4294967296) (hUV:U<4294967296*V) (h:g*v1+l=top) (hqg:U/V≤g):
  U/V≤(gl v1 v2 u2 g g l).1∧(gl v1 v2 u2 g g l).1≤U/V+1∧(gl v1 v2 u2 g g l).1<4294967296:=by
 have hV0:0<V:=by
  rcases Nat.eq_zero_or_pos V with e|e
  ·rw [e] at hUV;omega
  ·exact e
 have hq:∀g l,g*v1+l=top→(4294967296≤g∨l*4294967296+u2<g*v2)→U/V<g:=by
  intro g l h hc
  rw [Nat.div_lt_iff_lt_mul hV0]
  rcases hc with c|c
  ·exact Nat.lt_of_lt_of_le hUV (Nat.mul_le_mul_right V c)
  ·have h1:top*4294967296+u2+1≤g*(v1*4294967296+v2):=by
    rw [Nat.mul_add,←Nat.mul_assoc]
    have:=congrArg (·*4294967296) h
    simp only [Nat.add_mul] at this
    omega
   have h2:=Nat.mul_le_mul_right r h1
   rw [Nat.add_mul _ 1 r,Nat.one_mul] at h2
   have h3:g*((v1*4294967296+v2)*r)≤g*V:=Nat.mul_le_mul_left g (by omega)
   rw [←Nat.mul_assoc] at h3
   omega
 obtain ⟨e1,e2,e3,e4⟩:=gl_ok hv2 htop hq g g l (Nat.le_refl _) h hqg
 refine ⟨e2,?_,e3⟩
 generalize (gl v1 v2 u2 g g l).1=G at e1 e2 e3 e4 ⊢
 generalize (gl v1 v2 u2 g g l).2=M at e1 e4
 cases G with
 |zero=>exact Nat.zero_le _
 |succ k=>
  refine Nat.succ_le_succ ?_
  rw [Nat.le_div_iff_mul_le hV0]
  have h1:(k+1)*(v1*4294967296+v2)≤top*4294967296+u2:=by
   rw [Nat.mul_add,←Nat.mul_assoc]
   have:=congrArg (·*4294967296) e1
   simp only [Nat.add_mul] at this e4 ⊢
   omega
  have h2:k*(v1*4294967296+v2+1)≤top*4294967296+u2:=by
   have hb:4294967296≤v1*4294967296:=Nat.le_mul_of_pos_left _ hv1
   rw [Nat.mul_add,Nat.mul_one]
   rw [Nat.add_mul,Nat.one_mul] at h1
   omega
  have h3:=Nat.mul_le_mul_right r h2
  have h4:V≤(v1*4294967296+v2+1)*r:=by rw [Nat.add_mul _ 1,Nat.one_mul];omega
  have h5:=Nat.mul_le_mul_left k h4
  rw [←Nat.mul_assoc] at h5
  omega
theorem sub_fit {p W t P:Nat} (hp:0<p) (hW:W<p) (ht:t<4294967296) (hP:P/p<4294967296)
  (hb:¬(t<P/p+(if W<P%p then 1 else 0))):P≤W+p*t∧
   (W+p*(if W<P%p then 1 else 0)-P%p)+p*(t-P/p-(if W<P%p then 1 else 0))=W+p*t-P:=by
 have hd:=Nat.div_add_mod P p
 have hm:=Nat.mod_lt P hp
 generalize P/p=H at*
 generalize P%p=Lo at*
 by_cases c:W<Lo
 ·rw [if_pos c] at hb ⊢
  have e:t=(t-H-1)+(H+1):=by omega
  generalize t-H-1=s at e
  subst e
  rw [Nat.mul_add p s,Nat.mul_add p H] at*
  simp only [Nat.mul_one] at*
  omega
 ·rw [if_neg c] at hb ⊢
  have e:t=(t-H-0)+H:=by omega
  generalize t-H-0=s at e
  subst e
  rw [Nat.mul_add p s] at*
  simp only [Nat.mul_zero] at*
  omega
theorem sub_over {p W t P:Nat} (hp:0<p) (hW:W<p) (ht:t<4294967296) (hP:P/p<4294967296)
  (hb:t<P/p+(if W<P%p then 1 else 0)):W+p*t<P∧
   (W+p*(if W<P%p then 1 else 0)-P%p)+p*(4294967296+t-P/p-(if W<P%p then 1 else 0))+P=W+p*t+p*4294967296:=by
 have hd:=Nat.div_add_mod P p
 have hm:=Nat.mod_lt P hp
 generalize P/p=H at*
 generalize P%p=Lo at*
 by_cases c:W<Lo
 ·rw [if_pos c] at hb ⊢
  obtain ⟨s,hs⟩:∃s,H=t+s:=⟨H-t,by omega⟩
  obtain ⟨k,hk⟩:∃k,4294967296+t-H-1=k:=⟨_,rfl⟩
  have hk':k+s+1=4294967296:=by omega
  rw [hk]
  subst hs
  have h1:p*4294967296=p*k+p*s+p:=by rw [←hk',Nat.mul_add,Nat.mul_add,Nat.mul_one]
  rw [Nat.mul_add] at hd
  simp only [Nat.mul_one]
  have h2:0≤p*s:=Nat.zero_le _
  omega
 ·rw [if_neg c] at hb ⊢
  obtain ⟨s,hs⟩:∃s,H=t+s+1:=⟨H-t-1,by omega⟩
  obtain ⟨k,hk⟩:∃k,4294967296+t-H-0=k:=⟨_,rfl⟩
  have hk':k+s+1=4294967296:=by omega
  rw [hk]
  subst hs
  have h1:p*4294967296=p*k+p*s+p:=by rw [←hk',Nat.mul_add,Nat.mul_add,Nat.mul_one]
  rw [Nat.mul_add,Nat.mul_add,Nat.mul_one] at hd
  simp only [Nat.mul_zero]
  omega
theorem winV_lt {L:List Nat} (h:digs L) (lo n:Nat):winV L lo n<2^(32*n):=by
 have:=val_lt (digs_take (digs_drop h lo) n)
 refine Nat.lt_of_lt_of_le this (Nat.pow_le_pow_right (by decide) ?_)
 simp
 omega
theorem getD_drop (L:List Nat) (lo i:Nat):(L.drop lo).getD i 0=L.getD (lo+i) 0:=by simp [List.getD_eq_getElem?_getD]
theorem winV_succ {L:List Nat} {lo n:Nat} (h:lo+n<L.length):winV L lo (n+1)=winV L lo n+2^(32*n)*L.getD (lo+n) 0:=by
 unfold winV
 rw [val_take_succ (by simp;omega),getD_drop]
theorem putW_length {L w:List Nat} {lo:Nat} (h:lo+w.length≤L.length):(putW L lo w).length=L.length:=by
 unfold putW
 simp
 omega
theorem digs_putW {L w:List Nat} (hL:digs L) (hw:digs w) (lo:Nat):digs (putW L lo w):=by
 unfold putW
 rw [digs_append,digs_append]
 exact ⟨⟨digs_take hL _,hw⟩,digs_drop hL _⟩
theorem putW_get {L w:List Nat} {lo:Nat} (h:lo+w.length<L.length):(putW L lo w).getD (lo+w.length) 0=L.getD (lo+w.length) 0:=by
 unfold putW
 have e:(L.take lo++w).length=lo+w.length:=by simp;omega
 rw [getD_append_right (by omega),e,Nat.sub_self,getD_drop,Nat.add_zero]
theorem putW_set {L w:List Nat} {lo d:Nat} (h:lo+w.length<L.length):(putW L lo w).set (lo+w.length) d=putW L lo (w++[d]):=by
 unfold putW
 have e:(L.take lo++w).length=lo+w.length:=by simp;omega
 rw [List.set_append_right _ _ (by omega),e,Nat.sub_self]
 have:L.drop (lo+w.length)=L.getD (lo+w.length) 0::L.drop (lo+w.length+1):=by
  rw [List.drop_eq_getElem_cons h]
  simp [List.getD_eq_getElem?_getD,h]
 rw [this,List.set_cons_zero]
 simp [Nat.add_assoc]
theorem putW_put {L w w':List Nat} {lo:Nat} (h:lo+w.length≤L.length) (h':w'.length=w.length):putW (putW L lo w) lo w'=putW L lo w':=by
 have e:(L.take lo).length=lo:=by simp;omega
 have h1:(putW L lo w).take lo=L.take lo:=by
  unfold putW
  rw [List.append_assoc,List.take_append_of_le_length (by omega),List.take_of_length_le (by omega)]
 have h2:(putW L lo w).drop (lo+w.length)=L.drop (lo+w.length):=by
  unfold putW
  have e2:(L.take lo++w).length=lo+w.length:=by simp;omega
  rw [List.drop_append_of_le_length (by omega),List.drop_of_length_le (by omega),List.nil_append]
 unfold putW at h1 h2 ⊢
 rw [h1,h',h2]
theorem val_top2 {v:List Nat} {n:Nat} (hn:v.length=n+2):val v=(v.getD (n+1) 0*4294967296+v.getD n 0)*2^(32*n)+val (v.take n):=by
 have h:=val_take_succ (l:=v) (i:=n+1) (by omega)
 have h':=val_take_succ (l:=v) (i:=n) (by omega)
 rw [List.take_of_length_le (by omega)] at h
 rw [h,h',pow_split,Nat.add_mul,Nat.mul_comm (2^(32*n)) (v.getD n 0),Nat.mul_assoc (2^(32*n)),Nat.mul_comm (2^(32*n)),Nat.mul_comm 4294967296]
 omega
theorem win_top3 {L:List Nat} {lo n:Nat} (h:lo+n+2<L.length):
  winV L lo (n+3)=((L.getD (lo+(n+2)) 0*4294967296+L.getD (lo+(n+1)) 0)*4294967296+L.getD (lo+n) 0)*2^(32*n)+winV L lo n:=by
 rw [winV_succ (by omega),winV_succ (by omega),winV_succ (by omega),show 32*(n+2)=32*(n+1+1) by omega,pow_split (n+1),pow_split n]
 generalize L.getD (lo+(n+2)) 0=a
 generalize L.getD (lo+(n+1)) 0=b
 generalize L.getD (lo+n) 0=c
 generalize 2^(32*n)=p
 rw [Nat.add_mul,Nat.add_mul,Nat.add_mul,Nat.mul_comm p c]
 have h1:p*4294967296*b=b*4294967296*p:=by rw [Nat.mul_comm p,Nat.mul_comm _ b,Nat.mul_assoc]
 have h2:p*4294967296*4294967296*a=a*4294967296*4294967296*p:=by simp only [Nat.mul_comm,Nat.mul_left_comm]
 omega
end Go.Dy

namespace Go.AI
open Go Go.RowKit Go.Proofs
set_option linter.unusedVariables false
set_option maxRecDepth 100000
theorem Inv_hand {T:TypeId} {L:List Nat} (h0:0<L.length) (g:Nat) (w w':World) (h:Inv w) (hat:HandAt w T L g) (hg:GrowS (·=g) w w'):Inv w':=fun j hj=>by
 have h1:=h j hj
 have hlt:0<w.heap.size:=by
  rcases Nat.lt_or_ge 0 w.heap.size with h2|h2
  ·exact h2
  ·simp [World.cell?,Array.getElem?_eq_none h2] at h1
 have hne:0≠g:=fun e=>by
  subst e
  have h2:=h 0 (by decide)
  obtain ⟨cs,h3,h4,h5⟩:=hat
  rw [cell?_of_block h3,h5 0 L[0] (by simp [h0])] at h2
  cases h2
 rw [←h1]
 simp only [World.cell?,hg.block _ hlt hne]
theorem contract_hand_at {t:List (Nat×(List AV→Option Spec))} {f:Nat} {fn:Func} {T:TypeId} {L:List Nat} {lo len:Nat} {args:List AV} {res:AV} (nt:Nat) (Λ:Nat→Option LoopAnn) (ht:PhiOk Tryz.prog Inv (look t))
  (hfn:Tryz.prog.funcs[f]? =some fn) (hs:saneF fn=true) (hnt:args.length+1+(fn.ntmps-(args.length+1))=nt) (h0:0<L.length)
  (hl:LoopsAll Tryz.prog (look t) Λ (args.length+1) nt (bodies (bodyOf fn))) (hkind:kindOf res=2)
  (h:okDig L→lo+len≤L.length→AV.oks args→∀g cap,evH Tryz.prog (look t) Λ fn T L g cap lo len args (fun r=>r=res)):Contract Tryz.prog Inv f (.handv T L none lo len::args) res:=by
 unfold saneF at hs
 cases hb:fn.body with
 |none=>rw [hb] at hs;cases hs
 |some c=>
  rw [hb] at hs
  have e:bodyOf fn=c:=by unfold bodyOf;rw [hb];rfl
  rw [e] at hl
  exact contract_hand mixedP ht (Inv_hand h0) hfn hb (by simpa using hs) hnt (loopsOk_of c hl) hkind h
theorem contract_own_at {t:List (Nat×(List AV→Option Spec))} {f:Nat} {fn:Func} {args:List AV} {res:AV} (nt:Nat) (Λ:Nat→Option LoopAnn) (ht:PhiOk Tryz.prog Inv (look t))
  (hfn:Tryz.prog.funcs[f]? =some fn) (hs:saneF fn=true) (hnt:args.length+(fn.ntmps-args.length)=nt)
  (hl:LoopsAll Tryz.prog (look t) Λ args.length nt (bodies (bodyOf fn)))
  (h:AV.oks args→evO Tryz.prog (look t) Λ fn args (fun r=>r=res)):Contract Tryz.prog Inv f args res:=by
 unfold saneF at hs
 cases hb:fn.body with
 |none=>rw [hb] at hs;cases hs
 |some c=>
  rw [hb] at hs
  have e:bodyOf fn=c:=by unfold bodyOf;rw [hb];rfl
  rw [e] at hl
  exact contract_own mixedP ht Inv_grow hfn hb (by simpa using hs) hnt (loopsOk_of c hl) h
theorem loops3 {P:Program} {Φ:Nat→List AV→Option Spec} {Λ:Nat→Option LoopAnn} {na nt:Nat} {fn:Func} {keep keep' keep'':List (Nat×Keep)} {ls ls' ls'':List AV→Option LR} (h:bodies (bodyOf fn)=[bodyN fn 0,bodyN fn 1,bodyN fn 2]) (hΛ:Λ (firstRegion (bodyN fn 0))=some (.spec keep ls))
  (hl:LoopOk P Φ Λ na nt keep (bodyN fn 0) ls) (hΛ':Λ (firstRegion (bodyN fn 1))=some (.spec keep' ls')) (hl':LoopOk P Φ Λ na nt keep' (bodyN fn 1) ls')
  (hΛ'':Λ (firstRegion (bodyN fn 2))=some (.spec keep'' ls'')) (hl'':LoopOk P Φ Λ na nt keep'' (bodyN fn 2) ls''):LoopsAll P Φ Λ na nt (bodies (bodyOf fn)):=by
 rw [h]
 simp only [LoopsAll,hΛ,hΛ',hΛ'']
 exact ⟨hl,hl',hl'',trivial⟩
theorem winV_zero (L:List Nat) (n:Nat):Dy.winV L 0 n=Dy.val (L.take n):=rfl
theorem loop_trimH:LoopOk Tryz.prog (look tab0) lamTrimH 1 21 [(0,.same)] (bodyN Tryz.f172 0) lsTrimH:=by
 intro vals r h K hK
 unfold lsTrimH at h
 split at h
 ·cases h
  rename_i L g cap len
  simp only [evLR] at hK
  obtain ⟨⟨hl,hlen⟩,hK⟩:=hK
  have hb:=hl.1
  induction len with
  |zero=>
   refine iterN_last ?_
   rw [vc_trimH_1]
   refine cond_f rfl ?_
   rw [show (Dy.dg (Dy.winV L 0 0)).length=0 from rfl] at hK
   exact hK
  |succ n ih=>
   have hw:IntKind.i64.wrap (((n+1:Nat):Int)-1)=n:=by rw [wrap_i64 (by omega) (by omega)];omega
   by_cases c:L.getD n 0=0
   ·have hv:Dy.winV L 0 (n+1)=Dy.winV L 0 n:=by rw [Dy.winV_succ (by omega),Nat.zero_add,c,Nat.mul_zero,Nat.add_zero]
    obtain ⟨m,hm⟩:=ih (by rw [←hv];exact hK) (by omega)
    refine iterN_next m ?_
    rw [vc_trimH_1,hw]
    refine cond_t (decide_eq_true (by omega)) ⟨by omega,by omega,cond_t (decide_eq_true (by rw [Int.toNat_natCast,Nat.zero_add,c];rfl)) ⟨by omega,?_⟩⟩
    rw [Int.toNat_natCast]
    exact hm
   ·refine iterN_last ?_
    rw [vc_trimH_1,hw]
    refine cond_t (decide_eq_true (by omega)) ⟨by omega,by omega,cond_f (decide_eq_false (by rw [Int.toNat_natCast,Nat.zero_add];omega)) ?_⟩
    have h1:(L.take (n+1)).length=n+1:=by simp;omega
    have h2:(L.take (n+1)).getD n 0=L.getD n 0:=by simp [List.getD_eq_getElem?_getD,List.getElem?_take]
    have:=(Dy.can_iff (Dy.digs_take hl.2 (n+1))).2 (.inr (by rw [h1,Nat.add_sub_cancel,h2];exact c))
    rw [winV_zero,this,h1] at hK
    exact hK
 ·cases h
theorem ok_trim2 (args:List AV) (s:Spec) (h:sTrim2 args=some s) (hp:andO s.pre True):Contract Tryz.prog Inv 172 args s.res:=by
 unfold sTrim2 at h
 split at h
 ·cases h
  rename_i L len
  obtain ⟨⟨h0,rfl⟩, -⟩:=hp
  refine contract_hand_at 21 lamTrimH ok_tab0 Tryz.func172 (by kernel_rfl) rfl h0 (loops1 (by kernel_rfl) (by kernel_rfl) loop_trimH) rfl fun hok _ _ g cap=> ?_
  rw [vc_trimH]
  intro l1 h1
  have h1:=h1.symm
  subst h1
  refine ⟨⟨Dy.okl_of hok,Nat.le_refl _⟩,?_⟩
  intro l1 h1
  have h1:=h1.symm
  subst h1
  have e:Dy.winV L 0 L.length=Dy.val L:=by rw [winV_zero,List.take_of_length_le (Nat.le_refl _)]
  rw [e]
  exact ⟨rfl,rfl,rfl,rfl,rfl,rfl,Dy.length_dg_val hok.2,rfl⟩
 ·exact ok_nat_trim args s h hp
theorem ok_tabU:PhiOk Tryz.prog Inv (look tabU):=look_cons ok_tab2 ok_trim2
end Go.AI

namespace Go.Dy
theorem take_dg2 {X:List Nat} (h:digs X):X.take (dg (val X)).length=dg (val X):=by
 have hl:=length_dg_val h
 refine ext_val (digs_take h _) (digs_dg _) (by simp;omega) ?_
 rw [val_take h,val_dg,Nat.mod_eq_of_lt]
 exact length_dg_le.1 (Nat.le_refl _)
end Go.Dy
namespace Go.AI
open Go Go.RowKit Go.Proofs
set_option linter.unusedVariables false
set_option maxRecDepth 100000
theorem loop_upO:LoopOk Tryz.prog (look tabU) lamUp 2 50 keepUp (bodyN Tryz.f182 0) lsUp:=by
 intro vals r h K hK
 unfold lsUp at h
 split at h
 ·cases h
  rename_i o s c a k i
  simp only [evLR] at hK
  obtain ⟨⟨ha,ha1,hs0,hs1,hol,rfl,rfl,rfl⟩,hK⟩:=hK
  obtain ⟨s,rfl⟩:=Int.eq_ofNat_of_zero_le hs0
  simp only [Int.toNat_natCast] at hK
  have key:∀(u j c:Nat) (q:List Nat),a.length=u+j→q.length=j→Dy.digs q→c<2^s→Dy.val q+2^(32*j)*(c+2^s*Dy.val (a.drop j))=Dy.val a*2^s→
    ∃m,iterN Tryz.prog (look tabU) lamUp 2 50 keepUp (bodyN Tryz.f182 0) m [.grown 152 (o++q),.num .i64 s,.num .u32 c,.dig [1,2,3] a,.num .i64 a.length,.num .i64 j] K:=by
   intro u
   induction u with
   |zero=>
    intro j c q hj hql hqd hc hv
    refine iterN_last ?_
    rw [vc_upO_1]
    refine cond_f (decide_eq_false (by omega)) ?_
    have hja:j=a.length:=by omega
    subst hja
    simp only [List.drop_length,Dy.val,Nat.mul_zero,Nat.add_zero] at hv
    have hq:=Dy.take_dgN hqd (n:=a.length) (c:=c) (y:=Dy.val a*2^s) (by omega) (by rw [List.take_of_length_le (by omega)];exact hv)
    rw [List.take_of_length_le (by omega)] at hq
    rw [←hq.1,←hq.2] at hK
    exact hK
   |succ u ih=>
    intro j c q hj hql hqd hc hv
    have hx:=Dy.digs_getD ha.2 j
    rw [Dy.val_drop_step a] at hv
    generalize hxx:a.getD j 0=x at hx hv
    have hs:2^s*2^(32-s)=4294967296:=by rw [←Nat.pow_add,show s+(32-s)=32 by omega]
    have hc':c<4294967296:=by
     have:2^s≤2^32:=Nat.pow_le_pow_right (by decide) (by omega)
     omega
    have hp:=Nat.two_pow_pos (32-s)
    have e0:x*2^s%4294967296=(x%2^(32-s))*2^s:=by rw [←hs,Nat.mul_comm x,Nat.mul_mod_mul_left,Nat.mul_comm]
    have e1:x*2^s%4294967296+c<4294967296:=by
     rw [e0,←hs]
     have h1:x%2^(32-s)+1≤2^(32-s):=Nat.mod_lt _ hp
     have h2:(x%2^(32-s)+1)*2^s≤2^(32-s)*2^s:=Nat.mul_le_mul_right _ h1
     rw [Nat.add_mul,Nat.one_mul,Nat.mul_comm (2^(32-s)) (2^s)] at h2
     omega
    have hcn:x/2^(32-s)<2^s:=by
     rw [Nat.div_lt_iff_lt_mul hp,hs]
     exact hx
    have hsplit:2^s*x=x*2^s%4294967296+4294967296*(x/2^(32-s)):=by
     rw [e0,←hs,Nat.mul_assoc,Nat.mul_comm (x%_),←Nat.mul_add,Nat.mod_add_div]
    obtain ⟨m,hm⟩:=ih (j+1) (x/2^(32-s)) (q++[x*2^s%4294967296+c]) (by omega) (by simp [hql]) (Dy.digs_append.2 ⟨hqd,Dy.digs_cons.2 ⟨e1,Dy.digs_nil⟩⟩) hcn (by
      rw [←hv,Dy.val_snoc,hql,Dy.pow_split,Nat.mul_add (2^s),hsplit]
      generalize x*2^s%4294967296=lo
      generalize x/2^(32-s)=hi
      generalize 2^(32*j)=p
      rw [Nat.mul_left_comm (2^s) 4294967296]
      simp only [Nat.mul_add,Nat.mul_assoc]
      omega)
    refine iterN_next m ?_
    rw [vc_upO_1]
    simp only [Int.toNat_natCast,List.length_cons,List.length_nil]
    rw [hxx]
    have hmin:min s 32=s:=by omega
    have hpow:((2:Int)^s)=((2^s:Nat):Int):=by simp
    have e2:IntKind.u32.wrap ((x:Int)*2^min s 32)=((x*2^s%4294967296:Nat):Int):=by
     rw [hmin,hpow,wrap_u32,←Int.natCast_mul]
     omega
    have e3:(x*2^s%4294967296)|||c=x*2^s%4294967296+c:=by rw [e0,or_low hc]
    rw [e2,w32_or (by omega) (by omega) (by omega) (by omega)]
    simp only [Int.toNat_natCast]
    rw [e3]
    have e4:IntKind.i64.wrap ((32:Int)-(s:Int))=((32-s:Nat):Int):=by rw [wrap_i64 (by omega) (by omega)];omega
    have e5:IntKind.u64.wrap (x:Int)=(x:Int):=by rw [wrap_u64];omega
    rw [e4,e5]
    simp only [Int.toNat_natCast]
    rw [Nat.min_eq_left (by omega:32-s≤64),fdiv_pow (by omega),Int.toNat_natCast]
    have e6:IntKind.u32.wrap ((x/2^(32-s):Nat):Int)=((x/2^(32-s):Nat):Int):=by
     have:x/2^(32-s)≤x:=Nat.div_le_self _ _
     generalize x/2^(32-s)=y at this ⊢
     rw [wrap_u32]
     omega
    rw [e6,wrap_i64 (by omega) (by omega),List.append_assoc]
    exact cond_t (decide_eq_true (by omega)) ⟨by omega,by omega,⟨by omega,by rw [List.length_append];omega⟩,by omega,hm⟩
  have:=key a.length 0 0 [] (by omega) rfl Dy.digs_nil (Nat.two_pow_pos _) (by simp [Dy.val];exact Nat.mul_comm _ _)
  rw [List.append_nil] at this
  exact this
 ·cases h
theorem ok_upO (args:List AV) (s:Spec) (h:sUpO args=some s) (hp:andO s.pre True):Contract Tryz.prog Inv 182 args s.res:=by
 unfold sUpO at h
 split at h
 ·cases h
  rename_i a n
  obtain ⟨⟨hne,hn,hn1,hal⟩, -⟩:=hp
  refine contract_own_at 50 lamUp ok_tabU Tryz.func182 (by kernel_rfl) rfl (loops1 (by kernel_rfl) (by kernel_rfl) loop_upO) fun hok=> ?_
  have ha:=(oks1_dig hok).1
  have hl:=List.length_pos_iff.2 hne
  obtain ⟨n,rfl⟩:=Int.eq_ofNat_of_zero_le hn
  rw [vc_upO]
  refine cond_f (decide_eq_false (by omega)) ?_
  have e1:IntKind.i64.wrap ((n:Int).tdiv 32)=((n/32:Nat):Int):=by
   rw [Int.tdiv_eq_ediv_of_nonneg (by omega),wrap_i64 (by omega) (by omega)];omega
  have e2:(n:Int).tmod 32=((n%32:Nat):Int):=by rw [Int.tmod_eq_emod_of_nonneg (by omega)];omega
  rw [e1,e2]
  simp only [Int.toNat_natCast]
  have hc:Dy.val a*2^(n%32)/2^(32*a.length)<4294967296:=by
   have h1:=Dy.val_lt ha.2
   rw [Nat.div_lt_iff_lt_mul (Nat.two_pow_pos _),Nat.mul_comm]
   refine Nat.lt_of_lt_of_le (Nat.mul_lt_mul_of_pos_left h1 (Nat.two_pow_pos _)) (Nat.mul_le_mul_right _ ?_)
   exact Nat.le_trans (Nat.pow_le_pow_right (n:=2) (by decide) (show n%32≤32 by omega)) (by decide)
  have hv:Dy.val (List.replicate (n/32) 0++Dy.dgN a.length (Dy.val a*2^(n%32))++[Dy.val a*2^(n%32)/2^(32*a.length)])=Dy.val a*2^n:=by
   rw [Dy.val_snoc,Dy.val_append,Dy.val_replicate,Dy.val_dgN]
   simp only [List.length_append,List.length_replicate,Dy.dgN_length]
   rw [Nat.zero_add,Nat.mul_add,Nat.pow_add,Nat.mul_assoc,←Nat.mul_add,Nat.mod_add_div,Nat.mul_comm,Nat.mul_assoc,←Nat.pow_add,show n%32+32*(n/32)=n by omega]
  have hX:Dy.digs (List.replicate (n/32) 0++Dy.dgN a.length (Dy.val a*2^(n%32))++[Dy.val a*2^(n%32)/2^(32*a.length)]):=
   Dy.digs_append.2 ⟨Dy.digs_append.2 ⟨Dy.digs_replicate _,Dy.digs_dgN _ _⟩,Dy.digs_cons.2 ⟨hc,Dy.digs_nil⟩⟩
  rw [Dy.take_dg2 hX,hv]
  simp only [List.length_replicate,List.length_append,Dy.dgN_length,List.length_cons,List.length_nil]
  rw [wrap_i64 (n:=((n/32:Nat):Int)+(a.length:Int)) (by omega) (by omega),wrap_i64 (by omega) (by omega)]
  exact ⟨⟨by omega,by omega,by omega⟩,⟨ha,hal,by omega,by omega,by omega,by simp,by simp,by simp⟩,⟨by omega,by omega⟩,⟨⟨by omega,by simp⟩,by omega⟩,trivial⟩
 ·cases h
end Go.AI

namespace Go.AI
open Go Go.RowKit Go.Proofs
set_option linter.unusedVariables false
set_option maxRecDepth 100000
theorem or64 {x y:Nat} (hx:x<4294967296) (hy:y<4294967296):IntKind.u64.wrap ((BitVec.ofInt 64 (IntKind.u64.wrap ((x:Int)*(2:Int)^(32:Nat)))|||BitVec.ofInt 64 (IntKind.u64.wrap (y:Int))).toNat:Int)=((x*4294967296+y:Nat):Int):=by
 have e1:IntKind.u64.wrap ((x:Int)*(2:Int)^(32:Nat))=((x*4294967296:Nat):Int):=by rw [wrap_u64];omega
 have e2:IntKind.u64.wrap (y:Int)=(y:Int):=by rw [wrap_u64];omega
 rw [e1,e2,w64_or (by omega) (by omega) (by omega) (by omega),Int.toNat_natCast,Int.toNat_natCast]
 have:=or_low (a:=x) (b:=y) (k:=32) (by omega)
 rw [show (2:Nat)^32=4294967296 from rfl] at this
 rw [this]
theorem loop_step_1:LoopOk Tryz.prog (look tabS) lamStep 2 160 keepG (bodyN Tryz.f217 0) lsG:=by
 intro vals r h K hK
 unfold lsG at h
 split at h
 ·cases h
  rename_i L G cap lo len v n g l
  simp only [evLR] at hK
  obtain ⟨⟨hL,hdL,hdv,rfl,hv2,rfl,hlo,hg0,hg1,hl0,hl1⟩,hK⟩:=hK
  obtain ⟨g,rfl⟩:=Int.eq_ofNat_of_zero_le hg0
  obtain ⟨l,rfl⟩:=Int.eq_ofNat_of_zero_le hl0
  simp only [Int.toNat_natCast] at hK
  have w1:IntKind.i64.wrap ((v.length:Int)-1)=((v.length-1:Nat):Int):=by rw [wrap_i64 (by omega) (by omega)];omega
  have w2:IntKind.i64.wrap ((v.length:Int)-2)=((v.length-2:Nat):Int):=by rw [wrap_i64 (by omega) (by omega)];omega
  have hd1:=Dy.digs_getD hdv (v.length-1)
  have hd2:=Dy.digs_getD hdv (v.length-2)
  have hd3:=Dy.digs_getD hdL (lo+(v.length-2))
  have key:∀f g l:Nat,g≤f→g<18446744073709551616→l<4294967296→
    K (.exit 0) [.handv 152 L (some (G,cap)) lo (v.length+1),.dig [1,2,3] v,.num .i64 v.length,
     .num .u64 ((Dy.gl (v.getD (v.length-1) 0) (v.getD (v.length-2) 0) (L.getD (lo+(v.length-2)) 0) f g l).1:Nat),
     .num .u64 ((Dy.gl (v.getD (v.length-1) 0) (v.getD (v.length-2) 0) (L.getD (lo+(v.length-2)) 0) f g l).2:Nat)]→
    ∃m,iterN Tryz.prog (look tabS) lamStep 2 160 keepG (bodyN Tryz.f217 0) m [.handv 152 L (some (G,cap)) lo (v.length+1),.dig [1,2,3] v,.num .i64 v.length,.num .u64 g,.num .u64 l] K:=by
   intro f
   have e2:∀l:Nat,l<4294967296→IntKind.u64.wrap ((l:Int)+IntKind.u64.wrap ((v.getD (v.length-1) 0:Nat):Int))=((l+v.getD (v.length-1) 0:Nat):Int):=by
    intro l hl
    rw [wrap_u64,wrap_u64];omega
   have e3:∀g:Nat,0<g→g<18446744073709551616→IntKind.u64.wrap ((g:Int)-1)=((g-1:Nat):Int):=by
    intro g hg hg'
    rw [wrap_u64];omega
   have e4:∀g:Nat,g<4294967296→IntKind.u64.wrap ((g:Int)*IntKind.u64.wrap ((v.getD (v.length-2) 0:Nat):Int))=((g*v.getD (v.length-2) 0:Nat):Int):=by
    intro g hg
    have h1:g*v.getD (v.length-2) 0≤4294967295*4294967295:=Nat.mul_le_mul (by omega) (by omega)
    have h2:IntKind.u64.wrap ((v.getD (v.length-2) 0:Nat):Int)=((v.getD (v.length-2) 0:Nat):Int):=by rw [wrap_u64];omega
    rw [h2,←Int.natCast_mul,wrap_u64]
    omega
   induction f with
   |zero=>
    intro g l hgf hg hl hK
    have:g=0:=by omega
    subst this
    refine iterN_last ?_
    rw [vc_step_1]
    simp only [w1,w2,Int.toNat_natCast,e4 0 (by omega),or64 hl hd3]
    refine cond_f (decide_eq_false (by omega)) ⟨by omega,by omega,by omega,cond_f (decide_eq_false (by omega)) ?_⟩
    exact hK
   |succ f ih=>
    intro g l hgf hg hl hK
    unfold Dy.gl at hK
    have more:0<g→(4294967296≤g∨l*4294967296+L.getD (lo+(v.length-2)) 0<g*v.getD (v.length-2) 0)→
      (bif decide (((l+v.getD (v.length-1) 0:Nat):Int)≥4294967296) then
       K (.exit 0) [.handv 152 L (some (G,cap)) lo (v.length+1),.dig [1,2,3] v,.num .i64 v.length,.num .u64 ((g-1:Nat):Int),.num .u64 ((l+v.getD (v.length-1) 0:Nat):Int)]
      else∃m,iterN Tryz.prog (look tabS) lamStep 2 160 keepG (bodyN Tryz.f217 0) m [.handv 152 L (some (G,cap)) lo (v.length+1),.dig [1,2,3] v,.num .i64 v.length,.num .u64 ((g-1:Nat):Int),.num .u64 ((l+v.getD (v.length-1) 0:Nat):Int)] K):=by
     intro hg0 hc
     rw [if_pos hc] at hK
     by_cases d:4294967296≤l+v.getD (v.length-1) 0
     ·rw [if_pos d] at hK
      exact cond_t (decide_eq_true (by omega)) hK
     ·rw [if_neg d] at hK
      exact cond_f (decide_eq_false (by omega)) (ih (g-1) (l+v.getD (v.length-1) 0) (by omega) (by omega) (by omega) hK)
    by_cases c1:4294967296≤g
    ·have hm:=more (by omega) (.inl c1)
     by_cases d:4294967296≤l+v.getD (v.length-1) 0
     ·rw [decide_eq_true (by omega:((l+v.getD (v.length-1) 0:Nat):Int)≥4294967296)] at hm
      refine iterN_last ?_
      rw [vc_step_1]
      simp only [w1,Int.toNat_natCast,e2 l hl,e3 g (by omega) hg]
      exact cond_t (decide_eq_true (by omega)) ⟨by omega,cond_t (decide_eq_true (by omega)) hm⟩
     ·rw [decide_eq_false (by omega:¬((l+v.getD (v.length-1) 0:Nat):Int)≥4294967296)] at hm
      obtain ⟨m,hm⟩:=hm
      refine iterN_next m ?_
      rw [vc_step_1]
      simp only [w1,Int.toNat_natCast,e2 l hl,e3 g (by omega) hg]
      exact cond_t (decide_eq_true (by omega)) ⟨by omega,cond_f (decide_eq_false (by omega)) hm⟩
    ·by_cases c2:l*4294967296+L.getD (lo+(v.length-2)) 0<g*v.getD (v.length-2) 0
     ·have hg0:0<g:=by
       rcases Nat.eq_zero_or_pos g with e|e
       ·subst e;simp at c2
       ·exact e
      have hm:=more hg0 (.inr c2)
      by_cases d:4294967296≤l+v.getD (v.length-1) 0
      ·rw [decide_eq_true (by omega:((l+v.getD (v.length-1) 0:Nat):Int)≥4294967296)] at hm
       refine iterN_last ?_
       rw [vc_step_1]
       simp only [w1,w2,Int.toNat_natCast,e4 g (by omega),or64 hl hd3,e2 l hl,e3 g (by omega) hg]
       exact cond_f (decide_eq_false (by omega)) ⟨by omega,by omega,by omega,cond_t (decide_eq_true (by omega)) ⟨by omega,cond_t (decide_eq_true (by omega)) hm⟩⟩
      ·rw [decide_eq_false (by omega:¬((l+v.getD (v.length-1) 0:Nat):Int)≥4294967296)] at hm
       obtain ⟨m,hm⟩:=hm
       refine iterN_next m ?_
       rw [vc_step_1]
       simp only [w1,w2,Int.toNat_natCast,e4 g (by omega),or64 hl hd3,e2 l hl,e3 g (by omega) hg]
       exact cond_f (decide_eq_false (by omega)) ⟨by omega,by omega,by omega,cond_t (decide_eq_true (by omega)) ⟨by omega,cond_f (decide_eq_false (by omega)) hm⟩⟩
     ·rw [if_neg (by omega)] at hK
      refine iterN_last ?_
      rw [vc_step_1]
      simp only [w1,w2,Int.toNat_natCast,e4 g (by omega),or64 hl hd3]
      exact cond_f (decide_eq_false (by omega)) ⟨by omega,by omega,by omega,cond_f (decide_eq_false (by omega)) hK⟩
  exact key g g l (Nat.le_refl _) (by omega) (by omega) hK
 ·cases h
end Go.AI

namespace Go.Dy
theorem winV_put_snoc {L w:List Nat} {lo d:Nat} (h:lo+w.length<L.length):winV (putW L lo (w++[d])) lo w.length=val w:=by
 unfold winV putW
 have e:(L.take lo).length=lo:=by simp;omega
 rw [List.append_assoc,List.drop_append_of_le_length (by omega),List.drop_of_length_le (by omega),List.nil_append,List.append_assoc,List.take_append_of_le_length (by omega),List.take_of_length_le (by omega)]
theorem getD_put_snoc {L w:List Nat} {lo d:Nat} (h:lo+w.length<L.length):(putW L lo (w++[d])).getD (lo+w.length) 0=d:=by
 unfold putW
 have e:(L.take lo++w).length=lo+w.length:=by simp;omega
 rw [←List.append_assoc (L.take lo),List.append_assoc,getD_append_right (by omega),e,Nat.sub_self]
 rfl
theorem mulsub_end {w W P p b c n:Nat} (hw:w<p) (hb:b≤1) (hc:c=P/p) (h:w+P=W+p*(b+c)) (hW:W<p):
  b=(if W<P%p then 1 else 0)∧w=W+p*(if W<P%p then 1 else 0)-P%p:=by
 have hd:=Nat.div_add_mod P p
 rw [←hc] at hd
 generalize P%p=Lo at hd ⊢
 rw [Nat.mul_add] at h
 rcases (by omega:b=0∨b=1) with rfl|rfl
 ·have:¬W<Lo:=by omega
  rw [if_neg this]
  omega
 ·have:W<Lo:=by omega
  rw [if_pos this]
  omega
end Go.Dy
namespace Go.AI
open Go Go.RowKit Go.Proofs
set_option linter.unusedVariables false
set_option maxRecDepth 100000
theorem loop_step_2:LoopOk Tryz.prog (look tabS) lamStep 2 160 keepM (bodyN Tryz.f217 1) lsM:=by
 intro vals r h K hK
 unfold lsM at h
 split at h
 ·cases h
  rename_i L G cap lo len v n g bo ca v' k i
  simp only [evLR] at hK
  obtain ⟨⟨rfl,rfl,rfl,rfl,rfl,hg0,hg1,hdv,hdL,rfl,hlo,hL⟩,hK⟩:=hK
  obtain ⟨g,rfl⟩:=Int.eq_ofNat_of_zero_le hg0
  simp only [Int.toNat_natCast] at hK
  have key:∀(u j b c:Nat) (w:List Nat),v'.length=u+j→w.length=j→Dy.digs w→b≤1→c<4294967296→c=g*Dy.val (v'.take j)/2^(32*j)→
    Dy.val w+g*Dy.val (v'.take j)=Dy.winV L lo j+2^(32*j)*(b+c)→
    ∃m,iterN Tryz.prog (look tabS) lamStep 2 160 keepM (bodyN Tryz.f217 1) m [.handv 152 (Dy.putW L lo w) (some (G,cap)) lo (v'.length+1),.dig [1,2,3] v',.num .i64 n,.num .u64 g,.num .u32 b,.num .u64 c,.dig [1,2,3] v',.num .i64 v'.length,.num .i64 j] K:=by
   intro u
   induction u with
   |zero=>
    intro j b c w hj hwl hwd hb hc hcp hv
    refine iterN_last ?_
    rw [vc_step_2]
    refine cond_f (decide_eq_false (by omega)) ?_
    have hjn:j=v'.length:=by omega
    subst hjn
    rw [List.take_of_length_le (Nat.le_refl _)] at hv hcp
    have hwlt:=Dy.val_lt hwd
    rw [hwl] at hwlt
    obtain ⟨hb',hw'⟩:=Dy.mulsub_end hwlt hb hcp hv (Dy.winV_lt hdL lo _) (n:=0)
    have hw2:w=Dy.dgN v'.length (Dy.val w):=(Dy.dgN_val' hwd hwl).symm
    rw [hw'] at hw2
    rw [hw2,hb',hcp]
    exact hK
   |succ u ih=>
    intro j b c w hj hwl hwd hb hc hcp hv
    have hd:=Dy.digs_getD hdv j
    have hx:=Dy.digs_getD hdL (lo+j)
    have hcur:(Dy.putW L lo w).getD (lo+j) 0=L.getD (lo+j) 0:=by
     have:=Dy.putW_get (L:=L) (w:=w) (lo:=lo) (by omega)
     rw [hwl] at this
     exact this
    have hlen:(Dy.putW L lo w).length=L.length:=Dy.putW_length (by omega)
    have hset:∀t,(Dy.putW L lo w).set (lo+j) t=Dy.putW L lo (w++[t]):=fun t=>by
     have:=Dy.putW_set (L:=L) (w:=w) (lo:=lo) (d:=t) (by omega)
     rw [hwl] at this
     exact this
    have htk:=Dy.val_take_succ (l:=v') (i:=j) (by omega)
    have hwin:=Dy.winV_succ (L:=L) (lo:=lo) (n:=j) (by omega)
    generalize hdd:v'.getD j 0=d at hd htk
    generalize hxx:L.getD (lo+j) 0=x at hx hwin hcur
    have hgd:g*d≤4294967295*4294967295:=Nat.mul_le_mul (by omega) (by omega)
    have e1:IntKind.u64.wrap ((c:Int)+IntKind.u64.wrap ((g:Int)*IntKind.u64.wrap (d:Int)))=((c+g*d:Nat):Int):=by
     have h1:IntKind.u64.wrap (d:Int)=(d:Int):=by rw [wrap_u64];omega
     have h2:IntKind.u64.wrap (((g*d:Nat)):Int)=((g*d:Nat):Int):=by rw [wrap_u64];omega
     rw [h1,←Int.natCast_mul,h2,wrap_u64]
     omega
    generalize hX:c+g*d=X at e1
    have e2:IntKind.u32.wrap ((X:Nat):Int)=((X%4294967296:Nat):Int):=by rw [wrap_u32];omega
    have e3:((X:Nat):Int).fdiv ((2:Int)^(32:Nat))=((X/4294967296:Nat):Int):=by
     rw [fdiv_pow (by omega),Int.toNat_natCast]
    have ht:∃t:Nat,(((x:Int)-((X%4294967296:Nat):Int)-(b:Int))%4294967296).toNat=t∧t<4294967296∧t+X%4294967296+b=x+4294967296*(if x<X%4294967296+b then 1 else 0):=by
     refine ⟨_,rfl,by omega,?_⟩
     split<;>omega
    obtain ⟨t,ht1,ht2,ht3⟩:=ht
    have e4:(if (x:Int)<((X%4294967296:Nat):Int)+(b:Int) then (1:Int) else 0)=((if x<X%4294967296+b then 1 else 0:Nat):Int):=by
     by_cases c:x<X%4294967296+b
     ·rw [if_pos c,if_pos (by omega)];rfl
     ·rw [if_neg c,if_neg (by omega)];rfl
    have hq:g*Dy.val (v'.take (j+1))/2^(32*(j+1))=X/4294967296:=by
     rw [htk,Dy.pow_split,←Nat.div_div_eq_div_mul,Nat.mul_add,←Nat.mul_assoc,Nat.mul_comm g (2^(32*j)),Nat.mul_assoc,Nat.add_mul_div_left _ _ (Nat.two_pow_pos _),←hcp,hX]
    obtain ⟨m,hm⟩:=ih (j+1) (if x<X%4294967296+b then 1 else 0) (X/4294967296) (w++[t]) (by omega) (by simp [hwl]) (Dy.digs_append.2 ⟨hwd,Dy.digs_cons.2 ⟨ht2,Dy.digs_nil⟩⟩) (by split<;>omega) (by omega) hq.symm (by
      have hXd:=Nat.div_add_mod X 4294967296
      rw [Dy.val_snoc,hwl,htk,hwin,Dy.pow_split]
      generalize (if x<X%4294967296+b then 1 else 0)=b' at ht3 ⊢
      generalize X/4294967296=c' at hXd ⊢
      generalize X%4294967296=xl at hXd ht3 ⊢
      generalize Dy.winV L lo j=W at hv ⊢
      generalize Dy.val w=ww at hv ⊢
      generalize hpp:2^(32*j)=p at hv ⊢
      have h1:p*(t+xl+b)=p*(x+4294967296*b'):=by rw [ht3]
      have h2:p*(c+g*d)=p*(4294967296*c'+xl):=by rw [hX,hXd]
      have h3:g*(p*d)=p*(g*d):=Nat.mul_left_comm _ _ _
      simp only [Nat.mul_add,Nat.mul_assoc] at hv h1 h2 h3 ⊢
      rw [h3]
      omega)
    refine iterN_next m ?_
    rw [vc_step_2]
    simp only [Int.toNat_natCast,hdd,hcur,e1,e2,e3,hlen]
    refine cond_t (decide_eq_true (by omega)) ⟨by omega,by omega,by omega,by omega,?_⟩
    rintro _ rfl _ rfl
    rw [ht1,hset t,e4,wrap_i64 (by omega) (by omega)]
    exact ⟨by omega,by omega,hm⟩
  have:=key v'.length 0 0 0 [] (by omega) rfl Dy.digs_nil (by omega) (by omega) (by simp [Dy.val]) (by simp [Dy.val,Dy.winV])
  have e:Dy.putW L lo []=L:=by simp [Dy.putW]
  rw [e] at this
  exact this
 ·cases h
theorem loop_step_3:LoopOk Tryz.prog (look tabS) lamStep 2 160 keepA (bodyN Tryz.f217 2) lsA:=by
 intro vals r h K hK
 unfold lsA at h
 split at h
 ·cases h
  rename_i L G cap lo len n g ov v k i
  simp only [evLR] at hK
  obtain ⟨⟨rfl,rfl,rfl,hdv,hdL,rfl,hlo,hL⟩,hK⟩:=hK
  have key:∀(u j c:Nat) (w:List Nat),v.length=u+j→w.length=j→Dy.digs w→c≤1→Dy.val w+2^(32*j)*c=Dy.winV L lo j+Dy.val (v.take j)→
    ∃m,iterN Tryz.prog (look tabS) lamStep 2 160 keepA (bodyN Tryz.f217 2) m [.handv 152 (Dy.putW L lo w) (some (G,cap)) lo (v.length+1),.num .i64 n,.num .u64 g,.num .u32 c,.dig [1,2,3] v,.num .i64 v.length,.num .i64 j] K:=by
   intro u
   induction u with
   |zero=>
    intro j c w hj hwl hwd hc hv
    refine iterN_last ?_
    rw [vc_step_3]
    refine cond_f (decide_eq_false (by omega)) ?_
    have hjn:j=v.length:=by omega
    subst hjn
    rw [List.take_of_length_le (Nat.le_refl _)] at hv
    have hq:=Dy.take_dgN hwd (n:=v.length) (c:=c) (y:=Dy.winV L lo v.length+Dy.val v) (by omega) (by rw [List.take_of_length_le (by omega)];exact hv)
    rw [List.take_of_length_le (by omega)] at hq
    rw [hq.1,hq.2]
    exact hK
   |succ u ih=>
    intro j c w hj hwl hwd hc hv
    have hd:=Dy.digs_getD hdv j
    have hx:=Dy.digs_getD hdL (lo+j)
    have hcur:(Dy.putW L lo w).getD (lo+j) 0=L.getD (lo+j) 0:=by
     have:=Dy.putW_get (L:=L) (w:=w) (lo:=lo) (by omega)
     rw [hwl] at this
     exact this
    have hlen:(Dy.putW L lo w).length=L.length:=Dy.putW_length (by omega)
    have hset:∀t,(Dy.putW L lo w).set (lo+j) t=Dy.putW L lo (w++[t]):=fun t=>by
     have:=Dy.putW_set (L:=L) (w:=w) (lo:=lo) (d:=t) (by omega)
     rw [hwl] at this
     exact this
    have htk:=Dy.val_take_succ (l:=v) (i:=j) (by omega)
    have hwin:=Dy.winV_succ (L:=L) (lo:=lo) (n:=j) (by omega)
    generalize hdd:v.getD j 0=d at hd htk
    generalize hxx:L.getD (lo+j) 0=x at hx hwin hcur
    have e1:(((x:Int)+(d:Int)+(c:Int))%4294967296).toNat=(x+d+c)%4294967296:=by omega
    have e2:((x:Int)+(d:Int)+(c:Int))/4294967296=(((x+d+c)/4294967296:Nat):Int):=by omega
    obtain ⟨m,hm⟩:=ih (j+1) ((x+d+c)/4294967296) (w++[(x+d+c)%4294967296]) (by omega) (by simp [hwl]) (Dy.digs_append.2 ⟨hwd,Dy.digs_cons.2 ⟨by omega,Dy.digs_nil⟩⟩) (by omega) (by
      have hXd:=Nat.div_add_mod (x+d+c) 4294967296
      rw [Dy.val_snoc,hwl,htk,hwin,Dy.pow_split]
      generalize (x+d+c)/4294967296=c' at hXd ⊢
      generalize (x+d+c)%4294967296=xl at hXd ⊢
      generalize 2^(32*j)=p at hv ⊢
      have h1:p*(4294967296*c'+xl)=p*(x+d+c):=by rw [hXd]
      simp only [Nat.mul_add,Nat.mul_assoc] at hv h1 ⊢
      omega)
    refine iterN_next m ?_
    rw [vc_step_3]
    simp only [Int.toNat_natCast,hdd,hcur,hlen]
    refine cond_t (decide_eq_true (by omega)) ⟨by omega,by omega,by omega,?_⟩
    rintro _ rfl _ rfl
    rw [e1,e2,hset,wrap_i64 (by omega) (by omega)]
    exact ⟨by omega,by omega,hm⟩
  have:=key v.length 0 0 [] (by omega) rfl Dy.digs_nil (by omega) (by simp [Dy.val,Dy.winV])
  have e:Dy.putW L lo []=L:=by simp [Dy.putW]
  rw [e] at this
  exact this
 ·cases h
end Go.AI
