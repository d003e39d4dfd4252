/- My texts AIref3, AImark, AVmark, AImark2, AImark3, AImark4, AImark5, AIspec8, AIspecH, AVlong, AVhand, AInumH, AIhand0, AIhand1, AIhand2, AIhand3, in one. -/
import Derived.Test.YtogikmlfkhofoaaGreatDoorK8
open BitVec renaming ofInt→A7
open Bool renaming false_eq_true→J7,not_eq_false'→F1,not_eq_true'→G0
open Int renaming eq_ofNat_of_zero_le→C4,natCast_mul→L5,ofNat_eq_zero→P6,toNat_natCast→A2
open Go.Lib renaming bitLen→D6
open List renaming append_assoc→U8,drop_of_length_le→AX,getD_eq_getElem?_getD→D7,length_append→g7,length_cons→T5,length_eq_zero_iff→G5,length_nil→DN,length_replicate→U0,replicate→B2,take→JK,take_of_length_le→H7
open Nat renaming add_mul→H2,add_zero→I4,div_add_mod→Q6,div_lt_iff_lt_mul→H0,eq_zero_or_pos→j9,le_refl→I6,le_trans→D9,lt_of_lt_of_le→G7,lt_or_ge→L4,mod_add_div→DQ,mod_lt→R5,mul_add→D0,mul_assoc→B9,mul_comm→B6,mul_le_mul→I7,mul_le_mul_left→F2,mul_le_mul_right→C0,mul_left_comm→M9,mul_one→M0,mul_zero→O3,one_mul→Q2,pow_add→B8,pow_le_pow_right→B3,two_pow_pos→A9,zero_add→N9,zero_le→MX
namespace Go.Dy
set_option maxRecDepth 100000
theorem A5v {s s':Bool} {m m':List Nat} {e e' u:Int} {X Y:Nat} (hu:u=min e e') (hX:val m*2^(e-u).toNat=X) (hY:val m'*2^(e'-u).toNat=Y):
  C2 ⟨s,m,e⟩ ⟨s',m',e'⟩=if s=s' then form s (X+Y) u else if Y≤X then form s (X-Y) u else form s' (Y-X) u:=by
 unfold C2
 rw [j6,j6]
 simp only [unit]
 rw [←hu,hX,hY]
 by_cases c:s=s'
 ·subst c
  rw [if_pos rfl,GD,S1]
 ·rw [if_neg c]
  by_cases c2:Y≤X
  ·rw [if_pos c2,UJ c c2,S1]
  ·rw [if_neg c2,B5q c (by omega),S1]
theorem C3y {a b:Nat}:v8 a b≥0 ↔ b≤a:=by
 have:=GQ (a:=a) (b:=b)
 constructor
 ·intro h
  by_cases c:a<b
  ·have:=this.2 c;omega
  ·omega
 ·intro h
  by_cases c:v8 a b<0
  ·have:=this.1 c;omega
  ·omega
theorem BY {n:Nat} (h:bl n≤33554432):(dg n).length≤1048576:=J3.2 (by omega)
theorem VO {x y k:Nat} (hx:bl x≤k) (hy:bl y≤k):bl (x+y)≤k+1:=by
 have h1:=I8.1 hx
 have h2:=I8.1 hy
 exact I8.2 (by rw [Nat.pow_succ];omega)
theorem Y0 {n k j:Nat} (h:bl n≤j):bl (n*2^k)≤j+k:=by
 by_cases c:n=0
 ·rw [c,Nat.zero_mul,K2];omega
 ·rw [E7 c];omega
theorem B5w (z e:Int):F0 (C8 z e)=U2 z 0:=by
 by_cases c:z=0
 ·subst c;rfl
 ·have hn:z.natAbs≠0:=by omega
  unfold C8
  rw [H6 hn]
  unfold F0
  simp only
  have:dg (z.natAbs/2^tz z.natAbs)≠[]:=fun e0=>by
   have h0:=T6.1 e0
   have h1:=T0 hn
   omega
  rw [if_neg this]
  by_cases h:z<0
  ·rw [decide_eq_true h,if_pos rfl,IC h]
  ·rw [decide_eq_false h,if_neg (by simp),IB (by omega)]
end Go.Dy
namespace Go.AI
open Go Go.RowKit Go.Proofs
set_option linter.unusedVariables false
set_option maxRecDepth 100000
theorem B24 {s s':Bool} {X Y:Nat} {u:Int} {d:Dy.Dyd} (hd:d=if s=s' then Dy.form s (X+Y) u else if Y≤X then Dy.form s (X-Y) u else Dy.form s' (Y-X) u)
  (hX:Dy.bl X≤500000) (hY:Dy.bl Y≤500000) (hu: -16777216≤u∧u≤16777216) {Q:AV→Prop} (hQ:Q (avD [0,1,2] d)):
  bif decide (s=s') then ((Dy.dg X).length≤1048576∧(Dy.dg Y).length≤1048576)∧(True∧(Dy.dg (X+Y)).length≤1048576∧ -1099511627776≤u∧u≤1099511627776)∧
    ∀b1,b1=(Dy.form s (X+Y) u).neg→∀l2,l2=(Dy.form s (X+Y) u).mag→∀n3,n3=(Dy.form s (X+Y) u).exp→Q (.agg [.bool b1,.dig [0,1,2] l2,.num .i64 n3])
  else (True∧True)∧bif decide (Dy.v8 X Y≥0) then (Y≤X∧(Dy.dg X).length≤1048576)∧(True∧(Dy.dg (X-Y)).length≤1048576∧ -1099511627776≤u∧u≤1099511627776)∧
     ∀b1,b1=(Dy.form s (X-Y) u).neg→∀l2,l2=(Dy.form s (X-Y) u).mag→∀n3,n3=(Dy.form s (X-Y) u).exp→Q (.agg [.bool b1,.dig [0,1,2] l2,.num .i64 n3])
   else (X≤Y∧(Dy.dg Y).length≤1048576)∧(True∧(Dy.dg (Y-X)).length≤1048576∧ -1099511627776≤u∧u≤1099511627776)∧
     ∀b1,b1=(Dy.form s' (Y-X) u).neg→∀l2,l2=(Dy.form s' (Y-X) u).mag→∀n3,n3=(Dy.form s' (Y-X) u).exp→Q (.agg [.bool b1,.dig [0,1,2] l2,.num .i64 n3]):=by
 have hs:=Dy.VO hX hY
 have h1:=Dy.K1 (Nat.sub_le X Y)
 have h2:=Dy.K1 (Nat.sub_le Y X)
 have l1:=Dy.BY (n:=X) (by omega)
 have l2:=Dy.BY (n:=Y) (by omega)
 have l3:=Dy.BY (n:=X+Y) (by omega)
 have l4:=Dy.BY (n:=X-Y) (by omega)
 have l5:=Dy.BY (n:=Y-X) (by omega)
 refine A8 (fun h=> ?_) (fun h=> ?_)
 ·rw [if_pos (A1 h)] at hd
  refine ⟨⟨l1,l2⟩,⟨trivial,l3,by omega,by omega⟩,?_⟩
  rintro _ rfl _ rfl _ rfl
  rw [hd] at hQ
  exact hQ
 ·rw [if_neg (A0 h)] at hd
  refine ⟨⟨trivial,trivial⟩,A8 (fun h3=> ?_) (fun h3=> ?_)⟩
  ·have h3:=Dy.C3y.1 (A1 h3)
   rw [if_pos h3] at hd
   refine ⟨⟨h3,l1⟩,⟨trivial,l4,by omega,by omega⟩,?_⟩
   rintro _ rfl _ rfl _ rfl
   rw [hd] at hQ
   exact hQ
  ·have h3:=mt Dy.C3y.2 (A0 h3)
   rw [if_neg h3] at hd
   refine ⟨⟨by omega,l2⟩,⟨trivial,l5,by omega,by omega⟩,?_⟩
   rintro _ rfl _ rfl _ rfl
   rw [hd] at hQ
   exact hQ
theorem B45 (args:List AV) (s:Spec) (h:D00 args=some s) (hp:C6 s.pre True):Contract Tryz.prog Inv 57 args s.res:=by
 unfold D00 at h
 split at h
 ·cases h
  rename_i s m e s' m' e'
  have hd:=hp.1.1
  have hd':=hp.1.2.1
  have hg:=hp.1.2.2
  refine A4 true HD Tryz.func57 (by kernel_rfl) (by kernel_rfl) fun hok=> ?_
  have may1:=Dy.C1 hd
  have may2:=Dy.C1 hd'
  have n1:=Dy.J4 may1
  have n2:=Dy.J4 may2
  have b1:=Dy.O8 may1
  have b2:=Dy.O8 may2
  have x1:=Dy.J2 hd
  have x2:=Dy.J2 hd'
  rw [B7b]
  simp only [Dy.E3]
  refine A8 (fun h=> ?_) (fun h=>A8 (fun h1=> ?_) (fun h1=> ?_))
  ·have h:=G5.1 (P6.1 (A1 h))
   subst h
   rw [Dy.VK,Dy.RZ hd' hd]
   rfl
  ·have h1:=G5.1 (P6.1 (A1 h1))
   subst h1
   rw [Dy.RZ hd hd']
   rfl
  ·have hg: -300000≤e-e'∧e-e'≤300000:=by
    rcases hg with c|c|c
    ·subst c;exact absurd rfl (A0 h)
    ·subst c;exact absurd rfl (A0 h1)
    ·exact c
   obtain ⟨hg1,hg2⟩:=hg
   refine A8 (fun h2=> ?_) (fun h2=> ?_)
   ·have h2:=A1 h2
    rw [wrap_i64 (n:=e-e') (by omega) (by omega),wrap_i64 (n:=e'-e') (by omega) (by omega)]
    refine ⟨⟨by omega,by omega,by omega⟩,⟨by omega,by omega,by omega⟩,?_⟩
    refine B24 (Q:=fun r=>r=avD [0,1,2] (Dy.C2 ⟨s,m,e⟩ ⟨s',m',e'⟩)) (Dy.A5v (s:=s) (s':=s') (m:=m) (m':=m') (e:=e) (e':=e') (u:=e') (by omega) rfl rfl) ?_ ?_ (by omega) rfl
    ·exact D9 (Dy.Y0 b1) (by omega)
    ·exact D9 (Dy.Y0 b2) (by omega)
   ·have h2:=A0 h2
    rw [wrap_i64 (n:=e-e) (by omega) (by omega),wrap_i64 (n:=e'-e) (by omega) (by omega)]
    refine ⟨⟨by omega,by omega,by omega⟩,⟨by omega,by omega,by omega⟩,?_⟩
    refine B24 (Q:=fun r=>r=avD [0,1,2] (Dy.C2 ⟨s,m,e⟩ ⟨s',m',e'⟩)) (Dy.A5v (s:=s) (s':=s') (m:=m) (m':=m') (e:=e) (e':=e') (u:=e) (by omega) rfl rfl) ?_ ?_ (by omega) rfl
    ·exact D9 (Dy.Y0 b1) (by omega)
    ·exact D9 (Dy.Y0 b2) (by omega)
 ·cases h
theorem A44 (args:List AV) (s:Spec) (h:B0b args=some s) (hp:C6 s.pre True):Contract Tryz.prog Inv 100 args s.res:=by
 unfold B0b at h
 split at h
 ·cases h
  rename_i s m e n
  have hpp:=hp.1
  refine A4 true HD Tryz.func100 (by kernel_rfl) (by kernel_rfl) fun hok=> ?_
  rw [A5a]
  refine A8 (fun h=> ?_) (fun h=> ?_)
  ·have h:=A1 h
   have hm:m≠[]:=fun e=>by rw [e] at h;simp at h
   obtain ⟨p1,p2,p3,p4⟩:=hpp.resolve_left hm
   rw [wrap_i64 (by omega) (by omega)]
   simp only [if_neg hm]
  ·have h:=A0 h
   have hm:m=[]:=G5.1 (by omega)
   simp only [if_pos hm]
 ·cases h
theorem B47 (args:List AV) (s:Spec) (h:D5a args=some s) (hp:C6 s.pre True):Contract Tryz.prog Inv 99 args s.res:=by
 unfold D5a at h
 split at h
 ·cases h
  rename_i s m e b
  have hd:=hp.1.1
  have hb1:=hp.1.2
  refine A4 true HD Tryz.func99 (by kernel_rfl) (by kernel_rfl) fun hok=> ?_
  have h5:=(A6o hok).2.2
  have hn:=range_i64 (J5 h5).1
  have may1:=Dy.C1 hd
  have n1:=Dy.J4 may1
  have b1:=Dy.O8 may1
  have x1:=Dy.J2 hd
  rw [XY,wrap_i64 (n:=(Dy.bl (Dy.val m):Int)-b) (by omega) (by omega)]
  unfold Dy.F6 Dy.headD Dy.HF
  simp only
  refine ⟨⟨Dy.K5 may1,by omega⟩,A8 (fun h=> ?_) (fun h=> ?_)⟩
  ·have h:=A1 h
   rw [if_pos h]
   rfl
  ·have h:=A0 h
   rw [if_neg h]
   have hv:Dy.val m≠0:=fun e0=>by rw [e0,Dy.K2] at h;omega
   have hm0:m≠[]:=fun e0=>hv (by rw [e0];rfl)
   have hz:Dy.tz (Dy.val m)=0:=Dy.WQ (Dy.FB hd hm0)
   obtain ⟨n,hn'⟩:∃n:Nat,(Dy.bl (Dy.val m):Int)-b=n:=⟨((Dy.bl (Dy.val m):Int)-b).toNat,by omega⟩
   rw [hn'] at h ⊢
   rw [wrap_i64 (by omega) (by omega),A2,hz,decide_eq_true (show Dy.val m≠0∧((0:Nat):Int)<(n:Int) from ⟨hv,by omega⟩)]
   refine ⟨⟨Dy.K5 may1,by omega,by omega⟩,?_⟩
   rintro _ rfl _ rfl
   rw [Dy.E3]
   have hb2:Dy.bl (Dy.val m/2^n)≤131072:=by rw [Dy.C5];omega
   refine ⟨⟨rfl,Dy.BY (by omega),by omega,by omega⟩,?_⟩
   rintro _ rfl _ rfl _ rfl
   rfl
 ·cases h
theorem A43 (args:List AV) (s:Spec) (h:C10 args=some s) (hp:C6 s.pre True):Contract Tryz.prog Inv 193 args s.res:=by
 unfold C10 at h
 split at h
 ·cases h
  rename_i s m e
  have hd:=hp.1
  refine A4 true HD Tryz.func193 (by kernel_rfl) (by kernel_rfl) fun hok=> ?_
  have may1:=Dy.C1 hd
  have n1:=Dy.J4 may1
  have b1:=Dy.O8 may1
  have x1:=Dy.J2 hd
  rw [A59]
  unfold Dy.T8
  simp only
  refine A8 (fun h=> ?_) (fun h=> ?_)
  ·have h:=A1 h
   rw [if_pos (by omega)]
   rfl
  ·have h:=A0 h
   rw [if_neg (by omega)]
   have hm0:m≠[]:=fun e0=>by subst e0;have:=(Dy.CZ hd).2;omega
   have hv:=Dy.Q1 may1 hm0
   obtain ⟨k,hk⟩:∃k:Nat,e= -(k:Int):=⟨(-e).toNat,by omega⟩
   subst hk
   rw [wrap_i64 (n:=0 - -(k:Int)) (by omega) (by omega),show (0:Int) - -(k:Int)=(k:Int) by omega,A2,Dy.GU,show (- -(k:Int)).toNat=k by omega,Dy.VV,Dy.S1]
   have hq:Dy.bl (Dy.val m/2^k)≤131072:=by rw [Dy.C5];omega
   have hq1:=Dy.KN hq
   have hdec:decide (Dy.val m≠0∧(Dy.tz (Dy.val m):Int)<(k:Int))=decide (Dy.val m%2^k≠0):=by
    rw [←Dy.B34 hv,decide_eq_decide]
    exact ⟨fun h=>h.2,fun h=>⟨hv,h⟩⟩
   refine ⟨⟨Dy.K5 may1,by omega,by omega⟩,?_⟩
   rintro _ rfl _ rfl
   rw [hdec]
   simp only [Dy.E3]
   cases s
   ·refine B1 rfl ⟨⟨trivial,Dy.BY (by omega),by omega,by omega⟩,?_⟩
    simp only [Bool.false_and,J7,if_false]
    rintro _ rfl _ rfl _ rfl
    rfl
   ·refine B5 rfl (A8 (fun h2=> ?_) (fun h2=> ?_))
    ·rw [h2]
     simp only [Bool.and_self,if_true]
     refine ⟨⟨Dy.BY (by omega),by omega⟩,⟨trivial,Dy.BY (by omega),by omega,by omega⟩,?_⟩
     rintro _ rfl _ rfl _ rfl
     rfl
    ·rw [h2]
     simp only [Bool.and_false,J7,if_false]
     refine ⟨⟨trivial,Dy.BY (by omega),by omega,by omega⟩,?_⟩
     rintro _ rfl _ rfl _ rfl
     rfl
 ·cases h
theorem A1e:G6 Tryz.prog Inv (look C4q):=
 A3 (A3 (A3 (A3 (A3 (HD) A43) B47) A44) B45) C0s
theorem B4c (args:List AV) (s:Spec) (h:D0b args=some s) (hp:C6 s.pre True):Contract Tryz.prog Inv 101 args s.res:=by
 unfold D0b at h
 split at h
 ·cases h
  rename_i s m e s' m' e'
  have hd:=hp.1.1
  have hd':=hp.1.2.1
  have hg:=hp.1.2.2
  refine A4 true A1e Tryz.func101 (by kernel_rfl) (by kernel_rfl) fun hok=> ?_
  have hneg:(if m'=[] then s' else !s')=(!s'&&decide (m'≠[])):=by
   by_cases c:m'=[]
   ·subst c
    rw [(Dy.CZ hd').1]
    rfl
   ·simp [c]
  rw [B7h,hneg]
  rintro _ rfl _ rfl _ rfl
  refine ⟨⟨hd,NQ hd',hg⟩,?_⟩
  rintro _ rfl _ rfl _ rfl
  rfl
 ·cases h
theorem B49 (args:List AV) (s:Spec) (h:D06 args=some s) (hp:C6 s.pre True):Contract Tryz.prog Inv 48 args s.res:=by
 unfold D06 at h
 split at h
 ·cases h
  rename_i s m e s' m' e'
  have hd:=hp.1.1
  have hd':=hp.1.2
  refine A4 false A1e Tryz.func48 (by kernel_rfl) (by kernel_rfl) fun hok=> ?_
  have may1:=Dy.C1 hd
  have may2:=Dy.C1 hd'
  have n1:=Dy.J4 may1
  have n2:=Dy.J4 may2
  have b1:=Dy.O8 may1
  have b2:=Dy.O8 may2
  have x1:=Dy.J2 hd
  have x2:=Dy.J2 hd'
  have hb:Dy.bl (Dy.val m*Dy.val m')≤262144:=by
   have gen:∀K:Nat,Dy.bl (Dy.val m)≤K→Dy.bl (Dy.val m')≤K→Dy.bl (Dy.val m*Dy.val m')≤K+K:=fun K h1 h2=>by
    refine Dy.I8.2 ?_
    rw [B8]
    exact Nat.mul_lt_mul'' (Dy.I8.1 h1) (Dy.I8.1 h2)
   exact gen _ b1 b2
  rw [B7e,wrap_i64 (by omega) (by omega)]
  simp only [Dy.E3]
  refine ⟨⟨by omega,by omega⟩,⟨trivial,Dy.BY (by omega),by omega,by omega⟩,?_⟩
  rintro _ rfl _ rfl _ rfl
  rfl
 ·cases h
theorem B4x:G6 Tryz.prog Inv (look D19):=A3 (A3 (A1e) B49) B4c
theorem B46 (args:List AV) (s:Spec) (h:D02 args=some s) (hp:C6 s.pre True):Contract Tryz.prog Inv 52 args s.res:=by
 unfold D02 at h
 split at h
 ·cases h
  rename_i s m e s' m' e'
  have hd:=hp.1.1
  have hd':=hp.1.2
  refine A4 false B4x Tryz.func52 (by kernel_rfl) (by kernel_rfl) fun hok=> ?_
  have may1:=Dy.C1 hd
  have may2:=Dy.C1 hd'
  have n1:=Dy.J4 may1
  have n2:=Dy.J4 may2
  have b1:=Dy.O8 may1
  have b2:=Dy.O8 may2
  have x1:=Dy.J2 hd
  have x2:=Dy.J2 hd'
  obtain ⟨k1,k2,k3⟩:=Dy.A5z hd hd'
  rw [B7c]
  refine A8 (fun h=> ?_) (fun h=> ?_)
  ·simp only [G0,decide_eq_false_iff_not] at h
   refine A8 (fun h1=> ?_) (fun h1=> ?_)
   ·rw [k1 (A1 h1)]
   ·have h1:=A0 h1
    rw [k2 (by omega)]
  ·simp only [F1,decide_eq_true_eq] at h
   obtain ⟨k4,k5⟩:=k3 h
   refine A8 (fun h1=> ?_) (fun h1=> ?_)
   ·have h1:=A1 h1
    rw [k5,h1,Int.zero_mul]
   ·have h1:=A0 h1
    have hm:m≠[]:=fun e0=>h1 (by unfold Dy.F0;simp only [if_pos e0])
    have hm':m'≠[]:=fun e0=>hm (k4.2 e0)
    have v1:=Dy.Q1 may1 hm
    have v2:=Dy.Q1 may2 hm'
    have t1:Dy.C7 ⟨s,m,e⟩=e+Dy.bl (Dy.val m):=by unfold Dy.C7;simp only [if_neg hm]
    have t2:Dy.C7 ⟨s',m',e'⟩=e'+Dy.bl (Dy.val m'):=by unfold Dy.C7;simp only [if_neg hm']
    have sg:Dy.F0 ⟨s,m,e⟩= -1∨Dy.F0 ⟨s,m,e⟩=1:=by
     unfold Dy.F0 at h1 ⊢
     simp only [if_neg hm] at h1 ⊢
     cases s<;>simp
    have q1:=Dy.E7 v1 (e-min e e').toNat
    have q2:=Dy.E7 v2 (e'-min e e').toNat
    rw [t1,t2]
    refine ⟨⟨Dy.K5 may1,by omega,by omega,by omega⟩,⟨Dy.K5 may2,by omega,by omega,by omega⟩,A8 (fun h2=> ?_) (fun h2=> ?_)⟩
    ·simp only [G0,decide_eq_false_iff_not] at h2
     refine ⟨⟨Dy.K5 may1,by omega,by omega,by omega⟩,⟨Dy.K5 may2,by omega,by omega,by omega⟩,?_⟩
     have hcmp:Dy.U2 (Dy.val m*2^(e-min e e').toNat:Nat) (Dy.val m'*2^(e'-min e e').toNat:Nat)=if e+Dy.bl (Dy.val m)<e'+Dy.bl (Dy.val m') then -1 else 1:=by
      by_cases c:e+(Dy.bl (Dy.val m):Int)<e'+(Dy.bl (Dy.val m'):Int)
      ·rw [if_pos c]
       have:=Dy.C3x (a:=Dy.val m*2^(e-min e e').toNat) (b:=Dy.val m'*2^(e'-min e e').toNat) (by omega)
       exact Dy.IC (by omega)
      ·rw [if_neg c]
       have:=Dy.C3x (a:=Dy.val m'*2^(e'-min e e').toNat) (b:=Dy.val m*2^(e-min e e').toNat) (by omega)
       exact Dy.IB (by omega)
     rw [k5,hcmp]
     by_cases c:e+(Dy.bl (Dy.val m):Int)<e'+(Dy.bl (Dy.val m'):Int)
     ·rw [if_pos c,decide_eq_true c]
      rcases sg with g|g<;>rw [g]<;>rfl
     ·rw [if_neg c,decide_eq_false c]
      rcases sg with g|g<;>rw [g]<;>rfl
    ·simp only [F1,decide_eq_true_eq] at h2
     refine ⟨⟨hd,hd',.inr (.inr ⟨by omega,by omega⟩)⟩,?_⟩
     rintro _ rfl _ rfl _ rfl
     have hn:=NQ hd'
     have u1:min e e'≤e:=by omega
     have u2:min e e'≤e':=by omega
     have key:Dy.F0 (Dy.C2 ⟨s,m,e⟩ (Dy.G9 ⟨s',m',e'⟩))=Dy.U2 (Dy.at_ ⟨s,m,e⟩ (min e e')+ -Dy.at_ ⟨s',m',e'⟩ (min e e')) 0:=by
      rw [Dy.x5 (u:=min e e') (by exact u1) (by exact u2),Dy.FX]
      exact Dy.B5w _ _
     have fin:Dy.Y1 ⟨s,m,e⟩ ⟨s',m',e'⟩=Dy.U2 (Dy.at_ ⟨s,m,e⟩ (min e e')) (Dy.at_ ⟨s',m',e'⟩ (min e e')):=Dy.A7p u1 u2
     have:=(C5a (Dy.at_ ⟨s,m,e⟩ (min e e')) (Dy.at_ ⟨s',m',e'⟩ (min e e')) 0).2.2.2.2
     rw [fin,←this,←key]
 ·cases h
theorem C9g:G6 Tryz.prog Inv (look D40):=A3 B4x B46
end Go.AI



namespace Go.AI
open Dy IntKind
end Go.AI









namespace Go.AI
open Go Go.RowKit Go.Proofs
set_option linter.unusedVariables false
def D41:List (Nat×(List AV→Option Spec)):=D40
theorem C9h:G6 Tryz.prog Inv (look D41):=C9g
end Go.AI

namespace Go.Dy
def N3 (L:List Nat) (lo n:Nat):Nat:=val ((L.drop lo).take n)
def R3 (L:List Nat) (lo:Nat) (w:List Nat):List Nat:=L.take lo++w++L.drop (lo+w.length)
def gl (v1 v2 u2:Nat):Nat→Nat→Nat→Nat×Nat
 |0,g,l=>(g,l)
 |f+1,g,l=>if 4294967296≤g∨l*4294967296+u2<g*v2 then (if 4294967296≤l+v1 then (g-1,l+v1) else gl v1 v2 u2 f (g-1) (l+v1)) else (g,l)
end Go.Dy
namespace Go.AI
open Go Go.RowKit Go.Proofs
set_option linter.unusedVariables false
def C1t:List AV→Option Spec
 |[.handv 152 L none 0 len]=>some ⟨some (0<L.length∧len=L.length),.boxv [.dig [] L,.addr 0 (Dy.dg (Dy.val L)).length]⟩
 |x=>A24 x
def D5t:List AV→Option Spec
 |[.dig [1] a,.num .i64 n]=>some ⟨some (a≠[]∧0≤n∧n≤33554432∧a.length≤1048576),.grown 152 (Dy.dg (Dy.val a*2^n.toNat))⟩
 |_=>none
def D0w:List AV→Option Spec
 |[.handv 152 L none lo len,.dig [2] v]=>some ⟨some (0<L.length∧L.length≤4194304∧2≤v.length∧len=v.length+1∧lo+len≤L.length∧2147483648≤v.getD (v.length-1) 0∧Dy.N3 L lo len<4294967296*Dy.val v),
   .boxv [.dig [] (Dy.R3 L lo (Dy.dgN len (Dy.N3 L lo len%Dy.val v))),.num .u32 (Dy.N3 L lo len/Dy.val v:Nat)]⟩
 |_=>none
def D0o:List AV→Option Spec
 |[.dig [1] a,.dig [2] b]=>some ⟨some (Dy.dg (Dy.val a)=a∧Dy.dg (Dy.val b)=b∧2≤b.length∧b.length≤a.length∧a.length≤1048576),.tup [.dig [0] (Dy.dg (Dy.val a/Dy.val b)),.dig [0] (Dy.dg (Dy.val a%Dy.val b))]⟩
 |_=>none
def D1m:List (Nat×(List AV→Option Spec)):=(172,C1t)::AF
def YK:List (Nat×(List AV→Option Spec)):=AF
def B6a:List (Nat×(List AV→Option Spec)):=(217,D0w)::(182,D5t)::B0k
end Go.AI

namespace Go.AI
open Dy IntKind
open Go Go.RowKit Go.Proofs
set_option linter.unusedVariables false
set_option maxRecDepth 100000
set_option maxHeartbeats 0
def D50:List AV→Option LR
 |[.dig [1,2,3] a,.num .i64 s,.grown 152 v,.grown 152 u]=>
 some (.need (a.length≤1048576∧u.length≤1048577) (.done (.exit 0) [.dig [1,2,3] a,.num .i64 s,.grown 152 v,.grown 152 (u++B2 (a.length+1-u.length) 0)]))
 |_=>none
def A8d:List (Nat×Keep):=[(0,.same),(6,.same),(7,.same),(8,.same)]
def D51:List AV→Option LR
 |[.num .i64 s,.grown 152 v,.grown 152 u,.num .i64 n,.grown 152 q,.num .i64 j]=>
 some (.need (Dy.D1 u∧Dy.D1 v∧2≤v.length∧n=v.length∧u.length=q.length+v.length∧u.length≤1048577∧q=B2 q.length 0∧j=q.length-1∧2147483648≤v.getD (v.length-1) 0∧Dy.val u<Dy.val v*2^(32*q.length))
 (.done (.exit 2) [.num .i64 s,.grown 152 v,.grown 152 (Dy.dgN u.length (Dy.val u%Dy.val v)),.num .i64 n,.grown 152 (Dy.dgN q.length (Dy.val u/Dy.val v)),.num .i64 (-1)]))
 |_=>none
def A8e:List (Nat×Keep):=[(6,.same),(7,.same),(8,.same),(9,.same),(10,.same),(11,.same)]
def IH:=lam [(4,.spec A8d D50),(9,.spec A8e D51),(1000012,.unroll 0)]
theorem D3r (a:List Nat) (b:List Nat) (Q:AV→Prop):(evF Tryz.prog (look B6a) IH false Tryz.f206 [.dig [1] a,.dig [2] b] Q)=(((0:Int)≤i64.wrap ((↑b.length:Int)-1)∧i64.wrap ((↑b.length:Int)-1)<(↑b.length:Int))∧(b≠[]∧(0:Int)≤32-(↑(D6 (↑(b.getD (i64.wrap ((↑b.length:Int)-1)).toNat (0:Nat)):Int).toNat):Int)∧(32:Int)-(↑(D6 (↑(b.getD (i64.wrap ((↑b.length:Int)-1)).toNat (0:Nat)):Int).toNat):Int)≤33554432∧b.length≤1048576)∧(a≠[]∧(0:Int)≤32-(↑(D6 (↑(b.getD (i64.wrap ((↑b.length:Int)-1)).toNat (0:Nat)):Int).toNat):Int)∧(32:Int)-(↑(D6 (↑(b.getD (i64.wrap ((↑b.length:Int)-1)).toNat (0:Nat)):Int).toNat):Int)≤33554432∧a.length≤1048576)∧(a.length≤1048576∧(dg (val a*2^((32:Int)-(↑(D6 (↑(b.getD (i64.wrap ((↑b.length:Int)-1)).toNat (0:Nat)):Int).toNat):Int)).toNat)).length≤1048577)∧((0:Int)≤i64.wrap ((↑(dg (val a*2^((32:Int)-(↑(D6 (↑(b.getD (i64.wrap ((↑b.length:Int)-1)).toNat (0:Nat)):Int).toNat):Int)).toNat)++B2 (a.length+1-(dg (val a*2^((32:Int)-(↑(D6 (↑(b.getD (i64.wrap ((↑b.length:Int)-1)).toNat (0:Nat)):Int).toNat):Int)).toNat)).length) (0:Nat)).length:Int)-(↑(dg (val b*2^((32:Int)-(↑(D6 (↑(b.getD (i64.wrap ((↑b.length:Int)-1)).toNat (0:Nat)):Int).toNat):Int)).toNat)).length:Int))∧i64.wrap ((↑(dg (val a*2^((32:Int)-(↑(D6 (↑(b.getD (i64.wrap ((↑b.length:Int)-1)).toNat (0:Nat)):Int).toNat):Int)).toNat)++B2 (a.length+1-(dg (val a*2^((32:Int)-(↑(D6 (↑(b.getD (i64.wrap ((↑b.length:Int)-1)).toNat (0:Nat)):Int).toNat):Int)).toNat)).length) (0:Nat)).length:Int)-(↑(dg (val b*2^((32:Int)-(↑(D6 (↑(b.getD (i64.wrap ((↑b.length:Int)-1)).toNat (0:Nat)):Int).toNat):Int)).toNat)).length:Int))≤i64.wrap ((↑(dg (val a*2^((32:Int)-(↑(D6 (↑(b.getD (i64.wrap ((↑b.length:Int)-1)).toNat (0:Nat)):Int).toNat):Int)).toNat)++B2 (a.length+1-(dg (val a*2^((32:Int)-(↑(D6 (↑(b.getD (i64.wrap ((↑b.length:Int)-1)).toNat (0:Nat)):Int).toNat):Int)).toNat)).length) (0:Nat)).length:Int)-(↑(dg (val b*2^((32:Int)-(↑(D6 (↑(b.getD (i64.wrap ((↑b.length:Int)-1)).toNat (0:Nat)):Int).toNat):Int)).toNat)).length:Int))∧i64.wrap ((↑(dg (val a*2^((32:Int)-(↑(D6 (↑(b.getD (i64.wrap ((↑b.length:Int)-1)).toNat (0:Nat)):Int).toNat):Int)).toNat)++B2 (a.length+1-(dg (val a*2^((32:Int)-(↑(D6 (↑(b.getD (i64.wrap ((↑b.length:Int)-1)).toNat (0:Nat)):Int).toNat):Int)).toNat)).length) (0:Nat)).length:Int)-(↑(dg (val b*2^((32:Int)-(↑(D6 (↑(b.getD (i64.wrap ((↑b.length:Int)-1)).toNat (0:Nat)):Int).toNat):Int)).toNat)).length:Int))≤2^(40:Nat))∧(D1 (dg (val a*2^((32:Int)-(↑(D6 (↑(b.getD (i64.wrap ((↑b.length:Int)-1)).toNat (0:Nat)):Int).toNat):Int)).toNat)++B2 (a.length+1-(dg (val a*2^((32:Int)-(↑(D6 (↑(b.getD (i64.wrap ((↑b.length:Int)-1)).toNat (0:Nat)):Int).toNat):Int)).toNat)).length) (0:Nat))∧D1 (dg (val b*2^((32:Int)-(↑(D6 (↑(b.getD (i64.wrap ((↑b.length:Int)-1)).toNat (0:Nat)):Int).toNat):Int)).toNat))∧(2:Nat)≤(dg (val b*2^((32:Int)-(↑(D6 (↑(b.getD (i64.wrap ((↑b.length:Int)-1)).toNat (0:Nat)):Int).toNat):Int)).toNat)).length∧(↑(dg (val b*2^((32:Int)-(↑(D6 (↑(b.getD (i64.wrap ((↑b.length:Int)-1)).toNat (0:Nat)):Int).toNat):Int)).toNat)).length:Int)=(↑(dg (val b*2^((32:Int)-(↑(D6 (↑(b.getD (i64.wrap ((↑b.length:Int)-1)).toNat (0:Nat)):Int).toNat):Int)).toNat)).length:Int)∧(dg (val a*2^((32:Int)-(↑(D6 (↑(b.getD (i64.wrap ((↑b.length:Int)-1)).toNat (0:Nat)):Int).toNat):Int)).toNat)++B2 (a.length+1-(dg (val a*2^((32:Int)-(↑(D6 (↑(b.getD (i64.wrap ((↑b.length:Int)-1)).toNat (0:Nat)):Int).toNat):Int)).toNat)).length) (0:Nat)).length=(B2 (i64.wrap ((↑(dg (val a*2^((32:Int)-(↑(D6 (↑(b.getD (i64.wrap ((↑b.length:Int)-1)).toNat (0:Nat)):Int).toNat):Int)).toNat)++B2 (a.length+1-(dg (val a*2^((32:Int)-(↑(D6 (↑(b.getD (i64.wrap ((↑b.length:Int)-1)).toNat (0:Nat)):Int).toNat):Int)).toNat)).length) (0:Nat)).length:Int)-(↑(dg (val b*2^((32:Int)-(↑(D6 (↑(b.getD (i64.wrap ((↑b.length:Int)-1)).toNat (0:Nat)):Int).toNat):Int)).toNat)).length:Int))).toNat (0:Nat)).length+(dg (val b*2^((32:Int)-(↑(D6 (↑(b.getD (i64.wrap ((↑b.length:Int)-1)).toNat (0:Nat)):Int).toNat):Int)).toNat)).length∧(dg (val a*2^((32:Int)-(↑(D6 (↑(b.getD (i64.wrap ((↑b.length:Int)-1)).toNat (0:Nat)):Int).toNat):Int)).toNat)++B2 (a.length+1-(dg (val a*2^((32:Int)-(↑(D6 (↑(b.getD (i64.wrap ((↑b.length:Int)-1)).toNat (0:Nat)):Int).toNat):Int)).toNat)).length) (0:Nat)).length≤1048577∧B2 (i64.wrap ((↑(dg (val a*2^((32:Int)-(↑(D6 (↑(b.getD (i64.wrap ((↑b.length:Int)-1)).toNat (0:Nat)):Int).toNat):Int)).toNat)++B2 (a.length+1-(dg (val a*2^((32:Int)-(↑(D6 (↑(b.getD (i64.wrap ((↑b.length:Int)-1)).toNat (0:Nat)):Int).toNat):Int)).toNat)).length) (0:Nat)).length:Int)-(↑(dg (val b*2^((32:Int)-(↑(D6 (↑(b.getD (i64.wrap ((↑b.length:Int)-1)).toNat (0:Nat)):Int).toNat):Int)).toNat)).length:Int))).toNat (0:Nat)=B2 (B2 (i64.wrap ((↑(dg (val a*2^((32:Int)-(↑(D6 (↑(b.getD (i64.wrap ((↑b.length:Int)-1)).toNat (0:Nat)):Int).toNat):Int)).toNat)++B2 (a.length+1-(dg (val a*2^((32:Int)-(↑(D6 (↑(b.getD (i64.wrap ((↑b.length:Int)-1)).toNat (0:Nat)):Int).toNat):Int)).toNat)).length) (0:Nat)).length:Int)-(↑(dg (val b*2^((32:Int)-(↑(D6 (↑(b.getD (i64.wrap ((↑b.length:Int)-1)).toNat (0:Nat)):Int).toNat):Int)).toNat)).length:Int))).toNat (0:Nat)).length (0:Nat)∧i64.wrap ((↑(B2 (i64.wrap ((↑(dg (val a*2^((32:Int)-(↑(D6 (↑(b.getD (i64.wrap ((↑b.length:Int)-1)).toNat (0:Nat)):Int).toNat):Int)).toNat)++B2 (a.length+1-(dg (val a*2^((32:Int)-(↑(D6 (↑(b.getD (i64.wrap ((↑b.length:Int)-1)).toNat (0:Nat)):Int).toNat):Int)).toNat)).length) (0:Nat)).length:Int)-(↑(dg (val b*2^((32:Int)-(↑(D6 (↑(b.getD (i64.wrap ((↑b.length:Int)-1)).toNat (0:Nat)):Int).toNat):Int)).toNat)).length:Int))).toNat (0:Nat)).length:Int)-1)=(↑(B2 (i64.wrap ((↑(dg (val a*2^((32:Int)-(↑(D6 (↑(b.getD (i64.wrap ((↑b.length:Int)-1)).toNat (0:Nat)):Int).toNat):Int)).toNat)++B2 (a.length+1-(dg (val a*2^((32:Int)-(↑(D6 (↑(b.getD (i64.wrap ((↑b.length:Int)-1)).toNat (0:Nat)):Int).toNat):Int)).toNat)).length) (0:Nat)).length:Int)-(↑(dg (val b*2^((32:Int)-(↑(D6 (↑(b.getD (i64.wrap ((↑b.length:Int)-1)).toNat (0:Nat)):Int).toNat):Int)).toNat)).length:Int))).toNat (0:Nat)).length:Int)-1∧(2147483648:Nat)≤(dg (val b*2^((32:Int)-(↑(D6 (↑(b.getD (i64.wrap ((↑b.length:Int)-1)).toNat (0:Nat)):Int).toNat):Int)).toNat)).getD ((dg (val b*2^((32:Int)-(↑(D6 (↑(b.getD (i64.wrap ((↑b.length:Int)-1)).toNat (0:Nat)):Int).toNat):Int)).toNat)).length-1) (0:Nat)∧val (dg (val a*2^((32:Int)-(↑(D6 (↑(b.getD (i64.wrap ((↑b.length:Int)-1)).toNat (0:Nat)):Int).toNat):Int)).toNat)++B2 (a.length+1-(dg (val a*2^((32:Int)-(↑(D6 (↑(b.getD (i64.wrap ((↑b.length:Int)-1)).toNat (0:Nat)):Int).toNat):Int)).toNat)).length) (0:Nat))<val (dg (val b*2^((32:Int)-(↑(D6 (↑(b.getD (i64.wrap ((↑b.length:Int)-1)).toNat (0:Nat)):Int).toNat):Int)).toNat))*2^((32:Nat)*(B2 (i64.wrap ((↑(dg (val a*2^((32:Int)-(↑(D6 (↑(b.getD (i64.wrap ((↑b.length:Int)-1)).toNat (0:Nat)):Int).toNat):Int)).toNat)++B2 (a.length+1-(dg (val a*2^((32:Int)-(↑(D6 (↑(b.getD (i64.wrap ((↑b.length:Int)-1)).toNat (0:Nat)):Int).toNat):Int)).toNat)).length) (0:Nat)).length:Int)-(↑(dg (val b*2^((32:Int)-(↑(D6 (↑(b.getD (i64.wrap ((↑b.length:Int)-1)).toNat (0:Nat)):Int).toNat):Int)).toNat)).length:Int))).toNat (0:Nat)).length))∧((0:Int)≤(↑(dg (val b*2^((32:Int)-(↑(D6 (↑(b.getD (i64.wrap ((↑b.length:Int)-1)).toNat (0:Nat)):Int).toNat):Int)).toNat)).length:Int)∧(↑(dg (val b*2^((32:Int)-(↑(D6 (↑(b.getD (i64.wrap ((↑b.length:Int)-1)).toNat (0:Nat)):Int).toNat):Int)).toNat)).length:Int)≤(↑(dgN (dg (val a*2^((32:Int)-(↑(D6 (↑(b.getD (i64.wrap ((↑b.length:Int)-1)).toNat (0:Nat)):Int).toNat):Int)).toNat)++B2 (a.length+1-(dg (val a*2^((32:Int)-(↑(D6 (↑(b.getD (i64.wrap ((↑b.length:Int)-1)).toNat (0:Nat)):Int).toNat):Int)).toNat)).length) (0:Nat)).length (val (dg (val a*2^((32:Int)-(↑(D6 (↑(b.getD (i64.wrap ((↑b.length:Int)-1)).toNat (0:Nat)):Int).toNat):Int)).toNat)++B2 (a.length+1-(dg (val a*2^((32:Int)-(↑(D6 (↑(b.getD (i64.wrap ((↑b.length:Int)-1)).toNat (0:Nat)):Int).toNat):Int)).toNat)).length) (0:Nat))%val (dg (val b*2^((32:Int)-(↑(D6 (↑(b.getD (i64.wrap ((↑b.length:Int)-1)).toNat (0:Nat)):Int).toNat):Int)).toNat)))).length:Int))∧((0:Int)≤32-(↑(D6 (↑(b.getD (i64.wrap ((↑b.length:Int)-1)).toNat (0:Nat)):Int).toNat):Int)∧(dg (val (JK (↑(dg (val b*2^((32:Int)-(↑(D6 (↑(b.getD (i64.wrap ((↑b.length:Int)-1)).toNat (0:Nat)):Int).toNat):Int)).toNat)).length:Int).toNat (dgN (dg (val a*2^((32:Int)-(↑(D6 (↑(b.getD (i64.wrap ((↑b.length:Int)-1)).toNat (0:Nat)):Int).toNat):Int)).toNat)++B2 (a.length+1-(dg (val a*2^((32:Int)-(↑(D6 (↑(b.getD (i64.wrap ((↑b.length:Int)-1)).toNat (0:Nat)):Int).toNat):Int)).toNat)).length) (0:Nat)).length (val (dg (val a*2^((32:Int)-(↑(D6 (↑(b.getD (i64.wrap ((↑b.length:Int)-1)).toNat (0:Nat)):Int).toNat):Int)).toNat)++B2 (a.length+1-(dg (val a*2^((32:Int)-(↑(D6 (↑(b.getD (i64.wrap ((↑b.length:Int)-1)).toNat (0:Nat)):Int).toNat):Int)).toNat)).length) (0:Nat))%val (dg (val b*2^((32:Int)-(↑(D6 (↑(b.getD (i64.wrap ((↑b.length:Int)-1)).toNat (0:Nat)):Int).toNat):Int)).toNat))))))).length≤1048576)∧Q (.tup [.dig [0] (dg (val (dgN (B2 (i64.wrap ((↑(dg (val a*2^((32:Int)-(↑(D6 (↑(b.getD (i64.wrap ((↑b.length:Int)-1)).toNat (0:Nat)):Int).toNat):Int)).toNat)++B2 (a.length+1-(dg (val a*2^((32:Int)-(↑(D6 (↑(b.getD (i64.wrap ((↑b.length:Int)-1)).toNat (0:Nat)):Int).toNat):Int)).toNat)).length) (0:Nat)).length:Int)-(↑(dg (val b*2^((32:Int)-(↑(D6 (↑(b.getD (i64.wrap ((↑b.length:Int)-1)).toNat (0:Nat)):Int).toNat):Int)).toNat)).length:Int))).toNat (0:Nat)).length (val (dg (val a*2^((32:Int)-(↑(D6 (↑(b.getD (i64.wrap ((↑b.length:Int)-1)).toNat (0:Nat)):Int).toNat):Int)).toNat)++B2 (a.length+1-(dg (val a*2^((32:Int)-(↑(D6 (↑(b.getD (i64.wrap ((↑b.length:Int)-1)).toNat (0:Nat)):Int).toNat):Int)).toNat)).length) (0:Nat))/val (dg (val b*2^((32:Int)-(↑(D6 (↑(b.getD (i64.wrap ((↑b.length:Int)-1)).toNat (0:Nat)):Int).toNat):Int)).toNat)))))),.dig [0] (dg (val (dg (val (dg (val (JK (↑(dg (val b*2^((32:Int)-(↑(D6 (↑(b.getD (i64.wrap ((↑b.length:Int)-1)).toNat (0:Nat)):Int).toNat):Int)).toNat)).length:Int).toNat (dgN (dg (val a*2^((32:Int)-(↑(D6 (↑(b.getD (i64.wrap ((↑b.length:Int)-1)).toNat (0:Nat)):Int).toNat):Int)).toNat)++B2 (a.length+1-(dg (val a*2^((32:Int)-(↑(D6 (↑(b.getD (i64.wrap ((↑b.length:Int)-1)).toNat (0:Nat)):Int).toNat):Int)).toNat)).length) (0:Nat)).length (val (dg (val a*2^((32:Int)-(↑(D6 (↑(b.getD (i64.wrap ((↑b.length:Int)-1)).toNat (0:Nat)):Int).toNat):Int)).toNat)++B2 (a.length+1-(dg (val a*2^((32:Int)-(↑(D6 (↑(b.getD (i64.wrap ((↑b.length:Int)-1)).toNat (0:Nat)):Int).toNat):Int)).toNat)).length) (0:Nat))%val (dg (val b*2^((32:Int)-(↑(D6 (↑(b.getD (i64.wrap ((↑b.length:Int)-1)).toNat (0:Nat)):Int).toNat):Int)).toNat)))))))/2^((32:Int)-(↑(D6 (↑(b.getD (i64.wrap ((↑b.length:Int)-1)).toNat (0:Nat)):Int).toNat):Int)).toNat))))])):=by kernel_rfl
theorem A78 (a:List Nat) (v:List Nat) (u:List Nat) (s:Int) (K:Exit→List AV→Prop):(M7 Tryz.prog (look B6a) IH (2:Nat) (68:Nat) A8d (D8 Tryz.f206 (0:Nat)) [.dig [1,2,3] a,.num .i64 s,.grown (152:TypeId) v,.grown (152:TypeId) u] K)=(bif decide ((↑u.length:Int)≤(↑a.length:Int)) then ((0:Nat)≤1∧u.length+1≤1099511627776)∧K Exit.normal [.dig [1,2,3] a,.num .i64 s,.grown (152:Nat) v,.grown (152:Nat) (u++[0])] else K (Exit.exit (0:Nat)) [.dig [1,2,3] a,.num .i64 s,.grown (152:Nat) v,.grown (152:Nat) u]):=by kernel_rfl
theorem A79 (v:List Nat) (u:List Nat) (q:List Nat) (s:Int) (n:Int) (j:Int) (K:Exit→List AV→Prop):(M7 Tryz.prog (look B6a) IH (2:Nat) (68:Nat) A8e (D8 Tryz.f206 (1:Nat)) [.num .i64 s,.grown (152:TypeId) v,.grown (152:TypeId) u,.num .i64 n,.grown (152:TypeId) q,.num .i64 j] K)=(bif decide (j≥0) then (0≤j∧j<i64.wrap (i64.wrap (j+n)+1)∧i64.wrap (i64.wrap (j+n)+1)≤(↑u.length:Int))∧C6 (Spec.mk (some ((0:Nat)<u.length∧u.length≤4194304∧(2:Nat)≤v.length∧(i64.wrap (i64.wrap (j+n)+1)).toNat-j.toNat=v.length+1∧j.toNat+((i64.wrap (i64.wrap (j+n)+1)).toNat-j.toNat)≤u.length∧(2147483648:Nat)≤v.getD (v.length-1) (0:Nat)∧N3 u j.toNat ((i64.wrap (i64.wrap (j+n)+1)).toNat-j.toNat)<4294967296*val v)) (.boxv [.dig [] (R3 u j.toNat (dgN ((i64.wrap (i64.wrap (j+n)+1)).toNat-j.toNat) (N3 u j.toNat ((i64.wrap (i64.wrap (j+n)+1)).toNat-j.toNat)%val v))),.num .u32 (↑(N3 u j.toNat ((i64.wrap (i64.wrap (j+n)+1)).toNat-j.toNat)/val v):Int)])).pre ((0:Nat)<u.length)∧(0≤j∧j<(↑q.length:Int))∧j.toNat<q.length∧K Exit.normal [.num .i64 s,.grown (152:Nat) v,.grown (152:Nat) (R3 u j.toNat (dgN ((i64.wrap (i64.wrap (j+n)+1)).toNat-j.toNat) (N3 u j.toNat ((i64.wrap (i64.wrap (j+n)+1)).toNat-j.toNat)%val v))),.num .i64 n,.grown (152:Nat) (q.set j.toNat (↑(N3 u j.toNat ((i64.wrap (i64.wrap (j+n)+1)).toNat-j.toNat)/val v):Int).toNat),.num .i64 (i64.wrap (j-1))] else K (Exit.exit (2:Nat)) [.num .i64 s,.grown (152:Nat) v,.grown (152:Nat) u,.num .i64 n,.grown (152:Nat) q,.num .i64 j]):=by kernel_rfl
end Go.AI

namespace Go.AI
open Dy IntKind
open Go Go.RowKit Go.Proofs
set_option linter.unusedVariables false
set_option maxRecDepth 100000
set_option maxHeartbeats 0
def A91:List AV→Option LR
 |[.handv 152 L (some (G,cap)) 0 len]=>some (.need (Dy.okl L∧len≤L.length) (.done (.exit 0) [.handv 152 L (some (G,cap)) 0 (Dy.dg (Dy.N3 L 0 len)).length]))
 |_=>none
def TG:=lam [(1,.spec [(0,.same)] A91)]
theorem D20 (L:List Nat) (g:Nat) (cap:Nat) (len:Nat) (Q:AV→Prop):(evH Tryz.prog (look B0j) TG Tryz.f172 (152:TypeId) L g cap (0:Nat) len [] Q)=(∀(l1:List Nat),l1=L→(okl l1∧len≤l1.length)∧∀(l2:List Nat),l2=l1→g=g∧(152:Nat)=nat_lit 152∧l2.length=L.length∧g=g∧cap=cap∧(0:Nat)=nat_lit 0∧(dg (N3 l1 (0:Nat) len)).length≤len∧Q (.boxv [.dig [] l2,.addr (0:Nat) (dg (N3 l1 (0:Nat) len)).length])):=by kernel_rfl
theorem RV (L:List Nat) (g:Nat) (cap:Nat) (len:Nat) (K:Exit→List AV→Prop):(M7 Tryz.prog (look B0j) TG (1:Nat) (21:Nat) [((0:Nat),Keep.same)] (D8 Tryz.f172 (0:Nat)) [AV.handv (152:TypeId) L (some (g,cap)) (0:Nat) len] K)=(bif decide ((↑len:Int)>0) then ((0:Int)≤i64.wrap ((↑len:Int)-1)∧i64.wrap ((↑len:Int)-1)<(↑len:Int))∧(0:Nat)+(i64.wrap ((↑len:Int)-1)).toNat<L.length∧bif decide ((↑(L.getD ((0:Nat)+(i64.wrap ((↑len:Int)-1)).toNat) (0:Nat)):Int)=0) then ((0:Int)≤i64.wrap ((↑len:Int)-1)∧i64.wrap ((↑len:Int)-1)≤(↑len:Int))∧K Exit.normal [AV.handv (152:Nat) L (some (g,cap)) (0:Nat) (i64.wrap ((↑len:Int)-1)).toNat] else K (Exit.exit (0:Nat)) [AV.handv (152:Nat) L (some (g,cap)) (0:Nat) len] else K (Exit.exit (0:Nat)) [AV.handv (152:Nat) L (some (g,cap)) (0:Nat) len]):=by kernel_rfl
theorem D60 (a:List Nat) (n:Int) (Q:AV→Prop):(evO Tryz.prog (look D1m) QE Tryz.f182 [.dig [1] a,.num .i64 n] Q)=(bif decide ((↑a.length:Int)=0) then False else ((0:Int)≤i64.wrap (n.tdiv (32:Int))∧i64.wrap (n.tdiv (32:Int))≤i64.wrap (i64.wrap (i64.wrap (n.tdiv (32:Int))+(↑a.length:Int))+1)∧i64.wrap (i64.wrap (i64.wrap (n.tdiv (32:Int))+(↑a.length:Int))+1)≤2^(40:Nat))∧(okl a∧a.length≤1048576∧0≤n.tmod (32:Int)∧n.tmod (32:Int)<32∧(B2 (i64.wrap (n.tdiv (32:Int))).toNat (0:Nat)).length≤1048576∧(0:Int)=0∧(↑a.length:Int)=(↑a.length:Int)∧(0:Int)=0)∧((0:Nat)≤[(↑(val a*2^(n.tmod (32:Int)).toNat/2^((32:Nat)*a.length)):Int).toNat].length∧(B2 (i64.wrap (n.tdiv (32:Int))).toNat (0:Nat)++dgN a.length (val a*2^(n.tmod (32:Int)).toNat)).length+[(↑(val a*2^(n.tmod (32:Int)).toNat/2^((32:Nat)*a.length)):Int).toNat].length≤1099511627776)∧C6 (Spec.mk (some ((0:Nat)<(B2 (i64.wrap (n.tdiv (32:Int))).toNat (0:Nat)++dgN a.length (val a*2^(n.tmod (32:Int)).toNat)++[(↑(val a*2^(n.tmod (32:Int)).toNat/2^((32:Nat)*a.length)):Int).toNat]).length∧(B2 (i64.wrap (n.tdiv (32:Int))).toNat (0:Nat)++dgN a.length (val a*2^(n.tmod (32:Int)).toNat)++[(↑(val a*2^(n.tmod (32:Int)).toNat/2^((32:Nat)*a.length)):Int).toNat]).length=(B2 (i64.wrap (n.tdiv (32:Int))).toNat (0:Nat)++dgN a.length (val a*2^(n.tmod (32:Int)).toNat)++[(↑(val a*2^(n.tmod (32:Int)).toNat/2^((32:Nat)*a.length)):Int).toNat]).length)) (.boxv [.dig [] (B2 (i64.wrap (n.tdiv (32:Int))).toNat (0:Nat)++dgN a.length (val a*2^(n.tmod (32:Int)).toNat)++[(↑(val a*2^(n.tmod (32:Int)).toNat/2^((32:Nat)*a.length)):Int).toNat]),.addr (0:Nat) (dg (val (B2 (i64.wrap (n.tdiv (32:Int))).toNat (0:Nat)++dgN a.length (val a*2^(n.tmod (32:Int)).toNat)++[(↑(val a*2^(n.tmod (32:Int)).toNat/2^((32:Nat)*a.length)):Int).toNat]))).length])).pre ((0:Nat)<(B2 (i64.wrap (n.tdiv (32:Int))).toNat (0:Nat)++dgN a.length (val a*2^(n.tmod (32:Int)).toNat)++[(↑(val a*2^(n.tmod (32:Int)).toNat/2^((32:Nat)*a.length)):Int).toNat]).length)∧Q (.grown (152:Nat) (JK (dg (val (B2 (i64.wrap (n.tdiv (32:Int))).toNat (0:Nat)++dgN a.length (val a*2^(n.tmod (32:Int)).toNat)++[(↑(val a*2^(n.tmod (32:Int)).toNat/2^((32:Nat)*a.length)):Int).toNat]))).length (B2 (i64.wrap (n.tdiv (32:Int))).toNat (0:Nat)++dgN a.length (val a*2^(n.tmod (32:Int)).toNat)++[(↑(val a*2^(n.tmod (32:Int)).toNat/2^((32:Nat)*a.length)):Int).toNat])))):=by kernel_rfl
theorem B7z (a:List Nat) (o:List Nat) (s:Int) (c:Int) (k:Int) (i:Int) (K:Exit→List AV→Prop):(M7 Tryz.prog (look D1m) QE (2:Nat) (50:Nat) RG (D8 Tryz.f182 (0:Nat)) [.grown (152:TypeId) o,.num .i64 s,.num .u32 c,.dig [1,2,3] a,.num .i64 k,.num .i64 i] K)=(bif decide (i<k) then (0≤i∧i<(↑a.length:Int))∧0≤s∧((0:Nat)≤[(u32.wrap (↑(A7 (32:Nat) (u32.wrap ((↑(a.getD i.toNat (0:Nat)):Int)*2^min s.toNat (32:Nat)))|||A7 (32:Nat) c).toNat:Int)).toNat].length∧o.length+[(u32.wrap (↑(A7 (32:Nat) (u32.wrap ((↑(a.getD i.toNat (0:Nat)):Int)*2^min s.toNat (32:Nat)))|||A7 (32:Nat) c).toNat:Int)).toNat].length≤1099511627776)∧(0:Int)≤i64.wrap ((32:Int)-s)∧K Exit.normal [.grown (152:Nat) (o++[(u32.wrap (↑(A7 (32:Nat) (u32.wrap ((↑(a.getD i.toNat (0:Nat)):Int)*2^min s.toNat (32:Nat)))|||A7 (32:Nat) c).toNat:Int)).toNat]),.num .i64 s,.num .u32 (u32.wrap ((u64.wrap (↑(a.getD i.toNat (0:Nat)):Int)).fdiv ((2:Int)^min (i64.wrap ((32:Int)-s)).toNat (64:Nat)))),.dig [1,2,3] a,.num .i64 k,.num .i64 (i64.wrap (i+1))] else K (Exit.exit (0:Nat)) [.grown (152:Nat) o,.num .i64 s,.num .u32 c,.dig [1,2,3] a,.num .i64 k,.num .i64 i]):=by kernel_rfl
def lsG:List AV→Option LR
 |[.handv 152 L (some (G,cap)) lo len,.dig [1,2,3] v,.num .i64 n,.num .u64 g,.num .u64 l]=>
 some (.need (L.length≤4194304∧Dy.D1 L∧Dy.D1 v∧n=v.length∧2≤v.length∧len=v.length+1∧lo+len≤L.length∧0≤g∧g<18446744073709551616∧0≤l∧l<4294967296)
 (.done (.exit 0) [.handv 152 L (some (G,cap)) lo len,.dig [1,2,3] v,.num .i64 n,
 .num .u64 ((Dy.gl (v.getD (v.length-1) 0) (v.getD (v.length-2) 0) (L.getD (lo+(v.length-2)) 0) g.toNat g.toNat l.toNat).1:Nat),
 .num .u64 ((Dy.gl (v.getD (v.length-1) 0) (v.getD (v.length-2) 0) (L.getD (lo+(v.length-2)) 0) g.toNat g.toNat l.toNat).2:Nat)]))
 |_=>none
def B2t:List (Nat×Keep):=[(0,.same),(1,.same),(5,.same),(7,.same),(8,.same)]
def lsM:List AV→Option LR
 |[.handv 152 L (some (G,cap)) lo len,.dig [1,2,3] v,.num .i64 n,.num .u64 g,.num .u32 bo,.num .u64 ca,.dig [1,2,3] v',.num .i64 k,.num .i64 i]=>
 some (.need (v'=v∧k=v.length∧i=0∧bo=0∧ca=0∧0≤g∧g<4294967296∧Dy.D1 v∧Dy.D1 L∧len=v.length+1∧lo+len≤L.length∧L.length≤4194304)
 (.done (.exit 2) [.handv 152 (Dy.R3 L lo (Dy.dgN v.length (Dy.N3 L lo v.length+2^(32*v.length)*(if Dy.N3 L lo v.length<g.toNat*Dy.val v%2^(32*v.length) then 1 else 0)-g.toNat*Dy.val v%2^(32*v.length)))) (some (G,cap)) lo len,
 .dig [1,2,3] v,.num .i64 n,.num .u64 g,.num .u32 ((if Dy.N3 L lo v.length<g.toNat*Dy.val v%2^(32*v.length) then 1 else 0:Nat):Int),.num .u64 (g.toNat*Dy.val v/2^(32*v.length):Nat),.dig [1,2,3] v,.num .i64 k,.num .i64 k]))
 |_=>none
def C48:List (Nat×Keep):=[(0,.same),(1,.same),(5,.same),(7,.same),(9,.same),(10,.same),(81,.same),(82,.same),(83,.same)]
def lsA:List AV→Option LR
 |[.handv 152 L (some (G,cap)) lo len,.num .i64 n,.num .u64 g,.num .u32 ov,.dig [1,2,3] v,.num .i64 k,.num .i64 i]=>
 some (.need (k=v.length∧i=0∧ov=0∧Dy.D1 v∧Dy.D1 L∧len=v.length+1∧lo+len≤L.length∧L.length≤4194304)
 (.done (.exit 4) [.handv 152 (Dy.R3 L lo (Dy.dgN v.length (Dy.N3 L lo v.length+Dy.val v))) (some (G,cap)) lo len,.num .i64 n,.num .u64 g,.num .u32 ((Dy.N3 L lo v.length+Dy.val v)/2^(32*v.length):Nat),.dig [1,2,3] v,.num .i64 k,.num .i64 k]))
 |_=>none
def C47:List (Nat×Keep):=[(0,.same),(5,.same),(7,.same),(13,.same),(129,.same),(130,.same),(131,.same)]
def BU:=lam [(4,.spec B2t lsG),(10,.spec C48 lsM),(21,.spec C47 lsA)]
theorem D3s (L:List Nat) (v:List Nat) (g:Nat) (cap:Nat) (lo:Nat) (len:Nat) (Q:AV→Prop):(evH Tryz.prog (look YK) BU Tryz.f217 (152:TypeId) L g cap lo len [.dig [2] v] Q)=(((0:Int)≤(↑v.length:Int)∧(↑v.length:Int)<(↑len:Int))∧lo+(↑v.length:Int).toNat<L.length∧((0:Int)≤i64.wrap ((↑v.length:Int)-1)∧i64.wrap ((↑v.length:Int)-1)<(↑len:Int))∧lo+(i64.wrap ((↑v.length:Int)-1)).toNat<L.length∧((0:Int)≤i64.wrap ((↑v.length:Int)-1)∧i64.wrap ((↑v.length:Int)-1)<(↑v.length:Int))∧u64.wrap (↑(v.getD (i64.wrap ((↑v.length:Int)-1)).toNat (0:Nat)):Int)≠0∧((0:Int)≤i64.wrap ((↑v.length:Int)-1)∧i64.wrap ((↑v.length:Int)-1)<(↑v.length:Int))∧u64.wrap (↑(v.getD (i64.wrap ((↑v.length:Int)-1)).toNat (0:Nat)):Int)≠0∧∀(l1:List Nat),l1=L→∀(l2:List Nat),l2=v→∀n3,n3=(↑v.length:Int)→∀n4,n4=u64.wrap ((u64.wrap (↑(A7 (64:Nat) (u64.wrap (u64.wrap (↑(L.getD (lo+(↑v.length:Int).toNat) (0:Nat)):Int)*2^(32:Nat)))|||A7 (64:Nat) (u64.wrap (↑(L.getD (lo+(i64.wrap ((↑v.length:Int)-1)).toNat) (0:Nat)):Int))).toNat:Int)).tdiv (u64.wrap (↑(v.getD (i64.wrap ((↑v.length:Int)-1)).toNat (0:Nat)):Int)))→∀n5,n5=(u64.wrap (↑(A7 (64:Nat) (u64.wrap (u64.wrap (↑(L.getD (lo+(↑v.length:Int).toNat) (0:Nat)):Int)*2^(32:Nat)))|||A7 (64:Nat) (u64.wrap (↑(L.getD (lo+(i64.wrap ((↑v.length:Int)-1)).toNat) (0:Nat)):Int))).toNat:Int)).tmod (u64.wrap (↑(v.getD (i64.wrap ((↑v.length:Int)-1)).toNat (0:Nat)):Int))→(l1.length≤4194304∧D1 l1∧D1 l2∧n3=(↑l2.length:Int)∧(2:Nat)≤l2.length∧len=l2.length+1∧lo+len≤l1.length∧0≤n4∧n4<18446744073709551616∧0≤n5∧n5<4294967296)∧∀(l6:List Nat),l6=l1→∀(l7:List Nat),l7=l2→∀n8,n8=n3→∀n9,n9=(↑(gl (l2.getD (l2.length-1) (0:Nat)) (l2.getD (l2.length-2) (0:Nat)) (l1.getD (lo+(l2.length-2)) (0:Nat)) n4.toNat n4.toNat n5.toNat).fst:Int)→∀n10,n10=(↑(gl (l2.getD (l2.length-1) (0:Nat)) (l2.getD (l2.length-2) (0:Nat)) (l1.getD (lo+(l2.length-2)) (0:Nat)) n4.toNat n4.toNat n5.toNat).snd:Int)→∀(l11:List Nat),l11=l6→∀(l12:List Nat),l12=l7→∀n13,n13=n8→∀n14,n14=n9→∀n15,n15=(0:Int)→∀n16,n16=(0:Int)→∀(l17:List Nat),l17=l7→∀n18,n18=(↑l7.length:Int)→∀n19,n19=(0:Int)→(l17=l12∧n18=(↑l12.length:Int)∧n19=0∧n15=0∧n16=0∧0≤n14∧n14<4294967296∧D1 l12∧D1 l11∧len=l12.length+1∧lo+len≤l11.length∧l11.length≤4194304)∧∀(l20:List Nat),l20=R3 l11 lo (dgN l12.length ((N3 l11 lo l12.length+2^((32:Nat)*l12.length)*if N3 l11 lo l12.length<n14.toNat*val l12%2^((32:Nat)*l12.length) then (1:Nat) else (0:Nat))-n14.toNat*val l12%2^((32:Nat)*l12.length)))→∀(l21:List Nat),l21=l12→∀n22,n22=n13→∀n23,n23=n14→∀n24,n24=(↑(if N3 l11 lo l12.length<n14.toNat*val l12%2^((32:Nat)*l12.length) then (1:Nat) else (0:Nat)):Int)→∀n25,n25=(↑(n14.toNat*val l12/2^((32:Nat)*l12.length)):Int)→∀(l26:List Nat),l26=l12→∀n27,n27=n18→∀n28,n28=n18→(0≤n22∧n22<(↑len:Int))∧lo+n22.toNat<l20.length∧n24≤1∧∀n29,n29=((↑(l20.getD (lo+n22.toNat) (0:Nat)):Int)-u32.wrap n25-n24)%4294967296→∀(n30:Int),(n30=if (↑(l20.getD (lo+n22.toNat) (0:Nat)):Int)<u32.wrap n25+n24 then (1:Int) else (0:Int))→(0≤n22∧n22<(↑len:Int))∧lo+n22.toNat<l20.length∧bif decide (n30=0) then g=g∧(152:Nat)=nat_lit 152∧(l20.set (lo+n22.toNat) n29.toNat).length=L.length∧Q (.boxv [.dig [] (l20.set (lo+n22.toNat) n29.toNat),.num .u32 (u32.wrap n23)]) else∀(l31:List Nat),l31=l20.set (lo+n22.toNat) n29.toNat→∀n32,n32=n22→∀n33,n33=n23→∀n34,n34=(0:Int)→∀(l35:List Nat),l35=l21→∀n36,n36=(↑l21.length:Int)→∀n37,n37=(0:Int)→(n36=(↑l35.length:Int)∧n37=0∧n34=0∧D1 l35∧D1 l31∧len=l35.length+1∧lo+len≤l31.length∧l31.length≤4194304)∧∀(l38:List Nat),l38=R3 l31 lo (dgN l35.length (N3 l31 lo l35.length+val l35))→∀n39,n39=n32→∀n40,n40=n33→∀n41,n41=(↑((N3 l31 lo l35.length+val l35)/2^((32:Nat)*l35.length)):Int)→∀(l42:List Nat),l42=l35→∀n43,n43=n36→∀n44,n44=n36→(0≤n39∧n39<(↑len:Int))∧lo+n39.toNat<l38.length∧(0≤n39∧n39<(↑len:Int))∧lo+n39.toNat<l38.length∧g=g∧(152:Nat)=nat_lit 152∧(l38.set (lo+n39.toNat) (u32.wrap ((↑(l38.getD (lo+n39.toNat) (0:Nat)):Int)+n41)).toNat).length=L.length∧Q (.boxv [.dig [] (l38.set (lo+n39.toNat) (u32.wrap ((↑(l38.getD (lo+n39.toNat) (0:Nat)):Int)+n41)).toNat),.num .u32 (u32.wrap (u64.wrap (n40-1)))])):=by kernel_rfl
theorem GO (L:List Nat) (v:List Nat) (G:Nat) (cap:Nat) (lo:Nat) (len:Nat) (n:Int) (g:Int) (l:Int) (K:Exit→List AV→Prop):(M7 Tryz.prog (look YK) BU (2:Nat) (160:Nat) B2t (D8 Tryz.f217 (0:Nat)) [AV.handv (152:TypeId) L (some (G,cap)) lo len,.dig [1,2,3] v,.num .i64 n,.num .u64 g,.num .u64 l] K)=(bif decide (g≥4294967296) then ((0:Int)≤i64.wrap (n-1)∧i64.wrap (n-1)<(↑v.length:Int))∧bif decide (u64.wrap (l+u64.wrap (↑(v.getD (i64.wrap (n-1)).toNat (0:Nat)):Int))≥4294967296) then K (Exit.exit (0:Nat)) [AV.handv (152:Nat) L (some (G,cap)) lo len,.dig [1,2,3] v,.num .i64 n,.num .u64 (u64.wrap (g-1)),.num .u64 (u64.wrap (l+u64.wrap (↑(v.getD (i64.wrap (n-1)).toNat (0:Nat)):Int)))] else K Exit.normal [AV.handv (152:Nat) L (some (G,cap)) lo len,.dig [1,2,3] v,.num .i64 n,.num .u64 (u64.wrap (g-1)),.num .u64 (u64.wrap (l+u64.wrap (↑(v.getD (i64.wrap (n-1)).toNat (0:Nat)):Int)))] else ((0:Int)≤i64.wrap (n-2)∧i64.wrap (n-2)<(↑v.length:Int))∧((0:Int)≤i64.wrap (n-2)∧i64.wrap (n-2)<(↑len:Int))∧lo+(i64.wrap (n-2)).toNat<L.length∧bif decide (u64.wrap (g*u64.wrap (↑(v.getD (i64.wrap (n-2)).toNat (0:Nat)):Int))>u64.wrap (↑(A7 (64:Nat) (u64.wrap (l*2^(32:Nat)))|||A7 (64:Nat) (u64.wrap (↑(L.getD (lo+(i64.wrap (n-2)).toNat) (0:Nat)):Int))).toNat:Int)) then ((0:Int)≤i64.wrap (n-1)∧i64.wrap (n-1)<(↑v.length:Int))∧bif decide (u64.wrap (l+u64.wrap (↑(v.getD (i64.wrap (n-1)).toNat (0:Nat)):Int))≥4294967296) then K (Exit.exit (0:Nat)) [AV.handv (152:Nat) L (some (G,cap)) lo len,.dig [1,2,3] v,.num .i64 n,.num .u64 (u64.wrap (g-1)),.num .u64 (u64.wrap (l+u64.wrap (↑(v.getD (i64.wrap (n-1)).toNat (0:Nat)):Int)))] else K Exit.normal [AV.handv (152:Nat) L (some (G,cap)) lo len,.dig [1,2,3] v,.num .i64 n,.num .u64 (u64.wrap (g-1)),.num .u64 (u64.wrap (l+u64.wrap (↑(v.getD (i64.wrap (n-1)).toNat (0:Nat)):Int)))] else K (Exit.exit (0:Nat)) [AV.handv (152:Nat) L (some (G,cap)) lo len,.dig [1,2,3] v,.num .i64 n,.num .u64 g,.num .u64 l]):=by kernel_rfl
theorem A7b (L:List Nat) (v:List Nat) (v':List Nat) (G:Nat) (cap:Nat) (lo:Nat) (len:Nat) (n:Int) (g:Int) (bo:Int) (ca:Int) (k:Int) (i:Int) (K:Exit→List AV→Prop):(M7 Tryz.prog (look YK) BU (2:Nat) (160:Nat) C48 (D8 Tryz.f217 (1:Nat)) [AV.handv (152:TypeId) L (some (G,cap)) lo len,.dig [1,2,3] v,.num .i64 n,.num .u64 g,.num .u32 bo,.num .u64 ca,.dig [1,2,3] v',.num .i64 k,.num .i64 i] K)=(bif decide (i<k) then (0≤i∧i<(↑v'.length:Int))∧(0≤i∧i<(↑len:Int))∧lo+i.toNat<L.length∧bo≤1∧∀n1,n1=((↑(L.getD (lo+i.toNat) (0:Nat)):Int)-u32.wrap (u64.wrap (ca+u64.wrap (g*u64.wrap (↑(v'.getD i.toNat (0:Nat)):Int))))-bo)%4294967296→∀(n2:Int),(n2=if (↑(L.getD (lo+i.toNat) (0:Nat)):Int)<u32.wrap (u64.wrap (ca+u64.wrap (g*u64.wrap (↑(v'.getD i.toNat (0:Nat)):Int))))+bo then (1:Int) else (0:Int))→(0≤i∧i<(↑len:Int))∧lo+i.toNat<L.length∧K Exit.normal [AV.handv (152:Nat) (L.set (lo+i.toNat) n1.toNat) (some (G,cap)) lo len,.dig [1,2,3] v,.num .i64 n,.num .u64 g,.num .u32 n2,.num .u64 ((u64.wrap (ca+u64.wrap (g*u64.wrap (↑(v'.getD i.toNat (0:Nat)):Int)))).fdiv ((2:Int)^(32:Nat))),.dig [1,2,3] v',.num .i64 k,.num .i64 (i64.wrap (i+1))] else K (Exit.exit (2:Nat)) [AV.handv (152:Nat) L (some (G,cap)) lo len,.dig [1,2,3] v,.num .i64 n,.num .u64 g,.num .u32 bo,.num .u64 ca,.dig [1,2,3] v',.num .i64 k,.num .i64 i]):=by kernel_rfl
theorem A7c (L:List Nat) (v:List Nat) (G:Nat) (cap:Nat) (lo:Nat) (len:Nat) (n:Int) (g:Int) (ov:Int) (k:Int) (i:Int) (K:Exit→List AV→Prop):(M7 Tryz.prog (look YK) BU (2:Nat) (160:Nat) C47 (D8 Tryz.f217 (2:Nat)) [AV.handv (152:TypeId) L (some (G,cap)) lo len,.num .i64 n,.num .u64 g,.num .u32 ov,.dig [1,2,3] v,.num .i64 k,.num .i64 i] K)=(bif decide (i<k) then (0≤i∧i<(↑v.length:Int))∧(0≤i∧i<(↑len:Int))∧lo+i.toNat<L.length∧∀n1,n1=((↑(L.getD (lo+i.toNat) (0:Nat)):Int)+(↑(v.getD i.toNat (0:Nat)):Int)+ov)%4294967296→∀n2,n2=((↑(L.getD (lo+i.toNat) (0:Nat)):Int)+(↑(v.getD i.toNat (0:Nat)):Int)+ov)/4294967296→(0≤i∧i<(↑len:Int))∧lo+i.toNat<L.length∧K Exit.normal [AV.handv (152:Nat) (L.set (lo+i.toNat) n1.toNat) (some (G,cap)) lo len,.num .i64 n,.num .u64 g,.num .u32 n2,.dig [1,2,3] v,.num .i64 k,.num .i64 (i64.wrap (i+1))] else K (Exit.exit (4:Nat)) [AV.handv (152:Nat) L (some (G,cap)) lo len,.num .i64 n,.num .u64 g,.num .u32 ov,.dig [1,2,3] v,.num .i64 k,.num .i64 i]):=by kernel_rfl
end Go.AI

namespace Go.Dy
theorem D3x {v1 v2 u2 top q:Nat} (hv2:v2<4294967296) (htop:top<v1*4294967296+4294967296)
  (hq:∀g l,g*v1+l=top→(4294967296≤g∨l*4294967296+u2<g*v2)→q<g):∀f g l,g≤f→g*v1+l=top→q≤g→
   (gl v1 v2 u2 f g l).1*v1+(gl v1 v2 u2 f g l).2=top∧q≤(gl v1 v2 u2 f g l).1∧(gl v1 v2 u2 f g l).1<4294967296∧(gl v1 v2 u2 f g l).1*v2≤(gl v1 v2 u2 f g l).2*4294967296+u2
 |0,g,l,hf,h,hqg=>by
  have:g=0:=by omega
  subst this
  exact ⟨h,hqg,by show 0<4294967296;omega,by simp [gl]⟩
 |f+1,g,l,hf,h,hqg=>by
  unfold gl
  by_cases c:4294967296≤g∨l*4294967296+u2<g*v2
  ·rw [if_pos c]
   have hlt:=hq g l h c
   have h':(g-1)*v1+(l+v1)=top:=by
    have:g=(g-1)+1:=by omega
    rw [this,H2] at h
    omega
   by_cases d:4294967296≤l+v1
   ·rw [if_pos d]
    have hg:g-1<4294967296:=by
     rcases L4 (g-1) 4294967296 with e|e
     ·exact e
     ·have:=C0 v1 e
      rw [B6 4294967296 v1] at this
      omega
    refine ⟨h',by omega,hg,?_⟩
    have h1:(g-1)*v2≤4294967295*4294967295:=I7 (by omega) (by omega)
    have h2:=C0 4294967296 d
    show (g-1)*v2≤(l+v1)*4294967296+u2
    omega
   ·rw [if_neg d]
    exact D3x hv2 htop hq f (g-1) (l+v1) (by omega) h' (by omega)
  ·rw [if_neg c]
   exact ⟨h,hqg,by show g<4294967296;omega,by show g*v2≤l*4294967296+u2;omega⟩
theorem C7v {v1 v2 vr u2 ur top r g l V U:Nat} (hV:V=(v1*4294967296+v2)*r+vr) (hvr:vr<r) (hU:U=(top*4294967296+u2)*r+ur) (hur:ur<r) (hv1:0<v1) (hv2:v2<4294967296) (hu2:u2<4294967296)
  (htop:top<v1*4294967296+4294967296) (hUV:U<4294967296*V) (h:g*v1+l=top) (hqg:U/V≤g):
  U/V≤(gl v1 v2 u2 g g l).1∧(gl v1 v2 u2 g g l).1≤U/V+1∧(gl v1 v2 u2 g g l).1<4294967296:=by
 have hV0:0<V:=by
  rcases j9 V with e|e
  ·rw [e] at hUV;omega
  ·exact e
 have hq:∀g l,g*v1+l=top→(4294967296≤g∨l*4294967296+u2<g*v2)→U/V<g:=by
  intro g l h hc
  rw [H0 hV0]
  rcases hc with c|c
  ·exact G7 hUV (C0 V c)
  ·have h1:top*4294967296+u2+1≤g*(v1*4294967296+v2):=by
    rw [D0,←B9]
    have:=congrArg (·*4294967296) h
    simp only [H2] at this
    omega
   have h2:=C0 r h1
   rw [H2 _ 1 r,Q2] at h2
   have h3:g*((v1*4294967296+v2)*r)≤g*V:=F2 g (by omega)
   rw [←B9] at h3
   omega
 obtain ⟨e1,e2,e3,e4⟩:=D3x hv2 htop hq g g l (I6 _) h hqg
 refine ⟨e2,?_,e3⟩
 generalize (gl v1 v2 u2 g g l).1=G at e1 e2 e3 e4 ⊢
 generalize (gl v1 v2 u2 g g l).2=M at e1 e4
 cases G with
 |zero=>exact MX _
 |succ k=>
  refine Nat.succ_le_succ ?_
  rw [Nat.le_div_iff_mul_le hV0]
  have h1:(k+1)*(v1*4294967296+v2)≤top*4294967296+u2:=by
   rw [D0,←B9]
   have:=congrArg (·*4294967296) e1
   simp only [H2] at this e4 ⊢
   omega
  have h2:k*(v1*4294967296+v2+1)≤top*4294967296+u2:=by
   have hb:4294967296≤v1*4294967296:=Nat.le_mul_of_pos_left _ hv1
   rw [D0,M0]
   rw [H2,Q2] at h1
   omega
  have h3:=C0 r h2
  have h4:V≤(v1*4294967296+v2+1)*r:=by rw [H2 _ 1,Q2];omega
  have h5:=F2 k h4
  rw [←B9] at h5
  omega
theorem D3k {p W t P:Nat} (hp:0<p) (hW:W<p) (ht:t<4294967296) (hP:P/p<4294967296)
  (hb:¬(t<P/p+(if W<P%p then 1 else 0))):P≤W+p*t∧
   (W+p*(if W<P%p then 1 else 0)-P%p)+p*(t-P/p-(if W<P%p then 1 else 0))=W+p*t-P:=by
 have hd:=Q6 P p
 have hm:=R5 P hp
 generalize P/p=H at*
 generalize P%p=Lo at*
 by_cases c:W<Lo
 ·rw [if_pos c] at hb ⊢
  have e:t=(t-H-1)+(H+1):=by omega
  generalize t-H-1=s at e
  subst e
  rw [D0 p s,D0 p H] at*
  simp only [M0] at*
  omega
 ·rw [if_neg c] at hb ⊢
  have e:t=(t-H-0)+H:=by omega
  generalize t-H-0=s at e
  subst e
  rw [D0 p s] at*
  simp only [O3] at*
  omega
theorem D15 {p W t P:Nat} (hp:0<p) (hW:W<p) (ht:t<4294967296) (hP:P/p<4294967296)
  (hb:t<P/p+(if W<P%p then 1 else 0)):W+p*t<P∧
   (W+p*(if W<P%p then 1 else 0)-P%p)+p*(4294967296+t-P/p-(if W<P%p then 1 else 0))+P=W+p*t+p*4294967296:=by
 have hd:=Q6 P p
 have hm:=R5 P hp
 generalize P/p=H at*
 generalize P%p=Lo at*
 by_cases c:W<Lo
 ·rw [if_pos c] at hb ⊢
  obtain ⟨s,hs⟩:∃s,H=t+s:=⟨H-t,by omega⟩
  obtain ⟨k,hk⟩:∃k,4294967296+t-H-1=k:=⟨_,rfl⟩
  have hk':k+s+1=4294967296:=by omega
  rw [hk]
  subst hs
  have h1:p*4294967296=p*k+p*s+p:=by rw [←hk',D0,D0,M0]
  rw [D0] at hd
  simp only [M0]
  have h2:0≤p*s:=MX _
  omega
 ·rw [if_neg c] at hb ⊢
  obtain ⟨s,hs⟩:∃s,H=t+s+1:=⟨H-t-1,by omega⟩
  obtain ⟨k,hk⟩:∃k,4294967296+t-H-0=k:=⟨_,rfl⟩
  have hk':k+s+1=4294967296:=by omega
  rw [hk]
  subst hs
  have h1:p*4294967296=p*k+p*s+p:=by rw [←hk',D0,D0,M0]
  rw [D0,D0,M0] at hd
  simp only [O3]
  omega
theorem B20 {L:List Nat} (h:D1 L) (lo n:Nat):N3 L lo n<2^(32*n):=by
 have:=I0 (Q7 (CF h lo) n)
 refine G7 this (B3 (by decide) ?_)
 simp
 omega
theorem A6b (L:List Nat) (lo i:Nat):(L.drop lo).getD i 0=L.getD (lo+i) 0:=by simp [D7]
theorem EM {L:List Nat} {lo n:Nat} (h:lo+n<L.length):N3 L lo (n+1)=N3 L lo n+2^(32*n)*L.getD (lo+n) 0:=by
 unfold N3
 rw [O1 (by simp;omega),A6b]
theorem j8 {L w:List Nat} {lo:Nat} (h:lo+w.length≤L.length):(R3 L lo w).length=L.length:=by
 unfold R3
 simp
 omega
theorem A62 {L w:List Nat} (hL:D1 L) (hw:D1 w) (lo:Nat):D1 (R3 L lo w):=by
 unfold R3
 rw [M2,M2]
 exact ⟨⟨Q7 hL _,hw⟩,CF hL _⟩
theorem TZ {L w:List Nat} {lo:Nat} (h:lo+w.length<L.length):(R3 L lo w).getD (lo+w.length) 0=L.getD (lo+w.length) 0:=by
 unfold R3
 have e:(L.take lo++w).length=lo+w.length:=by simp;omega
 rw [IF (by omega),e,Nat.sub_self,A6b,I4]
theorem UA {L w:List Nat} {lo d:Nat} (h:lo+w.length<L.length):(R3 L lo w).set (lo+w.length) d=R3 L lo (w++[d]):=by
 unfold R3
 have e:(L.take lo++w).length=lo+w.length:=by simp;omega
 rw [List.set_append_right _ _ (by omega),e,Nat.sub_self]
 have:L.drop (lo+w.length)=L.getD (lo+w.length) 0::L.drop (lo+w.length+1):=by
  rw [List.drop_eq_getElem_cons h]
  simp [D7,h]
 rw [this,List.set_cons_zero]
 simp [Nat.add_assoc]
theorem C9y {L w w':List Nat} {lo:Nat} (h:lo+w.length≤L.length) (h':w'.length=w.length):R3 (R3 L lo w) lo w'=R3 L lo w':=by
 have e:(L.take lo).length=lo:=by simp;omega
 have h1:(R3 L lo w).take lo=L.take lo:=by
  unfold R3
  rw [U8,List.take_append_of_le_length (by omega),H7 (by omega)]
 have h2:(R3 L lo w).drop (lo+w.length)=L.drop (lo+w.length):=by
  unfold R3
  have e2:(L.take lo++w).length=lo+w.length:=by simp;omega
  rw [List.drop_append_of_le_length (by omega),AX (by omega),List.nil_append]
 unfold R3 at h1 h2 ⊢
 rw [h1,h',h2]
theorem D1w {v:List Nat} {n:Nat} (hn:v.length=n+2):val v=(v.getD (n+1) 0*4294967296+v.getD n 0)*2^(32*n)+val (v.take n):=by
 have h:=O1 (l:=v) (i:=n+1) (by omega)
 have h':=O1 (l:=v) (i:=n) (by omega)
 rw [H7 (by omega)] at h
 rw [h,h',J6,H2,B6 (2^(32*n)) (v.getD n 0),B9 (2^(32*n)),B6 (2^(32*n)),B6 4294967296]
 omega
theorem D2a {L:List Nat} {lo n:Nat} (h:lo+n+2<L.length):
  N3 L lo (n+3)=((L.getD (lo+(n+2)) 0*4294967296+L.getD (lo+(n+1)) 0)*4294967296+L.getD (lo+n) 0)*2^(32*n)+N3 L lo n:=by
 rw [EM (by omega),EM (by omega),EM (by omega),show 32*(n+2)=32*(n+1+1) by omega,J6 (n+1),J6 n]
 generalize L.getD (lo+(n+2)) 0=a
 generalize L.getD (lo+(n+1)) 0=b
 generalize L.getD (lo+n) 0=c
 generalize 2^(32*n)=p
 rw [H2,H2,H2,B6 p c]
 have h1:p*4294967296*b=b*4294967296*p:=by rw [B6 p,B6 _ b,B9]
 have h2:p*4294967296*4294967296*a=a*4294967296*4294967296*p:=by simp only [B6,M9]
 omega
end Go.Dy

namespace Go.AI
open Go Go.RowKit Go.Proofs
set_option linter.unusedVariables false
set_option maxRecDepth 100000
theorem C6u {T:TypeId} {L:List Nat} (h0:0<L.length) (g:Nat) (w w':World) (h:Inv w) (hat:MM w T L g) (hg:GrowS (·=g) w w'):Inv w':=fun j hj=>by
 have h1:=h j hj
 have hlt:0<w.heap.size:=by
  rcases L4 0 w.heap.size with h2|h2
  ·exact h2
  ·simp [World.cell?,Array.getElem?_eq_none h2] at h1
 have hne:0≠g:=fun e=>by
  subst e
  have h2:=h 0 (by decide)
  obtain ⟨cs,h3,h4,h5⟩:=hat
  rw [cell?_of_block h3,h5 0 L[0] (by simp [h0])] at h2
  cases h2
 rw [←h1]
 simp only [World.cell?,hg.block _ hlt hne]
theorem JR {t:List (Nat×(List AV→Option Spec))} {f:Nat} {fn:Func} {T:TypeId} {L:List Nat} {lo len:Nat} {args:List AV} {res:AV} (nt:Nat) (Λ:Nat→Option LoopAnn) (ht:G6 Tryz.prog Inv (look t))
  (hfn:Tryz.prog.funcs[f]? =some fn) (hs:A25 fn=true) (hnt:args.length+1+(fn.ntmps-(args.length+1))=nt) (h0:0<L.length)
  (hl:Q3 Tryz.prog (look t) Λ (args.length+1) nt (Z5 (g8 fn))) (hkind:kindOf res=2)
  (h:BC L→lo+len≤L.length→AV.oks args→∀g cap,evH Tryz.prog (look t) Λ fn T L g cap lo len args (fun r=>r=res)):Contract Tryz.prog Inv f (.handv T L none lo len::args) res:=by
 unfold A25 at hs
 cases hb:fn.body with
 |none=>rw [hb] at hs;cases hs
 |some c=>
  rw [hb] at hs
  have e:g8 fn=c:=by unfold g8;rw [hb];rfl
  rw [e] at hl
  exact A3h B9r ht (C6u h0) hfn hb (by simpa using hs) hnt (RK c hl) hkind h
theorem YC {t:List (Nat×(List AV→Option Spec))} {f:Nat} {fn:Func} {args:List AV} {res:AV} (nt:Nat) (Λ:Nat→Option LoopAnn) (ht:G6 Tryz.prog Inv (look t))
  (hfn:Tryz.prog.funcs[f]? =some fn) (hs:A25 fn=true) (hnt:args.length+(fn.ntmps-args.length)=nt)
  (hl:Q3 Tryz.prog (look t) Λ args.length nt (Z5 (g8 fn)))
  (h:AV.oks args→evO Tryz.prog (look t) Λ fn args (fun r=>r=res)):Contract Tryz.prog Inv f args res:=by
 unfold A25 at hs
 cases hb:fn.body with
 |none=>rw [hb] at hs;cases hs
 |some c=>
  rw [hb] at hs
  have e:g8 fn=c:=by unfold g8;rw [hb];rfl
  rw [e] at hl
  exact A7q B9r ht B22 hfn hb (by simpa using hs) hnt (RK c hl) h
theorem D4z {P:Program} {Φ:Nat→List AV→Option Spec} {Λ:Nat→Option LoopAnn} {na nt:Nat} {fn:Func} {keep keep' keep'':List (Nat×Keep)} {ls ls' ls'':List AV→Option LR} (h:Z5 (g8 fn)=[D8 fn 0,D8 fn 1,D8 fn 2]) (hΛ:Λ (P3 (D8 fn 0))=some (.spec keep ls))
  (hl:L6 P Φ Λ na nt keep (D8 fn 0) ls) (hΛ':Λ (P3 (D8 fn 1))=some (.spec keep' ls')) (hl':L6 P Φ Λ na nt keep' (D8 fn 1) ls')
  (hΛ'':Λ (P3 (D8 fn 2))=some (.spec keep'' ls'')) (hl'':L6 P Φ Λ na nt keep'' (D8 fn 2) ls''):Q3 P Φ Λ na nt (Z5 (g8 fn)):=by
 rw [h]
 simp only [Q3,hΛ,hΛ',hΛ'']
 exact ⟨hl,hl',hl'',trivial⟩
theorem A7f (L:List Nat) (n:Nat):Dy.N3 L 0 n=Dy.val (L.take n):=rfl
theorem B9b:L6 Tryz.prog (look B0j) TG 1 21 [(0,.same)] (D8 Tryz.f172 0) A91:=by
 intro vals r h K hK
 unfold A91 at h
 split at h
 ·cases h
  rename_i L g cap len
  simp only [j0] at hK
  obtain ⟨⟨hl,hlen⟩,hK⟩:=hK
  have hb:=hl.1
  induction len with
  |zero=>
   refine D4 ?_
   rw [RV]
   refine B1 rfl ?_
   rw [show (Dy.dg (Dy.N3 L 0 0)).length=0 from rfl] at hK
   exact hK
  |succ n ih=>
   have hw:IntKind.i64.wrap (((n+1:Nat):Int)-1)=n:=by rw [wrap_i64 (by omega) (by omega)];omega
   by_cases c:L.getD n 0=0
   ·have hv:Dy.N3 L 0 (n+1)=Dy.N3 L 0 n:=by rw [Dy.EM (by omega),N9,c,O3,I4]
    obtain ⟨m,hm⟩:=ih (by rw [←hv];exact hK) (by omega)
    refine E9 m ?_
    rw [RV,hw]
    refine B5 (decide_eq_true (by omega)) ⟨by omega,by omega,B5 (decide_eq_true (by rw [A2,N9,c];rfl)) ⟨by omega,?_⟩⟩
    rw [A2]
    exact hm
   ·refine D4 ?_
    rw [RV,hw]
    refine B5 (decide_eq_true (by omega)) ⟨by omega,by omega,B1 (decide_eq_false (by rw [A2,N9];omega)) ?_⟩
    have h1:(L.take (n+1)).length=n+1:=by simp;omega
    have h2:(L.take (n+1)).getD n 0=L.getD n 0:=by simp [D7,List.getElem?_take]
    have:=(Dy.KP (Dy.Q7 hl.2 (n+1))).2 (.inr (by rw [h1,Nat.add_sub_cancel,h2];exact c))
    rw [A7f,this,h1] at hK
    exact hK
 ·cases h
theorem C9r (args:List AV) (s:Spec) (h:C1t args=some s) (hp:C6 s.pre True):Contract Tryz.prog Inv 172 args s.res:=by
 unfold C1t at h
 split at h
 ·cases h
  rename_i L len
  obtain ⟨⟨h0,rfl⟩, -⟩:=hp
  refine JR 21 TG ZL Tryz.func172 (by kernel_rfl) rfl h0 (W4 (by kernel_rfl) (by kernel_rfl) B9b) rfl fun hok _ _ g cap=> ?_
  rw [D20]
  intro l1 h1
  have h1:=h1.symm
  subst h1
  refine ⟨⟨Dy.C0x hok,I6 _⟩,?_⟩
  intro l1 h1
  have h1:=h1.symm
  subst h1
  have e:Dy.N3 L 0 L.length=Dy.val L:=by rw [A7f,H7 (I6 _)]
  rw [e]
  exact ⟨rfl,rfl,rfl,rfl,rfl,rfl,Dy.EO hok.2,rfl⟩
 ·exact XI args s h hp
theorem D3c:G6 Tryz.prog Inv (look D1m):=A3 DA C9r
end Go.AI

namespace Go.Dy
theorem D1n {X:List Nat} (h:D1 X):X.take (dg (val X)).length=dg (val X):=by
 have hl:=EO h
 refine OU (Q7 h _) (x8 _) (by simp;omega) ?_
 rw [A2n h,E3,Nat.mod_eq_of_lt]
 exact M5.1 (I6 _)
end Go.Dy
namespace Go.AI
open Go Go.RowKit Go.Proofs
set_option linter.unusedVariables false
set_option maxRecDepth 100000
theorem C8u:L6 Tryz.prog (look D1m) QE 2 50 RG (D8 Tryz.f182 0) C97:=by
 intro vals r h K hK
 unfold C97 at h
 split at h
 ·cases h
  rename_i o s c a k i
  simp only [j0] at hK
  obtain ⟨⟨ha,ha1,hs0,hs1,hol,rfl,rfl,rfl⟩,hK⟩:=hK
  obtain ⟨s,rfl⟩:=C4 hs0
  simp only [A2] at hK
  have key:∀(u j c:Nat) (q:List Nat),a.length=u+j→q.length=j→Dy.D1 q→c<2^s→Dy.val q+2^(32*j)*(c+2^s*Dy.val (a.drop j))=Dy.val a*2^s→
    ∃m,P4 Tryz.prog (look D1m) QE 2 50 RG (D8 Tryz.f182 0) m [.grown 152 (o++q),.num .i64 s,.num .u32 c,.dig [1,2,3] a,.num .i64 a.length,.num .i64 j] K:=by
   intro u
   induction u with
   |zero=>
    intro j c q hj hql hqd hc hv
    refine D4 ?_
    rw [B7z]
    refine B1 (decide_eq_false (by omega)) ?_
    have hja:j=a.length:=by omega
    subst hja
    simp only [List.drop_length,Dy.val,O3,I4] at hv
    have hq:=Dy.HL hqd (n:=a.length) (c:=c) (y:=Dy.val a*2^s) (by omega) (by rw [H7 (by omega)];exact hv)
    rw [H7 (by omega)] at hq
    rw [←hq.1,←hq.2] at hK
    exact hK
   |succ u ih=>
    intro j c q hj hql hqd hc hv
    have hx:=Dy.E5 ha.2 j
    rw [Dy.I1 a] at hv
    generalize hxx:a.getD j 0=x at hx hv
    have hs:2^s*2^(32-s)=4294967296:=by rw [←B8,show s+(32-s)=32 by omega]
    have hc':c<4294967296:=by
     have:2^s≤2^32:=B3 (by decide) (by omega)
     omega
    have hp:=A9 (32-s)
    have e0:x*2^s%4294967296=(x%2^(32-s))*2^s:=by rw [←hs,B6 x,Nat.mul_mod_mul_left,B6]
    have e1:x*2^s%4294967296+c<4294967296:=by
     rw [e0,←hs]
     have h1:x%2^(32-s)+1≤2^(32-s):=R5 _ hp
     have h2:(x%2^(32-s)+1)*2^s≤2^(32-s)*2^s:=C0 _ h1
     rw [H2,Q2,B6 (2^(32-s)) (2^s)] at h2
     omega
    have hcn:x/2^(32-s)<2^s:=by
     rw [H0 hp,hs]
     exact hx
    have hsplit:2^s*x=x*2^s%4294967296+4294967296*(x/2^(32-s)):=by
     rw [e0,←hs,B9,B6 (x%_),←D0,DQ]
    obtain ⟨m,hm⟩:=ih (j+1) (x/2^(32-s)) (q++[x*2^s%4294967296+c]) (by omega) (by simp [hql]) (Dy.M2.2 ⟨hqd,Dy.O9.2 ⟨e1,Dy.Q4⟩⟩) hcn (by
      rw [←hv,Dy.U6,hql,Dy.J6,D0 (2^s),hsplit]
      generalize x*2^s%4294967296=lo
      generalize x/2^(32-s)=hi
      generalize 2^(32*j)=p
      rw [M9 (2^s) 4294967296]
      simp only [D0,B9]
      omega)
    refine E9 m ?_
    rw [B7z]
    simp only [A2,T5,DN]
    rw [hxx]
    have hmin:min s 32=s:=by omega
    have hpow:((2:Int)^s)=((2^s:Nat):Int):=by simp
    have e2:IntKind.u32.wrap ((x:Int)*2^min s 32)=((x*2^s%4294967296:Nat):Int):=by
     rw [hmin,hpow,wrap_u32,←L5]
     omega
    have e3:(x*2^s%4294967296)|||c=x*2^s%4294967296+c:=by rw [e0,LF hc]
    rw [e2,A3d (by omega) (by omega) (by omega) (by omega)]
    simp only [A2]
    rw [e3]
    have e4:IntKind.i64.wrap ((32:Int)-(s:Int))=((32-s:Nat):Int):=by rw [wrap_i64 (by omega) (by omega)];omega
    have e5:IntKind.u64.wrap (x:Int)=(x:Int):=by rw [wrap_u64];omega
    rw [e4,e5]
    simp only [A2]
    rw [Nat.min_eq_left (by omega:32-s≤64),fdiv_pow (by omega),A2]
    have e6:IntKind.u32.wrap ((x/2^(32-s):Nat):Int)=((x/2^(32-s):Nat):Int):=by
     have:x/2^(32-s)≤x:=Nat.div_le_self _ _
     generalize x/2^(32-s)=y at this ⊢
     rw [wrap_u32]
     omega
    rw [e6,wrap_i64 (by omega) (by omega),U8]
    exact B5 (decide_eq_true (by omega)) ⟨by omega,by omega,⟨by omega,by rw [g7];omega⟩,by omega,hm⟩
  have:=key a.length 0 0 [] (by omega) rfl Dy.Q4 (A9 _) (by simp [Dy.val];exact B6 _ _)
  rw [List.append_nil] at this
  exact this
 ·cases h
theorem D55 (args:List AV) (s:Spec) (h:D5t args=some s) (hp:C6 s.pre True):Contract Tryz.prog Inv 182 args s.res:=by
 unfold D5t at h
 split at h
 ·cases h
  rename_i a n
  obtain ⟨⟨hne,hn,hn1,hal⟩, -⟩:=hp
  refine YC 50 QE D3c Tryz.func182 (by kernel_rfl) rfl (W4 (by kernel_rfl) (by kernel_rfl) C8u) fun hok=> ?_
  have ha:=(E4 hok).1
  have hl:=List.length_pos_iff.2 hne
  obtain ⟨n,rfl⟩:=C4 hn
  rw [D60]
  refine B1 (decide_eq_false (by omega)) ?_
  have e1:IntKind.i64.wrap ((n:Int).tdiv 32)=((n/32:Nat):Int):=by
   rw [Int.tdiv_eq_ediv_of_nonneg (by omega),wrap_i64 (by omega) (by omega)];omega
  have e2:(n:Int).tmod 32=((n%32:Nat):Int):=by rw [Int.tmod_eq_emod_of_nonneg (by omega)];omega
  rw [e1,e2]
  simp only [A2]
  have hc:Dy.val a*2^(n%32)/2^(32*a.length)<4294967296:=by
   have h1:=Dy.I0 ha.2
   rw [H0 (A9 _),B6]
   refine G7 (Nat.mul_lt_mul_of_pos_left h1 (A9 _)) (C0 _ ?_)
   exact D9 (B3 (n:=2) (by decide) (show n%32≤32 by omega)) (by decide)
  have hv:Dy.val (B2 (n/32) 0++Dy.dgN a.length (Dy.val a*2^(n%32))++[Dy.val a*2^(n%32)/2^(32*a.length)])=Dy.val a*2^n:=by
   rw [Dy.U6,Dy.o5,Dy.u7,Dy.X6]
   simp only [g7,U0,Dy.H5]
   rw [N9,D0,B8,B9,←D0,DQ,B6,B9,←B8,show n%32+32*(n/32)=n by omega]
  have hX:Dy.D1 (B2 (n/32) 0++Dy.dgN a.length (Dy.val a*2^(n%32))++[Dy.val a*2^(n%32)/2^(32*a.length)]):=
   Dy.M2.2 ⟨Dy.M2.2 ⟨Dy.P2 _,Dy.o8 _ _⟩,Dy.O9.2 ⟨hc,Dy.Q4⟩⟩
  rw [Dy.D1n hX,hv]
  simp only [U0,g7,Dy.H5,T5,DN]
  rw [wrap_i64 (n:=((n/32:Nat):Int)+(a.length:Int)) (by omega) (by omega),wrap_i64 (by omega) (by omega)]
  exact ⟨⟨by omega,by omega,by omega⟩,⟨ha,hal,by omega,by omega,by omega,by simp,by simp,by simp⟩,⟨by omega,by omega⟩,⟨⟨by omega,by simp⟩,by omega⟩,trivial⟩
 ·cases h
end Go.AI

namespace Go.AI
open Go Go.RowKit Go.Proofs
set_option linter.unusedVariables false
set_option maxRecDepth 100000
theorem C60 {x y:Nat} (hx:x<4294967296) (hy:y<4294967296):IntKind.u64.wrap ((A7 64 (IntKind.u64.wrap ((x:Int)*(2:Int)^(32:Nat)))|||A7 64 (IntKind.u64.wrap (y:Int))).toNat:Int)=((x*4294967296+y:Nat):Int):=by
 have e1:IntKind.u64.wrap ((x:Int)*(2:Int)^(32:Nat))=((x*4294967296:Nat):Int):=by rw [wrap_u64];omega
 have e2:IntKind.u64.wrap (y:Int)=(y:Int):=by rw [wrap_u64];omega
 rw [e1,e2,WT (by omega) (by omega) (by omega) (by omega),A2,A2]
 have:=LF (a:=x) (b:=y) (k:=32) (by omega)
 rw [show (2:Nat)^32=4294967296 from rfl] at this
 rw [this]
theorem B31:L6 Tryz.prog (look YK) BU 2 160 B2t (D8 Tryz.f217 0) lsG:=by
 intro vals r h K hK
 unfold lsG at h
 split at h
 ·cases h
  rename_i L G cap lo len v n g l
  simp only [j0] at hK
  obtain ⟨⟨hL,hdL,hdv,rfl,hv2,rfl,hlo,hg0,hg1,hl0,hl1⟩,hK⟩:=hK
  obtain ⟨g,rfl⟩:=C4 hg0
  obtain ⟨l,rfl⟩:=C4 hl0
  simp only [A2] at hK
  have w1:IntKind.i64.wrap ((v.length:Int)-1)=((v.length-1:Nat):Int):=by rw [wrap_i64 (by omega) (by omega)];omega
  have w2:IntKind.i64.wrap ((v.length:Int)-2)=((v.length-2:Nat):Int):=by rw [wrap_i64 (by omega) (by omega)];omega
  have hd1:=Dy.E5 hdv (v.length-1)
  have hd2:=Dy.E5 hdv (v.length-2)
  have hd3:=Dy.E5 hdL (lo+(v.length-2))
  have key:∀f g l:Nat,g≤f→g<18446744073709551616→l<4294967296→
    K (.exit 0) [.handv 152 L (some (G,cap)) lo (v.length+1),.dig [1,2,3] v,.num .i64 v.length,
     .num .u64 ((Dy.gl (v.getD (v.length-1) 0) (v.getD (v.length-2) 0) (L.getD (lo+(v.length-2)) 0) f g l).1:Nat),
     .num .u64 ((Dy.gl (v.getD (v.length-1) 0) (v.getD (v.length-2) 0) (L.getD (lo+(v.length-2)) 0) f g l).2:Nat)]→
    ∃m,P4 Tryz.prog (look YK) BU 2 160 B2t (D8 Tryz.f217 0) m [.handv 152 L (some (G,cap)) lo (v.length+1),.dig [1,2,3] v,.num .i64 v.length,.num .u64 g,.num .u64 l] K:=by
   intro f
   have e2:∀l:Nat,l<4294967296→IntKind.u64.wrap ((l:Int)+IntKind.u64.wrap ((v.getD (v.length-1) 0:Nat):Int))=((l+v.getD (v.length-1) 0:Nat):Int):=by
    intro l hl
    rw [wrap_u64,wrap_u64];omega
   have e3:∀g:Nat,0<g→g<18446744073709551616→IntKind.u64.wrap ((g:Int)-1)=((g-1:Nat):Int):=by
    intro g hg hg'
    rw [wrap_u64];omega
   have e4:∀g:Nat,g<4294967296→IntKind.u64.wrap ((g:Int)*IntKind.u64.wrap ((v.getD (v.length-2) 0:Nat):Int))=((g*v.getD (v.length-2) 0:Nat):Int):=by
    intro g hg
    have h1:g*v.getD (v.length-2) 0≤4294967295*4294967295:=I7 (by omega) (by omega)
    have h2:IntKind.u64.wrap ((v.getD (v.length-2) 0:Nat):Int)=((v.getD (v.length-2) 0:Nat):Int):=by rw [wrap_u64];omega
    rw [h2,←L5,wrap_u64]
    omega
   induction f with
   |zero=>
    intro g l hgf hg hl hK
    have:g=0:=by omega
    subst this
    refine D4 ?_
    rw [GO]
    simp only [w1,w2,A2,e4 0 (by omega),C60 hl hd3]
    refine B1 (decide_eq_false (by omega)) ⟨by omega,by omega,by omega,B1 (decide_eq_false (by omega)) ?_⟩
    exact hK
   |succ f ih=>
    intro g l hgf hg hl hK
    unfold Dy.gl at hK
    have more:0<g→(4294967296≤g∨l*4294967296+L.getD (lo+(v.length-2)) 0<g*v.getD (v.length-2) 0)→
      (bif decide (((l+v.getD (v.length-1) 0:Nat):Int)≥4294967296) then
       K (.exit 0) [.handv 152 L (some (G,cap)) lo (v.length+1),.dig [1,2,3] v,.num .i64 v.length,.num .u64 ((g-1:Nat):Int),.num .u64 ((l+v.getD (v.length-1) 0:Nat):Int)]
      else∃m,P4 Tryz.prog (look YK) BU 2 160 B2t (D8 Tryz.f217 0) m [.handv 152 L (some (G,cap)) lo (v.length+1),.dig [1,2,3] v,.num .i64 v.length,.num .u64 ((g-1:Nat):Int),.num .u64 ((l+v.getD (v.length-1) 0:Nat):Int)] K):=by
     intro hg0 hc
     rw [if_pos hc] at hK
     by_cases d:4294967296≤l+v.getD (v.length-1) 0
     ·rw [if_pos d] at hK
      exact B5 (decide_eq_true (by omega)) hK
     ·rw [if_neg d] at hK
      exact B1 (decide_eq_false (by omega)) (ih (g-1) (l+v.getD (v.length-1) 0) (by omega) (by omega) (by omega) hK)
    by_cases c1:4294967296≤g
    ·have hm:=more (by omega) (.inl c1)
     by_cases d:4294967296≤l+v.getD (v.length-1) 0
     ·rw [decide_eq_true (by omega:((l+v.getD (v.length-1) 0:Nat):Int)≥4294967296)] at hm
      refine D4 ?_
      rw [GO]
      simp only [w1,A2,e2 l hl,e3 g (by omega) hg]
      exact B5 (decide_eq_true (by omega)) ⟨by omega,B5 (decide_eq_true (by omega)) hm⟩
     ·rw [decide_eq_false (by omega:¬((l+v.getD (v.length-1) 0:Nat):Int)≥4294967296)] at hm
      obtain ⟨m,hm⟩:=hm
      refine E9 m ?_
      rw [GO]
      simp only [w1,A2,e2 l hl,e3 g (by omega) hg]
      exact B5 (decide_eq_true (by omega)) ⟨by omega,B1 (decide_eq_false (by omega)) hm⟩
    ·by_cases c2:l*4294967296+L.getD (lo+(v.length-2)) 0<g*v.getD (v.length-2) 0
     ·have hg0:0<g:=by
       rcases j9 g with e|e
       ·subst e;simp at c2
       ·exact e
      have hm:=more hg0 (.inr c2)
      by_cases d:4294967296≤l+v.getD (v.length-1) 0
      ·rw [decide_eq_true (by omega:((l+v.getD (v.length-1) 0:Nat):Int)≥4294967296)] at hm
       refine D4 ?_
       rw [GO]
       simp only [w1,w2,A2,e4 g (by omega),C60 hl hd3,e2 l hl,e3 g (by omega) hg]
       exact B1 (decide_eq_false (by omega)) ⟨by omega,by omega,by omega,B5 (decide_eq_true (by omega)) ⟨by omega,B5 (decide_eq_true (by omega)) hm⟩⟩
      ·rw [decide_eq_false (by omega:¬((l+v.getD (v.length-1) 0:Nat):Int)≥4294967296)] at hm
       obtain ⟨m,hm⟩:=hm
       refine E9 m ?_
       rw [GO]
       simp only [w1,w2,A2,e4 g (by omega),C60 hl hd3,e2 l hl,e3 g (by omega) hg]
       exact B1 (decide_eq_false (by omega)) ⟨by omega,by omega,by omega,B5 (decide_eq_true (by omega)) ⟨by omega,B1 (decide_eq_false (by omega)) hm⟩⟩
     ·rw [if_neg (by omega)] at hK
      refine D4 ?_
      rw [GO]
      simp only [w1,w2,A2,e4 g (by omega),C60 hl hd3]
      exact B1 (decide_eq_false (by omega)) ⟨by omega,by omega,by omega,B1 (decide_eq_false (by omega)) hK⟩
  exact key g g l (I6 _) (by omega) (by omega) hK
 ·cases h
end Go.AI

namespace Go.Dy
theorem A5t {L w:List Nat} {lo d:Nat} (h:lo+w.length<L.length):N3 (R3 L lo (w++[d])) lo w.length=val w:=by
 unfold N3 R3
 have e:(L.take lo).length=lo:=by simp;omega
 rw [U8,List.drop_append_of_le_length (by omega),AX (by omega),List.nil_append,U8,List.take_append_of_le_length (by omega),H7 (by omega)]
theorem A3i {L w:List Nat} {lo d:Nat} (h:lo+w.length<L.length):(R3 L lo (w++[d])).getD (lo+w.length) 0=d:=by
 unfold R3
 have e:(L.take lo++w).length=lo+w.length:=by simp;omega
 rw [←U8 (L.take lo),U8,IF (by omega),e,Nat.sub_self]
 rfl
theorem B9s {w W P p b c n:Nat} (hw:w<p) (hb:b≤1) (hc:c=P/p) (h:w+P=W+p*(b+c)) (hW:W<p):
  b=(if W<P%p then 1 else 0)∧w=W+p*(if W<P%p then 1 else 0)-P%p:=by
 have hd:=Q6 P p
 rw [←hc] at hd
 generalize P%p=Lo at hd ⊢
 rw [D0] at h
 rcases (by omega:b=0∨b=1) with rfl|rfl
 ·have:¬W<Lo:=by omega
  rw [if_neg this]
  omega
 ·have:W<Lo:=by omega
  rw [if_pos this]
  omega
end Go.Dy
namespace Go.AI
open Go Go.RowKit Go.Proofs
set_option linter.unusedVariables false
set_option maxRecDepth 100000
theorem B32:L6 Tryz.prog (look YK) BU 2 160 C48 (D8 Tryz.f217 1) lsM:=by
 intro vals r h K hK
 unfold lsM at h
 split at h
 ·cases h
  rename_i L G cap lo len v n g bo ca v' k i
  simp only [j0] at hK
  obtain ⟨⟨rfl,rfl,rfl,rfl,rfl,hg0,hg1,hdv,hdL,rfl,hlo,hL⟩,hK⟩:=hK
  obtain ⟨g,rfl⟩:=C4 hg0
  simp only [A2] at hK
  have key:∀(u j b c:Nat) (w:List Nat),v'.length=u+j→w.length=j→Dy.D1 w→b≤1→c<4294967296→c=g*Dy.val (v'.take j)/2^(32*j)→
    Dy.val w+g*Dy.val (v'.take j)=Dy.N3 L lo j+2^(32*j)*(b+c)→
    ∃m,P4 Tryz.prog (look YK) BU 2 160 C48 (D8 Tryz.f217 1) m [.handv 152 (Dy.R3 L lo w) (some (G,cap)) lo (v'.length+1),.dig [1,2,3] v',.num .i64 n,.num .u64 g,.num .u32 b,.num .u64 c,.dig [1,2,3] v',.num .i64 v'.length,.num .i64 j] K:=by
   intro u
   induction u with
   |zero=>
    intro j b c w hj hwl hwd hb hc hcp hv
    refine D4 ?_
    rw [A7b]
    refine B1 (decide_eq_false (by omega)) ?_
    have hjn:j=v'.length:=by omega
    subst hjn
    rw [H7 (I6 _)] at hv hcp
    have hwlt:=Dy.I0 hwd
    rw [hwl] at hwlt
    obtain ⟨hb',hw'⟩:=Dy.B9s hwlt hb hcp hv (Dy.B20 hdL lo _) (n:=0)
    have hw2:w=Dy.dgN v'.length (Dy.val w):=(Dy.CW hwd hwl).symm
    rw [hw'] at hw2
    rw [hw2,hb',hcp]
    exact hK
   |succ u ih=>
    intro j b c w hj hwl hwd hb hc hcp hv
    have hd:=Dy.E5 hdv j
    have hx:=Dy.E5 hdL (lo+j)
    have hcur:(Dy.R3 L lo w).getD (lo+j) 0=L.getD (lo+j) 0:=by
     have:=Dy.TZ (L:=L) (w:=w) (lo:=lo) (by omega)
     rw [hwl] at this
     exact this
    have hlen:(Dy.R3 L lo w).length=L.length:=Dy.j8 (by omega)
    have hset:∀t,(Dy.R3 L lo w).set (lo+j) t=Dy.R3 L lo (w++[t]):=fun t=>by
     have:=Dy.UA (L:=L) (w:=w) (lo:=lo) (d:=t) (by omega)
     rw [hwl] at this
     exact this
    have htk:=Dy.O1 (l:=v') (i:=j) (by omega)
    have hwin:=Dy.EM (L:=L) (lo:=lo) (n:=j) (by omega)
    generalize hdd:v'.getD j 0=d at hd htk
    generalize hxx:L.getD (lo+j) 0=x at hx hwin hcur
    have hgd:g*d≤4294967295*4294967295:=I7 (by omega) (by omega)
    have e1:IntKind.u64.wrap ((c:Int)+IntKind.u64.wrap ((g:Int)*IntKind.u64.wrap (d:Int)))=((c+g*d:Nat):Int):=by
     have h1:IntKind.u64.wrap (d:Int)=(d:Int):=by rw [wrap_u64];omega
     have h2:IntKind.u64.wrap (((g*d:Nat)):Int)=((g*d:Nat):Int):=by rw [wrap_u64];omega
     rw [h1,←L5,h2,wrap_u64]
     omega
    generalize hX:c+g*d=X at e1
    have e2:IntKind.u32.wrap ((X:Nat):Int)=((X%4294967296:Nat):Int):=by rw [wrap_u32];omega
    have e3:((X:Nat):Int).fdiv ((2:Int)^(32:Nat))=((X/4294967296:Nat):Int):=by
     rw [fdiv_pow (by omega),A2]
    have ht:∃t:Nat,(((x:Int)-((X%4294967296:Nat):Int)-(b:Int))%4294967296).toNat=t∧t<4294967296∧t+X%4294967296+b=x+4294967296*(if x<X%4294967296+b then 1 else 0):=by
     refine ⟨_,rfl,by omega,?_⟩
     split<;>omega
    obtain ⟨t,ht1,ht2,ht3⟩:=ht
    have e4:(if (x:Int)<((X%4294967296:Nat):Int)+(b:Int) then (1:Int) else 0)=((if x<X%4294967296+b then 1 else 0:Nat):Int):=by
     by_cases c:x<X%4294967296+b
     ·rw [if_pos c,if_pos (by omega)];rfl
     ·rw [if_neg c,if_neg (by omega)];rfl
    have hq:g*Dy.val (v'.take (j+1))/2^(32*(j+1))=X/4294967296:=by
     rw [htk,Dy.J6,←Nat.div_div_eq_div_mul,D0,←B9,B6 g (2^(32*j)),B9,Nat.add_mul_div_left _ _ (A9 _),←hcp,hX]
    obtain ⟨m,hm⟩:=ih (j+1) (if x<X%4294967296+b then 1 else 0) (X/4294967296) (w++[t]) (by omega) (by simp [hwl]) (Dy.M2.2 ⟨hwd,Dy.O9.2 ⟨ht2,Dy.Q4⟩⟩) (by split<;>omega) (by omega) hq.symm (by
      have hXd:=Q6 X 4294967296
      rw [Dy.U6,hwl,htk,hwin,Dy.J6]
      generalize (if x<X%4294967296+b then 1 else 0)=b' at ht3 ⊢
      generalize X/4294967296=c' at hXd ⊢
      generalize X%4294967296=xl at hXd ht3 ⊢
      generalize Dy.N3 L lo j=W at hv ⊢
      generalize Dy.val w=ww at hv ⊢
      generalize hpp:2^(32*j)=p at hv ⊢
      have h1:p*(t+xl+b)=p*(x+4294967296*b'):=by rw [ht3]
      have h2:p*(c+g*d)=p*(4294967296*c'+xl):=by rw [hX,hXd]
      have h3:g*(p*d)=p*(g*d):=M9 _ _ _
      simp only [D0,B9] at hv h1 h2 h3 ⊢
      rw [h3]
      omega)
    refine E9 m ?_
    rw [A7b]
    simp only [A2,hdd,hcur,e1,e2,e3,hlen]
    refine B5 (decide_eq_true (by omega)) ⟨by omega,by omega,by omega,by omega,?_⟩
    rintro _ rfl _ rfl
    rw [ht1,hset t,e4,wrap_i64 (by omega) (by omega)]
    exact ⟨by omega,by omega,hm⟩
  have:=key v'.length 0 0 0 [] (by omega) rfl Dy.Q4 (by omega) (by omega) (by simp [Dy.val]) (by simp [Dy.val,Dy.N3])
  have e:Dy.R3 L lo []=L:=by simp [Dy.R3]
  rw [e] at this
  exact this
 ·cases h
theorem B33:L6 Tryz.prog (look YK) BU 2 160 C47 (D8 Tryz.f217 2) lsA:=by
 intro vals r h K hK
 unfold lsA at h
 split at h
 ·cases h
  rename_i L G cap lo len n g ov v k i
  simp only [j0] at hK
  obtain ⟨⟨rfl,rfl,rfl,hdv,hdL,rfl,hlo,hL⟩,hK⟩:=hK
  have key:∀(u j c:Nat) (w:List Nat),v.length=u+j→w.length=j→Dy.D1 w→c≤1→Dy.val w+2^(32*j)*c=Dy.N3 L lo j+Dy.val (v.take j)→
    ∃m,P4 Tryz.prog (look YK) BU 2 160 C47 (D8 Tryz.f217 2) m [.handv 152 (Dy.R3 L lo w) (some (G,cap)) lo (v.length+1),.num .i64 n,.num .u64 g,.num .u32 c,.dig [1,2,3] v,.num .i64 v.length,.num .i64 j] K:=by
   intro u
   induction u with
   |zero=>
    intro j c w hj hwl hwd hc hv
    refine D4 ?_
    rw [A7c]
    refine B1 (decide_eq_false (by omega)) ?_
    have hjn:j=v.length:=by omega
    subst hjn
    rw [H7 (I6 _)] at hv
    have hq:=Dy.HL hwd (n:=v.length) (c:=c) (y:=Dy.N3 L lo v.length+Dy.val v) (by omega) (by rw [H7 (by omega)];exact hv)
    rw [H7 (by omega)] at hq
    rw [hq.1,hq.2]
    exact hK
   |succ u ih=>
    intro j c w hj hwl hwd hc hv
    have hd:=Dy.E5 hdv j
    have hx:=Dy.E5 hdL (lo+j)
    have hcur:(Dy.R3 L lo w).getD (lo+j) 0=L.getD (lo+j) 0:=by
     have:=Dy.TZ (L:=L) (w:=w) (lo:=lo) (by omega)
     rw [hwl] at this
     exact this
    have hlen:(Dy.R3 L lo w).length=L.length:=Dy.j8 (by omega)
    have hset:∀t,(Dy.R3 L lo w).set (lo+j) t=Dy.R3 L lo (w++[t]):=fun t=>by
     have:=Dy.UA (L:=L) (w:=w) (lo:=lo) (d:=t) (by omega)
     rw [hwl] at this
     exact this
    have htk:=Dy.O1 (l:=v) (i:=j) (by omega)
    have hwin:=Dy.EM (L:=L) (lo:=lo) (n:=j) (by omega)
    generalize hdd:v.getD j 0=d at hd htk
    generalize hxx:L.getD (lo+j) 0=x at hx hwin hcur
    have e1:(((x:Int)+(d:Int)+(c:Int))%4294967296).toNat=(x+d+c)%4294967296:=by omega
    have e2:((x:Int)+(d:Int)+(c:Int))/4294967296=(((x+d+c)/4294967296:Nat):Int):=by omega
    obtain ⟨m,hm⟩:=ih (j+1) ((x+d+c)/4294967296) (w++[(x+d+c)%4294967296]) (by omega) (by simp [hwl]) (Dy.M2.2 ⟨hwd,Dy.O9.2 ⟨by omega,Dy.Q4⟩⟩) (by omega) (by
      have hXd:=Q6 (x+d+c) 4294967296
      rw [Dy.U6,hwl,htk,hwin,Dy.J6]
      generalize (x+d+c)/4294967296=c' at hXd ⊢
      generalize (x+d+c)%4294967296=xl at hXd ⊢
      generalize 2^(32*j)=p at hv ⊢
      have h1:p*(4294967296*c'+xl)=p*(x+d+c):=by rw [hXd]
      simp only [D0,B9] at hv h1 ⊢
      omega)
    refine E9 m ?_
    rw [A7c]
    simp only [A2,hdd,hcur,hlen]
    refine B5 (decide_eq_true (by omega)) ⟨by omega,by omega,by omega,?_⟩
    rintro _ rfl _ rfl
    rw [e1,e2,hset,wrap_i64 (by omega) (by omega)]
    exact ⟨by omega,by omega,hm⟩
  have:=key v.length 0 0 [] (by omega) rfl Dy.Q4 (by omega) (by simp [Dy.val,Dy.N3])
  have e:Dy.R3 L lo []=L:=by simp [Dy.R3]
  rw [e] at this
  exact this
 ·cases h
end Go.AI
