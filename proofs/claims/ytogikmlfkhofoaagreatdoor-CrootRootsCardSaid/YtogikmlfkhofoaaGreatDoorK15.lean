/- My texts AIcr3, AIcr4, AIspecT, AImir, AIcr5, AIspecC, AVword, AIword, AIword2, AIword3, in one. -/
import Derived.Test.YtogikmlfkhofoaaGreatDoorK14
open BitVec renaming ofInt→A7
open Bool renaming and_eq_true→K9,and_true→PY,not_eq_true'→G0
open Decidable renaming byContradiction→G8
open Int renaming eq_ofNat_of_zero_le→C4,le_refl→u9,mul_assoc→AU,natCast_mul→L5,natCast_pow→MC,toNat_natCast→A2
open Nat renaming add_comm→FW,add_mul→H2,le_div_iff_mul_le→K8,le_of_mul_le_mul_right→GP,le_refl→I6,le_trans→D9,lt_of_le_of_lt→L8,lt_of_lt_of_le→G7,lt_of_mul_lt_mul_right→MT,lt_or_ge→L4,min_eq_left→J1,mod_lt→R5,mul_add→D0,mul_assoc→B9,mul_comm→B6,mul_le_mul→I7,mul_le_mul_left→F2,mul_le_mul_right→C0,mul_lt_mul_of_lt_of_lt→K3,mul_lt_mul_of_pos_right→L3,mul_mul_mul_comm→F7,mul_ne_zero→X0,mul_one→M0,mul_pos→U9,mul_right_comm→BX,pos_iff_ne_zero→R6,pow_add→B8,pow_le_pow_right→B3,pow_lt_pow_right→N4,pow_succ→I5,two_pow_pos→A9,zero_add→N9
namespace Go.Dy
set_option maxRecDepth 100000
theorem B36 {m a a' b b':Nat} (h:N1 m a b) (ha:a'≤a) (hb:b≤b'):N1 m a' b':=D9 (C0 m ha) (D9 h (C0 _ hb))
theorem TK {m a b c:Nat} (h:N1 m (a*c) (b*c)) (hc:0<c):N1 m a b:=by
 unfold N1 at*
 rw [BX a c m,BX b c] at h
 exact GP h hc
theorem GK {j a b c:Nat} (h:N1 (2^(j+2)) a b) (k:N1 (2^(j+2)) b c):N1 (2^j) a c:=by
 have e:2^(j+2)=4*2^j:=by rw [B8,B6]
 rw [e] at h k
 exact B38 h k (A9 j)
theorem GJ {i j a b:Nat} (hij:i≤j) (h:N1 (2^j) a b):N1 (2^i) a b:=B9t (B3 (by decide) hij) h
theorem D14 {T a b E' D2:Nat} (h:T*(E'+a)≤b*b) (hD:a*a+b*b=D2) (hE:D2≤E'*E') (hb:b≠0):T+a≤isq D2:=by
 have hb2:0<b*b:=U9 (by omega) (by omega)
 have hE2:a*a≤E'*E':=by omega
 obtain ⟨c,rfl⟩:∃c,E'=a+c:=⟨E'-a,by have:=HK hE2;omega⟩
 have e1:(a+c)*(a+c)=a*a+2*(a*c)+c*c:=by rw [H2,D0,D0,B6 c a];omega
 rw [e1] at hE
 refine GX ?_
 have e2:(T+a)*(T+a)=a*a+2*(a*T)+T*T:=by rw [H2,D0,D0,B6 T a];omega
 have e3:T*(a+c+a)=2*(a*T)+T*c:=by rw [D0,D0,B6 T a];omega
 rw [e3] at h
 rw [e2]
 rcases Nat.le_total T c with l|l
 ·have:=F2 T l
  omega
 ·by_cases l2:T=c
  ·subst l2;omega
  ·exfalso
   have h1:a*(c+1)≤a*T:=F2 a (by omega)
   have h2:(c+1)*c≤T*c:=C0 c (by omega)
   rw [D0,M0] at h1
   rw [H2,Nat.one_mul] at h2
   have ha:a=0:=by omega
   have hc:c=0:=by omega
   subst ha hc
   simp at hE
   omega
theorem D13 {T a b E'' D2 W:Nat} (h:b*b≤T*(E''+a)) (hD:a*a+b*b=D2) (hE:E''*E''≤D2) (hW:(W+a)*(W+a)≤D2):W≤T:=by
 refine G8 fun l=> ?_
 have e2:(W+a)*(W+a)=a*a+2*(a*W)+W*W:=by rw [H2,D0,D0,B6 W a];omega
 rw [e2] at hW
 rcases Nat.le_total E'' (W+a) with c|c
 ·have h1:T*(E''+a)≤T*(W+a+a):=F2 T (by omega)
  have h2:T*(W+a+a)<W*(W+a+a):=L3 (by omega) (by omega)
  have h3:W*(W+a+a)=W*W+2*(a*W):=by rw [D0,D0,B6 W a];omega
  omega
 ·obtain ⟨d,rfl⟩:∃d,E''=a+d:=⟨E''-a,by omega⟩
  have h2:T*(a+d+a)<d*(a+d+a):=L3 (by omega) (by omega)
  have h3:d*(a+d+a)=d*d+2*(a*d):=by rw [D0,D0,B6 d a];omega
  have e1:(a+d)*(a+d)=a*a+2*(a*d)+d*d:=by rw [H2,D0,D0,B6 d a];omega
  rw [e1] at hE
  omega
def sLo (Sq:Dyd) (n:Int):Dyd:=(C3 Sq n).1
def sHi (Sq:Dyd) (n:Int):Dyd:=Y9 Sq n
def gLo (Sq x:Dyd) (n:Int):Dyd:=shD (O7 (C2 (sLo Sq n) x) n false) (-1)
def gHi (Sq x:Dyd) (n:Int):Dyd:=shD (O7 (C2 (sHi Sq n) x) n true) (-1)
def o0 (Sq x:Dyd) (n:Int):Dyd:=(C3 (gLo Sq x n) n).1
def AE (Sq x:Dyd) (n:Int):Dyd:=Y9 (gHi Sq x n) n
def BQ (Sq x y:Dyd) (n:Int):Dyd:=V5 (shD y (-1)) (AE Sq x n) n false
def DE (Sq x y:Dyd) (n:Int):Dyd:=V5 (shD y (-1)) (o0 Sq x n) n true
theorem D11 {d:Dyd} (h0:d.mag≠[]) {V:Nat} (hV: -(V:Int)≤d.exp-1):at_ (shD d (-1)) (-(2*V:Int))*2=at_ d (-(V:Int))*2^V∧at_ (shD d (-1)) (-(V:Int))*2=at_ d (-(V:Int)):=by
 obtain ⟨s,m,e⟩:=d
 simp only at h0 hV
 unfold shD
 rw [if_neg h0]
 obtain ⟨k,hk⟩:∃k:Nat,e-1+V=k:=⟨(e-1+V).toNat,by omega⟩
 have e1:(e+ -1 - -(2*V:Int)).toNat=k+V:=by omega
 have e2:(e - -(V:Int)).toNat=k+1:=by omega
 have e3:(e+ -1 - -(V:Int)).toNat=k:=by omega
 unfold at_
 simp only [Dyd.int_eq]
 rw [e1,e2,e3]
 generalize sgn s (val m)=z
 rw [Int.pow_add,Int.pow_succ]
 refine ⟨?_,by rw [AU]⟩
 rw [AU,AU,AU,AU (2^k) 2,Int.mul_comm 2 (2^V)]
theorem C4l {d:Dyd} (h0:d.mag≠[]):shD d (-1)=⟨d.neg,d.mag,d.exp+ -1⟩:=by unfold shD;rw [if_neg h0]
theorem C1u {d:Dyd} (h0:d.mag≠[]) (hm:A5 d=true) (he: -10000000≤d.exp):A5 (shD d (-1))=true:=by
 have hx:=J2 (s:=d.neg) (m:=d.mag) (e:=d.exp) hm
 rw [C4l h0]
 rw [S2] at hm ⊢
 obtain ⟨a,b⟩:=hm
 rcases b with b|⟨b1,b2,b3⟩
 ·exact absurd b.1 h0
 ·exact ⟨a,.inr ⟨b1,b2,N5.2 ⟨by omega,by omega⟩⟩⟩
theorem v7 {d:Dyd} (h:d.neg=false) (u:Int):at_ d u=((val d.mag*2^(d.exp-u).toNat:Nat):Int):=by
 obtain ⟨s,m,e⟩:=d
 simp only at h
 subst h
 rw [j6]
 rfl
structure Off (x y Sq:Dyd) (A B V:Nat):Prop where
 big:40000≤V
 mx:A5 x=true
 nx:x.neg=false
 my:A5 y=true
 ny:y.neg=false
 y0:y.mag≠[]
 mS:A5 Sq=true
 nS:Sq.neg=false
 S0:Sq.mag≠[]
 ax:at_ x (-(V:Int))=A
 ay:at_ y (-(V:Int))=B
 aS:at_ Sq (-(2*V:Int))=((A*A+B*B:Nat):Int)
 ex: -1100≤x.exp
 ey: -1100≤y.exp
 eS: -2200≤Sq.exp
theorem OW (q:Nat) (e:Int):(form false q e).neg=false:=by
 by_cases h:q=0
 ·subst h;rw [Y2];rfl
 ·rw [H6 h]
theorem IE {q:Nat} (h:q≠0) (e:Int):(form false q e).mag≠[]:=by
 rw [H6 h]
 intro c
 have h0:=T6.1 c
 have h1:=T0 h
 omega
theorem YU {q n V L T:Nat} {x1:Int} (hb:bl q=n) (n1:1≤n) (n2:n≤8192) (h1: -(20000:Int)≤x1) (hV: -(V:Int)≤x1) (hL:L=q*2^(x1+V).toNat) (hT:L<2^(V+T)) (hTs:T≤10000) (c:Bool):Fit (form false (if c=true then q+1 else q) x1) 8193 20000∧x1+n≤T:=by
 have hq:q≠0:=fun e=>by rw [e,K2] at hb;omega
 have h2:2^(n-1)≤q:=a9.1 (by omega)
 have h3:=C0 (2^(x1+V).toNat) h2
 rw [←hL,←B8] at h3
 have h4:n-1+(x1+V).toNat<V+T:=by
  rcases L4 (n-1+(x1+V).toNat) (V+T) with d|d
  ·exact d
  ·have:=B3 (n:=2) (by decide) d
   omega
 have h5:bl (if c=true then q+1 else q)≤n+1:=by
  split
  ·refine I8.2 ?_
   have:=P9 q
   rw [hb] at this
   have e:2^(n+1)=2*2^n:=by rw [I5,B6]
   omega
  ·omega
 have h6:x1+n≤T:=by omega
 exact ⟨(U4 (L:=8193) (E:=20000) (by omega) (by omega) (by omega) (by decide) (by decide)).1,h6⟩
theorem PO {L T k:Nat} (h:L*L≤T) (hT:T<2^(2*k)):L<2^k:=by
 rcases L4 L (2^k) with c|c
 ·exact c
 ·have:=I7 c c
  rw [Y8] at this
  omega
section
variable {x y Sq:Dyd} {A B V n:Nat}
theorem D5w (hp:Parts A B V):A*A+B*B<2^(2*(V+1025)):=by
 have a:=K3 hp.lA hp.lA
 have b:=K3 hp.lB hp.lB
 rw [Y8] at a b
 have e:2^(2*(V+1025))=4*2^(2*(V+1024)):=by rw [show 2*(V+1025)=2*(V+1024)+2 by omega,B8,B6]
 omega
theorem D0z (h:Off x y Sq A B V) (hp:Parts A B V) (n1:1≤n) (n2:n≤8192):
  ∃SL SH:Nat,(at_ (sLo Sq n) (-(V:Int))=SL∧at_ (sHi Sq n) (-(V:Int))=SH)∧(Fit (sLo Sq n) 8193 20000∧Fit (sHi Sq n) 8193 20000)∧(-10000≤(sLo Sq n).exp∧ -10000≤(sHi Sq n).exp)∧SL*SL≤A*A+B*B∧A*A+B*B≤SH*SH∧N1 (2^(n-1)) SH SL∧SL≠0∧SL≤SH:=by
 have hV:=h.big
 have eS:=h.eS
 obtain ⟨L,u,⟨a1, -⟩,⟨a2, -⟩,a3,a4,a5,a6,a7,q,x1,b1,b2,b3,b4,b6,b5⟩:=Z7 h.mS h.nS h.S0 (V:=V) (n:=n) n1 (by omega) h.aS
 obtain ⟨L0,u0,⟨-,c1⟩,⟨-,c2⟩, -, -, -, -, -,q',x1',d1,d2,d3, -, -,d5⟩:=Z7 h.mS h.nS h.S0 (V:=10000) (n:=n) n1 (by omega) (v7 h.nS _)
 have hL:L<2^(V+1025):=PO a3 (D5w hp)
 have hx1: -(20000:Int)≤x1:=by
  have hq:q≠0:=fun e=>by rw [e,K2] at b2;omega
  have hq':q'≠0:=fun e=>by rw [e,K2] at d2;omega
  have e:=b1.symm.trans d1
  have f1:=O6 (s:=false) hq (e:=x1)
  have f2:=O6 (s:=false) hq' (e:=x1')
  rw [e] at f1
  omega
 have fl:=(YU b2 n1 n2 hx1 b3 b4 hL (by decide) false).1
 have fh:=(YU b2 n1 n2 hx1 b3 b4 hL (by decide) (C3 Sq n).2).1
 rw [if_neg (by decide),←b1] at fl
 rw [←b5] at fh
 refine ⟨L,_,⟨a1,a2⟩,⟨fl,fh⟩,⟨c1,c2⟩,a3,?_,?_,a6,?_⟩
 ·split
  ·omega
  ·rename_i c
   have:¬L*L≠A*A+B*B:=fun d=>c (a7.2 d)
   omega
 ·split
  ·exact BZ (u:=u) (I6 _) a5
  ·exact A0p _ _
 ·split<;>omega
theorem A6l {d:Dyd} (hm:A5 d=true) {V X:Nat} (hV: -(V:Int)≤d.exp) (hX:at_ d (-(V:Int))=X):d.neg=false∧(X≠0→d.mag≠[]):=by
 have e:=BK hm hV
 rw [hX] at e
 have e2:form false X (-(V:Int))=d:=by
  rw [W2]
  exact e
 refine ⟨by rw [←e2];exact OW _ _,fun h0=>by rw [←e2];exact IE h0 _⟩
theorem C7u (h:Off x y Sq A B V) (hp:Parts A B V) (fx:Fit x 1100 1100) (n1:20≤n) (n2:n≤8192):
  ∃SL SH GL GH:Nat,(SL*SL≤A*A+B*B∧A*A+B*B≤SH*SH)∧(at_ (gLo Sq x n) (-(2*V:Int))*2=((GL*2^V:Nat):Int)∧at_ (gHi Sq x n) (-(2*V:Int))*2=((GH*2^V:Nat):Int))∧
   (Fit (C2 (sLo Sq n) x) 48194 68194∧Fit (C2 (sHi Sq n) x) 48194 68194)∧(Fit (O7 (C2 (sLo Sq n) x) n false) 8193 124582∧Fit (O7 (C2 (sHi Sq n) x) n true) 8193 124582)∧(Fit (gLo Sq x n) 8193 124583∧Fit (gHi Sq x n) 8193 124583)∧
   (-10001≤(gLo Sq x n).exp∧ -10001≤(gHi Sq x n).exp)∧GL≤SL+A∧SH+A≤GH∧N1 (2^(n-5)) GH GL∧GL≠0∧SL≠0∧SL≤SH∧((gLo Sq x n).neg=false∧(gHi Sq x n).neg=false)∧((gLo Sq x n).mag≠[]∧(gHi Sq x n).mag≠[]):=by
 have hV:=h.big
 have ex:=h.ex
 obtain ⟨SL,SH,⟨a1,a2⟩,⟨f1,f2⟩,⟨e1,e2⟩,s1,s2,s3,s4,s5⟩:=D0z h hp (by omega) n2
 have fx':=fx.mono (L':=8193) (E':=20000) (by decide) (by decide)
 have g1:=(KV f1 fx' (by decide) (by decide)).1
 have g2:=(KV f2 fx' (by decide) (by decide)).1
 have z1:at_ (C2 (sLo Sq n) x) (-(V:Int))=((SL+A:Nat):Int):=by rw [SD (by omega) (by omega),a1,h.ax];omega
 have z2:at_ (C2 (sHi Sq n) x) (-(V:Int))=((SH+A:Nat):Int):=by rw [SD (by omega) (by omega),a2,h.ax];omega
 have x1: -(10000:Int)≤(C2 (sLo Sq n) x).exp:=by rw [x5 (u:= -10000) e1 (by omega)];exact s0 (u9 _) (by omega)
 have x2: -(10000:Int)≤(C2 (sHi Sq n) x).exp:=by rw [x5 (u:= -10000) e2 (by omega)];exact s0 (u9 _) (by omega)
 have nn1:=A6l g1.may (V:=V) (by omega) z1
 have nn2:=A6l g2.may (V:=V) (by omega) z2
 obtain ⟨GL, -,⟨p1, -⟩, -,p2, -,p3, -⟩:=SN g1.may (V:=V) (n:=n) (by omega) z1 (by omega) (by omega)
 obtain ⟨-,GH, -,⟨q1, -⟩, -,q2, -,q3⟩:=SN g2.may (V:=V) (n:=n) (by omega) z2 (by omega) (by omega)
 have k1: -(10000:Int)≤(O7 (C2 (sLo Sq n) x) n false).exp:=by
  have c0:=nn1.2 (by omega)
  have hne:val (C2 (sLo Sq n) x).mag*2^((C2 (sLo Sq n) x).exp - -(10000:Int)).toNat≠0:=X0 (Q1 (C1 (s:=(C2 (sLo Sq n) x).neg) (e:=(C2 (sLo Sq n) x).exp) g1.may) c0) (R6.1 (A9 _))
  obtain ⟨-, -,⟨-,r⟩, -⟩:=SN g1.may (V:=10000) (n:=n) x1 (v7 nn1.1 _) hne (by omega)
  exact r
 have k2: -(10000:Int)≤(O7 (C2 (sHi Sq n) x) n true).exp:=by
  have c0:=nn2.2 (by omega)
  have hne:val (C2 (sHi Sq n) x).mag*2^((C2 (sHi Sq n) x).exp - -(10000:Int)).toNat≠0:=X0 (Q1 (C1 (s:=(C2 (sHi Sq n) x).neg) (e:=(C2 (sHi Sq n) x).exp) g2.may) c0) (R6.1 (A9 _))
  obtain ⟨-, -, -,⟨-,r⟩, -⟩:=SN g2.may (V:=10000) (n:=n) x2 (v7 nn2.1 _) hne (by omega)
  exact r
 have fe1:Fit (O7 (C2 (sLo Sq n) x) n false) 8193 124582:=(A7w g1 (n:=(n:Int)) ⟨by omega,by omega⟩ (by decide) false).mono (by omega) (by decide)
 have fe2:Fit (O7 (C2 (sHi Sq n) x) n true) 8193 124582:=(A7w g2 (n:=(n:Int)) ⟨by omega,by omega⟩ (by decide) true).mono (by omega) (by decide)
 have GL0:GL≠0:=fun e=>by
  subst e
  unfold N1 at p3
  have:=U9 (show 0<SL+A by omega) (A9 (n-1))
  omega
 have m1:=A6l fe1.may (V:=V) (by omega) p1
 have m2:=A6l fe2.may (V:=V) (by omega) q1
 have mg1:=m1.2 GL0
 have mg2:=m2.2 (by omega)
 have sg1:gLo Sq x n=⟨(O7 (C2 (sLo Sq n) x) n false).neg,(O7 (C2 (sLo Sq n) x) n false).mag,(O7 (C2 (sLo Sq n) x) n false).exp+ -1⟩:=C4l mg1
 have sg2:gHi Sq x n=⟨(O7 (C2 (sHi Sq n) x) n true).neg,(O7 (C2 (sHi Sq n) x) n true).mag,(O7 (C2 (sHi Sq n) x) n true).exp+ -1⟩:=C4l mg2
 have t1:=(D11 mg1 (V:=V) (by omega)).1
 have t2:=(D11 mg2 (V:=V) (by omega)).1
 rw [p1] at t1
 rw [q1] at t2
 have l1:=fe1.lo
 have l2:=fe2.lo
 have u1:=fe1.hi
 have u2:=fe2.hi
 have fg1:Fit (gLo Sq x n) 8193 124583:=by
  have hm:A5 (gLo Sq x n)=true:=C1u mg1 fe1.may (by omega)
  rw [sg1] at hm ⊢
  exact ⟨hm,fe1.bits,by simp only;omega,by simp only;omega⟩
 have fg2:Fit (gHi Sq x n) 8193 124583:=by
  have hm:A5 (gHi Sq x n)=true:=C1u mg2 fe2.may (by omega)
  rw [sg2] at hm ⊢
  exact ⟨hm,fe2.bits,by simp only;omega,by simp only;omega⟩
 refine ⟨SL,SH,GL,GH,⟨s1,s2⟩,⟨?_,?_⟩,⟨g1,g2⟩,⟨fe1,fe2⟩,⟨fg1,fg2⟩,⟨?_,?_⟩,p2,q2,?_,GL0,s4,s5,⟨?_,?_⟩,⟨?_,?_⟩⟩
 ·rw [L5,Y7];exact t1
 ·rw [L5,Y7];exact t2
 ·rw [sg1];simp only;omega
 ·rw [sg2];simp only;omega
 ·-- the chain
  have w1:N1 (2^(n-3)) (SH+A) GL:=GK (by rw [show n-3+2=n-1 by omega];exact C5s s3 A) (by rw [show n-3+2=n-1 by omega];exact p3)
  exact GK (by rw [show n-5+2=n-3 by omega];exact GJ (by omega) q3) (by rw [show n-5+2=n-3 by omega];exact w1)
 ·rw [sg1];exact m1.1
 ·rw [sg2];exact m2.1
 ·rw [sg1];exact mg1
 ·rw [sg2];exact mg2
end
end Go.Dy

namespace Go.Dy
set_option maxRecDepth 100000
section
variable {x y Sq:Dyd} {A B V n:Nat}
theorem XA {q q' n:Nat} {x1 x2:Int} (h:form false q x1=form false q' x2) (hb:bl q=n) (hb':bl q'=n) (n1:1≤n):x1=x2:=by
 have hq:q≠0:=fun e=>by rw [e,K2] at hb;omega
 have hq':q'≠0:=fun e=>by rw [e,K2] at hb';omega
 have f1:=O6 (s:=false) hq (e:=x1)
 have f2:=O6 (s:=false) hq' (e:=x2)
 rw [h] at f1
 omega
theorem B9a (h:Off x y Sq A B V) (hp:Parts A B V) (fx:Fit x 1100 1100) (n1:20≤n) (n2:n≤8192):
  ∃SL SH GL GH PL PH:Nat,(SL*SL≤A*A+B*B∧A*A+B*B≤SH*SH)∧(GL≤SL+A∧SH+A≤GH)∧(at_ (o0 Sq x n) (-(V:Int))=PL∧at_ (AE Sq x n) (-(V:Int))=PH)∧(Fit (o0 Sq x n) 8193 20000∧Fit (AE Sq x n) 8193 20000)∧
   ((o0 Sq x n).neg=false∧(AE Sq x n).neg=false)∧((o0 Sq x n).mag≠[]∧(AE Sq x n).mag≠[])∧(2*(PL*PL)≤GL*2^V∧GH*2^V≤2*(PH*PH))∧N1 (2^(n-9)) PH PL∧PL≠0∧PL≤CV A B V∧CV A B V≤PH:=by
 have hV:=h.big
 obtain ⟨SL,SH,GL,GH,⟨s1,s2⟩,⟨t1,t2⟩, -, -,⟨fg1,fg2⟩,⟨e1,e2⟩,g1,g2,g3,g4,g5,g6,⟨ng1,ng2⟩,⟨mg1,mg2⟩⟩:=C7u h hp fx n1 n2
 have hX1:=v7 ng1 (-(2*V:Int))
 have hX2:=v7 ng2 (-(2*V:Int))
 obtain ⟨X1,hX1e⟩:∃X1:Nat,val (gLo Sq x n).mag*2^((gLo Sq x n).exp - -(2*V:Int)).toNat=X1:=⟨_,rfl⟩
 obtain ⟨X2,hX2e⟩:∃X2:Nat,val (gHi Sq x n).mag*2^((gHi Sq x n).exp - -(2*V:Int)).toNat=X2:=⟨_,rfl⟩
 rw [hX1e] at hX1
 rw [hX2e] at hX2
 rw [hX1] at t1
 rw [hX2] at t2
 have t1:X1*2=GL*2^V:=by
  have:((X1*2:Nat):Int)=((GL*2^V:Nat):Int):=by rw [←t1];simp
  exact Int.ofNat.inj this
 have t2:X2*2=GH*2^V:=by
  have:((X2*2:Nat):Int)=((GH*2^V:Nat):Int):=by rw [←t2];simp
  exact Int.ofNat.inj this
 obtain ⟨PL,u,⟨a1, -⟩, -,a3,a4,a5,a6, -,q,x1,b1,b2,b3,b4, -, -⟩:=Z7 fg1.may ng1 mg1 (V:=V) (n:=n) (by omega) (by omega) hX1
 obtain ⟨-, -,⟨-,c1⟩, -, -, -, -, -, -,q',x1',d1,d2,d3, -, -, -⟩:=Z7 fg1.may ng1 mg1 (V:=14000) (n:=n) (by omega) (by omega) (v7 ng1 _)
 obtain ⟨RH,uh, -,⟨r2, -⟩,r3,r4,r5,r6,r7,w,y1,v1,v2,v3,v4, -,v5⟩:=Z7 fg2.may ng2 mg2 (V:=V) (n:=n) (by omega) (by omega) hX2
 obtain ⟨-, -, -,⟨-,k2⟩, -, -, -, -, -,w',y1',l1,l2,l3, -, -, -⟩:=Z7 fg2.may ng2 mg2 (V:=14000) (n:=n) (by omega) (by omega) (v7 ng2 _)
 have hx1:=XA (b1.symm.trans d1) b2 d2 (by omega)
 have hy1:=XA (v1.symm.trans l1) v2 l2 (by omega)
 have hE:= @UG A B V
 have hpV:=A9 V
 have hSL:SL*2^V≤rtE A B V:=by
  refine GX ?_
  rw [F7,Y8]
  exact C0 _ s1
 have hSH:rtE A B V≤SH*2^V:=by
  refine HK ?_
  rw [F7 SH,Y8]
  exact D9 hE.1 (C0 _ s2)
 have hGL:=C0 (2^V) g1
 have hGH:=C0 (2^V) g2
 rw [H2] at hGL hGH
 have hPLb:PL≤CV A B V:=GX ((K8 (by decide)).2 (by omega))
 have hbs:= @JN A B V
 obtain ⟨PH,hPH⟩:∃PH:Nat,(if (C3 (gHi Sq x n) n).2=true then RH+uh else RH)=PH:=⟨_,rfl⟩
 rw [hPH] at r2
 have hPH2:X2≤PH*PH:=by
  rw [←hPH]
  split
  ·omega
  ·rename_i c
   have:¬RH*RH≠X2:=fun d=>c (r7.2 d)
   omega
 have hPHn:N1 (2^(n-1)) PH RH:=by
  rw [←hPH]
  split
  ·exact BZ (u:=uh) (I6 _) r5
  ·exact A0p _ _
 have hbP:CV A B V≤PH:=HK (by omega)
 have hGG:GH≤2*GL:=by
  have:=GJ (i:=0) (by omega) g3
  unfold N1 at this
  omega
 have hA:=(@WJ A B V).1
 have hrt:=A22 hp
 have hR:RH<2^(V+513):=by
  refine PO (T:=X2) r3 ?_
  have h1:=C0 (2^V) hGG
  rw [B9] at h1
  have e:2^(2*(V+513))=2*2^(2*V+1025):=by rw [show 2*(V+513)=(2*V+1025)+1 by omega,I5,B6]
  omega
 have hPLl:PL<2^(V+513):=L8 hPLb (C3t hp)
 have fl:=(YU b2 (by omega) n2 (by omega) b3 b4 hPLl (by decide) false).1
 have fh:=(YU v2 (by omega) n2 (by omega) v3 v4 hR (by decide) (C3 (gHi Sq x n) n).2).1
 rw [if_neg (by decide),←b1] at fl
 rw [←v5] at fh
 have nl:=A6l (d:=o0 Sq x n) fl.may (V:=V) (by have:=fl.lo;show -(V:Int)≤(C3 (gLo Sq x n) n).1.exp;omega) a1
 have nh:=A6l (d:=AE Sq x n) fh.may (V:=V) (by have:=fh.lo;show -(V:Int)≤(Y9 (gHi Sq x n) n).exp;omega) r2
 have hb0:=NE hp
 have hp0:=A9 (V-538)
 refine ⟨SL,SH,GL,GH,PL,PH,⟨s1,s2⟩,⟨g1,g2⟩,⟨a1,r2⟩,⟨fl,fh⟩,⟨nl.1,nh.1⟩,⟨nl.2 a6,nh.2 (by omega)⟩,⟨by omega,by omega⟩,?_,a6,hPLb,hbP⟩
 have k1:N1 (2^(n-5)) (X2*2) (X1*2):=by rw [t1,t2];exact PF g3 _
 have k2:N1 (2^(n-5)) RH (PL+u):=B9u (B36 (TK k1 (by decide)) r3 (by omega))
 have k3:N1 (2^(n-1)) (PL+u) PL:=BZ (I6 _) a5
 have k4:N1 (2^(n-7)) RH PL:=GK (by rw [show n-7+2=n-5 by omega];exact k2) (by rw [show n-7+2=n-5 by omega];exact GJ (by omega) k3)
 exact GK (by rw [show n-9+2=n-7 by omega];exact GJ (by omega) hPHn) (by rw [show n-9+2=n-7 by omega];exact k4)
theorem A6d (h:Off x y Sq A B V) (hp:Parts A B V) (fx:Fit x 1100 1100) (fy:Fit y 1100 1100) (n1:20≤n) (n2:n≤8192):
  ∃PL PH QL QH:Nat,(at_ (o0 Sq x n) (-(V:Int))=PL∧at_ (AE Sq x n) (-(V:Int))=PH)∧(at_ (BQ Sq x y n) (-(V:Int))=QL∧at_ (DE Sq x y n) (-(V:Int))=QH)∧(PL≤CV A B V∧CV A B V≤PH∧N1 (2^(n-9)) PH PL)∧(QL≤T3 A B V∧T3 A B V≤QH∧N1 (2^(n-11)) QH QL)∧PL≠0∧QL≠0∧
   (Fit (BQ Sq x y n) 8193 100000∧Fit (DE Sq x y n) 8193 100000)∧Fit (shD y (-1)) 1100 1101∧(shD y (-1)).neg=false∧(-(V:Int)≤(BQ Sq x y n).exp∧ -(V:Int)≤(DE Sq x y n).exp):=by
 have hV:=h.big
 have ey:=h.ey
 obtain ⟨SL,SH,GL,GH,PL,PH,⟨s1,s2⟩,⟨g1,g2⟩,⟨a1,a2⟩,⟨f1,f2⟩,⟨nn1,nn2⟩,⟨m1,m2⟩,⟨c1,c2⟩,k9,P0,b1,b2⟩:=B9a h hp fx n1 n2
 have hsy:=C4l h.y0
 have fyl:=fy.lo
 have fyh:=fy.hi
 have fs:Fit (shD y (-1)) 1100 1101:=by
  have hm:=C1u h.y0 h.my (by omega)
  rw [hsy] at hm ⊢
  exact ⟨hm,fy.bits,by simp only;omega,by simp only;omega⟩
 have ns:(shD y (-1)).neg=false:=by rw [hsy];exact h.ny
 have ms:(shD y (-1)).mag≠[]:=by rw [hsy];exact h.y0
 have exs:(shD y (-1)).exp=y.exp-1:=by rw [hsy];rfl
 have hay:=(D11 h.y0 (V:=V) (by omega)).2
 rw [h.ay] at hay
 obtain ⟨Yh,hYh⟩:∃Yh:Nat,at_ (shD y (-1)) (-(V:Int))=Yh:=⟨_,v7 ns _⟩
 rw [hYh] at hay
 have hB:Yh*2=B:=by omega
 have l1:=f1.lo
 have l2:=f2.lo
 have h1:=f1.hi
 have h2:=f2.hi
 have bb1:=f1.bits
 have bb2:=f2.bits
 obtain ⟨QL,QH',⟨q1,q1e⟩,q4,q2,q5,q3⟩:=B5k fs.may f2.may ns nn2 m2 (V:=V) (n:=n) (by omega) hYh a2 (by omega) (by omega) (by omega) (by omega)
 obtain ⟨QL',QH,r4,⟨r1,r1e⟩,r5,r2,r3⟩:=B5k fs.may f1.may ns nn1 m1 (V:=V) (n:=n) (by omega) hYh a1 (by omega) (by omega) (by omega) (by omega)
 have q3:=(q3 ms).1
 have r3:=(r3 ms).2
 have hb:B*2^V=2*(Yh*2^V):=by rw [←hB,B6 Yh 2,B9]
 have hE:= @UG A B V
 have hpar:= @GN A B V
 have hb0:B*2^V≠0:=X0 hp.off (R6.1 (A9 V))
 have hSHq:(A*A+B*B)*2^(2*V)≤SH*2^V*(SH*2^V):=by rw [F7 SH,Y8];exact C0 _ s2
 have hSLq:SL*2^V*(SL*2^V)≤(A*A+B*B)*2^(2*V):=by rw [F7 SL,Y8];exact C0 _ s1
 have hGL:=C0 (2^V) g1
 have hGH:=C0 (2^V) g2
 rw [H2] at hGL hGH
 have sq2:∀q p:Nat,2*(q*q)*(2*(p*p))=2*(q*p)*(2*(q*p)):=by
  intro q p
  rw [F7,F7 q q p p,F7 2 (q*p)]
 have lowQ:QL≤T3 A B V:=by
  have h1:2*(QL*QL)*(SH*2^V+A*2^V)≤B*2^V*(B*2^V):=by
   refine D9 (F2 _ (D9 hGH c2)) ?_
   rw [sq2,hb]
   exact I7 (F2 2 q2) (F2 2 q2)
  have h2:=D14 h1 hpar hSHq hb0
  have h2:2*(QL*QL)+A*2^V≤rtE A B V:=h2
  exact GX ((K8 (by decide)).2 (by omega))
 have highQ:T3 A B V≤QH:=by
  have hs:=(@FI A B V).1
  have h1:B*2^V*(B*2^V)≤2*(QH*QH)*(SL*2^V+A*2^V):=by
   refine D9 ?_ (F2 _ (D9 c1 hGL))
   rw [sq2,hb]
   exact I7 (F2 2 r2) (F2 2 r2)
  have h2:=D13 (W:=2*(T3 A B V*T3 A B V)) h1 hpar hSLq (D9 (I7 hs hs) hE.1)
  exact HK (by omega)
 have nearQ:N1 (2^(n-11)) QH QL:=by
  have e1:N1 (2^(n-3)) (QH*PL) (QL*PH):=GK (by rw [show n-3+2=n-1 by omega];exact r3) (by rw [show n-3+2=n-1 by omega];exact q3)
  have e2:N1 (2^(n-9)) (QL*PH) (QL*PL):=by rw [B6 QL PH,B6 QL PL];exact PF k9 QL
  have e3:N1 (2^(n-11)) (QH*PL) (QL*PL):=GK (by rw [show n-11+2=n-9 by omega];exact GJ (by omega) e1) (by rw [show n-11+2=n-9 by omega];exact e2)
  exact TK e3 (by omega)
 have hs0:=HJ hp
 have hp0:=A9 (V-1588)
 have Q0:QL≠0:=fun e=>by
  subst e
  unfold N1 at nearQ
  have:=U9 (show 0<QH by omega) (A9 (n-11))
  omega
 have fq1:Fit (BQ Sq x y n) 8193 100000:=(B07 (fs.mono (L':=8193) (E':=20000) (by decide) (by decide)) f2 nn2 m2 (n:=(n:Int)) ⟨by omega,by omega⟩ (by decide) false).mono (by omega) (by decide)
 have fq2:Fit (DE Sq x y n) 8193 100000:=(B07 (fs.mono (L':=8193) (E':=20000) (by decide) (by decide)) f1 nn1 m1 (n:=(n:Int)) ⟨by omega,by omega⟩ (by decide) true).mono (by omega) (by decide)
 exact ⟨PL,PH,QL,QH,⟨a1,a2⟩,⟨q1,r1⟩,⟨b1,b2,k9⟩,⟨lowQ,highQ,nearQ⟩,P0,Q0,⟨fq1,fq2⟩,fs,ns,⟨q1e,r1e⟩⟩
theorem A6f {lo hi R K:Nat} (h1:lo≤R) (h2:R≤hi) (hn:N1 (2^(n-11)) hi lo) (n1:4700≤n) (n2:n≤8192) (hK:20000≤K) (hR:2^K≤R) (hfar:∀Z:Int,2^(bl R-4600)≤((R:Int)-Z*2^(bl R-65)).natAbs) {b:Nat} (b1:1≤b) (b2:b≤64):
  W0 (lo:Int) b=W0 (hi:Int) b∧(0:Int)<lo:=by
 have hbl:K<bl R:=a9.2 hR
 have hlt:=P9 R
 have hge:2^(bl R-1)≤R:=W6 (by have:=A9 K;omega)
 have hw:(hi:Int)-lo≤2^(bl R-(n-11)):=by
  unfold N1 at hn
  rw [D0,M0] at hn
  have h3:(hi-lo)*2^(n-11)≤lo:=by rw [Nat.sub_mul];omega
  have h4:(hi-lo)*2^(n-11)<2^(bl R-(n-11))*2^(n-11):=by
   rw [←B8,show bl R-(n-11)+(n-11)=bl R by omega]
   omega
  have h5:=MT h4
  have:=Y7 (bl R-(n-11))
  omega
 have hcn:=C78 (lo:=(lo:Int)) (R:=(R:Int)) (hi:=(hi:Int)) (b:=b) (G:=bl R-65) (B:=bl R-1) (W:=bl R-(n-11)) (F:=bl R-4600) (by omega) (by omega) hw (by omega) (by omega) (by rw [Int.natAbs_natCast];exact hge) (by omega) b1 hfar
 refine ⟨by rw [hcn.1,hcn.2.1],?_⟩
 exact hcn.2.2.1 (by have:=A9 K;omega)
end
end Go.Dy

namespace Go.Dy
def refuse (x:Dyd) (b:Int):Int:=if (A5 x&&decide (1≤b))=true then (if 6000<b∨40<x.mag.length then 3 else if 1100<C7 x then 20 else 0) else 2
end Go.Dy
namespace Go.AI
open Go Go.RowKit Go.Proofs
set_option linter.unusedVariables false
def D46:List (Nat×(List AV→Option Spec)):=D45
end Go.AI

namespace Go.Dy
theorem EV (z e:Int):C8 (-z) e=G9 (C8 z e):=by
 by_cases hz:z=0
 ·subst hz
  rfl
 ·unfold C8
  have h1:z.natAbs≠0:=by omega
  rw [Int.natAbs_neg,H6 h1,H6 h1]
  unfold G9
  have:dg (z.natAbs/2^tz z.natAbs)≠[]:=fun e0=>by
   have h0:=T6.1 e0
   have h1:=T0 h1
   omega
  simp only [decide_eq_true this,PY,Dyd.mk.injEq,and_true]
  by_cases c:z<0
  ·rw [decide_eq_true c,decide_eq_false (by omega)];rfl
  ·rw [decide_eq_false c,decide_eq_true (by omega)];rfl
theorem GY {x:Dyd} (h:A5 x=true):A5 (G9 x)=true:=Go.AI.NQ h
theorem C77 {x:Dyd} (h:A5 x=true) {b:Nat} (hb:1≤b):(F6 (G9 x) b).1=G9 (F6 x b).1:=by
 have he:=J2 h
 have hV: -(((-x.exp).toNat:Nat):Int)≤x.exp:=by omega
 have hV': -(((-x.exp).toNat:Nat):Int)≤(G9 x).exp:=hV
 rw [SM h hb hV,SM (GY h) hb hV',FX,NH,EV]
theorem A6j {x:Dyd} (h:A5 x=true):G9 (G9 x)=x:=by
 obtain ⟨s,m,e⟩:=x
 unfold G9
 by_cases c:m=[]
 ·subst c
  have:s=false:=by
   unfold A5 at h
   simp only [if_true,K9,G0] at h
   exact h.2.1
  subst this
  rfl
 ·simp only [decide_eq_true c,PY,Bool.not_not]
end Go.Dy

namespace Go.Dy
set_option maxRecDepth 100000
def okR (lo hi:Dyd) (b:Int):Bool:= !decide (y5 lo hi=0)&&decide (Y1 (F6 lo b).1 (F6 hi b).1=0)
theorem PI {lo hi:Dyd} {b:Int}:okR lo hi b=true ↔ y5 lo hi≠0∧Y1 (F6 lo b).1 (F6 hi b).1=0:=by
 unfold okR
 simp only [K9,G0,decide_eq_true_eq,decide_eq_false_iff_not,ne_eq]
theorem A0s {lo hi:Dyd} {V b:Nat} (ha:A5 lo=true) (hc:A5 hi=true) (ea: -(V:Int)≤lo.exp) (ec: -(V:Int)≤hi.exp) (hle:at_ lo (-(V:Int))≤at_ hi (-(V:Int))) (hb:1≤b):
  okR lo hi b=true ↔ (0<at_ lo (-(V:Int))∨at_ hi (-(V:Int))<0)∧W0 (at_ lo (-(V:Int))) b=W0 (at_ hi (-(V:Int))) b:=by
 rw [PI,C6a ha hc ea ec hle,QY (C3z hb ha ea) (C3z hb hc ec),B2b ha hb ea,B2b hc hb ec]
theorem A61 {lo hi:Dyd} {V b:Nat} {R:Int} (ha:A5 lo=true) (hc:A5 hi=true) (ea: -(V:Int)≤lo.exp) (ec: -(V:Int)≤hi.exp) (h1:at_ lo (-(V:Int))≤R) (h2:R≤at_ hi (-(V:Int))) (hb:1≤b) (hk:okR lo hi b=true):
  (F6 lo b).1=C8 (W0 R b) (-(V:Int)):=by
 obtain ⟨hs,he⟩:=(A0s ha hc ea ec (by omega) hb).1 hk
 rw [SM ha hb ea,B2c hb h1 h2 hs he]
theorem C4c {lo hi:Dyd} {V b:Nat} (ha:A5 lo=true) (hc:A5 hi=true) (ea: -(V:Int)≤lo.exp) (ec: -(V:Int)≤hi.exp) (hle:at_ lo (-(V:Int))≤at_ hi (-(V:Int))) (hb:1≤b):okR (G9 hi) (G9 lo) b=okR lo hi b:=by
 have ma:A5 (G9 lo)=true:=GY ha
 have mc:A5 (G9 hi)=true:=GY hc
 have xa:(G9 lo).exp=lo.exp:=rfl
 have xc:(G9 hi).exp=hi.exp:=rfl
 rw [Bool.eq_iff_iff,A0s ha hc ea ec hle hb,A0s (V:=V) mc ma (by omega) (by omega) (by rw [FX,FX];omega) hb,FX,FX,NH,NH]
 constructor
 ·rintro ⟨h1,h2⟩;exact ⟨by omega,by omega⟩
 ·rintro ⟨h1,h2⟩;exact ⟨by omega,by omega⟩
def crV:Nat:=40000
def BO (d:Dyd):Nat:=(at_ d (-(crV:Int))).natAbs
def EC (x y:Dyd) (b:Nat):Dyd:=C8 (W0 (CV (BO x) (BO y) crV:Nat) b) (-(crV:Int))
def V6 (x y:Dyd) (b:Nat):Dyd:=C8 (W0 (T3 (BO x) (BO y) crV:Nat) b) (-(crV:Int))
structure offZ (x y:Dyd):Prop where
 mx:A5 x=true
 nx:x.neg=false
 my:A5 y=true
 ny:y.neg=false
 y0:y.mag≠[]
 bx:bl (val x.mag)≤53
 by_:bl (val y.mag)≤53
 ex: -1074≤x.exp
 ey: -1074≤y.exp
 tx:C7 x≤1024
 ty:C7 y≤1024
 sq:(C3 (C2 (E6 x x) (E6 y y)) 4500).2=true
theorem HM {d:Dyd} (hm:A5 d=true) (hn:d.neg=false) {V T:Nat} (hV: -(V:Int)≤d.exp) (ht:C7 d≤T):∃X:Nat,at_ d (-(V:Int))=X∧X<2^(V+T)∧(d.mag≠[]→X≠0):=by
 refine ⟨_,v7 hn _,?_,fun h0=> ?_⟩
 ·by_cases h0:d.mag=[]
  ·rw [h0,show val []=0 from rfl,Nat.zero_mul]
   exact A9 _
  ·have ht2:C7 d=d.exp+bl (val d.mag):=by unfold C7;rw [if_neg h0]
   have h1:=P9 (val d.mag)
   have h2:=L3 h1 (A9 (d.exp - -(V:Int)).toNat)
   rw [←B8] at h2
   exact G7 h2 (B3 (by decide) (by omega))
 ·exact X0 (Q1 (C1 (s:=d.neg) (e:=d.exp) hm) h0) (R6.1 (A9 _))
theorem VL {d:Dyd} (hn:d.neg=false) {V k X:Nat} (hV: -(V:Int)+k≤d.exp) (hX:at_ d (-(V:Int))=X):2^k∣X:=by
 rw [v7 hn] at hX
 have hX:=Int.ofNat.inj hX
 obtain ⟨j,hj⟩:∃j,(d.exp - -(V:Int)).toNat=k+j:=⟨(d.exp - -(V:Int)).toNat-k,by omega⟩
 rw [←hX,hj,B8,Nat.mul_left_comm]
 exact ⟨_,rfl⟩
theorem FC {d:Dyd} (hm:A5 d=true) (hb:bl (val d.mag)≤53) (he: -1074≤d.exp) (ht:C7 d≤1024):Fit d 1100 1100:=by
 refine ⟨hm,by omega,by omega,?_⟩
 by_cases h0:d.mag=[]
 ·have:d.exp=0:=by
   have h:=hm
   obtain ⟨s,m,e⟩:=d
   rw [S2] at h
   rcases h.2 with h|h
   ·exact h.2.2
   ·exact absurd h0 h.1
  omega
 ·have ht2:C7 d=d.exp+bl (val d.mag):=by unfold C7;rw [if_neg h0]
  omega
theorem RO:∀(k s:Nat),2^(2*k)∣s*s→2^k∣s
 |0,s,_=>⟨s,by simp⟩
 |k+1,s,h=>by
  have e:2^(2*(k+1))=4*2^(2*k):=by rw [show 2*(k+1)=2*k+2 by omega,B8,B6]
  rw [e] at h
  obtain ⟨c,hc⟩:=h
  rw [B9] at hc
  obtain ⟨j,rfl⟩:∃j,s=2*j:=by
   rcases Nat.mod_two_eq_zero_or_one s with d|d
   ·exact ⟨s/2,by omega⟩
   ·exfalso
    have h1:s*s%2=1:=by rw [Nat.mul_mod,d]
    omega
  have e2:2*j*(2*j)=4*(j*j):=by rw [F7]
  obtain ⟨d,hd⟩:=RO k j ⟨c,by omega⟩
  exact ⟨d,by rw [hd,I5,B6 (2^k) 2,B9]⟩
theorem TL {x y:Dyd} (h:offZ x y) {V:Nat} (hV:V=crV):Off x y (C2 (E6 x x) (E6 y y)) (BO x) (BO y) V∧Parts (BO x) (BO y) V∧Fit x 1100 1100∧Fit y 1100 1100∧Fit (C2 (E6 x x) (E6 y y)) 20000 20000∧
  isq (BO x*BO x+BO y*BO y)*isq (BO x*BO x+BO y*BO y)≠BO x*BO x+BO y*BO y:=by
 have hV4:V=40000:=hV
 have fx:=FC h.mx h.bx h.ex h.tx
 have fy:=FC h.my h.by_ h.ey h.ty
 have exx:=h.ex
 have exy:=h.ey
 obtain ⟨A,hA,lA, -⟩:=HM h.mx h.nx (V:=V) (T:=1024) (by omega) h.tx
 obtain ⟨B,hB,lB,B0⟩:=HM h.my h.ny (V:=V) (T:=1024) (by omega) h.ty
 have eA:BO x=A:=by unfold BO;rw [←hV,hA];rfl
 have eB:BO y=B:=by unfold BO;rw [←hV,hB];rfl
 rw [eA,eB]
 have f1:=(KW fx fx (by decide) (by decide)).1
 have f2:=(KW fy fy (by decide) (by decide)).1
 have fS:=(KV f1 f2 (by decide) (by decide)).1
 have x1: -(2148:Int)≤(E6 x x).exp:=by
  exact GR (by omega) (by omega)
 have x2: -(2148:Int)≤(E6 y y).exp:=by
  exact GR (by omega) (by omega)
 have xS: -(2148:Int)≤(C2 (E6 x x) (E6 y y)).exp:=by
  rw [x5 x1 x2]
  exact s0 (u9 _) (by omega)
 have aS:at_ (C2 (E6 x x) (E6 y y)) (-(2*V:Int))=((A*A+B*B:Nat):Int):=by
  rw [SD (by omega) (by omega),show -(2*V:Int)= -(V:Int)+ -(V:Int) by omega,OP (by omega) (by omega),OP (by omega) (by omega),hA,hB]
  simp
 have hB0:=B0 h.y0
 have hS0:A*A+B*B≠0:=by
  have:=U9 (show 0<B by omega) (show 0<B by omega)
  omega
 have nS:(C2 (E6 x x) (E6 y y)).neg=false∧(C2 (E6 x x) (E6 y y)).mag≠[]:=by
  have e:=BK fS.may (u:= -(2*V:Int)) (by omega)
  rw [aS] at e
  have e2:form false (A*A+B*B) (-(2*V:Int))=C2 (E6 x x) (E6 y y):=by rw [W2];exact e
  rw [←e2]
  exact ⟨OW _ _,IE hS0 _⟩
 obtain ⟨N,hN⟩:∃N:Nat,N=4500:=⟨_,rfl⟩
 have hsq:(C3 (C2 (E6 x x) (E6 y y)) N).2=true:=by rw [hN];exact h.sq
 obtain ⟨L,u, -, -,l1,l2,l5, -,l7,q,x1, -,l8, -,l9,l10, -⟩:=Z7 fS.may nS.1 nS.2 (V:=V) (n:=N) (by omega) (by omega) aS
 have hns:isq (A*A+B*B)*isq (A*A+B*B)≠A*A+B*B:=by
  intro c
  have hl:L*L≠A*A+B*B:=l7.1 hsq
  apply hl
  have dA:=VL h.nx (V:=V) (k:=V-1074) (by omega) hA
  have dB:=VL h.ny (V:=V) (k:=V-1074) (by omega) hB
  obtain ⟨α,hα⟩:=dA
  obtain ⟨β,hβ⟩:=dB
  have ds:2^(2*(V-1074))∣isq (A*A+B*B)*isq (A*A+B*B):=by
   rw [c,hα,hβ,F7,F7 (2^(V-1074)) β,Y8,←D0]
   exact ⟨_,rfl⟩
  have ds:=RO _ _ ds
  have hlt:A*A+B*B<2^(2*(V+1025)):=by
   have a:=K3 lA lA
   have b:=K3 lB lB
   rw [Y8] at a b
   have e:2^(2*(V+1025))=4*2^(2*(V+1024)):=by rw [show 2*(V+1025)=2*(V+1024)+2 by omega,B8,B6]
   omega
  have hL:L<2^(V+1025):=PO l1 hlt
  generalize isq (A*A+B*B)=s at*
  have s1:L≤s:=HK (by omega)
  have s2:s<L+u:=by
   rcases L4 s (L+u) with d|d
   ·exact d
   ·have:=I7 d d
    omega
  rw [←l10] at l9
  have hu:(x1+V).toNat≤V-1074:=by
   rcases L4 (V-1074) (x1+V).toNat with d|d
   ·exfalso
    have k1:=B3 (n:=2) (by decide) (Nat.le_of_lt d)
    have k2:=C0 (2^(N-1)) k1
    rw [←l10,←B8] at k2
    have k3:=B3 (n:=2) (by decide) (show V+1025≤V-1074+(N-1) by omega)
    omega
   ·exact d
  obtain ⟨w,hw⟩:u∣s:=Nat.dvd_trans (by rw [l10];exact Nat.pow_dvd_pow 2 hu) ds
  have hup:0<u:=by rw [l10];exact A9 _
  have e1:w=q:=by
   have a1:q*u≤w*u:=by rw [B6 w];omega
   have a2:w*u<(q+1)*u:=by rw [H2,B6 w];omega
   have:=GP a1 hup
   have:=MT a2
   omega
  have e2:s=L:=by rw [hw,e1,l9,B6]
  rw [←e2]
  exact c
 exact ⟨⟨by omega,h.mx,h.nx,h.my,h.ny,h.y0,fS.may,nS.1,nS.2,hA,hB,aS,by omega,by omega,by omega⟩,⟨by omega,VL h.nx (by omega) hA,VL h.ny (by omega) hB,hB0,lA,lB⟩,fx,fy,fS.mono (by decide) (by decide),hns⟩
theorem A07 {x y:Dyd} (h:offZ x y) {n:Nat} (n1:20≤n) (n2:n≤8192):
  ((Fit (o0 (C2 (E6 x x) (E6 y y)) x n) 8193 20000∧Fit (AE (C2 (E6 x x) (E6 y y)) x n) 8193 20000)∧(Fit (BQ (C2 (E6 x x) (E6 y y)) x y n) 8193 100000∧Fit (DE (C2 (E6 x x) (E6 y y)) x y n) 8193 100000))∧
  ((∀b:Nat,1≤b→okR (o0 (C2 (E6 x x) (E6 y y)) x n) (AE (C2 (E6 x x) (E6 y y)) x n) b=true→(F6 (o0 (C2 (E6 x x) (E6 y y)) x n) b).1=EC x y b)∧
   (∀b:Nat,1≤b→okR (BQ (C2 (E6 x x) (E6 y y)) x y n) (DE (C2 (E6 x x) (E6 y y)) x y n) b=true→(F6 (BQ (C2 (E6 x x) (E6 y y)) x y n) b).1=V6 x y b))∧
  (4700≤n→∀b:Nat,1≤b→b≤64→okR (o0 (C2 (E6 x x) (E6 y y)) x n) (AE (C2 (E6 x x) (E6 y y)) x n) b=true∧okR (BQ (C2 (E6 x x) (E6 y y)) x y n) (DE (C2 (E6 x x) (E6 y y)) x y n) b=true)∧
  (∀b:Nat,1≤b→okR (G9 (AE (C2 (E6 x x) (E6 y y)) x n)) (G9 (o0 (C2 (E6 x x) (E6 y y)) x n)) b=okR (o0 (C2 (E6 x x) (E6 y y)) x n) (AE (C2 (E6 x x) (E6 y y)) x n) b∧
   okR (G9 (DE (C2 (E6 x x) (E6 y y)) x y n)) (G9 (BQ (C2 (E6 x x) (E6 y y)) x y n)) b=okR (BQ (C2 (E6 x x) (E6 y y)) x y n) (DE (C2 (E6 x x) (E6 y y)) x y n) b):=by
 obtain ⟨V,hV⟩:∃V,V=crV:=⟨_,rfl⟩
 obtain ⟨ho,hp,fx,fy,fS,hns⟩:=TL h hV
 have hV4:V=40000:=hV
 have fb:=D2q hp hns
 have fs:=C5h hp hns
 have bl1:=NE hp
 have bl2:=HJ hp
 obtain ⟨SL,SH,GL,GH,PL',PH', -, -, -,⟨fl1,fl2⟩, -⟩:=B9a ho hp fx n1 n2
 obtain ⟨PL,PH,QL,QH,⟨a1,a2⟩,⟨a3,a4⟩,⟨p1,p2,p3⟩,⟨q1,q2,q3⟩,P0,Q0,⟨fq1,fq2⟩, -, -,⟨xq1,xq2⟩⟩:=A6d ho hp fx fy n1 n2
 have xp1: -(V:Int)≤(o0 (C2 (E6 x x) (E6 y y)) x n).exp:=by have:=fl1.lo;omega
 have xp2: -(V:Int)≤(AE (C2 (E6 x x) (E6 y y)) x n).exp:=by have:=fl2.lo;omega
 unfold EC V6
 rw [←hV]
 refine ⟨⟨⟨fl1,fl2⟩,fq1,fq2⟩,⟨fun b b1 hk=> ?_,fun b b1 hk=> ?_⟩,fun h4 b b1 b2=>⟨?_,?_⟩,fun b b1=>⟨?_,?_⟩⟩
 ·exact A61 fl1.may fl2.may xp1 xp2 (by rw [a1];omega) (by rw [a2];omega) b1 hk
 ·exact A61 fq1.may fq2.may xq1 xq2 (by rw [a3];omega) (by rw [a4];omega) b1 hk
 ·have hk:=A6f p1 p2 (GJ (by omega) p3) h4 n2 (K:=V-538) (by omega) bl1 fb b1 b2
  rw [A0s fl1.may fl2.may xp1 xp2 (by rw [a1,a2];omega) b1,a1,a2]
  exact ⟨.inl hk.2,hk.1⟩
 ·have hk:=A6f q1 q2 q3 h4 n2 (K:=V-1588) (by omega) bl2 fs b1 b2
  rw [A0s fq1.may fq2.may xq1 xq2 (by rw [a3,a4];omega) b1,a3,a4]
  exact ⟨.inl hk.2,hk.1⟩
 ·exact C4c fl1.may fl2.may xp1 xp2 (by rw [a1,a2];omega) b1
 ·exact C4c fq1.may fq2.may xq1 xq2 (by rw [a3,a4];omega) b1
end Go.Dy

namespace Go.Dy
def K4 (d:Dyd):Dyd:=if d.neg then GF d (K0 (C7 d-66)) else C2 d (K0 (C7 d-66))
def sqD (X Y:Dyd):Dyd:=C2 (E6 (B7 X) (B7 X)) (E6 (B7 Y) (B7 Y))
def Z4 (X Y:Dyd) (n:Int):Dyd:=bif X.neg then BQ (sqD X Y) (B7 X) (B7 Y) n else o0 (sqD X Y) (B7 X) n
def g9 (X Y:Dyd) (n:Int):Dyd:=bif X.neg then DE (sqD X Y) (B7 X) (B7 Y) n else AE (sqD X Y) (B7 X) n
def CX (X Y:Dyd) (n:Int):Dyd:=bif X.neg then o0 (sqD X Y) (B7 X) n else BQ (sqD X Y) (B7 X) (B7 Y) n
def EZ (X Y:Dyd) (n:Int):Dyd:=bif X.neg then AE (sqD X Y) (B7 X) n else DE (sqD X Y) (B7 X) (B7 Y) n
def EY (X Y:Dyd) (n:Int):Dyd:=bif Y.neg then G9 (EZ X Y n) else CX X Y n
def FO (X Y:Dyd) (n:Int):Dyd:=bif Y.neg then G9 (CX X Y n) else EZ X Y n
structure capOk (X Y x1 x2 q1 q2 y1 y2:Dyd) (h:Bool):Prop where
 ex1:x1=X
 ex2:x2=X
 eq1:q1=sqD X Y
 eq2:q2=sqD X Y
 ey1:y1=Y
 ey2:y2=Y
 off:offZ (B7 X) (B7 Y)
 mx:A5 X=true
 my:A5 Y=true
 hs:h=Y.neg
def reD (X Y:Dyd):Dyd:=bif X.neg then V6 (B7 X) (B7 Y) 64 else EC (B7 X) (B7 Y) 64
def imD (X Y:Dyd):Dyd:=bif Y.neg then G9 (bif X.neg then EC (B7 X) (B7 Y) 64 else V6 (B7 X) (B7 Y) 64) else (bif X.neg then EC (B7 X) (B7 Y) 64 else V6 (B7 X) (B7 Y) 64)
def RR (ok:Int→Bool):Nat→Int→Int
 |0,n=>n
 |j+1,n=>if ok (min n 6000) then n else RR ok j (n+(n/2+200))
def Z6 (m:Int) (neg:Bool):Int:=if neg=true∧4≤m then 9-m else m
def S5 (f m:Int) (d:Dyd) (neg:Bool):Nat×Int:=(if neg then YE f (S3 f (Z6 m neg) d).1 else (S3 f (Z6 m neg) d).1,(S3 f (Z6 m neg) d).2)
def ME (f m:Int) (X Y:Dyd) (h:Bool):(Nat×Int)×(Nat×Int):=
 if (C3 (sqD X Y) 4500).2=false then (S5 f m (shD (C2 (C3 (sqD X Y) 4500).1 X) (-1)) false,S5 f m (shD (GF (C3 (sqD X Y) 4500).1 X) (-1)) h)
 else (H8 f m (K4 (reD X Y)),H8 f m (K4 (imD X Y)))
structure numOk (f m:Int) (X Y:Dyd) (h:Bool):Prop where
 em:L2 f m=0
 mx:A5 X=true
 my:A5 Y=true
 y0:Y.mag≠[]
 bx:bl (val X.mag)≤53
 by_:bl (val Y.mag)≤53
 ex: -1074≤X.exp
 ey: -1074≤Y.exp
 tx:C7 X≤1024
 ty:C7 Y≤1024
 hs:h=Y.neg
def NG (f m a b:Int):(Nat×Int)×(Nat×Int):=
 if D3 f b.toNat=1 then
  if (S6 f a.toNat).neg then ((D5 f false,0),S5 f m (B7 (S6 f a.toNat)) (o9 f b.toNat))
  else (S5 f m (S6 f a.toNat) false,(D5 f (o9 f b.toNat),0))
 else ME f m (S6 f a.toNat) (S6 f b.toNat) (o9 f b.toNat)
end Go.Dy
namespace Go.AI
open Go Go.RowKit Go.Proofs
set_option linter.unusedVariables false
def avP (p:(Nat×Int)×(Nat×Int)):AV:= .agg [.num .u64 (p.1.1:Nat),.num .u64 (p.2.1:Nat),.num .u8 p.1.2,.num .u8 p.2.2]
def C1g:List AV→Option Spec
 |[.num .i64 n,.agg [.bool s,.dig [2] m,.num .i64 e,.bool s',.dig [2] m',.num .i64 e'],.agg [.bool t,.dig [3] l,.num .i64 f,.bool t',.dig [3] l',.num .i64 f']]=>
  some ⟨some (Dy.A5 ⟨s,m,e⟩=true∧Dy.A5 ⟨s',m',e'⟩=true∧Dy.A5 ⟨t,l,f⟩=true∧Dy.A5 ⟨t',l',f'⟩=true∧Dy.mid (Dy.C2 ⟨s,m,e⟩ ⟨t,l,f⟩)∧Dy.mid (Dy.C2 ⟨s',m',e'⟩ ⟨t',l',f'⟩)∧1≤n∧n≤8192),
   avS [0] (Dy.O7 (Dy.C2 ⟨s,m,e⟩ ⟨t,l,f⟩) n false) (Dy.O7 (Dy.C2 ⟨s',m',e'⟩ ⟨t',l',f'⟩) n true)⟩
 |_=>none
def B0h:List AV→Option Spec
 |[.num .i64 n,.agg [.bool s,.dig [2] m,.num .i64 e,.bool s',.dig [2] m',.num .i64 e']]=>
  some ⟨some (Dy.A5 ⟨s,m,e⟩=true∧Dy.A5 ⟨s',m',e'⟩=true∧s=false∧s'=false∧m≠[]∧m'≠[]∧1≤n∧n≤8192∧ -16777216≤Dy.C7 (Dy.C3 ⟨s',m',e'⟩ n).1-n∧Dy.C7 (Dy.C3 ⟨s',m',e'⟩ n).1-n≤16777216∧Dy.A5 (Dy.Y9 ⟨s',m',e'⟩ n)=true),
   avS [0] (Dy.C3 ⟨s,m,e⟩ n).1 (Dy.Y9 ⟨s',m',e'⟩ n)⟩
 |_=>none
def B0d:List AV→Option Spec
 |[.agg [.bool s,.dig [1] m,.num .i64 e]]=>some ⟨some (Dy.mid ⟨s,m,e⟩∧Dy.A5 (Dy.K4 ⟨s,m,e⟩)=true),avD [0] (Dy.K4 ⟨s,m,e⟩)⟩
 |_=>none
def D1d:List (Nat×(List AV→Option Spec)):=(74,C1g)::(82,B0h)::(155,B0d)::B66
def B8e:List AV→Option Spec
 |[.num .i64 n,.cref [2] [.bool t,.dig [2] l,.num .i64 i,.bool t',.dig [2] l',.num .i64 i'],.cref [3] [.num .u8 f,.num .u8 m,.num .u64 a,.num .u64 b,.num .u8 k,.num .u8 k',.bool g,.bool h,.bool s,.dig [3] d,.num .i64 e,.bool s',.dig [3] d',.num .i64 e'],.cref [4] [.bool u,.dig [4] v,.num .i64 w,.bool u',.dig [4] v',.num .i64 w'],.cref [5] [.bool o,.dig [5] q,.num .i64 r,.bool o',.dig [5] q',.num .i64 r']]=>
  some ⟨some (Dy.capOk ⟨s,d,e⟩ ⟨s',d',e'⟩ ⟨t,l,i⟩ ⟨t',l',i'⟩ ⟨u,v,w⟩ ⟨u',v',w'⟩ ⟨o,q,r⟩ ⟨o',q',r'⟩ h∧20≤n∧n≤8192),.tup [avS [0] (Dy.Z4 ⟨s,d,e⟩ ⟨s',d',e'⟩ n) (Dy.g9 ⟨s,d,e⟩ ⟨s',d',e'⟩ n),avS [0] (Dy.EY ⟨s,d,e⟩ ⟨s',d',e'⟩ n) (Dy.FO ⟨s,d,e⟩ ⟨s',d',e'⟩ n)]⟩
 |_=>none
def C4t:List (Nat×(List AV→Option Spec)):=(80,B8e)::D1d
def B8f:List AV→Option Spec
 |[.num .i64 n,.cref [2] [.fn F [.cref [2] [.bool t,.dig [2] l,.num .i64 i,.bool t',.dig [2] l',.num .i64 i'],.cref [2] [.num .u8 f,.num .u8 m,.num .u64 a,.num .u64 b,.num .u8 k,.num .u8 k',.bool g,.bool h,.bool s,.dig [2] d,.num .i64 e,.bool s',.dig [2] d',.num .i64 e'],.cref [2] [.bool u,.dig [2] v,.num .i64 w,.bool u',.dig [2] v',.num .i64 w'],.cref [2] [.bool o,.dig [2] q,.num .i64 r,.bool o',.dig [2] q',.num .i64 r']]]]=>
  if F=80 then some ⟨some (Dy.capOk ⟨s,d,e⟩ ⟨s',d',e'⟩ ⟨t,l,i⟩ ⟨t',l',i'⟩ ⟨u,v,w⟩ ⟨u',v',w'⟩ ⟨o,q,r⟩ ⟨o',q',r'⟩ h∧20≤n∧n≤8192),.tup [avS [0] (Dy.Z4 ⟨s,d,e⟩ ⟨s',d',e'⟩ n) (Dy.g9 ⟨s,d,e⟩ ⟨s',d',e'⟩ n),.bool true]⟩ else none
 |_=>none
def B8g:List AV→Option Spec
 |[.num .i64 n,.cref [2] [.fn F [.cref [2] [.bool t,.dig [2] l,.num .i64 i,.bool t',.dig [2] l',.num .i64 i'],.cref [2] [.num .u8 f,.num .u8 m,.num .u64 a,.num .u64 b,.num .u8 k,.num .u8 k',.bool g,.bool h,.bool s,.dig [2] d,.num .i64 e,.bool s',.dig [2] d',.num .i64 e'],.cref [2] [.bool u,.dig [2] v,.num .i64 w,.bool u',.dig [2] v',.num .i64 w'],.cref [2] [.bool o,.dig [2] q,.num .i64 r,.bool o',.dig [2] q',.num .i64 r']]]]=>
  if F=80 then some ⟨some (Dy.capOk ⟨s,d,e⟩ ⟨s',d',e'⟩ ⟨t,l,i⟩ ⟨t',l',i'⟩ ⟨u,v,w⟩ ⟨u',v',w'⟩ ⟨o,q,r⟩ ⟨o',q',r'⟩ h∧20≤n∧n≤8192),.tup [avS [0] (Dy.EY ⟨s,d,e⟩ ⟨s',d',e'⟩ n) (Dy.FO ⟨s,d,e⟩ ⟨s',d',e'⟩ n),.bool true]⟩ else none
 |_=>none
def OF:List (Nat×(List AV→Option Spec)):=(86,B8f)::(87,B8g)::C4t
def A7o:List AV→Option Spec
 |[.fn G [.cref [1] [.fn F [.cref [1] [.bool t,.dig [1] l,.num .i64 i,.bool t',.dig [1] l',.num .i64 i'],.cref [1] [.num .u8 f,.num .u8 m,.num .u64 a,.num .u64 b,.num .u8 k,.num .u8 k',.bool g,.bool h,.bool s,.dig [1] d,.num .i64 e,.bool s',.dig [1] d',.num .i64 e'],.cref [1] [.bool u,.dig [1] v,.num .i64 w,.bool u',.dig [1] v',.num .i64 w'],.cref [1] [.bool o,.dig [1] q,.num .i64 r,.bool o',.dig [1] q',.num .i64 r']]]]]=>
  if F=80 then
   if G=86 then some ⟨some (Dy.capOk ⟨s,d,e⟩ ⟨s',d',e'⟩ ⟨t,l,i⟩ ⟨t',l',i'⟩ ⟨u,v,w⟩ ⟨u',v',w'⟩ ⟨o,q,r⟩ ⟨o',q',r'⟩ h),avD [0] (Dy.K4 (Dy.reD ⟨s,d,e⟩ ⟨s',d',e'⟩))⟩
   else if G=87 then some ⟨some (Dy.capOk ⟨s,d,e⟩ ⟨s',d',e'⟩ ⟨t,l,i⟩ ⟨t',l',i'⟩ ⟨u,v,w⟩ ⟨u',v',w'⟩ ⟨o,q,r⟩ ⟨o',q',r'⟩ h),avD [0] (Dy.K4 (Dy.imD ⟨s,d,e⟩ ⟨s',d',e'⟩))⟩
   else none
  else none
 |_=>none
def US:List (Nat×(List AV→Option Spec)):=(85,A7o)::OF
def A5y:List AV→Option Spec
 |[.agg [.num .u64 a,.num .u8 b],.agg [.num .u64 c,.num .u8 d]]=>some ⟨none,.agg [.num .u64 a,.num .u64 c,.num .u8 b,.num .u8 d]⟩
 |_=>none
def C74:List AV→Option Spec
 |[.agg [.num .u8 f,.num .u8 m,.num .u64 a,.num .u64 b,.num .u8 k,.num .u8 k',.bool g,.bool h,.bool s,.dig [1] d,.num .i64 e,.bool s',.dig [1] d',.num .i64 e'],.bool neg]=>some ⟨some (Dy.isF f),.agg [.num .u64 (Dy.D5 f neg:Nat),.num .u8 0]⟩
 |_=>none
def C72:List AV→Option Spec
 |[.agg [.num .u8 f,.num .u8 m,.num .u64 a,.num .u64 b,.num .u8 k,.num .u8 k',.bool g,.bool h,.bool s,.dig [1] d,.num .i64 e,.bool s',.dig [1] d',.num .i64 e'],.agg [.bool t,.dig [2] l,.num .i64 i],.bool neg]=>
  some ⟨some (Dy.L2 f m=0∧Dy.A5 ⟨t,l,i⟩=true∧t=false),.agg [.num .u64 ((Dy.S5 f m ⟨t,l,i⟩ neg).1:Nat),.num .u8 (Dy.S5 f m ⟨t,l,i⟩ neg).2]⟩
 |_=>none
def ZX:List AV→Option Spec
 |[.agg [.num .u8 f,.num .u8 m,.num .u64 a,.num .u64 b,.num .u8 k,.num .u8 k',.bool g,.bool h,.bool s,.dig [1] d,.num .i64 e,.bool s',.dig [1] d',.num .i64 e'],.agg [.bool t,.dig [2] l,.num .i64 i]]=>
  some ⟨some (Dy.L2 f m=0∧Dy.A5 ⟨t,l,i⟩=true),.agg [.num .u64 ((Dy.H8 f m ⟨t,l,i⟩).1:Nat),.num .u8 (Dy.H8 f m ⟨t,l,i⟩).2]⟩
 |_=>none
def C71:List AV→Option Spec
 |[.num .u8 f,.num .u8 m,.agg [.num .u64 a,.num .u64 b]]=>
  some ⟨some (Dy.L2 f m=0∧Dy.H9 f a=0∧Dy.H9 f b=0∧Dy.D3 f a.toNat<4∧Dy.D3 f b.toNat<4),
   .tup [.agg [.num .u8 f,.num .u8 m,.num .u64 a,.num .u64 b,.num .u8 (Dy.D3 f a.toNat),.num .u8 (Dy.D3 f b.toNat),.bool (Dy.o9 f a.toNat),.bool (Dy.o9 f b.toNat),
    .bool (Dy.S6 f a.toNat).neg,.dig [0] (Dy.S6 f a.toNat).mag,.num .i64 (Dy.S6 f a.toNat).exp,.bool (Dy.S6 f b.toNat).neg,.dig [0] (Dy.S6 f b.toNat).mag,.num .i64 (Dy.S6 f b.toNat).exp],.num .i64 0]⟩
 |_=>none
def D1e:List (Nat×(List AV→Option Spec)):=(21,A5y)::(24,C74)::(27,C72)::(88,ZX)::(20,C71)::US
def B8k:List AV→Option Spec
 |[.agg [.num .u8 f,.num .u8 m,.num .u64 a,.num .u64 b,.num .u8 k,.num .u8 k',.bool g,.bool h,.bool s,.dig [1] d,.num .i64 e,.bool s',.dig [1] d',.num .i64 e']]=>some ⟨some (Dy.numOk f m ⟨s,d,e⟩ ⟨s',d',e'⟩ h),avP (Dy.ME f m ⟨s,d,e⟩ ⟨s',d',e'⟩ h)⟩
 |_=>none
def B67:List (Nat×(List AV→Option Spec)):=(28,B8k)::D1e
def C73:List AV→Option Spec
 |[.num .u8 f,.num .u8 m,.agg [.num .u64 a,.num .u64 b]]=>
  some ⟨some (Dy.L2 f m=0∧Dy.H9 f a=0∧Dy.H9 f b=0∧Dy.D3 f a.toNat<4∧Dy.D3 f b.toNat<4),.tup [avP (Dy.NG f m a b),.num .i64 0]⟩
 |_=>none
def A2h:List (Nat×(List AV→Option Spec)):=(6,C73)::B67
end Go.AI

namespace Go.AI
open Dy Dyd IntKind
open Go Go.RowKit Go.Proofs
set_option linter.unusedVariables false
set_option maxRecDepth 100000
set_option maxHeartbeats 0
theorem YP (f:Int) (Q:AV→Prop):(evF Tryz.prog (look A74) (lam []) false Tryz.f170 [.num .u8 f] Q)=(bif decide (f=1) then Q (.tup [.agg [.num .i64 23,.num .i64 255,.num .u64 2147483648],.bool true]) else bif decide (f=2) then Q (.tup [.agg [.num .i64 52,.num .i64 2047,.num .u64 9223372036854775808],.bool true]) else Q (.tup [.agg [.num .i64 0,.num .i64 0,.num .u64 0],.bool false])):=by kernel_rfl
theorem B83 (a:Int) (b:Int) (c:Int) (Q:AV→Prop):(evF Tryz.prog (look A74) (lam []) false Tryz.f127 [.agg [.num .i64 a,.num .i64 b,.num .u64 c]] Q)=(Q (.num .i64 (i64.wrap (i64.wrap ((1:Int)-i64.wrap (b.tdiv (2:Int)))-a)))):=by kernel_rfl
theorem B82 (a:Int) (b:Int) (c:Int) (Q:AV→Prop):(evF Tryz.prog (look A74) (lam []) false Tryz.f129 [.agg [.num .i64 a,.num .i64 b,.num .u64 c]] Q)=(0≤a∧Q (.num .u64 (u64.wrap (u64.wrap b*2^min a.toNat (64:Nat))))):=by kernel_rfl
theorem B1r (a:Int) (b:Int) (c:Int) (Q:AV→Prop):(evF Tryz.prog (look UQ) (lam []) false Tryz.f130 [.agg [.num .i64 a,.num .i64 b,.num .u64 c]] Q)=(M4 a b c∧(0:Int)≤i64.wrap (a-1)∧Q (.num .u64 (u64.wrap (↑(A7 (64:Nat) (↑(N6 (I3 a)):Int)|||A7 (64:Nat) (u64.wrap ((1:Int)*2^min (i64.wrap (a-1)).toNat (64:Nat)))).toNat:Int)))):=by kernel_rfl
theorem A5r (a:Int) (b:Int) (c:Int) (Q:AV→Prop):(evF Tryz.prog (look UQ) (lam []) false Tryz.f131 [.agg [.num .i64 a,.num .i64 b,.num .u64 c]] Q)=(Q (.num .u64 0)):=by kernel_rfl
theorem A36 (a:Int) (b:Int) (c:Int) (Q:AV→Prop):(evF Tryz.prog (look UQ) (lam []) false Tryz.f169 [.agg [.num .i64 a,.num .i64 b,.num .u64 c]] Q)=(M4 a b c∧Q (.num .u64 (u64.wrap ((↑(N6 (I3 a)):Int)-1)))):=by kernel_rfl
theorem B1q (a:Int) (b:Int) (c:Int) (w:Int) (Q:AV→Prop):(evF Tryz.prog (look UQ) (lam []) false Tryz.f138 [.agg [.num .i64 a,.num .i64 b,.num .u64 c],.cref [2] [.num .u64 w]] Q)=(Q (.num .u64 (u64.wrap (↑(A7 (64:Nat) w^^^A7 (64:Nat) c).toNat:Int)))):=by kernel_rfl
theorem A5q (a:Int) (b:Int) (c:Int) (w:Int) (Q:AV→Prop):(evF Tryz.prog (look UQ) (lam []) false Tryz.f124 [.agg [.num .i64 a,.num .i64 b,.num .u64 c],.num .u64 w] Q)=(0≤a∧0≤a∧Q (.agg [.bool (u64.wrap (↑(A7 (64:Nat) w&&&A7 (64:Nat) c).toNat:Int) !=(0:Int)),.num .i64 (i64.wrap ((u64.wrap (↑(A7 (64:Nat) w&&& ~~~A7 (64:Nat) c).toNat:Int)).fdiv ((2:Int)^min a.toNat (64:Nat)))),.num .u64 (u64.wrap (↑(A7 (64:Nat) (u64.wrap (↑(A7 (64:Nat) w&&& ~~~A7 (64:Nat) c).toNat:Int))&&&A7 (64:Nat) (u64.wrap (u64.wrap ((1:Int)*2^min a.toNat (64:Nat))-1))).toNat:Int))])):=by kernel_rfl
theorem A5n (a:Int) (b:Int) (c:Int) (w:Int) (Q:AV→Prop):(evF Tryz.prog (look UQ) (lam []) false Tryz.f122 [.agg [.num .i64 a,.num .i64 b,.num .u64 c],.num .u64 w] Q)=(bif decide (u64.wrap (↑(A7 (64:Nat) w&&& ~~~A7 (64:Nat) c).toNat:Int)=0) then Q (.num .u8 1) else 0≤a∧bif decide (u64.wrap (↑(A7 (64:Nat) w&&& ~~~A7 (64:Nat) c).toNat:Int)<u64.wrap ((1:Int)*2^min a.toNat (64:Nat))) then Q (.num .u8 2) else M4 a b c∧bif decide (u64.wrap (↑(A7 (64:Nat) w&&& ~~~A7 (64:Nat) c).toNat:Int)<(↑(N6 (I3 a)):Int)) then Q (.num .u8 3) else M4 a b c∧bif decide (u64.wrap (↑(A7 (64:Nat) w&&& ~~~A7 (64:Nat) c).toNat:Int)=(↑(N6 (I3 a)):Int)) then Q (.num .u8 4) else Q (.num .u8 5)):=by kernel_rfl
theorem B1p (a:Int) (b:Int) (c:Int) (e:Int) (fr:Int) (neg:Bool) (Q:AV→Prop):(evF Tryz.prog (look UQ) (lam []) false Tryz.f201 [.agg [.num .i64 a,.num .i64 b,.num .u64 c],.agg [.bool neg,.num .i64 e,.num .u64 fr]] Q)=(0≤a∧bif neg then Q (.num .u64 (u64.wrap (↑(A7 (64:Nat) (u64.wrap (↑(A7 (64:Nat) (u64.wrap (u64.wrap e*2^min a.toNat (64:Nat)))|||A7 (64:Nat) fr).toNat:Int))|||A7 (64:Nat) c).toNat:Int))) else Q (.num .u64 (u64.wrap (↑(A7 (64:Nat) (u64.wrap (u64.wrap e*2^min a.toNat (64:Nat)))|||A7 (64:Nat) fr).toNat:Int)))):=by kernel_rfl
theorem A5p (f:Int) (w:Int) (Q:AV→Prop):(evF Tryz.prog (look C4r) (lam [((5:Nat),LoopAnn.unroll (2:Nat))]) false Tryz.f121 [.num .u8 f,.vec [2] (1:Nat) [.num .u64 w]] Q)=(∀n1,n1=(↑(shF f):Int)→∀n2,n2=(↑(shM f):Int)→∀n3,n3=(↑(shS f):Int)→∀b4,b4=AZ f→bif !b4 then Q (.tup [.agg [.num .i64 n1,.num .i64 n2,.num .u64 n3],.num .i64 4]) else ((0:Int)≤0∧(0:Int)<(↑[AV.num u64 w].length:Int))∧bif decide (w>u64.wrap (↑(A7 (64:Nat) n3|||A7 (64:Nat) (u64.wrap (n3-1))).toNat:Int)) then Q (.tup [.agg [.num .i64 n1,.num .i64 n2,.num .u64 n3],.num .i64 6]) else Q (.tup [.agg [.num .i64 n1,.num .i64 n2,.num .u64 n3],.num .i64 0])):=by kernel_rfl
theorem A5o (f:Int) (Q:AV→Prop):(evF Tryz.prog (look C4r) (lam [((5:Nat),LoopAnn.unroll (2:Nat))]) false Tryz.f121 [.num .u8 f,.dig [2] []] Q)=(∀n1,n1=(↑(shF f):Int)→∀n2,n2=(↑(shM f):Int)→∀n3,n3=(↑(shS f):Int)→∀b4,b4=AZ f→bif !b4 then Q (.tup [.agg [.num .i64 n1,.num .i64 n2,.num .u64 n3],.num .i64 4]) else Q (.tup [.agg [.num .i64 n1,.num .i64 n2,.num .u64 n3],.num .i64 0])):=by kernel_rfl
theorem B1m (f:Int) (w:Int) (Q:AV→Prop):(evF Tryz.prog (look OE) (lam []) false Tryz.f120 [.num .u8 f,.num .u64 w] Q)=(∀n1,n1=(↑(shF f):Int)→∀n2,n2=(↑(shM f):Int)→∀n3,n3=(↑(shS f):Int)→∀n4,n4=H9 f w→Q (.num .i64 n4)):=by kernel_rfl
theorem A5l (f:Int) (w:Int) (Q:AV→Prop):(evF Tryz.prog (look OE) (lam []) false Tryz.f65 [.num .u8 f,.num .u64 w] Q)=(∀n1,n1=(↑(shF f):Int)→∀n2,n2=(↑(shM f):Int)→∀n3,n3=(↑(shS f):Int)→∀n4,n4=H9 f w→bif !decide (n4=0) then Q (.tup [.agg [.bool false,.num .i64 0,.num .u64 0],.num .i64 n4]) else (M4 n1 n2 n3∧w<2*n3)∧∀b5,b5=o9 (I3 n1) w.toNat→∀n6,n6=(↑(Y3 (I3 n1) w.toNat):Int)→∀n7,n7=(↑(wFr (I3 n1) w.toNat):Int)→Q (.tup [.agg [.bool b5,.num .i64 n6,.num .u64 n7],.num .i64 0])):=by kernel_rfl
theorem A5k (f:Int) (w:Int) (Q:AV→Prop):(evF Tryz.prog (look OE) (lam []) false Tryz.f63 [.num .u8 f,.num .u64 w] Q)=(∀n1,n1=(↑(shF f):Int)→∀n2,n2=(↑(shM f):Int)→∀n3,n3=(↑(shS f):Int)→∀n4,n4=H9 f w→bif !decide (n4=0) then Q (.tup [.num .u8 0,.num .i64 n4]) else (M4 n1 n2 n3∧w<2*n3)∧Q (.tup [.num .u8 (D3 (I3 n1) w.toNat),.num .i64 0])):=by kernel_rfl
theorem A35 (f:Int) (w:Int) (Q:AV→Prop):(evF Tryz.prog (look OE) (lam []) false Tryz.f123 [.num .u8 f,.num .u64 w] Q)=(∀n1,n1=(↑(shF f):Int)→∀n2,n2=(↑(shM f):Int)→∀n3,n3=(↑(shS f):Int)→∀n4,n4=H9 f w→bif decide (n4=0) then (M4 n1 n2 n3∧w<2*n3)∧bif decide (D3 (I3 n1) w.toNat≥4) then Q (.tup [.agg [.num .i64 n1,.num .i64 n2,.num .u64 n3],.num .i64 7]) else Q (.tup [.agg [.num .i64 n1,.num .i64 n2,.num .u64 n3],.num .i64 n4]) else Q (.tup [.agg [.num .i64 n1,.num .i64 n2,.num .u64 n3],.num .i64 n4])):=by kernel_rfl
theorem A3a (f:Int) (neg:Bool) (Q:AV→Prop):(evF Tryz.prog (look OE) (lam []) false Tryz.f128 [.num .u8 f,.bool neg,AV.fn (131:Nat) []] Q)=(∀n1,n1=(↑(shF f):Int)→∀n2,n2=(↑(shM f):Int)→∀n3,n3=(↑(shS f):Int)→∀n4,n4=B2i f→bif !decide (n4=0) then Q (.tup [.num .u64 0,.num .i64 n4]) else bif neg then Q (.tup [.num .u64 (u64.wrap (↑(A7 (64:Nat) (0:Int)|||A7 (64:Nat) n3).toNat:Int)),.num .i64 0]) else Q (.tup [.num .u64 0,.num .i64 0])):=by kernel_rfl
theorem A38 (f:Int) (neg:Bool) (Q:AV→Prop):(evF Tryz.prog (look OE) (lam []) false Tryz.f128 [.num .u8 f,.bool neg,AV.fn (129:Nat) []] Q)=(∀n1,n1=(↑(shF f):Int)→∀n2,n2=(↑(shM f):Int)→∀n3,n3=(↑(shS f):Int)→∀n4,n4=B2i f→bif !decide (n4=0) then Q (.tup [.num .u64 0,.num .i64 n4]) else M4 n1 n2 n3∧bif neg then Q (.tup [.num .u64 (u64.wrap (↑(A7 (64:Nat) (↑(N6 (I3 n1)):Int)|||A7 (64:Nat) n3).toNat:Int)),.num .i64 0]) else Q (.tup [.num .u64 (↑(N6 (I3 n1)):Int),.num .i64 0])):=by kernel_rfl
theorem A37 (f:Int) (neg:Bool) (Q:AV→Prop):(evF Tryz.prog (look OE) (lam []) false Tryz.f128 [.num .u8 f,.bool neg,AV.fn (169:Nat) []] Q)=(∀n1,n1=(↑(shF f):Int)→∀n2,n2=(↑(shM f):Int)→∀n3,n3=(↑(shS f):Int)→∀n4,n4=B2i f→bif !decide (n4=0) then Q (.tup [.num .u64 0,.num .i64 n4]) else M4 n1 n2 n3∧bif neg then Q (.tup [.num .u64 (u64.wrap (↑(A7 (64:Nat) (↑(N6 (I3 n1)-1):Int)|||A7 (64:Nat) n3).toNat:Int)),.num .i64 0]) else Q (.tup [.num .u64 (↑(N6 (I3 n1)-1):Int),.num .i64 0])):=by kernel_rfl
theorem A39 (f:Int) (neg:Bool) (Q:AV→Prop):(evF Tryz.prog (look OE) (lam []) false Tryz.f128 [.num .u8 f,.bool neg,AV.fn (130:Nat) []] Q)=(∀n1,n1=(↑(shF f):Int)→∀n2,n2=(↑(shM f):Int)→∀n3,n3=(↑(shS f):Int)→∀n4,n4=B2i f→bif !decide (n4=0) then Q (.tup [.num .u64 0,.num .i64 n4]) else M4 n1 n2 n3∧bif neg then Q (.tup [.num .u64 (u64.wrap (↑(A7 (64:Nat) (↑(T7 (I3 n1)):Int)|||A7 (64:Nat) n3).toNat:Int)),.num .i64 0]) else Q (.tup [.num .u64 (↑(T7 (I3 n1)):Int),.num .i64 0])):=by kernel_rfl
theorem A3b (f:Int) (w:Int) (w':Int) (Q:AV→Prop):(evF Tryz.prog (look OE) (lam []) false Tryz.f137 [.num .u8 f,.num .u64 w,AV.fn (138:Nat) [.cref [3] [.num .u64 w']]] Q)=(∀n1,n1=(↑(shF f):Int)→∀n2,n2=(↑(shM f):Int)→∀n3,n3=(↑(shS f):Int)→∀n4,n4=H9 f w→bif !decide (n4=0) then Q (.tup [.num .u64 0,.num .i64 n4]) else (M4 n1 n2 n3∧w<2*n3)∧bif decide (D3 (I3 n1) w.toNat=5) then M4 n1 n2 n3∧Q (.tup [.num .u64 (↑(T7 (I3 n1)):Int),.num .i64 0]) else (M4 n1 n2 n3∧w'<2*n3)∧Q (.tup [.num .u64 (↑(if o9 (I3 n1) w'.toNat=true then w'.toNat-2^M8 (I3 n1) else w'.toNat+2^M8 (I3 n1)):Int),.num .i64 0])):=by kernel_rfl
theorem A5m (f:Int) (w:Int) (Q:AV→Prop):(evF Tryz.prog (look UR) (lam []) false Tryz.f64 [.num .u8 f,.num .u64 w] Q)=(H9 f w=0∧∀n1,n1=(↑(shF f):Int)→∀n2,n2=(↑(shM f):Int)→∀n3,n3=(↑(shS f):Int)→∀(n4:Int),(n4=if 4≤D3 f w.toNat then (7:Int) else (0:Int))→bif !decide (n4=0) then Q (.tup [.agg [.bool false,.dig [0] [],.num .i64 0],.num .i64 n4]) else (M4 n1 n2 n3∧w<2*n3)∧∀b5,b5=o9 (I3 n1) w.toNat→∀n6,n6=(↑(Y3 (I3 n1) w.toNat):Int)→∀n7,n7=(↑(wFr (I3 n1) w.toNat):Int)→bif decide (n6>0) then 0≤n1∧M4 n1 n2 n3∧dyF (N7 b5 (dg (u64.wrap (↑(A7 (64:Nat) n7|||A7 (64:Nat) (u64.wrap ((1:Int)*2^min n1.toNat (64:Nat)))).toNat:Int)).toNat) (i64.wrap (i64.wrap ((if (1:Int)>n6 then (1:Int) else n6)-1)+C9 (I3 n1)))).1 fun b8 l9 n10=>∀n11,n11=(N7 b5 (dg (u64.wrap (↑(A7 (64:Nat) n7|||A7 (64:Nat) (u64.wrap ((1:Int)*2^min n1.toNat (64:Nat)))).toNat:Int)).toNat) (i64.wrap (i64.wrap ((if (1:Int)>n6 then (1:Int) else n6)-1)+C9 (I3 n1)))).snd→Q (.tup [.agg [.bool b8,.dig [0] l9,.num .i64 n10],.num .i64 n11]) else M4 n1 n2 n3∧dyF (N7 b5 (dg n7.toNat) (i64.wrap (i64.wrap ((if (1:Int)>n6 then (1:Int) else n6)-1)+C9 (I3 n1)))).1 fun b12 l13 n14=>∀n15,n15=(N7 b5 (dg n7.toNat) (i64.wrap (i64.wrap ((if (1:Int)>n6 then (1:Int) else n6)-1)+C9 (I3 n1)))).snd→Q (.tup [.agg [.bool b12,.dig [0] l13,.num .i64 n14],.num .i64 n15])):=by kernel_rfl
theorem B1o (f:Int) (neg:Bool) (Q:AV→Prop):(evF Tryz.prog (look UR) (lam []) false Tryz.f68 [.num .u8 f,.bool neg] Q)=(isF f∧∀n1,n1=(↑(D5 f neg):Int)→∀n2,n2=(0:Int)→Q (.tup [.num .u64 n1,.num .i64 n2])):=by kernel_rfl
theorem B80 (f:Int) (neg:Bool) (Q:AV→Prop):(evF Tryz.prog (look UR) (lam []) false Tryz.f66 [.num .u8 f,.bool neg] Q)=(isF f∧∀n1,n1=(↑(D5 f neg+N6 f):Int)→∀n2,n2=(0:Int)→Q (.tup [.num .u64 n1,.num .i64 n2])):=by kernel_rfl
theorem WS (f:Int) (neg:Bool) (Q:AV→Prop):(evF Tryz.prog (look UR) (lam []) false Tryz.f119 [.num .u8 f,.bool neg] Q)=(isF f∧∀n1,n1=(↑(D5 f neg+(N6 f-1)):Int)→∀n2,n2=(0:Int)→Q (.tup [.num .u64 n1,.num .i64 n2])):=by kernel_rfl
theorem B1n (f:Int) (Q:AV→Prop):(evF Tryz.prog (look UR) (lam []) false Tryz.f67 [.num .u8 f] Q)=((isF f∧false=false)∧∀n1,n1=(↑(T7 f):Int)→∀n2,n2=(0:Int)→Q (.tup [.num .u64 n1,.num .i64 n2])):=by kernel_rfl
theorem B81 (f:Int) (w:Int) (Q:AV→Prop):(evF Tryz.prog (look UR) (lam []) false Tryz.f72 [.num .u8 f,.num .u64 w] Q)=((H9 f w=0∧w=w)∧∀n1,n1=(↑(YE f w.toNat):Int)→∀n2,n2=(0:Int)→Q (.tup [.num .u64 n1,.num .i64 n2])):=by kernel_rfl
theorem C37 (f:Int) (s:Bool) (m:List Nat) (e:Int) (Q:AV→Prop):(evF Tryz.prog (look UR) (lam []) false Tryz.f176 [.num .u8 f,.agg [.bool s,.dig [2] m,.num .i64 e]] Q)=(∀n1,n1=(↑(shF f):Int)→∀n2,n2=(↑(shM f):Int)→∀n3,n3=(↑(shS f):Int)→∀n4,n4=B2i f→bif !decide (n4=0) then Q (.tup [.num .u64 0,.num .i64 n4]) else bif !A5 (mk s m e) then Q (.tup [.num .u64 0,.num .i64 2]) else∀n5,n5=(↑(if (may m&&decide (m.length≤2))=true then val m else (0:Nat)):Int)→∀b6,b6=(may m&&decide (m.length≤2))→bif !b6 then Q (.tup [.num .u64 0,.num .i64 7]) else bif decide ((↑(bl n5.toNat):Int)>i64.wrap (n1+1)) then Q (.tup [.num .u64 0,.num .i64 7]) else bif !decide (n5=0) then M4 n1 n2 n3∧bif decide (e<C9 (I3 n1)) then Q (.tup [.num .u64 0,.num .i64 7]) else bif decide (i64.wrap (e+(↑(bl n5.toNat):Int))>i64.wrap (i64.wrap (n2.tdiv (2:Int))+1)) then Q (.tup [.num .u64 0,.num .i64 7]) else bif decide (n5=0) then Q (.tup [.num .u64 0,.num .i64 0]) else M4 n1 n2 n3∧(0:Int)≤i64.wrap (e-if C9 (I3 n1)>i64.wrap (i64.wrap (i64.wrap (e+(↑(bl n5.toNat):Int))-n1)-1) then C9 (I3 n1) else i64.wrap (i64.wrap (i64.wrap (e+(↑(bl n5.toNat):Int))-n1)-1))∧M4 n1 n2 n3∧0≤n1∧(M4 n1 n2 n3∧(0:Int)=0∧u64.wrap (u64.wrap (u64.wrap (i64.wrap ((if C9 (I3 n1)>i64.wrap (i64.wrap (i64.wrap (e+(↑(bl n5.toNat):Int))-n1)-1) then C9 (I3 n1) else i64.wrap (i64.wrap (i64.wrap (e+(↑(bl n5.toNat):Int))-n1)-1))-C9 (I3 n1)))*2^min n1.toNat (64:Nat))+u64.wrap (n5*2^min (i64.wrap (e-if C9 (I3 n1)>i64.wrap (i64.wrap (i64.wrap (e+(↑(bl n5.toNat):Int))-n1)-1) then C9 (I3 n1) else i64.wrap (i64.wrap (i64.wrap (e+(↑(bl n5.toNat):Int))-n1)-1))).toNat (64:Nat)))<n3)∧Q (.tup [.num .u64 (if s=true then u64.wrap (u64.wrap (u64.wrap (i64.wrap ((if C9 (I3 n1)>i64.wrap (i64.wrap (i64.wrap (e+(↑(bl n5.toNat):Int))-n1)-1) then C9 (I3 n1) else i64.wrap (i64.wrap (i64.wrap (e+(↑(bl n5.toNat):Int))-n1)-1))-C9 (I3 n1)))*2^min n1.toNat (64:Nat))+u64.wrap (n5*2^min (i64.wrap (e-if C9 (I3 n1)>i64.wrap (i64.wrap (i64.wrap (e+(↑(bl n5.toNat):Int))-n1)-1) then C9 (I3 n1) else i64.wrap (i64.wrap (i64.wrap (e+(↑(bl n5.toNat):Int))-n1)-1))).toNat (64:Nat)))+n3 else u64.wrap (u64.wrap (u64.wrap (i64.wrap ((if C9 (I3 n1)>i64.wrap (i64.wrap (i64.wrap (e+(↑(bl n5.toNat):Int))-n1)-1) then C9 (I3 n1) else i64.wrap (i64.wrap (i64.wrap (e+(↑(bl n5.toNat):Int))-n1)-1))-C9 (I3 n1)))*2^min n1.toNat (64:Nat))+u64.wrap (n5*2^min (i64.wrap (e-if C9 (I3 n1)>i64.wrap (i64.wrap (i64.wrap (e+(↑(bl n5.toNat):Int))-n1)-1) then C9 (I3 n1) else i64.wrap (i64.wrap (i64.wrap (e+(↑(bl n5.toNat):Int))-n1)-1))).toNat (64:Nat)))),.num .i64 0]) else bif decide (n5=0) then Q (.tup [.num .u64 0,.num .i64 0]) else M4 n1 n2 n3∧(0:Int)≤i64.wrap (e-if C9 (I3 n1)>i64.wrap (i64.wrap (i64.wrap (e+(↑(bl n5.toNat):Int))-n1)-1) then C9 (I3 n1) else i64.wrap (i64.wrap (i64.wrap (e+(↑(bl n5.toNat):Int))-n1)-1))∧M4 n1 n2 n3∧0≤n1∧(M4 n1 n2 n3∧(0:Int)=0∧u64.wrap (u64.wrap (u64.wrap (i64.wrap ((if C9 (I3 n1)>i64.wrap (i64.wrap (i64.wrap (e+(↑(bl n5.toNat):Int))-n1)-1) then C9 (I3 n1) else i64.wrap (i64.wrap (i64.wrap (e+(↑(bl n5.toNat):Int))-n1)-1))-C9 (I3 n1)))*2^min n1.toNat (64:Nat))+u64.wrap (n5*2^min (i64.wrap (e-if C9 (I3 n1)>i64.wrap (i64.wrap (i64.wrap (e+(↑(bl n5.toNat):Int))-n1)-1) then C9 (I3 n1) else i64.wrap (i64.wrap (i64.wrap (e+(↑(bl n5.toNat):Int))-n1)-1))).toNat (64:Nat)))<n3)∧Q (.tup [.num .u64 (if s=true then u64.wrap (u64.wrap (u64.wrap (i64.wrap ((if C9 (I3 n1)>i64.wrap (i64.wrap (i64.wrap (e+(↑(bl n5.toNat):Int))-n1)-1) then C9 (I3 n1) else i64.wrap (i64.wrap (i64.wrap (e+(↑(bl n5.toNat):Int))-n1)-1))-C9 (I3 n1)))*2^min n1.toNat (64:Nat))+u64.wrap (n5*2^min (i64.wrap (e-if C9 (I3 n1)>i64.wrap (i64.wrap (i64.wrap (e+(↑(bl n5.toNat):Int))-n1)-1) then C9 (I3 n1) else i64.wrap (i64.wrap (i64.wrap (e+(↑(bl n5.toNat):Int))-n1)-1))).toNat (64:Nat)))+n3 else u64.wrap (u64.wrap (u64.wrap (i64.wrap ((if C9 (I3 n1)>i64.wrap (i64.wrap (i64.wrap (e+(↑(bl n5.toNat):Int))-n1)-1) then C9 (I3 n1) else i64.wrap (i64.wrap (i64.wrap (e+(↑(bl n5.toNat):Int))-n1)-1))-C9 (I3 n1)))*2^min n1.toNat (64:Nat))+u64.wrap (n5*2^min (i64.wrap (e-if C9 (I3 n1)>i64.wrap (i64.wrap (i64.wrap (e+(↑(bl n5.toNat):Int))-n1)-1) then C9 (I3 n1) else i64.wrap (i64.wrap (i64.wrap (e+(↑(bl n5.toNat):Int))-n1)-1))).toNat (64:Nat)))),.num .i64 0])):=by kernel_rfl
end Go.AI

namespace Go.Dy
theorem EE (f:Int):f=1∨f=2∨(f≠1∧f≠2):=by omega
theorem OY {f:Int} (h:isF f):AZ f=true:=by rcases h with rfl|rfl<;>rfl
theorem JU {f:Int} (h:f≠1∧f≠2):AZ f=false:=by unfold AZ;simp [h.1,h.2]
theorem r9 {f w:Int} (h:H9 f w=0):isF f∧w<2*(shS f:Nat):=by
 rcases EE f with c|c|c
 ·subst c
  refine ⟨.inl rfl,?_⟩
  unfold H9 at h
  rw [show AZ 1=true from rfl,cond_true] at h
  split at h
  ·cases h
  ·omega
 ·subst c
  refine ⟨.inr rfl,?_⟩
  unfold H9 at h
  rw [show AZ 2=true from rfl,cond_true] at h
  split at h
  ·cases h
  ·omega
 ·unfold H9 at h
  rw [JU c] at h
  cases h
theorem SO {f:Int} (h:isF f):B2i f=0:=by rcases h with rfl|rfl<;>rfl
theorem RS {f:Int} (h:isF f):shF f=A6 f:=by rcases h with rfl|rfl<;>rfl
theorem A28 {f:Int} (h:isF f):shS f=2^M8 f:=by rcases h with rfl|rfl<;>rfl
theorem j3 {f:Int} (h:isF f):M4 (shF f:Nat) (shM f:Nat) (shS f:Nat):=by
 rcases h with rfl|rfl
 ·exact .inl ⟨rfl,rfl,rfl⟩
 ·exact .inr ⟨rfl,rfl,rfl⟩
theorem KX {f:Int} (h:isF f):I3 (shF f:Nat)=f:=by rcases h with rfl|rfl<;>rfl
theorem UK {a b c:Int} (h:M4 a b c):∃f,isF f∧a=(A6 f:Nat)∧b=(P7 f:Nat)∧c=((2^M8 f:Nat):Int)∧I3 a=f:=by
 rcases h with ⟨rfl,rfl,rfl⟩|⟨rfl,rfl,rfl⟩
 ·exact ⟨1,.inl rfl,rfl,rfl,rfl,rfl⟩
 ·exact ⟨2,.inr rfl,rfl,rfl,rfl,rfl⟩
theorem W8 {f:Int} (h:isF f):M8 f<64:=by rcases J0 h with c|c<;>omega
theorem OL {f:Int} (h:isF f):A6 f<M8 f:=by rcases J0 h with c|c<;>omega
theorem C3a {f:Int} (h:isF f) {v:Nat} (hv:v<2*2^M8 f):v<2^(M8 f+1)∧v<2^64:=by
 have h1:v<2^(M8 f+1):=by rw [I5];omega
 exact ⟨h1,G7 h1 (B3 (by decide) (by have:=W8 h;omega))⟩
theorem or_zero {w:Nat} (hw:w<2^64):(A7 64 0|||A7 64 (w:Int)).toNat=w:=by
 rw [BitVec.ofInt_natCast,BitVec.toNat_or,BitVec.toNat_ofNat,Nat.mod_eq_of_lt hw]
 exact Nat.zero_or w
theorem IT {f:Int} (h:isF f):N6 f<2^M8 f∧0<N6 f:=by rcases h with rfl|rfl<;>decide
theorem KE (f:Int) (w:Nat):R1 f w<2^M8 f:=R5 _ (A9 _)
theorem LI {f:Int} (h:isF f):2^M8 f<2^64:=N4 (by decide) (W8 h)
end Go.Dy
namespace Go.AI
open Go Go.RowKit Go.Proofs
set_option linter.unusedVariables false
set_option maxRecDepth 100000
set_option maxHeartbeats 1000000
theorem T4 {n:Nat} (h:n<2^64):IntKind.u64.wrap (n:Int)=n:=by rw [wrap_u64];omega
theorem pw {f:Int} (h:Dy.isF f):IntKind.u64.wrap ((1:Int)*(2:Int)^min ((Dy.A6 f:Nat):Int).toNat 64)=((2^Dy.A6 f:Nat):Int):=by rcases h with rfl|rfl<;>decide
theorem YH (args:List AV) (s:Spec) (h:A3e args=some s) (hp:C6 s.pre True):Contract Tryz.prog Inv 170 args s.res:=by
 unfold A3e at h
 split at h
 ·cases h
  rename_i f
  refine A4 false NW Tryz.func170 (by kernel_rfl) (by kernel_rfl) fun hok=> ?_
  rw [YP]
  rcases Dy.EE f with c|c|c
  ·subst c;exact B5 rfl rfl
  ·subst c;exact B1 rfl (B5 rfl rfl)
  ·refine B1 (decide_eq_false c.1) (B1 (decide_eq_false c.2) ?_)
   unfold shA Dy.shF Dy.shM Dy.shS
   rw [Dy.JU c,if_neg c.1,if_neg c.2,if_neg c.1,if_neg c.2,if_neg c.1,if_neg c.2]
   rfl
 ·cases h
theorem B5e (args:List AV) (s:Spec) (h:D24 args=some s) (hp:C6 s.pre True):Contract Tryz.prog Inv 127 args s.res:=by
 unfold D24 at h
 split at h
 ·cases h
  obtain ⟨p, -⟩:=hp
  refine A4 false NW Tryz.func127 (by kernel_rfl) (by kernel_rfl) fun hok=> ?_
  rw [B83]
  rcases p with ⟨rfl,rfl,rfl⟩|⟨rfl,rfl,rfl⟩
  ·exact congrArg (AV.num .i64) (by decide)
  ·exact congrArg (AV.num .i64) (by decide)
 ·cases h
theorem B5d (args:List AV) (s:Spec) (h:D23 args=some s) (hp:C6 s.pre True):Contract Tryz.prog Inv 129 args s.res:=by
 unfold D23 at h
 split at h
 ·cases h
  obtain ⟨p, -⟩:=hp
  refine A4 false NW Tryz.func129 (by kernel_rfl) (by kernel_rfl) fun hok=> ?_
  rw [B82]
  rcases p with ⟨rfl,rfl,rfl⟩|⟨rfl,rfl,rfl⟩
  ·exact ⟨by decide,congrArg (AV.num .u64) (by decide)⟩
  ·exact ⟨by decide,congrArg (AV.num .u64) (by decide)⟩
 ·cases h
theorem FD:G6 Tryz.prog Inv (look UQ):=A3 (A3 (A3 (A3 NW B5d) B5e) YH) D36
theorem B03 (args:List AV) (s:Spec) (h:C3d args=some s) (hp:C6 s.pre True):Contract Tryz.prog Inv 130 args s.res:=by
 unfold C3d at h
 split at h
 ·cases h
  obtain ⟨p, -⟩:=hp
  refine A4 false FD Tryz.func130 (by kernel_rfl) (by kernel_rfl) fun hok=> ?_
  rw [B1r]
  refine ⟨p,?_⟩
  rcases p with ⟨rfl,rfl,rfl⟩|⟨rfl,rfl,rfl⟩
  ·exact ⟨by decide,congrArg (AV.num .u64) (by decide)⟩
  ·exact ⟨by decide,congrArg (AV.num .u64) (by decide)⟩
 ·cases h
theorem A4l (args:List AV) (s:Spec) (h:C3h args=some s) (hp:C6 s.pre True):Contract Tryz.prog Inv 131 args s.res:=by
 unfold C3h at h
 split at h
 ·cases h
  refine A4 false FD Tryz.func131 (by kernel_rfl) (by kernel_rfl) fun hok=> ?_
  rw [A5r]
 ·cases h
theorem A1p (args:List AV) (s:Spec) (h:B1x args=some s) (hp:C6 s.pre True):Contract Tryz.prog Inv 169 args s.res:=by
 unfold B1x at h
 split at h
 ·cases h
  obtain ⟨p, -⟩:=hp
  refine A4 false FD Tryz.func169 (by kernel_rfl) (by kernel_rfl) fun hok=> ?_
  rw [A36]
  refine ⟨p,?_⟩
  rcases p with ⟨rfl,rfl,rfl⟩|⟨rfl,rfl,rfl⟩
  ·exact congrArg (AV.num .u64) (by decide)
  ·exact congrArg (AV.num .u64) (by decide)
 ·cases h
theorem B02 (args:List AV) (s:Spec) (h:D25 args=some s) (hp:C6 s.pre True):Contract Tryz.prog Inv 138 args s.res:=by
 unfold D25 at h
 split at h
 ·cases h
  rename_i a b c w
  obtain ⟨⟨p,hw⟩, -⟩:=hp
  refine A4 false FD Tryz.func138 (by kernel_rfl) (by kernel_rfl) fun hok=> ?_
  rw [B1q]
  have hw0:=j4 hok.2.1.1
  obtain ⟨f,hf,rfl,rfl,rfl,h5⟩:=Dy.UK p
  obtain ⟨v,rfl⟩:=C4 hw0.1
  obtain ⟨h1,h2⟩:=Dy.C3a hf (v:=v) (by omega)
  rw [h5,Dy.D3t (Dy.W8 hf) h1,A2]
  have h3:=Dy.LI hf
  unfold Dy.o9
  by_cases c:2^Dy.M8 f≤v
  ·rw [if_pos c,if_pos (decide_eq_true c),T4 (by omega)]
  ·rw [if_neg c,if_neg (by simpa using c),T4 (by
    have:2^(Dy.M8 f+1)≤2^64:=B3 (by decide) (by have:=Dy.W8 hf;omega)
    rw [I5] at this
    omega)]
 ·cases h
theorem A4k (args:List AV) (s:Spec) (h:B1y args=some s) (hp:C6 s.pre True):Contract Tryz.prog Inv 124 args s.res:=by
 unfold B1y at h
 split at h
 ·cases h
  rename_i a b c w
  obtain ⟨⟨p,hw⟩, -⟩:=hp
  refine A4 false FD Tryz.func124 (by kernel_rfl) (by kernel_rfl) fun hok=> ?_
  rw [A5q]
  have hw0:=j4 hok.2.1
  obtain ⟨f,hf,rfl,rfl,rfl,h5⟩:=Dy.UK p
  obtain ⟨v,rfl⟩:=C4 hw0.1
  obtain ⟨h1,h2⟩:=Dy.C3a hf (v:=v) (by omega)
  have h3:=Dy.LI hf
  have h4:=Dy.KE f v
  refine ⟨by omega,by omega,?_⟩
  rw [h5,Dy.D2c (Dy.W8 hf) h1,Dy.ZV (Dy.W8 hf) h1,pw hf,A2,A2]
  rw [show v%2^Dy.M8 f=Dy.R1 f v from rfl,T4 (show Dy.R1 f v<2^64 by omega),fdiv_pow (by omega),A2,J1 (by have:=Dy.OL hf;have:=Dy.W8 hf;omega)]
  have h6:2^Dy.A6 f<2^63:=N4 (by decide) (by have:=Dy.OL hf;have:=Dy.W8 hf;omega)
  have h7:=A9 (Dy.A6 f)
  rw [show IntKind.u64.wrap (((2^Dy.A6 f:Nat):Int)-1)=((2^Dy.A6 f-1:Nat):Int) by rw [wrap_u64];omega,
   Dy.ZU (by have:=Dy.OL hf;have:=Dy.W8 hf;omega) (show Dy.R1 f v<2^64 by omega),T4 (L8 (Nat.mod_le _ _) (by omega)),
   wrap_i64 (Int.le_trans (by decide) (Int.natCast_nonneg _)) (by have:=Nat.div_le_self (Dy.R1 f v) (2^Dy.A6 f);have:2^Dy.M8 f≤2^63:=B3 (by decide) (by have:=Dy.W8 hf;omega);omega)]
  have e:(IntKind.u64.wrap ((if 2^Dy.M8 f≤v then 2^Dy.M8 f else 0:Nat):Int) !=0)=Dy.o9 f v:=by
   unfold Dy.o9
   by_cases c:2^Dy.M8 f≤v
   ·rw [if_pos c,T4 h3,decide_eq_true c]
    have:=A9 (Dy.M8 f)
    exact bne_iff_ne.2 (by omega)
   ·rw [if_neg c,decide_eq_false c];rfl
  rw [e]
  rfl
 ·cases h
theorem A4i (args:List AV) (s:Spec) (h:B1v args=some s) (hp:C6 s.pre True):Contract Tryz.prog Inv 122 args s.res:=by
 unfold B1v at h
 split at h
 ·cases h
  rename_i a b c w
  obtain ⟨⟨p,hw⟩, -⟩:=hp
  refine A4 false FD Tryz.func122 (by kernel_rfl) (by kernel_rfl) fun hok=> ?_
  rw [A5n]
  have hw0:=j4 hok.2.1
  obtain ⟨f,hf,rfl,rfl,rfl,h5⟩:=Dy.UK p
  obtain ⟨v,rfl⟩:=C4 hw0.1
  obtain ⟨h1,h2⟩:=Dy.C3a hf (v:=v) (by omega)
  have h3:=Dy.LI hf
  have h4:=Dy.KE f v
  rw [h5,Dy.ZV (Dy.W8 hf) h1,pw hf,A2]
  rw [show v%2^Dy.M8 f=Dy.R1 f v from rfl,T4 (show Dy.R1 f v<2^64 by omega)]
  unfold Dy.D3
  refine A8 (fun h=> ?_) (fun h=>⟨by omega,A8 (fun h'=> ?_) (fun h'=>⟨p,A8 (fun h''=> ?_) (fun h''=>⟨p,A8 (fun h3=> ?_) (fun h3=> ?_)⟩)⟩)⟩)
  ·have:=A1 h
   rw [if_pos (by omega)]
  ·have:=A0 h
   have:=A1 h'
   rw [if_neg (by omega),if_pos (by omega)]
  ·have:=A0 h
   have:=A0 h'
   have:=A1 h''
   rw [if_neg (by omega),if_neg (by omega),if_pos (by omega)]
  ·have:=A0 h
   have:=A0 h'
   have:=A0 h''
   have:=A1 h3
   rw [if_neg (by omega),if_neg (by omega),if_neg (by omega),if_pos (by omega)]
  ·have:=A0 h
   have:=A0 h'
   have:=A0 h''
   have:=A0 h3
   rw [if_neg (by omega),if_neg (by omega),if_neg (by omega),if_neg (by omega)]
 ·cases h
theorem B01 (args:List AV) (s:Spec) (h:C3b args=some s) (hp:C6 s.pre True):Contract Tryz.prog Inv 201 args s.res:=by
 unfold C3b at h
 split at h
 ·cases h
  rename_i a b c neg e fr
  obtain ⟨⟨p,he,hfr⟩, -⟩:=hp
  refine A4 false FD Tryz.func201 (by kernel_rfl) (by kernel_rfl) fun hok=> ?_
  rw [B1p]
  have hw0:=j4 hok.2.1.2.2.1
  obtain ⟨f,hf,rfl,rfl,rfl,h5⟩:=Dy.UK p
  obtain ⟨v,rfl⟩:=C4 hw0.1
  have h3:=Dy.LI hf
  subst he
  rw [show IntKind.u64.wrap 0=0 from rfl,Int.zero_mul,show IntKind.u64.wrap 0=0 from rfl,Dy.or_zero (show v<2^64 by omega),T4 (show v<2^64 by omega),Dy.C0y (Dy.W8 hf) (show v<2^Dy.M8 f by omega)]
  refine ⟨by omega,A8 (fun h=> ?_) (fun h=> ?_)⟩
  ·subst h
   rw [if_pos rfl,T4 (by
    have:2^(Dy.M8 f+1)≤2^64:=B3 (by decide) (by have:=Dy.W8 hf;omega)
    rw [I5] at this
    omega)]
   rfl
  ·subst h
   rfl
 ·cases h
theorem A1f:G6 Tryz.prog Inv (look C4r):=A3 (A3 (A3 (A3 (A3 (A3 (A3 FD B01) A4i) A4k) B02) A1p) A4l) B03
end Go.AI

namespace Go.Dy
theorem C41 {f w:Int} (hf:isF f) (hw:w<2*(shS f:Nat)):H9 f w=0:=by
 unfold H9
 rw [OY hf,cond_true,if_neg (by omega)]
theorem C3f {f:Int} (hf:isF f) (w:Nat):wFr f w<2^A6 f∧Y3 f w<2048:=by
 refine ⟨R5 _ (A9 _),?_⟩
 have h:=KE f w
 unfold Y3
 rw [Nat.div_lt_iff_lt_mul (A9 _)]
 have:2^M8 f≤2048*2^A6 f:=by rcases hf with rfl|rfl<;>decide
 omega
theorem OD {f:Int} (hf:isF f) {d:Dyd} (hb:bl (val d.mag)≤A6 f+1) (h0:d.mag≠[]) (he:C9 f≤d.exp) (ht:C7 d≤P8 f):
  DD f d<2^M8 f∧max (C7 d-A6 f-1) (C9 f)≤d.exp∧C9 f≤max (C7 d-A6 f-1) (C9 f)∧
   (max (C7 d-A6 f-1) (C9 f)-C9 f).toNat*2^A6 f<2^M8 f∧val d.mag*2^(d.exp-max (C7 d-A6 f-1) (C9 f)).toNat<2^M8 f∧
   max (C7 d-A6 f-1) (C9 f)-C9 f≤2045∧d.exp-max (C7 d-A6 f-1) (C9 f)≤60:=by
 have etop:C7 d=d.exp+bl (val d.mag):=by unfold C7;rw [if_neg h0]
 generalize hE:max (C7 d-A6 f-1) (C9 f)=E
 have h1:E≤d.exp:=by omega
 have h2:C9 f≤E:=by omega
 have h3:d.exp-E+bl (val d.mag)≤A6 f+1:=by omega
 have hv:val d.mag*2^(d.exp-E).toNat<2^(A6 f+1):=by
  have:=P9 (val d.mag)
  have h5:val d.mag*2^(d.exp-E).toNat<2^bl (val d.mag)*2^(d.exp-E).toNat:=L3 this (A9 _)
  rw [←B8] at h5
  exact G7 h5 (B3 (by decide) (by omega))
 have hE2:(E-C9 f).toNat+2≤P7 f:=by rcases J0 hf with c|c<;>omega
 have hX:=C0 (2^A6 f) hE2
 rw [H2] at hX
 have hM:P7 f*2^A6 f<2^M8 f:=by rcases hf with rfl|rfl<;>decide
 have hp:2^(A6 f+1)=2*2^A6 f:=by rw [I5,B6]
 have hs:DD f d=(E-C9 f).toNat*2^A6 f+val d.mag*2^(d.exp-E).toNat:=by unfold DD;rw [hE]
 refine ⟨by omega,h1,h2,by omega,by omega,?_,?_⟩
 ·rcases J0 hf with c|c<;>omega
 ·rcases J0 hf with c|c<;>omega
end Go.Dy
namespace Go.AI
open Go Go.RowKit Go.Proofs
set_option linter.unusedVariables false
set_option maxRecDepth 100000
set_option maxHeartbeats 1000000
theorem B04 (args:List AV) (s:Spec) (h:D28 args=some s) (hp:C6 s.pre True):Contract Tryz.prog Inv 121 args s.res:=by
 unfold D28 at h
 split at h
 ·cases h
  rename_i f w
  refine E8 false 35 (lam [(5,.unroll 2)]) A1f Tryz.func121 (by kernel_rfl) rfl (EP (k:=2) (by kernel_rfl) (by kernel_rfl)) fun hok=> ?_
  rw [A5p]
  rintro _ rfl _ rfl _ rfl _ rfl
  rcases Dy.EE f with c|c|c
  ·subst c
   refine B1 rfl ⟨⟨by decide,(by decide:(0:Int)<1)⟩,?_⟩
   rw [show IntKind.u64.wrap ((A7 64 ((Dy.shS 1:Nat):Int)|||A7 64 (IntKind.u64.wrap (((Dy.shS 1:Nat):Int)-1))).toNat:Int)=4294967295 by decide]
   unfold Dy.H9
   rw [show Dy.AZ 1=true from rfl,cond_true]
   refine A8 (fun h=> ?_) (fun h=> ?_)
   ·have:=A1 h
    rw [if_pos (show ((2*Dy.shS 1:Nat):Int)≤w by show (4294967296:Int)≤w;omega)]
    rfl
   ·have:=A0 h
    rw [if_neg (show¬((2*Dy.shS 1:Nat):Int)≤w by show¬(4294967296:Int)≤w;omega)]
    rfl
  ·subst c
   have hw:=j4 hok.2.1.2.1
   refine B1 rfl ⟨⟨by decide,(by decide:(0:Int)<1)⟩,?_⟩
   rw [show IntKind.u64.wrap ((A7 64 ((Dy.shS 2:Nat):Int)|||A7 64 (IntKind.u64.wrap (((Dy.shS 2:Nat):Int)-1))).toNat:Int)=18446744073709551615 by decide]
   unfold Dy.H9
   rw [show Dy.AZ 2=true from rfl,cond_true]
   rw [if_neg (show¬((2*Dy.shS 2:Nat):Int)≤w by show¬(18446744073709551616:Int)≤w;omega)]
   exact B1 (decide_eq_false (by omega)) rfl
  ·have e:=Dy.JU c
   unfold Dy.H9
   rw [e]
   exact rfl
 ·cases h
  rename_i f
  refine E8 false 35 (lam [(5,.unroll 2)]) A1f Tryz.func121 (by kernel_rfl) rfl (EP (k:=2) (by kernel_rfl) (by kernel_rfl)) fun hok=> ?_
  rw [A5o]
  rintro _ rfl _ rfl _ rfl _ rfl
  unfold Dy.B2i
  refine A8 (fun h=> ?_) (fun h=> ?_)
  ·rw [show Dy.AZ f=false by simpa using h]
   rfl
  ·rw [show Dy.AZ f=true by simpa using h]
   rfl
 ·cases h
theorem BP:G6 Tryz.prog Inv (look OE):=A3 A1f B04
theorem A9y (args:List AV) (s:Spec) (h:D21 args=some s) (hp:C6 s.pre True):Contract Tryz.prog Inv 120 args s.res:=by
 unfold D21 at h
 split at h
 ·cases h
  refine A4 false BP Tryz.func120 (by kernel_rfl) (by kernel_rfl) fun hok=> ?_
  rw [B1m]
  rintro _ rfl _ rfl _ rfl _ rfl
  rfl
 ·cases h
theorem A4g (args:List AV) (s:Spec) (h:C3e args=some s) (hp:C6 s.pre True):Contract Tryz.prog Inv 65 args s.res:=by
 unfold C3e at h
 split at h
 ·cases h
  rename_i f w
  obtain ⟨p, -⟩:=hp
  refine A4 false BP Tryz.func65 (by kernel_rfl) (by kernel_rfl) fun hok=> ?_
  rw [A5l]
  obtain ⟨hf,hw⟩:=Dy.r9 p
  rintro _ rfl _ rfl _ rfl _ rfl
  rw [p]
  refine B1 rfl ⟨⟨Dy.j3 hf,hw⟩,?_⟩
  rw [Dy.KX hf]
  rintro _ rfl _ rfl _ rfl
  rfl
 ·cases h
theorem A4f (args:List AV) (s:Spec) (h:B1u args=some s) (hp:C6 s.pre True):Contract Tryz.prog Inv 63 args s.res:=by
 unfold B1u at h
 split at h
 ·cases h
  rename_i f w
  obtain ⟨p, -⟩:=hp
  refine A4 false BP Tryz.func63 (by kernel_rfl) (by kernel_rfl) fun hok=> ?_
  rw [A5k]
  obtain ⟨hf,hw⟩:=Dy.r9 p
  rintro _ rfl _ rfl _ rfl _ rfl
  rw [p]
  refine B1 rfl ⟨⟨Dy.j3 hf,hw⟩,?_⟩
  rw [Dy.KX hf]
 ·cases h
theorem A1o (args:List AV) (s:Spec) (h:B1w args=some s) (hp:C6 s.pre True):Contract Tryz.prog Inv 123 args s.res:=by
 unfold B1w at h
 split at h
 ·cases h
  rename_i f w
  obtain ⟨p, -⟩:=hp
  refine A4 false BP Tryz.func123 (by kernel_rfl) (by kernel_rfl) fun hok=> ?_
  rw [A35]
  obtain ⟨hf,hw⟩:=Dy.r9 p
  rintro _ rfl _ rfl _ rfl _ rfl
  rw [p]
  refine B5 rfl ⟨⟨Dy.j3 hf,hw⟩,?_⟩
  rw [Dy.KX hf]
  refine A8 (fun h=> ?_) (fun h=> ?_)
  ·rw [if_pos (A1 h)];rfl
  ·rw [if_neg (A0 h)];rfl
 ·cases h
theorem B05 {f:Int} (hf:Dy.isF f) {x:Nat} (hx:x<2^Dy.M8 f):IntKind.u64.wrap ((A7 64 (x:Int)|||A7 64 ((Dy.shS f:Nat):Int)).toNat:Int)=((Dy.D5 f true+x:Nat):Int):=by
 rw [Dy.A28 hf,Dy.C0y (Dy.W8 hf) hx,T4 (by
  have:=Dy.W8 hf
  have h2:2^(Dy.M8 f+1)≤2^64:=B3 (by decide) (by omega)
  rw [I5] at h2
  omega)]
 unfold Dy.D5
 rw [if_pos rfl,FW]
theorem A4j (args:List AV) (s:Spec) (h:C3c args=some s) (hp:C6 s.pre True):Contract Tryz.prog Inv 128 args s.res:=by
 unfold C3c at h
 split at h
 ·rename_i f neg F
  split at h
  ·rename_i c
   subst c
   cases h
   obtain ⟨hf, -⟩:=hp
   refine A4 false BP Tryz.func128 (by kernel_rfl) (by kernel_rfl) fun hok=> ?_
   rw [A3a,Dy.SO hf]
   rintro _ rfl _ rfl _ rfl _ rfl
   refine B1 rfl (A8 (fun h=> ?_) (fun h=> ?_))
   ·subst h
    have e:=B05 hf (x:=0) (A9 _)
    rw [show ((0:Nat):Int)=0 from rfl] at e
    rw [e]
    rfl
   ·subst h;rfl
  ·split at h
   ·rename_i c
    subst c
    cases h
    obtain ⟨hf, -⟩:=hp
    refine A4 false BP Tryz.func128 (by kernel_rfl) (by kernel_rfl) fun hok=> ?_
    rw [A38,Dy.SO hf]
    rintro _ rfl _ rfl _ rfl _ rfl
    rw [Dy.KX hf]
    refine B1 rfl ⟨Dy.j3 hf,A8 (fun h=> ?_) (fun h=> ?_)⟩
    ·subst h
     rw [B05 hf (Dy.IT hf).1]
    ·subst h
     unfold Dy.D5
     rw [if_neg (by decide),N9]
   ·split at h
    ·rename_i c
     subst c
     cases h
     obtain ⟨hf, -⟩:=hp
     refine A4 false BP Tryz.func128 (by kernel_rfl) (by kernel_rfl) fun hok=> ?_
     rw [A37,Dy.SO hf]
     rintro _ rfl _ rfl _ rfl _ rfl
     rw [Dy.KX hf]
     refine B1 rfl ⟨Dy.j3 hf,A8 (fun h=> ?_) (fun h=> ?_)⟩
     ·subst h
      rw [B05 hf (by have:=(Dy.IT hf).1;omega)]
     ·subst h
      unfold Dy.D5
      rw [if_neg (by decide),N9]
    ·split at h
     ·rename_i c
      subst c
      cases h
      obtain ⟨⟨hf,hn⟩, -⟩:=hp
      subst hn
      refine A4 false BP Tryz.func128 (by kernel_rfl) (by kernel_rfl) fun hok=> ?_
      rw [A39,Dy.SO hf]
      rintro _ rfl _ rfl _ rfl _ rfl
      rw [Dy.KX hf]
      exact B1 rfl ⟨Dy.j3 hf,B1 rfl rfl⟩
     ·cases h
 ·cases h
theorem A1q (args:List AV) (s:Spec) (h:B1z args=some s) (hp:C6 s.pre True):Contract Tryz.prog Inv 137 args s.res:=by
 unfold B1z at h
 split at h
 ·rename_i f w F w'
  split at h
  ·rename_i c
   subst c
   cases h
   obtain ⟨⟨p,rfl⟩, -⟩:=hp
   refine A4 false BP Tryz.func137 (by kernel_rfl) (by kernel_rfl) fun hok=> ?_
   rw [A3b]
   obtain ⟨hf,hw⟩:=Dy.r9 p
   rintro _ rfl _ rfl _ rfl _ rfl
   rw [p,Dy.KX hf]
   unfold Dy.YE
   refine B1 rfl ⟨⟨Dy.j3 hf,hw⟩,A8 (fun h=>⟨Dy.j3 hf,?_⟩) (fun h=>⟨⟨Dy.j3 hf,hw⟩,?_⟩)⟩
   ·rw [if_pos (A1 h)]
   ·rw [if_neg (A0 h)]
  ·cases h
 ·cases h
theorem FE:G6 Tryz.prog Inv (look UR):=A3 (A3 (A3 (A3 (A3 (A3 BP A1q) A4j) A1o) A4f) A4g) A9y
theorem A4h (args:List AV) (s:Spec) (h:C3g args=some s) (hp:C6 s.pre True):Contract Tryz.prog Inv 64 args s.res:=by
 unfold C3g at h
 split at h
 ·cases h
  rename_i f w
  obtain ⟨p, -⟩:=hp
  refine A4 false FE Tryz.func64 (by kernel_rfl) (by kernel_rfl) fun hok=> ?_
  rw [A5m]
  obtain ⟨hf,hw⟩:=Dy.r9 p
  refine ⟨p,?_⟩
  rintro _ rfl _ rfl _ rfl _ rfl
  have q:=Dy.C3f hf w.toNat
  have hfr:(2:Nat)^Dy.A6 f≤2^52:=B3 (by decide) (by rcases Dy.J0 hf with c|c<;>omega)
  have hlow: -1074≤Dy.C9 f∧Dy.C9 f≤0:=by rcases Dy.J0 hf with c|c<;>omega
  by_cases c:4≤Dy.D3 f w.toNat
  ·rw [if_pos c,if_pos c]
   exact B5 rfl rfl
  ·rw [if_neg c,if_neg c,Dy.KX hf,Dy.RS hf]
   refine B1 rfl ⟨by rw [←Dy.RS hf];exact ⟨Dy.j3 hf,hw⟩,?_⟩
   rintro _ rfl _ rfl _ rfl
   refine A8 (fun h=> ?_) (fun h=> ?_)
   ·have h:=A1 h
    refine ⟨by omega,by rw [←Dy.RS hf];exact Dy.j3 hf,?_⟩
    rw [pw hf,Dy.C0y (by have:=Dy.OL hf;have:=Dy.W8 hf;omega) q.1,T4 (by omega),A2,
     wrap_i64 (n:=(if (1:Int)>((Dy.Y3 f w.toNat:Nat):Int) then (1:Int) else ((Dy.Y3 f w.toNat:Nat):Int))-1) (by split<;>omega) (by split<;>omega),wrap_i64 (by split<;>omega) (by split<;>omega),
     NP (by omega) _ ⟨by split<;>omega,by split<;>omega⟩]
    have e:Dy.form (Dy.o9 f w.toNat) (Dy.wFr f w.toNat+2^Dy.A6 f) ((if (1:Int)>((Dy.Y3 f w.toNat:Nat):Int) then (1:Int) else ((Dy.Y3 f w.toNat:Nat):Int))-1+Dy.C9 f)=Dy.S6 f w.toNat:=by
     unfold Dy.S6
     rw [if_neg (show¬Dy.Y3 f w.toNat=0 by omega),if_neg (show¬Dy.Y3 f w.toNat=0 by omega),if_neg (show¬(1:Int)>((Dy.Y3 f w.toNat:Nat):Int) by omega)]
    rw [e]
    refine B4 fun b l k d=> ?_
    rintro _ rfl
    rw [V4 d]
   ·have h:=A0 h
    refine ⟨by rw [←Dy.RS hf];exact Dy.j3 hf,?_⟩
    rw [A2,
     wrap_i64 (n:=(if (1:Int)>((Dy.Y3 f w.toNat:Nat):Int) then (1:Int) else ((Dy.Y3 f w.toNat:Nat):Int))-1) (by split<;>omega) (by split<;>omega),wrap_i64 (by split<;>omega) (by split<;>omega),
     NP (by omega) _ ⟨by split<;>omega,by split<;>omega⟩]
    have e:Dy.form (Dy.o9 f w.toNat) (Dy.wFr f w.toNat) ((if (1:Int)>((Dy.Y3 f w.toNat:Nat):Int) then (1:Int) else ((Dy.Y3 f w.toNat:Nat):Int))-1+Dy.C9 f)=Dy.S6 f w.toNat:=by
     unfold Dy.S6
     rw [if_pos (show Dy.Y3 f w.toNat=0 by omega),if_pos (show Dy.Y3 f w.toNat=0 by omega),if_pos (show (1:Int)>((Dy.Y3 f w.toNat:Nat):Int) by omega)]
     rfl
    rw [e]
    refine B4 fun b l k d=> ?_
    rintro _ rfl
    rw [V4 d]
 ·cases h
theorem B00 (args:List AV) (s:Spec) (h:D29 args=some s) (hp:C6 s.pre True):Contract Tryz.prog Inv 68 args s.res:=by
 unfold D29 at h
 split at h
 ·cases h
  obtain ⟨p, -⟩:=hp
  refine A4 false FE Tryz.func68 (by kernel_rfl) (by kernel_rfl) fun hok=> ?_
  rw [B1o]
  refine ⟨p,?_⟩
  rintro _ rfl _ rfl
  rfl
 ·cases h
theorem B5b (args:List AV) (s:Spec) (h:D22 args=some s) (hp:C6 s.pre True):Contract Tryz.prog Inv 66 args s.res:=by
 unfold D22 at h
 split at h
 ·cases h
  obtain ⟨p, -⟩:=hp
  refine A4 false FE Tryz.func66 (by kernel_rfl) (by kernel_rfl) fun hok=> ?_
  rw [B80]
  refine ⟨p,?_⟩
  rintro _ rfl _ rfl
  rfl
 ·cases h
theorem WH (args:List AV) (s:Spec) (h:WU args=some s) (hp:C6 s.pre True):Contract Tryz.prog Inv 119 args s.res:=by
 unfold WU at h
 split at h
 ·cases h
  obtain ⟨p, -⟩:=hp
  refine A4 false FE Tryz.func119 (by kernel_rfl) (by kernel_rfl) fun hok=> ?_
  rw [WS]
  refine ⟨p,?_⟩
  rintro _ rfl _ rfl
  rfl
 ·cases h
theorem A9z (args:List AV) (s:Spec) (h:D27 args=some s) (hp:C6 s.pre True):Contract Tryz.prog Inv 67 args s.res:=by
 unfold D27 at h
 split at h
 ·cases h
  obtain ⟨p, -⟩:=hp
  refine A4 false FE Tryz.func67 (by kernel_rfl) (by kernel_rfl) fun hok=> ?_
  rw [B1n]
  refine ⟨⟨p,rfl⟩,?_⟩
  rintro _ rfl _ rfl
  rfl
 ·cases h
theorem B5c (args:List AV) (s:Spec) (h:D26 args=some s) (hp:C6 s.pre True):Contract Tryz.prog Inv 72 args s.res:=by
 unfold D26 at h
 split at h
 ·cases h
  obtain ⟨p, -⟩:=hp
  refine A4 false FE Tryz.func72 (by kernel_rfl) (by kernel_rfl) fun hok=> ?_
  rw [B81]
  refine ⟨⟨p,rfl⟩,?_⟩
  rintro _ rfl _ rfl
  rfl
 ·cases h
end Go.AI

namespace Go.AI
open Go Go.RowKit Go.Proofs
set_option linter.unusedVariables false
set_option maxRecDepth 100000
set_option maxHeartbeats 1000000
theorem C0w (args:List AV) (s:Spec) (h:wOf args=some s) (hp:C6 s.pre True):Contract Tryz.prog Inv 176 args s.res:=by
 unfold wOf at h
 split at h
 ·cases h
  rename_i f s m e
  obtain ⟨⟨hf,hm,hb,hx⟩, -⟩:=hp
  refine A4 false FE Tryz.func176 (by kernel_rfl) (by kernel_rfl) fun hok=> ?_
  rw [C37,Dy.SO hf,hm]
  rintro _ rfl _ rfl _ rfl _ rfl
  refine B1 rfl (B1 rfl ?_)
  have hmay:=(Dy.S2.1 hm).1
  have hF:Dy.A6 f≤52:=by rcases Dy.J0 hf with c|c<;>omega
  have hlen:m.length≤2:=by
   rw [←Dy.K5 hmay]
   exact Dy.J3.2 (by omega)
  have e1:(Dy.may m&&decide (m.length≤2))=true:=by rw [hmay,decide_eq_true hlen];rfl
  rw [e1,if_pos rfl]
  rintro _ rfl _ rfl
  refine B1 rfl ?_
  rw [A2,Dy.RS hf]
  have w1:IntKind.i64.wrap (((Dy.A6 f:Nat):Int)+1)=((Dy.A6 f:Nat):Int)+1:=wrap_i64 (by omega) (by omega)
  rw [w1]
  refine B1 (decide_eq_false (by omega)) ?_
  by_cases h0:m=[]
  ·subst h0
   exact B1 rfl (B5 rfl rfl)
  ·have hv:Dy.val m≠0:=fun c=>h0 ((Dy.IK hmay).1 c)
   obtain ⟨hx1,hx2⟩:=hx h0
   have hs:=Dy.j3 hf
   rw [Dy.RS hf] at hs
   obtain ⟨k1,k2,k3,k4,k5,k6,k7⟩:=Dy.OD hf (d:=⟨s,m,e⟩) hb h0 hx1 hx2
   have etop:Dy.C7 ⟨s,m,e⟩=e+Dy.bl (Dy.val m):=by unfold Dy.C7;rw [if_neg h0]
   have hwl: -1074≤Dy.C9 f∧Dy.C9 f≤0∧Dy.P8 f≤1024:=by rcases Dy.J0 hf with c|c<;>omega
   have hfm:Dy.I3 ((Dy.A6 f:Nat):Int)=f:=by rw [←Dy.RS hf];exact Dy.KX hf
   have hpb:=Dy.LI hf
   have n0:decide (((Dy.val m:Nat):Int)=0)=false:=decide_eq_false (by omega)
   have ht:Dy.C7 ⟨s,m,e⟩≤1024:=by omega
   rw [hfm,n0]
   have w2:IntKind.i64.wrap (e+((Dy.bl (Dy.val m):Nat):Int))=Dy.C7 ⟨s,m,e⟩:=by rw [etop];exact wrap_i64 (by omega) (by omega)
   rw [w2]
   have w3:IntKind.i64.wrap (IntKind.i64.wrap (Dy.C7 ⟨s,m,e⟩-((Dy.A6 f:Nat):Int))-1)=Dy.C7 ⟨s,m,e⟩-Dy.A6 f-1:=by
    rw [wrap_i64 (n:=Dy.C7 ⟨s,m,e⟩-((Dy.A6 f:Nat):Int)) (by omega) (by omega),wrap_i64 (by omega) (by omega)]
   rw [w3]
   have w4:(if Dy.C9 f>Dy.C7 ⟨s,m,e⟩-Dy.A6 f-1 then Dy.C9 f else Dy.C7 ⟨s,m,e⟩-Dy.A6 f-1)=max (Dy.C7 ⟨s,m,e⟩-Dy.A6 f-1) (Dy.C9 f):=by split<;>omega
   rw [w4]
   have w5:IntKind.i64.wrap (IntKind.i64.wrap (((Dy.shM f:Nat):Int).tdiv 2)+1)=Dy.P8 f:=by rcases hf with rfl|rfl<;>decide
   rw [w5]
   have hsz:Dy.DD f ⟨s,m,e⟩=(max (Dy.C7 ⟨s,m,e⟩-Dy.A6 f-1) (Dy.C9 f)-Dy.C9 f).toNat*2^Dy.A6 f+Dy.val m*2^(e-max (Dy.C7 ⟨s,m,e⟩-Dy.A6 f-1) (Dy.C9 f)).toNat:=rfl
   simp only at k2 k5 k7
   generalize max (Dy.C7 ⟨s,m,e⟩-Dy.A6 f-1) (Dy.C9 f)=E at*
   have w6:IntKind.i64.wrap (e-E)=e-E:=wrap_i64 (by omega) (by omega)
   have w7:IntKind.i64.wrap (E-Dy.C9 f)=E-Dy.C9 f:=wrap_i64 (by omega) (by omega)
   rw [w6,w7]
   have w8:IntKind.u64.wrap (IntKind.u64.wrap (E-Dy.C9 f)*2^min ((Dy.A6 f:Nat):Int).toNat 64)=(((E-Dy.C9 f).toNat*2^Dy.A6 f:Nat):Int):=by
    rw [show E-Dy.C9 f=(((E-Dy.C9 f).toNat:Nat):Int) by omega,T4 (by omega),A2,A2,J1 (by omega),
     show (((E-Dy.C9 f).toNat:Nat):Int)*2^Dy.A6 f=(((E-Dy.C9 f).toNat*2^Dy.A6 f:Nat):Int) by rw [L5,MC];rfl,T4 (by omega)]
   have w9:IntKind.u64.wrap (((Dy.val m:Nat):Int)*2^min (e-E).toNat 64)=((Dy.val m*2^(e-E).toNat:Nat):Int):=by
    rw [J1 (by omega),show ((Dy.val m:Nat):Int)*2^(e-E).toNat=((Dy.val m*2^(e-E).toNat:Nat):Int) by rw [L5,MC];rfl,T4 (by omega)]
   rw [w8,w9,←Int.natCast_add,←hsz,T4 (by omega)]
   refine B5 rfl ⟨hs,B1 (decide_eq_false (by omega)) (B1 (decide_eq_false (by omega)) (B1 rfl ⟨hs,by omega,hs,by omega,⟨hs,rfl,by rw [Dy.A28 hf];omega⟩,?_⟩))⟩
   rw [if_neg h0]
   unfold Dy.D5
   cases s
   ·rw [if_neg (by decide),if_neg (by decide),N9]
   ·rw [if_pos rfl,if_pos rfl,Dy.A28 hf,←Int.natCast_add,FW]
 ·cases h
theorem NS:G6 Tryz.prog Inv (look A6z):=A3 (A3 (A3 (A3 (A3 (A3 (A3 FE C0w) B5c) A9z) WH) B5b) B00) A4h
end Go.AI
