/- My texts AIcr3, AIcr4, AIspecT, AImir, AIcr5, AIspecC, AVword, AIword, AIword2, AIword3, in one. -/
import Derived.Test.YtogikmlfkhofoaaGreatDoorK14
namespace Go.Dy
set_option maxRecDepth 100000
theorem near1_below {m a a' b b':Nat} (h:near1 m a b) (ha:a'≤a) (hb:b≤b'):near1 m a' b':=Nat.le_trans (Nat.mul_le_mul_right m ha) (Nat.le_trans h (Nat.mul_le_mul_right _ hb))
theorem near1_cancel {m a b c:Nat} (h:near1 m (a*c) (b*c)) (hc:0<c):near1 m a b:=by
 unfold near1 at*
 rw [Nat.mul_right_comm a c m,Nat.mul_right_comm b c] at h
 exact Nat.le_of_mul_le_mul_right h hc
theorem near1_two {j a b c:Nat} (h:near1 (2^(j+2)) a b) (k:near1 (2^(j+2)) b c):near1 (2^j) a c:=by
 have e:2^(j+2)=4*2^j:=by rw [Nat.pow_add,Nat.mul_comm]
 rw [e] at h k
 exact near1_trans h k (Nat.two_pow_pos j)
theorem near1_pow {i j a b:Nat} (hij:i≤j) (h:near1 (2^j) a b):near1 (2^i) a b:=near1_mono (Nat.pow_le_pow_right (by decide) hij) h
theorem small_lo {T a b E' D2:Nat} (h:T*(E'+a)≤b*b) (hD:a*a+b*b=D2) (hE:D2≤E'*E') (hb:b≠0):T+a≤isq D2:=by
 have hb2:0<b*b:=Nat.mul_pos (by omega) (by omega)
 have hE2:a*a≤E'*E':=by omega
 obtain ⟨c,rfl⟩:∃c,E'=a+c:=⟨E'-a,by have:=sq_le_sq hE2;omega⟩
 have e1:(a+c)*(a+c)=a*a+2*(a*c)+c*c:=by rw [Nat.add_mul,Nat.mul_add,Nat.mul_add,Nat.mul_comm c a];omega
 rw [e1] at hE
 refine le_isq ?_
 have e2:(T+a)*(T+a)=a*a+2*(a*T)+T*T:=by rw [Nat.add_mul,Nat.mul_add,Nat.mul_add,Nat.mul_comm T a];omega
 have e3:T*(a+c+a)=2*(a*T)+T*c:=by rw [Nat.mul_add,Nat.mul_add,Nat.mul_comm T a];omega
 rw [e3] at h
 rw [e2]
 rcases Nat.le_total T c with l|l
 ·have:=Nat.mul_le_mul_left T l
  omega
 ·by_cases l2:T=c
  ·subst l2;omega
  ·exfalso
   have h1:a*(c+1)≤a*T:=Nat.mul_le_mul_left a (by omega)
   have h2:(c+1)*c≤T*c:=Nat.mul_le_mul_right c (by omega)
   rw [Nat.mul_add,Nat.mul_one] at h1
   rw [Nat.add_mul,Nat.one_mul] at h2
   have ha:a=0:=by omega
   have hc:c=0:=by omega
   subst ha hc
   simp at hE
   omega
theorem small_hi {T a b E'' D2 W:Nat} (h:b*b≤T*(E''+a)) (hD:a*a+b*b=D2) (hE:E''*E''≤D2) (hW:(W+a)*(W+a)≤D2):W≤T:=by
 refine Decidable.byContradiction fun l=> ?_
 have e2:(W+a)*(W+a)=a*a+2*(a*W)+W*W:=by rw [Nat.add_mul,Nat.mul_add,Nat.mul_add,Nat.mul_comm W a];omega
 rw [e2] at hW
 rcases Nat.le_total E'' (W+a) with c|c
 ·have h1:T*(E''+a)≤T*(W+a+a):=Nat.mul_le_mul_left T (by omega)
  have h2:T*(W+a+a)<W*(W+a+a):=Nat.mul_lt_mul_of_pos_right (by omega) (by omega)
  have h3:W*(W+a+a)=W*W+2*(a*W):=by rw [Nat.mul_add,Nat.mul_add,Nat.mul_comm W a];omega
  omega
 ·obtain ⟨d,rfl⟩:∃d,E''=a+d:=⟨E''-a,by omega⟩
  have h2:T*(a+d+a)<d*(a+d+a):=Nat.mul_lt_mul_of_pos_right (by omega) (by omega)
  have h3:d*(a+d+a)=d*d+2*(a*d):=by rw [Nat.mul_add,Nat.mul_add,Nat.mul_comm d a];omega
  have e1:(a+d)*(a+d)=a*a+2*(a*d)+d*d:=by rw [Nat.add_mul,Nat.mul_add,Nat.mul_add,Nat.mul_comm d a];omega
  rw [e1] at hE
  omega
def sLo (Sq:Dyd) (n:Int):Dyd:=(rootF Sq n).1
def sHi (Sq:Dyd) (n:Int):Dyd:=rootU Sq n
def gLo (Sq x:Dyd) (n:Int):Dyd:=shD (endD (addD (sLo Sq n) x) n false) (-1)
def gHi (Sq x:Dyd) (n:Int):Dyd:=shD (endD (addD (sHi Sq n) x) n true) (-1)
def lgLo (Sq x:Dyd) (n:Int):Dyd:=(rootF (gLo Sq x n) n).1
def lgHi (Sq x:Dyd) (n:Int):Dyd:=rootU (gHi Sq x n) n
def stLo (Sq x y:Dyd) (n:Int):Dyd:=quoE (shD y (-1)) (lgHi Sq x n) n false
def stHi (Sq x y:Dyd) (n:Int):Dyd:=quoE (shD y (-1)) (lgLo Sq x n) n true
theorem sh_at {d:Dyd} (h0:d.mag≠[]) {V:Nat} (hV: -(V:Int)≤d.exp-1):at_ (shD d (-1)) (-(2*V:Int))*2=at_ d (-(V:Int))*2^V∧at_ (shD d (-1)) (-(V:Int))*2=at_ d (-(V:Int)):=by
 obtain ⟨s,m,e⟩:=d
 simp only at h0 hV
 unfold shD
 rw [if_neg h0]
 obtain ⟨k,hk⟩:∃k:Nat,e-1+V=k:=⟨(e-1+V).toNat,by omega⟩
 have e1:(e+ -1 - -(2*V:Int)).toNat=k+V:=by omega
 have e2:(e - -(V:Int)).toNat=k+1:=by omega
 have e3:(e+ -1 - -(V:Int)).toNat=k:=by omega
 unfold at_
 simp only [Dyd.int_eq]
 rw [e1,e2,e3]
 generalize sgn s (val m)=z
 rw [Int.pow_add,Int.pow_succ]
 refine ⟨?_,by rw [Int.mul_assoc]⟩
 rw [Int.mul_assoc,Int.mul_assoc,Int.mul_assoc,Int.mul_assoc (2^k) 2,Int.mul_comm 2 (2^V)]
theorem sh_ne {d:Dyd} (h0:d.mag≠[]):shD d (-1)=⟨d.neg,d.mag,d.exp+ -1⟩:=by unfold shD;rw [if_neg h0]
theorem sh_may {d:Dyd} (h0:d.mag≠[]) (hm:mayD d=true) (he: -10000000≤d.exp):mayD (shD d (-1))=true:=by
 have hx:=mayD_exp (s:=d.neg) (m:=d.mag) (e:=d.exp) hm
 rw [sh_ne h0]
 rw [mayD_iff] at hm ⊢
 obtain ⟨a,b⟩:=hm
 rcases b with b|⟨b1,b2,b3⟩
 ·exact absurd b.1 h0
 ·exact ⟨a,.inr ⟨b1,b2,inside_iff.2 ⟨by omega,by omega⟩⟩⟩
theorem at_nat {d:Dyd} (h:d.neg=false) (u:Int):at_ d u=((val d.mag*2^(d.exp-u).toNat:Nat):Int):=by
 obtain ⟨s,m,e⟩:=d
 simp only at h
 subst h
 rw [at_mk]
 rfl
structure Off (x y Sq:Dyd) (A B V:Nat):Prop where
 big:40000≤V
 mx:mayD x=true
 nx:x.neg=false
 my:mayD y=true
 ny:y.neg=false
 y0:y.mag≠[]
 mS:mayD Sq=true
 nS:Sq.neg=false
 S0:Sq.mag≠[]
 ax:at_ x (-(V:Int))=A
 ay:at_ y (-(V:Int))=B
 aS:at_ Sq (-(2*V:Int))=((A*A+B*B:Nat):Int)
 ex: -1100≤x.exp
 ey: -1100≤y.exp
 eS: -2200≤Sq.exp
theorem form_nn (q:Nat) (e:Int):(form false q e).neg=false:=by
 by_cases h:q=0
 ·subst h;rw [form_zero];rfl
 ·rw [form_pos h]
theorem form_ne {q:Nat} (h:q≠0) (e:Int):(form false q e).mag≠[]:=by
 rw [form_pos h]
 intro c
 have h0:=dg_eq_nil.1 c
 have h1:=div_tz_odd h
 omega
theorem cut_fit {q n V L T:Nat} {x1:Int} (hb:bl q=n) (n1:1≤n) (n2:n≤8192) (h1: -(20000:Int)≤x1) (hV: -(V:Int)≤x1) (hL:L=q*2^(x1+V).toNat) (hT:L<2^(V+T)) (hTs:T≤10000) (c:Bool):Fit (form false (if c=true then q+1 else q) x1) 8193 20000∧x1+n≤T:=by
 have hq:q≠0:=fun e=>by rw [e,bl_zero] at hb;omega
 have h2:2^(n-1)≤q:=lt_bl.1 (by omega)
 have h3:=Nat.mul_le_mul_right (2^(x1+V).toNat) h2
 rw [←hL,←Nat.pow_add] at h3
 have h4:n-1+(x1+V).toNat<V+T:=by
  rcases Nat.lt_or_ge (n-1+(x1+V).toNat) (V+T) with d|d
  ·exact d
  ·have:=Nat.pow_le_pow_right (n:=2) (by decide) d
   omega
 have h5:bl (if c=true then q+1 else q)≤n+1:=by
  split
  ·refine bl_le.2 ?_
   have:=lt_two_bl q
   rw [hb] at this
   have e:2^(n+1)=2*2^n:=by rw [Nat.pow_succ,Nat.mul_comm]
   omega
  ·omega
 have h6:x1+n≤T:=by omega
 exact ⟨(fit_form (L:=8193) (E:=20000) (by omega) (by omega) (by omega) (by decide) (by decide)).1,h6⟩
theorem sq_lt_pow {L T k:Nat} (h:L*L≤T) (hT:T<2^(2*k)):L<2^k:=by
 rcases Nat.lt_or_ge L (2^k) with c|c
 ·exact c
 ·have:=Nat.mul_le_mul c c
  rw [pow_sq] at this
  omega
section
variable {x y Sq:Dyd} {A B V n:Nat}
theorem sum_lt (hp:Parts A B V):A*A+B*B<2^(2*(V+1025)):=by
 have a:=Nat.mul_lt_mul_of_lt_of_lt hp.lA hp.lA
 have b:=Nat.mul_lt_mul_of_lt_of_lt hp.lB hp.lB
 rw [pow_sq] at a b
 have e:2^(2*(V+1025))=4*2^(2*(V+1024)):=by rw [show 2*(V+1025)=2*(V+1024)+2 by omega,Nat.pow_add,Nat.mul_comm]
 omega
theorem s_span (h:Off x y Sq A B V) (hp:Parts A B V) (n1:1≤n) (n2:n≤8192):
  ∃SL SH:Nat,(at_ (sLo Sq n) (-(V:Int))=SL∧at_ (sHi Sq n) (-(V:Int))=SH)∧(Fit (sLo Sq n) 8193 20000∧Fit (sHi Sq n) 8193 20000)∧(-10000≤(sLo Sq n).exp∧ -10000≤(sHi Sq n).exp)∧SL*SL≤A*A+B*B∧A*A+B*B≤SH*SH∧near1 (2^(n-1)) SH SL∧SL≠0∧SL≤SH:=by
 have hV:=h.big
 have eS:=h.eS
 obtain ⟨L,u,⟨a1, -⟩,⟨a2, -⟩,a3,a4,a5,a6,a7,q,x1,b1,b2,b3,b4,b6,b5⟩:=root_span h.mS h.nS h.S0 (V:=V) (n:=n) n1 (by omega) h.aS
 obtain ⟨L0,u0,⟨-,c1⟩,⟨-,c2⟩, -, -, -, -, -,q',x1',d1,d2,d3, -, -,d5⟩:=root_span h.mS h.nS h.S0 (V:=10000) (n:=n) n1 (by omega) (at_nat h.nS _)
 have hL:L<2^(V+1025):=sq_lt_pow a3 (sum_lt hp)
 have hx1: -(20000:Int)≤x1:=by
  have hq:q≠0:=fun e=>by rw [e,bl_zero] at b2;omega
  have hq':q'≠0:=fun e=>by rw [e,bl_zero] at d2;omega
  have e:=b1.symm.trans d1
  have f1:=top_form (s:=false) hq (e:=x1)
  have f2:=top_form (s:=false) hq' (e:=x1')
  rw [e] at f1
  omega
 have fl:=(cut_fit b2 n1 n2 hx1 b3 b4 hL (by decide) false).1
 have fh:=(cut_fit b2 n1 n2 hx1 b3 b4 hL (by decide) (rootF Sq n).2).1
 rw [if_neg (by decide),←b1] at fl
 rw [←b5] at fh
 refine ⟨L,_,⟨a1,a2⟩,⟨fl,fh⟩,⟨c1,c2⟩,a3,?_,?_,a6,?_⟩
 ·split
  ·omega
  ·rename_i c
   have:¬L*L≠A*A+B*B:=fun d=>c (a7.2 d)
   omega
 ·split
  ·exact near1_step (u:=u) (Nat.le_refl _) a5
  ·exact near1_refl _ _
 ·split<;>omega
theorem nn_at {d:Dyd} (hm:mayD d=true) {V X:Nat} (hV: -(V:Int)≤d.exp) (hX:at_ d (-(V:Int))=X):d.neg=false∧(X≠0→d.mag≠[]):=by
 have e:=formZ_at hm hV
 rw [hX] at e
 have e2:form false X (-(V:Int))=d:=by
  rw [form_sgn]
  exact e
 refine ⟨by rw [←e2];exact form_nn _ _,fun h0=>by rw [←e2];exact form_ne h0 _⟩
theorem g_span (h:Off x y Sq A B V) (hp:Parts A B V) (fx:Fit x 1100 1100) (n1:20≤n) (n2:n≤8192):
  ∃SL SH GL GH:Nat,(SL*SL≤A*A+B*B∧A*A+B*B≤SH*SH)∧(at_ (gLo Sq x n) (-(2*V:Int))*2=((GL*2^V:Nat):Int)∧at_ (gHi Sq x n) (-(2*V:Int))*2=((GH*2^V:Nat):Int))∧
   (Fit (addD (sLo Sq n) x) 48194 68194∧Fit (addD (sHi Sq n) x) 48194 68194)∧(Fit (endD (addD (sLo Sq n) x) n false) 8193 124582∧Fit (endD (addD (sHi Sq n) x) n true) 8193 124582)∧(Fit (gLo Sq x n) 8193 124583∧Fit (gHi Sq x n) 8193 124583)∧
   (-10001≤(gLo Sq x n).exp∧ -10001≤(gHi Sq x n).exp)∧GL≤SL+A∧SH+A≤GH∧near1 (2^(n-5)) GH GL∧GL≠0∧SL≠0∧SL≤SH∧((gLo Sq x n).neg=false∧(gHi Sq x n).neg=false)∧((gLo Sq x n).mag≠[]∧(gHi Sq x n).mag≠[]):=by
 have hV:=h.big
 have ex:=h.ex
 obtain ⟨SL,SH,⟨a1,a2⟩,⟨f1,f2⟩,⟨e1,e2⟩,s1,s2,s3,s4,s5⟩:=s_span h hp (by omega) n2
 have fx':=fx.mono (L':=8193) (E':=20000) (by decide) (by decide)
 have g1:=(fit_add f1 fx' (by decide) (by decide)).1
 have g2:=(fit_add f2 fx' (by decide) (by decide)).1
 have z1:at_ (addD (sLo Sq n) x) (-(V:Int))=((SL+A:Nat):Int):=by rw [at_addD (by omega) (by omega),a1,h.ax];omega
 have z2:at_ (addD (sHi Sq n) x) (-(V:Int))=((SH+A:Nat):Int):=by rw [at_addD (by omega) (by omega),a2,h.ax];omega
 have x1: -(10000:Int)≤(addD (sLo Sq n) x).exp:=by rw [addD_at (u:= -10000) e1 (by omega)];exact exp_formZ (Int.le_refl _) (by omega)
 have x2: -(10000:Int)≤(addD (sHi Sq n) x).exp:=by rw [addD_at (u:= -10000) e2 (by omega)];exact exp_formZ (Int.le_refl _) (by omega)
 have nn1:=nn_at g1.may (V:=V) (by omega) z1
 have nn2:=nn_at g2.may (V:=V) (by omega) z2
 obtain ⟨GL, -,⟨p1, -⟩, -,p2, -,p3, -⟩:=end_span g1.may (V:=V) (n:=n) (by omega) z1 (by omega) (by omega)
 obtain ⟨-,GH, -,⟨q1, -⟩, -,q2, -,q3⟩:=end_span g2.may (V:=V) (n:=n) (by omega) z2 (by omega) (by omega)
 have k1: -(10000:Int)≤(endD (addD (sLo Sq n) x) n false).exp:=by
  have c0:=nn1.2 (by omega)
  have hne:val (addD (sLo Sq n) x).mag*2^((addD (sLo Sq n) x).exp - -(10000:Int)).toNat≠0:=Nat.mul_ne_zero (val_ne (mayD_may (s:=(addD (sLo Sq n) x).neg) (e:=(addD (sLo Sq n) x).exp) g1.may) c0) (Nat.pos_iff_ne_zero.1 (Nat.two_pow_pos _))
  obtain ⟨-, -,⟨-,r⟩, -⟩:=end_span g1.may (V:=10000) (n:=n) x1 (at_nat nn1.1 _) hne (by omega)
  exact r
 have k2: -(10000:Int)≤(endD (addD (sHi Sq n) x) n true).exp:=by
  have c0:=nn2.2 (by omega)
  have hne:val (addD (sHi Sq n) x).mag*2^((addD (sHi Sq n) x).exp - -(10000:Int)).toNat≠0:=Nat.mul_ne_zero (val_ne (mayD_may (s:=(addD (sHi Sq n) x).neg) (e:=(addD (sHi Sq n) x).exp) g2.may) c0) (Nat.pos_iff_ne_zero.1 (Nat.two_pow_pos _))
  obtain ⟨-, -, -,⟨-,r⟩, -⟩:=end_span g2.may (V:=10000) (n:=n) x2 (at_nat nn2.1 _) hne (by omega)
  exact r
 have fe1:Fit (endD (addD (sLo Sq n) x) n false) 8193 124582:=(end_fit g1 (n:=(n:Int)) ⟨by omega,by omega⟩ (by decide) false).mono (by omega) (by decide)
 have fe2:Fit (endD (addD (sHi Sq n) x) n true) 8193 124582:=(end_fit g2 (n:=(n:Int)) ⟨by omega,by omega⟩ (by decide) true).mono (by omega) (by decide)
 have GL0:GL≠0:=fun e=>by
  subst e
  unfold near1 at p3
  have:=Nat.mul_pos (show 0<SL+A by omega) (Nat.two_pow_pos (n-1))
  omega
 have m1:=nn_at fe1.may (V:=V) (by omega) p1
 have m2:=nn_at fe2.may (V:=V) (by omega) q1
 have mg1:=m1.2 GL0
 have mg2:=m2.2 (by omega)
 have sg1:gLo Sq x n=⟨(endD (addD (sLo Sq n) x) n false).neg,(endD (addD (sLo Sq n) x) n false).mag,(endD (addD (sLo Sq n) x) n false).exp+ -1⟩:=sh_ne mg1
 have sg2:gHi Sq x n=⟨(endD (addD (sHi Sq n) x) n true).neg,(endD (addD (sHi Sq n) x) n true).mag,(endD (addD (sHi Sq n) x) n true).exp+ -1⟩:=sh_ne mg2
 have t1:=(sh_at mg1 (V:=V) (by omega)).1
 have t2:=(sh_at mg2 (V:=V) (by omega)).1
 rw [p1] at t1
 rw [q1] at t2
 have l1:=fe1.lo
 have l2:=fe2.lo
 have u1:=fe1.hi
 have u2:=fe2.hi
 have fg1:Fit (gLo Sq x n) 8193 124583:=by
  have hm:mayD (gLo Sq x n)=true:=sh_may mg1 fe1.may (by omega)
  rw [sg1] at hm ⊢
  exact ⟨hm,fe1.bits,by simp only;omega,by simp only;omega⟩
 have fg2:Fit (gHi Sq x n) 8193 124583:=by
  have hm:mayD (gHi Sq x n)=true:=sh_may mg2 fe2.may (by omega)
  rw [sg2] at hm ⊢
  exact ⟨hm,fe2.bits,by simp only;omega,by simp only;omega⟩
 refine ⟨SL,SH,GL,GH,⟨s1,s2⟩,⟨?_,?_⟩,⟨g1,g2⟩,⟨fe1,fe2⟩,⟨fg1,fg2⟩,⟨?_,?_⟩,p2,q2,?_,GL0,s4,s5,⟨?_,?_⟩,⟨?_,?_⟩⟩
 ·rw [Int.natCast_mul,pow_cast];exact t1
 ·rw [Int.natCast_mul,pow_cast];exact t2
 ·rw [sg1];simp only;omega
 ·rw [sg2];simp only;omega
 ·-- the chain
  have w1:near1 (2^(n-3)) (SH+A) GL:=near1_two (by rw [show n-3+2=n-1 by omega];exact near1_add s3 A) (by rw [show n-3+2=n-1 by omega];exact p3)
  exact near1_two (by rw [show n-5+2=n-3 by omega];exact near1_pow (by omega) q3) (by rw [show n-5+2=n-3 by omega];exact w1)
 ·rw [sg1];exact m1.1
 ·rw [sg2];exact m2.1
 ·rw [sg1];exact mg1
 ·rw [sg2];exact mg2
end
end Go.Dy

namespace Go.Dy
set_option maxRecDepth 100000
section
variable {x y Sq:Dyd} {A B V n:Nat}
theorem exp_of_form {q q' n:Nat} {x1 x2:Int} (h:form false q x1=form false q' x2) (hb:bl q=n) (hb':bl q'=n) (n1:1≤n):x1=x2:=by
 have hq:q≠0:=fun e=>by rw [e,bl_zero] at hb;omega
 have hq':q'≠0:=fun e=>by rw [e,bl_zero] at hb';omega
 have f1:=top_form (s:=false) hq (e:=x1)
 have f2:=top_form (s:=false) hq' (e:=x2)
 rw [h] at f1
 omega
theorem l_span (h:Off x y Sq A B V) (hp:Parts A B V) (fx:Fit x 1100 1100) (n1:20≤n) (n2:n≤8192):
  ∃SL SH GL GH PL PH:Nat,(SL*SL≤A*A+B*B∧A*A+B*B≤SH*SH)∧(GL≤SL+A∧SH+A≤GH)∧(at_ (lgLo Sq x n) (-(V:Int))=PL∧at_ (lgHi Sq x n) (-(V:Int))=PH)∧(Fit (lgLo Sq x n) 8193 20000∧Fit (lgHi Sq x n) 8193 20000)∧
   ((lgLo Sq x n).neg=false∧(lgHi Sq x n).neg=false)∧((lgLo Sq x n).mag≠[]∧(lgHi Sq x n).mag≠[])∧(2*(PL*PL)≤GL*2^V∧GH*2^V≤2*(PH*PH))∧near1 (2^(n-9)) PH PL∧PL≠0∧PL≤bigV A B V∧bigV A B V≤PH:=by
 have hV:=h.big
 obtain ⟨SL,SH,GL,GH,⟨s1,s2⟩,⟨t1,t2⟩, -, -,⟨fg1,fg2⟩,⟨e1,e2⟩,g1,g2,g3,g4,g5,g6,⟨ng1,ng2⟩,⟨mg1,mg2⟩⟩:=g_span h hp fx n1 n2
 have hX1:=at_nat ng1 (-(2*V:Int))
 have hX2:=at_nat ng2 (-(2*V:Int))
 obtain ⟨X1,hX1e⟩:∃X1:Nat,val (gLo Sq x n).mag*2^((gLo Sq x n).exp - -(2*V:Int)).toNat=X1:=⟨_,rfl⟩
 obtain ⟨X2,hX2e⟩:∃X2:Nat,val (gHi Sq x n).mag*2^((gHi Sq x n).exp - -(2*V:Int)).toNat=X2:=⟨_,rfl⟩
 rw [hX1e] at hX1
 rw [hX2e] at hX2
 rw [hX1] at t1
 rw [hX2] at t2
 have t1:X1*2=GL*2^V:=by
  have:((X1*2:Nat):Int)=((GL*2^V:Nat):Int):=by rw [←t1];simp
  exact Int.ofNat.inj this
 have t2:X2*2=GH*2^V:=by
  have:((X2*2:Nat):Int)=((GH*2^V:Nat):Int):=by rw [←t2];simp
  exact Int.ofNat.inj this
 obtain ⟨PL,u,⟨a1, -⟩, -,a3,a4,a5,a6, -,q,x1,b1,b2,b3,b4, -, -⟩:=root_span fg1.may ng1 mg1 (V:=V) (n:=n) (by omega) (by omega) hX1
 obtain ⟨-, -,⟨-,c1⟩, -, -, -, -, -, -,q',x1',d1,d2,d3, -, -, -⟩:=root_span fg1.may ng1 mg1 (V:=14000) (n:=n) (by omega) (by omega) (at_nat ng1 _)
 obtain ⟨RH,uh, -,⟨r2, -⟩,r3,r4,r5,r6,r7,w,y1,v1,v2,v3,v4, -,v5⟩:=root_span fg2.may ng2 mg2 (V:=V) (n:=n) (by omega) (by omega) hX2
 obtain ⟨-, -, -,⟨-,k2⟩, -, -, -, -, -,w',y1',l1,l2,l3, -, -, -⟩:=root_span fg2.may ng2 mg2 (V:=14000) (n:=n) (by omega) (by omega) (at_nat ng2 _)
 have hx1:=exp_of_form (b1.symm.trans d1) b2 d2 (by omega)
 have hy1:=exp_of_form (v1.symm.trans l1) v2 l2 (by omega)
 have hE:= @rtE_spec A B V
 have hpV:=Nat.two_pow_pos V
 have hSL:SL*2^V≤rtE A B V:=by
  refine le_isq ?_
  rw [Nat.mul_mul_mul_comm,pow_sq]
  exact Nat.mul_le_mul_right _ s1
 have hSH:rtE A B V≤SH*2^V:=by
  refine sq_le_sq ?_
  rw [Nat.mul_mul_mul_comm SH,pow_sq]
  exact Nat.le_trans hE.1 (Nat.mul_le_mul_right _ s2)
 have hGL:=Nat.mul_le_mul_right (2^V) g1
 have hGH:=Nat.mul_le_mul_right (2^V) g2
 rw [Nat.add_mul] at hGL hGH
 have hPLb:PL≤bigV A B V:=le_isq ((Nat.le_div_iff_mul_le (by decide)).2 (by omega))
 have hbs:= @bigV_spec A B V
 obtain ⟨PH,hPH⟩:∃PH:Nat,(if (rootF (gHi Sq x n) n).2=true then RH+uh else RH)=PH:=⟨_,rfl⟩
 rw [hPH] at r2
 have hPH2:X2≤PH*PH:=by
  rw [←hPH]
  split
  ·omega
  ·rename_i c
   have:¬RH*RH≠X2:=fun d=>c (r7.2 d)
   omega
 have hPHn:near1 (2^(n-1)) PH RH:=by
  rw [←hPH]
  split
  ·exact near1_step (u:=uh) (Nat.le_refl _) r5
  ·exact near1_refl _ _
 have hbP:bigV A B V≤PH:=sq_le_sq (by omega)
 have hGG:GH≤2*GL:=by
  have:=near1_pow (i:=0) (by omega) g3
  unfold near1 at this
  omega
 have hA:=(@rtE_ge A B V).1
 have hrt:=rtE_le hp
 have hR:RH<2^(V+513):=by
  refine sq_lt_pow (T:=X2) r3 ?_
  have h1:=Nat.mul_le_mul_right (2^V) hGG
  rw [Nat.mul_assoc] at h1
  have e:2^(2*(V+513))=2*2^(2*V+1025):=by rw [show 2*(V+513)=(2*V+1025)+1 by omega,Nat.pow_succ,Nat.mul_comm]
  omega
 have hPLl:PL<2^(V+513):=Nat.lt_of_le_of_lt hPLb (bigV_le hp)
 have fl:=(cut_fit b2 (by omega) n2 (by omega) b3 b4 hPLl (by decide) false).1
 have fh:=(cut_fit v2 (by omega) n2 (by omega) v3 v4 hR (by decide) (rootF (gHi Sq x n) n).2).1
 rw [if_neg (by decide),←b1] at fl
 rw [←v5] at fh
 have nl:=nn_at (d:=lgLo Sq x n) fl.may (V:=V) (by have:=fl.lo;show -(V:Int)≤(rootF (gLo Sq x n) n).1.exp;omega) a1
 have nh:=nn_at (d:=lgHi Sq x n) fh.may (V:=V) (by have:=fh.lo;show -(V:Int)≤(rootU (gHi Sq x n) n).exp;omega) r2
 have hb0:=bigV_low hp
 have hp0:=Nat.two_pow_pos (V-538)
 refine ⟨SL,SH,GL,GH,PL,PH,⟨s1,s2⟩,⟨g1,g2⟩,⟨a1,r2⟩,⟨fl,fh⟩,⟨nl.1,nh.1⟩,⟨nl.2 a6,nh.2 (by omega)⟩,⟨by omega,by omega⟩,?_,a6,hPLb,hbP⟩
 have k1:near1 (2^(n-5)) (X2*2) (X1*2):=by rw [t1,t2];exact near1_mul g3 _
 have k2:near1 (2^(n-5)) RH (PL+u):=near1_sqrt (near1_below (near1_cancel k1 (by decide)) r3 (by omega))
 have k3:near1 (2^(n-1)) (PL+u) PL:=near1_step (Nat.le_refl _) a5
 have k4:near1 (2^(n-7)) RH PL:=near1_two (by rw [show n-7+2=n-5 by omega];exact k2) (by rw [show n-7+2=n-5 by omega];exact near1_pow (by omega) k3)
 exact near1_two (by rw [show n-9+2=n-7 by omega];exact near1_pow (by omega) hPHn) (by rw [show n-9+2=n-7 by omega];exact k4)
theorem half_span (h:Off x y Sq A B V) (hp:Parts A B V) (fx:Fit x 1100 1100) (fy:Fit y 1100 1100) (n1:20≤n) (n2:n≤8192):
  ∃PL PH QL QH:Nat,(at_ (lgLo Sq x n) (-(V:Int))=PL∧at_ (lgHi Sq x n) (-(V:Int))=PH)∧(at_ (stLo Sq x y n) (-(V:Int))=QL∧at_ (stHi Sq x y n) (-(V:Int))=QH)∧(PL≤bigV A B V∧bigV A B V≤PH∧near1 (2^(n-9)) PH PL)∧(QL≤smallV A B V∧smallV A B V≤QH∧near1 (2^(n-11)) QH QL)∧PL≠0∧QL≠0∧
   (Fit (stLo Sq x y n) 8193 100000∧Fit (stHi Sq x y n) 8193 100000)∧Fit (shD y (-1)) 1100 1101∧(shD y (-1)).neg=false∧(-(V:Int)≤(stLo Sq x y n).exp∧ -(V:Int)≤(stHi Sq x y n).exp):=by
 have hV:=h.big
 have ey:=h.ey
 obtain ⟨SL,SH,GL,GH,PL,PH,⟨s1,s2⟩,⟨g1,g2⟩,⟨a1,a2⟩,⟨f1,f2⟩,⟨nn1,nn2⟩,⟨m1,m2⟩,⟨c1,c2⟩,k9,P0,b1,b2⟩:=l_span h hp fx n1 n2
 have hsy:=sh_ne h.y0
 have fyl:=fy.lo
 have fyh:=fy.hi
 have fs:Fit (shD y (-1)) 1100 1101:=by
  have hm:=sh_may h.y0 h.my (by omega)
  rw [hsy] at hm ⊢
  exact ⟨hm,fy.bits,by simp only;omega,by simp only;omega⟩
 have ns:(shD y (-1)).neg=false:=by rw [hsy];exact h.ny
 have ms:(shD y (-1)).mag≠[]:=by rw [hsy];exact h.y0
 have exs:(shD y (-1)).exp=y.exp-1:=by rw [hsy];rfl
 have hay:=(sh_at h.y0 (V:=V) (by omega)).2
 rw [h.ay] at hay
 obtain ⟨Yh,hYh⟩:∃Yh:Nat,at_ (shD y (-1)) (-(V:Int))=Yh:=⟨_,at_nat ns _⟩
 rw [hYh] at hay
 have hB:Yh*2=B:=by omega
 have l1:=f1.lo
 have l2:=f2.lo
 have h1:=f1.hi
 have h2:=f2.hi
 have bb1:=f1.bits
 have bb2:=f2.bits
 obtain ⟨QL,QH',⟨q1,q1e⟩,q4,q2,q5,q3⟩:=quo_span fs.may f2.may ns nn2 m2 (V:=V) (n:=n) (by omega) hYh a2 (by omega) (by omega) (by omega) (by omega)
 obtain ⟨QL',QH,r4,⟨r1,r1e⟩,r5,r2,r3⟩:=quo_span fs.may f1.may ns nn1 m1 (V:=V) (n:=n) (by omega) hYh a1 (by omega) (by omega) (by omega) (by omega)
 have q3:=(q3 ms).1
 have r3:=(r3 ms).2
 have hb:B*2^V=2*(Yh*2^V):=by rw [←hB,Nat.mul_comm Yh 2,Nat.mul_assoc]
 have hE:= @rtE_spec A B V
 have hpar:= @rtE_parts A B V
 have hb0:B*2^V≠0:=Nat.mul_ne_zero hp.off (Nat.pos_iff_ne_zero.1 (Nat.two_pow_pos V))
 have hSHq:(A*A+B*B)*2^(2*V)≤SH*2^V*(SH*2^V):=by rw [Nat.mul_mul_mul_comm SH,pow_sq];exact Nat.mul_le_mul_right _ s2
 have hSLq:SL*2^V*(SL*2^V)≤(A*A+B*B)*2^(2*V):=by rw [Nat.mul_mul_mul_comm SL,pow_sq];exact Nat.mul_le_mul_right _ s1
 have hGL:=Nat.mul_le_mul_right (2^V) g1
 have hGH:=Nat.mul_le_mul_right (2^V) g2
 rw [Nat.add_mul] at hGL hGH
 have sq2:∀q p:Nat,2*(q*q)*(2*(p*p))=2*(q*p)*(2*(q*p)):=by
  intro q p
  rw [Nat.mul_mul_mul_comm,Nat.mul_mul_mul_comm q q p p,Nat.mul_mul_mul_comm 2 (q*p)]
 have lowQ:QL≤smallV A B V:=by
  have h1:2*(QL*QL)*(SH*2^V+A*2^V)≤B*2^V*(B*2^V):=by
   refine Nat.le_trans (Nat.mul_le_mul_left _ (Nat.le_trans hGH c2)) ?_
   rw [sq2,hb]
   exact Nat.mul_le_mul (Nat.mul_le_mul_left 2 q2) (Nat.mul_le_mul_left 2 q2)
  have h2:=small_lo h1 hpar hSHq hb0
  have h2:2*(QL*QL)+A*2^V≤rtE A B V:=h2
  exact le_isq ((Nat.le_div_iff_mul_le (by decide)).2 (by omega))
 have highQ:smallV A B V≤QH:=by
  have hs:=(@smallV_spec A B V).1
  have h1:B*2^V*(B*2^V)≤2*(QH*QH)*(SL*2^V+A*2^V):=by
   refine Nat.le_trans ?_ (Nat.mul_le_mul_left _ (Nat.le_trans c1 hGL))
   rw [sq2,hb]
   exact Nat.mul_le_mul (Nat.mul_le_mul_left 2 r2) (Nat.mul_le_mul_left 2 r2)
  have h2:=small_hi (W:=2*(smallV A B V*smallV A B V)) h1 hpar hSLq (Nat.le_trans (Nat.mul_le_mul hs hs) hE.1)
  exact sq_le_sq (by omega)
 have nearQ:near1 (2^(n-11)) QH QL:=by
  have e1:near1 (2^(n-3)) (QH*PL) (QL*PH):=near1_two (by rw [show n-3+2=n-1 by omega];exact r3) (by rw [show n-3+2=n-1 by omega];exact q3)
  have e2:near1 (2^(n-9)) (QL*PH) (QL*PL):=by rw [Nat.mul_comm QL PH,Nat.mul_comm QL PL];exact near1_mul k9 QL
  have e3:near1 (2^(n-11)) (QH*PL) (QL*PL):=near1_two (by rw [show n-11+2=n-9 by omega];exact near1_pow (by omega) e1) (by rw [show n-11+2=n-9 by omega];exact e2)
  exact near1_cancel e3 (by omega)
 have hs0:=smallV_low hp
 have hp0:=Nat.two_pow_pos (V-1588)
 have Q0:QL≠0:=fun e=>by
  subst e
  unfold near1 at nearQ
  have:=Nat.mul_pos (show 0<QH by omega) (Nat.two_pow_pos (n-11))
  omega
 have fq1:Fit (stLo Sq x y n) 8193 100000:=(quo_fit (fs.mono (L':=8193) (E':=20000) (by decide) (by decide)) f2 nn2 m2 (n:=(n:Int)) ⟨by omega,by omega⟩ (by decide) false).mono (by omega) (by decide)
 have fq2:Fit (stHi Sq x y n) 8193 100000:=(quo_fit (fs.mono (L':=8193) (E':=20000) (by decide) (by decide)) f1 nn1 m1 (n:=(n:Int)) ⟨by omega,by omega⟩ (by decide) true).mono (by omega) (by decide)
 exact ⟨PL,PH,QL,QH,⟨a1,a2⟩,⟨q1,r1⟩,⟨b1,b2,k9⟩,⟨lowQ,highQ,nearQ⟩,P0,Q0,⟨fq1,fq2⟩,fs,ns,⟨q1e,r1e⟩⟩
theorem known_cut {lo hi R K:Nat} (h1:lo≤R) (h2:R≤hi) (hn:near1 (2^(n-11)) hi lo) (n1:4700≤n) (n2:n≤8192) (hK:20000≤K) (hR:2^K≤R) (hfar:∀Z:Int,2^(bl R-4600)≤((R:Int)-Z*2^(bl R-65)).natAbs) {b:Nat} (b1:1≤b) (b2:b≤64):
  cutV (lo:Int) b=cutV (hi:Int) b∧(0:Int)<lo:=by
 have hbl:K<bl R:=lt_bl.2 hR
 have hlt:=lt_two_bl R
 have hge:2^(bl R-1)≤R:=two_bl_le (by have:=Nat.two_pow_pos K;omega)
 have hw:(hi:Int)-lo≤2^(bl R-(n-11)):=by
  unfold near1 at hn
  rw [Nat.mul_add,Nat.mul_one] at hn
  have h3:(hi-lo)*2^(n-11)≤lo:=by rw [Nat.sub_mul];omega
  have h4:(hi-lo)*2^(n-11)<2^(bl R-(n-11))*2^(n-11):=by
   rw [←Nat.pow_add,show bl R-(n-11)+(n-11)=bl R by omega]
   omega
  have h5:=Nat.lt_of_mul_lt_mul_right h4
  have:=pow_cast (bl R-(n-11))
  omega
 have hcn:=cut_near (lo:=(lo:Int)) (R:=(R:Int)) (hi:=(hi:Int)) (b:=b) (G:=bl R-65) (B:=bl R-1) (W:=bl R-(n-11)) (F:=bl R-4600) (by omega) (by omega) hw (by omega) (by omega) (by rw [Int.natAbs_natCast];exact hge) (by omega) b1 hfar
 refine ⟨by rw [hcn.1,hcn.2.1],?_⟩
 exact hcn.2.2.1 (by have:=Nat.two_pow_pos K;omega)
end
end Go.Dy

namespace Go.Dy
def refuse (x:Dyd) (b:Int):Int:=if (mayD x&&decide (1≤b))=true then (if 6000<b∨40<x.mag.length then 3 else if 1100<topD x then 20 else 0) else 2
end Go.Dy
namespace Go.AI
open Go Go.RowKit Go.Proofs
set_option linter.unusedVariables false
end Go.AI

namespace Go.Dy
theorem formZ_other (z e:Int):formZ (-z) e=negD (formZ z e):=by
 by_cases hz:z=0
 ·subst hz
  rfl
 ·unfold formZ
  have h1:z.natAbs≠0:=by omega
  rw [Int.natAbs_neg,form_pos h1,form_pos h1]
  unfold negD
  have:dg (z.natAbs/2^tz z.natAbs)≠[]:=fun e0=>by
   have h0:=dg_eq_nil.1 e0
   have h1:=div_tz_odd h1
   omega
  simp only [decide_eq_true this,Bool.and_true,Dyd.mk.injEq,and_true]
  by_cases c:z<0
  ·rw [decide_eq_true c,decide_eq_false (by omega)];rfl
  ·rw [decide_eq_false c,decide_eq_true (by omega)];rfl
theorem may_negD {x:Dyd} (h:mayD x=true):mayD (negD x)=true:=Go.AI.mayD_neg h
theorem cutR_neg {x:Dyd} (h:mayD x=true) {b:Nat} (hb:1≤b):(cutR (negD x) b).1=negD (cutR x b).1:=by
 have he:=mayD_exp h
 have hV: -(((-x.exp).toNat:Nat):Int)≤x.exp:=by omega
 have hV': -(((-x.exp).toNat:Nat):Int)≤(negD x).exp:=hV
 rw [cut_form h hb hV,cut_form (may_negD h) hb hV',at_negD,cutV_neg,formZ_other]
theorem negD_negD {x:Dyd} (h:mayD x=true):negD (negD x)=x:=by
 obtain ⟨s,m,e⟩:=x
 unfold negD
 by_cases c:m=[]
 ·subst c
  have:s=false:=by
   unfold mayD at h
   simp only [if_true,Bool.and_eq_true,Bool.not_eq_true'] at h
   exact h.2.1
  subst this
  rfl
 ·simp only [decide_eq_true c,Bool.and_true,Bool.not_not]
end Go.Dy

namespace Go.Dy
set_option maxRecDepth 100000
def okR (lo hi:Dyd) (b:Int):Bool:= !decide (signS lo hi=0)&&decide (cmpD (cutR lo b).1 (cutR hi b).1=0)
theorem okR_iff {lo hi:Dyd} {b:Int}:okR lo hi b=true ↔ signS lo hi≠0∧cmpD (cutR lo b).1 (cutR hi b).1=0:=by
 unfold okR
 simp only [Bool.and_eq_true,Bool.not_eq_true',decide_eq_true_eq,decide_eq_false_iff_not,ne_eq]
theorem okR_at {lo hi:Dyd} {V b:Nat} (ha:mayD lo=true) (hc:mayD hi=true) (ea: -(V:Int)≤lo.exp) (ec: -(V:Int)≤hi.exp) (hle:at_ lo (-(V:Int))≤at_ hi (-(V:Int))) (hb:1≤b):
  okR lo hi b=true ↔ (0<at_ lo (-(V:Int))∨at_ hi (-(V:Int))<0)∧cutV (at_ lo (-(V:Int))) b=cutV (at_ hi (-(V:Int))) b:=by
 rw [okR_iff,sign_span ha hc ea ec hle,cmp_eq_iff (cut_exp hb ha ea) (cut_exp hb hc ec),cutR_at2 ha hb ea,cutR_at2 hc hb ec]
theorem cut_known {lo hi:Dyd} {V b:Nat} {R:Int} (ha:mayD lo=true) (hc:mayD hi=true) (ea: -(V:Int)≤lo.exp) (ec: -(V:Int)≤hi.exp) (h1:at_ lo (-(V:Int))≤R) (h2:R≤at_ hi (-(V:Int))) (hb:1≤b) (hk:okR lo hi b=true):
  (cutR lo b).1=formZ (cutV R b) (-(V:Int)):=by
 obtain ⟨hs,he⟩:=(okR_at ha hc ea ec (by omega) hb).1 hk
 rw [cut_form ha hb ea,cut_between hb h1 h2 hs he]
theorem okR_neg {lo hi:Dyd} {V b:Nat} (ha:mayD lo=true) (hc:mayD hi=true) (ea: -(V:Int)≤lo.exp) (ec: -(V:Int)≤hi.exp) (hle:at_ lo (-(V:Int))≤at_ hi (-(V:Int))) (hb:1≤b):okR (negD hi) (negD lo) b=okR lo hi b:=by
 have ma:mayD (negD lo)=true:=may_negD ha
 have mc:mayD (negD hi)=true:=may_negD hc
 have xa:(negD lo).exp=lo.exp:=rfl
 have xc:(negD hi).exp=hi.exp:=rfl
 rw [Bool.eq_iff_iff,okR_at ha hc ea ec hle hb,okR_at (V:=V) mc ma (by omega) (by omega) (by rw [at_negD,at_negD];omega) hb,at_negD,at_negD,cutV_neg,cutV_neg]
 constructor
 ·rintro ⟨h1,h2⟩;exact ⟨by omega,by omega⟩
 ·rintro ⟨h1,h2⟩;exact ⟨by omega,by omega⟩
def crV:Nat:=40000
def offA (d:Dyd):Nat:=(at_ d (-(crV:Int))).natAbs
def bigD (x y:Dyd) (b:Nat):Dyd:=formZ (cutV (bigV (offA x) (offA y) crV:Nat) b) (-(crV:Int))
def smallD (x y:Dyd) (b:Nat):Dyd:=formZ (cutV (smallV (offA x) (offA y) crV:Nat) b) (-(crV:Int))
structure offZ (x y:Dyd):Prop where
 mx:mayD x=true
 nx:x.neg=false
 my:mayD y=true
 ny:y.neg=false
 y0:y.mag≠[]
 bx:bl (val x.mag)≤53
 by_:bl (val y.mag)≤53
 ex: -1074≤x.exp
 ey: -1074≤y.exp
 tx:topD x≤1024
 ty:topD y≤1024
 sq:(rootF (addD (mulD x x) (mulD y y)) 4500).2=true
theorem top_at {d:Dyd} (hm:mayD d=true) (hn:d.neg=false) {V T:Nat} (hV: -(V:Int)≤d.exp) (ht:topD d≤T):∃X:Nat,at_ d (-(V:Int))=X∧X<2^(V+T)∧(d.mag≠[]→X≠0):=by
 refine ⟨_,at_nat hn _,?_,fun h0=> ?_⟩
 ·by_cases h0:d.mag=[]
  ·rw [h0,show val []=0 from rfl,Nat.zero_mul]
   exact Nat.two_pow_pos _
  ·have ht2:topD d=d.exp+bl (val d.mag):=by unfold topD;rw [if_neg h0]
   have h1:=lt_two_bl (val d.mag)
   have h2:=Nat.mul_lt_mul_of_pos_right h1 (Nat.two_pow_pos (d.exp - -(V:Int)).toNat)
   rw [←Nat.pow_add] at h2
   exact Nat.lt_of_lt_of_le h2 (Nat.pow_le_pow_right (by decide) (by omega))
 ·exact Nat.mul_ne_zero (val_ne (mayD_may (s:=d.neg) (e:=d.exp) hm) h0) (Nat.pos_iff_ne_zero.1 (Nat.two_pow_pos _))
theorem at_dvd {d:Dyd} (hn:d.neg=false) {V k X:Nat} (hV: -(V:Int)+k≤d.exp) (hX:at_ d (-(V:Int))=X):2^k∣X:=by
 rw [at_nat hn] at hX
 have hX:=Int.ofNat.inj hX
 obtain ⟨j,hj⟩:∃j,(d.exp - -(V:Int)).toNat=k+j:=⟨(d.exp - -(V:Int)).toNat-k,by omega⟩
 rw [←hX,hj,Nat.pow_add,Nat.mul_left_comm]
 exact ⟨_,rfl⟩
theorem offZ_fit {d:Dyd} (hm:mayD d=true) (hb:bl (val d.mag)≤53) (he: -1074≤d.exp) (ht:topD d≤1024):Fit d 1100 1100:=by
 refine ⟨hm,by omega,by omega,?_⟩
 by_cases h0:d.mag=[]
 ·have:d.exp=0:=by
   have h:=hm
   obtain ⟨s,m,e⟩:=d
   rw [mayD_iff] at h
   rcases h.2 with h|h
   ·exact h.2.2
   ·exact absurd h0 h.1
  omega
 ·have ht2:topD d=d.exp+bl (val d.mag):=by unfold topD;rw [if_neg h0]
  omega
theorem pow_sq_dvd:∀(k s:Nat),2^(2*k)∣s*s→2^k∣s
 |0,s,_=>⟨s,by simp⟩
 |k+1,s,h=>by
  have e:2^(2*(k+1))=4*2^(2*k):=by rw [show 2*(k+1)=2*k+2 by omega,Nat.pow_add,Nat.mul_comm]
  rw [e] at h
  obtain ⟨c,hc⟩:=h
  rw [Nat.mul_assoc] at hc
  obtain ⟨j,rfl⟩:∃j,s=2*j:=by
   rcases Nat.mod_two_eq_zero_or_one s with d|d
   ·exact ⟨s/2,by omega⟩
   ·exfalso
    have h1:s*s%2=1:=by rw [Nat.mul_mod,d]
    omega
  have e2:2*j*(2*j)=4*(j*j):=by rw [Nat.mul_mul_mul_comm]
  obtain ⟨d,hd⟩:=pow_sq_dvd k j ⟨c,by omega⟩
  exact ⟨d,by rw [hd,Nat.pow_succ,Nat.mul_comm (2^k) 2,Nat.mul_assoc]⟩
theorem offZ_off {x y:Dyd} (h:offZ x y) {V:Nat} (hV:V=crV):Off x y (addD (mulD x x) (mulD y y)) (offA x) (offA y) V∧Parts (offA x) (offA y) V∧Fit x 1100 1100∧Fit y 1100 1100∧Fit (addD (mulD x x) (mulD y y)) 20000 20000∧
  isq (offA x*offA x+offA y*offA y)*isq (offA x*offA x+offA y*offA y)≠offA x*offA x+offA y*offA y:=by
 have hV4:V=40000:=hV
 have fx:=offZ_fit h.mx h.bx h.ex h.tx
 have fy:=offZ_fit h.my h.by_ h.ey h.ty
 have exx:=h.ex
 have exy:=h.ey
 obtain ⟨A,hA,lA, -⟩:=top_at h.mx h.nx (V:=V) (T:=1024) (by omega) h.tx
 obtain ⟨B,hB,lB,B0⟩:=top_at h.my h.ny (V:=V) (T:=1024) (by omega) h.ty
 have eA:offA x=A:=by unfold offA;rw [←hV,hA];rfl
 have eB:offA y=B:=by unfold offA;rw [←hV,hB];rfl
 rw [eA,eB]
 have f1:=(fit_mul fx fx (by decide) (by decide)).1
 have f2:=(fit_mul fy fy (by decide) (by decide)).1
 have fS:=(fit_add f1 f2 (by decide) (by decide)).1
 have x1: -(2148:Int)≤(mulD x x).exp:=by
  exact exp_form (by omega) (by omega)
 have x2: -(2148:Int)≤(mulD y y).exp:=by
  exact exp_form (by omega) (by omega)
 have xS: -(2148:Int)≤(addD (mulD x x) (mulD y y)).exp:=by
  rw [addD_at x1 x2]
  exact exp_formZ (Int.le_refl _) (by omega)
 have aS:at_ (addD (mulD x x) (mulD y y)) (-(2*V:Int))=((A*A+B*B:Nat):Int):=by
  rw [at_addD (by omega) (by omega),show -(2*V:Int)= -(V:Int)+ -(V:Int) by omega,at_mulD (by omega) (by omega),at_mulD (by omega) (by omega),hA,hB]
  simp
 have hB0:=B0 h.y0
 have hS0:A*A+B*B≠0:=by
  have:=Nat.mul_pos (show 0<B by omega) (show 0<B by omega)
  omega
 have nS:(addD (mulD x x) (mulD y y)).neg=false∧(addD (mulD x x) (mulD y y)).mag≠[]:=by
  have e:=formZ_at fS.may (u:= -(2*V:Int)) (by omega)
  rw [aS] at e
  have e2:form false (A*A+B*B) (-(2*V:Int))=addD (mulD x x) (mulD y y):=by rw [form_sgn];exact e
  rw [←e2]
  exact ⟨form_nn _ _,form_ne hS0 _⟩
 obtain ⟨N,hN⟩:∃N:Nat,N=4500:=⟨_,rfl⟩
 have hsq:(rootF (addD (mulD x x) (mulD y y)) N).2=true:=by rw [hN];exact h.sq
 obtain ⟨L,u, -, -,l1,l2,l5, -,l7,q,x1, -,l8, -,l9,l10, -⟩:=root_span fS.may nS.1 nS.2 (V:=V) (n:=N) (by omega) (by omega) aS
 have hns:isq (A*A+B*B)*isq (A*A+B*B)≠A*A+B*B:=by
  intro c
  have hl:L*L≠A*A+B*B:=l7.1 hsq
  apply hl
  have dA:=at_dvd h.nx (V:=V) (k:=V-1074) (by omega) hA
  have dB:=at_dvd h.ny (V:=V) (k:=V-1074) (by omega) hB
  obtain ⟨α,hα⟩:=dA
  obtain ⟨β,hβ⟩:=dB
  have ds:2^(2*(V-1074))∣isq (A*A+B*B)*isq (A*A+B*B):=by
   rw [c,hα,hβ,Nat.mul_mul_mul_comm,Nat.mul_mul_mul_comm (2^(V-1074)) β,pow_sq,←Nat.mul_add]
   exact ⟨_,rfl⟩
  have ds:=pow_sq_dvd _ _ ds
  have hlt:A*A+B*B<2^(2*(V+1025)):=by
   have a:=Nat.mul_lt_mul_of_lt_of_lt lA lA
   have b:=Nat.mul_lt_mul_of_lt_of_lt lB lB
   rw [pow_sq] at a b
   have e:2^(2*(V+1025))=4*2^(2*(V+1024)):=by rw [show 2*(V+1025)=2*(V+1024)+2 by omega,Nat.pow_add,Nat.mul_comm]
   omega
  have hL:L<2^(V+1025):=sq_lt_pow l1 hlt
  generalize isq (A*A+B*B)=s at*
  have s1:L≤s:=sq_le_sq (by omega)
  have s2:s<L+u:=by
   rcases Nat.lt_or_ge s (L+u) with d|d
   ·exact d
   ·have:=Nat.mul_le_mul d d
    omega
  rw [←l10] at l9
  have hu:(x1+V).toNat≤V-1074:=by
   rcases Nat.lt_or_ge (V-1074) (x1+V).toNat with d|d
   ·exfalso
    have k1:=Nat.pow_le_pow_right (n:=2) (by decide) (Nat.le_of_lt d)
    have k2:=Nat.mul_le_mul_right (2^(N-1)) k1
    rw [←l10,←Nat.pow_add] at k2
    have k3:=Nat.pow_le_pow_right (n:=2) (by decide) (show V+1025≤V-1074+(N-1) by omega)
    omega
   ·exact d
  obtain ⟨w,hw⟩:u∣s:=Nat.dvd_trans (by rw [l10];exact Nat.pow_dvd_pow 2 hu) ds
  have hup:0<u:=by rw [l10];exact Nat.two_pow_pos _
  have e1:w=q:=by
   have a1:q*u≤w*u:=by rw [Nat.mul_comm w];omega
   have a2:w*u<(q+1)*u:=by rw [Nat.add_mul,Nat.mul_comm w];omega
   have:=Nat.le_of_mul_le_mul_right a1 hup
   have:=Nat.lt_of_mul_lt_mul_right a2
   omega
  have e2:s=L:=by rw [hw,e1,l9,Nat.mul_comm]
  rw [←e2]
  exact c
 exact ⟨⟨by omega,h.mx,h.nx,h.my,h.ny,h.y0,fS.may,nS.1,nS.2,hA,hB,aS,by omega,by omega,by omega⟩,⟨by omega,at_dvd h.nx (by omega) hA,at_dvd h.ny (by omega) hB,hB0,lA,lB⟩,fx,fy,fS.mono (by decide) (by decide),hns⟩
theorem half_known {x y:Dyd} (h:offZ x y) {n:Nat} (n1:20≤n) (n2:n≤8192):
  ((Fit (lgLo (addD (mulD x x) (mulD y y)) x n) 8193 20000∧Fit (lgHi (addD (mulD x x) (mulD y y)) x n) 8193 20000)∧(Fit (stLo (addD (mulD x x) (mulD y y)) x y n) 8193 100000∧Fit (stHi (addD (mulD x x) (mulD y y)) x y n) 8193 100000))∧
  ((∀b:Nat,1≤b→okR (lgLo (addD (mulD x x) (mulD y y)) x n) (lgHi (addD (mulD x x) (mulD y y)) x n) b=true→(cutR (lgLo (addD (mulD x x) (mulD y y)) x n) b).1=bigD x y b)∧
   (∀b:Nat,1≤b→okR (stLo (addD (mulD x x) (mulD y y)) x y n) (stHi (addD (mulD x x) (mulD y y)) x y n) b=true→(cutR (stLo (addD (mulD x x) (mulD y y)) x y n) b).1=smallD x y b))∧
  (4700≤n→∀b:Nat,1≤b→b≤64→okR (lgLo (addD (mulD x x) (mulD y y)) x n) (lgHi (addD (mulD x x) (mulD y y)) x n) b=true∧okR (stLo (addD (mulD x x) (mulD y y)) x y n) (stHi (addD (mulD x x) (mulD y y)) x y n) b=true)∧
  (∀b:Nat,1≤b→okR (negD (lgHi (addD (mulD x x) (mulD y y)) x n)) (negD (lgLo (addD (mulD x x) (mulD y y)) x n)) b=okR (lgLo (addD (mulD x x) (mulD y y)) x n) (lgHi (addD (mulD x x) (mulD y y)) x n) b∧
   okR (negD (stHi (addD (mulD x x) (mulD y y)) x y n)) (negD (stLo (addD (mulD x x) (mulD y y)) x y n)) b=okR (stLo (addD (mulD x x) (mulD y y)) x y n) (stHi (addD (mulD x x) (mulD y y)) x y n) b):=by
 obtain ⟨V,hV⟩:∃V,V=crV:=⟨_,rfl⟩
 obtain ⟨ho,hp,fx,fy,fS,hns⟩:=offZ_off h hV
 have hV4:V=40000:=hV
 have fb:=far_big hp hns
 have fs:=far_small hp hns
 have bl1:=bigV_low hp
 have bl2:=smallV_low hp
 obtain ⟨SL,SH,GL,GH,PL',PH', -, -, -,⟨fl1,fl2⟩, -⟩:=l_span ho hp fx n1 n2
 obtain ⟨PL,PH,QL,QH,⟨a1,a2⟩,⟨a3,a4⟩,⟨p1,p2,p3⟩,⟨q1,q2,q3⟩,P0,Q0,⟨fq1,fq2⟩, -, -,⟨xq1,xq2⟩⟩:=half_span ho hp fx fy n1 n2
 have xp1: -(V:Int)≤(lgLo (addD (mulD x x) (mulD y y)) x n).exp:=by have:=fl1.lo;omega
 have xp2: -(V:Int)≤(lgHi (addD (mulD x x) (mulD y y)) x n).exp:=by have:=fl2.lo;omega
 unfold bigD smallD
 rw [←hV]
 refine ⟨⟨⟨fl1,fl2⟩,fq1,fq2⟩,⟨fun b b1 hk=> ?_,fun b b1 hk=> ?_⟩,fun h4 b b1 b2=>⟨?_,?_⟩,fun b b1=>⟨?_,?_⟩⟩
 ·exact cut_known fl1.may fl2.may xp1 xp2 (by rw [a1];omega) (by rw [a2];omega) b1 hk
 ·exact cut_known fq1.may fq2.may xq1 xq2 (by rw [a3];omega) (by rw [a4];omega) b1 hk
 ·have hk:=known_cut p1 p2 (near1_pow (by omega) p3) h4 n2 (K:=V-538) (by omega) bl1 fb b1 b2
  rw [okR_at fl1.may fl2.may xp1 xp2 (by rw [a1,a2];omega) b1,a1,a2]
  exact ⟨.inl hk.2,hk.1⟩
 ·have hk:=known_cut q1 q2 q3 h4 n2 (K:=V-1588) (by omega) bl2 fs b1 b2
  rw [okR_at fq1.may fq2.may xq1 xq2 (by rw [a3,a4];omega) b1,a3,a4]
  exact ⟨.inl hk.2,hk.1⟩
 ·exact okR_neg fl1.may fl2.may xp1 xp2 (by rw [a1,a2];omega) b1
 ·exact okR_neg fq1.may fq2.may xq1 xq2 (by rw [a3,a4];omega) b1
end Go.Dy

namespace Go.Dy
def beyD (d:Dyd):Dyd:=if d.neg then subD d (unitOf (topD d-66)) else addD d (unitOf (topD d-66))
def sqD (X Y:Dyd):Dyd:=addD (mulD (absD X) (absD X)) (mulD (absD Y) (absD Y))
def reLo (X Y:Dyd) (n:Int):Dyd:=bif X.neg then stLo (sqD X Y) (absD X) (absD Y) n else lgLo (sqD X Y) (absD X) n
def reHi (X Y:Dyd) (n:Int):Dyd:=bif X.neg then stHi (sqD X Y) (absD X) (absD Y) n else lgHi (sqD X Y) (absD X) n
def inLo (X Y:Dyd) (n:Int):Dyd:=bif X.neg then lgLo (sqD X Y) (absD X) n else stLo (sqD X Y) (absD X) (absD Y) n
def inHi (X Y:Dyd) (n:Int):Dyd:=bif X.neg then lgHi (sqD X Y) (absD X) n else stHi (sqD X Y) (absD X) (absD Y) n
def imLo (X Y:Dyd) (n:Int):Dyd:=bif Y.neg then negD (inHi X Y n) else inLo X Y n
def imHi (X Y:Dyd) (n:Int):Dyd:=bif Y.neg then negD (inLo X Y n) else inHi X Y n
structure capOk (X Y x1 x2 q1 q2 y1 y2:Dyd) (h:Bool):Prop where
 ex1:x1=X
 ex2:x2=X
 eq1:q1=sqD X Y
 eq2:q2=sqD X Y
 ey1:y1=Y
 ey2:y2=Y
 off:offZ (absD X) (absD Y)
 mx:mayD X=true
 my:mayD Y=true
 hs:h=Y.neg
def reD (X Y:Dyd):Dyd:=bif X.neg then smallD (absD X) (absD Y) 64 else bigD (absD X) (absD Y) 64
def imD (X Y:Dyd):Dyd:=bif Y.neg then negD (bif X.neg then bigD (absD X) (absD Y) 64 else smallD (absD X) (absD Y) 64) else (bif X.neg then bigD (absD X) (absD Y) 64 else smallD (absD X) (absD Y) 64)
def setN (ok:Int→Bool):Nat→Int→Int
 |0,n=>n
 |j+1,n=>if ok (min n 6000) then n else setN ok j (n+(n/2+200))
def otherM (m:Int) (neg:Bool):Int:=if neg=true∧4≤m then 9-m else m
def rootN (f m:Int) (d:Dyd) (neg:Bool):Nat×Int:=(if neg then negW f (rootW f (otherM m neg) d).1 else (rootW f (otherM m neg) d).1,(rootW f (otherM m neg) d).2)
def sqrtN (f m:Int) (X Y:Dyd) (h:Bool):(Nat×Int)×(Nat×Int):=
 if (rootF (sqD X Y) 4500).2=false then (rootN f m (shD (addD (rootF (sqD X Y) 4500).1 X) (-1)) false,rootN f m (shD (subD (rootF (sqD X Y) 4500).1 X) (-1)) h)
 else (roundW f m (beyD (reD X Y)),roundW f m (beyD (imD X Y)))
structure numOk (f m:Int) (X Y:Dyd) (h:Bool):Prop where
 em:errM f m=0
 mx:mayD X=true
 my:mayD Y=true
 y0:Y.mag≠[]
 bx:bl (val X.mag)≤53
 by_:bl (val Y.mag)≤53
 ex: -1074≤X.exp
 ey: -1074≤Y.exp
 tx:topD X≤1024
 ty:topD Y≤1024
 hs:h=Y.neg
def crootN (f m a b:Int):(Nat×Int)×(Nat×Int):=
 if wClass f b.toNat=1 then
  if (wVal f a.toNat).neg then ((signW f false,0),rootN f m (absD (wVal f a.toNat)) (wNeg f b.toNat))
  else (rootN f m (wVal f a.toNat) false,(signW f (wNeg f b.toNat),0))
 else sqrtN f m (wVal f a.toNat) (wVal f b.toNat) (wNeg f b.toNat)
end Go.Dy
namespace Go.AI
open Go Go.RowKit Go.Proofs
set_option linter.unusedVariables false
def avP (p:(Nat×Int)×(Nat×Int)):AV:= .agg [.num .u64 (p.1.1:Nat),.num .u64 (p.2.1:Nat),.num .u8 p.1.2,.num .u8 p.2.2]
def sAddSp:List AV→Option Spec
 |[.num .i64 n,.agg [.bool s,.dig [2] m,.num .i64 e,.bool s',.dig [2] m',.num .i64 e'],.agg [.bool t,.dig [3] l,.num .i64 f,.bool t',.dig [3] l',.num .i64 f']]=>
  some ⟨some (Dy.mayD ⟨s,m,e⟩=true∧Dy.mayD ⟨s',m',e'⟩=true∧Dy.mayD ⟨t,l,f⟩=true∧Dy.mayD ⟨t',l',f'⟩=true∧Dy.mid (Dy.addD ⟨s,m,e⟩ ⟨t,l,f⟩)∧Dy.mid (Dy.addD ⟨s',m',e'⟩ ⟨t',l',f'⟩)∧1≤n∧n≤8192),
   avS [0] (Dy.endD (Dy.addD ⟨s,m,e⟩ ⟨t,l,f⟩) n false) (Dy.endD (Dy.addD ⟨s',m',e'⟩ ⟨t',l',f'⟩) n true)⟩
 |_=>none
def sSqrtSp:List AV→Option Spec
 |[.num .i64 n,.agg [.bool s,.dig [2] m,.num .i64 e,.bool s',.dig [2] m',.num .i64 e']]=>
  some ⟨some (Dy.mayD ⟨s,m,e⟩=true∧Dy.mayD ⟨s',m',e'⟩=true∧s=false∧s'=false∧m≠[]∧m'≠[]∧1≤n∧n≤8192∧ -16777216≤Dy.topD (Dy.rootF ⟨s',m',e'⟩ n).1-n∧Dy.topD (Dy.rootF ⟨s',m',e'⟩ n).1-n≤16777216∧Dy.mayD (Dy.rootU ⟨s',m',e'⟩ n)=true),
   avS [0] (Dy.rootF ⟨s,m,e⟩ n).1 (Dy.rootU ⟨s',m',e'⟩ n)⟩
 |_=>none
def sBeyond:List AV→Option Spec
 |[.agg [.bool s,.dig [1] m,.num .i64 e]]=>some ⟨some (Dy.mid ⟨s,m,e⟩∧Dy.mayD (Dy.beyD ⟨s,m,e⟩)=true),avD [0] (Dy.beyD ⟨s,m,e⟩)⟩
 |_=>none
def tabC0:List (Nat×(List AV→Option Spec)):=(74,sAddSp)::(82,sSqrtSp)::(155,sBeyond)::tabB5
def cHalf1:List AV→Option Spec
 |[.num .i64 n,.cref [2] [.bool t,.dig [2] l,.num .i64 i,.bool t',.dig [2] l',.num .i64 i'],.cref [3] [.num .u8 f,.num .u8 m,.num .u64 a,.num .u64 b,.num .u8 k,.num .u8 k',.bool g,.bool h,.bool s,.dig [3] d,.num .i64 e,.bool s',.dig [3] d',.num .i64 e'],.cref [4] [.bool u,.dig [4] v,.num .i64 w,.bool u',.dig [4] v',.num .i64 w'],.cref [5] [.bool o,.dig [5] q,.num .i64 r,.bool o',.dig [5] q',.num .i64 r']]=>
  some ⟨some (Dy.capOk ⟨s,d,e⟩ ⟨s',d',e'⟩ ⟨t,l,i⟩ ⟨t',l',i'⟩ ⟨u,v,w⟩ ⟨u',v',w'⟩ ⟨o,q,r⟩ ⟨o',q',r'⟩ h∧20≤n∧n≤8192),.tup [avS [0] (Dy.reLo ⟨s,d,e⟩ ⟨s',d',e'⟩ n) (Dy.reHi ⟨s,d,e⟩ ⟨s',d',e'⟩ n),avS [0] (Dy.imLo ⟨s,d,e⟩ ⟨s',d',e'⟩ n) (Dy.imHi ⟨s,d,e⟩ ⟨s',d',e'⟩ n)]⟩
 |_=>none
def tabC1:List (Nat×(List AV→Option Spec)):=(80,cHalf1)::tabC0
def cHalf2:List AV→Option Spec
 |[.num .i64 n,.cref [2] [.fn F [.cref [2] [.bool t,.dig [2] l,.num .i64 i,.bool t',.dig [2] l',.num .i64 i'],.cref [2] [.num .u8 f,.num .u8 m,.num .u64 a,.num .u64 b,.num .u8 k,.num .u8 k',.bool g,.bool h,.bool s,.dig [2] d,.num .i64 e,.bool s',.dig [2] d',.num .i64 e'],.cref [2] [.bool u,.dig [2] v,.num .i64 w,.bool u',.dig [2] v',.num .i64 w'],.cref [2] [.bool o,.dig [2] q,.num .i64 r,.bool o',.dig [2] q',.num .i64 r']]]]=>
  if F=80 then some ⟨some (Dy.capOk ⟨s,d,e⟩ ⟨s',d',e'⟩ ⟨t,l,i⟩ ⟨t',l',i'⟩ ⟨u,v,w⟩ ⟨u',v',w'⟩ ⟨o,q,r⟩ ⟨o',q',r'⟩ h∧20≤n∧n≤8192),.tup [avS [0] (Dy.reLo ⟨s,d,e⟩ ⟨s',d',e'⟩ n) (Dy.reHi ⟨s,d,e⟩ ⟨s',d',e'⟩ n),.bool true]⟩ else none
 |_=>none
def cHalf3:List AV→Option Spec
 |[.num .i64 n,.cref [2] [.fn F [.cref [2] [.bool t,.dig [2] l,.num .i64 i,.bool t',.dig [2] l',.num .i64 i'],.cref [2] [.num .u8 f,.num .u8 m,.num .u64 a,.num .u64 b,.num .u8 k,.num .u8 k',.bool g,.bool h,.bool s,.dig [2] d,.num .i64 e,.bool s',.dig [2] d',.num .i64 e'],.cref [2] [.bool u,.dig [2] v,.num .i64 w,.bool u',.dig [2] v',.num .i64 w'],.cref [2] [.bool o,.dig [2] q,.num .i64 r,.bool o',.dig [2] q',.num .i64 r']]]]=>
  if F=80 then some ⟨some (Dy.capOk ⟨s,d,e⟩ ⟨s',d',e'⟩ ⟨t,l,i⟩ ⟨t',l',i'⟩ ⟨u,v,w⟩ ⟨u',v',w'⟩ ⟨o,q,r⟩ ⟨o',q',r'⟩ h∧20≤n∧n≤8192),.tup [avS [0] (Dy.imLo ⟨s,d,e⟩ ⟨s',d',e'⟩ n) (Dy.imHi ⟨s,d,e⟩ ⟨s',d',e'⟩ n),.bool true]⟩ else none
 |_=>none
def tabC2:List (Nat×(List AV→Option Spec)):=(86,cHalf2)::(87,cHalf3)::tabC1
def cSettle:List AV→Option Spec
 |[.fn G [.cref [1] [.fn F [.cref [1] [.bool t,.dig [1] l,.num .i64 i,.bool t',.dig [1] l',.num .i64 i'],.cref [1] [.num .u8 f,.num .u8 m,.num .u64 a,.num .u64 b,.num .u8 k,.num .u8 k',.bool g,.bool h,.bool s,.dig [1] d,.num .i64 e,.bool s',.dig [1] d',.num .i64 e'],.cref [1] [.bool u,.dig [1] v,.num .i64 w,.bool u',.dig [1] v',.num .i64 w'],.cref [1] [.bool o,.dig [1] q,.num .i64 r,.bool o',.dig [1] q',.num .i64 r']]]]]=>
  if F=80 then
   if G=86 then some ⟨some (Dy.capOk ⟨s,d,e⟩ ⟨s',d',e'⟩ ⟨t,l,i⟩ ⟨t',l',i'⟩ ⟨u,v,w⟩ ⟨u',v',w'⟩ ⟨o,q,r⟩ ⟨o',q',r'⟩ h),avD [0] (Dy.beyD (Dy.reD ⟨s,d,e⟩ ⟨s',d',e'⟩))⟩
   else if G=87 then some ⟨some (Dy.capOk ⟨s,d,e⟩ ⟨s',d',e'⟩ ⟨t,l,i⟩ ⟨t',l',i'⟩ ⟨u,v,w⟩ ⟨u',v',w'⟩ ⟨o,q,r⟩ ⟨o',q',r'⟩ h),avD [0] (Dy.beyD (Dy.imD ⟨s,d,e⟩ ⟨s',d',e'⟩))⟩
   else none
  else none
 |_=>none
def tabC3:List (Nat×(List AV→Option Spec)):=(85,cSettle)::tabC2
def cBoth:List AV→Option Spec
 |[.agg [.num .u64 a,.num .u8 b],.agg [.num .u64 c,.num .u8 d]]=>some ⟨none,.agg [.num .u64 a,.num .u64 c,.num .u8 b,.num .u8 d]⟩
 |_=>none
def cZero:List AV→Option Spec
 |[.agg [.num .u8 f,.num .u8 m,.num .u64 a,.num .u64 b,.num .u8 k,.num .u8 k',.bool g,.bool h,.bool s,.dig [1] d,.num .i64 e,.bool s',.dig [1] d',.num .i64 e'],.bool neg]=>some ⟨some (Dy.isF f),.agg [.num .u64 (Dy.signW f neg:Nat),.num .u8 0]⟩
 |_=>none
def cRoot:List AV→Option Spec
 |[.agg [.num .u8 f,.num .u8 m,.num .u64 a,.num .u64 b,.num .u8 k,.num .u8 k',.bool g,.bool h,.bool s,.dig [1] d,.num .i64 e,.bool s',.dig [1] d',.num .i64 e'],.agg [.bool t,.dig [2] l,.num .i64 i],.bool neg]=>
  some ⟨some (Dy.errM f m=0∧Dy.mayD ⟨t,l,i⟩=true∧t=false),.agg [.num .u64 ((Dy.rootN f m ⟨t,l,i⟩ neg).1:Nat),.num .u8 (Dy.rootN f m ⟨t,l,i⟩ neg).2]⟩
 |_=>none
def cRounded:List AV→Option Spec
 |[.agg [.num .u8 f,.num .u8 m,.num .u64 a,.num .u64 b,.num .u8 k,.num .u8 k',.bool g,.bool h,.bool s,.dig [1] d,.num .i64 e,.bool s',.dig [1] d',.num .i64 e'],.agg [.bool t,.dig [2] l,.num .i64 i]]=>
  some ⟨some (Dy.errM f m=0∧Dy.mayD ⟨t,l,i⟩=true),.agg [.num .u64 ((Dy.roundW f m ⟨t,l,i⟩).1:Nat),.num .u8 (Dy.roundW f m ⟨t,l,i⟩).2]⟩
 |_=>none
def cOpen:List AV→Option Spec
 |[.num .u8 f,.num .u8 m,.agg [.num .u64 a,.num .u64 b]]=>
  some ⟨some (Dy.errM f m=0∧Dy.errW f a=0∧Dy.errW f b=0∧Dy.wClass f a.toNat<4∧Dy.wClass f b.toNat<4),
   .tup [.agg [.num .u8 f,.num .u8 m,.num .u64 a,.num .u64 b,.num .u8 (Dy.wClass f a.toNat),.num .u8 (Dy.wClass f b.toNat),.bool (Dy.wNeg f a.toNat),.bool (Dy.wNeg f b.toNat),
    .bool (Dy.wVal f a.toNat).neg,.dig [0] (Dy.wVal f a.toNat).mag,.num .i64 (Dy.wVal f a.toNat).exp,.bool (Dy.wVal f b.toNat).neg,.dig [0] (Dy.wVal f b.toNat).mag,.num .i64 (Dy.wVal f b.toNat).exp],.num .i64 0]⟩
 |_=>none
def tabC4:List (Nat×(List AV→Option Spec)):=(21,cBoth)::(24,cZero)::(27,cRoot)::(88,cRounded)::(20,cOpen)::tabC3
def cSqrtN:List AV→Option Spec
 |[.agg [.num .u8 f,.num .u8 m,.num .u64 a,.num .u64 b,.num .u8 k,.num .u8 k',.bool g,.bool h,.bool s,.dig [1] d,.num .i64 e,.bool s',.dig [1] d',.num .i64 e']]=>some ⟨some (Dy.numOk f m ⟨s,d,e⟩ ⟨s',d',e'⟩ h),avP (Dy.sqrtN f m ⟨s,d,e⟩ ⟨s',d',e'⟩ h)⟩
 |_=>none
def tabC5:List (Nat×(List AV→Option Spec)):=(28,cSqrtN)::tabC4
def cSqrt:List AV→Option Spec
 |[.num .u8 f,.num .u8 m,.agg [.num .u64 a,.num .u64 b]]=>
  some ⟨some (Dy.errM f m=0∧Dy.errW f a=0∧Dy.errW f b=0∧Dy.wClass f a.toNat<4∧Dy.wClass f b.toNat<4),.tup [avP (Dy.crootN f m a b),.num .i64 0]⟩
 |_=>none
def tabC6:List (Nat×(List AV→Option Spec)):=(6,cSqrt)::tabC5
end Go.AI

namespace Go.AI
open Dy IntKind
open Go Go.RowKit Go.Proofs
set_option linter.unusedVariables false
set_option maxRecDepth 100000
set_option maxHeartbeats 0
theorem vc_word_shapeOf (f:Int) (Q:AV→Prop):(evF Tryz.prog (look tabR3) (lam []) false Tryz.f170 [.num .u8 f] Q)=(bif decide (f=(1:Int)) then Q (.tup [.agg [.num .i64 23,.num .i64 255,.num .u64 2147483648],.bool true]) else bif decide (f=(2:Int)) then Q (.tup [.agg [.num .i64 52,.num .i64 2047,.num .u64 9223372036854775808],.bool true]) else Q (.tup [.agg [.num .i64 0,.num .i64 0,.num .u64 0],.bool false])):=by kernel_rfl
theorem vc_word_low (a:Int) (b:Int) (c:Int) (Q:AV→Prop):(evF Tryz.prog (look tabR3) (lam []) false Tryz.f127 [.agg [.num .i64 a,.num .i64 b,.num .u64 c]] Q)=(Q (.num .i64 (i64.wrap (i64.wrap ((1:Int)-i64.wrap (b.tdiv (2:Int)))-a)))):=by kernel_rfl
theorem vc_word_inf (a:Int) (b:Int) (c:Int) (Q:AV→Prop):(evF Tryz.prog (look tabR3) (lam []) false Tryz.f129 [.agg [.num .i64 a,.num .i64 b,.num .u64 c]] Q)=(0≤a∧Q (.num .u64 (u64.wrap (u64.wrap b*(2:Int)^min a.toNat (64:Nat))))):=by kernel_rfl
theorem vc_word_none (a:Int) (b:Int) (c:Int) (Q:AV→Prop):(evF Tryz.prog (look tabA0) (lam []) false Tryz.f130 [.agg [.num .i64 a,.num .i64 b,.num .u64 c]] Q)=(isShape a b c∧(0:Int)≤i64.wrap (a-(1:Int))∧Q (.num .u64 (u64.wrap (↑(BitVec.ofInt (64:Nat) (↑(wInf (fmtOf a)):Int)|||BitVec.ofInt (64:Nat) (u64.wrap ((1:Int)*(2:Int)^min (i64.wrap (a-(1:Int))).toNat (64:Nat)))).toNat:Int)))):=by kernel_rfl
theorem vc_word_zero1 (a:Int) (b:Int) (c:Int) (Q:AV→Prop):(evF Tryz.prog (look tabA0) (lam []) false Tryz.f131 [.agg [.num .i64 a,.num .i64 b,.num .u64 c]] Q)=(Q (.num .u64 0)):=by kernel_rfl
theorem vc_word_great1 (a:Int) (b:Int) (c:Int) (Q:AV→Prop):(evF Tryz.prog (look tabA0) (lam []) false Tryz.f169 [.agg [.num .i64 a,.num .i64 b,.num .u64 c]] Q)=(isShape a b c∧Q (.num .u64 (u64.wrap ((↑(wInf (fmtOf a)):Int)-(1:Int))))):=by kernel_rfl
theorem vc_word_neg1 (a:Int) (b:Int) (c:Int) (w:Int) (Q:AV→Prop):(evF Tryz.prog (look tabA0) (lam []) false Tryz.f138 [.agg [.num .i64 a,.num .i64 b,.num .u64 c],.cref [2] [.num .u64 w]] Q)=(Q (.num .u64 (u64.wrap (↑(BitVec.ofInt (64:Nat) w^^^BitVec.ofInt (64:Nat) c).toNat:Int)))):=by kernel_rfl
theorem vc_word_split (a:Int) (b:Int) (c:Int) (w:Int) (Q:AV→Prop):(evF Tryz.prog (look tabA0) (lam []) false Tryz.f124 [.agg [.num .i64 a,.num .i64 b,.num .u64 c],.num .u64 w] Q)=(0≤a∧0≤a∧Q (.agg [.bool (u64.wrap (↑(BitVec.ofInt (64:Nat) w&&&BitVec.ofInt (64:Nat) c).toNat:Int) !=(0:Int)),.num .i64 (i64.wrap ((u64.wrap (↑(BitVec.ofInt (64:Nat) w&&& ~~~BitVec.ofInt (64:Nat) c).toNat:Int)).fdiv ((2:Int)^min a.toNat (64:Nat)))),.num .u64 (u64.wrap (↑(BitVec.ofInt (64:Nat) (u64.wrap (↑(BitVec.ofInt (64:Nat) w&&& ~~~BitVec.ofInt (64:Nat) c).toNat:Int))&&&BitVec.ofInt (64:Nat) (u64.wrap (u64.wrap ((1:Int)*(2:Int)^min a.toNat (64:Nat))-(1:Int)))).toNat:Int))])):=by kernel_rfl
theorem vc_word_class (a:Int) (b:Int) (c:Int) (w:Int) (Q:AV→Prop):(evF Tryz.prog (look tabA0) (lam []) false Tryz.f122 [.agg [.num .i64 a,.num .i64 b,.num .u64 c],.num .u64 w] Q)=(bif decide (u64.wrap (↑(BitVec.ofInt (64:Nat) w&&& ~~~BitVec.ofInt (64:Nat) c).toNat:Int)=(0:Int)) then Q (.num .u8 1) else 0≤a∧bif decide (u64.wrap (↑(BitVec.ofInt (64:Nat) w&&& ~~~BitVec.ofInt (64:Nat) c).toNat:Int)<u64.wrap ((1:Int)*(2:Int)^min a.toNat (64:Nat))) then Q (.num .u8 2) else isShape a b c∧bif decide (u64.wrap (↑(BitVec.ofInt (64:Nat) w&&& ~~~BitVec.ofInt (64:Nat) c).toNat:Int)<(↑(wInf (fmtOf a)):Int)) then Q (.num .u8 3) else isShape a b c∧bif decide (u64.wrap (↑(BitVec.ofInt (64:Nat) w&&& ~~~BitVec.ofInt (64:Nat) c).toNat:Int)=(↑(wInf (fmtOf a)):Int)) then Q (.num .u8 4) else Q (.num .u8 5)):=by kernel_rfl
theorem vc_word_join (a:Int) (b:Int) (c:Int) (e:Int) (fr:Int) (neg:Bool) (Q:AV→Prop):(evF Tryz.prog (look tabA0) (lam []) false Tryz.f201 [.agg [.num .i64 a,.num .i64 b,.num .u64 c],.agg [.bool neg,.num .i64 e,.num .u64 fr]] Q)=(0≤a∧bif neg then Q (.num .u64 (u64.wrap (↑(BitVec.ofInt (64:Nat) (u64.wrap (↑(BitVec.ofInt (64:Nat) (u64.wrap (u64.wrap e*(2:Int)^min a.toNat (64:Nat)))|||BitVec.ofInt (64:Nat) fr).toNat:Int))|||BitVec.ofInt (64:Nat) c).toNat:Int))) else Q (.num .u64 (u64.wrap (↑(BitVec.ofInt (64:Nat) (u64.wrap (u64.wrap e*(2:Int)^min a.toNat (64:Nat)))|||BitVec.ofInt (64:Nat) fr).toNat:Int)))):=by kernel_rfl
theorem vc_word_open1 (f:Int) (w:Int) (Q:AV→Prop):(evF Tryz.prog (look tabA1) (lam [((5:Nat),LoopAnn.unroll (2:Nat))]) false Tryz.f121 [.num .u8 f,.vec [2] (1:Nat) [.num .u64 w]] Q)=(∀(n1:Int),n1=(↑(shF f):Int)→∀(n2:Int),n2=(↑(shM f):Int)→∀(n3:Int),n3=(↑(shS f):Int)→∀(b4:Bool),b4=isFb f→bif !b4 then Q (.tup [.agg [.num .i64 n1,.num .i64 n2,.num .u64 n3],.num .i64 4]) else ((0:Int)≤(0:Int)∧(0:Int)<(↑[AV.num u64 w].length:Int))∧bif decide (w>u64.wrap (↑(BitVec.ofInt (64:Nat) n3|||BitVec.ofInt (64:Nat) (u64.wrap (n3-(1:Int)))).toNat:Int)) then Q (.tup [.agg [.num .i64 n1,.num .i64 n2,.num .u64 n3],.num .i64 6]) else Q (.tup [.agg [.num .i64 n1,.num .i64 n2,.num .u64 n3],.num .i64 0])):=by kernel_rfl
theorem vc_word_open0 (f:Int) (Q:AV→Prop):(evF Tryz.prog (look tabA1) (lam [((5:Nat),LoopAnn.unroll (2:Nat))]) false Tryz.f121 [.num .u8 f,.dig [2] []] Q)=(∀(n1:Int),n1=(↑(shF f):Int)→∀(n2:Int),n2=(↑(shM f):Int)→∀(n3:Int),n3=(↑(shS f):Int)→∀(b4:Bool),b4=isFb f→bif !b4 then Q (.tup [.agg [.num .i64 n1,.num .i64 n2,.num .u64 n3],.num .i64 4]) else Q (.tup [.agg [.num .i64 n1,.num .i64 n2,.num .u64 n3],.num .i64 0])):=by kernel_rfl
theorem vc_word_Good (f:Int) (w:Int) (Q:AV→Prop):(evF Tryz.prog (look tabA2) (lam []) false Tryz.f120 [.num .u8 f,.num .u64 w] Q)=(∀(n1:Int),n1=(↑(shF f):Int)→∀(n2:Int),n2=(↑(shM f):Int)→∀(n3:Int),n3=(↑(shS f):Int)→∀(n4:Int),n4=errW f w→Q (.num .i64 n4)):=by kernel_rfl
theorem vc_word_Split (f:Int) (w:Int) (Q:AV→Prop):(evF Tryz.prog (look tabA2) (lam []) false Tryz.f65 [.num .u8 f,.num .u64 w] Q)=(∀(n1:Int),n1=(↑(shF f):Int)→∀(n2:Int),n2=(↑(shM f):Int)→∀(n3:Int),n3=(↑(shS f):Int)→∀(n4:Int),n4=errW f w→bif !decide (n4=(0:Int)) then Q (.tup [.agg [.bool false,.num .i64 0,.num .u64 0],.num .i64 n4]) else (isShape n1 n2 n3∧w<2*n3)∧∀(b5:Bool),b5=wNeg (fmtOf n1) w.toNat→∀(n6:Int),n6=(↑(wExp (fmtOf n1) w.toNat):Int)→∀(n7:Int),n7=(↑(wFr (fmtOf n1) w.toNat):Int)→Q (.tup [.agg [.bool b5,.num .i64 n6,.num .u64 n7],.num .i64 0])):=by kernel_rfl
theorem vc_word_Class (f:Int) (w:Int) (Q:AV→Prop):(evF Tryz.prog (look tabA2) (lam []) false Tryz.f63 [.num .u8 f,.num .u64 w] Q)=(∀(n1:Int),n1=(↑(shF f):Int)→∀(n2:Int),n2=(↑(shM f):Int)→∀(n3:Int),n3=(↑(shS f):Int)→∀(n4:Int),n4=errW f w→bif !decide (n4=(0:Int)) then Q (.tup [.num .u8 0,.num .i64 n4]) else (isShape n1 n2 n3∧w<2*n3)∧Q (.tup [.num .u8 (wClass (fmtOf n1) w.toNat),.num .i64 0])):=by kernel_rfl
theorem vc_word_finite (f:Int) (w:Int) (Q:AV→Prop):(evF Tryz.prog (look tabA2) (lam []) false Tryz.f123 [.num .u8 f,.num .u64 w] Q)=(∀(n1:Int),n1=(↑(shF f):Int)→∀(n2:Int),n2=(↑(shM f):Int)→∀(n3:Int),n3=(↑(shS f):Int)→∀(n4:Int),n4=errW f w→bif decide (n4=(0:Int)) then (isShape n1 n2 n3∧w<2*n3)∧bif decide (wClass (fmtOf n1) w.toNat≥(4:Int)) then Q (.tup [.agg [.num .i64 n1,.num .i64 n2,.num .u64 n3],.num .i64 7]) else Q (.tup [.agg [.num .i64 n1,.num .i64 n2,.num .u64 n3],.num .i64 n4]) else Q (.tup [.agg [.num .i64 n1,.num .i64 n2,.num .u64 n3],.num .i64 n4])):=by kernel_rfl
theorem vc_word_namedZ (f:Int) (neg:Bool) (Q:AV→Prop):(evF Tryz.prog (look tabA2) (lam []) false Tryz.f128 [.num .u8 f,.bool neg,AV.fn (131:Nat) []] Q)=(∀(n1:Int),n1=(↑(shF f):Int)→∀(n2:Int),n2=(↑(shM f):Int)→∀(n3:Int),n3=(↑(shS f):Int)→∀(n4:Int),n4=errF f→bif !decide (n4=(0:Int)) then Q (.tup [.num .u64 0,.num .i64 n4]) else bif neg then Q (.tup [.num .u64 (u64.wrap (↑(BitVec.ofInt (64:Nat) (0:Int)|||BitVec.ofInt (64:Nat) n3).toNat:Int)),.num .i64 0]) else Q (.tup [.num .u64 0,.num .i64 0])):=by kernel_rfl
theorem vc_word_namedI (f:Int) (neg:Bool) (Q:AV→Prop):(evF Tryz.prog (look tabA2) (lam []) false Tryz.f128 [.num .u8 f,.bool neg,AV.fn (129:Nat) []] Q)=(∀(n1:Int),n1=(↑(shF f):Int)→∀(n2:Int),n2=(↑(shM f):Int)→∀(n3:Int),n3=(↑(shS f):Int)→∀(n4:Int),n4=errF f→bif !decide (n4=(0:Int)) then Q (.tup [.num .u64 0,.num .i64 n4]) else isShape n1 n2 n3∧bif neg then Q (.tup [.num .u64 (u64.wrap (↑(BitVec.ofInt (64:Nat) (↑(wInf (fmtOf n1)):Int)|||BitVec.ofInt (64:Nat) n3).toNat:Int)),.num .i64 0]) else Q (.tup [.num .u64 (↑(wInf (fmtOf n1)):Int),.num .i64 0])):=by kernel_rfl
theorem vc_word_namedG (f:Int) (neg:Bool) (Q:AV→Prop):(evF Tryz.prog (look tabA2) (lam []) false Tryz.f128 [.num .u8 f,.bool neg,AV.fn (169:Nat) []] Q)=(∀(n1:Int),n1=(↑(shF f):Int)→∀(n2:Int),n2=(↑(shM f):Int)→∀(n3:Int),n3=(↑(shS f):Int)→∀(n4:Int),n4=errF f→bif !decide (n4=(0:Int)) then Q (.tup [.num .u64 0,.num .i64 n4]) else isShape n1 n2 n3∧bif neg then Q (.tup [.num .u64 (u64.wrap (↑(BitVec.ofInt (64:Nat) (↑(wInf (fmtOf n1)-(1:Nat)):Int)|||BitVec.ofInt (64:Nat) n3).toNat:Int)),.num .i64 0]) else Q (.tup [.num .u64 (↑(wInf (fmtOf n1)-(1:Nat)):Int),.num .i64 0])):=by kernel_rfl
theorem vc_word_namedN (f:Int) (neg:Bool) (Q:AV→Prop):(evF Tryz.prog (look tabA2) (lam []) false Tryz.f128 [.num .u8 f,.bool neg,AV.fn (130:Nat) []] Q)=(∀(n1:Int),n1=(↑(shF f):Int)→∀(n2:Int),n2=(↑(shM f):Int)→∀(n3:Int),n3=(↑(shS f):Int)→∀(n4:Int),n4=errF f→bif !decide (n4=(0:Int)) then Q (.tup [.num .u64 0,.num .i64 n4]) else isShape n1 n2 n3∧bif neg then Q (.tup [.num .u64 (u64.wrap (↑(BitVec.ofInt (64:Nat) (↑(noneW (fmtOf n1)):Int)|||BitVec.ofInt (64:Nat) n3).toNat:Int)),.num .i64 0]) else Q (.tup [.num .u64 (↑(noneW (fmtOf n1)):Int),.num .i64 0])):=by kernel_rfl
theorem vc_word_turned (f:Int) (w:Int) (w':Int) (Q:AV→Prop):(evF Tryz.prog (look tabA2) (lam []) false Tryz.f137 [.num .u8 f,.num .u64 w,AV.fn (138:Nat) [.cref [3] [.num .u64 w']]] Q)=(∀(n1:Int),n1=(↑(shF f):Int)→∀(n2:Int),n2=(↑(shM f):Int)→∀(n3:Int),n3=(↑(shS f):Int)→∀(n4:Int),n4=errW f w→bif !decide (n4=(0:Int)) then Q (.tup [.num .u64 0,.num .i64 n4]) else (isShape n1 n2 n3∧w<2*n3)∧bif decide (wClass (fmtOf n1) w.toNat=(5:Int)) then isShape n1 n2 n3∧Q (.tup [.num .u64 (↑(noneW (fmtOf n1)):Int),.num .i64 0]) else (isShape n1 n2 n3∧w'<(2:Int)*n3)∧Q (.tup [.num .u64 (↑(if wNeg (fmtOf n1) w'.toNat=true then w'.toNat-(2:Nat)^wBit (fmtOf n1) else w'.toNat+(2:Nat)^wBit (fmtOf n1)):Int),.num .i64 0])):=by kernel_rfl
theorem vc_word_Value (f:Int) (w:Int) (Q:AV→Prop):(evF Tryz.prog (look tabA3) (lam []) false Tryz.f64 [.num .u8 f,.num .u64 w] Q)=(errW f w=(0:Int)∧∀(n1:Int),n1=(↑(shF f):Int)→∀(n2:Int),n2=(↑(shM f):Int)→∀(n3:Int),n3=(↑(shS f):Int)→∀(n4:Int),(n4=if 4≤wClass f w.toNat then (7:Int) else (0:Int))→bif !decide (n4=(0:Int)) then Q (.tup [.agg [.bool false,.dig [0] [],.num .i64 0],.num .i64 n4]) else (isShape n1 n2 n3∧w<2*n3)∧∀(b5:Bool),b5=wNeg (fmtOf n1) w.toNat→∀(n6:Int),n6=(↑(wExp (fmtOf n1) w.toNat):Int)→∀(n7:Int),n7=(↑(wFr (fmtOf n1) w.toNat):Int)→bif decide (n6>(0:Int)) then 0≤n1∧isShape n1 n2 n3∧dyF (makeD b5 (dg (u64.wrap (↑(BitVec.ofInt (64:Nat) n7|||BitVec.ofInt (64:Nat) (u64.wrap ((1:Int)*(2:Int)^min n1.toNat (64:Nat)))).toNat:Int)).toNat) (i64.wrap (i64.wrap ((if (1:Int)>n6 then (1:Int) else n6)-(1:Int))+wLow (fmtOf n1)))).1 fun b8 l9 n10=>∀(n11:Int),n11=(makeD b5 (dg (u64.wrap (↑(BitVec.ofInt (64:Nat) n7|||BitVec.ofInt (64:Nat) (u64.wrap ((1:Int)*(2:Int)^min n1.toNat (64:Nat)))).toNat:Int)).toNat) (i64.wrap (i64.wrap ((if (1:Int)>n6 then (1:Int) else n6)-(1:Int))+wLow (fmtOf n1)))).snd→Q (.tup [.agg [.bool b8,.dig [0] l9,.num .i64 n10],.num .i64 n11]) else isShape n1 n2 n3∧dyF (makeD b5 (dg n7.toNat) (i64.wrap (i64.wrap ((if (1:Int)>n6 then (1:Int) else n6)-(1:Int))+wLow (fmtOf n1)))).1 fun b12 l13 n14=>∀(n15:Int),n15=(makeD b5 (dg n7.toNat) (i64.wrap (i64.wrap ((if (1:Int)>n6 then (1:Int) else n6)-(1:Int))+wLow (fmtOf n1)))).snd→Q (.tup [.agg [.bool b12,.dig [0] l13,.num .i64 n14],.num .i64 n15])):=by kernel_rfl
theorem vc_word_Zero (f:Int) (neg:Bool) (Q:AV→Prop):(evF Tryz.prog (look tabA3) (lam []) false Tryz.f68 [.num .u8 f,.bool neg] Q)=(isF f∧∀(n1:Int),n1=(↑(signW f neg):Int)→∀(n2:Int),n2=(0:Int)→Q (.tup [.num .u64 n1,.num .i64 n2])):=by kernel_rfl
theorem vc_word_Inf (f:Int) (neg:Bool) (Q:AV→Prop):(evF Tryz.prog (look tabA3) (lam []) false Tryz.f66 [.num .u8 f,.bool neg] Q)=(isF f∧∀(n1:Int),n1=(↑(signW f neg+wInf f):Int)→∀(n2:Int),n2=(0:Int)→Q (.tup [.num .u64 n1,.num .i64 n2])):=by kernel_rfl
theorem vc_word_Greatest (f:Int) (neg:Bool) (Q:AV→Prop):(evF Tryz.prog (look tabA3) (lam []) false Tryz.f119 [.num .u8 f,.bool neg] Q)=(isF f∧∀(n1:Int),n1=(↑(signW f neg+(wInf f-(1:Nat))):Int)→∀(n2:Int),n2=(0:Int)→Q (.tup [.num .u64 n1,.num .i64 n2])):=by kernel_rfl
theorem vc_word_None (f:Int) (Q:AV→Prop):(evF Tryz.prog (look tabA3) (lam []) false Tryz.f67 [.num .u8 f] Q)=((isF f∧false=false)∧∀(n1:Int),n1=(↑(noneW f):Int)→∀(n2:Int),n2=(0:Int)→Q (.tup [.num .u64 n1,.num .i64 n2])):=by kernel_rfl
theorem vc_word_Neg (f:Int) (w:Int) (Q:AV→Prop):(evF Tryz.prog (look tabA3) (lam []) false Tryz.f72 [.num .u8 f,.num .u64 w] Q)=((errW f w=(0:Int)∧w=w)∧∀(n1:Int),n1=(↑(negW f w.toNat):Int)→∀(n2:Int),n2=(0:Int)→Q (.tup [.num .u64 n1,.num .i64 n2])):=by kernel_rfl
theorem vc_word_Of (f:Int) (s:Bool) (m:List Nat) (e:Int) (Q:AV→Prop):(evF Tryz.prog (look tabA3) (lam []) false Tryz.f176 [.num .u8 f,.agg [.bool s,.dig [2] m,.num .i64 e]] Q)=(∀(n1:Int),n1=(↑(shF f):Int)→∀(n2:Int),n2=(↑(shM f):Int)→∀(n3:Int),n3=(↑(shS f):Int)→∀(n4:Int),n4=errF f→bif !decide (n4=(0:Int)) then Q (.tup [.num .u64 0,.num .i64 n4]) else bif !mayD (Dyd.mk s m e) then Q (.tup [.num .u64 0,.num .i64 2]) else∀(n5:Int),n5=(↑(if (may m&&decide (m.length≤2))=true then val m else (0:Nat)):Int)→∀(b6:Bool),b6=(may m&&decide (m.length≤2))→bif !b6 then Q (.tup [.num .u64 0,.num .i64 7]) else bif decide ((↑(bl n5.toNat):Int)>i64.wrap (n1+(1:Int))) then Q (.tup [.num .u64 0,.num .i64 7]) else bif !decide (n5=(0:Int)) then isShape n1 n2 n3∧bif decide (e<wLow (fmtOf n1)) then Q (.tup [.num .u64 0,.num .i64 7]) else bif decide (i64.wrap (e+(↑(bl n5.toNat):Int))>i64.wrap (i64.wrap (n2.tdiv (2:Int))+(1:Int))) then Q (.tup [.num .u64 0,.num .i64 7]) else bif decide (n5=(0:Int)) then Q (.tup [.num .u64 0,.num .i64 0]) else isShape n1 n2 n3∧(0:Int)≤i64.wrap (e-if wLow (fmtOf n1)>i64.wrap (i64.wrap (i64.wrap (e+(↑(bl n5.toNat):Int))-n1)-(1:Int)) then wLow (fmtOf n1) else i64.wrap (i64.wrap (i64.wrap (e+(↑(bl n5.toNat):Int))-n1)-(1:Int)))∧isShape n1 n2 n3∧0≤n1∧(isShape n1 n2 n3∧(0:Int)=(0:Int)∧u64.wrap (u64.wrap (u64.wrap (i64.wrap ((if wLow (fmtOf n1)>i64.wrap (i64.wrap (i64.wrap (e+(↑(bl n5.toNat):Int))-n1)-(1:Int)) then wLow (fmtOf n1) else i64.wrap (i64.wrap (i64.wrap (e+(↑(bl n5.toNat):Int))-n1)-(1:Int)))-wLow (fmtOf n1)))*(2:Int)^min n1.toNat (64:Nat))+u64.wrap (n5*(2:Int)^min (i64.wrap (e-if wLow (fmtOf n1)>i64.wrap (i64.wrap (i64.wrap (e+(↑(bl n5.toNat):Int))-n1)-(1:Int)) then wLow (fmtOf n1) else i64.wrap (i64.wrap (i64.wrap (e+(↑(bl n5.toNat):Int))-n1)-(1:Int)))).toNat (64:Nat)))<n3)∧Q (.tup [.num .u64 (if s=true then u64.wrap (u64.wrap (u64.wrap (i64.wrap ((if wLow (fmtOf n1)>i64.wrap (i64.wrap (i64.wrap (e+(↑(bl n5.toNat):Int))-n1)-(1:Int)) then wLow (fmtOf n1) else i64.wrap (i64.wrap (i64.wrap (e+(↑(bl n5.toNat):Int))-n1)-(1:Int)))-wLow (fmtOf n1)))*(2:Int)^min n1.toNat (64:Nat))+u64.wrap (n5*(2:Int)^min (i64.wrap (e-if wLow (fmtOf n1)>i64.wrap (i64.wrap (i64.wrap (e+(↑(bl n5.toNat):Int))-n1)-(1:Int)) then wLow (fmtOf n1) else i64.wrap (i64.wrap (i64.wrap (e+(↑(bl n5.toNat):Int))-n1)-(1:Int)))).toNat (64:Nat)))+n3 else u64.wrap (u64.wrap (u64.wrap (i64.wrap ((if wLow (fmtOf n1)>i64.wrap (i64.wrap (i64.wrap (e+(↑(bl n5.toNat):Int))-n1)-(1:Int)) then wLow (fmtOf n1) else i64.wrap (i64.wrap (i64.wrap (e+(↑(bl n5.toNat):Int))-n1)-(1:Int)))-wLow (fmtOf n1)))*(2:Int)^min n1.toNat (64:Nat))+u64.wrap (n5*(2:Int)^min (i64.wrap (e-if wLow (fmtOf n1)>i64.wrap (i64.wrap (i64.wrap (e+(↑(bl n5.toNat):Int))-n1)-(1:Int)) then wLow (fmtOf n1) else i64.wrap (i64.wrap (i64.wrap (e+(↑(bl n5.toNat):Int))-n1)-(1:Int)))).toNat (64:Nat)))),.num .i64 0]) else bif decide (n5=(0:Int)) then Q (.tup [.num .u64 0,.num .i64 0]) else isShape n1 n2 n3∧(0:Int)≤i64.wrap (e-if wLow (fmtOf n1)>i64.wrap (i64.wrap (i64.wrap (e+(↑(bl n5.toNat):Int))-n1)-(1:Int)) then wLow (fmtOf n1) else i64.wrap (i64.wrap (i64.wrap (e+(↑(bl n5.toNat):Int))-n1)-(1:Int)))∧isShape n1 n2 n3∧0≤n1∧(isShape n1 n2 n3∧(0:Int)=(0:Int)∧u64.wrap (u64.wrap (u64.wrap (i64.wrap ((if wLow (fmtOf n1)>i64.wrap (i64.wrap (i64.wrap (e+(↑(bl n5.toNat):Int))-n1)-(1:Int)) then wLow (fmtOf n1) else i64.wrap (i64.wrap (i64.wrap (e+(↑(bl n5.toNat):Int))-n1)-(1:Int)))-wLow (fmtOf n1)))*(2:Int)^min n1.toNat (64:Nat))+u64.wrap (n5*(2:Int)^min (i64.wrap (e-if wLow (fmtOf n1)>i64.wrap (i64.wrap (i64.wrap (e+(↑(bl n5.toNat):Int))-n1)-(1:Int)) then wLow (fmtOf n1) else i64.wrap (i64.wrap (i64.wrap (e+(↑(bl n5.toNat):Int))-n1)-(1:Int)))).toNat (64:Nat)))<n3)∧Q (.tup [.num .u64 (if s=true then u64.wrap (u64.wrap (u64.wrap (i64.wrap ((if wLow (fmtOf n1)>i64.wrap (i64.wrap (i64.wrap (e+(↑(bl n5.toNat):Int))-n1)-(1:Int)) then wLow (fmtOf n1) else i64.wrap (i64.wrap (i64.wrap (e+(↑(bl n5.toNat):Int))-n1)-(1:Int)))-wLow (fmtOf n1)))*(2:Int)^min n1.toNat (64:Nat))+u64.wrap (n5*(2:Int)^min (i64.wrap (e-if wLow (fmtOf n1)>i64.wrap (i64.wrap (i64.wrap (e+(↑(bl n5.toNat):Int))-n1)-(1:Int)) then wLow (fmtOf n1) else i64.wrap (i64.wrap (i64.wrap (e+(↑(bl n5.toNat):Int))-n1)-(1:Int)))).toNat (64:Nat)))+n3 else u64.wrap (u64.wrap (u64.wrap (i64.wrap ((if wLow (fmtOf n1)>i64.wrap (i64.wrap (i64.wrap (e+(↑(bl n5.toNat):Int))-n1)-(1:Int)) then wLow (fmtOf n1) else i64.wrap (i64.wrap (i64.wrap (e+(↑(bl n5.toNat):Int))-n1)-(1:Int)))-wLow (fmtOf n1)))*(2:Int)^min n1.toNat (64:Nat))+u64.wrap (n5*(2:Int)^min (i64.wrap (e-if wLow (fmtOf n1)>i64.wrap (i64.wrap (i64.wrap (e+(↑(bl n5.toNat):Int))-n1)-(1:Int)) then wLow (fmtOf n1) else i64.wrap (i64.wrap (i64.wrap (e+(↑(bl n5.toNat):Int))-n1)-(1:Int)))).toNat (64:Nat)))),.num .i64 0])):=by kernel_rfl
end Go.AI

namespace Go.Dy
theorem isFb_cases (f:Int):f=1∨f=2∨(f≠1∧f≠2):=by omega
theorem isFb_of {f:Int} (h:isF f):isFb f=true:=by rcases h with rfl|rfl<;>rfl
theorem isFb_not {f:Int} (h:f≠1∧f≠2):isFb f=false:=by unfold isFb;simp [h.1,h.2]
theorem errW_zero {f w:Int} (h:errW f w=0):isF f∧w<2*(shS f:Nat):=by
 rcases isFb_cases f with c|c|c
 ·subst c
  refine ⟨.inl rfl,?_⟩
  unfold errW at h
  rw [show isFb 1=true from rfl,cond_true] at h
  split at h
  ·cases h
  ·omega
 ·subst c
  refine ⟨.inr rfl,?_⟩
  unfold errW at h
  rw [show isFb 2=true from rfl,cond_true] at h
  split at h
  ·cases h
  ·omega
 ·unfold errW at h
  rw [isFb_not c] at h
  cases h
theorem errF_of {f:Int} (h:isF f):errF f=0:=by rcases h with rfl|rfl<;>rfl
theorem shF_of {f:Int} (h:isF f):shF f=wFrac f:=by rcases h with rfl|rfl<;>rfl
theorem shS_of {f:Int} (h:isF f):shS f=2^wBit f:=by rcases h with rfl|rfl<;>rfl
theorem sh_shape {f:Int} (h:isF f):isShape (shF f:Nat) (shM f:Nat) (shS f:Nat):=by
 rcases h with rfl|rfl
 ·exact .inl ⟨rfl,rfl,rfl⟩
 ·exact .inr ⟨rfl,rfl,rfl⟩
theorem fmt_sh {f:Int} (h:isF f):fmtOf (shF f:Nat)=f:=by rcases h with rfl|rfl<;>rfl
theorem shape_of {a b c:Int} (h:isShape a b c):∃f,isF f∧a=(wFrac f:Nat)∧b=(wMost f:Nat)∧c=((2^wBit f:Nat):Int)∧fmtOf a=f:=by
 rcases h with ⟨rfl,rfl,rfl⟩|⟨rfl,rfl,rfl⟩
 ·exact ⟨1,.inl rfl,rfl,rfl,rfl,rfl⟩
 ·exact ⟨2,.inr rfl,rfl,rfl,rfl,rfl⟩
theorem wBit_lt {f:Int} (h:isF f):wBit f<64:=by rcases fmt_facts h with c|c<;>omega
theorem wFrac_lt {f:Int} (h:isF f):wFrac f<wBit f:=by rcases fmt_facts h with c|c<;>omega
theorem wBit64 {f:Int} (h:isF f) {v:Nat} (hv:v<2*2^wBit f):v<2^(wBit f+1)∧v<2^64:=by
 have h1:v<2^(wBit f+1):=by rw [Nat.pow_succ];omega
 exact ⟨h1,Nat.lt_of_lt_of_le h1 (Nat.pow_le_pow_right (by decide) (by have:=wBit_lt h;omega))⟩
theorem or_zero {w:Nat} (hw:w<2^64):(BitVec.ofInt 64 0|||BitVec.ofInt 64 (w:Int)).toNat=w:=by
 rw [BitVec.ofInt_natCast,BitVec.toNat_or,BitVec.toNat_ofNat,Nat.mod_eq_of_lt hw]
 exact Nat.zero_or w
theorem wInf_lt {f:Int} (h:isF f):wInf f<2^wBit f∧0<wInf f:=by rcases h with rfl|rfl<;>decide
theorem wSize_lt (f:Int) (w:Nat):wSize f w<2^wBit f:=Nat.mod_lt _ (Nat.two_pow_pos _)
theorem pow_bit {f:Int} (h:isF f):2^wBit f<2^64:=Nat.pow_lt_pow_right (by decide) (wBit_lt h)
end Go.Dy
namespace Go.AI
open Go Go.RowKit Go.Proofs
set_option linter.unusedVariables false
set_option maxRecDepth 100000
set_option maxHeartbeats 1000000
theorem wrap_nat {n:Nat} (h:n<2^64):IntKind.u64.wrap (n:Int)=n:=by rw [wrap_u64];omega
theorem pw {f:Int} (h:Dy.isF f):IntKind.u64.wrap ((1:Int)*(2:Int)^min ((Dy.wFrac f:Nat):Int).toNat 64)=((2^Dy.wFrac f:Nat):Int):=by rcases h with rfl|rfl<;>decide
theorem ok_word_shapeOf (args:List AV) (s:Spec) (h:wShapeOf args=some s) (hp:andO s.pre True):Contract Tryz.prog Inv 170 args s.res:=by
 unfold wShapeOf at h
 split at h
 ·cases h
  rename_i f
  refine contract0 false ok_tabR3 Tryz.func170 (by kernel_rfl) (by kernel_rfl) fun hok=> ?_
  rw [vc_word_shapeOf]
  rcases Dy.isFb_cases f with c|c|c
  ·subst c;exact cond_t rfl rfl
  ·subst c;exact cond_f rfl (cond_t rfl rfl)
  ·refine cond_f (decide_eq_false c.1) (cond_f (decide_eq_false c.2) ?_)
   unfold shA Dy.shF Dy.shM Dy.shS
   rw [Dy.isFb_not c,if_neg c.1,if_neg c.2,if_neg c.1,if_neg c.2,if_neg c.1,if_neg c.2]
   rfl
 ·cases h
theorem ok_word_low (args:List AV) (s:Spec) (h:wLowS args=some s) (hp:andO s.pre True):Contract Tryz.prog Inv 127 args s.res:=by
 unfold wLowS at h
 split at h
 ·cases h
  obtain ⟨p, -⟩:=hp
  refine contract0 false ok_tabR3 Tryz.func127 (by kernel_rfl) (by kernel_rfl) fun hok=> ?_
  rw [vc_word_low]
  rcases p with ⟨rfl,rfl,rfl⟩|⟨rfl,rfl,rfl⟩
  ·exact congrArg (AV.num .i64) (by decide)
  ·exact congrArg (AV.num .i64) (by decide)
 ·cases h
theorem ok_word_inf (args:List AV) (s:Spec) (h:wInfS args=some s) (hp:andO s.pre True):Contract Tryz.prog Inv 129 args s.res:=by
 unfold wInfS at h
 split at h
 ·cases h
  obtain ⟨p, -⟩:=hp
  refine contract0 false ok_tabR3 Tryz.func129 (by kernel_rfl) (by kernel_rfl) fun hok=> ?_
  rw [vc_word_inf]
  rcases p with ⟨rfl,rfl,rfl⟩|⟨rfl,rfl,rfl⟩
  ·exact ⟨by decide,congrArg (AV.num .u64) (by decide)⟩
  ·exact ⟨by decide,congrArg (AV.num .u64) (by decide)⟩
 ·cases h
theorem ok_tabA0:PhiOk Tryz.prog Inv (look tabA0):=look_cons (look_cons (look_cons (look_cons ok_tabR3 ok_word_inf) ok_word_low) ok_word_shapeOf) okLen64
theorem ok_word_none (args:List AV) (s:Spec) (h:wNoneS args=some s) (hp:andO s.pre True):Contract Tryz.prog Inv 130 args s.res:=by
 unfold wNoneS at h
 split at h
 ·cases h
  obtain ⟨p, -⟩:=hp
  refine contract0 false ok_tabA0 Tryz.func130 (by kernel_rfl) (by kernel_rfl) fun hok=> ?_
  rw [vc_word_none]
  refine ⟨p,?_⟩
  rcases p with ⟨rfl,rfl,rfl⟩|⟨rfl,rfl,rfl⟩
  ·exact ⟨by decide,congrArg (AV.num .u64) (by decide)⟩
  ·exact ⟨by decide,congrArg (AV.num .u64) (by decide)⟩
 ·cases h
theorem ok_word_zero1 (args:List AV) (s:Spec) (h:wZero1 args=some s) (hp:andO s.pre True):Contract Tryz.prog Inv 131 args s.res:=by
 unfold wZero1 at h
 split at h
 ·cases h
  refine contract0 false ok_tabA0 Tryz.func131 (by kernel_rfl) (by kernel_rfl) fun hok=> ?_
  rw [vc_word_zero1]
 ·cases h
theorem ok_word_great1 (args:List AV) (s:Spec) (h:wGreat1 args=some s) (hp:andO s.pre True):Contract Tryz.prog Inv 169 args s.res:=by
 unfold wGreat1 at h
 split at h
 ·cases h
  obtain ⟨p, -⟩:=hp
  refine contract0 false ok_tabA0 Tryz.func169 (by kernel_rfl) (by kernel_rfl) fun hok=> ?_
  rw [vc_word_great1]
  refine ⟨p,?_⟩
  rcases p with ⟨rfl,rfl,rfl⟩|⟨rfl,rfl,rfl⟩
  ·exact congrArg (AV.num .u64) (by decide)
  ·exact congrArg (AV.num .u64) (by decide)
 ·cases h
theorem ok_word_neg1 (args:List AV) (s:Spec) (h:wNeg1 args=some s) (hp:andO s.pre True):Contract Tryz.prog Inv 138 args s.res:=by
 unfold wNeg1 at h
 split at h
 ·cases h
  rename_i a b c w
  obtain ⟨⟨p,hw⟩, -⟩:=hp
  refine contract0 false ok_tabA0 Tryz.func138 (by kernel_rfl) (by kernel_rfl) fun hok=> ?_
  rw [vc_word_neg1]
  have hw0:=u64_range hok.2.1.1
  obtain ⟨f,hf,rfl,rfl,rfl,h5⟩:=Dy.shape_of p
  obtain ⟨v,rfl⟩:=Int.eq_ofNat_of_zero_le hw0.1
  obtain ⟨h1,h2⟩:=Dy.wBit64 hf (v:=v) (by omega)
  rw [h5,Dy.xor_bit (Dy.wBit_lt hf) h1,Int.toNat_natCast]
  have h3:=Dy.pow_bit hf
  unfold Dy.wNeg
  by_cases c:2^Dy.wBit f≤v
  ·rw [if_pos c,if_pos (decide_eq_true c),wrap_nat (by omega)]
  ·rw [if_neg c,if_neg (by simpa using c),wrap_nat (by
    have:2^(Dy.wBit f+1)≤2^64:=Nat.pow_le_pow_right (by decide) (by have:=Dy.wBit_lt hf;omega)
    rw [Nat.pow_succ] at this
    omega)]
 ·cases h
theorem ok_word_split (args:List AV) (s:Spec) (h:wSplitS args=some s) (hp:andO s.pre True):Contract Tryz.prog Inv 124 args s.res:=by
 unfold wSplitS at h
 split at h
 ·cases h
  rename_i a b c w
  obtain ⟨⟨p,hw⟩, -⟩:=hp
  refine contract0 false ok_tabA0 Tryz.func124 (by kernel_rfl) (by kernel_rfl) fun hok=> ?_
  rw [vc_word_split]
  have hw0:=u64_range hok.2.1
  obtain ⟨f,hf,rfl,rfl,rfl,h5⟩:=Dy.shape_of p
  obtain ⟨v,rfl⟩:=Int.eq_ofNat_of_zero_le hw0.1
  obtain ⟨h1,h2⟩:=Dy.wBit64 hf (v:=v) (by omega)
  have h3:=Dy.pow_bit hf
  have h4:=Dy.wSize_lt f v
  refine ⟨by omega,by omega,?_⟩
  rw [h5,Dy.and_bit (Dy.wBit_lt hf) h1,Dy.andnot_bit (Dy.wBit_lt hf) h1,pw hf,Int.toNat_natCast,Int.toNat_natCast]
  rw [show v%2^Dy.wBit f=Dy.wSize f v from rfl,wrap_nat (show Dy.wSize f v<2^64 by omega),fdiv_pow (by omega),Int.toNat_natCast,Nat.min_eq_left (by have:=Dy.wFrac_lt hf;have:=Dy.wBit_lt hf;omega)]
  have h6:2^Dy.wFrac f<2^63:=Nat.pow_lt_pow_right (by decide) (by have:=Dy.wFrac_lt hf;have:=Dy.wBit_lt hf;omega)
  have h7:=Nat.two_pow_pos (Dy.wFrac f)
  rw [show IntKind.u64.wrap (((2^Dy.wFrac f:Nat):Int)-1)=((2^Dy.wFrac f-1:Nat):Int) by rw [wrap_u64];omega,
   Dy.and_mask (by have:=Dy.wFrac_lt hf;have:=Dy.wBit_lt hf;omega) (show Dy.wSize f v<2^64 by omega),wrap_nat (Nat.lt_of_le_of_lt (Nat.mod_le _ _) (by omega)),
   wrap_i64 (Int.le_trans (by decide) (Int.natCast_nonneg _)) (by have:=Nat.div_le_self (Dy.wSize f v) (2^Dy.wFrac f);have:2^Dy.wBit f≤2^63:=Nat.pow_le_pow_right (by decide) (by have:=Dy.wBit_lt hf;omega);omega)]
  have e:(IntKind.u64.wrap ((if 2^Dy.wBit f≤v then 2^Dy.wBit f else 0:Nat):Int) !=0)=Dy.wNeg f v:=by
   unfold Dy.wNeg
   by_cases c:2^Dy.wBit f≤v
   ·rw [if_pos c,wrap_nat h3,decide_eq_true c]
    have:=Nat.two_pow_pos (Dy.wBit f)
    exact bne_iff_ne.2 (by omega)
   ·rw [if_neg c,decide_eq_false c];rfl
  rw [e]
  rfl
 ·cases h
theorem ok_word_class (args:List AV) (s:Spec) (h:wClassS args=some s) (hp:andO s.pre True):Contract Tryz.prog Inv 122 args s.res:=by
 unfold wClassS at h
 split at h
 ·cases h
  rename_i a b c w
  obtain ⟨⟨p,hw⟩, -⟩:=hp
  refine contract0 false ok_tabA0 Tryz.func122 (by kernel_rfl) (by kernel_rfl) fun hok=> ?_
  rw [vc_word_class]
  have hw0:=u64_range hok.2.1
  obtain ⟨f,hf,rfl,rfl,rfl,h5⟩:=Dy.shape_of p
  obtain ⟨v,rfl⟩:=Int.eq_ofNat_of_zero_le hw0.1
  obtain ⟨h1,h2⟩:=Dy.wBit64 hf (v:=v) (by omega)
  have h3:=Dy.pow_bit hf
  have h4:=Dy.wSize_lt f v
  rw [h5,Dy.andnot_bit (Dy.wBit_lt hf) h1,pw hf,Int.toNat_natCast]
  rw [show v%2^Dy.wBit f=Dy.wSize f v from rfl,wrap_nat (show Dy.wSize f v<2^64 by omega)]
  unfold Dy.wClass
  refine cond_i (fun h=> ?_) (fun h=>⟨by omega,cond_i (fun h'=> ?_) (fun h'=>⟨p,cond_i (fun h''=> ?_) (fun h''=>⟨p,cond_i (fun h3=> ?_) (fun h3=> ?_)⟩)⟩)⟩)
  ·have:=of_decide_eq_true h
   rw [if_pos (by omega)]
  ·have:=of_decide_eq_false h
   have:=of_decide_eq_true h'
   rw [if_neg (by omega),if_pos (by omega)]
  ·have:=of_decide_eq_false h
   have:=of_decide_eq_false h'
   have:=of_decide_eq_true h''
   rw [if_neg (by omega),if_neg (by omega),if_pos (by omega)]
  ·have:=of_decide_eq_false h
   have:=of_decide_eq_false h'
   have:=of_decide_eq_false h''
   have:=of_decide_eq_true h3
   rw [if_neg (by omega),if_neg (by omega),if_neg (by omega),if_pos (by omega)]
  ·have:=of_decide_eq_false h
   have:=of_decide_eq_false h'
   have:=of_decide_eq_false h''
   have:=of_decide_eq_false h3
   rw [if_neg (by omega),if_neg (by omega),if_neg (by omega),if_neg (by omega)]
 ·cases h
theorem ok_word_join (args:List AV) (s:Spec) (h:wJoinS args=some s) (hp:andO s.pre True):Contract Tryz.prog Inv 201 args s.res:=by
 unfold wJoinS at h
 split at h
 ·cases h
  rename_i a b c neg e fr
  obtain ⟨⟨p,he,hfr⟩, -⟩:=hp
  refine contract0 false ok_tabA0 Tryz.func201 (by kernel_rfl) (by kernel_rfl) fun hok=> ?_
  rw [vc_word_join]
  have hw0:=u64_range hok.2.1.2.2.1
  obtain ⟨f,hf,rfl,rfl,rfl,h5⟩:=Dy.shape_of p
  obtain ⟨v,rfl⟩:=Int.eq_ofNat_of_zero_le hw0.1
  have h3:=Dy.pow_bit hf
  subst he
  rw [show IntKind.u64.wrap 0=0 from rfl,Int.zero_mul,show IntKind.u64.wrap 0=0 from rfl,Dy.or_zero (show v<2^64 by omega),wrap_nat (show v<2^64 by omega),Dy.or_bit (Dy.wBit_lt hf) (show v<2^Dy.wBit f by omega)]
  refine ⟨by omega,cond_i (fun h=> ?_) (fun h=> ?_)⟩
  ·subst h
   rw [if_pos rfl,wrap_nat (by
    have:2^(Dy.wBit f+1)≤2^64:=Nat.pow_le_pow_right (by decide) (by have:=Dy.wBit_lt hf;omega)
    rw [Nat.pow_succ] at this
    omega)]
   rfl
  ·subst h
   rfl
 ·cases h
theorem ok_tabA1:PhiOk Tryz.prog Inv (look tabA1):=look_cons (look_cons (look_cons (look_cons (look_cons (look_cons (look_cons ok_tabA0 ok_word_join) ok_word_class) ok_word_split) ok_word_neg1) ok_word_great1) ok_word_zero1) ok_word_none
end Go.AI

namespace Go.Dy
theorem errW_of {f w:Int} (hf:isF f) (hw:w<2*(shS f:Nat)):errW f w=0:=by
 unfold errW
 rw [isFb_of hf,cond_true,if_neg (by omega)]
theorem wVal_parts {f:Int} (hf:isF f) (w:Nat):wFr f w<2^wFrac f∧wExp f w<2048:=by
 refine ⟨Nat.mod_lt _ (Nat.two_pow_pos _),?_⟩
 have h:=wSize_lt f w
 unfold wExp
 rw [Nat.div_lt_iff_lt_mul (Nat.two_pow_pos _)]
 have:2^wBit f≤2048*2^wFrac f:=by rcases hf with rfl|rfl<;>decide
 omega
theorem signW_lt {f:Int} (hf:isF f) (neg:Bool):signW f neg≤2^wBit f:=by
 cases neg
 ·exact Nat.zero_le _
 ·exact Nat.le_refl _
theorem sizeW_lt {f:Int} (hf:isF f) {d:Dyd} (hb:bl (val d.mag)≤wFrac f+1) (h0:d.mag≠[]) (he:wLow f≤d.exp) (ht:topD d≤wWide f):
  sizeW f d<2^wBit f∧max (topD d-wFrac f-1) (wLow f)≤d.exp∧wLow f≤max (topD d-wFrac f-1) (wLow f)∧
   (max (topD d-wFrac f-1) (wLow f)-wLow f).toNat*2^wFrac f<2^wBit f∧val d.mag*2^(d.exp-max (topD d-wFrac f-1) (wLow f)).toNat<2^wBit f∧
   max (topD d-wFrac f-1) (wLow f)-wLow f≤2045∧d.exp-max (topD d-wFrac f-1) (wLow f)≤60:=by
 have etop:topD d=d.exp+bl (val d.mag):=by unfold topD;rw [if_neg h0]
 generalize hE:max (topD d-wFrac f-1) (wLow f)=E
 have h1:E≤d.exp:=by omega
 have h2:wLow f≤E:=by omega
 have h3:d.exp-E+bl (val d.mag)≤wFrac f+1:=by omega
 have hv:val d.mag*2^(d.exp-E).toNat<2^(wFrac f+1):=by
  have:=lt_two_bl (val d.mag)
  have h5:val d.mag*2^(d.exp-E).toNat<2^bl (val d.mag)*2^(d.exp-E).toNat:=Nat.mul_lt_mul_of_pos_right this (Nat.two_pow_pos _)
  rw [←Nat.pow_add] at h5
  exact Nat.lt_of_lt_of_le h5 (Nat.pow_le_pow_right (by decide) (by omega))
 have hE2:(E-wLow f).toNat+2≤wMost f:=by rcases fmt_facts hf with c|c<;>omega
 have hX:=Nat.mul_le_mul_right (2^wFrac f) hE2
 rw [Nat.add_mul] at hX
 have hM:wMost f*2^wFrac f<2^wBit f:=by rcases hf with rfl|rfl<;>decide
 have hp:2^(wFrac f+1)=2*2^wFrac f:=by rw [Nat.pow_succ,Nat.mul_comm]
 have hs:sizeW f d=(E-wLow f).toNat*2^wFrac f+val d.mag*2^(d.exp-E).toNat:=by unfold sizeW;rw [hE]
 refine ⟨by omega,h1,h2,by omega,by omega,?_,?_⟩
 ·rcases fmt_facts hf with c|c<;>omega
 ·rcases fmt_facts hf with c|c<;>omega
end Go.Dy
namespace Go.AI
open Go Go.RowKit Go.Proofs
set_option linter.unusedVariables false
set_option maxRecDepth 100000
set_option maxHeartbeats 1000000
theorem ok_word_open (args:List AV) (s:Spec) (h:wOpen args=some s) (hp:andO s.pre True):Contract Tryz.prog Inv 121 args s.res:=by
 unfold wOpen at h
 split at h
 ·cases h
  rename_i f w
  refine contract_at false 35 (lam [(5,.unroll 2)]) ok_tabA1 Tryz.func121 (by kernel_rfl) rfl (loops1u (k:=2) (by kernel_rfl) (by kernel_rfl)) fun hok=> ?_
  rw [vc_word_open1]
  rintro _ rfl _ rfl _ rfl _ rfl
  rcases Dy.isFb_cases f with c|c|c
  ·subst c
   refine cond_f rfl ⟨⟨by decide,(by decide:(0:Int)<1)⟩,?_⟩
   rw [show IntKind.u64.wrap ((BitVec.ofInt 64 ((Dy.shS 1:Nat):Int)|||BitVec.ofInt 64 (IntKind.u64.wrap (((Dy.shS 1:Nat):Int)-1))).toNat:Int)=4294967295 by decide]
   unfold Dy.errW
   rw [show Dy.isFb 1=true from rfl,cond_true]
   refine cond_i (fun h=> ?_) (fun h=> ?_)
   ·have:=of_decide_eq_true h
    rw [if_pos (show ((2*Dy.shS 1:Nat):Int)≤w by show (4294967296:Int)≤w;omega)]
    rfl
   ·have:=of_decide_eq_false h
    rw [if_neg (show¬((2*Dy.shS 1:Nat):Int)≤w by show¬(4294967296:Int)≤w;omega)]
    rfl
  ·subst c
   have hw:=u64_range hok.2.1.2.1
   refine cond_f rfl ⟨⟨by decide,(by decide:(0:Int)<1)⟩,?_⟩
   rw [show IntKind.u64.wrap ((BitVec.ofInt 64 ((Dy.shS 2:Nat):Int)|||BitVec.ofInt 64 (IntKind.u64.wrap (((Dy.shS 2:Nat):Int)-1))).toNat:Int)=18446744073709551615 by decide]
   unfold Dy.errW
   rw [show Dy.isFb 2=true from rfl,cond_true]
   rw [if_neg (show¬((2*Dy.shS 2:Nat):Int)≤w by show¬(18446744073709551616:Int)≤w;omega)]
   exact cond_f (decide_eq_false (by omega)) rfl
  ·have e:=Dy.isFb_not c
   unfold Dy.errW
   rw [e]
   exact rfl
 ·cases h
  rename_i f
  refine contract_at false 35 (lam [(5,.unroll 2)]) ok_tabA1 Tryz.func121 (by kernel_rfl) rfl (loops1u (k:=2) (by kernel_rfl) (by kernel_rfl)) fun hok=> ?_
  rw [vc_word_open0]
  rintro _ rfl _ rfl _ rfl _ rfl
  unfold Dy.errF
  refine cond_i (fun h=> ?_) (fun h=> ?_)
  ·rw [show Dy.isFb f=false by simpa using h]
   rfl
  ·rw [show Dy.isFb f=true by simpa using h]
   rfl
 ·cases h
theorem ok_tabA2:PhiOk Tryz.prog Inv (look tabA2):=look_cons ok_tabA1 ok_word_open
theorem ok_word_Good (args:List AV) (s:Spec) (h:wGood args=some s) (hp:andO s.pre True):Contract Tryz.prog Inv 120 args s.res:=by
 unfold wGood at h
 split at h
 ·cases h
  refine contract0 false ok_tabA2 Tryz.func120 (by kernel_rfl) (by kernel_rfl) fun hok=> ?_
  rw [vc_word_Good]
  rintro _ rfl _ rfl _ rfl _ rfl
  rfl
 ·cases h
theorem ok_word_Split (args:List AV) (s:Spec) (h:wSplit args=some s) (hp:andO s.pre True):Contract Tryz.prog Inv 65 args s.res:=by
 unfold wSplit at h
 split at h
 ·cases h
  rename_i f w
  obtain ⟨p, -⟩:=hp
  refine contract0 false ok_tabA2 Tryz.func65 (by kernel_rfl) (by kernel_rfl) fun hok=> ?_
  rw [vc_word_Split]
  obtain ⟨hf,hw⟩:=Dy.errW_zero p
  rintro _ rfl _ rfl _ rfl _ rfl
  rw [p]
  refine cond_f rfl ⟨⟨Dy.sh_shape hf,hw⟩,?_⟩
  rw [Dy.fmt_sh hf]
  rintro _ rfl _ rfl _ rfl
  rfl
 ·cases h
theorem ok_word_Class (args:List AV) (s:Spec) (h:wClassF args=some s) (hp:andO s.pre True):Contract Tryz.prog Inv 63 args s.res:=by
 unfold wClassF at h
 split at h
 ·cases h
  rename_i f w
  obtain ⟨p, -⟩:=hp
  refine contract0 false ok_tabA2 Tryz.func63 (by kernel_rfl) (by kernel_rfl) fun hok=> ?_
  rw [vc_word_Class]
  obtain ⟨hf,hw⟩:=Dy.errW_zero p
  rintro _ rfl _ rfl _ rfl _ rfl
  rw [p]
  refine cond_f rfl ⟨⟨Dy.sh_shape hf,hw⟩,?_⟩
  rw [Dy.fmt_sh hf]
 ·cases h
theorem ok_word_finite (args:List AV) (s:Spec) (h:wFinite args=some s) (hp:andO s.pre True):Contract Tryz.prog Inv 123 args s.res:=by
 unfold wFinite at h
 split at h
 ·cases h
  rename_i f w
  obtain ⟨p, -⟩:=hp
  refine contract0 false ok_tabA2 Tryz.func123 (by kernel_rfl) (by kernel_rfl) fun hok=> ?_
  rw [vc_word_finite]
  obtain ⟨hf,hw⟩:=Dy.errW_zero p
  rintro _ rfl _ rfl _ rfl _ rfl
  rw [p]
  refine cond_t rfl ⟨⟨Dy.sh_shape hf,hw⟩,?_⟩
  rw [Dy.fmt_sh hf]
  refine cond_i (fun h=> ?_) (fun h=> ?_)
  ·rw [if_pos (of_decide_eq_true h)];rfl
  ·rw [if_neg (of_decide_eq_false h)];rfl
 ·cases h
theorem or_sign {f:Int} (hf:Dy.isF f) {x:Nat} (hx:x<2^Dy.wBit f):IntKind.u64.wrap ((BitVec.ofInt 64 (x:Int)|||BitVec.ofInt 64 ((Dy.shS f:Nat):Int)).toNat:Int)=((Dy.signW f true+x:Nat):Int):=by
 rw [Dy.shS_of hf,Dy.or_bit (Dy.wBit_lt hf) hx,wrap_nat (by
  have:=Dy.wBit_lt hf
  have h2:2^(Dy.wBit f+1)≤2^64:=Nat.pow_le_pow_right (by decide) (by omega)
  rw [Nat.pow_succ] at h2
  omega)]
 unfold Dy.signW
 rw [if_pos rfl,Nat.add_comm]
theorem ok_word_named (args:List AV) (s:Spec) (h:wNamed args=some s) (hp:andO s.pre True):Contract Tryz.prog Inv 128 args s.res:=by
 unfold wNamed at h
 split at h
 ·rename_i f neg F
  split at h
  ·rename_i c
   subst c
   cases h
   obtain ⟨hf, -⟩:=hp
   refine contract0 false ok_tabA2 Tryz.func128 (by kernel_rfl) (by kernel_rfl) fun hok=> ?_
   rw [vc_word_namedZ,Dy.errF_of hf]
   rintro _ rfl _ rfl _ rfl _ rfl
   refine cond_f rfl (cond_i (fun h=> ?_) (fun h=> ?_))
   ·subst h
    have e:=or_sign hf (x:=0) (Nat.two_pow_pos _)
    rw [show ((0:Nat):Int)=0 from rfl] at e
    rw [e]
    rfl
   ·subst h;rfl
  ·split at h
   ·rename_i c
    subst c
    cases h
    obtain ⟨hf, -⟩:=hp
    refine contract0 false ok_tabA2 Tryz.func128 (by kernel_rfl) (by kernel_rfl) fun hok=> ?_
    rw [vc_word_namedI,Dy.errF_of hf]
    rintro _ rfl _ rfl _ rfl _ rfl
    rw [Dy.fmt_sh hf]
    refine cond_f rfl ⟨Dy.sh_shape hf,cond_i (fun h=> ?_) (fun h=> ?_)⟩
    ·subst h
     rw [or_sign hf (Dy.wInf_lt hf).1]
    ·subst h
     unfold Dy.signW
     rw [if_neg (by decide),Nat.zero_add]
   ·split at h
    ·rename_i c
     subst c
     cases h
     obtain ⟨hf, -⟩:=hp
     refine contract0 false ok_tabA2 Tryz.func128 (by kernel_rfl) (by kernel_rfl) fun hok=> ?_
     rw [vc_word_namedG,Dy.errF_of hf]
     rintro _ rfl _ rfl _ rfl _ rfl
     rw [Dy.fmt_sh hf]
     refine cond_f rfl ⟨Dy.sh_shape hf,cond_i (fun h=> ?_) (fun h=> ?_)⟩
     ·subst h
      rw [or_sign hf (by have:=(Dy.wInf_lt hf).1;omega)]
     ·subst h
      unfold Dy.signW
      rw [if_neg (by decide),Nat.zero_add]
    ·split at h
     ·rename_i c
      subst c
      cases h
      obtain ⟨⟨hf,hn⟩, -⟩:=hp
      subst hn
      refine contract0 false ok_tabA2 Tryz.func128 (by kernel_rfl) (by kernel_rfl) fun hok=> ?_
      rw [vc_word_namedN,Dy.errF_of hf]
      rintro _ rfl _ rfl _ rfl _ rfl
      rw [Dy.fmt_sh hf]
      exact cond_f rfl ⟨Dy.sh_shape hf,cond_f rfl rfl⟩
     ·cases h
 ·cases h
theorem ok_word_turned (args:List AV) (s:Spec) (h:wTurned args=some s) (hp:andO s.pre True):Contract Tryz.prog Inv 137 args s.res:=by
 unfold wTurned at h
 split at h
 ·rename_i f w F w'
  split at h
  ·rename_i c
   subst c
   cases h
   obtain ⟨⟨p,rfl⟩, -⟩:=hp
   refine contract0 false ok_tabA2 Tryz.func137 (by kernel_rfl) (by kernel_rfl) fun hok=> ?_
   rw [vc_word_turned]
   obtain ⟨hf,hw⟩:=Dy.errW_zero p
   rintro _ rfl _ rfl _ rfl _ rfl
   rw [p,Dy.fmt_sh hf]
   unfold Dy.negW
   refine cond_f rfl ⟨⟨Dy.sh_shape hf,hw⟩,cond_i (fun h=>⟨Dy.sh_shape hf,?_⟩) (fun h=>⟨⟨Dy.sh_shape hf,hw⟩,?_⟩)⟩
   ·rw [if_pos (of_decide_eq_true h)]
   ·rw [if_neg (of_decide_eq_false h)]
  ·cases h
 ·cases h
theorem ok_tabA3:PhiOk Tryz.prog Inv (look tabA3):=look_cons (look_cons (look_cons (look_cons (look_cons (look_cons ok_tabA2 ok_word_turned) ok_word_named) ok_word_finite) ok_word_Class) ok_word_Split) ok_word_Good
theorem ok_word_Value (args:List AV) (s:Spec) (h:wValue args=some s) (hp:andO s.pre True):Contract Tryz.prog Inv 64 args s.res:=by
 unfold wValue at h
 split at h
 ·cases h
  rename_i f w
  obtain ⟨p, -⟩:=hp
  refine contract0 false ok_tabA3 Tryz.func64 (by kernel_rfl) (by kernel_rfl) fun hok=> ?_
  rw [vc_word_Value]
  obtain ⟨hf,hw⟩:=Dy.errW_zero p
  refine ⟨p,?_⟩
  rintro _ rfl _ rfl _ rfl _ rfl
  have q:=Dy.wVal_parts hf w.toNat
  have hfr:(2:Nat)^Dy.wFrac f≤2^52:=Nat.pow_le_pow_right (by decide) (by rcases Dy.fmt_facts hf with c|c<;>omega)
  have hlow: -1074≤Dy.wLow f∧Dy.wLow f≤0:=by rcases Dy.fmt_facts hf with c|c<;>omega
  by_cases c:4≤Dy.wClass f w.toNat
  ·rw [if_pos c,if_pos c]
   exact cond_t rfl rfl
  ·rw [if_neg c,if_neg c,Dy.fmt_sh hf,Dy.shF_of hf]
   refine cond_f rfl ⟨by rw [←Dy.shF_of hf];exact ⟨Dy.sh_shape hf,hw⟩,?_⟩
   rintro _ rfl _ rfl _ rfl
   refine cond_i (fun h=> ?_) (fun h=> ?_)
   ·have h:=of_decide_eq_true h
    refine ⟨by omega,by rw [←Dy.shF_of hf];exact Dy.sh_shape hf,?_⟩
    rw [pw hf,Dy.or_bit (by have:=Dy.wFrac_lt hf;have:=Dy.wBit_lt hf;omega) q.1,wrap_nat (by omega),Int.toNat_natCast,
     wrap_i64 (n:=(if (1:Int)>((Dy.wExp f w.toNat:Nat):Int) then (1:Int) else ((Dy.wExp f w.toNat:Nat):Int))-1) (by split<;>omega) (by split<;>omega),wrap_i64 (by split<;>omega) (by split<;>omega),
     makeD_small (by omega) _ ⟨by split<;>omega,by split<;>omega⟩]
    have e:Dy.form (Dy.wNeg f w.toNat) (Dy.wFr f w.toNat+2^Dy.wFrac f) ((if (1:Int)>((Dy.wExp f w.toNat:Nat):Int) then (1:Int) else ((Dy.wExp f w.toNat:Nat):Int))-1+Dy.wLow f)=Dy.wVal f w.toNat:=by
     unfold Dy.wVal
     rw [if_neg (show¬Dy.wExp f w.toNat=0 by omega),if_neg (show¬Dy.wExp f w.toNat=0 by omega),if_neg (show¬(1:Int)>((Dy.wExp f w.toNat:Nat):Int) by omega)]
    rw [e]
    refine dpeel fun b l k d=> ?_
    rintro _ rfl
    rw [avD_of d]
   ·have h:=of_decide_eq_false h
    refine ⟨by rw [←Dy.shF_of hf];exact Dy.sh_shape hf,?_⟩
    rw [Int.toNat_natCast,
     wrap_i64 (n:=(if (1:Int)>((Dy.wExp f w.toNat:Nat):Int) then (1:Int) else ((Dy.wExp f w.toNat:Nat):Int))-1) (by split<;>omega) (by split<;>omega),wrap_i64 (by split<;>omega) (by split<;>omega),
     makeD_small (by omega) _ ⟨by split<;>omega,by split<;>omega⟩]
    have e:Dy.form (Dy.wNeg f w.toNat) (Dy.wFr f w.toNat) ((if (1:Int)>((Dy.wExp f w.toNat:Nat):Int) then (1:Int) else ((Dy.wExp f w.toNat:Nat):Int))-1+Dy.wLow f)=Dy.wVal f w.toNat:=by
     unfold Dy.wVal
     rw [if_pos (show Dy.wExp f w.toNat=0 by omega),if_pos (show Dy.wExp f w.toNat=0 by omega),if_pos (show (1:Int)>((Dy.wExp f w.toNat:Nat):Int) by omega)]
     rfl
    rw [e]
    refine dpeel fun b l k d=> ?_
    rintro _ rfl
    rw [avD_of d]
 ·cases h
theorem ok_word_Zero (args:List AV) (s:Spec) (h:wZero args=some s) (hp:andO s.pre True):Contract Tryz.prog Inv 68 args s.res:=by
 unfold wZero at h
 split at h
 ·cases h
  obtain ⟨p, -⟩:=hp
  refine contract0 false ok_tabA3 Tryz.func68 (by kernel_rfl) (by kernel_rfl) fun hok=> ?_
  rw [vc_word_Zero]
  refine ⟨p,?_⟩
  rintro _ rfl _ rfl
  rfl
 ·cases h
theorem ok_word_Inf (args:List AV) (s:Spec) (h:wInfF args=some s) (hp:andO s.pre True):Contract Tryz.prog Inv 66 args s.res:=by
 unfold wInfF at h
 split at h
 ·cases h
  obtain ⟨p, -⟩:=hp
  refine contract0 false ok_tabA3 Tryz.func66 (by kernel_rfl) (by kernel_rfl) fun hok=> ?_
  rw [vc_word_Inf]
  refine ⟨p,?_⟩
  rintro _ rfl _ rfl
  rfl
 ·cases h
theorem ok_word_Greatest (args:List AV) (s:Spec) (h:wGreatest args=some s) (hp:andO s.pre True):Contract Tryz.prog Inv 119 args s.res:=by
 unfold wGreatest at h
 split at h
 ·cases h
  obtain ⟨p, -⟩:=hp
  refine contract0 false ok_tabA3 Tryz.func119 (by kernel_rfl) (by kernel_rfl) fun hok=> ?_
  rw [vc_word_Greatest]
  refine ⟨p,?_⟩
  rintro _ rfl _ rfl
  rfl
 ·cases h
theorem ok_word_None (args:List AV) (s:Spec) (h:wNone args=some s) (hp:andO s.pre True):Contract Tryz.prog Inv 67 args s.res:=by
 unfold wNone at h
 split at h
 ·cases h
  obtain ⟨p, -⟩:=hp
  refine contract0 false ok_tabA3 Tryz.func67 (by kernel_rfl) (by kernel_rfl) fun hok=> ?_
  rw [vc_word_None]
  refine ⟨⟨p,rfl⟩,?_⟩
  rintro _ rfl _ rfl
  rfl
 ·cases h
theorem ok_word_Neg (args:List AV) (s:Spec) (h:wNegF args=some s) (hp:andO s.pre True):Contract Tryz.prog Inv 72 args s.res:=by
 unfold wNegF at h
 split at h
 ·cases h
  obtain ⟨p, -⟩:=hp
  refine contract0 false ok_tabA3 Tryz.func72 (by kernel_rfl) (by kernel_rfl) fun hok=> ?_
  rw [vc_word_Neg]
  refine ⟨⟨p,rfl⟩,?_⟩
  rintro _ rfl _ rfl
  rfl
 ·cases h
end Go.AI

namespace Go.AI
open Go Go.RowKit Go.Proofs
set_option linter.unusedVariables false
set_option maxRecDepth 100000
set_option maxHeartbeats 1000000
theorem ok_word_Of (args:List AV) (s:Spec) (h:wOf args=some s) (hp:andO s.pre True):Contract Tryz.prog Inv 176 args s.res:=by
 unfold wOf at h
 split at h
 ·cases h
  rename_i f s m e
  obtain ⟨⟨hf,hm,hb,hx⟩, -⟩:=hp
  refine contract0 false ok_tabA3 Tryz.func176 (by kernel_rfl) (by kernel_rfl) fun hok=> ?_
  rw [vc_word_Of,Dy.errF_of hf,hm]
  rintro _ rfl _ rfl _ rfl _ rfl
  refine cond_f rfl (cond_f rfl ?_)
  have hmay:=(Dy.mayD_iff.1 hm).1
  have hF:Dy.wFrac f≤52:=by rcases Dy.fmt_facts hf with c|c<;>omega
  have hlen:m.length≤2:=by
   rw [←Dy.may_dg hmay]
   exact Dy.length_dg_bl.2 (by omega)
  have e1:(Dy.may m&&decide (m.length≤2))=true:=by rw [hmay,decide_eq_true hlen];rfl
  rw [e1,if_pos rfl]
  rintro _ rfl _ rfl
  refine cond_f rfl ?_
  rw [Int.toNat_natCast,Dy.shF_of hf]
  have w1:IntKind.i64.wrap (((Dy.wFrac f:Nat):Int)+1)=((Dy.wFrac f:Nat):Int)+1:=wrap_i64 (by omega) (by omega)
  rw [w1]
  refine cond_f (decide_eq_false (by omega)) ?_
  by_cases h0:m=[]
  ·subst h0
   exact cond_f rfl (cond_t rfl rfl)
  ·have hv:Dy.val m≠0:=fun c=>h0 ((Dy.may_nil hmay).1 c)
   obtain ⟨hx1,hx2⟩:=hx h0
   have hs:=Dy.sh_shape hf
   rw [Dy.shF_of hf] at hs
   obtain ⟨k1,k2,k3,k4,k5,k6,k7⟩:=Dy.sizeW_lt hf (d:=⟨s,m,e⟩) hb h0 hx1 hx2
   have etop:Dy.topD ⟨s,m,e⟩=e+Dy.bl (Dy.val m):=by unfold Dy.topD;rw [if_neg h0]
   have hwl: -1074≤Dy.wLow f∧Dy.wLow f≤0∧Dy.wWide f≤1024:=by rcases Dy.fmt_facts hf with c|c<;>omega
   have hfm:Dy.fmtOf ((Dy.wFrac f:Nat):Int)=f:=by rw [←Dy.shF_of hf];exact Dy.fmt_sh hf
   have hpb:=Dy.pow_bit hf
   have n0:decide (((Dy.val m:Nat):Int)=0)=false:=decide_eq_false (by omega)
   have ht:Dy.topD ⟨s,m,e⟩≤1024:=by omega
   rw [hfm,n0]
   have w2:IntKind.i64.wrap (e+((Dy.bl (Dy.val m):Nat):Int))=Dy.topD ⟨s,m,e⟩:=by rw [etop];exact wrap_i64 (by omega) (by omega)
   rw [w2]
   have w3:IntKind.i64.wrap (IntKind.i64.wrap (Dy.topD ⟨s,m,e⟩-((Dy.wFrac f:Nat):Int))-1)=Dy.topD ⟨s,m,e⟩-Dy.wFrac f-1:=by
    rw [wrap_i64 (n:=Dy.topD ⟨s,m,e⟩-((Dy.wFrac f:Nat):Int)) (by omega) (by omega),wrap_i64 (by omega) (by omega)]
   rw [w3]
   have w4:(if Dy.wLow f>Dy.topD ⟨s,m,e⟩-Dy.wFrac f-1 then Dy.wLow f else Dy.topD ⟨s,m,e⟩-Dy.wFrac f-1)=max (Dy.topD ⟨s,m,e⟩-Dy.wFrac f-1) (Dy.wLow f):=by split<;>omega
   rw [w4]
   have w5:IntKind.i64.wrap (IntKind.i64.wrap (((Dy.shM f:Nat):Int).tdiv 2)+1)=Dy.wWide f:=by rcases hf with rfl|rfl<;>decide
   rw [w5]
   have hsz:Dy.sizeW f ⟨s,m,e⟩=(max (Dy.topD ⟨s,m,e⟩-Dy.wFrac f-1) (Dy.wLow f)-Dy.wLow f).toNat*2^Dy.wFrac f+Dy.val m*2^(e-max (Dy.topD ⟨s,m,e⟩-Dy.wFrac f-1) (Dy.wLow f)).toNat:=rfl
   simp only at k2 k5 k7
   generalize max (Dy.topD ⟨s,m,e⟩-Dy.wFrac f-1) (Dy.wLow f)=E at*
   have w6:IntKind.i64.wrap (e-E)=e-E:=wrap_i64 (by omega) (by omega)
   have w7:IntKind.i64.wrap (E-Dy.wLow f)=E-Dy.wLow f:=wrap_i64 (by omega) (by omega)
   rw [w6,w7]
   have w8:IntKind.u64.wrap (IntKind.u64.wrap (E-Dy.wLow f)*2^min ((Dy.wFrac f:Nat):Int).toNat 64)=(((E-Dy.wLow f).toNat*2^Dy.wFrac f:Nat):Int):=by
    rw [show E-Dy.wLow f=(((E-Dy.wLow f).toNat:Nat):Int) by omega,wrap_nat (by omega),Int.toNat_natCast,Int.toNat_natCast,Nat.min_eq_left (by omega),
     show (((E-Dy.wLow f).toNat:Nat):Int)*2^Dy.wFrac f=(((E-Dy.wLow f).toNat*2^Dy.wFrac f:Nat):Int) by rw [Int.natCast_mul,Int.natCast_pow];rfl,wrap_nat (by omega)]
   have w9:IntKind.u64.wrap (((Dy.val m:Nat):Int)*2^min (e-E).toNat 64)=((Dy.val m*2^(e-E).toNat:Nat):Int):=by
    rw [Nat.min_eq_left (by omega),show ((Dy.val m:Nat):Int)*2^(e-E).toNat=((Dy.val m*2^(e-E).toNat:Nat):Int) by rw [Int.natCast_mul,Int.natCast_pow];rfl,wrap_nat (by omega)]
   rw [w8,w9,←Int.natCast_add,←hsz,wrap_nat (by omega)]
   refine cond_t rfl ⟨hs,cond_f (decide_eq_false (by omega)) (cond_f (decide_eq_false (by omega)) (cond_f rfl ⟨hs,by omega,hs,by omega,⟨hs,rfl,by rw [Dy.shS_of hf];omega⟩,?_⟩))⟩
   rw [if_neg h0]
   unfold Dy.signW
   cases s
   ·rw [if_neg (by decide),if_neg (by decide),Nat.zero_add]
   ·rw [if_pos rfl,if_pos rfl,Dy.shS_of hf,←Int.natCast_add,Nat.add_comm]
 ·cases h
theorem ok_tabA4:PhiOk Tryz.prog Inv (look tabA4):=look_cons (look_cons (look_cons (look_cons (look_cons (look_cons (look_cons ok_tabA3 ok_word_Of) ok_word_Neg) ok_word_None) ok_word_Greatest) ok_word_Inf) ok_word_Zero) ok_word_Value
end Go.AI
