/- My texts AIspanv, AIspan1, AVarc, AIarc, AIpi0, AIpi1, AIpi3, AIpi2, AIpi4, AIarc2, AIspan2, AIlen64, AIlen64b, AIspecS, AIpiq, AIquav, AIpi5, AIquart, in one. -/
import Derived.Test.YtogikmlfkhofoaaGreatDoorK12
import Derived.RowKit2
open Int renaming add_mul→BG,le_refl→u9,lt_or_le→Z3,mul_comm→v9,natCast_pow→MC,neg_mul→AH,one_mul→MO
open Go.Lib renaming bitLen→D6,bitLen_le8'→o7,len8_of→ES
open List renaming foldl_cons→DM
open Nat renaming div_div_eq_div_mul→K7,div_le_self→L1,le_div_iff_mul_le→K8,le_of_lt→HX,le_refl→I6,le_trans→D9,mul_le_mul_left→F2,mul_ne_zero→X0,mul_pos→U9,pos_iff_ne_zero→R6,pow_add→B8,pow_le_pow_right→B3,two_pow_pos→A9
namespace Go.Dy
def CA (z D:Int) (high:Bool):Int:=if high then -((-z)/D) else z/D
theorem B5o {z D:Int} (hD:0<D):CA z D false*D≤z∧z<CA z D false*D+D:=by
 have h1:=Int.mul_ediv_add_emod z D
 have h2:=Int.emod_nonneg z (Int.ne_of_gt hD)
 have h3:=Int.emod_lt_of_pos z hD
 have e:CA z D false=z/D:=rfl
 rw [e]
 rw [v9] at h1
 omega
theorem A6q {z D:Int} (hD:0<D):z≤CA z D true*D∧CA z D true*D<z+D:=by
 have h1:=Int.mul_ediv_add_emod (-z) D
 have h2:=Int.emod_nonneg (-z) (Int.ne_of_gt hD)
 have h3:=Int.emod_lt_of_pos (-z) hD
 have e:CA z D true= -((-z)/D):=rfl
 rw [e,AH]
 rw [v9] at h1
 omega
theorem D0e (z:Int) (high:Bool):CA z 1 high=z:=by
 unfold CA
 cases high<;>simp
theorem A6r (D:Int) (high:Bool):CA 0 D high=0:=by
 unfold CA
 cases high<;>simp
theorem UE (s:Bool) (M:Nat) {D:Nat} (hD:0<D) (high:Bool):
  CA (sgn s M) (D:Int) high=if (decide (M%D≠0)&&(s !=high))=true then sgn s (M/D)+(if high then 1 else -1) else sgn s (M/D):=by
 have h1:=Nat.div_add_mod M D
 have h2:=Nat.mod_lt M hD
 generalize hq:M/D=q at*
 generalize hr:M%D=r at*
 have hDi:(0:Int)<D:=by omega
 have key:∀{x y:Int},y*D≤x→x<(y+1)*D→x/D=y:=fun {x y} k1 k2=>YV hDi k1 k2
 have hM:(M:Int)=D*q+r:=by rw [←h1];simp
 have hneg:¬r=0→ -(M:Int)/D= -(q:Int)-1:=fun hr0=>key (by rw [hM,Int.sub_mul,AH,v9 (q:Int)];omega) (by rw [hM,show -(q:Int)-1+1= -(q:Int) by omega,AH,v9 (q:Int)];omega)
 have hneg0:r=0→ -(M:Int)/D= -(q:Int):=fun hr0=>key (by rw [hM,AH,v9 (q:Int)];omega) (by rw [hM,BG,AH,v9 (q:Int)];omega)
 have hpos:(M:Int)/D=q:=key (by rw [hM,v9 (q:Int)];omega) (by rw [hM,BG,v9 (q:Int)];omega)
 unfold CA sgn
 by_cases c:r=0
 ·rw [decide_eq_false (by simpa using c)]
  cases s<;>cases high<;>simp [hpos,hneg0 c]
 ·rw [decide_eq_true c]
  cases s<;>cases high<;>simp [hpos,hneg c]<;>omega
theorem B0q (u v:Int) (h:v≤u):at_ (K0 u) v=2^(u-v).toNat:=by
 unfold K0
 rw [j6]
 simp [sgn,val]
theorem s0 {z e v:Int} (h1:v≤e) (h2:v≤0):v≤(C8 z e).exp:=GR h1 h2
theorem SP {z e:Int} (h:z≠0):e≤(C8 z e).exp:=KT (by omega)
theorem MZ {z u:Int} (h:z≠0) (high:Bool):(if high=true then C2 (C8 z u) (K0 u) else GF (C8 z u) (K0 u))=C8 (z+(if high then 1 else -1)) u:=by
 have h1:at_ (K0 u) u=1:=by rw [B0q u u (u9 _),Int.sub_self];rfl
 cases high
 ·simp only [Bool.false_eq_true,if_false]
  unfold GF
  rw [x5 (u:=u) (SP h) (by show u≤u;omega),q9,FX,h1]
 ·simp only [if_true]
  rw [x5 (SP h) (by show u≤u;omega),q9,h1]
theorem RA (z e n:Int) (hn:1≤n):F6 (C8 z e) n=(form (decide (z<0)) (z.natAbs/2^((bl z.natAbs:Int)-n).toNat) (e+(((bl z.natAbs:Int)-n).toNat:Int)),decide (z.natAbs%2^((bl z.natAbs:Int)-n).toNat≠0)):=r8 _ _ _ _ hn
theorem WN {z e:Int} (h:z≠0):C7 (C8 z e)=e+bl z.natAbs:=O6 (by omega)
theorem W2 (s:Bool) (n:Nat) (e:Int):form s n e=C8 (sgn s n) e:=(S1 s n e).symm
theorem RB (z e n:Int) (hn:1≤n) (high:Bool):O7 (C8 z e) n high=C8 (CA z (2^((bl z.natAbs:Int)-n).toNat) high) (e+(((bl z.natAbs:Int)-n).toNat:Int)):=by
 unfold O7
 rw [RA z e n hn]
 obtain ⟨t,ht⟩:∃t:Nat,((bl z.natAbs:Int)-n).toNat=t:=⟨_,rfl⟩
 rw [ht]
 by_cases h0:z=0
 ·subst h0
  have:(0:Int).natAbs=0:=rfl
  rw [this,Nat.zero_div,Nat.zero_mod,A6r,RD,Y2]
  rfl
 have hz:=LN z
 have hp:(0:Nat)<2^t:=A9 t
 have hr:=UE (decide (z<0)) z.natAbs hp high
 rw [←hz,MC] at hr
 have hr:CA z (2^t) high=_:=hr
 rw [hr]
 have hM:z.natAbs≠0:=by omega
 have hneg:(C8 z e).neg=decide (z<0):=by unfold C8;rw [H6 hM]
 unfold CL
 simp only
 rw [hneg]
 by_cases c:(decide (z.natAbs%2^t≠0)&&(decide (z<0) !=high))=true
 ·rw [if_pos c,if_pos c]
  have c1:=A1 (Bool.and_eq_true _ _ ▸ c:_∧_).1
  have ht0:t≠0:=fun e=>by rw [e,Nat.pow_zero,Nat.mod_one] at c1;exact c1 rfl
  have hu:C7 (C8 z e)-n=e+(t:Int):=by rw [WN h0];omega
  have hbq:=C5 z.natAbs t
  have hq:z.natAbs/2^t≠0:=fun e=>by rw [e,K2] at hbq;omega
  rw [hu,W2,MZ]
  unfold sgn
  split<;>omega
 ·rw [if_neg c,if_neg c,W2]
theorem A1u {s:Bool} {m:List Nat} {e:Int} {m':List Nat} {e' n:Int} (ha:A5 ⟨s,m,e⟩=true) (hb:A5 ⟨false,m',e'⟩=true) (h0:m'≠[]) (hn:1≤n):
  ∃S t:Nat,(val m≠0→2^(n.toNat-1)*(val m'*2^t)≤val m*2^S)∧(S:Int)≤n+1+bl (val m')∧t≤bl (val m*2^S)∧bl (val m*2^S/(val m'*2^t))≤n.toNat∧
   ∀high,V5 ⟨s,m,e⟩ ⟨false,m',e'⟩ n high=C8 (CA (sgn s (val m*2^S)) ((val m'*2^t:Nat):Int) high) (e-e'-S+t):=by
 have hN:=Q1 (C1 hb) h0
 obtain ⟨S,hS⟩:∃S:Nat,LJ (val m) (val m') n=S:=⟨_,rfl⟩
 obtain ⟨t,ht⟩:∃t:Nat,((bl (val m*2^S/val m'):Int)-n).toNat=t:=⟨_,rfl⟩
 have hSv:LJ (val m) (val m') n=(n+1+(bl (val m'):Int)-(bl (val m):Int)).toNat:=rfl
 have hNp:0<val m':=by omega
 have hp:=A9 t
 have hbq:=K1 (L1 (val m*2^S) (val m'))
 refine ⟨S,t,fun hM=> ?_,by omega,by omega,?_,fun high=> ?_⟩
 ·-- enough bits
  have hX0:val m*2^S≠0:=X0 hM (R6.1 (A9 S))
  have hbX:bl (val m*2^S)=bl (val m)+S:=E7 hM S
  have hQ2:2^n.toNat≤val m*2^S/val m':=by
   rw [K8 hNp]
   have h1:=P9 (val m')
   have h2:=W6 hX0
   have h3:2^n.toNat*val m'≤2^n.toNat*2^bl (val m'):=F2 _ (HX h1)
   rw [←B8] at h3
   have h4:2^(n.toNat+bl (val m'))≤2^(bl (val m*2^S)-1):=B3 (by decide) (by omega)
   omega
  have hlb:=a9.2 hQ2
  have hQ0:val m*2^S/val m'≠0:=fun e=>by rw [e,K2] at hlb;omega
  have h5:=W6 hQ0
  have h6:2^(n.toNat-1)*2^t≤val m*2^S/val m':=by
   rw [←B8]
   exact D9 (B3 (by decide) (by omega)) h5
  have h7:=(K8 hNp).1 h6
  rwa [Nat.mul_assoc,Nat.mul_comm (2^t)] at h7
 ·rw [←K7,C5]
  omega
 ·unfold V5 GC
  simp only
  by_cases hm:m=[]
  ·subst hm
   rw [if_pos rfl]
   have:sgn s (val ([]:List Nat)*2^S)=0:=by rw [show val ([]:List Nat)=0 from rfl,Nat.zero_mul,KA]
   rw [this,A6r,RD]
   rfl
  rw [if_neg hm,hS,r8 _ _ _ _ hn,ht]
  simp only
  have hM:=Q1 (C1 ha) hm
  have hs:(s !=false)=s:=by cases s<;>rfl
  rw [hs]
  have hX0:val m*2^S≠0:=X0 hM (R6.1 (A9 S))
  have hbX:bl (val m*2^S)=bl (val m)+S:=E7 hM S
  have hQ2:2^n.toNat≤val m*2^S/val m':=by
   rw [K8 hNp]
   have h1:=P9 (val m')
   have h2:=W6 hX0
   have h3:2^n.toNat*val m'≤2^n.toNat*2^bl (val m'):=F2 _ (HX h1)
   rw [←B8] at h3
   have h4:2^(n.toNat+bl (val m'))≤2^(bl (val m*2^S)-1):=B3 (by decide) (by omega)
   omega
  have hlb:=a9.2 hQ2
  have hbW:=C5 (val m*2^S/val m') t
  have hW0:val m*2^S/val m'/2^t≠0:=fun e=>by rw [e,K2] at hbW;omega
  have hdiv:val m*2^S/val m'/2^t=val m*2^S/(val m'*2^t):=K7 _ _ _
  have hlost:(decide (val m*2^S/val m'%2^t≠0)||decide (val m*2^S%val m'≠0))=decide (val m*2^S%(val m'*2^t)≠0):=by
   rw [Nat.mod_mul,Bool.eq_iff_iff]
   simp only [Bool.or_eq_true,decide_eq_true_eq,ne_eq,Nat.add_eq_zero_iff,Nat.mul_eq_zero]
   constructor
   ·rintro (h|h) ⟨h1,h2|h2⟩
    ·omega
    ·exact h h2
    ·exact h h1
    ·exact h h1
   ·intro h
    by_cases c:val m*2^S%val m'=0
    ·exact .inl fun h2=>h ⟨c,.inr h2⟩
    ·exact .inr c
  rw [hlost]
  have hr:=UE s (val m*2^S) (U9 hNp hp) high
  rw [hr]
  have hneg:(form s (val m*2^S/val m'/2^t) (e-e' - ↑S+↑t)).neg=s:=by rw [H6 hW0]
  unfold CL
  rw [hneg]
  by_cases c:(decide (val m*2^S%(val m'*2^t)≠0)&&(s !=high))=true
  ·rw [if_pos c,if_pos c,O6 hW0,hbW,show e-e'-(S:Int)+(t:Int)+((bl (val m*2^S/val m')-t:Nat):Int)-n=e-e'-S+t by omega,W2,MZ,hdiv]
   unfold sgn
   split<;>omega
  ·rw [if_neg c,if_neg c,W2,hdiv]
theorem B5n (z:Int) {D:Nat} (hD:0<D) (high:Bool):(CA z D high).natAbs≤z.natAbs/D+1:=by
 have h:=UE (decide (z<0)) z.natAbs hD high
 rw [←LN] at h
 rw [h]
 generalize z.natAbs/D=q
 unfold sgn
 split<;>split<;>(try split)<;>omega
theorem A68 {z e:Int} {L E:Nat} (hb:bl z.natAbs≤L) (h1: -(E:Int)≤e) (h2:e+(L:Int)≤E) (hL:L≤131072) (hE:E≤16777216):Fit (C8 z e) L E:=(R9 hb h1 (by omega) hL hE).1
theorem LM {d:Dyd} (h:A5 d=true):d=C8 d.int d.exp:=by
 obtain ⟨s,m,e⟩:=d
 exact (RC h).symm
theorem A08 (d:Dyd):bl d.int.natAbs=bl (val d.mag):=by rw [Dyd.int_eq,HA]
theorem A7w {d:Dyd} {L E:Nat} (h:Fit d L E) {n:Int} (hn:1≤n∧n≤8192) (hE:E+L+8194≤16777216) (high:Bool):Fit (O7 d n high) (n.toNat+1) (E+L+8194):=by
 have hb:=h.bits
 have h1:=h.lo
 have h2:=h.hi
 rw [LM h.may,RB _ _ _ hn.1,A08]
 obtain ⟨t,ht⟩:∃t:Nat,((bl (val d.mag):Int)-n).toNat=t:=⟨_,rfl⟩
 rw [ht]
 have hp:=A9 t
 have ha:=B5n d.int hp high
 rw [MC] at ha
 have hq:bl (d.int.natAbs/2^t)≤n.toNat:=by rw [C5,A08];omega
 have hr:bl (CA d.int (2^t) high).natAbs≤n.toNat+1:=D9 (K1 ha) (KN hq)
 exact A68 hr (by omega) (by omega) (by omega) hE
theorem B07 {a b:Dyd} {L E:Nat} (ha:Fit a L E) (hb:Fit b L E) (hs:b.neg=false) (h0:b.mag≠[]) {n:Int} (hn:1≤n∧n≤8192) (hE:2*E+3*L+20000≤16777216) (high:Bool):Fit (V5 a b n high) (n.toNat+1) (2*E+3*L+20000):=by
 obtain ⟨s,m,e⟩:=a
 obtain ⟨s',m',e'⟩:=b
 simp only at hs h0
 subst hs
 obtain ⟨S,t, -,k2,k3,k4,k5⟩:=A1u ha.may hb.may h0 hn.1
 have a0:=ha.bits
 have a1:=ha.lo
 have a2:=ha.hi
 have b0:=hb.bits
 have b1:=hb.lo
 have b2:=hb.hi
 simp only at a0 a1 a2 b0 b1 b2
 have hN:=Q1 (C1 hb.may) h0
 have hD:0<val m'*2^t:=U9 (by omega) (A9 t)
 rw [k5]
 have hab:=B5n (sgn s (val m*2^S)) hD high
 rw [HA] at hab
 have hr:=D9 (K1 hab) (KN k4)
 have k6:t≤bl (val m)+S:=D9 k3 (Y0 (I6 _))
 exact A68 hr (by omega) (by omega) (by omega) hE
theorem A1w {a b:Dyd} {L E:Nat} (ha:Fit a L E) (hb:Fit b L E) {n:Int} (hn:1≤n∧n≤8192) (hE:2*E+3*L+30000≤16777216):Fit (GC a b n).1 n.toNat (2*E+3*L+30000):=by
 have a0:=ha.bits
 have a1:=ha.lo
 have a2:=ha.hi
 have b0:=hb.bits
 have b1:=hb.lo
 have b2:=hb.hi
 unfold GC
 by_cases h:a.mag=[]
 ·rw [if_pos h]
  exact ⟨A6h,by show bl 0≤_;rw [K2];omega,by show _≤(0:Int);omega,by show (0:Int)≤_;omega⟩
 ·rw [if_neg h]
  simp only
  rw [r8 _ _ _ _ hn.1]
  simp only
  have hS:LJ (val a.mag) (val b.mag) n=(n+1+(bl (val b.mag):Int)-(bl (val a.mag):Int)).toNat:=rfl
  have hQ:=D9 (K1 (L1 (val a.mag*2^LJ (val a.mag) (val b.mag) n) (val b.mag))) (Y0 (I6 _))
  generalize LJ (val a.mag) (val b.mag) n=S at*
  generalize val a.mag*2^S/val b.mag=Q at*
  have hW:=C5 Q ((bl Q:Int)-n).toNat
  exact (U4 (by omega) (by omega) (by omega) (by omega) hE).1
theorem C4x {d:Dyd} {L E:Nat} (h:Fit d L E): -(E:Int)≤C7 d∧C7 d≤E+L:=by
 have h1:=h.bits
 have h2:=h.lo
 have h3:=h.hi
 unfold C7
 split<;>omega
theorem C9z {a b:Dyd} {L E:Nat} (ha:Fit a L E) (hb:Fit b L E) (h0:b.mag≠[]) {n:Int} (hn:1≤n∧n≤8192) (hE:2*E+3*L+30000≤16777216):A4n a b n=⟨(GC a b n).1,(GC a b n).2,0⟩:=by
 have hf:=A1w ha hb hn hE
 have h1:=hf.lo
 have h2:=hf.hi
 rw [D3e ha.may hb.may h0 hn.1 hn.2,if_pos (N5.2 (by omega))]
theorem KC {u:Int} (h: -16777216≤u∧u≤16777216):A5 (K0 u)=true:=by
 unfold K0
 rw [S2]
 refine ⟨rfl,.inr ⟨by decide,by decide,N5.2 h⟩⟩
theorem FY {d:Dyd} (h:mid d) {n:Int} (hn:1≤n):A5 (F6 d n).1=true:=by
 obtain ⟨h0,h1,h2⟩:=h
 have hb:=O8 (C1 (s:=d.neg) (m:=d.mag) (e:=d.exp) h0)
 rw [LM h0,RA _ _ _ hn,A08]
 simp only
 have hq:bl (d.int.natAbs/2^((bl (val d.mag):Int)-n).toNat)≤131072:=by rw [C5,A08];omega
 exact (U4 (L:=131072) (E:=2000000) hq (by omega) (by omega) (by decide) (by decide)).1.may
theorem A7r {d:Dyd} (h:mid d) {n:Int} (hn:1≤n∧n≤8192):QZ d n=⟨(F6 d n).1,(F6 d n).2,0⟩:=by
 have hm:=FY h hn.1
 unfold QZ
 rw [if_pos h.1,if_pos (show NC n=0 by unfold NC;rw [if_neg (by omega),if_neg (by omega)])]
 unfold A01
 unfold F6 at hm ⊢
 by_cases c:HF d n≤0
 ·rw [if_pos c,if_pos c]
 ·rw [if_neg c] at hm
  rw [if_neg c,if_neg c,AM hm]
  rfl
theorem GA {d:Dyd} (h:mid d):Fit d 131072 1000000:=⟨h.1,O8 (C1 (s:=d.neg) (m:=d.mag) (e:=d.exp) h.1),h.2.1,h.2.2⟩
theorem J9 {d:Dyd} {L E:Nat} (h:Fit d L E) (hE:E≤1000000):mid d:=⟨h.may,by have:=h.lo;omega,by have:=h.hi;omega⟩
theorem B0o {d:Dyd} (h:mid d): -1000000≤C7 d∧C7 d≤1131072:=by
 have hf:=GA h
 have h1:=hf.bits
 have h2:=hf.lo
 have h3:=hf.hi
 unfold C7
 split<;>omega
end Go.Dy

namespace Go.AI
open Go Go.RowKit Go.Proofs
set_option linter.unusedVariables false
set_option maxRecDepth 100000
set_option maxHeartbeats 1000000
theorem B4 {x:Dy.Dyd} {P:Bool→List Nat→Int→Prop} (h:∀b l n,Dy.Dyd.mk b l n=x→P b l n):dyF x P:=by
 rintro _ rfl _ rfl _ rfl
 exact h _ _ _ rfl
theorem V4 {p:List Nat} {b:Bool} {l:List Nat} {n:Int} {d:Dy.Dyd} (h:Dy.Dyd.mk b l n=d):AV.agg [.bool b,.dig p l,.num .i64 n]=avD p d:=by subst h;rfl
theorem S9 {p:List Nat} {b b':Bool} {l l':List Nat} {n n':Int} {d d':Dy.Dyd} (h:Dy.Dyd.mk b l n=d) (h':Dy.Dyd.mk b' l' n'=d'):AV.agg [.bool b,.dig p l,.num .i64 n,.bool b',.dig p l',.num .i64 n']=avS p d d':=by subst h h';rfl
theorem D6h {a b:Dy.Dyd} (h1:Dy.A5 a=true) (h2:Dy.A5 b=true) (h3:Dy.A5 (Dy.C2 a b)=true):Dy.O4 (Dy.A5 a&&Dy.A5 b) (Dy.C2 a b)=(Dy.C2 a b,0):=by
 unfold Dy.O4
 rw [h1,h2,Dy.AM h3]
 rfl
theorem D6i {a b:Dy.Dyd} (h1:Dy.A5 a=true) (h2:Dy.A5 b=true) (h3:Dy.A5 (Dy.E6 a b)=true):Dy.O4 (Dy.A5 a&&Dy.A5 b) (Dy.E6 a b)=(Dy.E6 a b,0):=by
 unfold Dy.O4
 rw [h1,h2,Dy.AM h3]
 rfl
theorem D6e {a b:Dy.Dyd} (h1:Dy.A5 a=true) (h2:Dy.A5 b=true) (h3:Dy.A5 (Dy.GF a b)=true):Dy.O4 (Dy.A5 a&&Dy.A5 b) (Dy.C2 a (Dy.G9 b))=(Dy.GF a b,0):=by
 unfold Dy.O4
 unfold Dy.GF at h3 ⊢
 rw [h1,h2,Dy.AM h3]
 rfl
theorem A4e (args:List AV) (s:Spec) (h:B0e args=some s) (hp:C6 s.pre True):Contract Tryz.prog Inv 151 args s.res:=by
 unfold B0e at h
 split at h
 ·cases h
  refine A4 false LD Tryz.func151 (by kernel_rfl) (by kernel_rfl) fun hok=> ?_
  rw [A5j]
  rfl
 ·cases h
theorem C0v (args:List AV) (s:Spec) (h:D5q args=some s) (hp:C6 s.pre True):Contract Tryz.prog Inv 73 args s.res:=by
 unfold D5q at h
 split at h
 ·cases h
  refine A4 true LD Tryz.func73 (by kernel_rfl) (by kernel_rfl) fun hok=> ?_
  rw [C36]
  rfl
 ·cases h
theorem B4o (args:List AV) (s:Spec) (h:D0k args=some s) (hp:C6 s.pre True):Contract Tryz.prog Inv 140 args s.res:=by
 unfold D0k at h
 split at h
 ·cases h
  obtain ⟨⟨p1,p2,p3⟩, -⟩:=hp
  refine A4 false LD Tryz.func140 (by kernel_rfl) (by kernel_rfl) fun hok=> ?_
  rw [B7t,D6h p1 p2 p3]
  refine B4 fun b l n hd=> ?_
  rintro _ -
  exact V4 hd
 ·cases h
theorem B4t (args:List AV) (s:Spec) (h:D0x args=some s) (hp:C6 s.pre True):Contract Tryz.prog Inv 190 args s.res:=by
 unfold D0x at h
 split at h
 ·cases h
  obtain ⟨⟨p1,p2,p3⟩, -⟩:=hp
  refine A4 false LD Tryz.func190 (by kernel_rfl) (by kernel_rfl) fun hok=> ?_
  rw [B7y,D6e p1 p2 p3]
  refine B4 fun b l n hd=> ?_
  rintro _ -
  exact V4 hd
 ·cases h
theorem B4q (args:List AV) (s:Spec) (h:D0r args=some s) (hp:C6 s.pre True):Contract Tryz.prog Inv 141 args s.res:=by
 unfold D0r at h
 split at h
 ·cases h
  obtain ⟨⟨p1,p2,p3⟩, -⟩:=hp
  refine A4 false LD Tryz.func141 (by kernel_rfl) (by kernel_rfl) fun hok=> ?_
  rw [B7v,D6i p1 p2 p3]
  refine B4 fun b l n hd=> ?_
  rintro _ -
  exact V4 hd
 ·cases h
theorem A9w (args:List AV) (s:Spec) (h:C1n args=some s) (hp:C6 s.pre True):Contract Tryz.prog Inv 142 args s.res:=by
 unfold C1n at h
 split at h
 ·cases h
  obtain ⟨⟨p1,p2⟩, -⟩:=hp
  refine A4 false LD Tryz.func142 (by kernel_rfl) (by kernel_rfl) fun hok=> ?_
  rw [B1l,p1,p2]
  rintro _ rfl _ -
  rfl
 ·cases h
theorem A1n:G6 Tryz.prog Inv (look C4w):=
 A3 (A3 (A3 (A3 (A3 (A3 LD A9w) B4q) B4t) B4o) C0v) A4e
theorem A6y {c:Dy.Dyd} {lost high neg:Bool} {u:Int} {b:Bool} {l:List Nat} {k:Int} (hd:Dy.Dyd.mk b l k=c) (hc:Dy.A5 c=true) (hu: -16777216≤u∧u≤16777216) (hf:Dy.A5 (Dy.CL c lost high neg u)=true):
  bif !lost then AV.agg [.bool b,.dig [0] l,.num .i64 k]=avD [0] (Dy.CL c lost high neg u)
  else bif decide (neg=high) then AV.agg [.bool b,.dig [0] l,.num .i64 k]=avD [0] (Dy.CL c lost high neg u)
  else dyF (Dy.K0 u) fun b6 l7 n8=>
   bif high then (Dy.A5 (Dy.Dyd.mk b l k)=true∧Dy.A5 (Dy.Dyd.mk b6 l7 n8)=true∧Dy.A5 (Dy.C2 (Dy.Dyd.mk b l k) (Dy.Dyd.mk b6 l7 n8))=true)∧
    dyF (Dy.C2 (Dy.Dyd.mk b l k) (Dy.Dyd.mk b6 l7 n8)) fun b9 l10 n11=>
     AV.agg [.bool b9,.dig [0] l10,.num .i64 n11]=avD [0] (Dy.CL c lost high neg u)
   else (Dy.A5 (Dy.Dyd.mk b l k)=true∧Dy.A5 (Dy.Dyd.mk b6 l7 n8)=true∧Dy.A5 (Dy.GF (Dy.Dyd.mk b l k) (Dy.Dyd.mk b6 l7 n8))=true)∧
    dyF (Dy.GF (Dy.Dyd.mk b l k) (Dy.Dyd.mk b6 l7 n8)) fun b9 l10 n11=>
     AV.agg [.bool b9,.dig [0] l10,.num .i64 n11]=avD [0] (Dy.CL c lost high neg u):=by
 subst hd
 have hum:=Dy.KC hu
 cases lost with
 |false=>exact B5 rfl rfl
 |true=>
  refine B1 rfl (A8 (fun h=> ?_) (fun h=> ?_))
  ·have h:=A1 h
   subst h
   have:Dy.CL (Dy.Dyd.mk b l k) true neg neg u=Dy.Dyd.mk b l k:=by unfold Dy.CL;rw [if_neg (by simp)]
   rw [this]
   rfl
  ·have h:=A0 h
   refine B4 fun b6 l7 n8 h6=> ?_
   rw [h6]
   have hb:(true&&(neg !=high))=true:=by cases neg<;>cases high<;>simp_all
   cases high with
   |true=>
    have e:Dy.CL (Dy.Dyd.mk b l k) true true neg u=Dy.C2 (Dy.Dyd.mk b l k) (Dy.K0 u):=by unfold Dy.CL;rw [if_pos hb,if_pos rfl]
    rw [e] at hf
    refine B5 rfl ⟨⟨hc,hum,hf⟩,B4 fun b9 l10 n11 h9=> ?_⟩
    rw [e]
    exact V4 h9
   |false=>
    have e:Dy.CL (Dy.Dyd.mk b l k) true false neg u=Dy.GF (Dy.Dyd.mk b l k) (Dy.K0 u):=by unfold Dy.CL;rw [if_pos hb,if_neg (by decide)]
    rw [e] at hf
    refine B1 rfl ⟨⟨hc,hum,hf⟩,B4 fun b9 l10 n11 h9=> ?_⟩
    rw [e]
    exact V4 h9
theorem B4p (args:List AV) (s:Spec) (h:D0n args=some s) (hp:C6 s.pre True):Contract Tryz.prog Inv 177 args s.res:=by
 unfold D0n at h
 split at h
 ·cases h
  obtain ⟨⟨hm,h1,h2⟩, -⟩:=hp
  refine A4 false A1n Tryz.func177 (by kernel_rfl) (by kernel_rfl) fun hok=> ?_
  have ht:=Dy.B0o hm
  rw [B7u,Dy.A7r hm ⟨h1,h2⟩,if_pos hm.1,wrap_i64 (by omega) (by omega)]
  refine B4 fun b l k hd=> ?_
  rintro _ rfl _ -
  exact A6y hd (Dy.FY hm h1) (by omega) (Dy.A7w (Dy.GA hm) ⟨h1,h2⟩ (by decide) _).may
 ·cases h
theorem B4s (args:List AV) (s:Spec) (h:D0u args=some s) (hp:C6 s.pre True):Contract Tryz.prog Inv 153 args s.res:=by
 unfold D0u at h
 split at h
 ·cases h
  rename_i high
  obtain ⟨⟨hm,hm',h0,l1,l2,h1,h2,hs⟩, -⟩:=hp
  refine A4 false A1n Tryz.func153 (by kernel_rfl) (by kernel_rfl) fun hok=> ?_
  have hq:=Dy.A1w (Dy.GA hm) (Dy.GA hm') ⟨h1,h2⟩ (by decide)
  have ht:=Dy.C4x hq
  rw [B7x,Dy.C9z (Dy.GA hm) (Dy.GA hm') h0 ⟨h1,h2⟩ (by decide)]
  refine ⟨⟨l1,l2⟩,B4 fun b l k hd=> ?_⟩
  rintro _ rfl _ -
  change Dy.Dyd.mk b l k=(Dy.GC _ _ _).1 at hd
  rw [←hd] at hq ht
  rw [if_pos hq.may,wrap_i64 (by omega) (by omega)]
  have hf:=(Dy.B07 (Dy.GA hm) (Dy.GA hm') hs h0 ⟨h1,h2⟩ (by decide) high).may
  unfold Dy.V5 at hf ⊢
  rw [←hd] at hf ⊢
  exact A6y rfl hq.may (by omega) hf
 ·cases h
theorem NV:G6 Tryz.prog Inv (look A73):=A3 (A3 A1n B4s) B4p
theorem B4r (args:List AV) (s:Spec) (h:D0t args=some s) (hp:C6 s.pre True):Contract Tryz.prog Inv 139 args s.res:=by
 unfold D0t at h
 split at h
 ·cases h
  obtain ⟨⟨hm,hm',h1,h2⟩, -⟩:=hp
  refine A4 false NV Tryz.func139 (by kernel_rfl) (by kernel_rfl) fun hok=> ?_
  rw [B7w]
  refine ⟨⟨hm,h1,h2⟩,B4 fun b l k hd=>⟨⟨hm',h1,h2⟩,B4 fun b' l' k' hd'=> ?_⟩⟩
  exact S9 hd hd'
 ·cases h
theorem A9u (args:List AV) (s:Spec) (h:B0g args=some s) (hp:C6 s.pre True):Contract Tryz.prog Inv 191 args s.res:=by
 unfold B0g at h
 split at h
 ·cases h
  obtain ⟨⟨p1,p2⟩, -⟩:=hp
  refine A4 false NV Tryz.func191 (by kernel_rfl) (by kernel_rfl) fun hok=> ?_
  rw [B1j,if_pos p1,if_pos p2]
  unfold Dy.y5
  refine A8 (fun h=> ?_) (fun h=> ?_)
  ·rw [if_pos (A1 h)]
  ·rw [if_neg (A0 h)]
 ·cases h
theorem B4n (args:List AV) (s:Spec) (h:D0s args=some s) (hp:C6 s.pre True):Contract Tryz.prog Inv 81 args s.res:=by
 unfold D0s at h
 split at h
 ·cases h
  obtain ⟨⟨p1,p2⟩, -⟩:=hp
  refine A4 false NV Tryz.func81 (by kernel_rfl) (by kernel_rfl) fun hok=> ?_
  rw [B7s,p1,p2]
  refine B4 fun b l k hd=> ?_
  rintro _ -
  refine B4 fun b' l' k' hd'=> ?_
  rintro _ -
  exact S9 hd hd'
 ·cases h
theorem LW {d:Dy.Dyd} (h:Dy.mid d) {k:Int} (hk: -1000000≤k∧k≤1000000):Dy.EG d k=(Dy.shD d k,0):=by
 unfold Dy.EG Dy.shD
 obtain ⟨h0,h1,h2⟩:=h
 rw [if_pos h0]
 by_cases c:d.mag=[]
 ·rw [if_pos c,if_pos c]
 ·rw [if_neg c,if_neg c,if_pos (Dy.N5.2 (by omega))]
theorem A4d (args:List AV) (s:Spec) (h:B0f args=some s) (hp:C6 s.pre True):Contract Tryz.prog Inv 83 args s.res:=by
 unfold B0f at h
 split at h
 ·cases h
  obtain ⟨⟨p1,p2,k1,k2⟩, -⟩:=hp
  refine A4 false NV Tryz.func83 (by kernel_rfl) (by kernel_rfl) fun hok=> ?_
  rw [A5i,LW p1 ⟨k1,k2⟩,LW p2 ⟨k1,k2⟩]
  refine B4 fun b l k hd=> ?_
  rintro _ -
  refine B4 fun b' l' k' hd'=> ?_
  rintro _ -
  exact S9 hd hd'
 ·cases h
end Go.AI

namespace Go.AI
open Dy IntKind
open Go Go.RowKit Go.Proofs
set_option linter.unusedVariables false
set_option maxRecDepth 100000
set_option maxHeartbeats 0
end Go.AI

namespace Go.Dy
end Go.Dy
namespace Go.AI
open Go Go.RowKit Go.Proofs
set_option linter.unusedVariables false
set_option maxRecDepth 100000
set_option maxHeartbeats 1000000
end Go.AI

namespace Go.Dy
end Go.Dy

namespace Go.Dy
open Go Go.RowKit
set_option maxRecDepth 100000
def D6c (nn:Nat):Nat→Nat→Nat→Nat→Nat→Nat×Nat×Nat
 |0,_,k,p,m=>(k,p,m)
 |f+1,pw,k,p,m=>
  match pw with
  |0=>(k,p,m)
  |q+1=>
   match p+(q+1)/k with
   |0=>(k,0,m)
   |p'+1=>D6c nn f ((q+1)/nn) (k+2) m (p'+1)
def D6k (x:Nat×Nat×Nat):Int:=if x.1%4=1 then (x.2.1:Int)-x.2.2 else (x.2.2:Int)-x.2.1
def D6d (b n f:Nat):Int:=D6k (D6c (n*n) f (2^b/n) 1 0 0)
def prec:Nat:=13000
def piN:Int:=16*D6d prec 5 4000-4*D6d prec 239 2000
end Go.Dy

namespace Go.Dy
open Go Go.RowKit
set_option maxRecDepth 100000
end Go.Dy

namespace Go.Dy
open Go Go.RowKit
set_option maxRecDepth 100000
end Go.Dy

namespace Go.Dy
end Go.Dy

namespace Go.Dy
end Go.Dy
namespace Go.AI
open Go Go.RowKit Go.Proofs
set_option linter.unusedVariables false
set_option maxRecDepth 100000
set_option maxHeartbeats 1000000
theorem TV:G6 Tryz.prog Inv (look B6c):=
 A3 (A3 (A3 (A3 (NV) A4d) B4n) A9u) B4r
end Go.AI

namespace Go.AI
open Go Go.RowKit Go.Proofs
set_option linter.unusedVariables false
set_option maxRecDepth 100000
set_option maxHeartbeats 1000000
def mmX (n:Int) (R:AV):List Dy.Dyd→Dy.Dyd→Dy.Dyd→Prop
 |[],lo,hi=>(Dy.mid lo∧Dy.mid hi∧1≤n∧n≤8192)∧dyF (Dy.O7 lo n false) fun b l k=>dyF (Dy.O7 hi n true) fun b' l' k'=>AV.agg [.bool b,.dig [0] l,.num .i64 k,.bool b',.dig [0] l',.num .i64 k']=R
 |d::r,lo,hi=>(Dy.A5 d=true∧Dy.A5 lo=true)∧
  bif decide (Dy.Y1 d lo<0) then (Dy.A5 hi=true∧Dy.A5 d=true)∧bif decide (Dy.Y1 hi d<0) then mmX n R r d d else mmX n R r d hi
  else (Dy.A5 hi=true∧Dy.A5 d=true)∧bif decide (Dy.Y1 hi d<0) then mmX n R r lo d else mmX n R r lo hi
theorem A0o {n:Int} (h1:1≤n) (h2:n≤8192):∀(r:List Dy.Dyd) (lo hi:Dy.Dyd) (R:AV),(∀d ∈ r,Dy.mid d)→Dy.mid lo→Dy.mid hi→avS [0] (Dy.O7 (r.foldl Dy.minD lo) n false) (Dy.O7 (r.foldl Dy.maxD hi) n true)=R→mmX n R r lo hi
 |[],lo,hi,R,_,m1,m2,hR=>⟨⟨m1,m2,h1,h2⟩,B4 fun b3 l3 k3 d3=>B4 fun b4 l4 k4 d4=>(S9 d3 d4).trans hR⟩
 |d::r,lo,hi,R,hr,m1,m2,hR=>by
  have md:=hr d (by simp)
  have hr':∀x ∈ r,Dy.mid x:=fun x hx=>hr x (by simp [hx])
  refine ⟨⟨md.1,m1.1⟩,A8 (fun c=>⟨⟨m2.1,md.1⟩,A8 (fun c'=> ?_) (fun c'=> ?_)⟩) (fun c=>⟨⟨m2.1,md.1⟩,A8 (fun c'=> ?_) (fun c'=> ?_)⟩)⟩
  ·refine A0o h1 h2 r d d R hr' md md ?_
   rw [←hR,DM,DM]
   have e1:Dy.minD lo d=d:=if_pos (A1 c)
   have e2:Dy.maxD hi d=d:=if_pos (A1 c')
   rw [e1,e2]
  ·refine A0o h1 h2 r d hi R hr' md m2 ?_
   rw [←hR,DM,DM]
   have e1:Dy.minD lo d=d:=if_pos (A1 c)
   have e2:Dy.maxD hi d=hi:=if_neg (A0 c')
   rw [e1,e2]
  ·refine A0o h1 h2 r lo d R hr' m1 md ?_
   rw [←hR,DM,DM]
   have e1:Dy.minD lo d=lo:=if_neg (A0 c)
   have e2:Dy.maxD hi d=d:=if_pos (A1 c')
   rw [e1,e2]
  ·refine A0o h1 h2 r lo hi R hr' m1 m2 ?_
   rw [←hR,DM,DM]
   have e1:Dy.minD lo d=lo:=if_neg (A0 c)
   have e2:Dy.maxD hi d=hi:=if_neg (A0 c')
   rw [e1,e2]
theorem B4m (args:List AV) (s:Spec) (h:C1o args=some s) (hp:C6 s.pre True):Contract Tryz.prog Inv 75 args s.res:=by
 unfold C1o at h
 split at h
 ·cases h
  rename_i n s m e s' m' e' t l f t' l' f'
  obtain ⟨⟨p1,p2,p3,p4,p5,p6,p7,p8,h1,h2⟩, -⟩:=hp
  refine E8 false 78 (lam [(6,.unroll 4)]) TV Tryz.func75 (by kernel_rfl) rfl (EP (k:=4) (by kernel_rfl) (by kernel_rfl)) fun hok=> ?_
  have slow:∀{R:AV},avS [0] (Dy.O7 (Dy.C5r (Dy.E6 ⟨s,m,e⟩ ⟨t,l,f⟩) (Dy.E6 ⟨s,m,e⟩ ⟨t',l',f'⟩) (Dy.E6 ⟨s',m',e'⟩ ⟨t,l,f⟩) (Dy.E6 ⟨s',m',e'⟩ ⟨t',l',f'⟩)) n false)
    (Dy.O7 (Dy.C5q (Dy.E6 ⟨s,m,e⟩ ⟨t,l,f⟩) (Dy.E6 ⟨s,m,e⟩ ⟨t',l',f'⟩) (Dy.E6 ⟨s',m',e'⟩ ⟨t,l,f⟩) (Dy.E6 ⟨s',m',e'⟩ ⟨t',l',f'⟩)) n true)=R→
    (Dy.A5 ⟨s,m,e⟩=true∧Dy.A5 ⟨t,l,f⟩=true∧Dy.A5 (Dy.E6 ⟨s,m,e⟩ ⟨t,l,f⟩)=true)∧dyF (Dy.E6 ⟨s,m,e⟩ ⟨t,l,f⟩) fun b1 l1 k1=>
    (Dy.A5 ⟨s,m,e⟩=true∧Dy.A5 ⟨t',l',f'⟩=true∧Dy.A5 (Dy.E6 ⟨s,m,e⟩ ⟨t',l',f'⟩)=true)∧dyF (Dy.E6 ⟨s,m,e⟩ ⟨t',l',f'⟩) fun b2 l2 k2=>
    (Dy.A5 ⟨s',m',e'⟩=true∧Dy.A5 ⟨t,l,f⟩=true∧Dy.A5 (Dy.E6 ⟨s',m',e'⟩ ⟨t,l,f⟩)=true)∧dyF (Dy.E6 ⟨s',m',e'⟩ ⟨t,l,f⟩) fun b3 l3 k3=>
    (Dy.A5 ⟨s',m',e'⟩=true∧Dy.A5 ⟨t',l',f'⟩=true∧Dy.A5 (Dy.E6 ⟨s',m',e'⟩ ⟨t',l',f'⟩)=true)∧dyF (Dy.E6 ⟨s',m',e'⟩ ⟨t',l',f'⟩) fun b4 l4 k4=>
    mmX n R [⟨b2,l2,k2⟩,⟨b3,l3,k3⟩,⟨b4,l4,k4⟩] ⟨b1,l1,k1⟩ ⟨b1,l1,k1⟩:=by
   intro R hR
   refine ⟨⟨p1,p3,p5.1⟩,B4 fun b1 l1 k1 d1=>⟨⟨p1,p4,p6.1⟩,B4 fun b2 l2 k2 d2=>⟨⟨p2,p3,p7.1⟩,B4 fun b3 l3 k3 d3=>⟨⟨p2,p4,p8.1⟩,B4 fun b4 l4 k4 d4=> ?_⟩⟩⟩⟩
   rw [d1,d2,d3,d4]
   refine A0o h1 h2 _ _ _ _ (fun d hd=> ?_) p5 p5 hR
   simp only [List.mem_cons,List.mem_nil_iff,or_false] at hd
   rcases hd with rfl|rfl|rfl
   ·exact p6
   ·exact p7
   ·exact p8
  rw [B7r];delta HP j5 HQ HR HS AS HT HU HV FU
  cases s with
  |true=>exact B1 rfl (slow rfl)
  |false=>
   cases t with
   |true=>exact B5 rfl (B1 rfl (slow rfl))
   |false=>
    refine B5 rfl (B5 rfl ⟨⟨p1,p3,p5.1⟩,B4 fun b1 l1 k1 d1=>⟨⟨p2,p4,p8.1⟩,B4 fun b2 l2 k2 d2=> ?_⟩⟩)
    rw [d1,d2]
    exact ⟨⟨p5,p8,h1,h2⟩,B4 fun b3 l3 k3 d3=>B4 fun b4 l4 k4 d4=>S9 d3 d4⟩
 ·cases h
theorem B4l (args:List AV) (s:Spec) (h:C1k args=some s) (hp:C6 s.pre True):Contract Tryz.prog Inv 84 args s.res:=by
 unfold C1k at h
 split at h
 ·cases h
  rename_i n s m e s' m' e' t l f t' l' f'
  obtain ⟨⟨p1,p2,p3,p4,ht,ht',l0,l0',n1,n2,n3,n4,h1,h2⟩, -⟩:=hp
  refine A4 false TV Tryz.func84 (by kernel_rfl) (by kernel_rfl) fun hok=> ?_
  rw [B7q]
  refine B1 ht' ?_
  cases s<;>cases s'
  ·exact B1 rfl (B1 rfl ⟨⟨p1,p4,l0',n1,n4,h1,h2,ht'⟩,B4 fun b3 l3 k3 d3=>⟨⟨p2,p3,l0,n2,n3,h1,h2,ht⟩,B4 fun b4 l4 k4 d4=>S9 d3 d4⟩⟩)
  ·exact B1 rfl (B5 rfl ⟨⟨p1,p4,l0',n1,n4,h1,h2,ht'⟩,B4 fun b3 l3 k3 d3=>⟨⟨p2,p4,l0',n2,n4,h1,h2,ht'⟩,B4 fun b4 l4 k4 d4=>S9 d3 d4⟩⟩)
  ·exact B5 rfl (B1 rfl ⟨⟨p1,p3,l0,n1,n3,h1,h2,ht⟩,B4 fun b3 l3 k3 d3=>⟨⟨p2,p3,l0,n2,n3,h1,h2,ht⟩,B4 fun b4 l4 k4 d4=>S9 d3 d4⟩⟩)
  ·exact B5 rfl (B5 rfl ⟨⟨p1,p3,l0,n1,n3,h1,h2,ht⟩,B4 fun b3 l3 k3 d3=>⟨⟨p2,p4,l0',n2,n4,h1,h2,ht'⟩,B4 fun b4 l4 k4 d4=>S9 d3 d4⟩⟩)
 ·cases h
theorem B4k (args:List AV) (s:Spec) (h:C1i args=some s) (hp:C6 s.pre True):Contract Tryz.prog Inv 154 args s.res:=by
 unfold C1i at h
 split at h
 ·cases h
  rename_i s m e s' m' e' b
  obtain ⟨⟨p1,p2,h1,h2⟩, -⟩:=hp
  refine A4 false TV Tryz.func154 (by kernel_rfl) (by kernel_rfl) fun hok=> ?_
  rw [B7p]
  refine ⟨⟨p1.1,p2.1⟩,?_⟩
  refine A8 (fun h=> ?_) (fun h=> ?_)
  ·rw [h]
   rfl
  ·rw [h,Dy.A7r p1 ⟨h1,h2⟩,Dy.A7r p2 ⟨h1,h2⟩]
   refine B4 fun b1 l1 k1 d1=> ?_
   rintro _-_ -
   refine B4 fun b2 l2 k2 d2=> ?_
   rintro _-_ -
   have q1:Dy.A5 (Dy.Dyd.mk b1 l1 k1)=true:=by rw [d1];exact Dy.FY p1 h1
   have q2:Dy.A5 (Dy.Dyd.mk b2 l2 k2)=true:=by rw [d2];exact Dy.FY p2 h1
   rw [q1,q2]
   rintro _ rfl _ -
   rw [V4 d1,d1,d2]
   rfl
 ·cases h
theorem NW:G6 Tryz.prog Inv (look A74):=A3 (A3 (A3 TV B4k) B4l) B4m
end Go.AI

namespace Go.AI
open Go Go.RowKit Go.Proofs
set_option linter.unusedVariables false
set_option maxHeartbeats 4000000 in
set_option maxRecDepth 100000 in
theorem D2u (x:Int) (w:World) (h0:0≤x) (h1:x<18446744073709551616) (c0:x<4294967296) (c1:x<65536) (c2:x<256):
  Calls Tryz.prog 175 #[.int .u64 x] w fun e w'=>e= .returned (.int .i64 (D6 x.toNat))∧w'=w:=by
 have k1:x≤255:=by omega
 have k0:0≤x:=by omega
 go_enter Tryz.func175,Tryz.ntmps175
 go_wp2
 go_ret
 refine ⟨congrArg Ending.returned (congrArg (Value.int IntKind.i64) ?_),rfl⟩
 rw [ES (x) k0 k1]
 have l:=o7 (x) k0 k1
 clear h0 h1 k0 k1 c0 c1 c2
 generalize D6 x.toNat=b at*
 unfold wrap64
 omega
set_option maxHeartbeats 4000000 in
set_option maxRecDepth 100000 in
theorem D2v (x:Int) (w:World) (h0:0≤x) (h1:x<18446744073709551616) (c0:x<4294967296) (c1:x<65536) (c2:256≤x):
  Calls Tryz.prog 175 #[.int .u64 x] w fun e w'=>e= .returned (.int .i64 (D6 x.toNat))∧w'=w:=by
 have k1:x/256≤255:=by omega
 have k0:0≤x/256:=by omega
 go_enter Tryz.func175,Tryz.ntmps175
 go_wp2
 go_ret
 refine ⟨congrArg Ending.returned (congrArg (Value.int IntKind.i64) ?_),rfl⟩
 rw [ES (x/256) k0 k1]
 have l:=o7 (x/256) k0 k1
 have e:(x/256).toNat=x.toNat/256:=by omega
 have s:=Lib.bitLen_shift8 x.toNat (by omega) (by omega)
 rw [e] at l ⊢
 rw [s]
 clear s e h0 h1 k0 k1 c0 c1 c2
 generalize D6 (x.toNat/256)=b at*
 unfold wrap64
 omega
set_option maxHeartbeats 4000000 in
set_option maxRecDepth 100000 in
theorem D2w (x:Int) (w:World) (h0:0≤x) (h1:x<18446744073709551616) (c0:x<4294967296) (c1:65536≤x) (c2:x/65536<256):
  Calls Tryz.prog 175 #[.int .u64 x] w fun e w'=>e= .returned (.int .i64 (D6 x.toNat))∧w'=w:=by
 have k1:x/65536≤255:=by omega
 have k0:0≤x/65536:=by omega
 go_enter Tryz.func175,Tryz.ntmps175
 go_wp2
 go_ret
 refine ⟨congrArg Ending.returned (congrArg (Value.int IntKind.i64) ?_),rfl⟩
 rw [ES (x/65536) k0 k1]
 have l:=o7 (x/65536) k0 k1
 have e:(x/65536).toNat=x.toNat/65536:=by omega
 have s:=Lib.bitLen_shift16 x.toNat (by omega) (by omega)
 rw [e] at l ⊢
 rw [s]
 clear s e h0 h1 k0 k1 c0 c1 c2
 generalize D6 (x.toNat/65536)=b at*
 unfold wrap64
 omega
set_option maxHeartbeats 4000000 in
set_option maxRecDepth 100000 in
theorem D2x (x:Int) (w:World) (h0:0≤x) (h1:x<18446744073709551616) (c0:x<4294967296) (c1:65536≤x) (c2:256≤x/65536):
  Calls Tryz.prog 175 #[.int .u64 x] w fun e w'=>e= .returned (.int .i64 (D6 x.toNat))∧w'=w:=by
 have k1:x/65536/256≤255:=by omega
 have k0:0≤x/65536/256:=by omega
 go_enter Tryz.func175,Tryz.ntmps175
 go_wp2
 go_ret
 refine ⟨congrArg Ending.returned (congrArg (Value.int IntKind.i64) ?_),rfl⟩
 rw [ES (x/65536/256) k0 k1]
 have l:=o7 (x/65536/256) k0 k1
 have e:(x/65536/256).toNat=x.toNat/16777216:=by omega
 have s:=Lib.bitLen_shift24 x.toNat (by omega) (by omega)
 rw [e] at l ⊢
 rw [s]
 clear s e h0 h1 k0 k1 c0 c1 c2
 generalize D6 (x.toNat/16777216)=b at*
 unfold wrap64
 omega
set_option maxHeartbeats 4000000 in
set_option maxRecDepth 100000 in
theorem D2y (x:Int) (w:World) (h0:0≤x) (h1:x<18446744073709551616) (c0:4294967296≤x) (c1:x/4294967296<65536) (c2:x/4294967296<256):
  Calls Tryz.prog 175 #[.int .u64 x] w fun e w'=>e= .returned (.int .i64 (D6 x.toNat))∧w'=w:=by
 have k1:x/4294967296≤255:=by omega
 have k0:0≤x/4294967296:=by omega
 go_enter Tryz.func175,Tryz.ntmps175
 go_wp2
 go_ret
 refine ⟨congrArg Ending.returned (congrArg (Value.int IntKind.i64) ?_),rfl⟩
 rw [ES (x/4294967296) k0 k1]
 have l:=o7 (x/4294967296) k0 k1
 have e:(x/4294967296).toNat=x.toNat/4294967296:=by omega
 have s:=Lib.bitLen_shift32 x.toNat (by omega) (by omega)
 rw [e] at l ⊢
 rw [s]
 clear s e h0 h1 k0 k1 c0 c1 c2
 generalize D6 (x.toNat/4294967296)=b at*
 unfold wrap64
 omega
set_option maxHeartbeats 4000000 in
set_option maxRecDepth 100000 in
theorem D2z (x:Int) (w:World) (h0:0≤x) (h1:x<18446744073709551616) (c0:4294967296≤x) (c1:x/4294967296<65536) (c2:256≤x/4294967296):
  Calls Tryz.prog 175 #[.int .u64 x] w fun e w'=>e= .returned (.int .i64 (D6 x.toNat))∧w'=w:=by
 have k1:x/4294967296/256≤255:=by omega
 have k0:0≤x/4294967296/256:=by omega
 go_enter Tryz.func175,Tryz.ntmps175
 go_wp2
 go_ret
 refine ⟨congrArg Ending.returned (congrArg (Value.int IntKind.i64) ?_),rfl⟩
 rw [ES (x/4294967296/256) k0 k1]
 have l:=o7 (x/4294967296/256) k0 k1
 have e:(x/4294967296/256).toNat=x.toNat/1099511627776:=by omega
 have s:=Lib.bitLen_shift40 x.toNat (by omega) (by omega)
 rw [e] at l ⊢
 rw [s]
 clear s e h0 h1 k0 k1 c0 c1 c2
 generalize D6 (x.toNat/1099511627776)=b at*
 unfold wrap64
 omega
set_option maxHeartbeats 4000000 in
set_option maxRecDepth 100000 in
theorem D30 (x:Int) (w:World) (h0:0≤x) (h1:x<18446744073709551616) (c0:4294967296≤x) (c1:65536≤x/4294967296) (c2:x/4294967296/65536<256):
  Calls Tryz.prog 175 #[.int .u64 x] w fun e w'=>e= .returned (.int .i64 (D6 x.toNat))∧w'=w:=by
 have k1:x/4294967296/65536≤255:=by omega
 have k0:0≤x/4294967296/65536:=by omega
 go_enter Tryz.func175,Tryz.ntmps175
 go_wp2
 go_ret
 refine ⟨congrArg Ending.returned (congrArg (Value.int IntKind.i64) ?_),rfl⟩
 rw [ES (x/4294967296/65536) k0 k1]
 have l:=o7 (x/4294967296/65536) k0 k1
 have e:(x/4294967296/65536).toNat=x.toNat/281474976710656:=by omega
 have s:=Lib.bitLen_shift48 x.toNat (by omega) (by omega)
 rw [e] at l ⊢
 rw [s]
 clear s e h0 h1 k0 k1 c0 c1 c2
 generalize D6 (x.toNat/281474976710656)=b at*
 unfold wrap64
 omega
set_option maxHeartbeats 4000000 in
set_option maxRecDepth 100000 in
theorem D31 (x:Int) (w:World) (h0:0≤x) (h1:x<18446744073709551616) (c0:4294967296≤x) (c1:65536≤x/4294967296) (c2:256≤x/4294967296/65536):
  Calls Tryz.prog 175 #[.int .u64 x] w fun e w'=>e= .returned (.int .i64 (D6 x.toNat))∧w'=w:=by
 have k1:x/4294967296/65536/256≤255:=by omega
 have k0:0≤x/4294967296/65536/256:=by omega
 go_enter Tryz.func175,Tryz.ntmps175
 go_wp2
 go_ret
 refine ⟨congrArg Ending.returned (congrArg (Value.int IntKind.i64) ?_),rfl⟩
 rw [ES (x/4294967296/65536/256) k0 k1]
 have l:=o7 (x/4294967296/65536/256) k0 k1
 have e:(x/4294967296/65536/256).toNat=x.toNat/72057594037927936:=by omega
 have s:=Lib.bitLen_shift56 x.toNat (by omega) (by omega)
 rw [e] at l ⊢
 rw [s]
 clear s e h0 h1 k0 k1 c0 c1 c2
 generalize D6 (x.toNat/72057594037927936)=b at*
 unfold wrap64
 omega
end Go.AI

namespace Go.AI
open Go Go.RowKit Go.Proofs
set_option linter.unusedVariables false
theorem B8d (x:Int) (w:World) (h0:0≤x) (h1:x<18446744073709551616):
  Calls Tryz.prog 175 #[.int .u64 x] w fun e w'=>e= .returned (.int .i64 (D6 x.toNat))∧w'=w:=by
 rcases Z3 x 4294967296 with c0|c0
 ·rcases Z3 x 65536 with c1|c1
  ·rcases Z3 x 256 with c2|c2
   ·exact D2u x w h0 h1 c0 c1 c2
   ·exact D2v x w h0 h1 c0 c1 c2
  ·rcases Z3 (x/65536) 256 with c2|c2
   ·exact D2w x w h0 h1 c0 c1 c2
   ·exact D2x x w h0 h1 c0 c1 c2
 ·rcases Z3 (x/4294967296) 65536 with c1|c1
  ·rcases Z3 (x/4294967296) 256 with c2|c2
   ·exact D2y x w h0 h1 c0 c1 c2
   ·exact D2z x w h0 h1 c0 c1 c2
  ·rcases Z3 (x/4294967296/65536) 256 with c2|c2
   ·exact D30 x w h0 h1 c0 c1 c2
   ·exact D31 x w h0 h1 c0 c1 c2
theorem D3n:IntKind.u64.max=18446744073709551615:=by simp [IntKind.max,IntKind.bits,IntKind.signed]
theorem D3o:IntKind.u64.min=0:=rfl
theorem j4 {x:Int} (h:IntKind.u64.min≤x∧x≤IntKind.u64.max):0≤x∧x<18446744073709551616:=by
 rw [D3n,D3o] at h
 omega
theorem C4z {x:Int} (h:0≤x∧x<18446744073709551616):x.toNat<2^64:=by omega
def C1m:List AV→Option Spec
 |[.num .u64 x]=>some ⟨none,.num .i64 (Dy.bl x.toNat)⟩
 |_=>none
theorem D36 (args:List AV) (s:Spec) (h:C1m args=some s) (hp:C6 s.pre True):Contract Tryz.prog Inv 175 args s.res:=by
 unfold C1m at h
 split at h
 ·cases h
  rename_i x
  refine IW (fun cs w=>Tryz.call175 cs w) fun w hI hr=> ?_
  have hr':=j4 hr
  have hb:=Dy.VM (x:=x.toNat) (C4z hr')
  have hl:=Lib.bitLen_le x.toNat 64 (I6 _) (C4z hr')
  rw [hb] at hl
  have hc:=B8d x w hr'.1 hr'.2
  rw [hb] at hc
  generalize Dy.bl x.toNat=b at*
  refine ⟨?_,hc⟩
  simp [IntKind.min,IntKind.max,IntKind.bits,IntKind.signed]
  omega
 ·cases h
end Go.AI

namespace Go.Dy
end Go.Dy
namespace Go.AI
open Go Go.RowKit Go.Proofs
set_option linter.unusedVariables false
def D44:List (Nat×(List AV→Option Spec)):=A74
def D45:List (Nat×(List AV→Option Spec)):=D44
end Go.AI

namespace Go.Dy
theorem Y7 (k:Nat):((2^k:Nat):Int)=(2:Int)^k:=by simp
end Go.Dy

namespace Go.Dy
theorem VS {d:Dyd} (h:A5 d=true) {n:Nat} (hn:1≤n) (hb:bl (val d.mag)≤n) (high:Bool):O7 d n high=d:=by
 conv=>lhs;rw [LM h]
 rw [RB _ _ _ (by omega),A08,show ((bl (val d.mag):Int)-n).toNat=0 by omega,Int.pow_zero,D0e]
 conv=>rhs;rw [LM h]
 congr 1
 omega
theorem C5k {d:Dyd} (h:A5 d=true) {V:Nat} (hV: -(V:Int)≤d.exp):0≤(T8 d).exp∧at_ (T8 d) 0*2^V≤at_ d (-(V:Int))∧at_ d (-(V:Int))<(at_ (T8 d) 0+1)*2^V:=by
 obtain ⟨h1,h2, -⟩:=C7r h V hV
 have h0:0≤(T8 d).exp:=by
  unfold T8
  split
  ·assumption
  ·exact s0 (u9 _) (u9 _)
 have hs:=ND (T8 d) (u:=0) (v:= -(V:Int)) (by omega) h0
 rw [show ((0:Int) - -(V:Int)).toNat=V by omega] at hs
 rw [hs] at h1 h2
 refine ⟨h0,h1,?_⟩
 rw [BG,MO]
 exact h2
end Go.Dy

namespace Go.Dy
open Go Go.RowKit
set_option maxRecDepth 100000
structure Wit where
 g:Nat
 kb:Nat
 p:Nat
 q:Nat
 c:Nat
def Wit.ok (w:Wit):Bool:=decide (Nat.gcd w.p w.q=1)&&(decide (2*2^w.kb≤w.q)&&(decide (w.q<2^(w.kb+w.c))&&decide (2*2^w.kb*(piN*2^w.g*w.q-w.p*(2^(prec+1):Nat)).natAbs≤2^(prec+1))))
end Go.Dy

namespace Go.Dy
def C99 (X P:Int):Int:=(2*X+P)/(2*P)
theorem C9a {X P k:Int} (hP:0<P) (h1:2*(k*P)≤2*X+P) (h2:2*X+P<2*(k*P)+2*P):C99 X P=k:=by
 unfold C99
 refine YV (by omega) ?_ ?_
 ·rw [Int.mul_left_comm];exact h1
 ·rw [Int.mul_left_comm,BG,MO,Int.mul_add];exact h2
end Go.Dy
