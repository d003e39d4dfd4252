/- My texts AIrnd0, AVred, AIred1, AIspecV, AIspecI, AIrnd2, AVlaw17, AIlaw17, AVrnd, AIrnd1, AVof, AIof, in one. -/
import Derived.Test.YtogikmlfkhofoaaGreatDoorK18
open Bool renaming eq_iff_iff→o6,false_or→PZ,or_eq_true→Y4,true_and→AT
open Decidable renaming byContradiction→G8
open Int renaming add_mul→BG,eq_ofNat_of_zero_le→C4,le_refl→u9,mul_comm→v9,neg_mul→AH,one_mul→MO,pow_pos→MQ,toNat_natCast→A2
open Nat renaming add_mul→H2,add_zero→I4,div_add_mod→Q6,div_div_eq_div_mul→K7,div_eq_of_lt→L9,le_trans→D9,lt_or_ge→L4,mod_eq_of_lt→F9,mod_lt→R5,mod_mul→MU,mul_assoc→B9,mul_comm→B6,mul_div_mul_right→MI,mul_eq_zero→MD,mul_mod_mul_right→DW,mul_ne_zero→X0,mul_one→M0,mul_pos→U9,mul_zero→O3,one_mul→Q2,pos_iff_ne_zero→R6,pow_add→B8,pow_le_pow_right→B3,pow_succ→I5,two_pow_pos→A9,zero_add→N9,zero_mul→R2
namespace Go.Dy
set_option maxRecDepth 100000
def Z1 (m:Int) (neg:Bool) (S U:Nat):Nat:=if S%U=0 then S/U else S/U+JO (upB m neg (decide (S/U%2=1)) (decide (U≤2*(S%U))) (decide (2*(S%U)≠U)))
theorem B0l {m:Int} {neg:Bool} {S U K:Nat} (hK:0<K):Z1 m neg (S*K) (U*K)=Z1 m neg S U∧(S*K%(U*K)=0 ↔ S%U=0):=by
 have h1:S%U*K=0 ↔ S%U=0:=⟨fun h=>(MD.1 h).resolve_right (by omega),fun h=>by rw [h,R2]⟩
 have e:2*(S%U*K)=2*(S%U)*K:=(B9 _ _ _).symm
 have h2:decide (U*K≤2*(S%U*K))=decide (U≤2*(S%U)):=by
  rw [e]
  exact decide_eq_decide.2 ⟨fun h=>Nat.le_of_mul_le_mul_right h hK,fun h=>Nat.mul_le_mul_right K h⟩
 have h3:decide (2*(S%U*K)≠U*K)=decide (2*(S%U)≠U):=by
  rw [e]
  exact decide_eq_decide.2 ⟨fun h c=>h (by rw [c]),fun h c=>h (Nat.eq_of_mul_eq_mul_right hK c)⟩
 unfold Z1
 rw [DW,MI _ _ hK,h2,h3]
 refine ⟨?_,h1⟩
 by_cases c:S%U=0
 ·rw [if_pos c,if_pos (h1.2 c)]
 ·rw [if_neg c,if_neg (fun d=>c (h1.1 d))]
theorem D1u (m:Int) (neg odd:Bool):upB m neg odd false false=false:=by
 unfold upB
 (repeat' split)<;>cases neg<;>cases odd<;>rfl
theorem B0r {p:Prt} {S g d:Nat} (m:Int) (neg:Bool) (hd:1≤d) (hh:p.h=S/2^g) (hm:p.more=decide (S%2^g≠0)):
  DG p m neg d=(Z1 m neg S (2^(g+d)),decide (S%2^(g+d)=0)):=by
 obtain ⟨V,hV⟩:∃V,V=2^(g+(d-1)):=⟨_,rfl⟩
 have hVp:0<V:=by rw [hV];exact A9 _
 have hU:2^(g+d)=V*2:=by rw [hV,←I5];congr 1;omega
 have e1:p.h/2^d=S/(V*2):=by rw [hh,K7,←B8,hU]
 have e2:p.h/2^(d-1)=S/V:=by rw [hh,K7,←B8,hV]
 have e3:(p.more||NY p.h d)=decide (S%V≠0):=by
  have h:= @MU (2^g) (2^(d-1)) S
  rw [←B8,←hV] at h
  unfold NY
  rw [hm,hh,o6]
  simp only [Y4,decide_eq_true_eq]
  rw [h]
  have hg:=A9 g
  generalize S/2^g%2^(d-1)=y
  generalize S%2^g=x
  generalize 2^g=G at*
  constructor
  ·rintro (c|c)
   ·omega
   ·have:=U9 hg (show 0<y by omega)
    omega
  ·intro c
   by_cases hx:x=0
   ·right
    intro hy
    subst hy
    rw [O3] at c
    omega
   ·exact .inl hx
 have h:= @MU V 2 S
 have hlt:=R5 S hVp
 have hb:=Nat.mod_two_eq_zero_or_one (S/V)
 unfold DG GS Z1
 rw [e1,e2,e3,hU,h]
 generalize S/(V*2)=q
 generalize S%V=r at*
 rcases hb with c|c
 ·rw [c]
  simp only [O3,I4]
  by_cases hr:r=0
  ·subst hr
   have:=D1u m neg (decide (q%2=1))
   simp [this,JO]
  ·rw [if_neg hr,decide_eq_false (show¬(0=1) by decide),decide_eq_true (show r≠0 from hr),decide_eq_false (show¬V*2≤2*r by omega),decide_eq_true (show 2*r≠V*2 by omega),decide_eq_false hr]
   rfl
 ·rw [c]
  simp only [M0,decide_true]
  rw [if_neg (by omega),decide_eq_true (show V*2≤2*(r+V) by omega),decide_eq_false (show¬r+V=0 by omega),
   show decide (2*(r+V)≠V*2)=decide (r≠0) from decide_eq_decide.2 (by omega)]
  rfl
theorem C9w {d:Dyd} {j:Nat} (hj:64≤j):(I9 d).h=val d.mag*2^j/2^(bl (val d.mag)+j-64)∧(I9 d).more=decide (val d.mag*2^j%2^(bl (val d.mag)+j-64)≠0):=by
 unfold I9
 simp only
 generalize val d.mag=M
 generalize bl M=L
 by_cases c:L≤64
 ·rw [if_pos c,decide_eq_false (by omega)]
  have e:M*2^j=M*2^(64-L)*2^(L+j-64):=by rw [B9,←B8];congr 2;omega
  rw [e,Nat.mul_div_cancel _ (A9 _),Nat.mul_mod_left]
  exact ⟨rfl,rfl⟩
 ·rw [if_neg c]
  have e:2^(L+j-64)=2^(L-64)*2^j:=by rw [←B8];congr 1;omega
  rw [e,MI _ _ (A9 _),DW]
  refine ⟨rfl,decide_eq_decide.2 ?_⟩
  have hp:=A9 j
  constructor
  ·rintro ⟨-,h⟩ h2
   exact h ((MD.1 h2).resolve_right (by omega))
  ·intro h
   exact ⟨by omega,fun h2=>h (by rw [h2,R2])⟩
theorem B6e {d:Dyd} (h0:d.mag≠[]) (hd:A5 d=true) {m e u:Int} {neg:Bool} (he:C7 d-63≤e) (hu:u≤d.exp) (hue:u≤e) {S U:Nat} (hS:S=val d.mag*2^(d.exp-u).toNat) (hU:U=2^(e-u).toNat):
  H4 (I9 d) m neg e=(Z1 m neg S U,decide (S%U=0)):=by
 have hM:val d.mag≠0:=Q1 (C1 (s:=d.neg) (e:=d.exp) hd) h0
 have ht:C7 d=d.exp+bl (val d.mag):=by unfold C7;rw [if_neg h0]
 obtain ⟨k,hk⟩:∃k:Nat,d.exp-u=k:=⟨(d.exp-u).toNat,by omega⟩
 rw [show (d.exp-u).toNat=k by omega] at hS
 obtain ⟨hp1,hp2⟩:=C9w (d:=d) (j:=k+64) (by omega)
 have eS:val d.mag*2^(k+64)=S*2^64:=by rw [hS,B9,B8]
 rw [eS,show bl (val d.mag)+(k+64)-64=bl (val d.mag)+k by omega] at hp1 hp2
 have hsc:=B0l (m:=m) (neg:=neg) (S:=S) (U:=U) (K:=2^64) (A9 _)
 have htop:(I9 d).top=C7 d:=rfl
 have hlt:=P9 (val d.mag)
 generalize bl (val d.mag)=L at*
 have hSlt:S<2^(L+k):=by rw [hS,B8];exact Nat.mul_lt_mul_of_pos_right hlt (A9 _)
 have hS0:S≠0:=by rw [hS];exact X0 hM (R6.1 (A9 _))
 unfold H4
 rw [htop]
 split
 ·rename_i c
  have h2:2*S<U:=by
   have e9:2*2^(L+k)=2^(L+k+1):=by rw [I5,B6]
   have:=B3 (n:=2) (by decide) (show L+k+1≤(e-u).toNat by omega)
   omega
  have hm:S%U=S:=F9 (by omega)
  have hdv:S/U=0:=L9 (by omega)
  unfold Z1
  rw [hm,hdv,if_neg hS0,decide_eq_false (show¬U≤2*S by omega),decide_eq_true (show 2*S≠U by omega),decide_eq_false (show¬(0%2=1) by decide),decide_eq_false hS0,N9]
 ·rename_i c
  rw [B0r m neg (by omega) hp1 hp2,←hsc.1]
  have eU:U*2^64=2^(L+k+(e-C7 d+64).toNat):=by rw [hU,←B8,show (e-u).toNat+64=L+k+(e-C7 d+64).toNat by omega]
  rw [←eU,decide_eq_decide.2 hsc.2]
end Go.Dy

namespace Go.AI
open Dy IntKind
open Go Go.RowKit Go.Proofs
set_option linter.unusedVariables false
set_option maxRecDepth 100000
set_option maxHeartbeats 0
end Go.AI

namespace Go.Dy
end Go.Dy
namespace Go.AI
open Go Go.RowKit Go.Proofs
set_option linter.unusedVariables false
set_option maxRecDepth 100000
set_option maxHeartbeats 1000000
theorem C9q:G6 Tryz.prog Inv (look D46):=C9p
end Go.AI

namespace Go.AI
open Go Go.RowKit Go.Proofs
set_option linter.unusedVariables false
def D5g:List AV→Option Spec
 |[.num .i64 n]=>some ⟨none,avD [0] (Dy.K0 n)⟩
 |_=>none
end Go.AI

namespace Go.Dy
def OG (m:Int) (x:Dyd) (e:Int):Dyd:=form x.neg (Z1 m x.neg (val x.mag*2^(x.exp-min x.exp e).toNat) (2^(e-min x.exp e).toNat)) e
def CU (d:Dyd) (lost:Bool):Dyd:=bif lost then (bif d.neg then GF d (K0 (C7 d-62)) else C2 d (K0 (C7 d-62))) else d
def small (d:Dyd):Prop:=A5 d=true∧ -5000≤d.exp∧d.exp≤5000∧bl (val d.mag)≤5000
end Go.Dy
namespace Go.AI
open Go Go.RowKit Go.Proofs
set_option linter.unusedVariables false
def D4r:List AV→Option Spec
 |[.num .u8 f]=>some ⟨none,.num .i64 (Dy.C9 f)⟩
 |_=>none
def C88:List AV→Option Spec
 |[.num .u8 f]=>some ⟨none,.num .i64 (Dy.P8 f)⟩
 |_=>none
def C84:List AV→Option Spec
 |[.num .u8 f,.agg [.bool neg,.num .i64 e,.num .u64 r]]=>some ⟨some (Dy.isF f∧0≤e∧e≤Dy.P7 f∧0≤r∧r<(2^Dy.A6 f:Nat)),.num .u64 (Dy.D5 f neg+(e.toNat*2^Dy.A6 f+r.toNat):Nat)⟩
 |_=>none
def A86:List AV→Option Spec
 |[.num .u8 f,.num .u64 w,.bool neg]=>some ⟨some (Dy.isF f),.num .u64 (Dy.D5 f neg+Dy.R1 f w.toNat:Nat)⟩
 |_=>none
def C83:List AV→Option Spec
 |[.agg [.bool s,.dig [1] m,.num .i64 e]]=>some ⟨some (Dy.A5 ⟨s,m,e⟩=true),avD [0,1] (Dy.shD ⟨s,m,e⟩ (-1))⟩
 |_=>none
def D5s (x:Nat):List AV→Option Spec
 |[.dig [1] a,.num .i64 n]=>some ⟨some (0≤n∧n≤33554432∧a.length≤1048576∧Dy.dg (Dy.val a*2^n.toNat)=[x]),.dig [0] [x]⟩
 |_=>none
def D5u (X Y:Int):List AV→Option Spec
 |[.dig [1] a,.num .i64 n]=>some ⟨some (0≤n∧n≤33554432∧a.length≤1048576∧(Dy.dg (Dy.val a*2^n.toNat)).map Int.ofNat=[X,Y]),.vec [0] 1 [.num .u32 X,.num .u32 Y]⟩
 |_=>none
def XR:List (Nat×(List AV→Option Spec)):=(98,sUp)::(49,D5g)::(50,D4r)::(159,C88)::(157,C84)::(40,A86)::(194,C83)::XQ
def iInf:List AV→Option Spec
 |[.num .u8 f,.bool neg]=>some ⟨some (Dy.isF f),.num .u64 (Dy.D5 f neg+Dy.N6 f:Nat)⟩
 |_=>none
def C85:List AV→Option Spec
 |[.num .u8 f]=>some ⟨some (Dy.isF f),.num .u64 (Dy.T7 f:Nat)⟩
 |_=>none
def B94:List AV→Option Spec
 |[.num .u8 m,.agg [.bool s,.dig [2] l,.num .i64 e],.num .i64 k]=>some ⟨some (Dy.small ⟨s,l,e⟩∧l≠[]∧ -11000≤k∧k≤11000∧1≤m∧m≤5),avD [0,1,2,3] (Dy.OG m ⟨s,l,e⟩ k)⟩
 |_=>none
def iOf:List AV→Option Spec
 |[.num .u8 f,.agg [.bool s,.dig [2] m,.num .i64 e]]=>some ⟨some (Dy.isF f∧s=false∧Dy.A5 ⟨s,m,e⟩=true∧Dy.bl (Dy.val m)≤Dy.A6 f+1∧(m≠[]→Dy.C9 f≤e∧Dy.C7 ⟨s,m,e⟩≤Dy.P8 f)),
   .tup [.num .u64 (if m=[] then 0 else Dy.DD f ⟨s,m,e⟩:Nat),.bool true]⟩
 |_=>none
def B95:List AV→Option Spec
 |[.num .u8 f,.num .u64 w]=>some ⟨some (Dy.H9 f w=0∧Dy.D3 f w.toNat<4),avD [0] (Dy.S6 f w.toNat)⟩
 |_=>none
def C4v:List (Nat×(List AV→Option Spec)):=(92,iInf)::(93,C85)::(158,B94)::(161,iOf)::(14,B95)::XR
def C86:List AV→Option Spec
 |[.num .u8 f,.num .u8 m,.bool neg]=>some ⟨some (Dy.isF f),.num .u64 (Dy.NX f m neg:Nat)⟩
 |_=>none
def A85:List AV→Option Spec
 |[.agg [.bool s,.dig [1] m,.num .i64 e],.bool lost]=>some ⟨some (Dy.small ⟨s,m,e⟩),avD [0,1,2] (Dy.CU ⟨s,m,e⟩ lost)⟩
 |_=>none
def D1g:List (Nat×(List AV→Option Spec)):=(160,C86)::(95,A85)::C4v
def B93:List AV→Option Spec
 |[.num .u8 f,.num .u8 m,.agg [.bool s,.dig [3] d,.num .i64 e]]=>
  some ⟨some (Dy.L2 f m=0∧Dy.small ⟨s,d,e⟩),.tup [.num .u64 ((Dy.H8 f m ⟨s,d,e⟩).1:Nat),.num .u8 (Dy.H8 f m ⟨s,d,e⟩).2]⟩
 |_=>none
def D1h:List (Nat×(List AV→Option Spec)):=(94,B93)::D1g
def C87:List AV→Option Spec
 |[.num .u8 f,.num .u8 m,.agg [.bool s,.dig [3] d,.num .i64 e]]=>
  some ⟨some (Dy.L2 f m=0∧s=false∧Dy.small ⟨s,d,e⟩),.tup [.num .u64 ((Dy.S3 f m ⟨s,d,e⟩).1:Nat),.num .u8 (Dy.S3 f m ⟨s,d,e⟩).2]⟩
 |_=>none
def FJ:List (Nat×(List AV→Option Spec)):=(37,C87)::D1h
end Go.AI

namespace Go.Dy
set_option maxRecDepth 100000
theorem A2m {p p':Prt} (ht:p.top=p'.top) (h:p.h/16=p'.h/16) (s:(p.more||decide (p.h%16≠0))=true) (s':(p'.more||decide (p'.h%16≠0))=true) {m e:Int} {neg:Bool} (he:p.top-59≤e):
  H4 p m neg e=H4 p' m neg e:=by
 unfold H4
 rw [←ht]
 split
 ·rfl
 ·obtain ⟨k,hk⟩:∃k:Nat,(e-p.top+64).toNat=k+5:=⟨(e-p.top+64).toNat-5,by omega⟩
  have a:∀n j:Nat,n/2^(j+4)=n/16/2^j:=fun n j=>by
   rw [K7,B8,B6]
  have b:∀q:Prt,(q.more||decide (q.h%16≠0))=true→(q.more||decide (q.h%2^(k+4)≠0))=true:=fun q hq=>by
   simp only [Y4,decide_eq_true_eq] at hq ⊢
   rcases hq with c|c
   ·exact .inl c
   ·refine .inr fun d=>c ?_
    obtain ⟨x,hx⟩:=Nat.dvd_of_mod_eq_zero d
    rw [hx,B8,B9,B6,B9]
    exact Nat.mul_mod_right _ _
  rw [hk]
  unfold DG GS NY
  rw [show k+5-1=k+4 by omega,b p s,b p' s',show k+5=k+1+4 by omega,a p.h (k+1),a p'.h (k+1),a p.h k,a p'.h k,h]
theorem A3f {f m:Int} {neg:Bool} (hf:isF f) {p p':Prt} (ht:p.top=p'.top) (h:p.h/16=p'.h/16) (s:(p.more||decide (p.h%16≠0))=true) (s':(p'.more||decide (p'.h%16≠0))=true):
  R4 f m neg p=R4 f m neg p':=by
 have hF:A6 f≤52:=by rcases J0 hf with c|c<;>omega
 have hE:K6 f p=K6 f p':=by unfold K6;rw [ht]
 have h1:=A2m ht h s s' (m:=m) (e:=K6 f p) (neg:=neg) (by unfold K6;omega)
 have h2:=A2m ht h s s' (m:=m) (e:=p.top-(A6 f+1)) (neg:=neg) (by omega)
 unfold R4
 rw [h1,h2,hE,ht]
theorem EX {s:Bool} {q:Nat} {e:Int} (h:q≠0):(form s q e).neg=s:=by rw [H6 h]
theorem CH {s:Bool} {q:Nat} {e:Int} (h:q≠0):(form s q e).mag≠[]:=by
 rw [H6 h]
 intro c
 have h0:=T6.1 c
 have h1:=T0 h
 omega
theorem LG {s:Bool} {q:Nat} {e:Int} (h0:q≠0) (hb:bl q≤64):I9 (form s q e)=⟨q*2^(64-bl q),e+bl q,false⟩:=by
 have ht:=O6 (s:=s) (e:=e) h0
 unfold I9
 rw [ht]
 rw [H6 h0]
 simp only [E3]
 obtain ⟨r,hr⟩:=HN q
 have hq:q/2^tz q=r:=by
  conv=>lhs;arg 1;rw [hr]
  exact Nat.mul_div_cancel_left _ (A9 _)
 have hr0:r≠0:=fun c=>by rw [c,O3] at hr;exact h0 hr
 have hbl:bl q=bl r+tz q:=by
  conv=>lhs;rw [hr,B6]
  exact E7 hr0 _
 have e1:q*2^(64-bl q)=r*2^(64-bl r):=by
  have h2:r*2^tz q=q:=by rw [B6];exact hr.symm
  rw [show 64-bl r=tz q+(64-bl q) by omega,B8,←B9,h2]
 rw [hq,if_pos (show bl r≤64 by omega),decide_eq_false (by omega),e1]
theorem B06 {s:Bool} {c:Nat} {e:Int} (hb:bl c=64):I9 (form s (4*c+1) e)=⟨c,e+66,true⟩:=by
 have hbl:bl (4*c+1)=66:=by
  have h1:bl ((4*c+1)/2^2)=bl (4*c+1)-2:=C5 _ _
  rw [show (4*c+1)/2^2=c by omega,hb] at h1
  omega
 have ht:=O6 (s:=s) (e:=e) (show 4*c+1≠0 by omega)
 unfold I9
 rw [ht,NK (by omega)]
 simp only [E3]
 rw [hbl,if_neg (by decide),decide_eq_true ⟨by decide,by omega⟩]
 congr 1
 omega
theorem XV {s:Bool} {q:Nat} (h0:q≠0) {e:Int}:(bif s then GF (form s q e) (K0 (e-2)) else C2 (form s q e) (K0 (e-2)))=form s (4*q+1) (e-2):=by
 have hx:=KT (s:=s) (e:=e) h0
 have ha:at_ (form s q e) (e-2)=sgn s (q*4):=by
  rw [KK (by omega),show (e-(e-2)).toNat=2 by omega]
 have hu:at_ (K0 (e-2)) (e-2)=1:=by
  unfold K0
  rw [j6,show (e-2-(e-2)).toNat=0 by omega]
  rfl
 have hue:(K0 (e-2)).exp=e-2:=rfl
 cases s
 ·simp only [cond_false]
  rw [x5 (u:=e-2) (by omega) (by omega),ha,hu,W2]
  congr 1
  unfold sgn
  simp only [Bool.false_eq_true,if_false]
  omega
 ·simp only [cond_true]
  unfold GF
  rw [x5 (u:=e-2) (by omega) (by show e-2≤e-2;omega),FX,ha,hu,W2]
  congr 1
  unfold sgn
  simp only [if_true]
  omega
theorem OQ {s:Bool} {q:Nat} {e:Int} (hb:bl q=60):CU (form s q e) true=form s (4*q+1) (e-2):=by
 have h0:q≠0:=fun c=>by rw [c,K2] at hb;omega
 unfold CU
 rw [EX h0,O6 h0,show e+(bl q:Int)-62=e-2 by omega,cond_true]
 exact XV h0
theorem C55 {s:Bool} {q:Nat} {e:Int} (hb:bl q=64):K4 (form s q e)=form s (4*q+1) (e-2):=by
 have h0:q≠0:=fun c=>by rw [c,K2] at hb;omega
 unfold K4
 rw [EX h0,O6 h0,show e+(bl q:Int)-66=e-2 by omega,←XV h0]
 cases s<;>rfl
theorem KM {q k:Nat} (hb:bl q=k) (hk:1≤k):bl (4*q+1)=k+2:=by
 have h1:bl ((4*q+1)/2^2)=bl (4*q+1)-2:=C5 _ _
 rw [show (4*q+1)/2^2=q by omega,hb] at h1
 omega
theorem C1c {f m:Int} (hf:isF f) {s:Bool} {c q:Nat} {e x:Int} (hc:bl c=64) (hq:q=c/16) (hx:x=e+4):H8 f m (CU (form s q x) true)=H8 f m (K4 (form s c e)):=by
 have hbq:bl q=60:=by
  have:bl (c/2^4)=bl c-4:=C5 _ _
  rw [hq,show c/16=c/2^4 from rfl,this,hc]
 rw [OQ hbq,C55 hc]
 unfold H8
 rw [if_neg (CH (by omega)),if_neg (CH (by omega)),EX (by omega),EX (by omega),B06 hc,LG (by omega) (by rw [KM hbq (by decide)];decide)]
 rw [KM hbq (by decide)]
 refine A3f hf ?_ ?_ ?_ ?_
 ·dsimp only;omega
 ·dsimp only
  rw [show 64-(60+2)=2 from rfl]
  omega
 ·simp only [PZ,decide_eq_true_eq]
  rw [show 64-(60+2)=2 from rfl]
  omega
 ·rfl
theorem IN {d:Dyd} (hd:A5 d=true) (hs:d.neg=false) (h0:d.mag≠[]) {V n X:Nat} (hn:1≤n) (hV: -(2*V:Int)≤d.exp-(2*n+4)) (hX:at_ d (-(2*V:Int))=X):
  ∃b:Nat,bl (isq X)=n+b∧(C3 d n).1=form false (isq X/2^b) (-(V:Int)+b)∧((C3 d n).2=false ↔ isq X*isq X=X∧isq X%2^b=0):=by
 obtain ⟨L,u, -, -,l1,l2, -, -,l5,q,x1,r1,r2,r3,r4,r5, -⟩:=Z7 hd hs h0 hn hV hX
 obtain ⟨b,hb⟩:∃b:Nat,(x1+V).toNat=b:=⟨_,rfl⟩
 rw [hb] at r4 r5
 have hup:=A9 b
 have s1:L≤isq X:=GX l1
 have s2:isq X<L+u:=A0b l2
 have hq:isq X/2^b=q:=by
  refine Nat.div_eq_of_lt_le ?_ ?_
  ·omega
  ·rw [H2,Q2];omega
 refine ⟨b,?_,?_,?_⟩
 ·have:=C5 (isq X) b
  rw [hq,r2] at this
  omega
 ·rw [hq,r1]
  congr 1
  omega
 ·have hdm:=Q6 (isq X) (2^b)
  rw [hq,B6] at hdm
  have:(C3 d n).2=false ↔ L*L=X:=by
   constructor
   ·intro c
    refine G8 fun h=> ?_
    have:=l5.2 h
    rw [c] at this
    cases this
   ·intro h
    cases c:(C3 d n).2
    ·rfl
    ·exact absurd h (l5.1 c)
  rw [this]
  constructor
  ·intro h
   have:isq X=L:=by rw [←h];exact GV (Nat.le_refl _) (by rw [H2,Nat.mul_add];omega)
   refine ⟨by rw [this];exact h,?_⟩
   omega
  ·rintro ⟨h1,h2⟩
   have:isq X=L:=by omega
   rw [←this]
   exact h1
theorem C67 {f m:Int} (hf:isF f) {d:Dyd} (hd:A5 d=true) (hs:d.neg=false) (h0:d.mag≠[]):H8 f m (CU (C3 d 60).1 (C3 d 60).2)=S3 f m d:=by
 have hx:=J2 (s:=d.neg) (m:=d.mag) (e:=d.exp) hd
 obtain ⟨V,hV⟩:∃V:Nat,V=20000000:=⟨_,rfl⟩
 obtain ⟨b,h1,h2,h3⟩:=IN hd hs h0 (V:=V) (n:=60) (by decide) (by omega) (v7 hs _)
 obtain ⟨b',k1,k2,k3⟩:=IN hd hs h0 (V:=V) (n:=64) (by decide) (by omega) (v7 hs _)
 have h2:(C3 d 60).1=_:=h2
 have k2:(C3 d 64).1=_:=k2
 have h3:(C3 d 60).2=false ↔ _:=h3
 have k3:(C3 d 64).2=false ↔ _:=k3
 generalize val d.mag*2^(d.exp - -(2*V:Int)).toNat=X at*
 generalize isq X=s at*
 have hbb:b=b'+4:=by omega
 subst hbb
 have eq:s/2^(b'+4)=s/2^b'/16:=by rw [K7,B8]
 have c1:bl (s/2^b')=64:=by rw [C5];omega
 have c0:bl (s/2^b'/16)=60:=by rw [←eq,C5];omega
 have hmm:=Q6 s (2^b')
 have hm4:s%2^(b'+4)=s%2^b'+2^b'*(s/2^b'%16):=by rw [B8];exact MU
 have hp:=A9 b'
 unfold S3
 rw [if_neg h0,h2,k2,eq]
 generalize s/2^b'=c at*
 have hc0:c≠0:=fun e=>by rw [e,K2] at c1;omega
 have hq0:c/16≠0:=fun e=>by rw [e,K2] at c0;omega
 rw [LG hc0 (by omega),c1]
 cases hl:(C3 d 60).2
 ·obtain ⟨g1,g2⟩:=h3.1 hl
  have g3:s%2^b'=0:=by omega
  have g4:c%16=0:=by
   rcases Nat.eq_zero_or_pos (c%16) with e|e
   ·exact e
   ·have:=U9 hp e
    omega
  rw [k3.2 ⟨g1,g3⟩]
  unfold CU H8
  rw [cond_false,if_neg (CH hq0),EX hq0,LG hq0 (by omega),c0]
  congr 2
  ·dsimp only;rw [show 64-60=4 from rfl,show 64-64=0 from rfl];omega
  ·dsimp only;omega
 ·rw [OQ c0]
  unfold H8
  rw [if_neg (CH (by omega)),EX (by omega),LG (by omega) (by rw [KM c0 (by decide)];decide),KM c0 (by decide)]
  refine A3f hf ?_ ?_ ?_ ?_
  ·dsimp only;omega
  ·dsimp only
   rw [show 64-(60+2)=2 from rfl,show 64-64=0 from rfl]
   omega
  ·simp only [PZ,decide_eq_true_eq]
   rw [show 64-(60+2)=2 from rfl]
   omega
  ·simp only [PZ,Y4,decide_eq_true_eq]
   rw [show 64-64=0 from rfl]
   cases hk:(C3 d 64).2
   ·right
    intro e
    obtain ⟨g1,g2⟩:=k3.1 hk
    have:(C3 d 60).2=false:=h3.2 ⟨g1,by rw [hm4,g2,show c%16=0 by omega,O3]⟩
    rw [hl] at this
    cases this
   ·exact .inl rfl
end Go.Dy

namespace Go.AI
open Dy IntKind
open Go Go.RowKit Go.Proofs
set_option linter.unusedVariables false
set_option maxRecDepth 100000
set_option maxHeartbeats 0
theorem B7j (n:Int) (Q:AV→Prop):(evF Tryz.prog (look D46) (lam []) false Tryz.f49 [.num .i64 n] Q)=(Q (.agg [.bool false,.dig [0] [1],.num .i64 n])):=by kernel_rfl
end Go.AI

namespace Go.Dy
end Go.Dy
namespace Go.AI
open Go Go.RowKit Go.Proofs
set_option linter.unusedVariables false
set_option maxRecDepth 100000
set_option maxHeartbeats 1000000
theorem B4e (args:List AV) (s:Spec) (h:D5g args=some s) (hp:C6 s.pre True):Contract Tryz.prog Inv 49 args s.res:=by
 unfold D5g at h
 split at h
 ·cases h
  rename_i n
  refine A4 false C9q Tryz.func49 (by kernel_rfl) (by kernel_rfl) fun hok=> ?_
  rw [B7j]
  rfl
 ·cases h
end Go.AI

namespace Go.AI
open Dy Dyd IntKind
open Go Go.RowKit Go.Proofs
set_option linter.unusedVariables false
set_option maxRecDepth 100000
set_option maxHeartbeats 0
theorem C6q (f:Int) (Q:AV→Prop):(evF Tryz.prog (look XQ) (lam []) false Tryz.f50 [.num .u8 f] Q)=(bif decide (f=1) then Q (.num .i64 (-149)) else Q (.num .i64 (-1074))):=by kernel_rfl
theorem C2s (f:Int) (Q:AV→Prop):(evF Tryz.prog (look XQ) (lam []) false Tryz.f159 [.num .u8 f] Q)=(bif decide (f=1) then Q (.num .i64 128) else Q (.num .i64 1024)):=by kernel_rfl
theorem C2q (f:Int) (neg:Bool) (e:Int) (r:Int) (Q:AV→Prop):(evF Tryz.prog (look XQ) (lam []) false Tryz.f157 [.num .u8 f,.agg [.bool neg,.num .i64 e,.num .u64 r]] Q)=((0:Int)≤(↑(A6 f):Int)∧bif neg then Q (.num .u64 (u64.wrap (u64.wrap (u64.wrap (u64.wrap e*2^min (↑(A6 f):Int).toNat (64:Nat))+r)+(↑((2:Nat)^M8 f):Int)))) else Q (.num .u64 (u64.wrap (u64.wrap (u64.wrap e*2^min (↑(A6 f):Int).toNat (64:Nat))+r)))):=by kernel_rfl
theorem B18 (f:Int) (w:Int) (neg:Bool) (Q:AV→Prop):(evF Tryz.prog (look XQ) (lam []) false Tryz.f40 [.num .u8 f,.num .u64 w,.bool neg] Q)=((↑((2:Nat)^M8 f):Int)≠0∧bif neg then Q (.num .u64 (u64.wrap (w.tmod (↑((2:Nat)^M8 f):Int)+(↑((2:Nat)^M8 f):Int)))) else Q (.num .u64 (w.tmod (↑((2:Nat)^M8 f):Int)))):=by kernel_rfl
theorem C2v (s:Bool) (m:List Nat) (e:Int) (Q:AV→Prop):(evF Tryz.prog (look XQ) (lam []) true Tryz.f194 [.agg [.bool s,.dig [1] m,.num .i64 e]] Q)=((m=[]∨ -1099511627776≤e∧e≤1099511627776∧(-1099511627776:Int)≤(-1:Int)∧(-1:Int)≤1099511627776)∧∀b1,b1=s→∀(l2:List Nat),l2=m→∀(n3:Int),(n3=if m=[] then e else e+(-1:Int))→Q (.agg [.bool b1,.dig [0,1] l2,.num .i64 n3])):=by kernel_rfl
theorem C6p (f:Int) (neg:Bool) (Q:AV→Prop):(evF Tryz.prog (look XR) (lam []) false Tryz.f92 [.num .u8 f,.bool neg] Q)=((isF f∧(0:Int)≤(↑(P7 f):Int)∧(↑(P7 f):Int)≤(↑(P7 f):Int)∧(0:Int)≤0∧(0:Int)<(↑((2:Nat)^A6 f):Int))∧Q (.num .u64 (↑(D5 f neg+((↑(P7 f):Int).toNat*2^A6 f+0)):Int))):=by kernel_rfl
theorem C2r (f:Int) (Q:AV→Prop):(evF Tryz.prog (look XR) (lam []) false Tryz.f93 [.num .u8 f] Q)=((0:Int)≤i64.wrap ((↑(A6 f):Int)-1)∧(isF f∧(0:Int)≤(↑(P7 f):Int)∧(↑(P7 f):Int)≤(↑(P7 f):Int)∧(0:Int)≤u64.wrap ((1:Int)*2^min (i64.wrap ((↑(A6 f):Int)-1)).toNat (64:Nat))∧u64.wrap ((1:Int)*2^min (i64.wrap ((↑(A6 f):Int)-1)).toNat (64:Nat))<(↑((2:Nat)^A6 f):Int))∧Q (.num .u64 (↑(D5 f false+((↑(P7 f):Int).toNat*2^A6 f+(u64.wrap ((1:Int)*2^min (i64.wrap ((↑(A6 f):Int)-1)).toNat (64:Nat))).toNat)):Int))):=by kernel_rfl
theorem B79 (m:Int) (s:Bool) (l:List Nat) (e:Int) (k:Int) (Q:AV→Prop):(evF Tryz.prog (look XR) (lam []) true Tryz.f158 [.num .u8 m,.agg [.bool s,.dig [2] l,.num .i64 e],.num .i64 k] Q)=((l=[]∨ -1099511627776≤e∧e≤1099511627776∧(-1099511627776:Int)≤i64.wrap ((0:Int)-k)∧i64.wrap ((0:Int)-k)≤1099511627776)∧∀b1,b1=s→∀(l2:List Nat),l2=l→∀(n3:Int),(n3=if l=[] then e else e+i64.wrap ((0:Int)-k))→A5 (mk b1 l2 n3)=true∧dyF (T8 (mk b1 l2 n3)) fun b4 l5 n6=>(l5=[]∨ -1099511627776≤n6∧n6≤1099511627776∧ -1099511627776≤k∧k≤1099511627776)∧∀b7,b7=b4→∀(l8:List Nat),l8=l5→∀(n9:Int),(n9=if l5=[] then n6 else n6+k)→bif DZ (mk b7 l8 n9) (mk s l e) then Q (.agg [.bool s,.dig [0,1,2,3] l,.num .i64 e]) else dyF (K0 k) fun b10 l11 n12=>(A5 (mk b7 l8 n9)=true∧A5 (mk b10 l11 n12)=true∧(l8=[]∨l11=[]∨ -300000≤n9-n12∧n9-n12≤300000))∧dyF (C2 (mk b7 l8 n9) (mk b10 l11 n12)) fun b13 l14 n15=>bif s then bif decide (m=5) then Q (.agg [.bool b7,.dig [0,1,2,3] l8,.num .i64 n9]) else bif decide (m=4) then Q (.agg [.bool b13,.dig [0,1,2,3] l14,.num .i64 n15]) else bif decide (m=3) then Q (.agg [.bool b13,.dig [0,1,2,3] l14,.num .i64 n15]) else (A5 (mk s l e)=true∧A5 (mk b7 l8 n9)=true∧(l=[]∨l8=[]∨ -300000≤e-n9∧e-n9≤300000))∧dyF (C2 (mk s l e) (G9 (mk b7 l8 n9))) fun b16 l17 n18=>(A5 (mk b13 l14 n15)=true∧A5 (mk s l e)=true∧(l14=[]∨l=[]∨ -300000≤n15-e∧n15-e≤300000))∧dyF (C2 (mk b13 l14 n15) (G9 (mk s l e))) fun b19 l20 n21=>(A5 (mk b16 l17 n18)=true∧A5 (mk b19 l20 n21)=true)∧bif decide (Y1 (mk b16 l17 n18) (mk b19 l20 n21)<0) then Q (.agg [.bool b7,.dig [0,1,2,3] l8,.num .i64 n9]) else bif decide (Y1 (mk b16 l17 n18) (mk b19 l20 n21)>0) then Q (.agg [.bool b13,.dig [0,1,2,3] l14,.num .i64 n15]) else bif decide (m=2) then Q (.agg [.bool b7,.dig [0,1,2,3] l8,.num .i64 n9]) else (l8=[]∨ -1099511627776≤n9∧n9≤1099511627776∧(-1099511627776:Int)≤i64.wrap ((0:Int)-k)∧i64.wrap ((0:Int)-k)≤1099511627776)∧∀b22,b22=b7→∀(l23:List Nat),l23=l8→∀(n24:Int),(n24=if l8=[] then n9 else n9+i64.wrap ((0:Int)-k))→A5 (mk b22 l23 n24)=true∧dyF (shD (mk b22 l23 n24) (-1:Int)) fun b25 l26 n27=>A5 (mk b25 l26 n27)=true∧dyF (T8 (mk b25 l26 n27)) fun b28 l29 n30=>A5 (mk b22 l23 n24)=true∧dyF (shD (mk b22 l23 n24) (-1:Int)) fun b31 l32 n33=>bif DZ (mk b28 l29 n30) (mk b31 l32 n33) then Q (.agg [.bool b7,.dig [0,1,2,3] l8,.num .i64 n9]) else Q (.agg [.bool b13,.dig [0,1,2,3] l14,.num .i64 n15]) else bif decide (m=5) then Q (.agg [.bool b7,.dig [0,1,2,3] l8,.num .i64 n9]) else bif decide (m=4) then Q (.agg [.bool b13,.dig [0,1,2,3] l14,.num .i64 n15]) else bif decide (m=3) then Q (.agg [.bool b7,.dig [0,1,2,3] l8,.num .i64 n9]) else (A5 (mk s l e)=true∧A5 (mk b7 l8 n9)=true∧(l=[]∨l8=[]∨ -300000≤e-n9∧e-n9≤300000))∧dyF (C2 (mk s l e) (G9 (mk b7 l8 n9))) fun b34 l35 n36=>(A5 (mk b13 l14 n15)=true∧A5 (mk s l e)=true∧(l14=[]∨l=[]∨ -300000≤n15-e∧n15-e≤300000))∧dyF (C2 (mk b13 l14 n15) (G9 (mk s l e))) fun b37 l38 n39=>(A5 (mk b34 l35 n36)=true∧A5 (mk b37 l38 n39)=true)∧bif decide (Y1 (mk b34 l35 n36) (mk b37 l38 n39)<0) then Q (.agg [.bool b7,.dig [0,1,2,3] l8,.num .i64 n9]) else bif decide (Y1 (mk b34 l35 n36) (mk b37 l38 n39)>0) then Q (.agg [.bool b13,.dig [0,1,2,3] l14,.num .i64 n15]) else bif decide (m=2) then Q (.agg [.bool b13,.dig [0,1,2,3] l14,.num .i64 n15]) else (l8=[]∨ -1099511627776≤n9∧n9≤1099511627776∧(-1099511627776:Int)≤i64.wrap ((0:Int)-k)∧i64.wrap ((0:Int)-k)≤1099511627776)∧∀b40,b40=b7→∀(l41:List Nat),l41=l8→∀(n42:Int),(n42=if l8=[] then n9 else n9+i64.wrap ((0:Int)-k))→A5 (mk b40 l41 n42)=true∧dyF (shD (mk b40 l41 n42) (-1:Int)) fun b43 l44 n45=>A5 (mk b43 l44 n45)=true∧dyF (T8 (mk b43 l44 n45)) fun b46 l47 n48=>A5 (mk b40 l41 n42)=true∧dyF (shD (mk b40 l41 n42) (-1:Int)) fun b49 l50 n51=>bif DZ (mk b46 l47 n48) (mk b49 l50 n51) then Q (.agg [.bool b7,.dig [0,1,2,3] l8,.num .i64 n9]) else Q (.agg [.bool b13,.dig [0,1,2,3] l14,.num .i64 n15])):=by kernel_rfl
theorem B77 (f:Int) (w:Int) (Q:AV→Prop):(evF Tryz.prog (look XR) (lam []) false Tryz.f14 [.num .u8 f,.num .u64 w] Q)=(H9 f w=0∧∀b1,b1=o9 f w.toNat→∀n2,n2=(↑(Y3 f w.toNat):Int)→∀n3,n3=(↑(wFr f w.toNat):Int)→bif decide (n2=0) then (dg (val (dg n3.toNat))=dg n3.toNat∧(dg n3.toNat).length≤1048576∧ -1099511627776≤C9 f∧C9 f≤1099511627776)∧dyF (form b1 (val (dg n3.toNat)) (C9 f)) fun b4 l5 n6=>Q (.agg [.bool b4,.dig [0] l5,.num .i64 n6]) else (0:Int)≤(↑(A6 f):Int)∧(dg (val (dg (u64.wrap (u64.wrap ((1:Int)*2^min (↑(A6 f):Int).toNat (64:Nat))+n3)).toNat))=dg (u64.wrap (u64.wrap ((1:Int)*2^min (↑(A6 f):Int).toNat (64:Nat))+n3)).toNat∧(dg (u64.wrap (u64.wrap ((1:Int)*2^min (↑(A6 f):Int).toNat (64:Nat))+n3)).toNat).length≤1048576∧(-1099511627776:Int)≤i64.wrap (i64.wrap (n2-1)+C9 f)∧i64.wrap (i64.wrap (n2-1)+C9 f)≤1099511627776)∧dyF (form b1 (val (dg (u64.wrap (u64.wrap ((1:Int)*2^min (↑(A6 f):Int).toNat (64:Nat))+n3)).toNat)) (i64.wrap (i64.wrap (n2-1)+C9 f))) fun b7 l8 n9=>Q (.agg [.bool b7,.dig [0] l8,.num .i64 n9])):=by kernel_rfl
theorem C2t (f:Int) (m:Int) (neg:Bool) (Q:AV→Prop):(evF Tryz.prog (look C4v) (lam []) false Tryz.f160 [.num .u8 f,.num .u8 m,.bool neg] Q)=(bif decide (m=3) then isF f∧Q (.num .u64 (u64.wrap ((↑(D5 f neg+N6 f):Int)-1))) else bif decide (m=4) then bif neg then isF f∧Q (.num .u64 (u64.wrap ((↑(D5 f neg+N6 f):Int)-1))) else bif decide (m=5) then bif !neg then isF f∧Q (.num .u64 (u64.wrap ((↑(D5 f neg+N6 f):Int)-1))) else isF f∧Q (.num .u64 (↑(D5 f neg+N6 f):Int)) else isF f∧Q (.num .u64 (↑(D5 f neg+N6 f):Int)) else bif decide (m=5) then bif !neg then isF f∧Q (.num .u64 (u64.wrap ((↑(D5 f neg+N6 f):Int)-1))) else isF f∧Q (.num .u64 (↑(D5 f neg+N6 f):Int)) else isF f∧Q (.num .u64 (↑(D5 f neg+N6 f):Int))):=by kernel_rfl
theorem B19 (s:Bool) (l:List Nat) (e:Int) (lost:Bool) (Q:AV→Prop):(evF Tryz.prog (look C4v) (lam []) true Tryz.f95 [.agg [.bool s,.dig [1] l,.num .i64 e],.bool lost] Q)=(bif !lost then Q (.agg [.bool s,.dig [0,1,2] l,.num .i64 e]) else (dg (val l)=l∧l.length≤1048576∧ -1099511627776≤e∧e≤1099511627776)∧dyF (K0 (i64.wrap (i64.wrap (C7 (mk s l e)-60)-2))) fun b1 l2 n3=>bif s then (A5 (mk s l e)=true∧A5 (mk b1 l2 n3)=true∧(l=[]∨l2=[]∨ -300000≤e-n3∧e-n3≤300000))∧dyF (C2 (mk s l e) (G9 (mk b1 l2 n3))) fun b4 l5 n6=>Q (.agg [.bool b4,.dig [0,1,2] l5,.num .i64 n6]) else (A5 (mk s l e)=true∧A5 (mk b1 l2 n3)=true∧(l=[]∨l2=[]∨ -300000≤e-n3∧e-n3≤300000))∧dyF (C2 (mk s l e) (mk b1 l2 n3)) fun b7 l8 n9=>Q (.agg [.bool b7,.dig [0,1,2] l8,.num .i64 n9])):=by kernel_rfl
theorem B78 (f:Int) (m:Int) (s:Bool) (l:List Nat) (e:Int) (Q:AV→Prop):(evF Tryz.prog (look D1g) (lam []) false Tryz.f94 [.num .u8 f,.num .u8 m,.agg [.bool s,.dig [3] l,.num .i64 e]] Q)=(bif decide (F0 (mk s l e)=0) then Q (.tup [.num .u64 0,.num .u8 0]) else (dg (val l)=l∧l.length≤1048576∧ -1099511627776≤e∧e≤1099511627776)∧bif decide (i64.wrap (C7 (mk s l e)-i64.wrap ((↑(A6 f):Int)+1))<C9 f) then (small (mk s l e)∧l≠[]∧ -11000≤C9 f∧C9 f≤11000∧1≤m∧m≤5)∧dyF (OG m (mk s l e) (C9 f)) fun b1 l2 n3=>(dg (val l2)=l2∧l2.length≤1048576∧ -1099511627776≤n3∧n3≤1099511627776)∧bif decide (C7 (mk b1 l2 n3)>P8 f) then isF f∧Q (.tup [.num .u64 (↑(NX f m s):Int),.num .u8 20]) else∀b4,b4=false→∀(l5:List Nat),l5=l2→∀n6,n6=n3→(isF f∧b4=false∧A5 (mk b4 l5 n6)=true∧bl (val l5)≤A6 f+1∧(l5≠[]→C9 f≤n6∧C7 (mk b4 l5 n6)≤P8 f))∧∀n7,n7=(↑(if l5=[] then (0:Nat) else DD f (mk b4 l5 n6)):Int)→∀b8,b8=true→isF f∧bif DZ (mk s l e) (mk b1 l2 n3) then Q (.tup [.num .u64 (↑(D5 f s+R1 f n7.toNat):Int),.num .u8 0]) else (small (mk s l e)∧l≠[]∧(-11000:Int)≤i64.wrap (C7 (mk s l e)-i64.wrap ((↑(A6 f):Int)+1))∧i64.wrap (C7 (mk s l e)-i64.wrap ((↑(A6 f):Int)+1))≤11000∧1≤m∧m≤5)∧dyF (OG m (mk s l e) (i64.wrap (C7 (mk s l e)-i64.wrap ((↑(A6 f):Int)+1)))) fun b9 l10 n11=>(dg (val l10)=l10∧l10.length≤1048576∧ -1099511627776≤n11∧n11≤1099511627776)∧bif decide (C7 (mk b9 l10 n11)<i64.wrap (C9 f+i64.wrap ((↑(A6 f):Int)+1))) then Q (.tup [.num .u64 (↑(D5 f s+R1 f n7.toNat):Int),.num .u8 24]) else Q (.tup [.num .u64 (↑(D5 f s+R1 f n7.toNat):Int),.num .u8 16]) else (small (mk s l e)∧l≠[]∧(-11000:Int)≤i64.wrap (C7 (mk s l e)-i64.wrap ((↑(A6 f):Int)+1))∧i64.wrap (C7 (mk s l e)-i64.wrap ((↑(A6 f):Int)+1))≤11000∧1≤m∧m≤5)∧dyF (OG m (mk s l e) (i64.wrap (C7 (mk s l e)-i64.wrap ((↑(A6 f):Int)+1)))) fun b12 l13 n14=>(dg (val l13)=l13∧l13.length≤1048576∧ -1099511627776≤n14∧n14≤1099511627776)∧bif decide (C7 (mk b12 l13 n14)>P8 f) then isF f∧Q (.tup [.num .u64 (↑(NX f m s):Int),.num .u8 20]) else∀b15,b15=false→∀(l16:List Nat),l16=l13→∀n17,n17=n14→(isF f∧b15=false∧A5 (mk b15 l16 n17)=true∧bl (val l16)≤A6 f+1∧(l16≠[]→C9 f≤n17∧C7 (mk b15 l16 n17)≤P8 f))∧∀n18,n18=(↑(if l16=[] then (0:Nat) else DD f (mk b15 l16 n17)):Int)→∀b19,b19=true→isF f∧bif DZ (mk s l e) (mk b12 l13 n14) then Q (.tup [.num .u64 (↑(D5 f s+R1 f n18.toNat):Int),.num .u8 0]) else (small (mk s l e)∧l≠[]∧(-11000:Int)≤i64.wrap (C7 (mk s l e)-i64.wrap ((↑(A6 f):Int)+1))∧i64.wrap (C7 (mk s l e)-i64.wrap ((↑(A6 f):Int)+1))≤11000∧1≤m∧m≤5)∧dyF (OG m (mk s l e) (i64.wrap (C7 (mk s l e)-i64.wrap ((↑(A6 f):Int)+1)))) fun b20 l21 n22=>(dg (val l21)=l21∧l21.length≤1048576∧ -1099511627776≤n22∧n22≤1099511627776)∧bif decide (C7 (mk b20 l21 n22)<i64.wrap (C9 f+i64.wrap ((↑(A6 f):Int)+1))) then Q (.tup [.num .u64 (↑(D5 f s+R1 f n18.toNat):Int),.num .u8 24]) else Q (.tup [.num .u64 (↑(D5 f s+R1 f n18.toNat):Int),.num .u8 16])):=by kernel_rfl
theorem C2u (f:Int) (m:Int) (s:Bool) (l:List Nat) (e:Int) (Q:AV→Prop):(evF Tryz.prog (look D1h) (lam []) false Tryz.f37 [.num .u8 f,.num .u8 m,.agg [.bool s,.dig [3] l,.num .i64 e]] Q)=(bif decide (F0 (mk s l e)=0) then Q (.tup [.num .u64 0,.num .u8 0]) else (A5 (mk s l e)=true∧(1:Int)≤60∧(60:Int)≤8192)∧dyF (F6 (form false (isq (val (mk s l e).mag*2^U5 (val (mk s l e).mag) (mk s l e).exp (60:Int))) (((mk s l e).exp-(↑(U5 (val (mk s l e).mag) (mk s l e).exp (60:Int)):Int))/2)) (60:Int)).1 fun b1 l2 n3=>∀b4,b4=(C3 (mk s l e) (60:Int)).snd→small (mk b1 l2 n3)∧dyF (CU (mk b1 l2 n3) b4) fun b5 l6 n7=>(L2 f m=0∧small (mk b5 l6 n7))∧∀n8,n8=(↑(H8 f m (mk b5 l6 n7)).fst:Int)→∀n9,n9=(H8 f m (mk b5 l6 n7)).snd→Q (.tup [.num .u64 n8,.num .u8 n9])):=by kernel_rfl
end Go.AI

namespace Go.Dy
set_option maxRecDepth 100000
theorem FK {m:Int} {neg:Bool} {S U:Nat} (hr:S%U≠0) (h:upB m neg (decide (S/U%2=1)) (decide (U≤2*(S%U))) (decide (2*(S%U)≠U))=true):Z1 m neg S U=S/U+1:=by
 unfold Z1
 rw [if_neg hr,h]
 rfl
theorem CM {m:Int} {neg:Bool} {S U:Nat} (h:upB m neg (decide (S/U%2=1)) (decide (U≤2*(S%U))) (decide (2*(S%U)≠U))=false):Z1 m neg S U=S/U:=by
 unfold Z1
 split
 ·rfl
 ·rw [h]
  rfl
theorem XT {m:Int} {neg:Bool} {S U:Nat} (hr:S%U=0):Z1 m neg S U=S/U:=by
 unfold Z1
 rw [if_pos hr]
theorem IR {b:Bool} {l:List Nat} {n z e k:Int} (h:Dyd.mk b l n=C8 z e):Dyd.mk b l (if l=[] then n else n+k)=C8 z (e+k):=by
 by_cases hz:z=0
 ·subst hz
  rw [RD] at h ⊢
  cases h
  rfl
 ·have hz':z.natAbs≠0:=by omega
  have hm:l≠[]:=by
   have:=CH (s:=decide (z<0)) (e:=e) hz'
   have e2:l=(C8 z e).mag:=congrArg Dyd.mag h
   rw [e2]
   exact this
  rw [if_neg hm]
  unfold C8 at h ⊢
  rw [H6 hz'] at h ⊢
  cases h
  congr 1
  omega
theorem VX {z z' e:Int}:C8 z e=C8 z' e ↔ z=z':=⟨fun h=>by rw [←q9 z e,h,q9],fun h=>by rw [h]⟩
theorem D3j {s:Bool} {S U:Nat} (hU:0<U):sgn s S/(U:Int)=if s=true then (if S%U=0 then -((S/U:Nat):Int) else -((S/U:Nat):Int)-1) else ((S/U:Nat):Int):=by
 have hd:=Q6 S U
 have hm:=R5 S hU
 have e:(S:Int)=(U:Int)*((S/U:Nat):Int)+((S%U:Nat):Int):=by exact_mod_cast hd.symm
 cases s
 ·rw [if_neg (by decide)]
  show (S:Int)/U=_
  exact (Int.natCast_ediv S U).symm
 ·rw [if_pos rfl]
  show -(S:Int)/U=_
  generalize ((S/U:Nat):Int)=q at*
  generalize S%U=r at*
  split
  ·rename_i c
   subst c
   rw [e,show -((U:Int)*q+((0:Nat):Int))=(U:Int)* -q by rw [Int.mul_neg];simp,Int.mul_ediv_cancel_left _ (by omega)]
  ·rename_i c
   have h1: -(S:Int)=((U:Int)-(r:Int))+(U:Int)*(-q-1):=by
    rw [e,Int.mul_sub,Int.mul_neg,Int.mul_one]
    omega
   rw [h1,Int.add_mul_ediv_left _ _ (by omega),Int.ediv_eq_zero_of_lt (by omega) (by omega)]
   omega
theorem B6d {s:Bool} {l:List Nat} {e k:Int} (h:small ⟨s,l,e⟩) (k1: -11000≤k) (k2:k≤11000):
  ∃(u:Int) (S U V:Nat),u=min e k∧S=val l*2^(e-u).toNat∧U=2^V∧k-u=V∧V≤16000∧bl S≤21000∧⟨s,l,e⟩=C8 (sgn s S) u∧at_ ⟨s,l,e⟩ u=sgn s S:=by
 obtain ⟨hm,h1,h2,h3⟩:=h
 simp only at h1 h2 h3
 refine ⟨min e k,_,_,(k-min e k).toNat,rfl,rfl,rfl,by omega,by omega,?_,?_,j6 s l e _⟩
 ·have:=Y0 (k:=(e-min e k).toNat) h3
  omega
 ·rw [←j6 s l e (min e k)]
  exact (BK hm (by simp only;omega)).symm
theorem XB {d:Dyd} {L E:Nat} (hF:Fit d L E) (hL:L≤131072) (hE:E+L≤16777216) {V:Nat} (hV: -(V:Int)≤d.exp) {a:Int} (ha:at_ d (-(V:Int))=a):T8 d=C8 (a/2^V) 0:=by
 have h:=hF.may
 obtain ⟨f0,f1,f2⟩:=C5k h hV
 rw [ha] at f1 f2
 have hp:(0:Int)<2^V:=MQ (by decide)
 have e:at_ (T8 d) 0=a/2^V:=by
  generalize at_ (T8 d) 0=z at*
  have h1:=(Int.le_ediv_iff_mul_le hp).2 f1
  have h2:=(Int.ediv_lt_iff_lt_mul hp).2 f2
  omega
 have hf:=(C5i hF hL hE).1.may
 rw [←e]
 exact (BK hf f0).symm
theorem LY (k:Int):K0 k=C8 1 k:=by
 unfold C8
 rw [NK (by decide)]
 rfl
theorem JT (z e:Int):min e 0≤(C8 z e).exp:=s0 (by omega) (by omega)
theorem A7k (z e:Int):at_ (C8 z e) (min e 0)=z*2^(e-min e 0).toNat:=SE (by omega)
theorem C6w (a b e:Int):C2 (C8 a e) (C8 b e)=C8 (a+b) e:=by
 rw [x5 (JT a e) (JT b e),A7k,A7k,←BG,s6]
 congr 1
 omega
theorem C9b (z e:Int):G9 (C8 z e)=C8 (-z) e:=(EV z e).symm
theorem C58 {a b p:Int} (hp:0<p):U2 (a*p) (b*p)=U2 a b:=by
 have h1:a*p<b*p ↔ a<b:=Int.mul_lt_mul_right hp
 have h2:b*p<a*p ↔ b<a:=Int.mul_lt_mul_right hp
 unfold U2
 simp only [h1,h2]
theorem ZY (a b e:Int):Y1 (C8 a e) (C8 b e)=U2 a b:=by
 rw [A7p (JT a e) (JT b e),A7k,A7k,C58 (MQ (by decide))]
theorem LP (z e k:Int):shD (C8 z e) k=C8 z (e+k):=by
 by_cases hz:z=0
 ·subst hz
  rfl
 ·have hm:(C8 z e).mag≠[]:=CH (by omega)
  have h:=IR (b:=(C8 z e).neg) (l:=(C8 z e).mag) (n:=(C8 z e).exp) (z:=z) (e:=e) (k:=k) rfl
  rw [if_neg hm] at h
  unfold shD
  rw [if_neg hm]
  exact h
theorem B6g {m:Int} (hm:m=1∨m=2) (neg odd more:Bool):upB m neg odd false more=false:=by
 rcases hm with rfl|rfl<;>cases odd<;>cases more<;>rfl
theorem A77 {m:Int} (hm:m=1∨m=2) (neg odd:Bool):upB m neg odd true true=true:=by
 rcases hm with rfl|rfl<;>cases odd<;>rfl
theorem ZP (neg odd:Bool):upB 1 neg odd true false=odd:=by cases odd<;>rfl
theorem SI {a b:Int}:U2 a b<0 ↔ a<b:=by unfold U2;(repeat' split)<;>omega
theorem SG {a b:Int}:U2 a b>0 ↔ b<a:=by unfold U2;(repeat' split)<;>omega
theorem A66 {z:Int} (hb:bl z.natAbs≤21000):DZ (T8 (shD (C8 z 0) (-1))) (shD (C8 z 0) (-1))=decide (z%2=0):=by
 have hf:Fit (C8 z (-1)) 21000 21001:=(R9 hb (by decide) (by omega) (by decide) (by decide)).1
 have hx: -((1:Nat):Int)≤(C8 z (-1)).exp:=JT z (-1)
 rw [LP,show (0:Int)+ -1= -1 from rfl,XB hf (by decide) (by decide) (V:=1) hx (q9 z (-1)),o6,PM,decide_eq_true_eq]
 have e:C8 (z/2^1) 0=C8 (z/2^1*2^1) (-1):=by
  rw [s6]
  rfl
 rw [e,VX]
 omega
end Go.Dy
namespace Go.AI
open Go Go.RowKit Go.Proofs
set_option linter.unusedVariables false
set_option maxRecDepth 100000
set_option maxHeartbeats 1000000
theorem eq2 {s:Bool} {l:List Nat} {P:Bool→List Nat→Prop} (h:P s l):∀b,b=s→∀l',l'=l→P b l':=by
 rintro _ rfl _ rfl
 exact h
theorem eq3 {s:Bool} {l:List Nat} {e:Int} {P:Bool→List Nat→Int→Prop} (h:P s l e):∀b,b=s→∀l',l'=l→∀n,n=e→P b l' n:=by
 rintro _ rfl _ rfl _ rfl
 exact h
theorem C5y (args:List AV) (s:Spec) (h:D4r args=some s) (hp:C6 s.pre True):Contract Tryz.prog Inv 50 args s.res:=by
 unfold D4r at h
 split at h
 ·cases h
  refine A4 false HE Tryz.func50 (by kernel_rfl) (by kernel_rfl) fun hok=> ?_
  rw [C6q]
  unfold Dy.C9
  refine A8 (fun h=> ?_) (fun h=> ?_)
  ·rw [if_pos (A1 h)]
  ·rw [if_neg (A0 h)]
 ·cases h
theorem C0g (args:List AV) (s:Spec) (h:C88 args=some s) (hp:C6 s.pre True):Contract Tryz.prog Inv 159 args s.res:=by
 unfold C88 at h
 split at h
 ·cases h
  refine A4 false HE Tryz.func159 (by kernel_rfl) (by kernel_rfl) fun hok=> ?_
  rw [C2s]
  unfold Dy.P8
  refine A8 (fun h=> ?_) (fun h=> ?_)
  ·rw [if_pos (A1 h)]
  ·rw [if_neg (A0 h)]
 ·cases h
theorem C0e (args:List AV) (s:Spec) (h:C84 args=some s) (hp:C6 s.pre True):Contract Tryz.prog Inv 157 args s.res:=by
 unfold C84 at h
 split at h
 ·cases h
  rename_i f neg e r
  obtain ⟨⟨hf,e0,e1,r0,r1⟩, -⟩:=hp
  refine A4 false HE Tryz.func157 (by kernel_rfl) (by kernel_rfl) fun hok=> ?_
  rw [C2q]
  refine ⟨by omega,?_⟩
  have key:∀w:Int,w=((e.toNat*2^Dy.A6 f+r.toNat:Nat):Int)→w<(2^Dy.M8 f:Nat)→(bif neg then (AV.num .u64 (IntKind.u64.wrap (w+((2^Dy.M8 f:Nat):Int)))= .num .u64 (Dy.D5 f neg+(e.toNat*2^Dy.A6 f+r.toNat):Nat)) else AV.num .u64 w= .num .u64 (Dy.D5 f neg+(e.toNat*2^Dy.A6 f+r.toNat):Nat)):=fun w hw hl=>by
   have hb:=Dy.LI hf
   have hb2:2^Dy.M8 f≤2^63:=B3 (by decide) (by have:=Dy.W8 hf;omega)
   unfold Dy.D5
   cases neg
   ·rw [if_neg (by decide),N9]
    exact congrArg (AV.num .u64) hw
   ·rw [if_pos rfl]
    refine congrArg (AV.num .u64) ?_
    rw [wrap_u64]
    omega
  have hlt:((e.toNat*2^Dy.A6 f+r.toNat:Nat):Int)<(2^Dy.M8 f:Nat)∧IntKind.u64.wrap (IntKind.u64.wrap (IntKind.u64.wrap e*(2:Int)^min ((Dy.A6 f:Nat):Int).toNat 64)+r)=((e.toNat*2^Dy.A6 f+r.toNat:Nat):Int):=by
   obtain ⟨x,rfl⟩:=C4 e0
   obtain ⟨y,rfl⟩:=C4 r0
   rw [A2,A2,A2]
   rcases hf with rfl|rfl
   ·have a1:x≤255:=by have:(x:Int)≤((255:Nat):Int):=e1;omega
    have a2:y<2^23:=by have:(y:Int)<((2^23:Nat):Int):=r1;omega
    rw [show Dy.A6 1=23 from rfl,show Dy.M8 1=31 from rfl,show (2:Int)^min 23 64=8388608 from rfl,wrap_u64,wrap_u64,wrap_u64]
    omega
   ·have a1:x≤2047:=by have:(x:Int)≤((2047:Nat):Int):=e1;omega
    have a2:y<2^52:=by have:(y:Int)<((2^52:Nat):Int):=r1;omega
    rw [show Dy.A6 2=52 from rfl,show Dy.M8 2=63 from rfl,show (2:Int)^min 52 64=4503599627370496 from rfl,wrap_u64,wrap_u64,wrap_u64]
    omega
  rw [hlt.2]
  exact key _ rfl hlt.1
 ·cases h
theorem A9i (args:List AV) (s:Spec) (h:A86 args=some s) (hp:C6 s.pre True):Contract Tryz.prog Inv 40 args s.res:=by
 unfold A86 at h
 split at h
 ·cases h
  rename_i f w neg
  obtain ⟨hf, -⟩:=hp
  refine A4 false HE Tryz.func40 (by kernel_rfl) (by kernel_rfl) fun hok=> ?_
  rw [B18]
  have hw0:=j4 hok.2.1
  obtain ⟨v,rfl⟩:=C4 hw0.1
  have h1:=A9 (Dy.M8 f)
  have h4:=Dy.KE f v
  have hb2:2^Dy.M8 f≤2^63:=B3 (by decide) (by have:=Dy.W8 hf;omega)
  have e1:((v:Nat):Int).tmod ((2^Dy.M8 f:Nat):Int)=((Dy.R1 f v:Nat):Int):=A2j v _
  rw [e1,A2]
  refine ⟨by omega,?_⟩
  unfold Dy.D5
  cases neg
  ·refine B1 rfl ?_
   rw [if_neg (by decide),N9]
  ·refine B5 rfl ?_
   rw [if_pos rfl]
   refine congrArg (AV.num .u64) ?_
   rw [wrap_u64]
   omega
 ·cases h
theorem C0j (args:List AV) (s:Spec) (h:C83 args=some s) (hp:C6 s.pre True):Contract Tryz.prog Inv 194 args s.res:=by
 unfold C83 at h
 split at h
 ·cases h
  rename_i s m e
  obtain ⟨hd, -⟩:=hp
  refine A4 true HE Tryz.func194 (by kernel_rfl) (by kernel_rfl) fun hok=> ?_
  have hx:=Dy.J2 hd
  rw [C2v]
  refine ⟨.inr ⟨by omega,by omega,by decide,by decide⟩,?_⟩
  refine eq3 ?_
  unfold Dy.shD
  by_cases c:m=[]
  ·rw [if_pos c]
   rw [Dy.S2] at hd
   rcases hd.2 with h|h
   ·obtain ⟨rfl,rfl,rfl⟩:=h
    rfl
   ·exact absurd c h.1
  ·rw [if_neg c,if_neg c]
   rfl
 ·cases h
theorem FF:G6 Tryz.prog Inv (look XR):=A3 (A3 (A3 (A3 (A3 (A3 (A3 HE C0j) A9i) C0e) C0g) C5y) B4e) PJ
theorem B43 (args:List AV) (s:Spec) (h:B94 args=some s) (hp:C6 s.pre True):Contract Tryz.prog Inv 158 args s.res:=by
 unfold B94 at h
 split at h
 ·cases h
  rename_i m s l e k
  obtain ⟨⟨hsm,hl,k1,k2,m1,m2⟩, -⟩:=hp
  refine A4 true FF Tryz.func158 (by kernel_rfl) (by kernel_rfl) fun hok=> ?_
  rw [B79]
  obtain ⟨u,S,U,V,hu,hS,hU,hV,hV2,hb,hx,ha⟩:=Dy.B6d hsm k1 k2
  have tk:Dy.OG m ⟨s,l,e⟩ k=Dy.C8 (Dy.sgn s (Dy.Z1 m s S U)) k:=by
   unfold Dy.OG
   simp only
   rw [←hu,←hS,show (k-u).toNat=V by omega,←hU,Dy.W2]
  obtain ⟨hm,h1,h2,h3⟩:=hsm
  simp only at h1 h2 h3
  rw [tk]
  have hkw:IntKind.i64.wrap ((0:Int)-k)= -k:=by rw [wrap_i64 (by omega) (by omega)];omega
  rw [hkw]
  refine ⟨.inr ⟨by omega,by omega,by omega,by omega⟩,?_⟩
  refine eq3 ?_
  rw [if_neg hl]
  have hUp:0<U:=by rw [hU];exact A9 _
  have hUc:((U:Nat):Int)=2^V:=by rw [hU,Dy.Y7]
  have fitd:Dy.Fit ⟨s,l,e+ -k⟩ 5000 16000:=by
   refine ⟨?_,h3,by simp only;omega,by simp only;omega⟩
   rw [Dy.S2] at hm ⊢
   refine ⟨hm.1,hm.2.elim (fun c=>absurd c.1 hl) fun c=> .inr ⟨c.1,c.2.1,Dy.N5.2 ⟨by omega,by omega⟩⟩⟩
  refine ⟨fitd.may,?_⟩
  have hfl:Dy.T8 ⟨s,l,e+ -k⟩=Dy.C8 (Dy.sgn s S/(U:Int)) 0:=by
   rw [hUc]
   refine Dy.XB fitd (by decide) (by decide) (by simp only;omega) ?_
   rw [Dy.j6,hS,show (e+ -k - -(V:Int)).toNat=(e-u).toNat by omega]
  rw [hfl]
  have hdiv:=Dy.D3j (s:=s) (S:=S) hUp
  have hdm:=Q6 S U
  have hml:=R5 S hUp
  obtain ⟨z,hz⟩:∃z,z=Dy.sgn s S/(U:Int):=⟨_,rfl⟩
  rw [←hz] at hdiv ⊢
  have hzU:z*U=if s=true then (if S%U=0 then -((U*(S/U):Nat):Int) else -((U*(S/U):Nat):Int)-U) else ((U*(S/U):Nat):Int):=by
   rw [hdiv,Int.natCast_mul]
   split
   ·split
    ·rw [AH,v9]
    ·rw [Int.sub_mul,AH,MO,v9]
   ·rw [v9]
  have hqS:S/U≤U*(S/U):=Nat.le_mul_of_pos_left _ hUp
  have ezk:Dy.C8 z k=Dy.C8 (z*U) u:=by rw [hUc,Dy.s6,show u+(V:Int)=k by omega]
  have ezk1:Dy.C8 (z+1) k=Dy.C8 (z*U+U) u:=by
   rw [show z*(U:Int)+U=(z+1)*U by rw [BG,MO],hUc,Dy.s6,show u+(V:Int)=k by omega]
  generalize U*(S/U)=P at hzU hdm hqS
  have hzb:Dy.bl z.natAbs≤21000:=by
   refine D9 (Dy.K1 (show z.natAbs≤S from ?_)) hb
   clear hzU ezk ezk1
   rw [hdiv]
   clear hdiv hz
   generalize S/U=q at*
   generalize S%U=r at*
   cases s
   ·rw [if_neg (by decide)];omega
   ·rw [if_pos rfl];split<;>omega
  have hzb1:Dy.bl (z+1).natAbs≤21001:=D9 (Dy.K1 (show (z+1).natAbs≤z.natAbs+1 by omega)) (Dy.VO hzb (by decide))
  have fz:=(Dy.R9 (z:=z) (e:=0) (L:=21000) (E:=21000) hzb (by decide) (by omega) (by decide) (by decide)).1
  have fzk:=(Dy.R9 (z:=z) (e:=k) (L:=21000) (E:=40000) hzb (by omega) (by omega) (by decide) (by decide)).1
  have fzk1:=(Dy.R9 (z:=z+1) (e:=k) (L:=21001) (E:=40000) hzb1 (by omega) (by omega) (by decide) (by decide)).1
  have hUb:Dy.bl U≤16001:=by
   have:=Dy.E7 (n:=1) (by decide) V
   rw [Q2,show Dy.bl 1=1 from rfl] at this
   rw [hU,this]
   omega
  have hz0:0≤(Dy.C8 z 0).exp:=Dy.s0 (u9 _) (u9 _)
  refine B4 fun b4 l5 n6 d4=> ?_
  have x6:n6=(Dy.C8 z 0).exp:=congrArg Dy.Dyd.exp d4
  have y1:=fz.lo
  have y2:=fz.hi
  refine ⟨.inr ⟨by omega,by omega,by omega,by omega⟩,?_⟩
  refine eq2 ?_
  intro n9 hn9
  have d9:Dy.Dyd.mk b4 l5 n9=Dy.C8 z k:=by
   have:=Dy.IR (k:=k) d4
   rw [Int.zero_add] at this
   rw [hn9]
   exact this
  have c9:l5=[]∨n9=n6+k:=by
   by_cases c:l5=[]
   ·exact .inl c
   ·rw [if_neg c] at hn9;exact .inr hn9
  clear hn9
  rw [hx]
  have hsame:Dy.DZ (Dy.Dyd.mk b4 l5 n9) (Dy.C8 (Dy.sgn s S) u)=decide (S%U=0):=by
   rw [d9,ezk,o6,Dy.PM,Dy.VX,decide_eq_true_eq,hzU]
   cases s
   ·rw [if_neg (by decide)]
    show (P:Int)=(S:Int) ↔ _
    omega
   ·rw [if_pos rfl]
    show _= -(S:Int) ↔ _
    split<;>omega
  rw [hsame]
  refine A8 (fun hr=> ?_) (fun hr=> ?_)
  ·have hr:=A1 hr
   refine V4 ?_
   rw [hx,Dy.XT hr]
   have e9:Dy.sgn s S=z*U:=by
    rw [hzU,if_pos hr]
    cases s
    ·show (S:Int)=P;omega
    ·show -(S:Int)= -(P:Int);omega
   rw [e9,←ezk]
   congr 1
   rw [hdiv,if_pos hr]
   cases s<;>rfl
  ·have hr:=A0 hr
   refine B4 fun b10 l11 n12 d10=> ?_
   have x12:n12=k:=congrArg Dy.Dyd.exp d10
   rw [d9,d10]
   have mU:Dy.A5 (Dy.K0 k)=true:=by rw [Dy.LY];exact (Dy.R9 (L:=1) (E:=40000) (by decide) (by omega) (by show k+((1:Nat):Int)≤_;omega) (by decide) (by decide)).1.may
   refine ⟨⟨fzk.may,mU,c9.elim .inl fun c=> .inr (.inr ⟨by omega,by omega⟩)⟩,?_⟩
   rw [Dy.LY,Dy.C6w]
   refine B4 fun b13 l14 n15 d13=> ?_
   rw [d13,←hx,Dy.C9b,hx,Dy.C9b]
   have a1:Dy.C2 (Dy.C8 (Dy.sgn s S) u) (Dy.C8 (-z) k)=Dy.C8 (Dy.sgn s S-z*U) u:=by
    rw [←Dy.C9b,ezk,Dy.C9b,Dy.C6w,Int.sub_eq_add_neg]
   have a2:Dy.C2 (Dy.C8 (z+1) k) (Dy.C8 (-Dy.sgn s S) u)=Dy.C8 (z*U+U-Dy.sgn s S) u:=by
    rw [ezk1,Dy.C6w,Int.sub_eq_add_neg]
   rw [a1,a2]
   have hcond:(l=[]∨l5=[]∨(-300000≤e-n9∧e-n9≤300000)):=c9.elim (fun c=> .inr (.inl c)) fun c=> .inr (.inr ⟨by omega,by omega⟩)
   have x15:n15=(Dy.C8 (z+1) k).exp:=congrArg Dy.Dyd.exp d13
   have y3:=fzk1.lo
   have y4:=fzk1.hi
   have hcond2:(l14=[]∨l=[]∨(-300000≤n15-e∧n15-e≤300000)):= .inr (.inr ⟨by omega,by omega⟩)
   have mx:Dy.A5 (Dy.C8 (Dy.sgn s S) u)=true:=by rw [←hx];exact hm
   cases s
   ·-- from below
    have e0:z=((S/U:Nat):Int):=by rw [hdiv];rfl
    have eS:Dy.sgn false S=(S:Int):=rfl
    have r1:(S:Int)-z*U=((S%U:Nat):Int):=by rw [hzU,if_neg (by decide)];omega
    have r2:z*(U:Int)+U-S=((U-S%U:Nat):Int):=by rw [hzU,if_neg (by decide)];omega
    rw [eS,r1,r2]
    have f1:=(Dy.R9 (z:=((S%U:Nat):Int)) (e:=u) (L:=16001) (E:=40000) (D9 (Dy.K1 (by omega)) hUb) (by omega) (by have:Dy.bl ((S%U:Nat):Int).natAbs≤16001:=D9 (Dy.K1 (by omega)) hUb;omega) (by decide) (by decide)).1
    have f2:=(Dy.R9 (z:=((U-S%U:Nat):Int)) (e:=u) (L:=16001) (E:=40000) (D9 (Dy.K1 (by omega)) hUb) (by omega) (by have:Dy.bl ((U-S%U:Nat):Int).natAbs≤16001:=D9 (Dy.K1 (by omega)) hUb;omega) (by decide) (by decide)).1
    have low:Dy.Z1 m false S U=S/U→AV.agg [.bool b4,.dig [0,1,2,3] l5,.num .i64 n9]=avD [0,1,2,3] (Dy.C8 (Dy.sgn false (Dy.Z1 m false S U)) k):=fun t=>by
     refine V4 (d9.trans ?_)
     rw [t]
     exact congrArg (fun x=>Dy.C8 x k) e0
    have high:Dy.Z1 m false S U=S/U+1→AV.agg [.bool b13,.dig [0,1,2,3] l14,.num .i64 n15]=avD [0,1,2,3] (Dy.C8 (Dy.sgn false (Dy.Z1 m false S U)) k):=fun t=>by
     refine V4 (d13.trans ?_)
     rw [t]
     refine congrArg (fun x=>Dy.C8 x k) ?_
     show z+1=((S/U+1:Nat):Int)
     omega
    refine B1 rfl (A8 (fun h=> ?_) fun h=>A8 (fun h'=> ?_) fun h'=>A8 (fun h''=> ?_) fun h''=> ?_)
    ·have:=A1 h;subst this
     exact low (Dy.CM rfl)
    ·have:=A1 h';subst this
     refine high (Dy.FK hr ?_)
     show (!false&&(decide (U≤2*(S%U))||decide (2*(S%U)≠U)))=true
     simp only [Bool.not_false,AT,Y4,decide_eq_true_eq]
     omega
    ·have:=A1 h'';subst this
     exact low (Dy.CM rfl)
    ·have hm12:m=1∨m=2:=by
      have:=A0 h;have:=A0 h';have:=A0 h''
      omega
     refine ⟨⟨mx,fzk.may,hcond⟩,?_⟩
     refine B4 fun b16 l17 n18 d16=> ?_
     refine ⟨⟨fzk1.may,mx,hcond2⟩,?_⟩
     refine B4 fun b19 l20 n21 d19=> ?_
     rw [d16,d19,Dy.ZY]
     refine ⟨⟨f1.may,f2.may⟩,A8 (fun c=> ?_) fun c=>A8 (fun c'=> ?_) fun c'=> ?_⟩
     ·have c:=Dy.SI.1 (A1 c)
      refine low (Dy.CM ?_)
      rw [decide_eq_false (show¬U≤2*(S%U) by omega)]
      exact Dy.B6g hm12 _ _ _
     ·have c:=Dy.SG.1 (A1 c')
      refine high (Dy.FK hr ?_)
      rw [decide_eq_true (show U≤2*(S%U) by omega),decide_eq_true (show 2*(S%U)≠U by omega)]
      exact Dy.A77 hm12 _ _
     ·have c1:¬(((S%U:Nat):Int)<((U-S%U:Nat):Int)):=fun d=>A0 c (Dy.SI.2 d)
      have c2:¬(((U-S%U:Nat):Int)<((S%U:Nat):Int)):=fun d=>A0 c' (Dy.SG.2 d)
      have ht:2*(S%U)=U:=by omega
      refine A8 (fun c3=> ?_) fun c3=> ?_
      ·have:=A1 c3;subst this
       refine high (Dy.FK hr ?_)
       rw [decide_eq_true (show U≤2*(S%U) by omega)]
       rfl
      ·have:m=1:=by have:=A0 c3;omega
       subst this
       refine ⟨c9.elim .inl fun c=> .inr ⟨by omega,by omega,by omega,by omega⟩,?_⟩
       refine eq2 ?_
       intro n24 hn24
       have d24:Dy.Dyd.mk b4 l5 n24=Dy.C8 z 0:=by
        have:=Dy.IR (k:= -k) d9
        rw [show k+ -k=0 by omega] at this
        rw [hn24]
        exact this
       rw [d24]
       refine ⟨fz.may,?_⟩
       have fh:Dy.A5 (Dy.shD (Dy.C8 z 0) (-1))=true:=by
        rw [Dy.LP]
        exact (Dy.R9 (L:=21000) (E:=21001) hzb (by decide) (by omega) (by decide) (by decide)).1.may
       refine B4 fun b25 l26 n27 d25=> ?_
       rw [d25]
       refine ⟨fh,?_⟩
       refine B4 fun b28 l29 n30 d28=> ?_
       refine ⟨fz.may,?_⟩
       refine B4 fun b31 l32 n33 d31=> ?_
       rw [d28,d31,Dy.A66 hzb]
       refine A8 (fun c4=> ?_) fun c4=> ?_
       ·have c4:=A1 c4
        refine low (Dy.CM ?_)
        rw [decide_eq_true (show U≤2*(S%U) by omega),decide_eq_false (show¬2*(S%U)≠U by omega),Dy.ZP]
        exact decide_eq_false (by omega)
       ·have c4:=A0 c4
        refine high (Dy.FK hr ?_)
        rw [decide_eq_true (show U≤2*(S%U) by omega),decide_eq_false (show¬2*(S%U)≠U by omega),Dy.ZP]
        exact decide_eq_true (by omega)
   ·-- from above
    have e0:z= -((S/U:Nat):Int)-1:=by rw [hdiv,if_pos rfl,if_neg hr]
    have eS:Dy.sgn true S= -(S:Int):=rfl
    have r1: -(S:Int)-z*U=((U-S%U:Nat):Int):=by rw [hzU,if_pos rfl,if_neg hr];omega
    have r2:z*(U:Int)+U - -(S:Int)=((S%U:Nat):Int):=by rw [hzU,if_pos rfl,if_neg hr];omega
    rw [eS,r1,r2]
    have f1:=(Dy.R9 (z:=((S%U:Nat):Int)) (e:=u) (L:=16001) (E:=40000) (D9 (Dy.K1 (by omega)) hUb) (by omega) (by have:Dy.bl ((S%U:Nat):Int).natAbs≤16001:=D9 (Dy.K1 (by omega)) hUb;omega) (by decide) (by decide)).1
    have f2:=(Dy.R9 (z:=((U-S%U:Nat):Int)) (e:=u) (L:=16001) (E:=40000) (D9 (Dy.K1 (by omega)) hUb) (by omega) (by have:Dy.bl ((U-S%U:Nat):Int).natAbs≤16001:=D9 (Dy.K1 (by omega)) hUb;omega) (by decide) (by decide)).1
    have low:Dy.Z1 m true S U=S/U+1→AV.agg [.bool b4,.dig [0,1,2,3] l5,.num .i64 n9]=avD [0,1,2,3] (Dy.C8 (Dy.sgn true (Dy.Z1 m true S U)) k):=fun t=>by
     refine V4 (d9.trans ?_)
     rw [t]
     refine congrArg (fun x=>Dy.C8 x k) ?_
     show z= -((S/U+1:Nat):Int)
     omega
    have high:Dy.Z1 m true S U=S/U→AV.agg [.bool b13,.dig [0,1,2,3] l14,.num .i64 n15]=avD [0,1,2,3] (Dy.C8 (Dy.sgn true (Dy.Z1 m true S U)) k):=fun t=>by
     refine V4 (d13.trans ?_)
     rw [t]
     refine congrArg (fun x=>Dy.C8 x k) ?_
     show z+1= -((S/U:Nat):Int)
     omega
    refine B5 rfl (A8 (fun h=> ?_) fun h=>A8 (fun h'=> ?_) fun h'=>A8 (fun h''=> ?_) fun h''=> ?_)
    ·have:=A1 h;subst this
     refine low (Dy.FK hr ?_)
     show (true&&(decide (U≤2*(S%U))||decide (2*(S%U)≠U)))=true
     simp only [AT,Y4,decide_eq_true_eq]
     omega
    ·have:=A1 h';subst this
     exact high (Dy.CM rfl)
    ·have:=A1 h'';subst this
     exact high (Dy.CM rfl)
    ·have hm12:m=1∨m=2:=by
      have:=A0 h;have:=A0 h';have:=A0 h''
      omega
     refine ⟨⟨mx,fzk.may,hcond⟩,?_⟩
     refine B4 fun b16 l17 n18 d16=> ?_
     refine ⟨⟨fzk1.may,mx,hcond2⟩,?_⟩
     refine B4 fun b19 l20 n21 d19=> ?_
     rw [d16,d19,Dy.ZY]
     refine ⟨⟨f2.may,f1.may⟩,A8 (fun c=> ?_) fun c=>A8 (fun c'=> ?_) fun c'=> ?_⟩
     ·have c:=Dy.SI.1 (A1 c)
      refine low (Dy.FK hr ?_)
      rw [decide_eq_true (show U≤2*(S%U) by omega),decide_eq_true (show 2*(S%U)≠U by omega)]
      exact Dy.A77 hm12 _ _
     ·have c:=Dy.SG.1 (A1 c')
      refine high (Dy.CM ?_)
      rw [decide_eq_false (show¬U≤2*(S%U) by omega)]
      exact Dy.B6g hm12 _ _ _
     ·have c1:¬(((U-S%U:Nat):Int)<((S%U:Nat):Int)):=fun d=>A0 c (Dy.SI.2 d)
      have c2:¬(((S%U:Nat):Int)<((U-S%U:Nat):Int)):=fun d=>A0 c' (Dy.SG.2 d)
      have ht:2*(S%U)=U:=by omega
      refine A8 (fun c3=> ?_) fun c3=> ?_
      ·have:=A1 c3;subst this
       refine low (Dy.FK hr ?_)
       rw [decide_eq_true (show U≤2*(S%U) by omega)]
       rfl
      ·have:m=1:=by have:=A0 c3;omega
       subst this
       refine ⟨c9.elim .inl fun c=> .inr ⟨by omega,by omega,by omega,by omega⟩,?_⟩
       refine eq2 ?_
       intro n24 hn24
       have d24:Dy.Dyd.mk b4 l5 n24=Dy.C8 z 0:=by
        have:=Dy.IR (k:= -k) d9
        rw [show k+ -k=0 by omega] at this
        rw [hn24]
        exact this
       rw [d24]
       refine ⟨fz.may,?_⟩
       have fh:Dy.A5 (Dy.shD (Dy.C8 z 0) (-1))=true:=by
        rw [Dy.LP]
        exact (Dy.R9 (L:=21000) (E:=21001) hzb (by decide) (by omega) (by decide) (by decide)).1.may
       refine B4 fun b25 l26 n27 d25=> ?_
       rw [d25]
       refine ⟨fh,?_⟩
       refine B4 fun b28 l29 n30 d28=> ?_
       refine ⟨fz.may,?_⟩
       refine B4 fun b31 l32 n33 d31=> ?_
       rw [d28,d31,Dy.A66 hzb]
       refine A8 (fun c4=> ?_) fun c4=> ?_
       ·have c4:=A1 c4
        refine low (Dy.FK hr ?_)
        rw [decide_eq_true (show U≤2*(S%U) by omega),decide_eq_false (show¬2*(S%U)≠U by omega),Dy.ZP]
        exact decide_eq_true (by omega)
       ·have c4:=A0 c4
        refine high (Dy.CM ?_)
        rw [decide_eq_true (show U≤2*(S%U) by omega),decide_eq_false (show¬2*(S%U)≠U by omega),Dy.ZP]
        exact decide_eq_false (by omega)
 ·cases h
end Go.AI

namespace Go.AI
open Dy Dyd IntKind
open Go Go.RowKit Go.Proofs
set_option linter.unusedVariables false
set_option maxRecDepth 100000
set_option maxHeartbeats 0
theorem A7a (f:Int) (s:Bool) (l:List Nat) (e:Int) (x:Nat) (Q:AV→Prop):(evF Tryz.prog (look (((98:Nat),D5s x)::XR)) (lam []) false Tryz.f161 [.num .u8 f,.agg [.bool s,.dig [2] l,.num .i64 e]] Q)=(bif decide (F0 (mk s l e)=0) then Q (.tup [.num .u64 0,.bool true]) else (dg (val l)=l∧l.length≤1048576∧ -1099511627776≤e∧e≤1099511627776)∧bif decide (C7 (mk s l e)>P8 f) then Q (.tup [.num .u64 0,.bool false]) else bif decide (e<C9 f) then Q (.tup [.num .u64 0,.bool false]) else (dg (val l)=l∧l.length≤1048576)∧bif decide ((↑(bl (val l)):Int)>i64.wrap ((↑(A6 f):Int)+1)) then Q (.tup [.num .u64 0,.bool false]) else bif decide (i64.wrap (i64.wrap (C7 (mk s l e)-(↑(A6 f):Int))-1)<C9 f) then ((0:Int)≤i64.wrap (e-C9 f)∧i64.wrap (e-C9 f)≤33554432∧l.length≤1048576∧dg (val l*2^(i64.wrap (e-C9 f)).toNat)=[x])∧((0:Int)≤0∧(0:Int)<(↑[x].length:Int))∧bif decide ((↑[x].length:Int)>1) then ((0:Int)≤1∧(1:Int)<(↑[x].length:Int))∧(0:Int)≤(↑(A6 f):Int)∧bif decide ((u64.wrap (u64.wrap (↑x:Int)+u64.wrap (u64.wrap (↑(nat_lit 0):Int)*2^(32:Nat)))).fdiv ((2:Int)^min (↑(A6 f):Int).toNat (64:Nat))>0) then (0:Int)≤(↑(A6 f):Int)∧(isF f∧(0:Int)≤i64.wrap (i64.wrap (C9 f-C9 f)+1)∧i64.wrap (i64.wrap (C9 f-C9 f)+1)≤(↑(P7 f):Int)∧(0:Int)≤u64.wrap (u64.wrap (u64.wrap (↑x:Int)+u64.wrap (u64.wrap (↑(nat_lit 0):Int)*2^(32:Nat)))-u64.wrap ((1:Int)*2^min (↑(A6 f):Int).toNat (64:Nat)))∧u64.wrap (u64.wrap (u64.wrap (↑x:Int)+u64.wrap (u64.wrap (↑(nat_lit 0):Int)*2^(32:Nat)))-u64.wrap ((1:Int)*2^min (↑(A6 f):Int).toNat (64:Nat)))<(↑((2:Nat)^A6 f):Int))∧Q (.tup [.num .u64 (↑(D5 f s+((i64.wrap (i64.wrap (C9 f-C9 f)+1)).toNat*2^A6 f+(u64.wrap (u64.wrap (u64.wrap (↑x:Int)+u64.wrap (u64.wrap (↑(nat_lit 0):Int)*2^(32:Nat)))-u64.wrap ((1:Int)*2^min (↑(A6 f):Int).toNat (64:Nat)))).toNat)):Int),.bool true]) else (isF f∧(0:Int)≤0∧(0:Int)≤(↑(P7 f):Int)∧(0:Int)≤u64.wrap (u64.wrap (↑x:Int)+u64.wrap (u64.wrap (↑(nat_lit 0):Int)*2^(32:Nat)))∧u64.wrap (u64.wrap (↑x:Int)+u64.wrap (u64.wrap (↑(nat_lit 0):Int)*2^(32:Nat)))<(↑((2:Nat)^A6 f):Int))∧Q (.tup [.num .u64 (↑(D5 f s+((0:Nat)*2^A6 f+(u64.wrap (u64.wrap (↑x:Int)+u64.wrap (u64.wrap (↑(nat_lit 0):Int)*2^(32:Nat)))).toNat)):Int),.bool true]) else (0:Int)≤(↑(A6 f):Int)∧bif decide ((u64.wrap (↑x:Int)).fdiv ((2:Int)^min (↑(A6 f):Int).toNat (64:Nat))>0) then (0:Int)≤(↑(A6 f):Int)∧(isF f∧(0:Int)≤i64.wrap (i64.wrap (C9 f-C9 f)+1)∧i64.wrap (i64.wrap (C9 f-C9 f)+1)≤(↑(P7 f):Int)∧(0:Int)≤u64.wrap (u64.wrap (↑x:Int)-u64.wrap ((1:Int)*2^min (↑(A6 f):Int).toNat (64:Nat)))∧u64.wrap (u64.wrap (↑x:Int)-u64.wrap ((1:Int)*2^min (↑(A6 f):Int).toNat (64:Nat)))<(↑((2:Nat)^A6 f):Int))∧Q (.tup [.num .u64 (↑(D5 f s+((i64.wrap (i64.wrap (C9 f-C9 f)+1)).toNat*2^A6 f+(u64.wrap (u64.wrap (↑x:Int)-u64.wrap ((1:Int)*2^min (↑(A6 f):Int).toNat (64:Nat)))).toNat)):Int),.bool true]) else (isF f∧(0:Int)≤0∧(0:Int)≤(↑(P7 f):Int)∧(0:Int)≤u64.wrap (↑x:Int)∧u64.wrap (↑x:Int)<(↑((2:Nat)^A6 f):Int))∧Q (.tup [.num .u64 (↑(D5 f s+((0:Nat)*2^A6 f+(u64.wrap (↑x:Int)).toNat)):Int),.bool true]) else ((0:Int)≤i64.wrap (e-i64.wrap (i64.wrap (C7 (mk s l e)-(↑(A6 f):Int))-1))∧i64.wrap (e-i64.wrap (i64.wrap (C7 (mk s l e)-(↑(A6 f):Int))-1))≤33554432∧l.length≤1048576∧dg (val l*2^(i64.wrap (e-i64.wrap (i64.wrap (C7 (mk s l e)-(↑(A6 f):Int))-1))).toNat)=[x])∧((0:Int)≤0∧(0:Int)<(↑[x].length:Int))∧bif decide ((↑[x].length:Int)>1) then ((0:Int)≤1∧(1:Int)<(↑[x].length:Int))∧(0:Int)≤(↑(A6 f):Int)∧bif decide ((u64.wrap (u64.wrap (↑x:Int)+u64.wrap (u64.wrap (↑(nat_lit 0):Int)*2^(32:Nat)))).fdiv ((2:Int)^min (↑(A6 f):Int).toNat (64:Nat))>0) then (0:Int)≤(↑(A6 f):Int)∧(isF f∧(0:Int)≤i64.wrap (i64.wrap (i64.wrap (i64.wrap (C7 (mk s l e)-(↑(A6 f):Int))-1)-C9 f)+1)∧i64.wrap (i64.wrap (i64.wrap (i64.wrap (C7 (mk s l e)-(↑(A6 f):Int))-1)-C9 f)+1)≤(↑(P7 f):Int)∧(0:Int)≤u64.wrap (u64.wrap (u64.wrap (↑x:Int)+u64.wrap (u64.wrap (↑(nat_lit 0):Int)*2^(32:Nat)))-u64.wrap ((1:Int)*2^min (↑(A6 f):Int).toNat (64:Nat)))∧u64.wrap (u64.wrap (u64.wrap (↑x:Int)+u64.wrap (u64.wrap (↑(nat_lit 0):Int)*2^(32:Nat)))-u64.wrap ((1:Int)*2^min (↑(A6 f):Int).toNat (64:Nat)))<(↑((2:Nat)^A6 f):Int))∧Q (.tup [.num .u64 (↑(D5 f s+((i64.wrap (i64.wrap (i64.wrap (i64.wrap (C7 (mk s l e)-(↑(A6 f):Int))-1)-C9 f)+1)).toNat*2^A6 f+(u64.wrap (u64.wrap (u64.wrap (↑x:Int)+u64.wrap (u64.wrap (↑(nat_lit 0):Int)*2^(32:Nat)))-u64.wrap ((1:Int)*2^min (↑(A6 f):Int).toNat (64:Nat)))).toNat)):Int),.bool true]) else (isF f∧(0:Int)≤0∧(0:Int)≤(↑(P7 f):Int)∧(0:Int)≤u64.wrap (u64.wrap (↑x:Int)+u64.wrap (u64.wrap (↑(nat_lit 0):Int)*2^(32:Nat)))∧u64.wrap (u64.wrap (↑x:Int)+u64.wrap (u64.wrap (↑(nat_lit 0):Int)*2^(32:Nat)))<(↑((2:Nat)^A6 f):Int))∧Q (.tup [.num .u64 (↑(D5 f s+((0:Nat)*2^A6 f+(u64.wrap (u64.wrap (↑x:Int)+u64.wrap (u64.wrap (↑(nat_lit 0):Int)*2^(32:Nat)))).toNat)):Int),.bool true]) else (0:Int)≤(↑(A6 f):Int)∧bif decide ((u64.wrap (↑x:Int)).fdiv ((2:Int)^min (↑(A6 f):Int).toNat (64:Nat))>0) then (0:Int)≤(↑(A6 f):Int)∧(isF f∧(0:Int)≤i64.wrap (i64.wrap (i64.wrap (i64.wrap (C7 (mk s l e)-(↑(A6 f):Int))-1)-C9 f)+1)∧i64.wrap (i64.wrap (i64.wrap (i64.wrap (C7 (mk s l e)-(↑(A6 f):Int))-1)-C9 f)+1)≤(↑(P7 f):Int)∧(0:Int)≤u64.wrap (u64.wrap (↑x:Int)-u64.wrap ((1:Int)*2^min (↑(A6 f):Int).toNat (64:Nat)))∧u64.wrap (u64.wrap (↑x:Int)-u64.wrap ((1:Int)*2^min (↑(A6 f):Int).toNat (64:Nat)))<(↑((2:Nat)^A6 f):Int))∧Q (.tup [.num .u64 (↑(D5 f s+((i64.wrap (i64.wrap (i64.wrap (i64.wrap (C7 (mk s l e)-(↑(A6 f):Int))-1)-C9 f)+1)).toNat*2^A6 f+(u64.wrap (u64.wrap (↑x:Int)-u64.wrap ((1:Int)*2^min (↑(A6 f):Int).toNat (64:Nat)))).toNat)):Int),.bool true]) else (isF f∧(0:Int)≤0∧(0:Int)≤(↑(P7 f):Int)∧(0:Int)≤u64.wrap (↑x:Int)∧u64.wrap (↑x:Int)<(↑((2:Nat)^A6 f):Int))∧Q (.tup [.num .u64 (↑(D5 f s+((0:Nat)*2^A6 f+(u64.wrap (↑x:Int)).toNat)):Int),.bool true])):=by kernel_rfl
theorem C6r (f:Int) (s:Bool) (l:List Nat) (e:Int) (x:Int) (y:Int) (Q:AV→Prop):(evF Tryz.prog (look (((98:Nat),D5u x y)::XR)) (lam []) false Tryz.f161 [.num .u8 f,.agg [.bool s,.dig [2] l,.num .i64 e]] Q)=(bif decide (F0 (mk s l e)=0) then Q (.tup [.num .u64 0,.bool true]) else (dg (val l)=l∧l.length≤1048576∧ -1099511627776≤e∧e≤1099511627776)∧bif decide (C7 (mk s l e)>P8 f) then Q (.tup [.num .u64 0,.bool false]) else bif decide (e<C9 f) then Q (.tup [.num .u64 0,.bool false]) else (dg (val l)=l∧l.length≤1048576)∧bif decide ((↑(bl (val l)):Int)>i64.wrap ((↑(A6 f):Int)+1)) then Q (.tup [.num .u64 0,.bool false]) else bif decide (i64.wrap (i64.wrap (C7 (mk s l e)-(↑(A6 f):Int))-1)<C9 f) then ((0:Int)≤i64.wrap (e-C9 f)∧i64.wrap (e-C9 f)≤33554432∧l.length≤1048576∧List.map Int.ofNat (dg (val l*2^(i64.wrap (e-C9 f)).toNat))=[x,y])∧((0:Int)≤0∧(0:Int)<(↑[AV.num u32 x,AV.num u32 y].length:Int))∧((0:Int)≤1∧(1:Int)<(↑[AV.num u32 x,AV.num u32 y].length:Int))∧(0:Int)≤(↑(A6 f):Int)∧bif decide ((u64.wrap (u64.wrap x+u64.wrap (u64.wrap y*2^(32:Nat)))).fdiv ((2:Int)^min (↑(A6 f):Int).toNat (64:Nat))>0) then (0:Int)≤(↑(A6 f):Int)∧(isF f∧(0:Int)≤i64.wrap (i64.wrap (C9 f-C9 f)+1)∧i64.wrap (i64.wrap (C9 f-C9 f)+1)≤(↑(P7 f):Int)∧(0:Int)≤u64.wrap (u64.wrap (u64.wrap x+u64.wrap (u64.wrap y*2^(32:Nat)))-u64.wrap ((1:Int)*2^min (↑(A6 f):Int).toNat (64:Nat)))∧u64.wrap (u64.wrap (u64.wrap x+u64.wrap (u64.wrap y*2^(32:Nat)))-u64.wrap ((1:Int)*2^min (↑(A6 f):Int).toNat (64:Nat)))<(↑((2:Nat)^A6 f):Int))∧Q (.tup [.num .u64 (↑(D5 f s+((i64.wrap (i64.wrap (C9 f-C9 f)+1)).toNat*2^A6 f+(u64.wrap (u64.wrap (u64.wrap x+u64.wrap (u64.wrap y*2^(32:Nat)))-u64.wrap ((1:Int)*2^min (↑(A6 f):Int).toNat (64:Nat)))).toNat)):Int),.bool true]) else (isF f∧(0:Int)≤0∧(0:Int)≤(↑(P7 f):Int)∧(0:Int)≤u64.wrap (u64.wrap x+u64.wrap (u64.wrap y*2^(32:Nat)))∧u64.wrap (u64.wrap x+u64.wrap (u64.wrap y*2^(32:Nat)))<(↑((2:Nat)^A6 f):Int))∧Q (.tup [.num .u64 (↑(D5 f s+((0:Nat)*2^A6 f+(u64.wrap (u64.wrap x+u64.wrap (u64.wrap y*2^(32:Nat)))).toNat)):Int),.bool true]) else ((0:Int)≤i64.wrap (e-i64.wrap (i64.wrap (C7 (mk s l e)-(↑(A6 f):Int))-1))∧i64.wrap (e-i64.wrap (i64.wrap (C7 (mk s l e)-(↑(A6 f):Int))-1))≤33554432∧l.length≤1048576∧List.map Int.ofNat (dg (val l*2^(i64.wrap (e-i64.wrap (i64.wrap (C7 (mk s l e)-(↑(A6 f):Int))-1))).toNat))=[x,y])∧((0:Int)≤0∧(0:Int)<(↑[AV.num u32 x,AV.num u32 y].length:Int))∧((0:Int)≤1∧(1:Int)<(↑[AV.num u32 x,AV.num u32 y].length:Int))∧(0:Int)≤(↑(A6 f):Int)∧bif decide ((u64.wrap (u64.wrap x+u64.wrap (u64.wrap y*2^(32:Nat)))).fdiv ((2:Int)^min (↑(A6 f):Int).toNat (64:Nat))>0) then (0:Int)≤(↑(A6 f):Int)∧(isF f∧(0:Int)≤i64.wrap (i64.wrap (i64.wrap (i64.wrap (C7 (mk s l e)-(↑(A6 f):Int))-1)-C9 f)+1)∧i64.wrap (i64.wrap (i64.wrap (i64.wrap (C7 (mk s l e)-(↑(A6 f):Int))-1)-C9 f)+1)≤(↑(P7 f):Int)∧(0:Int)≤u64.wrap (u64.wrap (u64.wrap x+u64.wrap (u64.wrap y*2^(32:Nat)))-u64.wrap ((1:Int)*2^min (↑(A6 f):Int).toNat (64:Nat)))∧u64.wrap (u64.wrap (u64.wrap x+u64.wrap (u64.wrap y*2^(32:Nat)))-u64.wrap ((1:Int)*2^min (↑(A6 f):Int).toNat (64:Nat)))<(↑((2:Nat)^A6 f):Int))∧Q (.tup [.num .u64 (↑(D5 f s+((i64.wrap (i64.wrap (i64.wrap (i64.wrap (C7 (mk s l e)-(↑(A6 f):Int))-1)-C9 f)+1)).toNat*2^A6 f+(u64.wrap (u64.wrap (u64.wrap x+u64.wrap (u64.wrap y*2^(32:Nat)))-u64.wrap ((1:Int)*2^min (↑(A6 f):Int).toNat (64:Nat)))).toNat)):Int),.bool true]) else (isF f∧(0:Int)≤0∧(0:Int)≤(↑(P7 f):Int)∧(0:Int)≤u64.wrap (u64.wrap x+u64.wrap (u64.wrap y*2^(32:Nat)))∧u64.wrap (u64.wrap x+u64.wrap (u64.wrap y*2^(32:Nat)))<(↑((2:Nat)^A6 f):Int))∧Q (.tup [.num .u64 (↑(D5 f s+((0:Nat)*2^A6 f+(u64.wrap (u64.wrap x+u64.wrap (u64.wrap y*2^(32:Nat)))).toNat)):Int),.bool true])):=by kernel_rfl
end Go.AI

namespace Go.AI
open Go Go.RowKit Go.Proofs
set_option linter.unusedVariables false
set_option maxRecDepth 100000
set_option maxHeartbeats 1000000
theorem C38 {C:Ctx} {p:List Nat} {l:List Nat} {v:Value} (h:V C (.dig p l) v):V C (.vec p 1 (l.map fun (x:Nat)=> .num .u32 (x:Int))) v:=by
 simp only [V] at h ⊢
 obtain ⟨h1,⟨h2,h3⟩,base,cap,rfl,h4⟩:=h
 refine ⟨h1,by simpa using h2,by decide,base,cap,l.map fun (x:Nat)=> .int .u32 (x:Int),by simp,?_,?_,fun ha=> ?_⟩
 ·refine Vs.of (by simp) fun i c v hc hv=> ?_
  rw [List.getElem?_map] at hc hv
  cases hx:l[i]? with
  |none=>rw [hx] at hc;cases hc
  |some x=>
   rw [hx] at hc hv
   cases hc
   cases hv
   have:=h3 x (List.mem_of_getElem? hx)
   simp only [V]
   refine ⟨trivial,?_⟩
   simp only [IntKind.min,IntKind.max,IntKind.signed,IntKind.bits]
   constructor<;>simp<;>omega
 ·intro u hu
  obtain ⟨x, -,rfl⟩:=List.mem_map.1 hu
  rfl
 ·rcases h4 ha with ⟨-,rfl⟩|⟨b,off,cells,T,fr,h5,h6,h7,h8,h9,h10⟩
  ·exact .inl rfl
  ·refine .inr ⟨b,off,h5,h6,by simpa using h8,fun i u j x hi hj=> ?_⟩
   rw [List.getElem?_map] at hi
   cases hx:l[i]? with
   |none=>rw [hx] at hi;cases hi
   |some n=>
    rw [hx] at hi
    cases hi
    have hj0:j=0∧x= .int .u32 (n:Int):=by
     cases j with
     |zero=>exact ⟨rfl,(Option.some.inj hj).symm⟩
     |succ j=>cases hj
    obtain ⟨rfl,rfl⟩:=hj0
    rw [cell?_of_block h7]
    have:=h10 i n hx
    rw [M0,I4]
    exact this
theorem Contract.conv {P:Program} {Inv:World→Prop} {f:Nat} {args:List AV} {r r':AV} (h:Contract P Inv f args r) (h0:kindOf r=0) (h0':kindOf r'=0) (hv:∀C v,V C r v→V C r' v):Contract P Inv f args r':=
 ⟨h.enters,fun w cargs β a b c d=>(h.calls w cargs β a b c (by unfold A7g;rw [h0];trivial)).mono fun e w' ⟨v,he,haf⟩=>⟨v,he,by unfold ER at haf ⊢;rw [h0] at haf;rw [h0'];exact ⟨haf.1,hv _ _ haf.2⟩⟩⟩
theorem A17 (x:Nat) (args:List AV) (s:Spec) (h:D5s x args=some s) (hp:C6 s.pre True):Contract Tryz.prog Inv 98 args s.res:=by
 unfold D5s at h
 split at h
 ·cases h
  rename_i a n
  obtain ⟨⟨h1,h2,h3,h4⟩, -⟩:=hp
  have:=PJ [.dig [1] a,.num .i64 n] _ rfl ⟨⟨h1,h2,h3⟩,trivial⟩
  simp only [h4] at this
  exact this
 ·cases h
theorem C0u (x y:Int) (args:List AV) (s:Spec) (h:D5u x y args=some s) (hp:C6 s.pre True):Contract Tryz.prog Inv 98 args s.res:=by
 unfold D5u at h
 split at h
 ·cases h
  rename_i a n
  obtain ⟨⟨h1,h2,h3,h4⟩, -⟩:=hp
  have:=PJ [.dig [1] a,.num .i64 n] _ rfl ⟨⟨h1,h2,h3⟩,trivial⟩
  refine this.conv rfl rfl fun C v hv=> ?_
  have h5:=C38 hv
  have e:(Dy.dg (Dy.val a*2^n.toNat)).map (fun (x:Nat)=>AV.num .u32 (x:Int))=[.num .u32 x,.num .u32 y]:=by
   have:=congrArg (List.map (AV.num .u32)) h4
   rw [List.map_map] at this
   exact this
  rw [e] at h5
  exact h5
 ·cases h
theorem ZK {f:Int} {s:Bool} {U w E:Int} {N:Nat} {K:AV} (hf:Dy.isF f) (hU:U=E) (hw:w=(N:Int)) (h1:Dy.C9 f≤E) (h2:E-Dy.C9 f≤2045) (h3:N<2^(Dy.A6 f+1)) (h4:Dy.C9 f<E→2^Dy.A6 f≤N) (h5:(E-Dy.C9 f).toNat+1≤Dy.P7 f) (hK:K= .tup [.num .u64 ((Dy.D5 f s+((E-Dy.C9 f).toNat*2^Dy.A6 f+N):Nat):Int),.bool true]):
  bif decide (w.fdiv ((2:Int)^min ((Dy.A6 f:Nat):Int).toNat 64)>0) then
   (0≤((Dy.A6 f:Nat):Int)∧
   (Dy.isF f∧0≤IntKind.i64.wrap (IntKind.i64.wrap (U-Dy.C9 f)+1)∧IntKind.i64.wrap (IntKind.i64.wrap (U-Dy.C9 f)+1)≤((Dy.P7 f:Nat):Int)∧
    0≤IntKind.u64.wrap (w-IntKind.u64.wrap ((1:Int)*(2:Int)^min ((Dy.A6 f:Nat):Int).toNat 64))∧IntKind.u64.wrap (w-IntKind.u64.wrap ((1:Int)*(2:Int)^min ((Dy.A6 f:Nat):Int).toNat 64))<((2^Dy.A6 f:Nat):Int))∧
   AV.tup [.num .u64 ((Dy.D5 f s+((IntKind.i64.wrap (IntKind.i64.wrap (U-Dy.C9 f)+1)).toNat*2^Dy.A6 f+(IntKind.u64.wrap (w-IntKind.u64.wrap ((1:Int)*(2:Int)^min ((Dy.A6 f:Nat):Int).toNat 64))).toNat):Nat):Int),.bool true]=K)
  else
   ((Dy.isF f∧(0:Int)≤0∧0≤((Dy.P7 f:Nat):Int)∧0≤w∧w<((2^Dy.A6 f:Nat):Int))∧
   AV.tup [.num .u64 ((Dy.D5 f s+(0*2^Dy.A6 f+w.toNat):Nat):Int),.bool true]=K):=by
 subst hU hw hK
 have hF:=Dy.J0 hf
 have hF64:min ((Dy.A6 f:Nat):Int).toNat 64=Dy.A6 f:=by rw [A2];omega
 have h52:2^Dy.A6 f≤2^52:=B3 (by decide) (by omega)
 have hp2:2^(Dy.A6 f+1)=2*2^Dy.A6 f:=by rw [I5,B6]
 have hpp:=A9 (Dy.A6 f)
 rw [pw hf,hF64,fdiv_pow (by omega),A2]
 have e1:IntKind.i64.wrap (IntKind.i64.wrap (U-Dy.C9 f)+1)=U-Dy.C9 f+1:=by rw [wrap_i64 (n:=U-Dy.C9 f) (by omega) (by omega),wrap_i64 (by omega) (by omega)]
 rw [e1]
 refine A8 (fun h=> ?_) (fun h=> ?_)
 ·have h:=A1 h
  have hge:2^Dy.A6 f≤N:=by
   rcases L4 N (2^Dy.A6 f) with c|c
   ·rw [L9 c] at h;omega
   ·exact c
  have e2:IntKind.u64.wrap ((N:Int)-((2^Dy.A6 f:Nat):Int))=((N-2^Dy.A6 f:Nat):Int):=by rw [wrap_u64];omega
  rw [e2,A2]
  refine ⟨by omega,⟨hf,by omega,by omega,by omega,by omega⟩,?_⟩
  have e3:(U-Dy.C9 f+1).toNat*2^Dy.A6 f+(N-2^Dy.A6 f)=(U-Dy.C9 f).toNat*2^Dy.A6 f+N:=by
   rw [show (U-Dy.C9 f+1).toNat=(U-Dy.C9 f).toNat+1 by omega,H2,Q2]
   omega
  rw [e3]
 ·have h:=A0 h
  have hlt:N<2^Dy.A6 f:=by
   rcases L4 N (2^Dy.A6 f) with c|c
   ·exact c
   ·have:=Nat.div_pos c hpp
    omega
  have hUl:U=Dy.C9 f:=by
   rcases Int.lt_or_le (Dy.C9 f) U with c|c
   ·have:=h4 c;omega
   ·omega
  refine ⟨⟨hf,by omega,by omega,by omega,by omega⟩,?_⟩
  rw [hUl,show (Dy.C9 f-Dy.C9 f).toNat=0 by omega]
theorem C9f (args:List AV) (s:Spec) (h:iOf args=some s) (hp:C6 s.pre True):Contract Tryz.prog Inv 161 args s.res:=by
 unfold iOf at h
 split at h
 ·cases h
  rename_i f s l e
  obtain ⟨⟨hf,hs,hm,hb,hfit⟩, -⟩:=hp
  subst hs
  by_cases hl:l=[]
  ·subst hl
   refine A4 false (A3 FF (A17 0)) Tryz.func161 (by kernel_rfl) (by kernel_rfl) fun hok=> ?_
   rw [A7a]
   exact B5 rfl rfl
  ·obtain ⟨q1,q2⟩:=hfit hl
   obtain ⟨z1,z2,z3,z4,z5,z6,z7⟩:=Dy.OD hf (d:=⟨false,l,e⟩) hb hl q1 q2
   have hM:=Dy.Q1 (Dy.C1 hm) hl
   have htop:Dy.C7 ⟨false,l,e⟩=e+Dy.bl (Dy.val l):=by unfold Dy.C7;rw [if_neg hl]
   have hsz:Dy.DD f ⟨false,l,e⟩=(max (Dy.C7 ⟨false,l,e⟩-Dy.A6 f-1) (Dy.C9 f)-Dy.C9 f).toNat*2^Dy.A6 f+Dy.val l*2^(e-max (Dy.C7 ⟨false,l,e⟩-Dy.A6 f-1) (Dy.C9 f)).toNat:=rfl
   simp only at z2 z5 z7
   have hF:=Dy.J0 hf
   have hx:=Dy.J2 hm
   have hbp:=Dy.IV.2 hM
   obtain ⟨E,hE⟩:∃E,max (Dy.C7 ⟨false,l,e⟩-Dy.A6 f-1) (Dy.C9 f)=E:=⟨_,rfl⟩
   rw [hE] at z2 z3 z4 z5 z6 z7 hsz
   obtain ⟨N,hN⟩:∃N,Dy.val l*2^(e-E).toNat=N:=⟨_,rfl⟩
   have hbN:Dy.bl N=Dy.bl (Dy.val l)+(e-E).toNat:=by rw [←hN];exact Dy.E7 hM _
   rw [hN] at z5 hsz
   have hN0:N≠0:=by rw [←hN];exact X0 hM (R6.1 (A9 _))
   have hNlt:N<2^(Dy.A6 f+1):=Dy.I8.1 (by omega)
   have hNge:Dy.C9 f<E→2^Dy.A6 f≤N:=fun c=>Dy.a9.1 (by omega)
   have XE:(E-Dy.C9 f).toNat+1≤Dy.P7 f:=by rcases hF with c|c<;>omega
   have hN53:N<2^53:=Nat.lt_of_lt_of_le hNlt (B3 (by decide) (by omega))
   have hsg:¬Dy.F0 ⟨false,l,e⟩=0:=by unfold Dy.F0;rw [if_neg hl];simp
   have hw1:IntKind.i64.wrap (((Dy.A6 f:Nat):Int)+1)=(Dy.A6 f:Int)+1:=wrap_i64 (by omega) (by omega)
   have hw2:IntKind.i64.wrap (IntKind.i64.wrap (Dy.C7 ⟨false,l,e⟩-((Dy.A6 f:Nat):Int))-1)=Dy.C7 ⟨false,l,e⟩-Dy.A6 f-1:=by rw [wrap_i64 (n:=Dy.C7 ⟨false,l,e⟩-((Dy.A6 f:Nat):Int)) (by omega) (by omega),wrap_i64 (by omega) (by omega)]
   have hlen:l.length≤1048576:=D9 (Dy.J4 (Dy.C1 hm)) (by decide)
   have hres:∀K,K=AV.tup [.num .u64 ((if l=[] then 0 else Dy.DD f ⟨false,l,e⟩:Nat):Int),.bool true]→K= .tup [.num .u64 ((Dy.D5 f false+((E-Dy.C9 f).toNat*2^Dy.A6 f+N):Nat):Int),.bool true]:=fun K hK=>by
    rw [hK,if_neg hl,hsz]
    have:Dy.D5 f false=0:=rfl
    rw [this,N9]
   by_cases hd:N<4294967296
   ·have hdg:Dy.dg N=[N]:=by
     rw [Dy.KQ hN0,L9 hd,F9 hd]
     rfl
    have hwn:IntKind.u64.wrap (N:Int)=N:=by rw [wrap_u64];omega
    refine A4 false (A3 FF (A17 N)) Tryz.func161 (by kernel_rfl) (by kernel_rfl) fun hok=> ?_
    rw [A7a]
    refine B1 (decide_eq_false hsg) ⟨⟨Dy.K5 (Dy.C1 hm),hlen,by omega,by omega⟩,B1 (decide_eq_false (by omega)) (B1 (decide_eq_false (by omega)) ⟨⟨Dy.K5 (Dy.C1 hm),hlen⟩,B1 (decide_eq_false (by rw [hw1];omega)) ?_⟩)⟩
    refine A8 (fun h=> ?_) (fun h=> ?_)
    ·have hEl:Dy.C9 f=E:=by
      have h:=A1 h
      rw [hw2] at h
      omega
     have hwe:IntKind.i64.wrap (e-Dy.C9 f)=e-E:=by rw [←hEl];exact wrap_i64 (by omega) (by omega)
     refine ⟨⟨by rw [hwe];omega,by rw [hwe];omega,hlen,by rw [hwe,hN];exact hdg⟩,⟨by decide,(by decide:(0:Int)<1)⟩,B1 (decide_eq_false (by decide:¬(1:Int)>1)) ⟨by omega,?_⟩⟩
     exact ZK hf hEl hwn z3 z6 hNlt hNge XE (hres _ rfl)
    ·have hEl:IntKind.i64.wrap (IntKind.i64.wrap (Dy.C7 ⟨false,l,e⟩-((Dy.A6 f:Nat):Int))-1)=E:=by
      have h:=A0 h
      rw [hw2] at h ⊢
      omega
     have hwe:IntKind.i64.wrap (e-IntKind.i64.wrap (IntKind.i64.wrap (Dy.C7 ⟨false,l,e⟩-((Dy.A6 f:Nat):Int))-1))=e-E:=by rw [hEl];exact wrap_i64 (by omega) (by omega)
     refine ⟨⟨by rw [hwe];omega,by rw [hwe];omega,hlen,by rw [hwe,hN];exact hdg⟩,⟨by decide,(by decide:(0:Int)<1)⟩,B1 (decide_eq_false (by decide:¬(1:Int)>1)) ⟨by omega,?_⟩⟩
     exact ZK hf hEl hwn z3 z6 hNlt hNge XE (hres _ rfl)
   ·have hq:N/4294967296<4294967296:=by omega
    have hq0:N/4294967296≠0:=by omega
    have hdg:(Dy.dg N).map Int.ofNat=[((N%4294967296:Nat):Int),((N/4294967296:Nat):Int)]:=by
     rw [Dy.KQ hN0,Dy.KQ hq0,L9 hq,F9 hq]
     rfl
    have hwn:IntKind.u64.wrap (IntKind.u64.wrap ((N%4294967296:Nat):Int)+IntKind.u64.wrap (IntKind.u64.wrap ((N/4294967296:Nat):Int)*(2:Int)^32))=N:=by
     rw [show (2:Int)^32=4294967296 from rfl,wrap_u64,wrap_u64,wrap_u64,wrap_u64]
     omega
    refine A4 false (A3 FF (C0u ((N%4294967296:Nat):Int) ((N/4294967296:Nat):Int))) Tryz.func161 (by kernel_rfl) (by kernel_rfl) fun hok=> ?_
    rw [C6r]
    refine B1 (decide_eq_false hsg) ⟨⟨Dy.K5 (Dy.C1 hm),hlen,by omega,by omega⟩,B1 (decide_eq_false (by omega)) (B1 (decide_eq_false (by omega)) ⟨⟨Dy.K5 (Dy.C1 hm),hlen⟩,B1 (decide_eq_false (by rw [hw1];omega)) ?_⟩)⟩
    refine A8 (fun h=> ?_) (fun h=> ?_)
    ·have hEl:Dy.C9 f=E:=by
      have h:=A1 h
      rw [hw2] at h
      omega
     have hwe:IntKind.i64.wrap (e-Dy.C9 f)=e-E:=by rw [←hEl];exact wrap_i64 (by omega) (by omega)
     refine ⟨⟨by rw [hwe];omega,by rw [hwe];omega,hlen,by rw [hwe,hN];exact hdg⟩,⟨by decide,(by decide:(0:Int)<2)⟩,⟨by decide,(by decide:(1:Int)<2)⟩,by omega,?_⟩
     exact ZK hf hEl hwn z3 z6 hNlt hNge XE (hres _ rfl)
    ·have hEl:IntKind.i64.wrap (IntKind.i64.wrap (Dy.C7 ⟨false,l,e⟩-((Dy.A6 f:Nat):Int))-1)=E:=by
      have h:=A0 h
      rw [hw2] at h ⊢
      omega
     have hwe:IntKind.i64.wrap (e-IntKind.i64.wrap (IntKind.i64.wrap (Dy.C7 ⟨false,l,e⟩-((Dy.A6 f:Nat):Int))-1))=e-E:=by rw [hEl];exact wrap_i64 (by omega) (by omega)
     refine ⟨⟨by rw [hwe];omega,by rw [hwe];omega,hlen,by rw [hwe,hN];exact hdg⟩,⟨by decide,(by decide:(0:Int)<2)⟩,⟨by decide,(by decide:(1:Int)<2)⟩,by omega,?_⟩
     exact ZK hf hEl hwn z3 z6 hNlt hNge XE (hres _ rfl)
 ·cases h
end Go.AI
