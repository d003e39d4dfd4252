/- My texts AInat2, AIspec3, AVref1, in one. -/
import Derived.Test.YtogikmlfkhofoaaGreatDoorK5
open BitVec renaming ofInt→A7
open Bool renaming and_eq_true_iff→P1,not_eq_false'→F1,not_eq_true'→G0
open Int renaming eq_ofNat_of_zero_le→C4,natCast_mul→L5,tdiv_eq_ediv_of_nonneg→N8,tmod_eq_emod_of_nonneg→Q9,toNat_natCast→A2
open List renaming drop_length→EA,getD_eq_getElem?_getD→D7,getElem?_eq_none→M1,length_append→g7,length_cons→T5,length_eq_zero_iff→G5,length_nil→DN,length_replicate→U0,length_take→R8,replicate→B2,take_of_length_le→H7
open Nat renaming add_assoc→GI,add_comm→FW,add_mul→H2,add_mul_div_left→AL,add_zero→I4,div_div_eq_div_mul→K7,div_eq_of_lt→L9,div_le_self→L1,div_lt_iff_lt_mul→H0,lt_of_le_of_lt→L8,lt_of_lt_of_le→G7,min_eq_left→J1,mod_add_div→DQ,mod_eq_of_lt→F9,mod_lt→R5,mul_add→D0,mul_assoc→B9,mul_comm→B6,mul_le_mul→I7,mul_le_mul_right→C0,mul_left_comm→M9,mul_mod_mul_right→DW,mul_zero→O3,one_mul→Q2,pow_add→B8,pow_le_pow_right→B3,two_pow_pos→A9,zero_add→N9,zero_mul→R2
namespace Go.Dy
theorem C6d {n x y c:Nat} (h:x+2^n*c=y) (hx:x<2^n):x=y%2^n∧c=y/2^n:=by
 subst h
 rw [Nat.add_mul_mod_self_left,F9 hx,AL _ _ (A9 _),L9 hx]
 exact ⟨rfl,by omega⟩
theorem HL {o:List Nat} (ho:D1 o) {n c y:Nat} (hn:n≤o.length) (h:val (o.take n)+2^(32*n)*c=y):o.take n=dgN n y∧c=y/2^(32*n):=by
 have hl:=I0 (Q7 ho n)
 rw [R8,J1 hn] at hl
 obtain ⟨h1,h2⟩:=C6d h hl
 refine ⟨OU (Q7 ho n) (o8 _ _) (by simp [H5,hn]) ?_,h2⟩
 rw [X6,h1]
theorem J4 {l:List Nat} (h:may l=true):l.length≤4096:=(TI.1 h).1
theorem K5 {l:List Nat} (h:may l=true):dg (val l)=l:=(TI.1 h).2
theorem IK {l:List Nat} (h:may l=true):val l=0 ↔ l=[]:=by
 constructor
 ·intro h0;rw [←K5 h,h0,O0]
 ·rintro rfl;rfl
theorem C9s {l:List Nat} (h:okl l) (n:Nat):okl (l.drop n):=⟨by rw [List.length_drop];have:=h.1;omega,CF h.2 n⟩
theorem OT (l:List Nat) {n:Nat} (h:l.length≤n):val (l.drop n)=0:=by rw [List.drop_of_length_le h];rfl
theorem SF {n:Nat}:A7m true n=(if (dg n).length≤4096 then dg n else [],if (dg n).length≤4096 then 0 else 3):=by
 unfold A7m;simp only [if_true];split<;>rfl
theorem C8r {x y p q k:Nat} (h1:2^(32*p)≤x) (h2:2^(32*q)≤y) (h:k≤p+q):¬(dg (x*y)).length≤k:=fun e=>by
 have e:=M5.1 e
 have q4:2^(32*k)≤2^(32*p+32*q):=B3 (by decide) (by omega)
 rw [B8] at q4
 exact absurd e (Nat.not_lt.2 (Nat.le_trans q4 (I7 h1 h2)))
theorem GQ {a b:Nat}:v8 a b<0 ↔ a<b:=by
 unfold v8
 by_cases h:a<b
 ·simp [h]
 ·rw [if_neg h]
  by_cases h':b<a<;>simp [h,h']
end Go.Dy
namespace Go.AI
open Go Go.RowKit Go.Proofs
set_option linter.unusedVariables false
set_option maxRecDepth 100000
theorem A8j:L6 Tryz.prog (look AF) A0f 2 63 ZC (D8 Tryz.f208 0) C8v:=by
 intro vals r h K hK
 unfold C8v at h
 split at h
 ·cases h
  rename_i a b o c k i
  simp only [j0] at hK
  obtain ⟨⟨ha,hb,hba,rfl,rfl,rfl,rfl⟩,hK⟩:=hK
  have ha1:=ha.1
  have key:∀(u j c:Nat) (o:List Nat),a.length=u+j→o.length=a.length+1→Dy.D1 o→o.drop a.length=[0]→Dy.val (o.take j)+2^(32*j)*(c+Dy.val (a.drop j)+Dy.val (b.drop j))=Dy.val a+Dy.val b→
    ∃m,P4 Tryz.prog (look AF) A0f 2 63 ZC (D8 Tryz.f208 0) m [.dig [1,2,3] a,.dig [1,2,3] b,.grown 152 o,.num .u32 c,.num .i64 a.length,.num .i64 j] K:=by
   intro u
   induction u with
   |zero=>
    intro j c o hj hol hod hot hv
    refine D4 ?_
    rw [UW]
    refine B1 (decide_eq_false (by omega)) ?_
    simp only [Dy.OT a (show a.length≤j by omega),Dy.OT b (show b.length≤j by omega),I4] at hv
    obtain ⟨h1,h2⟩:=Dy.HL hod (by omega) hv
    have hja:j=a.length:=by omega
    subst hja
    have ho:o=Dy.dgN a.length (Dy.val a+Dy.val b)++[0]:=by
     rw [←h1,←hot,List.take_append_drop]
    rw [ho,h2]
    exact hK
   |succ u ih=>
    intro j c o hj hol hod hot hv
    rw [Dy.I1 a,Dy.I1 b] at hv
    have hset:=Dy.y7 (l:=o) (i:=j) (d:=(a.getD j 0+b.getD j 0+c)%4294967296) (by omega)
    obtain ⟨m,hm⟩:=ih (j+1) ((a.getD j 0+b.getD j 0+c)/4294967296) (o.set j ((a.getD j 0+b.getD j 0+c)%4294967296)) (by omega) (by simpa using hol) (Dy.BJ hod (by omega))
     (by rw [List.drop_set,if_pos (by omega)];exact hot) (by
      rw [hset,Dy.J6,B9,GI,←D0,←hv]
      congr 2
      omega)
    refine E9 m ?_
    rw [UW]
    have e1:∀x y:Nat,(((x:Int)+(y:Int)+(c:Int))%4294967296).toNat=(x+y+c)%4294967296:=fun x y=>by omega
    have e2:∀x y:Nat,((x:Int)+(y:Int)+(c:Int))/4294967296=(((x+y+c)/4294967296:Nat):Int):=fun x y=>by omega
    refine B5 (decide_eq_true (by omega)) (A8 (fun h=> ?_) (fun h=> ?_))
    ·have h:=A1 h
     refine ⟨by omega,by omega,?_⟩
     rintro _ rfl _ rfl
     refine ⟨by omega,by omega,?_⟩
     rw [A2,e1,e2,wrap_i64 (by omega) (by omega)]
     exact hm
    ·have h:=A0 h
     refine ⟨by omega,?_⟩
     rintro _ rfl _ rfl
     refine ⟨by omega,by omega,?_⟩
     have hb0:b.getD j 0=0:=by rw [D7,M1 (by omega)];rfl
     rw [A2,show ((0:Int))=((b.getD j 0:Nat):Int) by rw [hb0];rfl,e1,e2,wrap_i64 (by omega) (by omega)]
     exact hm
  exact key a.length 0 0 _ (by omega) (by simp) (Dy.P2 _) (by simp) (by simp [Dy.val])
 ·cases h
theorem C3m (A B n:Nat) (hA:A<2^(32*n)) (hB:B<2^(32*n)):Dy.val ((Dy.dgN n (A+B)++[0]).set n ((A+B)/2^(32*n)))=A+B:=by
 rw [List.set_append_right _ _ (by simp [Dy.H5])]
 simp only [Dy.H5,Nat.sub_self,List.set_cons_zero]
 rw [Dy.U6,Dy.X6,Dy.H5,DQ]
theorem C02 (args:List AV) (s:Spec) (h:D5j args=some s) (hp:C6 s.pre True):Contract Tryz.prog Inv 208 args s.res:=by
 unfold D5j at h
 split at h
 ·cases h
  rename_i a b
  refine E8 false 63 A0f DA Tryz.func208 (by kernel_rfl) rfl (W4 (by kernel_rfl) (by kernel_rfl) A8j) fun hok=> ?_
  have ha:=(E4 hok).1
  have hb:=(E4 (E4 hok).2).1
  have ha1:=ha.1
  have hb1:=hb.1
  rw [C2e]
  refine A8 (fun h=> ?_) (fun h=> ?_)
  ·simp only [G0] at h
   unfold Dy.PV
   rw [h]
   rfl
  ·simp only [F1] at h
   unfold Dy.PV
   rw [h,Dy.SF]
   obtain ⟨m1,m2⟩:=(P1).1 h
   have:=Dy.J4 m1
   have:=Dy.J4 m2
   have la:=Dy.I0 ha.2
   have lb:=Dy.I0 hb.2
   refine A8 (fun h=> ?_) (fun h=> ?_)
   ·have h:=A1 h
    rw [wrap_i64 (by omega) (by omega),A2]
    refine ⟨⟨by omega,by omega,by omega⟩,⟨hb,ha,by omega,by rw [show ((b.length:Int)+1).toNat=b.length+1 by omega],rfl,rfl,rfl⟩,by simp [Dy.H5];omega,by simp [Dy.H5],?_⟩
    rintro _ rfl _ rfl
    rw [A2,C3m _ _ _ lb (G7 la (B3 (by decide) (by omega))),FW]
   ·have h:=A0 h
    rw [wrap_i64 (by omega) (by omega),A2]
    refine ⟨⟨by omega,by omega,by omega⟩,⟨ha,hb,by omega,by rw [show ((a.length:Int)+1).toNat=a.length+1 by omega],rfl,rfl,rfl⟩,by simp [Dy.H5];omega,by simp [Dy.H5],?_⟩
    rintro _ rfl _ rfl
    rw [A2,C3m _ _ _ la (G7 lb (B3 (by decide) (by omega)))]
 ·cases h
theorem A8o:L6 Tryz.prog (look AF) TF 2 41 SZ (D8 Tryz.f218 0) B9m:=by
 intro vals r h K hK
 unfold B9m at h
 split at h
 ·cases h
  rename_i a b o c k i
  simp only [j0] at hK
  obtain ⟨⟨ha,hb,hba,rfl,rfl,rfl,rfl⟩,hK⟩:=hK
  have ha1:=ha.1
  have key:∀(u j c:Nat) (o:List Nat),a.length=u+j→o.length=a.length→Dy.D1 o→c≤1→Dy.val (o.take j)+2^(32*j)*Dy.val (a.drop j)+Dy.val b=Dy.val a+2^(32*j)*(c+Dy.val (b.drop j))→
    ∃m,P4 Tryz.prog (look AF) TF 2 41 SZ (D8 Tryz.f218 0) m [.dig [1,2,3] a,.dig [1,2,3] b,.grown 152 o,.num .u32 c,.num .i64 a.length,.num .i64 j] K:=by
   intro u
   induction u with
   |zero=>
    intro j c o hj hol hod hc hv
    refine D4 ?_
    rw [VA]
    refine B1 (decide_eq_false (by omega)) ?_
    have hja:j=a.length:=by omega
    subst hja
    rw [H7 (by omega),EA] at hv
    have hlt:=Dy.I0 hod
    rw [hol] at hlt
    have hvb:Dy.val (b.drop a.length)=0:=by
     rw [Dy.HO hb.2]
     exact L9 (L8 hba (Dy.I0 ha.2))
    rw [hvb] at hv
    simp only [Dy.val,O3,I4] at hv
    have hc0:c=0:=by
     rcases Nat.eq_zero_or_pos c with h|h
     ·exact h
     ·have:c=1:=by omega
      subst this
      omega
    subst hc0
    have ho:o=Dy.dgN a.length (Dy.val a-Dy.val b):=by
     rw [show Dy.val a-Dy.val b=Dy.val o by omega]
     exact (Dy.CW hod hol).symm
    rw [ho]
    exact hK
   |succ u ih=>
    intro j c o hj hol hod hc hv
    have hx:=Dy.E5 ha.2 j
    have hy:=Dy.E5 hb.2 j
    rw [Dy.I1 a,Dy.I1 b] at hv
    generalize hxx:a.getD j 0=x at hx hv
    generalize hyy:b.getD j 0=y at hy hv
    have hd:∃d:Nat,(((x:Int)-(y:Int)-(c:Int))%4294967296).toNat=d∧d<4294967296∧d+y+c=x+4294967296*(if x<y+c then 1 else 0):=by
     refine ⟨_,rfl,by omega,?_⟩
     split<;>omega
    obtain ⟨d,hd1,hd2,hd3⟩:=hd
    have hset:=Dy.y7 (l:=o) (i:=j) (d:=d) (by omega)
    obtain ⟨m,hm⟩:=ih (j+1) (if x<y+c then 1 else 0) (o.set j d) (by omega) (by simpa using hol) (Dy.BJ hod hd2) (by split<;>omega) (by
      rw [hset,Dy.J6]
      generalize (if x<y+c then 1 else 0)=e at hd3 ⊢
      generalize 2^(32*j)=p at hv ⊢
      have h1:p*(d+y+c)=p*(x+4294967296*e):=by rw [hd3]
      simp only [D0,B9] at hv h1 ⊢
      omega)
    refine E9 m ?_
    rw [VA]
    have e2:(if (x:Int)<(y:Int)+(c:Int) then (1:Int) else 0)=((if x<y+c then 1 else 0:Nat):Int):=by
     by_cases h:x<y+c
     ·rw [if_pos h,if_pos (by omega)];rfl
     ·rw [if_neg h,if_neg (by omega)];rfl
    refine B5 (decide_eq_true (by omega)) (A8 (fun h=> ?_) (fun h=> ?_))
    ·have h:=A1 h
     refine ⟨by omega,by omega,by omega,?_⟩
     rintro _ rfl _ rfl
     refine ⟨by omega,by omega,?_⟩
     rw [A2,hxx,hyy,hd1,e2,wrap_i64 (by omega) (by omega)]
     exact hm
    ·have h:=A0 h
     refine ⟨by omega,by omega,?_⟩
     rintro _ rfl _ rfl
     refine ⟨by omega,by omega,?_⟩
     have hb0:b.getD j 0=0:=by rw [D7,M1 (by omega)];rfl
     have hy0:y=0:=by rw [←hyy,hb0]
     rw [A2,hxx,show ((0:Int))=((y:Nat):Int) by rw [hy0];rfl,hd1]
     rw [show ((1:Int))=((1:Nat):Int) from rfl,show (if (x:Int)<(y:Int)+(c:Int) then ((1:Nat):Int) else ((y:Nat):Int))=((if x<y+c then 1 else 0:Nat):Int) by rw [←e2,hy0];rfl,wrap_i64 (by omega) (by omega)]
     exact hm
  exact key a.length 0 0 _ (by omega) (by simp) (Dy.P2 _) (by omega) (by simp [Dy.val])
 ·cases h
theorem C0d (args:List AV) (s:Spec) (h:A6u args=some s) (hp:C6 s.pre True):Contract Tryz.prog Inv 218 args s.res:=by
 unfold A6u at h
 split at h
 ·cases h
  rename_i a b
  obtain ⟨⟨hba,hal⟩, -⟩:=hp
  refine E8 false 41 TF DA Tryz.func218 (by kernel_rfl) rfl (W4 (by kernel_rfl) (by kernel_rfl) A8o) fun hok=> ?_
  have ha:=(E4 hok).1
  have hb:=(E4 (E4 hok).2).1
  rw [C2p]
  refine ⟨⟨by omega,by omega,by omega⟩,⟨ha,hb,hba,by rw [A2],rfl,rfl,rfl⟩,?_⟩
  rw [Dy.m8 (L8 (Nat.sub_le _ _) (Dy.I0 ha.2))]
 ·cases h
theorem WB:L6 Tryz.prog (look AF) NL 2 68 SU (D8 Tryz.f186 1) B9d:=by
 intro vals r h K hK
 unfold B9d at h
 split at h
 ·cases h
  rename_i o r x c b k i b' a ka ia
  simp only [j0] at hK
  obtain ⟨⟨ho,hb,hb1,hr,hro,hol,hx0,hx1,rfl,rfl,rfl⟩,hK⟩:=hK
  obtain ⟨r,rfl⟩:=C4 hr
  obtain ⟨x,rfl⟩:=C4 hx0
  simp only [A2] at hro hK
  generalize hS:Dy.val (o.take (r+b.length))+2^(32*r)*(x*Dy.val b)=S at hK
  have key:∀(u j c:Nat) (q:List Nat),b.length=u+j→q.length=o.length→Dy.D1 q→q.drop (r+b.length)=o.drop (r+b.length)→c<4294967296→Dy.val (q.take (r+b.length))+2^(32*(r+j))*(c+x*Dy.val (b.drop j))=S→
    ∃m,P4 Tryz.prog (look AF) NL 2 68 SU (D8 Tryz.f186 1) m [.grown 152 q,.num .i64 r,.num .u32 x,.num .u64 c,.dig [1,2,3] b,.num .i64 b.length,.num .i64 j,.dig [1,2,3] b',.dig [1,2,3] a,.num .i64 ka,.num .i64 ia] K:=by
   intro u
   induction u with
   |zero=>
    intro j c q hj hql hqd hqt hc hv
    refine D4 ?_
    rw [UZ]
    refine B1 (decide_eq_false (by omega)) ?_
    have hja:j=b.length:=by omega
    subst hja
    simp only [EA,Dy.val,O3,I4] at hv
    obtain ⟨h1,h2⟩:=Dy.HL hqd (by omega) hv
    rw [←h1,←h2,←hqt,List.take_append_drop] at hK
    exact hK
   |succ u ih=>
    intro j c q hj hql hqd hqt hc hv
    have hy:=Dy.E5 hb.2 j
    have hz:=Dy.E5 hqd (r+j)
    rw [Dy.I1 b] at hv
    have hx1':x<4294967296:=by omega
    generalize hyy:b.getD j 0=y at hy hv
    generalize hzz:q.getD (r+j) 0=z at hz
    have hxy:x*y≤4294967295*4294967295:=I7 (by omega) (by omega)
    have hset:=Dy.C50 (l:=q.take (r+b.length)) (i:=r+j) (d:=(x*y+z+c)%4294967296) (by rw [R8];omega)
    have hgz:(q.take (r+b.length)).getD (r+j) 0=z:=by
     rw [←hzz,D7,List.getElem?_take_of_lt (by omega),D7]
    rw [hgz,←List.take_set] at hset
    obtain ⟨m,hm⟩:=ih (j+1) ((x*y+z+c)/4294967296) (q.set (r+j) ((x*y+z+c)%4294967296)) (by omega) (by simpa using hql) (Dy.BJ hqd (by omega))
     (by rw [List.drop_set,if_pos (by omega)];exact hqt) (by omega) (by
      rw [←hv,show r+(j+1)=(r+j)+1 by omega,Dy.J6]
      generalize 2^(32*(r+j))=p at hset ⊢
      have h1:x*y+z+c=(x*y+z+c)%4294967296+4294967296*((x*y+z+c)/4294967296):=by omega
      generalize (x*y+z+c)%4294967296=lo at h1 hset ⊢
      generalize (x*y+z+c)/4294967296=hi at h1 ⊢
      have h2:p*(x*y+z+c)=p*(lo+4294967296*hi):=by rw [h1]
      have h3:x*(y+4294967296*Dy.val (b.drop (j+1)))=x*y+4294967296*(x*Dy.val (b.drop (j+1))):=by rw [D0,M9]
      rw [h3]
      simp only [D0,B9] at h2 hset ⊢
      omega)
    refine E9 m ?_
    rw [UZ]
    have hw:IntKind.i64.wrap ((r:Int)+(j:Int))=((r+j:Nat):Int):=by rw [wrap_i64 (by omega) (by omega)];omega
    rw [hw]
    simp only [A2]
    rw [hyy,hzz]
    have e1:IntKind.u64.wrap (IntKind.u64.wrap (IntKind.u64.wrap (IntKind.u64.wrap (x:Int)*IntKind.u64.wrap (y:Int))+IntKind.u64.wrap (z:Int))+(c:Int))=((x*y+z+c:Nat):Int):=by
     simp only [wrap_u64]
     have q1:(x:Int)%18446744073709551616=x:=by omega
     have q2:(y:Int)%18446744073709551616=y:=by omega
     rw [q1,q2,←L5]
     generalize x*y=xy at hxy ⊢
     omega
    refine B5 (decide_eq_true (by omega)) ⟨by omega,by omega,by omega,by omega,by omega,?_⟩
    rw [e1,fdiv_pow (by omega),A2,wrap_u32,wrap_i64 (by omega) (by omega)]
    have e2:(((x*y+z+c:Nat):Int)%4294967296).toNat=(x*y+z+c)%4294967296:=by omega
    rw [e2]
    exact hm
  exact key b.length 0 0 o (by omega) rfl ho rfl (by omega) (by rw [←hS];simp)
 ·cases h
theorem A8n:L6 Tryz.prog (look AF) NL 2 68 SV (D8 Tryz.f186 0) B9e:=by
 intro vals r h K hK
 unfold B9e at h
 split at h
 ·cases h
  rename_i b o a k i
  simp only [j0] at hK
  obtain ⟨⟨ha,hb,ha1,hb1,rfl,rfl,rfl⟩,hK⟩:=hK
  have key:∀(u j:Nat) (q:List Nat),a.length=u+j→q.length=a.length+b.length→Dy.D1 q→Dy.val (q.take (j+b.length))+2^(32*j)*(Dy.val (a.drop j)*Dy.val b)=Dy.val a*Dy.val b→
    ∃m,P4 Tryz.prog (look AF) NL 2 68 SV (D8 Tryz.f186 0) m [.dig [1,2,3] b,.grown 152 q,.dig [1,2,3] a,.num .i64 a.length,.num .i64 j] K:=by
   intro u
   induction u with
   |zero=>
    intro j q hj hql hqd hv
    refine D4 ?_
    rw [UY]
    refine B1 (decide_eq_false (by omega)) ?_
    have hja:j=a.length:=by omega
    subst hja
    rw [H7 (by omega),EA] at hv
    simp only [Dy.val,R2,O3,I4] at hv
    have:q=Dy.dgN (a.length+b.length) (Dy.val a*Dy.val b):=by rw [←hv];exact (Dy.CW hqd hql).symm
    rw [this]
    exact hK
   |succ u ih=>
    intro j q hj hql hqd hv
    have hx:=Dy.E5 ha.2 j
    rw [Dy.I1 a] at hv
    generalize hxx:a.getD j 0=x at hx hv
    have lb:=Dy.I0 hb.2
    have lq:=Dy.I0 (Dy.Q7 hqd (j+b.length))
    rw [R8,J1 (by omega)] at lq
    generalize hL:Dy.val (q.take (j+b.length))+2^(32*j)*(x*Dy.val b)=L
    have hLlt:L/2^(32*(j+b.length))<4294967296:=by
     rw [H0 (A9 _),←hL]
     have h1:x*Dy.val b≤4294967295*2^(32*b.length):=I7 (by omega) (Nat.le_of_lt lb)
     have h2:2^(32*j)*(x*Dy.val b)≤2^(32*j)*(4294967295*2^(32*b.length)):=Nat.mul_le_mul_left _ h1
     have h3:2^(32*j)*(4294967295*2^(32*b.length))=4294967295*2^(32*(j+b.length)):=by
      rw [M9,←B8,D0]
     rw [h3] at h2
     generalize 2^(32*(j+b.length))=p at lq h2 ⊢
     omega
    have hlen:(Dy.dgN (j+b.length) L++q.drop (j+b.length)).length=a.length+b.length:=by simp [Dy.H5];omega
    have hset:=Dy.y7 (l:=Dy.dgN (j+b.length) L++q.drop (j+b.length)) (i:=j+b.length) (d:=L/2^(32*(j+b.length))) (by omega)
    rw [List.take_left' (Dy.H5 _ _),Dy.X6,DQ] at hset
    obtain ⟨m,hm⟩:=ih (j+1) ((Dy.dgN (j+b.length) L++q.drop (j+b.length)).set (j+b.length) (L/2^(32*(j+b.length)))) (by omega) (by rw [List.length_set];exact hlen)
     (Dy.BJ (Dy.M2.2 ⟨Dy.o8 _ _,Dy.CF hqd _⟩) hLlt) (by
      rw [show j+1+b.length=j+b.length+1 by omega,hset,←hv,←hL,Dy.J6,H2,D0,B9,B9,GI])
    refine E9 m ?_
    rw [UY]
    simp only [A2]
    rw [hxx,hL]
    have hw:IntKind.i64.wrap ((j:Int)+(b.length:Int))=((j+b.length:Nat):Int):=by rw [wrap_i64 (by omega) (by omega)];omega
    rw [hw,hlen]
    simp only [A2]
    refine B5 (decide_eq_true (by omega)) ⟨by omega,⟨hqd,hb,hb1,by omega,by omega,by omega,by omega,by omega,by simp,by simp,by simp⟩,by omega,by omega,?_⟩
    rw [wrap_u32,wrap_i64 (by omega) (by omega)]
    have e2:(((L/2^(32*(j+b.length)):Nat):Int)%4294967296).toNat=L/2^(32*(j+b.length)):=by
     generalize L/2^(32*(j+b.length))=y at hLlt ⊢
     omega
    rw [e2]
    exact hm
  exact key a.length 0 _ (by omega) (by simp) (Dy.P2 _) (by rw [List.take_replicate,Dy.u7];simp)
 ·cases h
theorem C0c (args:List AV) (s:Spec) (h:D0q args=some s) (hp:C6 s.pre True):Contract Tryz.prog Inv 186 args s.res:=by
 unfold D0q at h
 split at h
 ·cases h
  rename_i a b
  obtain ⟨⟨hal,hbl⟩, -⟩:=hp
  refine E8 false 68 NL DA Tryz.func186 (by kernel_rfl) rfl (A8w (by kernel_rfl) (by kernel_rfl) A8n (by kernel_rfl) WB) fun hok=> ?_
  have ha:=(E4 hok).1
  have hb:=(E4 (E4 hok).2).1
  rw [C2o,wrap_i64 (by omega) (by omega)]
  refine ⟨⟨by omega,by omega,by omega⟩,⟨ha,hb,hal,hbl,by rw [show ((a.length:Int)+b.length).toNat=a.length+b.length by omega],rfl,rfl⟩,?_⟩
  rw [Dy.m8]
  rw [D0,B8]
  exact Nat.mul_lt_mul'' (Dy.I0 ha.2) (Dy.I0 hb.2)
 ·cases h
theorem A0l:L6 Tryz.prog (look AF) NO 2 35 PC (D8 Tryz.f205 0) A90:=by
 intro vals r h K hK
 unfold A90 at h
 split at h
 ·cases h
  rename_i a d o c i
  simp only [j0] at hK
  obtain ⟨⟨ha,hd0,hd1,rfl,rfl,rfl⟩,hK⟩:=hK
  have ha1:=ha.1
  obtain ⟨d,rfl⟩:=C4 (Int.le_of_lt hd0)
  simp only [A2] at hK
  have key:∀(j c:Nat) (o:List Nat),j≤a.length→o.length=a.length→Dy.D1 o→c<d→Dy.val a%d=(2^(32*j)*c+Dy.val (a.take j))%d→Dy.val a/d=2^(32*j)*Dy.val (o.drop j)+(2^(32*j)*c+Dy.val (a.take j))/d→
    ∃m,P4 Tryz.prog (look AF) NO 2 35 PC (D8 Tryz.f205 0) m [.dig [1,2,3] a,.num .u32 d,.grown 152 o,.num .u32 c,.num .i64 ((j:Int)-1)] K:=by
   intro j
   induction j with
   |zero=>
    intro c o hj hol hod hc hm hv
    refine D4 ?_
    rw [OK]
    refine B1 (decide_eq_false (by omega)) ?_
    simp only [O3,Nat.pow_zero,Q2,List.take_zero,Dy.val,I4,List.drop_zero] at hm hv
    rw [F9 hc] at hm
    rw [L9 hc,I4] at hv
    rw [hm,hv,Dy.CW hod hol] at hK
    exact hK
   |succ j ih=>
    intro c o hj hol hod hc hm hv
    have hx:=Dy.E5 ha.2 j
    have hts:=Dy.O1 (l:=a) (i:=j) (by omega)
    generalize hxx:a.getD j 0=x at hx hts
    have hdp:0<d:=by omega
    have hq:(c*4294967296+x)/d<4294967296:=by
     rw [H0 hdp]
     have:(c+1)*4294967296≤d*4294967296:=C0 _ hc
     rw [B6 4294967296 d]
     omega
    have hr:(c*4294967296+x)%d<d:=R5 _ hdp
    have hN:2^(32*(j+1))*c+Dy.val (a.take (j+1))=d*(2^(32*j)*((c*4294967296+x)/d))+(2^(32*j)*((c*4294967296+x)%d)+Dy.val (a.take j)):=by
     have h1:=Nat.div_add_mod (c*4294967296+x) d
     generalize (c*4294967296+x)/d=q at h1 ⊢
     generalize (c*4294967296+x)%d=r at h1 ⊢
     rw [hts,Dy.J6,M9 d]
     have h2:2^(32*j)*(d*q+r)=2^(32*j)*(4294967296*c+x):=by rw [h1,B6 c]
     generalize 2^(32*j)=p at h2 ⊢
     simp only [D0,B9] at h2 ⊢
     omega
    have hds:=Dy.IS (l:=o.set j ((c*4294967296+x)/d)) (i:=j) (by simp;omega)
    rw [Dy.IX] at hds
    have hgs:(o.set j ((c*4294967296+x)/d)).getD j 0=(c*4294967296+x)/d:=by simp [D7,show j<o.length by omega]
    rw [hgs] at hds
    obtain ⟨m,hmm⟩:=ih ((c*4294967296+x)%d) (o.set j ((c*4294967296+x)/d)) (by omega) (by simpa using hol) (Dy.BJ hod hq) hr
     (by rw [hm,hN,Nat.mul_add_mod]) (by
      rw [hv,hN,hds,Nat.mul_add_div hdp,Dy.J6,D0,B9]
      omega)
    refine E9 m ?_
    rw [OK]
    have e0:(((j+1:Nat):Int)-1)=(j:Int):=by omega
    rw [e0,A2,hxx]
    refine B5 (decide_eq_true (by omega)) ⟨by omega,by omega,?_⟩
    rintro _ rfl _ rfl
    have e1:(c:Int)*4294967296+(x:Int)=((c*4294967296+x:Nat):Int):=by omega
    rw [e1,←Int.natCast_ediv,←Int.natCast_emod,A2,wrap_i64 (by omega) (by omega)]
    exact ⟨by omega,by omega,hmm⟩
  exact key a.length 0 _ (Nat.le_refl _) (by simp) (Dy.P2 _) (by omega) (by simp) (by simp [Dy.val])
 ·cases h
theorem A9g (args:List AV) (s:Spec) (h:C1r args=some s) (hp:C6 s.pre True):Contract Tryz.prog Inv 205 args s.res:=by
 unfold C1r at h
 split at h
 ·cases h
  rename_i a d
  obtain ⟨⟨hd,hal⟩, -⟩:=hp
  refine E8 false 35 NO DA Tryz.func205 (by kernel_rfl) rfl (W4 (by kernel_rfl) (by kernel_rfl) A0l) fun hok=> ?_
  have ha:=(E4 hok).1
  have hr:=range_u32 (J5 (E4 hok).2).1
  rw [B16]
  refine ⟨⟨by omega,by omega,by omega⟩,⟨ha,hd,hr.2,by rw [A2],rfl,by rw [wrap_i64 (by omega) (by omega)]⟩,?_⟩
  rw [Dy.m8 (L8 (L1 _ _) (Dy.I0 ha.2))]
 ·cases h
theorem B2x:L6 Tryz.prog (look AF) QE 2 50 RG (D8 Tryz.f182 0) C97:=by
 intro vals r h K hK
 unfold C97 at h
 split at h
 ·cases h
  rename_i o s c a k i
  simp only [j0] at hK
  obtain ⟨⟨ha,ha1,hs0,hs1,hol,rfl,rfl,rfl⟩,hK⟩:=hK
  obtain ⟨s,rfl⟩:=C4 hs0
  simp only [A2] at hK
  have key:∀(u j c:Nat) (q:List Nat),a.length=u+j→q.length=j→Dy.D1 q→c<2^s→Dy.val q+2^(32*j)*(c+2^s*Dy.val (a.drop j))=Dy.val a*2^s→
    ∃m,P4 Tryz.prog (look AF) QE 2 50 RG (D8 Tryz.f182 0) m [.grown 152 (o++q),.num .i64 s,.num .u32 c,.dig [1,2,3] a,.num .i64 a.length,.num .i64 j] K:=by
   intro u
   induction u with
   |zero=>
    intro j c q hj hql hqd hc hv
    refine D4 ?_
    rw [XX]
    refine B1 (decide_eq_false (by omega)) ?_
    have hja:j=a.length:=by omega
    subst hja
    simp only [EA,Dy.val,O3,I4] at hv
    have hq:=Dy.HL hqd (n:=a.length) (c:=c) (y:=Dy.val a*2^s) (by omega) (by rw [H7 (by omega)];exact hv)
    rw [H7 (by omega)] at hq
    rw [←hq.1,←hq.2] at hK
    exact hK
   |succ u ih=>
    intro j c q hj hql hqd hc hv
    have hx:=Dy.E5 ha.2 j
    rw [Dy.I1 a] at hv
    generalize hxx:a.getD j 0=x at hx hv
    have hs:2^s*2^(32-s)=4294967296:=by rw [←B8,show s+(32-s)=32 by omega]
    have hc':c<4294967296:=by
     have:2^s≤2^32:=B3 (by decide) (by omega)
     omega
    have hp:=A9 (32-s)
    have e0:x*2^s%4294967296=(x%2^(32-s))*2^s:=by rw [←hs,B6 x,Nat.mul_mod_mul_left,B6]
    have e1:x*2^s%4294967296+c<4294967296:=by
     rw [e0,←hs]
     have h1:x%2^(32-s)+1≤2^(32-s):=R5 _ hp
     have h2:(x%2^(32-s)+1)*2^s≤2^(32-s)*2^s:=C0 _ h1
     rw [H2,Q2,B6 (2^(32-s)) (2^s)] at h2
     omega
    have hcn:x/2^(32-s)<2^s:=by
     rw [H0 hp,hs]
     exact hx
    have hsplit:2^s*x=x*2^s%4294967296+4294967296*(x/2^(32-s)):=by
     rw [e0,←hs,B9,B6 (x%_),←D0,DQ]
    obtain ⟨m,hm⟩:=ih (j+1) (x/2^(32-s)) (q++[x*2^s%4294967296+c]) (by omega) (by simp [hql]) (Dy.M2.2 ⟨hqd,Dy.O9.2 ⟨e1,Dy.Q4⟩⟩) hcn (by
      rw [←hv,Dy.U6,hql,Dy.J6,D0 (2^s),hsplit]
      generalize x*2^s%4294967296=lo
      generalize x/2^(32-s)=hi
      generalize 2^(32*j)=p
      rw [M9 (2^s) 4294967296]
      simp only [D0,B9]
      omega)
    refine E9 m ?_
    rw [XX]
    simp only [A2,T5,DN]
    rw [hxx]
    have hmin:min s 32=s:=by omega
    have hpow:((2:Int)^s)=((2^s:Nat):Int):=by simp
    have e2:IntKind.u32.wrap ((x:Int)*2^min s 32)=((x*2^s%4294967296:Nat):Int):=by
     rw [hmin,hpow,wrap_u32,←L5]
     omega
    have e3:(x*2^s%4294967296)|||c=x*2^s%4294967296+c:=by rw [e0,LF hc]
    rw [e2,A3d (by omega) (by omega) (by omega) (by omega)]
    simp only [A2]
    rw [e3]
    have e4:IntKind.i64.wrap ((32:Int)-(s:Int))=((32-s:Nat):Int):=by rw [wrap_i64 (by omega) (by omega)];omega
    have e5:IntKind.u64.wrap (x:Int)=(x:Int):=by rw [wrap_u64];omega
    rw [e4,e5]
    simp only [A2]
    rw [J1 (by omega:32-s≤64),fdiv_pow (by omega),A2]
    have e6:IntKind.u32.wrap ((x/2^(32-s):Nat):Int)=((x/2^(32-s):Nat):Int):=by
     have:x/2^(32-s)≤x:=L1 _ _
     generalize x/2^(32-s)=y at this ⊢
     rw [wrap_u32]
     omega
    rw [e6,wrap_i64 (by omega) (by omega),List.append_assoc]
    exact B5 (decide_eq_true (by omega)) ⟨by omega,by omega,⟨by omega,by rw [g7];omega⟩,by omega,hm⟩
  have:=key a.length 0 0 [] (by omega) rfl Dy.Q4 (A9 _) (by simp [Dy.val];exact B6 _ _)
  rw [List.append_nil] at this
  exact this
 ·cases h
theorem C5w (args:List AV) (s:Spec) (h:sUp args=some s) (hp:C6 s.pre True):Contract Tryz.prog Inv 182 args s.res:=by
 unfold sUp at h
 split at h
 ·cases h
  rename_i a n
  obtain ⟨⟨hn,hn1,hal⟩, -⟩:=hp
  refine E8 false 50 QE DA Tryz.func182 (by kernel_rfl) rfl (W4 (by kernel_rfl) (by kernel_rfl) B2x) fun hok=> ?_
  have ha:=(E4 hok).1
  obtain ⟨n,rfl⟩:=C4 hn
  rw [C6o]
  refine A8 (fun h=> ?_) (fun h=> ?_)
  ·have h:=A1 h
   have:a=[]:=G5.1 (by omega)
   subst this
   simp [Dy.val,Dy.O0]
  ·have e1:IntKind.i64.wrap ((n:Int).tdiv 32)=((n/32:Nat):Int):=by
    rw [N8 (by omega),wrap_i64 (by omega) (by omega)];omega
   have e2:(n:Int).tmod 32=((n%32:Nat):Int):=by rw [Q9 (by omega)];omega
   rw [e1,e2]
   simp only [A2,U0,g7,Dy.H5,T5,DN]
   rw [wrap_i64 (n:=((n/32:Nat):Int)+(a.length:Int)) (by omega) (by omega),wrap_i64 (by omega) (by omega)]
   refine ⟨⟨by omega,by omega,by omega⟩,⟨ha,hal,by omega,by omega,by omega,by simp,by simp,by simp⟩,⟨by omega,by omega⟩,?_⟩
   rw [Dy.U6,Dy.o5,Dy.u7,Dy.X6]
   simp only [g7,U0,Dy.H5]
   rw [N9,D0,B8,B9,←D0,DQ,B6,B9,←B8,show n%32+32*(n/32)=n by omega]
 ·cases h
theorem A03 {a:List Nat} (ha:Dy.D1 a) {s:Nat} (hs:s<32) (j:Nat):Dy.val a/2^s/2^(32*j)%4294967296=(a.getD j 0/2^s)+(a.getD (j+1) 0*2^(32-s))%4294967296:=by
 have e1:Dy.val a/2^s/2^(32*j)=Dy.val (a.drop j)/2^s:=by
  rw [Dy.HO ha,K7,K7,B6]
 rw [e1,Dy.I1,Dy.I1 a (j+1)]
 have hx:=Dy.E5 ha j
 generalize a.getD j 0=x at hx
 generalize a.getD (j+1) 0=y
 generalize Dy.val (a.drop (j+1+1))=r
 have hsp:2^s*2^(32-s)=4294967296:=by rw [←B8,show s+(32-s)=32 by omega]
 have hp:=A9 s
 have hp':=A9 (32-s)
 have e2:(x+4294967296*(y+4294967296*r))/2^s=x/2^s+2^(32-s)*(y+4294967296*r):=by
  rw [←hsp,B9 (2^s),AL _ _ hp]
 have e3:x/2^s<2^(32-s):=by rw [H0 hp,B6,hsp];exact hx
 have e4:y*2^(32-s)%4294967296=(y%2^s)*2^(32-s):=by rw [←hsp,DW]
 have e5:y*2^(32-s)%4294967296+x/2^s<4294967296:=by
  rw [e4,←hsp]
  have h1:y%2^s+1≤2^s:=R5 _ hp
  have h2:(y%2^s+1)*2^(32-s)≤2^s*2^(32-s):=C0 _ h1
  rw [H2,Q2] at h2
  omega
 rw [e2,D0,M9,B6 (2^(32-s)) y]
 generalize x/2^s=u at e5 ⊢
 generalize y*2^(32-s)=v at e5 ⊢
 omega
theorem A3k:L6 Tryz.prog (look AF) TB 2 60 SS (D8 Tryz.f181 0) B9c:=by
 intro vals r h K hK
 unfold B9c at h
 split at h
 ·cases h
  rename_i a' s o a k i
  simp only [j0] at hK
  obtain ⟨⟨rfl,ha,hs0,hs1,rfl,rfl,rfl⟩,hK⟩:=hK
  have ha1:=ha.1
  obtain ⟨s,rfl⟩:=C4 hs0
  simp only [A2] at hK
  have hs:s<32:=by omega
  have key:∀(u j:Nat) (o:List Nat),a.length=u+j→o.length=a.length→Dy.D1 o→o.take j=Dy.dgN j (Dy.val a/2^s)→
    ∃m,P4 Tryz.prog (look AF) TB 2 60 SS (D8 Tryz.f181 0) m [.dig [1,2,3] a,.num .i64 s,.grown 152 o,.dig [1,2,3] a,.num .i64 a.length,.num .i64 j] K:=by
   intro u
   induction u with
   |zero=>
    intro j o hj hol hod hv
    refine D4 ?_
    rw [QT]
    refine B1 (decide_eq_false (by omega)) ?_
    have hja:j=a.length:=by omega
    subst hja
    rw [H7 (by omega)] at hv
    rw [hv]
    exact hK
   |succ u ih=>
    intro j o hj hol hod hv
    have hdig:=A03 ha.2 hs j
    have hx:=Dy.E5 ha.2 j
    have hy:=Dy.E5 ha.2 (j+1)
    have hd:Dy.val a/2^s/2^(32*j)%4294967296<4294967296:=R5 _ (by decide)
    obtain ⟨m,hm⟩:=ih (j+1) (o.set j (Dy.val a/2^s/2^(32*j)%4294967296)) (by omega) (by simpa using hol) (Dy.BJ hod hd) (by
     rw [Dy.QN (by omega),hv,Dy.B2d])
    refine E9 m ?_
    rw [QT]
    rw [hdig] at hm hd
    have hw:IntKind.i64.wrap ((j:Int)+1)=((j+1:Nat):Int):=by rw [wrap_i64 (by omega) (by omega)];omega
    rw [hw]
    simp only [A2,List.length_set]
    rw [J1 (by omega:s≤32),fdiv_pow (by omega)]
    simp only [A2]
    have hxs:a.getD j 0/2^s≤a.getD j 0:=L1 _ _
    refine B5 (decide_eq_true (by omega)) ⟨by omega,by omega,by omega,by omega,A8 (fun h=> ?_) (fun h=> ?_)⟩
    ·have h:=A1 h
     have e4:IntKind.i64.wrap ((32:Int)-(s:Int))=((32-s:Nat):Int):=by rw [wrap_i64 (by omega) (by omega)];omega
     rw [e4]
     simp only [A2]
     have hg:(o.set j (a.getD j 0/2^s)).getD j 0=a.getD j 0/2^s:=by simp [D7,show j<o.length by omega]
     rw [hg,List.set_set,J1 (by omega:32-s≤64)]
     have hpow:((2:Int)^(32-s))=((2^(32-s):Nat):Int):=by simp
     have hp32:2^(32-s)≤2^32:=B3 (by decide) (by omega)
     have e5:IntKind.u32.wrap (IntKind.u64.wrap (IntKind.u64.wrap ((a.getD (j+1) 0:Nat):Int)*2^(32-s)))=((a.getD (j+1) 0*2^(32-s)%4294967296:Nat):Int):=by
      rw [hpow]
      have q1:IntKind.u64.wrap ((a.getD (j+1) 0:Nat):Int)=((a.getD (j+1) 0:Nat):Int):=by rw [wrap_u64];omega
      rw [q1,←L5,wrap_u64,wrap_u32]
      generalize a.getD (j+1) 0*2^(32-s)=v
      omega
     have hlo:a.getD j 0/2^s<2^(32-s):=by
      rw [H0 (A9 s),←B8,show 32-s+s=32 by omega];exact hx
     have e6:a.getD (j+1) 0*2^(32-s)%4294967296=(a.getD (j+1) 0%2^s)*2^(32-s):=by
      rw [show (4294967296:Nat)=2^s*2^(32-s) by rw [←B8,show s+(32-s)=32 by omega],DW]
     rw [e5,A3d (by omega) (by omega) (by omega) (by omega)]
     simp only [A2]
     rw [e6,Nat.or_comm,LF hlo,FW (a.getD (j+1) 0%2^s*2^(32-s)),←e6]
     exact ⟨by omega,by omega,by omega,by omega,by omega,by omega,hm⟩
    ·have h:=A0 h
     have hb0:a.getD (j+1) 0=0:=by rw [D7,M1 (by omega)];rfl
     rw [hb0,R2,Nat.zero_mod,I4] at hm
     exact hm
  exact key a.length 0 _ (by omega) (by simp) (Dy.P2 _) (by simp [Dy.dgN])
 ·cases h
theorem B40 (args:List AV) (s:Spec) (h:D0m args=some s) (hp:C6 s.pre True):Contract Tryz.prog Inv 181 args s.res:=by
 unfold D0m at h
 split at h
 ·cases h
  rename_i a n
  obtain ⟨⟨hn,hal⟩, -⟩:=hp
  refine E8 false 60 TB DA Tryz.func181 (by kernel_rfl) rfl (W4 (by kernel_rfl) (by kernel_rfl) A3k) fun hok=> ?_
  have ha:=(E4 hok).1
  have hr:=range_i64 (J5 (E4 hok).2).1
  obtain ⟨n,rfl⟩:=C4 hn
  rw [B75]
  have e1:IntKind.i64.wrap ((n:Int).tdiv 32)=((n/32:Nat):Int):=by
   rw [N8 (by omega),wrap_i64 (by omega) (by omega)];omega
  have e2:(n:Int).tmod 32=((n%32:Nat):Int):=by rw [Q9 (by omega)];omega
  rw [e1,e2]
  simp only [A2]
  have hpow:2^(32*(n/32))*2^(n%32)=2^n:=by rw [←B8,show 32*(n/32)+n%32=n by omega]
  refine A8 (fun h=> ?_) (fun h=> ?_)
  ·have h:=A1 h
   have h0:Dy.val a/2^n=0:=L9 (G7 (Dy.I0 ha.2) (B3 (by decide) (by omega)))
   rw [h0,Dy.O0]
  ·have h:=A0 h
   have hl:(a.drop (n/32)).length≤a.length:=by simp
   refine ⟨by omega,⟨by omega,by omega,by omega⟩,⟨by simp,Dy.C9s ha _,by omega,by omega,by simp,by simp,by simp⟩,?_⟩
   rw [Dy.m8 (L8 (L1 _ _) (Dy.I0 (Dy.CF ha.2 _))),Dy.HO ha.2,K7,hpow]
 ·cases h
theorem C04 (args:List AV) (s:Spec) (h:D5l args=some s) (hp:C6 s.pre True):Contract Tryz.prog Inv 144 args s.res:=by
 unfold D5l at h
 split at h
 ·cases h
  rename_i a
  refine A4 false DA Tryz.func144 (by kernel_rfl) (by kernel_rfl) fun hok=> ?_
  have ha:=(E4 hok).1
  have ha1:=ha.1
  rw [C2g]
  refine A8 (fun h=> ?_) (fun h=>A8 (fun h'=> ?_) (fun h'=> ?_))
  ·simp at h
   unfold Dy.F3
   rw [h]
   rfl
  ·have h':=A1 h'
   have:a=[]:=G5.1 (by omega)
   subst this
   have e:Dy.F3 []=0:=by unfold Dy.F3;split<;>rfl
   rw [e]
   rfl
  ·have h':=A0 h'
   simp only [F1] at h
   have hm:=Dy.J4 h
   have hne:a≠[]:=fun e=>h' (by rw [e];rfl)
   have hc:=(Dy.KP ha.2).1 (Dy.K5 h)
   have hb:=Dy.VP ha.2 hne (hc.resolve_left hne)
   have hx:=Dy.E5 ha.2 (a.length-1)
   rw [wrap_i64 (n:=(a.length:Int)-1) (by omega) (by omega),show ((a.length:Int)-1).toNat=a.length-1 by omega]
   refine ⟨by omega,?_⟩
   rw [A2,Dy.VM (by omega)]
   unfold Dy.F3
   rw [if_pos h,hb]
   have hbx:=(Dy.I8 (n:=a.getD (a.length-1) 0) (k:=32)).2 hx
   rw [wrap_i64 (n:=32*((a.length:Int)-1)) (by omega) (by omega),wrap_i64 (by omega) (by omega)]
   congr 1
   omega
 ·cases h
theorem A8k:L6 Tryz.prog (look AF) A0h 1 23 ZE (D8 Tryz.f171 0) C90:=by
 intro vals r h K hK
 unfold C90 at h
 split at h
 ·cases h
  rename_i r a k i
  simp only [j0] at hK
  obtain ⟨⟨ha,ha1,rfl,rfl⟩,hK⟩:=hK
  have key:∀(u j:Nat),a.length=u+j→Dy.val (a.take j)=0→
    ∃m,P4 Tryz.prog (look AF) A0h 1 23 ZE (D8 Tryz.f171 0) m [.num .i64 r,.dig [1,2] a,.num .i64 a.length,.num .i64 j] K:=by
   intro u
   induction u with
   |zero=>
    intro j hj hv
    refine D4 ?_
    rw [LZ]
    refine B1 (decide_eq_false (by omega)) ?_
    have hja:j=a.length:=by omega
    subst hja
    rw [List.take_length] at hv
    rw [decide_eq_true hv] at hK
    exact hK
   |succ u ih=>
    intro j hj hv
    have hx:=Dy.E5 ha.2 j
    by_cases c:a.getD j 0=0
    ·obtain ⟨m,hm⟩:=ih (j+1) (by omega) (by rw [Dy.O1 (by omega),hv,c];simp)
     refine E9 m ?_
     rw [LZ,A2,wrap_i64 (n:=(j:Int)+1) (by omega) (by omega)]
     exact B5 (decide_eq_true (by omega)) ⟨by omega,B1 (by rw [decide_eq_true (by omega)];rfl) hm⟩
    ·refine D4 ?_
     rw [LZ,A2]
     have htz:=Dy.C6j hv (by omega) c hx
     have hne:Dy.val a≠0:=by
      rw [Dy.V9 a j (by omega),hv,N9,Dy.I1]
      have:=A9 (32*j)
      exact Nat.mul_ne_zero (by omega) (by omega)
     rw [decide_eq_false hne] at hK
     have h32:Dy.tz (a.getD j 0)<32:=by
      have:=Dy.Z2 c
      have:=(Dy.I8 (n:=a.getD j 0) (k:=32)).2 hx
      omega
     refine B5 (decide_eq_true (by omega)) ⟨by omega,B5 (by rw [decide_eq_false (by omega)];rfl) ⟨by omega,?_⟩⟩
     rw [A2,Dy.D4a c hx,wrap_i64 (n:=32*(j:Int)) (by omega) (by omega),wrap_i64 (by omega) (by omega)]
     have e1:(32*(j:Int)+(Dy.tz (a.getD j 0):Int))=((Dy.tz (Dy.val a):Nat):Int):=by omega
     have e2:(j:Int)=((Dy.tz (Dy.val a)/32:Nat):Int):=by omega
     rw [e1]
     simp only [cond_false,←e2] at hK
     exact hK
  exact key a.length 0 (by omega) rfl
 ·cases h
theorem C05 (args:List AV) (s:Spec) (h:D5m args=some s) (hp:C6 s.pre True):Contract Tryz.prog Inv 171 args s.res:=by
 unfold D5m at h
 split at h
 ·cases h
  rename_i a
  refine E8 false 23 A0h DA Tryz.func171 (by kernel_rfl) rfl (W4 (by kernel_rfl) (by kernel_rfl) A8k) fun hok=> ?_
  have ha:=(E4 hok).1
  rw [C2h]
  unfold Dy.RL
  refine A8 (fun h=> ?_) (fun h=> ?_)
  ·simp at h
   rw [h]
   rfl
  ·simp only [F1] at h
   have hm:=Dy.J4 h
   refine ⟨⟨ha,by omega,rfl,rfl⟩,A8 (fun h'=> ?_) (fun h'=> ?_)⟩
   ·rw [if_pos h,A1 h',Dy.B0p]
    rfl
   ·rw [if_pos h]
 ·cases h
theorem TP:G6 Tryz.prog Inv (look C6e):=
 A3 (A3 (A3 (A3 (A3 (A3 (A3 (A3 DA C02) C05) C04) B40) C5w) A9g) C0c) C0d
theorem C09 (args:List AV) (s:Spec) (h:D5r args=some s) (hp:C6 s.pre True):Contract Tryz.prog Inv 207 args s.res:=by
 unfold D5r at h
 split at h
 ·cases h
  rename_i a b
  refine A4 false TP Tryz.func207 (by kernel_rfl) (by kernel_rfl) fun hok=> ?_
  rw [C2l]
  unfold Dy.RU
  refine A8 (fun h=> ?_) (fun h=> ?_)
  ·simp only [G0] at h
   rw [h]
   rfl
  ·simp only [F1] at h
   obtain ⟨m1,m2⟩:=(P1).1 h
   have:=Dy.J4 m1
   rw [h]
   unfold Dy.D5v
   refine ⟨⟨Dy.K5 m1,Dy.K5 m2⟩,A8 (fun h'=> ?_) (fun h'=> ?_)⟩
   ·have h':=Dy.GQ.1 (A1 h')
    simp only [if_true,if_pos h']
   ·have h':¬Dy.val a<Dy.val b:=fun e=>A0 h' (Dy.GQ.2 e)
    simp only [if_true,if_neg h']
    exact ⟨by omega,trivial⟩
 ·cases h
theorem C03 (args:List AV) (s:Spec) (h:D0l args=some s) (hp:C6 s.pre True):Contract Tryz.prog Inv 210 args s.res:=by
 unfold D0l at h
 split at h
 ·cases h
  rename_i a b
  refine A4 false TP Tryz.func210 (by kernel_rfl) (by kernel_rfl) fun hok=> ?_
  rw [C2f]
  unfold Dy.YB
  refine A8 (fun h=> ?_) (fun h=> ?_)
  ·simp only [G0] at h
   rw [h]
   rfl
  ·simp only [F1] at h
   obtain ⟨m1,m2⟩:=(P1).1 h
   rw [h]
   exact ⟨⟨Dy.K5 m1,Dy.K5 m2⟩,rfl⟩
 ·cases h
theorem C07 (args:List AV) (s:Spec) (h:D5o args=some s) (hp:C6 s.pre True):Contract Tryz.prog Inv 202 args s.res:=by
 unfold D5o at h
 split at h
 ·cases h
  rename_i a b
  refine A4 false TP Tryz.func202 (by kernel_rfl) (by kernel_rfl) fun hok=> ?_
  rw [C2j]
  unfold Dy.mulR
  refine A8 (fun h=> ?_) (fun h=> ?_)
  ·simp only [G0] at h
   rw [h]
   rfl
  ·simp only [F1] at h
   obtain ⟨m1,m2⟩:=(P1).1 h
   have l1:=Dy.J4 m1
   have l2:=Dy.J4 m2
   rw [h,Dy.SF]
   refine A8 (fun h1=>A8 (fun h2=>A8 (fun h3=> ?_) (fun h3=>⟨by omega,by rintro _ rfl _ rfl;rfl⟩)) (fun h2=>⟨by omega,by rintro _ rfl _ rfl;rfl⟩)) (fun h1=>⟨by omega,by rintro _ rfl _ rfl;rfl⟩)
   have h1:=A1 h1
   have h2:=A1 h2
   have h3:=A1 h3
   rw [wrap_i64 (n:=(a.length:Int)+b.length) (by omega) (by omega),wrap_i64 (by omega) (by omega)] at h3
   have n1:Dy.val a≠0:=fun e=>by have:=(Dy.IK m1).1 e;subst this;simp at h1
   have n2:Dy.val b≠0:=fun e=>by have:=(Dy.IK m2).1 e;subst this;simp at h2
   have q1:=Dy.KY n1
   have q2:=Dy.KY n2
   rw [Dy.K5 m1] at q1
   rw [Dy.K5 m2] at q2
   have q3:¬(Dy.dg (Dy.val a*Dy.val b)).length≤4096:=Dy.C8r q1 q2 (by omega)
   rw [if_neg q3,if_neg q3]
 ·cases h
theorem A9e (args:List AV) (s:Spec) (h:C1q args=some s) (hp:C6 s.pre True):Contract Tryz.prog Inv 145 args s.res:=by
 unfold C1q at h
 split at h
 ·cases h
  rename_i a n
  refine A4 false TP Tryz.func145 (by kernel_rfl) (by kernel_rfl) fun hok=> ?_
  have ha:=(E4 hok).1
  have hr:=range_i64 (J5 (E4 hok).2).1
  rw [B14]
  unfold Dy.H3
  refine A8 (fun h=> ?_) (fun h=>A8 (fun h1=> ?_) (fun h1=> ?_))
  ·simp only [G0] at h
   simp only [h]
   rfl
  ·have h1:=A1 h1
   have:a=[]:=G5.1 (by omega)
   subst this
   simp only [F1] at h
   simp only [h,if_true,Dy.val]
  ·simp only [F1] at h
   have h1:=A0 h1
   have hl:=Dy.J4 h
   have hv:Dy.val a≠0:=fun e=>h1 (by rw [(Dy.IK h).1 e];rfl)
   have hbl:Dy.bl (Dy.val a)≤32*a.length:=Dy.I8.2 (Dy.I0 ha.2)
   have htz:=Dy.Z2 hv
   simp only [if_pos h,if_neg hv,Dy.RL,Dy.F3]
   refine A8 (fun h2=> ?_) (fun h2=>A8 (fun h3=> ?_) (fun h3=> ?_))
   ·have h2:=A1 h2
    have h0:Dy.val a/2^(-n).toNat=0:=L9 (G7 (Dy.I0 ha.2) (B3 (by decide) (by omega)))
    rw [if_pos (by omega),h0,Dy.O0,decide_eq_true (by omega)]
   ·have h2:=A0 h2
    have h3:=A1 h3
    rw [if_pos h3,wrap_i64 (by omega) (by omega),show (0:Int)-n= -n by omega]
    exact ⟨by omega,rfl⟩
   ·have h3:=A0 h3
    rw [if_neg h3,wrap_i64 (by omega) (by omega)]
    refine A8 (fun h4=> ?_) (fun h4=> ?_)
    ·have h4:=A1 h4
     rw [if_pos (by omega)]
    ·have h4:=A0 h4
     rw [if_neg (by omega)]
     exact ⟨by omega,rfl⟩
 ·cases h
theorem TQ:G6 Tryz.prog Inv (look B0k):=A3 (A3 (A3 (A3 TP A9e) C03) C07) C09
end Go.AI

namespace Go.Dy
def ID:List Nat→List Nat→Nat
 |x::a,y::b=>if x=y then ID a b+1 else 0
 |_,_=>0
end Go.Dy
namespace Go.AI
open Go Go.RowKit Go.Proofs
set_option linter.unusedVariables false
def D0v:List AV→Option Spec
 |[.dig [1] a,.dig [2] b]=>some ⟨none,.bool (decide (a=b))⟩
 |_=>none
def D58:List AV→Option Spec
 |[.dig [1] a,.dig [2] b]=>some ⟨some (a.length≤1048576∧b.length≤1048576),.dig [0] (Dy.dg (Dy.val a+Dy.val b))⟩
 |_=>none
def D5b:List AV→Option Spec
 |[.dig [1] a]=>some ⟨some (Dy.dg (Dy.val a)=a∧a.length≤1048576),.num .i64 (Dy.bl (Dy.val a):Nat)⟩
 |_=>none
def D59:List AV→Option Spec
 |[.dig [1] a,.num .i64 i]=>some ⟨none,.num .u32 (if i<0 then 0 else Dy.val a/2^i.toNat%2:Nat)⟩
 |_=>none
def D5c:List AV→Option Spec
 |[.dig [1] a]=>some ⟨some (Dy.dg (Dy.val a)=a∧a.length≤1048576),.num .i64 (Dy.tz (Dy.val a):Nat)⟩
 |_=>none
def D04:List AV→Option Spec
 |[.dig [1] a,.num .i64 n]=>some ⟨some (Dy.dg (Dy.val a)=a∧0≤n∧a.length≤1048576),.tup [.dig [0] (Dy.dg (Dy.val a/2^n.toNat)),.bool (decide (Dy.val a≠0∧(Dy.tz (Dy.val a):Int)<n))]⟩
 |_=>none
def DF:List (Nat×(List AV→Option Spec)):=(113,A24)::B0k
def C6f:List (Nat×(List AV→Option Spec)):=(55,sOf)::(166,D0v)::(116,C69)::(115,D58)::(117,A6u)::(96,D5b)::(162,D59)::(98,sUp)::DF
def C6g:List (Nat×(List AV→Option Spec)):=(111,D5c)::C6f
def D5x:List (Nat×(List AV→Option Spec)):=(112,D04)::C6g
end Go.AI

namespace Go.AI
open Dy IntKind
open Go Go.RowKit Go.Proofs
set_option linter.unusedVariables false
set_option maxRecDepth 100000
set_option maxHeartbeats 0
def A8z:List AV→Option LR
 |[.dig [1,2] l,.num .i64 n]=>some (.need (Dy.okl l∧n=l.length) (.done (.exit 0) [.dig [1,2] l,.num .i64 (Dy.dg (Dy.val l)).length]))
 |_=>none
def PB:List (Nat×Keep):=[(0,.same),(3,.same)]
def NN:=lam [(2,.spec PB A8z)]
theorem B7m (l:List Nat) (Q:AV→Prop):(evF Tryz.prog (look B0k) NN true Tryz.f113 [.dig [1] l] Q)=((okl l∧(↑l.length:Int)=(↑l.length:Int))∧((0:Int)≤(↑(dg (val l)).length:Int)∧(↑(dg (val l)).length:Int)≤(↑l.length:Int))∧Q (.dig [0,1] (List.take (↑(dg (val l)).length:Int).toNat l))):=by kernel_rfl
theorem JG (l:List Nat) (n:Int) (K:Exit→List AV→Prop):(M7 Tryz.prog (look B0k) NN (1:Nat) (21:Nat) PB (D8 Tryz.f113 (0:Nat)) [.dig [1,2] l,.num .i64 n] K)=(bif decide (n>0) then ((0:Int)≤i64.wrap (n-1)∧i64.wrap (n-1)<(↑l.length:Int))∧bif decide ((↑(l.getD (i64.wrap (n-1)).toNat (0:Nat)):Int)=0) then K Exit.normal [.dig [1,2] l,.num .i64 (i64.wrap (n-1))] else K (Exit.exit (0:Nat)) [.dig [1,2] l,.num .i64 n] else K (Exit.exit (0:Nat)) [.dig [1,2] l,.num .i64 n]):=by kernel_rfl
theorem C6s (n:Int) (Q:AV→Prop):(evF Tryz.prog (look DF) (lam []) false Tryz.f55 [.num .u64 n] Q)=(Q (.dig [0] (dg (val [(u32.wrap n).toNat,(u32.wrap (n.fdiv ((2:Int)^(32:Nat)))).toNat])))):=by kernel_rfl
def B9l:List AV→Option LR
 |[.dig [1,2,3] a,.dig [1,2,3] b,.bool r,.num .i64 i]=>some (.need (a.length=b.length∧i=0∧Dy.okl a) (.test (decide (a=b)) (.done (.exit 0) [.dig [1,2,3] a,.dig [1,2,3] b,.bool r,.num .i64 a.length])
 (.done .ret [.dig [1,2,3] a,.dig [1,2,3] b,.bool false,.num .i64 (Dy.ID a b:Nat)])))
 |_=>none
def SY:List (Nat×Keep):=[(0,.same),(1,.same),(4,.same),(5,.same)]
def TE:=lam [(4,.spec SY B9l)]
theorem B7l (a:List Nat) (b:List Nat) (Q:AV→Prop):(evF Tryz.prog (look DF) TE false Tryz.f166 [.dig [1] a,.dig [2] b] Q)=(bif !decide ((↑a.length:Int)=(↑b.length:Int)) then Q (.bool false) else (a.length=b.length∧(0:Int)=0∧okl a)∧bif decide (a=b) then Q (.bool true) else Q (.bool false)):=by kernel_rfl
theorem JF (a:List Nat) (b:List Nat) (r:Bool) (i:Int) (K:Exit→List AV→Prop):(M7 Tryz.prog (look DF) TE (2:Nat) (26:Nat) SY (D8 Tryz.f166 (0:Nat)) [.dig [1,2,3] a,.dig [1,2,3] b,.bool r,.num .i64 i] K)=(bif decide (i<(↑a.length:Int)) then (0≤i∧i<(↑a.length:Int))∧(0≤i∧i<(↑b.length:Int))∧bif !decide ((↑(a.getD i.toNat (0:Nat)):Int)=(↑(b.getD i.toNat (0:Nat)):Int)) then K Exit.ret [.dig [1,2,3] a,.dig [1,2,3] b,.bool false,.num .i64 i] else K Exit.normal [.dig [1,2,3] a,.dig [1,2,3] b,.bool r,.num .i64 (i64.wrap (i+1))] else K (Exit.exit (0:Nat)) [.dig [1,2,3] a,.dig [1,2,3] b,.bool r,.num .i64 i]):=by kernel_rfl
def B9g:List AV→Option LR
 |[.dig [1,2,3] a,.dig [1,2,3] b,.num .i64 r,.num .i64 i]=>some (.need (a.length=b.length∧ -1≤i∧i<a.length∧a.length≤2^45) (.test (decide (0≤Dy.U3 a b (i+1).toNat))
 (.done .ret [.dig [1,2,3] a,.dig [1,2,3] b,.num .i64 (if a.getD (Dy.U3 a b (i+1).toNat).toNat 0<b.getD (Dy.U3 a b (i+1).toNat).toNat 0 then -1 else 1),.num .i64 (Dy.U3 a b (i+1).toNat)])
 (.done (.exit 0) [.dig [1,2,3] a,.dig [1,2,3] b,.num .i64 r,.num .i64 (-1)])))
 |_=>none
def ZI:=lam [(6,.spec [(0,.same),(1,.same),(4,.same),(5,.same)] B9g)]
theorem C31 (a:List Nat) (b:List Nat) (Q:AV→Prop):(evF Tryz.prog (look DF) ZI false Tryz.f116 [.dig [1] a,.dig [2] b] Q)=(bif !decide ((↑a.length:Int)=(↑b.length:Int)) then bif decide ((↑a.length:Int)<(↑b.length:Int)) then Q (.num .i64 (-1)) else Q (.num .i64 1) else (a.length=b.length∧(-1:Int)≤i64.wrap ((↑a.length:Int)-1)∧i64.wrap ((↑a.length:Int)-1)<(↑a.length:Int)∧a.length≤35184372088832)∧bif decide (0≤U3 a b (i64.wrap ((↑a.length:Int)-1)+1).toNat) then Q (.num .i64 (if a.getD (U3 a b (i64.wrap ((↑a.length:Int)-1)+1).toNat).toNat (0:Nat)<b.getD (U3 a b (i64.wrap ((↑a.length:Int)-1)+1).toNat).toNat (0:Nat) then (-1:Int) else (1:Int))) else Q (.num .i64 0)):=by kernel_rfl
theorem MB (a:List Nat) (b:List Nat) (i:Int) (r:Int) (K:Exit→List AV→Prop):(M7 Tryz.prog (look DF) ZI (2:Nat) (41:Nat) [((0:Nat),Keep.same),((1:Nat),Keep.same),((4:Nat),Keep.same),((5:Nat),Keep.same)] (D8 Tryz.f116 (0:Nat)) [.dig [1,2,3] a,.dig [1,2,3] b,.num .i64 r,.num .i64 i] K)=(bif decide (i≥0) then (0≤i∧i<(↑a.length:Int))∧(0≤i∧i<(↑b.length:Int))∧bif decide ((↑(a.getD i.toNat (0:Nat)):Int)<(↑(b.getD i.toNat (0:Nat)):Int)) then K Exit.ret [.dig [1,2,3] a,.dig [1,2,3] b,.num .i64 (-1),.num .i64 i] else (0≤i∧i<(↑a.length:Int))∧(0≤i∧i<(↑b.length:Int))∧bif decide ((↑(a.getD i.toNat (0:Nat)):Int)>(↑(b.getD i.toNat (0:Nat)):Int)) then K Exit.ret [.dig [1,2,3] a,.dig [1,2,3] b,.num .i64 1,.num .i64 i] else K Exit.normal [.dig [1,2,3] a,.dig [1,2,3] b,.num .i64 r,.num .i64 (i64.wrap (i-1))] else K (Exit.exit (0:Nat)) [.dig [1,2,3] a,.dig [1,2,3] b,.num .i64 r,.num .i64 i]):=by kernel_rfl
def B9f:List AV→Option LR
 |[.dig [1,2,3] a,.dig [1,2,3] b,.grown 152 o,.num .u64 c,.num .i64 i]=>
 some (.need (Dy.okl a∧Dy.okl b∧a.length≤1048576∧b.length≤1048576∧o=[]∧c=0∧i=0)
 (.done (.exit 0) [.dig [1,2,3] a,.dig [1,2,3] b,.grown 152 (Dy.dgN (max a.length b.length) (Dy.val a+Dy.val b)),.num .u64 ((Dy.val a+Dy.val b)/2^(32*max a.length b.length):Nat),.num .i64 (max a.length b.length:Nat)]))
 |_=>none
def BM:List (Nat×Keep):=[(0,.same),(1,.same),(5,.grow 152),(6,.same),(7,.same)]
def PD:=lam [(4,.spec BM B9f)]
theorem C2z (a:List Nat) (b:List Nat) (Q:AV→Prop):(evF Tryz.prog (look DF) PD false Tryz.f115 [.dig [1] a,.dig [2] b] Q)=((okl a∧okl b∧a.length≤1048576∧b.length≤1048576∧([]:List Nat)=[]∧(0:Int)=0∧(0:Int)=0)∧((0:Nat)≤[(u32.wrap (↑((val a+val b)/2^((32:Nat)*max a.length b.length)):Int)).toNat].length∧(dgN (max a.length b.length) (val a+val b)).length+[(u32.wrap (↑((val a+val b)/2^((32:Nat)*max a.length b.length)):Int)).toNat].length≤1099511627776)∧Q (.dig [0] (dg (val (dgN (max a.length b.length) (val a+val b)++[(u32.wrap (↑((val a+val b)/2^((32:Nat)*max a.length b.length)):Int)).toNat]))))):=by kernel_rfl
theorem VC (a:List Nat) (b:List Nat) (o:List Nat) (c:Int) (i:Int) (K:Exit→List AV→Prop):(M7 Tryz.prog (look DF) PD (2:Nat) (55:Nat) BM (D8 Tryz.f115 (0:Nat)) [.dig [1,2,3] a,.dig [1,2,3] b,.grown (152:TypeId) o,.num .u64 c,.num .i64 i] K)=(bif decide (i<(↑a.length:Int)) then bif decide (i<(↑a.length:Int)) then (0≤i∧i<(↑a.length:Int))∧bif decide (i<(↑b.length:Int)) then (0≤i∧i<(↑b.length:Int))∧((0:Nat)≤[(u32.wrap (u64.wrap (u64.wrap (c+u64.wrap (↑(a.getD i.toNat (0:Nat)):Int))+u64.wrap (↑(b.getD i.toNat (0:Nat)):Int)))).toNat].length∧o.length+[(u32.wrap (u64.wrap (u64.wrap (c+u64.wrap (↑(a.getD i.toNat (0:Nat)):Int))+u64.wrap (↑(b.getD i.toNat (0:Nat)):Int)))).toNat].length≤1099511627776)∧K Exit.normal [.dig [1,2,3] a,.dig [1,2,3] b,.grown (152:Nat) (o++[(u32.wrap (u64.wrap (u64.wrap (c+u64.wrap (↑(a.getD i.toNat (0:Nat)):Int))+u64.wrap (↑(b.getD i.toNat (0:Nat)):Int)))).toNat]),.num .u64 ((u64.wrap (u64.wrap (c+u64.wrap (↑(a.getD i.toNat (0:Nat)):Int))+u64.wrap (↑(b.getD i.toNat (0:Nat)):Int))).fdiv ((2:Int)^(32:Nat))),.num .i64 (i64.wrap (i+1))] else ((0:Nat)≤[(u32.wrap (u64.wrap (c+u64.wrap (↑(a.getD i.toNat (0:Nat)):Int)))).toNat].length∧o.length+[(u32.wrap (u64.wrap (c+u64.wrap (↑(a.getD i.toNat (0:Nat)):Int)))).toNat].length≤1099511627776)∧K Exit.normal [.dig [1,2,3] a,.dig [1,2,3] b,.grown (152:Nat) (o++[(u32.wrap (u64.wrap (c+u64.wrap (↑(a.getD i.toNat (0:Nat)):Int)))).toNat]),.num .u64 ((u64.wrap (c+u64.wrap (↑(a.getD i.toNat (0:Nat)):Int))).fdiv ((2:Int)^(32:Nat))),.num .i64 (i64.wrap (i+1))] else bif decide (i<(↑b.length:Int)) then (0≤i∧i<(↑b.length:Int))∧((0:Nat)≤[(u32.wrap (u64.wrap (c+u64.wrap (↑(b.getD i.toNat (0:Nat)):Int)))).toNat].length∧o.length+[(u32.wrap (u64.wrap (c+u64.wrap (↑(b.getD i.toNat (0:Nat)):Int)))).toNat].length≤1099511627776)∧K Exit.normal [.dig [1,2,3] a,.dig [1,2,3] b,.grown (152:Nat) (o++[(u32.wrap (u64.wrap (c+u64.wrap (↑(b.getD i.toNat (0:Nat)):Int)))).toNat]),.num .u64 ((u64.wrap (c+u64.wrap (↑(b.getD i.toNat (0:Nat)):Int))).fdiv ((2:Int)^(32:Nat))),.num .i64 (i64.wrap (i+1))] else ((0:Nat)≤[(u32.wrap c).toNat].length∧o.length+[(u32.wrap c).toNat].length≤1099511627776)∧K Exit.normal [.dig [1,2,3] a,.dig [1,2,3] b,.grown (152:Nat) (o++[(u32.wrap c).toNat]),.num .u64 (c.fdiv ((2:Int)^(32:Nat))),.num .i64 (i64.wrap (i+1))] else bif decide (i<(↑b.length:Int)) then bif decide (i<(↑a.length:Int)) then (0≤i∧i<(↑a.length:Int))∧bif decide (i<(↑b.length:Int)) then (0≤i∧i<(↑b.length:Int))∧((0:Nat)≤[(u32.wrap (u64.wrap (u64.wrap (c+u64.wrap (↑(a.getD i.toNat (0:Nat)):Int))+u64.wrap (↑(b.getD i.toNat (0:Nat)):Int)))).toNat].length∧o.length+[(u32.wrap (u64.wrap (u64.wrap (c+u64.wrap (↑(a.getD i.toNat (0:Nat)):Int))+u64.wrap (↑(b.getD i.toNat (0:Nat)):Int)))).toNat].length≤1099511627776)∧K Exit.normal [.dig [1,2,3] a,.dig [1,2,3] b,.grown (152:Nat) (o++[(u32.wrap (u64.wrap (u64.wrap (c+u64.wrap (↑(a.getD i.toNat (0:Nat)):Int))+u64.wrap (↑(b.getD i.toNat (0:Nat)):Int)))).toNat]),.num .u64 ((u64.wrap (u64.wrap (c+u64.wrap (↑(a.getD i.toNat (0:Nat)):Int))+u64.wrap (↑(b.getD i.toNat (0:Nat)):Int))).fdiv ((2:Int)^(32:Nat))),.num .i64 (i64.wrap (i+1))] else ((0:Nat)≤[(u32.wrap (u64.wrap (c+u64.wrap (↑(a.getD i.toNat (0:Nat)):Int)))).toNat].length∧o.length+[(u32.wrap (u64.wrap (c+u64.wrap (↑(a.getD i.toNat (0:Nat)):Int)))).toNat].length≤1099511627776)∧K Exit.normal [.dig [1,2,3] a,.dig [1,2,3] b,.grown (152:Nat) (o++[(u32.wrap (u64.wrap (c+u64.wrap (↑(a.getD i.toNat (0:Nat)):Int)))).toNat]),.num .u64 ((u64.wrap (c+u64.wrap (↑(a.getD i.toNat (0:Nat)):Int))).fdiv ((2:Int)^(32:Nat))),.num .i64 (i64.wrap (i+1))] else bif decide (i<(↑b.length:Int)) then (0≤i∧i<(↑b.length:Int))∧((0:Nat)≤[(u32.wrap (u64.wrap (c+u64.wrap (↑(b.getD i.toNat (0:Nat)):Int)))).toNat].length∧o.length+[(u32.wrap (u64.wrap (c+u64.wrap (↑(b.getD i.toNat (0:Nat)):Int)))).toNat].length≤1099511627776)∧K Exit.normal [.dig [1,2,3] a,.dig [1,2,3] b,.grown (152:Nat) (o++[(u32.wrap (u64.wrap (c+u64.wrap (↑(b.getD i.toNat (0:Nat)):Int)))).toNat]),.num .u64 ((u64.wrap (c+u64.wrap (↑(b.getD i.toNat (0:Nat)):Int))).fdiv ((2:Int)^(32:Nat))),.num .i64 (i64.wrap (i+1))] else ((0:Nat)≤[(u32.wrap c).toNat].length∧o.length+[(u32.wrap c).toNat].length≤1099511627776)∧K Exit.normal [.dig [1,2,3] a,.dig [1,2,3] b,.grown (152:Nat) (o++[(u32.wrap c).toNat]),.num .u64 (c.fdiv ((2:Int)^(32:Nat))),.num .i64 (i64.wrap (i+1))] else K (Exit.exit (0:Nat)) [.dig [1,2,3] a,.dig [1,2,3] b,.grown (152:Nat) o,.num .u64 c,.num .i64 i]):=by kernel_rfl
def B9j:List AV→Option LR
 |[.dig [1,2,3] a,.dig [1,2,3] b,.grown 152 o,.num .u64 c,.num .i64 i]=>
 some (.need (Dy.okl a∧Dy.okl b∧a.length≤1048576∧Dy.val b≤Dy.val a∧o=[]∧c=0∧i=0)
 (.done (.exit 0) [.dig [1,2,3] a,.dig [1,2,3] b,.grown 152 (Dy.dgN a.length (Dy.val a-Dy.val b)),.num .u64 0,.num .i64 a.length]))
 |_=>none
def PE:=lam [(4,.spec BM B9j)]
theorem C35 (a:List Nat) (b:List Nat) (Q:AV→Prop):(evF Tryz.prog (look DF) PE false Tryz.f117 [.dig [1] a,.dig [2] b] Q)=((okl a∧okl b∧a.length≤1048576∧val b≤val a∧([]:List Nat)=[]∧(0:Int)=0∧(0:Int)=0)∧Q (.dig [0] (dg (val (dgN a.length (val a-val b)))))):=by kernel_rfl
theorem VG (a:List Nat) (b:List Nat) (o:List Nat) (c:Int) (i:Int) (K:Exit→List AV→Prop):(M7 Tryz.prog (look DF) PE (2:Nat) (47:Nat) BM (D8 Tryz.f117 (0:Nat)) [.dig [1,2,3] a,.dig [1,2,3] b,.grown (152:TypeId) o,.num .u64 c,.num .i64 i] K)=(bif decide (i<(↑a.length:Int)) then bif decide (i<(↑b.length:Int)) then (0≤i∧i<(↑b.length:Int))∧(0≤i∧i<(↑a.length:Int))∧bif decide (u64.wrap (↑(a.getD i.toNat (0:Nat)):Int)<u64.wrap (c+u64.wrap (↑(b.getD i.toNat (0:Nat)):Int))) then ((0:Nat)≤[(u32.wrap (u64.wrap (u64.wrap (u64.wrap (↑(a.getD i.toNat (0:Nat)):Int)+4294967296)-u64.wrap (c+u64.wrap (↑(b.getD i.toNat (0:Nat)):Int))))).toNat].length∧o.length+[(u32.wrap (u64.wrap (u64.wrap (u64.wrap (↑(a.getD i.toNat (0:Nat)):Int)+4294967296)-u64.wrap (c+u64.wrap (↑(b.getD i.toNat (0:Nat)):Int))))).toNat].length≤1099511627776)∧K Exit.normal [.dig [1,2,3] a,.dig [1,2,3] b,.grown (152:Nat) (o++[(u32.wrap (u64.wrap (u64.wrap (u64.wrap (↑(a.getD i.toNat (0:Nat)):Int)+4294967296)-u64.wrap (c+u64.wrap (↑(b.getD i.toNat (0:Nat)):Int))))).toNat]),.num .u64 1,.num .i64 (i64.wrap (i+1))] else ((0:Nat)≤[(u32.wrap (u64.wrap (u64.wrap (↑(a.getD i.toNat (0:Nat)):Int)-u64.wrap (c+u64.wrap (↑(b.getD i.toNat (0:Nat)):Int))))).toNat].length∧o.length+[(u32.wrap (u64.wrap (u64.wrap (↑(a.getD i.toNat (0:Nat)):Int)-u64.wrap (c+u64.wrap (↑(b.getD i.toNat (0:Nat)):Int))))).toNat].length≤1099511627776)∧K Exit.normal [.dig [1,2,3] a,.dig [1,2,3] b,.grown (152:Nat) (o++[(u32.wrap (u64.wrap (u64.wrap (↑(a.getD i.toNat (0:Nat)):Int)-u64.wrap (c+u64.wrap (↑(b.getD i.toNat (0:Nat)):Int))))).toNat]),.num .u64 0,.num .i64 (i64.wrap (i+1))] else (0≤i∧i<(↑a.length:Int))∧bif decide (u64.wrap (↑(a.getD i.toNat (0:Nat)):Int)<c) then ((0:Nat)≤[(u32.wrap (u64.wrap (u64.wrap (u64.wrap (↑(a.getD i.toNat (0:Nat)):Int)+4294967296)-c))).toNat].length∧o.length+[(u32.wrap (u64.wrap (u64.wrap (u64.wrap (↑(a.getD i.toNat (0:Nat)):Int)+4294967296)-c))).toNat].length≤1099511627776)∧K Exit.normal [.dig [1,2,3] a,.dig [1,2,3] b,.grown (152:Nat) (o++[(u32.wrap (u64.wrap (u64.wrap (u64.wrap (↑(a.getD i.toNat (0:Nat)):Int)+4294967296)-c))).toNat]),.num .u64 1,.num .i64 (i64.wrap (i+1))] else ((0:Nat)≤[(u32.wrap (u64.wrap (u64.wrap (↑(a.getD i.toNat (0:Nat)):Int)-c))).toNat].length∧o.length+[(u32.wrap (u64.wrap (u64.wrap (↑(a.getD i.toNat (0:Nat)):Int)-c))).toNat].length≤1099511627776)∧K Exit.normal [.dig [1,2,3] a,.dig [1,2,3] b,.grown (152:Nat) (o++[(u32.wrap (u64.wrap (u64.wrap (↑(a.getD i.toNat (0:Nat)):Int)-c))).toNat]),.num .u64 0,.num .i64 (i64.wrap (i+1))] else K (Exit.exit (0:Nat)) [.dig [1,2,3] a,.dig [1,2,3] b,.grown (152:Nat) o,.num .u64 c,.num .i64 i]):=by kernel_rfl
def B9h:List AV→Option LR
 |[.num .i64 n,.num .u32 x]=>some (.need (0≤n∧n≤1099511627776∧0≤x∧x<4294967296) (.done (.exit 0) [.num .i64 (n+(Dy.bl x.toNat:Nat)),.num .u32 0]))
 |_=>none
def SW:List (Nat×Keep):=[(3,.same),(4,.same)]
def TC:=lam [(5,.spec SW B9h)]
theorem C32 (a:List Nat) (Q:AV→Prop):(evF Tryz.prog (look DF) TC false Tryz.f96 [.dig [1] a] Q)=(bif decide ((↑a.length:Int)=0) then Q (.num .i64 0) else ((0:Int)≤i64.wrap ((↑a.length:Int)-1)∧i64.wrap ((↑a.length:Int)-1)<(↑a.length:Int))∧((0:Int)≤i64.wrap ((32:Int)*i64.wrap ((↑a.length:Int)-1))∧i64.wrap ((32:Int)*i64.wrap ((↑a.length:Int)-1))≤1099511627776∧(0:Int)≤(↑(a.getD (i64.wrap ((↑a.length:Int)-1)).toNat (0:Nat)):Int)∧(↑(a.getD (i64.wrap ((↑a.length:Int)-1)).toNat (0:Nat)):Int)<4294967296)∧Q (.num .i64 (i64.wrap ((32:Int)*i64.wrap ((↑a.length:Int)-1))+(↑(bl (↑(a.getD (i64.wrap ((↑a.length:Int)-1)).toNat (0:Nat)):Int).toNat):Int)))):=by kernel_rfl
theorem VD (n:Int) (x:Int) (K:Exit→List AV→Prop):(M7 Tryz.prog (look DF) TC (1:Nat) (25:Nat) SW (D8 Tryz.f96 (0:Nat)) [.num .i64 n,.num .u32 x] K)=(bif decide (x>0) then K Exit.normal [.num .i64 (i64.wrap (n+1)),.num .u32 (x.fdiv ((2:Int)^(1:Nat)))] else K (Exit.exit (0:Nat)) [.num .i64 n,.num .u32 x]):=by kernel_rfl
theorem C30 (a:List Nat) (i:Int) (Q:AV→Prop):(evF Tryz.prog (look DF) (lam []) false Tryz.f162 [.dig [1] a,.num .i64 i] Q)=(bif decide (i<0) then Q (.num .u32 0) else bif decide (i64.wrap (i.tdiv (32:Int))≥(↑a.length:Int)) then Q (.num .u32 0) else ((0:Int)≤i64.wrap (i.tdiv (32:Int))∧i64.wrap (i.tdiv (32:Int))<(↑a.length:Int))∧0≤i.tmod (32:Int)∧Q (.num .u32 (u32.wrap (↑(A7 (32:Nat) ((↑(a.getD (i64.wrap (i.tdiv (32:Int))).toNat (0:Nat)):Int).fdiv ((2:Int)^min (i.tmod (32:Int)).toNat (32:Nat)))&&&A7 (32:Nat) (1:Int)).toNat:Int)))):=by kernel_rfl
def C94:List AV→Option LR
 |[.dig [1,2,3] a,.grown 152 o,.num .i64 s,.num .u64 c,.num .i64 i]=>
 some (.need (Dy.okl a∧a.length≤1048576∧0≤s∧s<32∧o.length≤1048576∧c=0∧i=0)
 (.done (.exit 0) [.dig [1,2,3] a,.grown 152 (o++Dy.dgN a.length (Dy.val a*2^s.toNat)),.num .i64 s,.num .u64 (Dy.val a*2^s.toNat/2^(32*a.length):Nat),.num .i64 a.length]))
 |_=>none
def ZH:List (Nat×Keep):=[(0,.same),(5,.same),(6,.same),(7,.same),(8,.same)]
def A0k:=lam [(7,.spec ZH C94)]
theorem C6t (a:List Nat) (n:Int) (Q:AV→Prop):(evF Tryz.prog (look DF) A0k false Tryz.f98 [.dig [1] a,.num .i64 n] Q)=(bif decide ((↑a.length:Int)=0) then Q (.dig [0] []) else ((0:Int)≤i64.wrap (n.tdiv (32:Int))∧i64.wrap (n.tdiv (32:Int))≤i64.wrap (n.tdiv (32:Int))∧i64.wrap (n.tdiv (32:Int))≤2^(40:Nat))∧(okl a∧a.length≤1048576∧0≤n.tmod (32:Int)∧n.tmod (32:Int)<32∧(B2 (i64.wrap (n.tdiv (32:Int))).toNat (0:Nat)).length≤1048576∧(0:Int)=0∧(0:Int)=0)∧((0:Nat)≤[(u32.wrap (↑(val a*2^(n.tmod (32:Int)).toNat/2^((32:Nat)*a.length)):Int)).toNat].length∧(B2 (i64.wrap (n.tdiv (32:Int))).toNat (0:Nat)++dgN a.length (val a*2^(n.tmod (32:Int)).toNat)).length+[(u32.wrap (↑(val a*2^(n.tmod (32:Int)).toNat/2^((32:Nat)*a.length)):Int)).toNat].length≤1099511627776)∧Q (.dig [0] (dg (val (B2 (i64.wrap (n.tdiv (32:Int))).toNat (0:Nat)++dgN a.length (val a*2^(n.tmod (32:Int)).toNat)++[(u32.wrap (↑(val a*2^(n.tmod (32:Int)).toNat/2^((32:Nat)*a.length)):Int)).toNat]))))):=by kernel_rfl
theorem XZ (a:List Nat) (o:List Nat) (s:Int) (c:Int) (i:Int) (K:Exit→List AV→Prop):(M7 Tryz.prog (look DF) A0k (2:Nat) (45:Nat) ZH (D8 Tryz.f98 (0:Nat)) [.dig [1,2,3] a,.grown (152:TypeId) o,.num .i64 s,.num .u64 c,.num .i64 i] K)=(bif decide (i<(↑a.length:Int)) then (0≤i∧i<(↑a.length:Int))∧0≤s∧((0:Nat)≤[(u32.wrap (u64.wrap (↑(A7 (64:Nat) c|||A7 (64:Nat) (u64.wrap (u64.wrap (↑(a.getD i.toNat (0:Nat)):Int)*2^min s.toNat (64:Nat)))).toNat:Int))).toNat].length∧o.length+[(u32.wrap (u64.wrap (↑(A7 (64:Nat) c|||A7 (64:Nat) (u64.wrap (u64.wrap (↑(a.getD i.toNat (0:Nat)):Int)*2^min s.toNat (64:Nat)))).toNat:Int))).toNat].length≤1099511627776)∧K Exit.normal [.dig [1,2,3] a,.grown (152:Nat) (o++[(u32.wrap (u64.wrap (↑(A7 (64:Nat) c|||A7 (64:Nat) (u64.wrap (u64.wrap (↑(a.getD i.toNat (0:Nat)):Int)*2^min s.toNat (64:Nat)))).toNat:Int))).toNat]),.num .i64 s,.num .u64 ((u64.wrap (↑(A7 (64:Nat) c|||A7 (64:Nat) (u64.wrap (u64.wrap (↑(a.getD i.toNat (0:Nat)):Int)*2^min s.toNat (64:Nat)))).toNat:Int)).fdiv ((2:Int)^(32:Nat))),.num .i64 (i64.wrap (i+1))] else K (Exit.exit (0:Nat)) [.dig [1,2,3] a,.grown (152:Nat) o,.num .i64 s,.num .u64 c,.num .i64 i]):=by kernel_rfl
def B9i:List AV→Option LR
 |[.dig [1,2] a,.num .i64 n]=>some (.need (Dy.okl a∧Dy.dg (Dy.val a)=a∧a.length≤1048576∧n=0) (.done (.exit 0) [.dig [1,2] a,.num .i64 (Dy.tz (Dy.val a):Nat)]))
 |_=>none
def SX:List (Nat×Keep):=[(0,.same),(3,.same)]
def TD:=lam [(2,.spec SX B9i)]
theorem C33 (a:List Nat) (Q:AV→Prop):(evF Tryz.prog (look C6f) TD false Tryz.f111 [.dig [1] a] Q)=((okl a∧dg (val a)=a∧a.length≤1048576∧(0:Int)=0)∧bif decide ((↑(tz (val a)):Int)=i64.wrap ((32:Int)*(↑a.length:Int))) then Q (.num .i64 0) else Q (.num .i64 (↑(tz (val a)):Int))):=by kernel_rfl
theorem GG (a:List Nat) (n:Int) (K:Exit→List AV→Prop):(M7 Tryz.prog (look C6f) TD (1:Nat) (31:Nat) SX (D8 Tryz.f111 (0:Nat)) [.dig [1,2] a,.num .i64 n] K)=(bif decide (n<i64.wrap ((32:Int)*(↑a.length:Int))) then bif decide ((↑(if n<0 then (0:Nat) else val a/2^n.toNat%2):Int)=0) then ((0:Int)≤i64.wrap (n.tdiv (32:Int))∧i64.wrap (n.tdiv (32:Int))<(↑a.length:Int))∧bif decide ((↑(a.getD (i64.wrap (n.tdiv (32:Int))).toNat (0:Nat)):Int)=0) then K Exit.normal [.dig [1,2] a,.num .i64 (i64.wrap (n+32))] else K Exit.normal [.dig [1,2] a,.num .i64 (i64.wrap (n+1))] else K (Exit.exit (0:Nat)) [.dig [1,2] a,.num .i64 n] else K (Exit.exit (0:Nat)) [.dig [1,2] a,.num .i64 n]):=by kernel_rfl
def A8y:List AV→Option LR
 |[.dig [1,2,3] a,.grown 152 o,.num .i64 s,.num .i64 i,.bool l]=>
 some (.need (Dy.okl a∧0≤s∧s<32∧o=[]∧0≤i∧i≤a.length∧a.length≤1048576)
 (.done (.exit 0) [.dig [1,2,3] a,.grown 152 (Dy.dgN (a.length-i.toNat) (Dy.val (a.drop i.toNat)/2^s.toNat)),.num .i64 s,.num .i64 a.length,.bool l]))
 |_=>none
def PA:List (Nat×Keep):=[(0,.same),(7,.grow 152),(8,.same),(9,.same),(6,.same)]
def NM:=lam [(7,.spec PA A8y)]
theorem B7k (a:List Nat) (n:Int) (Q:AV→Prop):(evF Tryz.prog (look C6g) NM false Tryz.f112 [.dig [1] a,.num .i64 n] Q)=((dg (val a)=a∧a.length≤1048576)∧bif decide (n≥(↑(bl (val a)):Int)) then Q (.tup [.dig [0] [],.bool (decide ((↑a.length:Int)>0))]) else (dg (val a)=a∧a.length≤1048576)∧(okl a∧0≤n.tmod (32:Int)∧n.tmod (32:Int)<32∧([]:List Nat)=[]∧(0:Int)≤i64.wrap (n.tdiv (32:Int))∧i64.wrap (n.tdiv (32:Int))≤(↑a.length:Int)∧a.length≤1048576)∧Q (.tup [.dig [0] (dg (val (dgN (a.length-(i64.wrap (n.tdiv (32:Int))).toNat) (val (List.drop (i64.wrap (n.tdiv (32:Int))).toNat a)/2^(n.tmod (32:Int)).toNat)))),.bool (decide (n>(↑(tz (val a)):Int)))])):=by kernel_rfl
theorem QU (a:List Nat) (o:List Nat) (s:Int) (i:Int) (l:Bool) (K:Exit→List AV→Prop):(M7 Tryz.prog (look C6g) NM (2:Nat) (63:Nat) PA (D8 Tryz.f112 (0:Nat)) [.dig [1,2,3] a,.grown (152:TypeId) o,.num .i64 s,.num .i64 i,.bool l] K)=(bif decide (i<(↑a.length:Int)) then (0≤i∧i<(↑a.length:Int))∧0≤s∧bif decide (i64.wrap (i+1)<(↑a.length:Int)) then ((0:Int)≤i64.wrap (i+1)∧i64.wrap (i+1)<(↑a.length:Int))∧(0:Int)≤i64.wrap ((32:Int)-s)∧((0:Nat)≤[(u32.wrap (u64.wrap (↑(A7 (64:Nat) ((u64.wrap (↑(a.getD i.toNat (0:Nat)):Int)).fdiv ((2:Int)^min s.toNat (64:Nat)))|||A7 (64:Nat) (u64.wrap (u64.wrap (↑(a.getD (i64.wrap (i+1)).toNat (0:Nat)):Int)*2^min (i64.wrap ((32:Int)-s)).toNat (64:Nat)))).toNat:Int))).toNat].length∧o.length+[(u32.wrap (u64.wrap (↑(A7 (64:Nat) ((u64.wrap (↑(a.getD i.toNat (0:Nat)):Int)).fdiv ((2:Int)^min s.toNat (64:Nat)))|||A7 (64:Nat) (u64.wrap (u64.wrap (↑(a.getD (i64.wrap (i+1)).toNat (0:Nat)):Int)*2^min (i64.wrap ((32:Int)-s)).toNat (64:Nat)))).toNat:Int))).toNat].length≤1099511627776)∧K Exit.normal [.dig [1,2,3] a,.grown (152:Nat) (o++[(u32.wrap (u64.wrap (↑(A7 (64:Nat) ((u64.wrap (↑(a.getD i.toNat (0:Nat)):Int)).fdiv ((2:Int)^min s.toNat (64:Nat)))|||A7 (64:Nat) (u64.wrap (u64.wrap (↑(a.getD (i64.wrap (i+1)).toNat (0:Nat)):Int)*2^min (i64.wrap ((32:Int)-s)).toNat (64:Nat)))).toNat:Int))).toNat]),.num .i64 s,.num .i64 (i64.wrap (i+1)),.bool l] else ((0:Nat)≤[(u32.wrap ((u64.wrap (↑(a.getD i.toNat (0:Nat)):Int)).fdiv ((2:Int)^min s.toNat (64:Nat)))).toNat].length∧o.length+[(u32.wrap ((u64.wrap (↑(a.getD i.toNat (0:Nat)):Int)).fdiv ((2:Int)^min s.toNat (64:Nat)))).toNat].length≤1099511627776)∧K Exit.normal [.dig [1,2,3] a,.grown (152:Nat) (o++[(u32.wrap ((u64.wrap (↑(a.getD i.toNat (0:Nat)):Int)).fdiv ((2:Int)^min s.toNat (64:Nat)))).toNat]),.num .i64 s,.num .i64 (i64.wrap (i+1)),.bool l] else K (Exit.exit (0:Nat)) [.dig [1,2,3] a,.grown (152:Nat) o,.num .i64 s,.num .i64 i,.bool l]):=by kernel_rfl
end Go.AI
