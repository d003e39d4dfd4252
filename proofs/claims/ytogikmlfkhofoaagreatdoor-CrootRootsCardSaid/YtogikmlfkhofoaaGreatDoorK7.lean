/- My texts AIref1, AIspec4, AIdyad0, AVdyad1, AIdyad1, AVdyad2, AIdyad2, AIdyad3, in one. -/
import Derived.Test.YtogikmlfkhofoaaGreatDoorK6
open BitVec renaming ofInt→A7
open Bool renaming false_eq_true→J7,not_eq_false'→F1,not_eq_true→OM,not_eq_true'→G0,true_and→AT
open Int renaming eq_ofNat_of_zero_le→C4,natAbs_natCast→S7,natCast_mul→L5,ofNat_eq_zero→P6,tdiv_eq_ediv_of_nonneg→N8,tmod_eq_emod_of_nonneg→Q9,toNat_natCast→A2
open List renaming drop_length→EA,getD_eq_getElem?_getD→D7,getElem?_drop→Y5,getElem?_eq_none→M1,length_append→g7,length_cons→T5,length_eq_zero_iff→G5,length_nil→DN,length_pos_iff→X4,length_replicate→U0,length_take→R8,take_length→JL,take_of_length_le→H7
open Nat renaming add_zero→I4,div_div_eq_div_mul→K7,div_eq_of_lt→L9,div_le_self→L1,div_lt_iff_lt_mul→H0,le_refl→I6,lt_of_le_of_lt→L8,lt_of_lt_of_le→G7,lt_or_ge→L4,min_eq_left→J1,mod_add_div→DQ,mul_add→D0,mul_assoc→B9,mul_comm→B6,mul_one→M0,mul_zero→O3,pow_add→B8,pow_le_pow_right→B3,pow_one→MW,pow_succ→I5,pow_zero→AY,strongRecOn→FM,two_pow_pos→A9,zero_add→N9,zero_mul→R2
namespace Go.Dy
theorem D3m {l:List Nat} (h:D1 l):l.take (dg (val l)).length=dg (val l):=by
 have hle:=EO h
 refine OU (Q7 h _) (x8 _) (by simp [hle]) ?_
 rw [E3,A2n h,Nat.mod_eq_of_lt]
 exact M5.1 (I6 _)
theorem D2i {x:Nat} (h:x≠0):bl x=bl (x/2)+1:=by
 have:=C5 x 1
 have:=IV.2 h
 rw [MW] at*
 omega
theorem B2f:∀{a b:List Nat},a.length=b.length→a≠b→ID a b<a.length∧a.getD (ID a b) 0≠b.getD (ID a b) 0
 |[],[],_,h=>absurd rfl h
 |[],_::_,h,_=>by simp at h
 |_::_,[],h,_=>by simp at h
 |x::a,y::b,h,hn=>by
  unfold ID
  by_cases e:x=y
  ·rw [if_pos e]
   have:=B2f (a:=a) (b:=b) (by simpa using h) (fun h'=>hn (by rw [e,h']))
   simpa using this
  ·rw [if_neg e]
   simpa using e
theorem B2e:∀{a b:List Nat} {i:Nat},a.length=b.length→i<ID a b→a.getD i 0=b.getD i 0
 |[],b,i,_,h=>by simp [ID] at h
 |_::_,[],i,h,_=>by simp at h
 |x::a,y::b,i,hl,h=>by
  unfold ID at h
  by_cases e:x=y
  ·rw [if_pos e] at h
   cases i with
   |zero=>simpa using e
   |succ i=>simpa using B2e (a:=a) (b:=b) (by simpa using hl) (by omega)
  ·rw [if_neg e] at h;omega
theorem D5z {v n:Nat} (h:v≠0) (hn:n≤tz v):v/2^n%2=if n=tz v then 1 else 0:=by
 by_cases e:n=tz v
 ·rw [if_pos e,e];exact T0 h
 ·rw [if_neg e]
  obtain ⟨m,hm⟩:=LX h
  have e1:v/2^n=2*(2^(tz v-n-1)*(2*m+1)):=by
   conv=>lhs;rw [hm]
   rw [show tz v=n+(1+(tz v-n-1)) by omega,B8,B9,Nat.mul_div_cancel_left _ (A9 _),B8,MW,B9]
   congr 3
   omega
  rw [e1];omega
end Go.Dy
namespace Go.AI
open Go Go.RowKit Go.Proofs
set_option linter.unusedVariables false
set_option maxRecDepth 100000
theorem A3o:L6 Tryz.prog (look B0k) NN 1 21 PB (D8 Tryz.f113 0) A8z:=by
 intro vals r h K hK
 unfold A8z at h
 split at h
 ·cases h
  rename_i l n
  simp only [j0] at hK
  obtain ⟨⟨hl,rfl⟩,hK⟩:=hK
  have hl1:=hl.1
  have key:∀n:Nat,n≤l.length→Dy.val (l.take n)=Dy.val l→∃m,P4 Tryz.prog (look B0k) NN 1 21 PB (D8 Tryz.f113 0) m [.dig [1,2] l,.num .i64 n] K:=by
   intro n
   induction n with
   |zero=>
    intro hn hv
    refine D4 ?_
    rw [JG]
    refine B1 rfl ?_
    have:Dy.val l=0:=hv.symm
    rw [this,Dy.O0] at hK
    exact hK
   |succ n ih=>
    intro hn hv
    have e0:(((n+1:Nat):Int)-1)=(n:Int):=by omega
    by_cases c:l.getD n 0=0
    ·obtain ⟨m,hm⟩:=ih (by omega) (by rw [←hv,Dy.O1 (by omega),c];simp)
     refine E9 m ?_
     rw [JG,e0,wrap_i64 (by omega) (by omega),A2]
     exact B5 (decide_eq_true (by omega)) ⟨by omega,B5 (decide_eq_true (by omega)) hm⟩
    ·refine D4 ?_
     rw [JG,e0,wrap_i64 (by omega) (by omega),A2]
     refine B5 (decide_eq_true (by omega)) ⟨by omega,B1 (decide_eq_false (by omega)) ?_⟩
     have e1:l.take (n+1)=Dy.dg (Dy.val l):=by
      rw [←hv]
      refine ((Dy.KP (Dy.Q7 hl.2 _)).2 (.inr ?_)).symm
      rw [R8,J1 hn,Nat.add_sub_cancel,D7,List.getElem?_take_of_lt (by omega),←D7]
      exact c
     rw [←e1,R8,J1 hn] at hK
     exact hK
  exact key l.length (I6 _) (by rw [JL])
 ·cases h
theorem B4h (args:List AV) (s:Spec) (h:A24 args=some s) (hp:C6 s.pre True):Contract Tryz.prog Inv 113 args s.res:=by
 unfold A24 at h
 split at h
 ·cases h
  rename_i l
  refine E8 true 21 NN TQ Tryz.func113 (by kernel_rfl) rfl (W4 (by kernel_rfl) (by kernel_rfl) A3o) fun hok=> ?_
  have h1:=(E4 hok).1
  have:=Dy.EO h1.2
  rw [B7m,A2,Dy.D3m h1.2]
  exact ⟨⟨h1,rfl⟩,by omega,rfl⟩
 ·cases h
theorem GB:G6 Tryz.prog Inv (look DF):=A3 (TQ) B4h
theorem C5z (args:List AV) (s:Spec) (h:sOf args=some s) (hp:C6 s.pre True):Contract Tryz.prog Inv 55 args s.res:=by
 unfold sOf at h
 split at h
 ·cases h
  rename_i n
  refine A4 false GB Tryz.func55 (by kernel_rfl) (by kernel_rfl) fun hok=> ?_
  have hn:=range_u64 (J5 hok).1
  rw [C6s]
  rw [fdiv_pow hn.1]
  simp only [wrap_u32,Dy.val]
  congr 2
  omega
 ·cases h
theorem A3n:L6 Tryz.prog (look DF) TE 2 26 SY (D8 Tryz.f166 0) B9l:=by
 intro vals r h K hK
 unfold B9l at h
 split at h
 ·cases h
  rename_i a b r i
  simp only [j0] at hK
  obtain ⟨⟨hl,rfl,ha⟩,hK⟩:=hK
  have ha1:=ha.1
  have key:∀u j:Nat,a.length=u+j→(a≠b→j≤Dy.ID a b)→(∀i,i<j→a.getD i 0=b.getD i 0)→∃m,P4 Tryz.prog (look DF) TE 2 26 SY (D8 Tryz.f166 0) m [.dig [1,2,3] a,.dig [1,2,3] b,.bool r,.num .i64 j] K:=by
   intro u
   induction u with
   |zero=>
    intro j hj hd he
    refine D4 ?_
    rw [JF]
    refine B1 (decide_eq_false (by omega)) ?_
    have e:a=b:=by
     refine List.ext_getElem hl fun i h1 h2=> ?_
     have:=he i (by omega)
     simpa [D7,h1,h2] using this
    rw [decide_eq_true e] at hK
    have:(j:Int)=(a.length:Int):=by omega
    rw [this]
    exact hK
   |succ u ih=>
    intro j hj hd he
    by_cases c:a.getD j 0=b.getD j 0
    ·obtain ⟨m,hm⟩:=ih (j+1) (by omega) (fun hn=>by
       have h1:=hd hn
       have h2:=(Dy.B2f hl hn).2
       rcases L4 j (Dy.ID a b) with h|h
       ·exact h
       ·have:j=Dy.ID a b:=by omega
        rw [this] at c
        exact absurd c h2) (fun i hi=>by
       rcases L4 i j with h|h
       ·exact he i h
       ·have:i=j:=by omega
        rw [this];exact c)
     refine E9 m ?_
     rw [JF,wrap_i64 (by omega) (by omega),A2]
     exact B5 (decide_eq_true (by omega)) ⟨by omega,by omega,B1 (by rw [decide_eq_true (by omega)];rfl) hm⟩
    ·refine D4 ?_
     rw [JF,A2]
     refine B5 (decide_eq_true (by omega)) ⟨by omega,by omega,B5 (by rw [decide_eq_false (by omega)];rfl) ?_⟩
     have hn:a≠b:=fun e=>c (by rw [e])
     have h1:=hd hn
     have h2:¬j<Dy.ID a b:=fun h=>c (Dy.B2e hl h)
     have:j=Dy.ID a b:=by omega
     rw [decide_eq_false hn,←this] at hK
     exact hK
  exact key a.length 0 (by omega) (fun _=>Nat.zero_le _) (fun i h=>absurd h (Nat.not_lt_zero _))
 ·cases h
theorem B4g (args:List AV) (s:Spec) (h:D0v args=some s) (hp:C6 s.pre True):Contract Tryz.prog Inv 166 args s.res:=by
 unfold D0v at h
 split at h
 ·cases h
  rename_i a b
  refine E8 false 26 TE GB Tryz.func166 (by kernel_rfl) rfl (W4 (by kernel_rfl) (by kernel_rfl) A3n) fun hok=> ?_
  have ha:=(E4 hok).1
  rw [B7l]
  refine A8 (fun h=> ?_) (fun h=>⟨?_,A8 (fun h'=> ?_) (fun h'=> ?_)⟩)
  ·simp only [G0] at h
   have h:=A0 h
   have:a≠b:=fun e=>h (by rw [e])
   simp only [decide_eq_false this]
  ·simp only [F1] at h
   have h:=A1 h
   exact ⟨by omega,rfl,ha⟩
  ·rw [h']
  ·rw [h']
 ·cases h
theorem A8r:L6 Tryz.prog (look DF) ZI 2 41 [(0,.same),(1,.same),(4,.same),(5,.same)] (D8 Tryz.f116 0) B9g:=by
 intro vals r h K hK
 unfold B9g at h
 split at h
 ·cases h
  rename_i a b r i
  simp only [j0] at hK
  obtain ⟨⟨hl,h1,h2,h3⟩,hK⟩:=hK
  generalize hn:(i+1).toNat=n at hK
  induction n generalizing i with
  |zero=>
   have:i= -1:=by omega
   subst this
   refine D4 ?_
   rw [MB]
   refine B1 rfl ?_
   simpa [Dy.U3] using hK
  |succ n ih=>
   have hi:i=n:=by omega
   subst hi
   by_cases c:a.getD n 0=b.getD n 0
   ·have e:Dy.U3 a b (n+1)=Dy.U3 a b n:=by rw [Dy.U3,if_pos c]
    rw [e] at hK
    obtain ⟨m,hm⟩:=ih ((n:Int)-1) (by omega) (by omega) (by omega) hK
    refine E9 m ?_
    rw [MB,A2,wrap_i64 (by omega) (by omega)]
    exact B5 (decide_eq_true (by omega)) ⟨by omega,by omega,B1 (decide_eq_false (by omega)) ⟨by omega,by omega,B1 (decide_eq_false (by omega)) hm⟩⟩
   ·have e:Dy.U3 a b (n+1)=n:=by rw [Dy.U3,if_neg c]
    rw [e,decide_eq_true (by omega:(0:Int)≤(n:Int))] at hK
    simp only [cond_true,A2] at hK
    refine D4 ?_
    rw [MB,A2]
    refine B5 (decide_eq_true (by omega)) ⟨by omega,by omega,A8 (fun h=> ?_) (fun h=>⟨by omega,by omega,B5 ?_ ?_⟩)⟩
    ·rw [if_pos (by have:=A1 h;omega)] at hK;exact hK
    ·exact decide_eq_true (by have:=A0 h;omega)
    ·rw [if_neg (by have:=A0 h;omega)] at hK;exact hK
 ·cases h
theorem C0p (args:List AV) (s:Spec) (h:C69 args=some s) (hp:C6 s.pre True):Contract Tryz.prog Inv 116 args s.res:=by
 unfold C69 at h
 split at h
 ·cases h
  rename_i a b
  obtain ⟨⟨ca,cb⟩, -⟩:=hp
  refine E8 false 41 ZI GB Tryz.func116 (by kernel_rfl) rfl (W4 (by kernel_rfl) (by kernel_rfl) A8r) fun hok=> ?_
  have ha:=(E4 hok).1
  have hb:=(E4 (E4 hok).2).1
  have ha1:=ha.1
  rw [C31]
  refine A8 (fun h=>A8 (fun h'=> ?_) (fun h'=> ?_)) (fun h=> ?_)
  ·have h':=A1 h'
   have:= @Dy.BV (Dy.val a) (Dy.val b) (by rw [ca,cb];omega)
   simp only [Dy.v8,if_pos this]
  ·simp only [G0] at h
   have h:=A0 h
   have h':=A0 h'
   have:= @Dy.BV (Dy.val b) (Dy.val a) (by rw [ca,cb];omega)
   simp only [Dy.v8,if_pos this,if_neg (Nat.lt_asymm this)]
  ·simp only [F1] at h
   have h:=A1 h
   have hl:a.length=b.length:=by omega
   rw [wrap_i64 (by omega) (by omega),show ((a.length:Int)-1+1).toNat=a.length by omega]
   have key:=Dy.ZZ ha.2 hb.2 a.length (I6 _) (by omega)
   rw [JL,hl,JL] at key
   refine ⟨by omega,A8 (fun h0=> ?_) (fun h0=> ?_)⟩
   ·have h0:=A1 h0
    rw [hl] at h0 ⊢
    rw [if_neg (by omega)] at key
    by_cases c:a.getD (Dy.U3 a b b.length).toNat 0<b.getD (Dy.U3 a b b.length).toNat 0
    ·rw [if_pos c]
     simp only [Dy.v8,if_pos (key.1.1 c)]
    ·have h1:¬Dy.val a<Dy.val b:=fun h=>c (key.1.2 h)
     rw [if_neg c]
     simp only [Dy.v8,if_neg h1,if_pos (by omega:Dy.val b<Dy.val a)]
   ·have h0:=A0 h0
    rw [hl] at h0
    rw [if_pos (by omega)] at key
    simp [Dy.v8,key]
 ·cases h
theorem A8q:L6 Tryz.prog (look DF) PD 2 55 BM (D8 Tryz.f115 0) B9f:=by
 intro vals r h K hK
 unfold B9f at h
 split at h
 ·cases h
  rename_i a b o c i
  simp only [j0] at hK
  obtain ⟨⟨ha,hb,ha1,hb1,rfl,rfl,rfl⟩,hK⟩:=hK
  generalize hM:max a.length b.length=M at hK
  have key:∀(u j c:Nat) (o:List Nat),M=u+j→o.length=j→Dy.D1 o→c≤1→Dy.val o+2^(32*j)*(c+Dy.val (a.drop j)+Dy.val (b.drop j))=Dy.val a+Dy.val b→
    ∃m,P4 Tryz.prog (look DF) PD 2 55 BM (D8 Tryz.f115 0) m [.dig [1,2,3] a,.dig [1,2,3] b,.grown 152 o,.num .u64 c,.num .i64 j] K:=by
   intro u
   induction u with
   |zero=>
    intro j c o hj hol hod hc hv
    refine D4 ?_
    rw [VC]
    refine B1 (decide_eq_false (by omega)) (B1 (decide_eq_false (by omega)) ?_)
    have hja:j=M:=by omega
    subst hja
    simp only [Dy.OT a (show a.length≤j by omega),Dy.OT b (show b.length≤j by omega),I4] at hv
    have hq:=Dy.HL hod (n:=j) (c:=c) (y:=Dy.val a+Dy.val b) (by omega) (by rw [H7 (by omega)];exact hv)
    rw [H7 (by omega)] at hq
    rw [←hq.1,←hq.2] at hK
    exact hK
   |succ u ih=>
    intro j c o hj hol hod hc hv
    have hx:=Dy.E5 ha.2 j
    have hy:=Dy.E5 hb.2 j
    rw [Dy.I1 a,Dy.I1 b] at hv
    have ha0:¬j<a.length→a.getD j 0=0:=fun h=>by rw [D7,M1 (by omega)];rfl
    have hb0:¬j<b.length→b.getD j 0=0:=fun h=>by rw [D7,M1 (by omega)];rfl
    obtain ⟨m,hm⟩:=ih (j+1) ((c+a.getD j 0+b.getD j 0)/4294967296) (o++[(c+a.getD j 0+b.getD j 0)%4294967296]) (by omega) (by simp [hol]) (Dy.M2.2 ⟨hod,Dy.O9.2 ⟨by omega,Dy.Q4⟩⟩) (by omega) (by
      rw [Dy.U6,hol,Dy.J6,B9,Nat.add_assoc,←D0,←hv]
      congr 2
      omega)
    refine E9 m ?_
    rw [VC]
    rw [A2,wrap_i64 (n:=(j:Int)+1) (by omega) (by omega)]
    generalize hxx:a.getD j 0=x at hx ha0 hm ⊢
    generalize hyy:b.getD j 0=y at hy hb0 hm ⊢
    have fin:∀X:Int,X=((c+x+y:Nat):Int)→(0≤[(IntKind.u32.wrap X).toNat].length∧o.length+[(IntKind.u32.wrap X).toNat].length≤1099511627776)∧
      P4 Tryz.prog (look DF) PD 2 55 BM (D8 Tryz.f115 0) m [.dig [1,2,3] a,.dig [1,2,3] b,.grown 152 (o++[(IntKind.u32.wrap X).toNat]),.num .u64 (X.fdiv (2^32)),.num .i64 ((j:Int)+1)] K:=by
     rintro _ rfl
     rw [fdiv_pow (by omega),A2,wrap_u32]
     have e1:(((c+x+y:Nat):Int)%4294967296).toNat=(c+x+y)%4294967296:=by omega
     rw [e1]
     exact ⟨⟨by simp,by simp;omega⟩,hm⟩
    refine A8 (fun h=>A8 (fun h1=>⟨by have:=A1 h;omega,A8 (fun h2=> ?_) (fun h2=> ?_)⟩) (fun h1=> ?_)) (fun h=>A8 (fun h0=> ?_) (fun h0=> ?_))
    ·have h2:=A1 h2
     exact ⟨by omega,fin _ (by simp only [wrap_u64];omega)⟩
    ·have h2:=hb0 (by have:=A0 h2;omega)
     exact fin _ (by simp only [wrap_u64];omega)
    ·rw [h] at h1;cases h1
    ·refine B1 h (B5 h0 ?_)
     have h:=ha0 (by have:=A0 h;omega)
     have h0:=A1 h0
     exact ⟨by omega,fin _ (by simp only [wrap_u64];omega)⟩
    ·have:=A0 h;have:=A0 h0;omega
  exact key M 0 0 [] (by omega) rfl Dy.Q4 (by omega) (by simp [Dy.val])
 ·cases h
theorem C0n (args:List AV) (s:Spec) (h:D58 args=some s) (hp:C6 s.pre True):Contract Tryz.prog Inv 115 args s.res:=by
 unfold D58 at h
 split at h
 ·cases h
  rename_i a b
  obtain ⟨⟨ha1,hb1⟩, -⟩:=hp
  refine E8 false 55 PD GB Tryz.func115 (by kernel_rfl) rfl (W4 (by kernel_rfl) (by kernel_rfl) A8q) fun hok=> ?_
  have ha:=(E4 hok).1
  have hb:=(E4 (E4 hok).2).1
  rw [C2z]
  have la:=G7 (Dy.I0 ha.2) (B3 (by decide) (show 32*a.length≤32*max a.length b.length by omega))
  have lb:=G7 (Dy.I0 hb.2) (B3 (by decide) (show 32*b.length≤32*max a.length b.length by omega))
  have hc:(Dy.val a+Dy.val b)/2^(32*max a.length b.length)<2:=by
   rw [H0 (A9 _)];omega
  have e:(IntKind.u32.wrap (((Dy.val a+Dy.val b)/2^(32*max a.length b.length):Nat):Int)).toNat=(Dy.val a+Dy.val b)/2^(32*max a.length b.length):=by
   generalize (Dy.val a+Dy.val b)/2^(32*max a.length b.length)=y at hc ⊢
   rw [wrap_u32];omega
  rw [e]
  refine ⟨⟨ha,hb,ha1,hb1,rfl,rfl,rfl⟩,⟨by simp,by simp [Dy.H5];omega⟩,?_⟩
  rw [Dy.U6,Dy.X6,Dy.H5,DQ]
 ·cases h
theorem A8v:L6 Tryz.prog (look DF) PE 2 47 BM (D8 Tryz.f117 0) B9j:=by
 intro vals r h K hK
 unfold B9j at h
 split at h
 ·cases h
  rename_i a b o c i
  simp only [j0] at hK
  obtain ⟨⟨ha,hb,ha1,hba,rfl,rfl,rfl⟩,hK⟩:=hK
  have key:∀(u j c:Nat) (o:List Nat),a.length=u+j→o.length=j→Dy.D1 o→c≤1→Dy.val o+2^(32*j)*Dy.val (a.drop j)+Dy.val b=Dy.val a+2^(32*j)*(c+Dy.val (b.drop j))→
    ∃m,P4 Tryz.prog (look DF) PE 2 47 BM (D8 Tryz.f117 0) m [.dig [1,2,3] a,.dig [1,2,3] b,.grown 152 o,.num .u64 c,.num .i64 j] K:=by
   intro u
   induction u with
   |zero=>
    intro j c o hj hol hod hc hv
    refine D4 ?_
    rw [VG]
    refine B1 (decide_eq_false (by omega)) ?_
    have hja:j=a.length:=by omega
    subst hja
    rw [EA] at hv
    have hlt:=Dy.I0 hod
    rw [hol] at hlt
    have hvb:Dy.val (b.drop a.length)=0:=by
     rw [Dy.HO hb.2]
     exact L9 (L8 hba (Dy.I0 ha.2))
    rw [hvb] at hv
    simp only [Dy.val,O3,I4] at hv
    have hc0:c=0:=by
     rcases Nat.eq_zero_or_pos c with h|h
     ·exact h
     ·have:c=1:=by omega
      subst this
      omega
    subst hc0
    have ho:o=Dy.dgN a.length (Dy.val a-Dy.val b):=by
     rw [show Dy.val a-Dy.val b=Dy.val o by omega]
     exact (Dy.CW hod hol).symm
    rw [ho]
    exact hK
   |succ u ih=>
    intro j c o hj hol hod hc hv
    have hx:=Dy.E5 ha.2 j
    have hy:=Dy.E5 hb.2 j
    have hb0:¬j<b.length→b.getD j 0=0:=fun h=>by rw [D7,M1 (by omega)];rfl
    rw [Dy.I1 a,Dy.I1 b] at hv
    generalize hxx:a.getD j 0=x at hx hv
    generalize hyy:b.getD j 0=y at hy hv hb0
    have hd:∃d:Nat,(((x:Int)-(y:Int)-(c:Int))%4294967296).toNat=d∧d<4294967296∧d+y+c=x+4294967296*(if x<y+c then 1 else 0):=by
     refine ⟨_,rfl,by omega,?_⟩
     split<;>omega
    obtain ⟨d,hd1,hd2,hd3⟩:=hd
    obtain ⟨m,hm⟩:=ih (j+1) (if x<y+c then 1 else 0) (o++[d]) (by omega) (by simp [hol]) (Dy.M2.2 ⟨hod,Dy.O9.2 ⟨hd2,Dy.Q4⟩⟩) (by split<;>omega) (by
      rw [Dy.U6,hol,Dy.J6]
      generalize (if x<y+c then 1 else 0)=e at hd3 ⊢
      generalize 2^(32*j)=p at hv ⊢
      have h1:p*(d+y+c)=p*(x+4294967296*e):=by rw [hd3]
      simp only [D0,B9] at hv h1 ⊢
      omega)
    refine E9 m ?_
    rw [VG]
    rw [A2,wrap_i64 (n:=(j:Int)+1) (by omega) (by omega),hxx,hyy]
    have fin:∀(X:Int) (e:Nat),IntKind.u32.wrap X=(d:Int)→e=(if x<y+c then 1 else 0)→(0≤[(IntKind.u32.wrap X).toNat].length∧o.length+[(IntKind.u32.wrap X).toNat].length≤1099511627776)∧
      P4 Tryz.prog (look DF) PE 2 47 BM (D8 Tryz.f117 0) m [.dig [1,2,3] a,.dig [1,2,3] b,.grown 152 (o++[(IntKind.u32.wrap X).toNat]),.num .u64 (e:Int),.num .i64 ((j:Int)+1)] K:=by
     intro X e h1 h2
     rw [h1,A2,h2]
     exact ⟨⟨by simp,by simp;omega⟩,hm⟩
    refine B5 (decide_eq_true (by omega)) (A8 (fun h=> ?_) (fun h=> ?_))
    ·have h:=A1 h
     refine ⟨by omega,by omega,A8 (fun h1=> ?_) (fun h1=> ?_)⟩
     ·have h1:=A1 h1
      simp only [wrap_u64] at h1
      have h2:x<y+c:=by omega
      rw [if_pos h2] at hd3
      exact fin _ 1 (by simp only [wrap_u64,wrap_u32];omega) (by rw [if_pos h2])
     ·have h1:=A0 h1
      simp only [wrap_u64] at h1
      have h2:¬x<y+c:=by omega
      rw [if_neg h2] at hd3
      exact fin _ 0 (by simp only [wrap_u64,wrap_u32];omega) (by rw [if_neg h2])
    ·have hy0:=hb0 (by have:=A0 h;omega)
     refine ⟨by omega,A8 (fun h1=> ?_) (fun h1=> ?_)⟩
     ·have h1:=A1 h1
      simp only [wrap_u64] at h1
      have h2:x<y+c:=by omega
      rw [if_pos h2] at hd3
      exact fin _ 1 (by simp only [wrap_u64,wrap_u32];omega) (by rw [if_pos h2])
     ·have h1:=A0 h1
      simp only [wrap_u64] at h1
      have h2:¬x<y+c:=by omega
      rw [if_neg h2] at hd3
      exact fin _ 0 (by simp only [wrap_u64,wrap_u32];omega) (by rw [if_neg h2])
  exact key a.length 0 0 [] (by omega) rfl Dy.Q4 (by omega) (by simp [Dy.val])
 ·cases h
theorem C0t (args:List AV) (s:Spec) (h:A6u args=some s) (hp:C6 s.pre True):Contract Tryz.prog Inv 117 args s.res:=by
 unfold A6u at h
 split at h
 ·cases h
  rename_i a b
  obtain ⟨⟨hba,ha1⟩, -⟩:=hp
  refine E8 false 47 PE GB Tryz.func117 (by kernel_rfl) rfl (W4 (by kernel_rfl) (by kernel_rfl) A8v) fun hok=> ?_
  have ha:=(E4 hok).1
  have hb:=(E4 (E4 hok).2).1
  rw [C35]
  refine ⟨⟨ha,hb,ha1,hba,rfl,rfl,rfl⟩,?_⟩
  rw [Dy.m8 (L8 (Nat.sub_le _ _) (Dy.I0 ha.2))]
 ·cases h
theorem A8s:L6 Tryz.prog (look DF) TC 1 25 SW (D8 Tryz.f96 0) B9h:=by
 intro vals r h K hK
 unfold B9h at h
 split at h
 ·cases h
  rename_i n x
  simp only [j0] at hK
  obtain ⟨⟨h0,h1,h2,h3⟩,hK⟩:=hK
  obtain ⟨x,rfl⟩:=C4 h2
  rw [A2] at hK
  have key:∀(x:Nat) (n:Int),0≤n→n+Dy.bl x≤1099511627776+32→x<4294967296→K (.exit 0) [.num .i64 (n+(Dy.bl x:Nat)),.num .u32 0]→
    ∃m,P4 Tryz.prog (look DF) TC 1 25 SW (D8 Tryz.f96 0) m [.num .i64 n,.num .u32 x] K:=by
   intro x
   induction x using FM with
   |_ x ih=>
    intro n h0 h1 hx hK
    by_cases c:x=0
    ·subst c
     refine D4 ?_
     rw [VD]
     refine B1 rfl ?_
     simpa [Dy.K2] using hK
    ·have hb:=Dy.D2i c
     obtain ⟨m,hm⟩:=ih (x/2) (Nat.div_lt_self (by omega) (by omega)) (n+1) (by omega) (by omega) (by omega) (by rw [show n+1+(Dy.bl (x/2):Int)=n+(Dy.bl x:Int) by omega];exact hK)
     refine E9 m ?_
     rw [VD,wrap_i64 (by omega) (by omega),fdiv_pow (by omega),A2]
     exact B5 (decide_eq_true (by omega)) hm
  have hb:=(Dy.I8 (n:=x) (k:=32)).2 (by omega)
  exact key x n h0 (by omega) (by omega) hK
 ·cases h
theorem C0q (args:List AV) (s:Spec) (h:D5b args=some s) (hp:C6 s.pre True):Contract Tryz.prog Inv 96 args s.res:=by
 unfold D5b at h
 split at h
 ·cases h
  rename_i a
  obtain ⟨⟨hc,ha1⟩, -⟩:=hp
  refine E8 false 25 TC GB Tryz.func96 (by kernel_rfl) rfl (W4 (by kernel_rfl) (by kernel_rfl) A8s) fun hok=> ?_
  have ha:=(E4 hok).1
  rw [C32]
  refine A8 (fun h=> ?_) (fun h=> ?_)
  ·have h:=A1 h
   have:a=[]:=G5.1 (by omega)
   subst this
   rfl
  ·have h:=A0 h
   have hne:a≠[]:=fun e=>h (by rw [e];rfl)
   have hb:=Dy.VP ha.2 hne (((Dy.KP ha.2).1 hc).resolve_left hne)
   have hx:=Dy.E5 ha.2 (a.length-1)
   rw [wrap_i64 (n:=(a.length:Int)-1) (by omega) (by omega),show ((a.length:Int)-1).toNat=a.length-1 by omega,A2,wrap_i64 (by omega) (by omega),hb]
   refine ⟨by omega,by omega,?_⟩
   congr 1
   omega
 ·cases h
theorem C0o (args:List AV) (s:Spec) (h:D59 args=some s) (hp:C6 s.pre True):Contract Tryz.prog Inv 162 args s.res:=by
 unfold D59 at h
 split at h
 ·cases h
  rename_i a i
  refine A4 false GB Tryz.func162 (by kernel_rfl) (by kernel_rfl) fun hok=> ?_
  have ha:=(E4 hok).1
  have hr:=range_i64 (J5 (E4 hok).2).1
  rw [C30]
  refine A8 (fun h=> ?_) (fun h=> ?_)
  ·have h:=A1 h
   rw [if_pos h]
   rfl
  ·have h:=A0 h
   rw [if_neg h]
   obtain ⟨n,rfl⟩:=C4 (show 0≤i by omega)
   have e1:IntKind.i64.wrap ((n:Int).tdiv 32)=((n/32:Nat):Int):=by
    rw [N8 (by omega),wrap_i64 (by omega) (by omega)];omega
   have e2:(n:Int).tmod 32=((n%32:Nat):Int):=by rw [Q9 (by omega)];omega
   rw [e1,e2]
   simp only [A2]
   have hsp:2^n=2^(32*(n/32))*2^(n%32):=by rw [←B8,show 32*(n/32)+n%32=n by omega]
   refine A8 (fun h=> ?_) (fun h=> ?_)
   ·have h:=A1 h
    have:Dy.val a/2^n=0:=L9 (G7 (Dy.I0 ha.2) (B3 (by decide) (by omega)))
    rw [this]
    rfl
   ·have h:=A0 h
    refine ⟨by omega,by omega,?_⟩
    have hx:=Dy.E5 ha.2 (n/32)
    have hdiv:Dy.val a/2^n%2=a.getD (n/32) 0/2^(n%32)%2:=by
     rw [hsp,←K7,←Dy.HO ha.2,Dy.I1]
     have e3:4294967296*Dy.val (a.drop (n/32+1))=2^(n%32)*(2*(2^(31-n%32)*Dy.val (a.drop (n/32+1)))):=by
      rw [←B9 2,←Nat.pow_succ',←B9,←B8,show n%32+(31-n%32+1)=32 by omega]
     rw [e3,Nat.add_mul_div_left _ _ (A9 _)]
     omega
    have hq:a.getD (n/32) 0/2^(n%32)≤a.getD (n/32) 0:=L1 _ _
    rw [hdiv,J1 (by omega),fdiv_pow (by omega),A2]
    generalize a.getD (n/32) 0/2^(n%32)=w at hq ⊢
    rw [ZQ (by omega) (by omega) (by omega) (by omega),A2,show (1:Int).toNat=1 from rfl,Nat.and_one_is_mod]
 ·cases h
theorem B2y:L6 Tryz.prog (look DF) A0k 2 45 ZH (D8 Tryz.f98 0) C94:=by
 intro vals r h K hK
 unfold C94 at h
 split at h
 ·cases h
  rename_i a o s c i
  simp only [j0] at hK
  obtain ⟨⟨ha,ha1,hs0,hs1,hol,rfl,rfl⟩,hK⟩:=hK
  obtain ⟨s,rfl⟩:=C4 hs0
  simp only [A2] at hK
  have key:∀(u j c:Nat) (q:List Nat),a.length=u+j→q.length=j→Dy.D1 q→c<2^s→Dy.val q+2^(32*j)*(c+2^s*Dy.val (a.drop j))=Dy.val a*2^s→
    ∃m,P4 Tryz.prog (look DF) A0k 2 45 ZH (D8 Tryz.f98 0) m [.dig [1,2,3] a,.grown 152 (o++q),.num .i64 s,.num .u64 c,.num .i64 j] K:=by
   intro u
   induction u with
   |zero=>
    intro j c q hj hql hqd hc hv
    refine D4 ?_
    rw [XZ]
    refine B1 (decide_eq_false (by omega)) ?_
    have hja:j=a.length:=by omega
    subst hja
    simp only [EA,Dy.val,O3,I4] at hv
    have hq:=Dy.HL hqd (n:=a.length) (c:=c) (y:=Dy.val a*2^s) (by omega) (by rw [H7 (by omega)];exact hv)
    rw [H7 (by omega)] at hq
    rw [←hq.1,←hq.2] at hK
    exact hK
   |succ u ih=>
    intro j c q hj hql hqd hc hv
    have hx:=Dy.E5 ha.2 j
    rw [Dy.I1 a] at hv
    generalize hxx:a.getD j 0=x at hx hv
    have hs:2^s*2^(32-s)=4294967296:=by rw [←B8,show s+(32-s)=32 by omega]
    have hs31:2^s≤2^31:=B3 (by decide) (by omega)
    have hxs:x*2^s≤4294967295*2^s:=Nat.mul_le_mul_right _ (by omega)
    have hcn:(x*2^s+c)/4294967296<2^s:=by
     rw [H0 (by decide)]
     omega
    obtain ⟨m,hm⟩:=ih (j+1) ((x*2^s+c)/4294967296) (q++[(x*2^s+c)%4294967296]) (by omega) (by simp [hql]) (Dy.M2.2 ⟨hqd,Dy.O9.2 ⟨by omega,Dy.Q4⟩⟩) hcn (by
      rw [←hv,Dy.U6,hql,Dy.J6,D0 (2^s),B6 (2^s) x]
      have h1:x*2^s+c=(x*2^s+c)%4294967296+4294967296*((x*2^s+c)/4294967296):=by omega
      generalize (x*2^s+c)%4294967296=lo at h1 ⊢
      generalize (x*2^s+c)/4294967296=hi at h1 ⊢
      rw [show c+(x*2^s+2^s*(4294967296*Dy.val (a.drop (j+1))))=(lo+4294967296*hi)+2^s*(4294967296*Dy.val (a.drop (j+1))) by omega]
      rw [Nat.mul_left_comm (2^s) 4294967296]
      generalize 2^(32*j)=p
      simp only [D0,B9]
      omega)
    refine E9 m ?_
    rw [XZ]
    simp only [A2,T5,DN]
    rw [hxx]
    have hmin:min s 64=s:=by omega
    have hpow:((2:Int)^s)=((2^s:Nat):Int):=by simp
    have e2:IntKind.u64.wrap (IntKind.u64.wrap (x:Int)*2^min s 64)=((x*2^s:Nat):Int):=by
     have q1:IntKind.u64.wrap (x:Int)=(x:Int):=by rw [wrap_u64];omega
     rw [hmin,hpow,q1,wrap_u64,←L5]
     generalize x*2^s=y at hxs ⊢
     omega
    have e3:c|||(x*2^s)=x*2^s+c:=by rw [Nat.or_comm,LF hc]
    rw [e2,WT (by omega) (by omega) (by omega) (by omega)]
    simp only [A2]
    rw [e3,fdiv_pow (by omega),A2,wrap_u32,wrap_i64 (by omega) (by omega)]
    have e5:(((x*2^s+c:Nat):Int)%4294967296).toNat=(x*2^s+c)%4294967296:=by
     generalize x*2^s+c=y
     omega
    rw [e5,List.append_assoc]
    exact B5 (decide_eq_true (by omega)) ⟨by omega,by omega,⟨by omega,by rw [g7];omega⟩,hm⟩
  have:=key a.length 0 0 [] (by omega) rfl Dy.Q4 (A9 _) (by simp [Dy.val];exact B6 _ _)
  rw [List.append_nil] at this
  exact this
 ·cases h
theorem PJ (args:List AV) (s:Spec) (h:sUp args=some s) (hp:C6 s.pre True):Contract Tryz.prog Inv 98 args s.res:=by
 unfold sUp at h
 split at h
 ·cases h
  rename_i a n
  obtain ⟨⟨hn,hn1,hal⟩, -⟩:=hp
  refine E8 false 45 A0k GB Tryz.func98 (by kernel_rfl) rfl (W4 (by kernel_rfl) (by kernel_rfl) B2y) fun hok=> ?_
  have ha:=(E4 hok).1
  obtain ⟨n,rfl⟩:=C4 hn
  rw [C6t]
  refine A8 (fun h=> ?_) (fun h=> ?_)
  ·have h:=A1 h
   have:a=[]:=G5.1 (by omega)
   subst this
   simp [Dy.val,Dy.O0]
  ·have e1:IntKind.i64.wrap ((n:Int).tdiv 32)=((n/32:Nat):Int):=by
    rw [N8 (by omega),wrap_i64 (by omega) (by omega)];omega
   have e2:(n:Int).tmod 32=((n%32:Nat):Int):=by rw [Q9 (by omega)];omega
   rw [e1,e2]
   have e3:(IntKind.u32.wrap ((Dy.val a*2^(n%32)/2^(32*a.length):Nat):Int)).toNat=Dy.val a*2^(n%32)/2^(32*a.length):=by
    have h1:Dy.val a*2^(n%32)/2^(32*a.length)<4294967296:=by
     rw [H0 (A9 _),B6 4294967296]
     exact Nat.mul_lt_mul'' (Dy.I0 ha.2) (Nat.pow_lt_pow_right (by decide) (by omega:n%32<32))
    generalize Dy.val a*2^(n%32)/2^(32*a.length)=y at h1 ⊢
    rw [wrap_u32];omega
   simp only [A2,U0,g7,Dy.H5,T5,DN]
   rw [e3]
   refine ⟨⟨by omega,by omega,by omega⟩,⟨ha,hal,by omega,by omega,by omega,by simp,by simp⟩,⟨by omega,by omega⟩,?_⟩
   rw [Dy.U6,Dy.o5,Dy.u7,Dy.X6]
   simp only [g7,U0,Dy.H5]
   rw [N9,D0,B8,B9,←D0,DQ,B6,B9,←B8,show n%32+32*(n/32)=n by omega]
 ·cases h
theorem C4d:G6 Tryz.prog Inv (look C6f):=
 A3 (A3 (A3 (A3 (A3 (A3 (A3 (A3 GB PJ) C0o) C0q) C0t) C0n) C0p) B4g) C5z
theorem A8t:L6 Tryz.prog (look C6f) TD 1 31 SX (D8 Tryz.f111 0) B9i:=by
 intro vals r h K hK
 unfold B9i at h
 split at h
 ·cases h
  rename_i a n
  simp only [j0] at hK
  obtain ⟨⟨ha,hc,ha1,rfl⟩,hK⟩:=hK
  by_cases hv:Dy.val a=0
  ·have:a=[]:=by rw [←hc,hv,Dy.O0]
   subst this
   refine D4 ?_
   rw [GG,wrap_i64 (by simp) (by simp)]
   refine B1 rfl ?_
   rw [hv,Dy.B0p] at hK
   exact hK
  ·have hlt:Dy.tz (Dy.val a)<32*a.length:=G7 (Dy.Z2 hv) (Dy.I8.2 (Dy.I0 ha.2))
   have key:∀u n:Nat,Dy.tz (Dy.val a)=u+n→(n%32=0∨a.getD (n/32) 0≠0)→∃m,P4 Tryz.prog (look C6f) TD 1 31 SX (D8 Tryz.f111 0) m [.dig [1,2] a,.num .i64 n] K:=by
    intro u
    induction u using FM with
    |_ u ih=>
     intro n hn hd
     have hbit:=Dy.D5z hv (show n≤Dy.tz (Dy.val a) by omega)
     have e1:IntKind.i64.wrap ((n:Int).tdiv 32)=((n/32:Nat):Int):=by
      rw [N8 (by omega),wrap_i64 (by omega) (by omega)];omega
     have e2:IntKind.i64.wrap (32*(a.length:Int))=((32*a.length:Nat):Int):=by rw [wrap_i64 (by omega) (by omega)];omega
     have e3:(if (n:Int)<0 then (0:Nat) else Dy.val a/2^(n:Int).toNat%2)=if n=Dy.tz (Dy.val a) then 1 else 0:=by rw [if_neg (by omega),A2,hbit]
     by_cases c:n=Dy.tz (Dy.val a)
     ·refine D4 ?_
      rw [GG,e1,e2,e3,if_pos c]
      refine B5 (decide_eq_true (by omega)) (B1 rfl ?_)
      rw [←c] at hK
      exact hK
     ·by_cases c2:a.getD (n/32) 0=0
      ·have h32:n%32=0:=hd.resolve_right (fun h=>h c2)
       have hge:n+32≤Dy.tz (Dy.val a):=by
        refine (Dy.EN hv _).1 ?_
        have q1:Dy.val a%2^n=0:=(Dy.EN hv _).2 (by omega)
        have q2:=Dy.A05 ha.2 (n/32)
        rw [show 32*(n/32)=n by omega,c2] at q2
        rw [B8,Nat.mod_mul,q1,←q2]
        simp
       obtain ⟨m,hm⟩:=ih (u-32) (by omega) (n+32) (by omega) (.inl (by omega))
       refine E9 m ?_
       rw [GG,e1,e2,e3,if_neg c]
       refine B5 (decide_eq_true (by omega)) (B5 rfl ⟨by omega,?_⟩)
       rw [A2,c2,wrap_i64 (by omega) (by omega)]
       exact B5 rfl hm
      ·have hnext:(n+1)%32=0∨a.getD ((n+1)/32) 0≠0:=by
        by_cases e:(n+1)%32=0
        ·exact .inl e
        ·rw [show (n+1)/32=n/32 by omega];exact .inr c2
       obtain ⟨m,hm⟩:=ih (u-1) (by omega) (n+1) (by omega) hnext
       refine E9 m ?_
       rw [GG,e1,e2,e3,if_neg c]
       refine B5 (decide_eq_true (by omega)) (B5 rfl ⟨by omega,?_⟩)
       rw [A2,wrap_i64 (n:=(n:Int)+1) (by omega) (by omega)]
       exact B1 (decide_eq_false (by omega)) hm
   exact key (Dy.tz (Dy.val a)) 0 (by omega) (.inl rfl)
 ·cases h
theorem C0r (args:List AV) (s:Spec) (h:D5c args=some s) (hp:C6 s.pre True):Contract Tryz.prog Inv 111 args s.res:=by
 unfold D5c at h
 split at h
 ·cases h
  rename_i a
  obtain ⟨⟨hc,ha1⟩, -⟩:=hp
  refine E8 false 31 TD C4d Tryz.func111 (by kernel_rfl) rfl (W4 (by kernel_rfl) (by kernel_rfl) A8t) fun hok=> ?_
  have ha:=(E4 hok).1
  rw [C33,wrap_i64 (by omega) (by omega)]
  refine ⟨⟨ha,hc,ha1,rfl⟩,A8 (fun h=> ?_) (fun h=>rfl)⟩
  have h:=A1 h
  by_cases hv:Dy.val a=0
  ·rw [hv,Dy.B0p];rfl
  ·have hlt:Dy.tz (Dy.val a)<32*a.length:=G7 (Dy.Z2 hv) (Dy.I8.2 (Dy.I0 ha.2))
   omega
 ·cases h
theorem C4e:G6 Tryz.prog Inv (look C6g):=A3 C4d C0r
theorem A3m:L6 Tryz.prog (look C6g) NM 2 63 PA (D8 Tryz.f112 0) A8y:=by
 intro vals r h K hK
 unfold A8y at h
 split at h
 ·cases h
  rename_i a o s i l
  simp only [j0] at hK
  obtain ⟨⟨ha,hs0,hs1,rfl,hi0,hi1,ha1⟩,hK⟩:=hK
  obtain ⟨s,rfl⟩:=C4 hs0
  obtain ⟨i,rfl⟩:=C4 hi0
  simp only [A2] at hK
  have hs:s<32:=by omega
  have key:∀(u j:Nat),a.length=u+(i+j)→
    ∃m,P4 Tryz.prog (look C6g) NM 2 63 PA (D8 Tryz.f112 0) m [.dig [1,2,3] a,.grown 152 (Dy.dgN j (Dy.val (a.drop i)/2^s)),.num .i64 s,.num .i64 ((i+j:Nat):Int),.bool l] K:=by
   intro u
   induction u with
   |zero=>
    intro j hj
    refine D4 ?_
    rw [QU]
    refine B1 (decide_eq_false (by omega)) ?_
    rw [show j=a.length-i by omega,show i+(a.length-i)=a.length by omega]
    exact hK
   |succ u ih=>
    intro j hj
    have hdig:=A03 (Dy.CF ha.2 i) hs j
    rw [show∀k,(a.drop i).getD k 0=a.getD (i+k) 0 from fun k=>by simp [D7,Y5],show∀k,(a.drop i).getD k 0=a.getD (i+k) 0 from fun k=>by simp [D7,Y5]] at hdig
    have hx:=Dy.E5 ha.2 (i+j)
    have hy:=Dy.E5 ha.2 (i+(j+1))
    have hd:Dy.val (a.drop i)/2^s/2^(32*j)%4294967296<4294967296:=Nat.mod_lt _ (by decide)
    obtain ⟨m,hm⟩:=ih (j+1) (by omega)
    rw [Dy.B2d] at hm
    refine E9 m ?_
    rw [QU]
    rw [hdig] at hm hd
    have hw:IntKind.i64.wrap (((i+j:Nat):Int)+1)=((i+(j+1):Nat):Int):=by rw [wrap_i64 (by omega) (by omega)];omega
    rw [hw]
    simp only [A2,T5,DN,Dy.H5]
    generalize hxx:a.getD (i+j) 0=x at hx hm hd ⊢
    generalize hyy:a.getD (i+(j+1)) 0=y at hy hm hd ⊢
    have q1:∀z:Nat,z<4294967296→IntKind.u64.wrap (z:Int)=(z:Int):=fun z hz=>by rw [wrap_u64];omega
    have hxs:x/2^s≤x:=L1 _ _
    rw [q1 x hx,J1 (by omega:s≤64),fdiv_pow (by omega)]
    simp only [A2]
    have hlo:x/2^s<2^(32-s):=by
     rw [H0 (A9 s),←B8,show 32-s+s=32 by omega];exact hx
    generalize x/2^s=w at hxs hlo hd hm ⊢
    refine B5 (decide_eq_true (by omega)) ⟨by omega,by omega,A8 (fun h=> ?_) (fun h=> ?_)⟩
    ·have h:=A1 h
     have e4:IntKind.i64.wrap ((32:Int)-(s:Int))=((32-s:Nat):Int):=by rw [wrap_i64 (by omega) (by omega)];omega
     rw [e4]
     simp only [A2]
     rw [J1 (by omega:32-s≤64)]
     have hpow:((2:Int)^(32-s))=((2^(32-s):Nat):Int):=by simp
     have hp32:2^(32-s)≤2^32:=B3 (by decide) (by omega)
     have hy32:y*2^(32-s)≤4294967295*2^32:=Nat.mul_le_mul (by omega) hp32
     have e5:IntKind.u64.wrap (IntKind.u64.wrap (y:Int)*2^(32-s))=((y*2^(32-s):Nat):Int):=by
      rw [hpow,q1 y hy,←L5,wrap_u64]
      generalize y*2^(32-s)=v at hy32 ⊢
      omega
     rw [e5,WT (by omega) (by omega) (by omega) (by omega)]
     simp only [A2]
     have e7:w|||y*2^(32-s)=y*2^(32-s)+w:=by rw [Nat.or_comm,LF hlo]
     have e8:(IntKind.u32.wrap ((y*2^(32-s)+w:Nat):Int)).toNat=w+y*2^(32-s)%4294967296:=by
      rw [wrap_u32]
      generalize y*2^(32-s)=v at hy32 hd ⊢
      omega
     rw [e7,e8]
     exact ⟨by omega,by omega,⟨by omega,by omega⟩,hm⟩
    ·have h:=A0 h
     have hb0:y=0:=by rw [←hyy,D7,M1 (by omega)];rfl
     subst hb0
     have e8:(IntKind.u32.wrap (w:Int)).toNat=w:=by
      rw [wrap_u32]
      omega
     rw [R2,Nat.zero_mod,I4] at hm
     rw [e8]
     exact ⟨⟨by omega,by omega⟩,hm⟩
  exact key (a.length-i) 0 (by omega)
 ·cases h
theorem B4f (args:List AV) (s:Spec) (h:D04 args=some s) (hp:C6 s.pre True):Contract Tryz.prog Inv 112 args s.res:=by
 unfold D04 at h
 split at h
 ·cases h
  rename_i a n
  obtain ⟨⟨hc,hn,ha1⟩, -⟩:=hp
  refine E8 false 63 NM C4e Tryz.func112 (by kernel_rfl) rfl (W4 (by kernel_rfl) (by kernel_rfl) A3m) fun hok=> ?_
  have ha:=(E4 hok).1
  have hr:=range_i64 (J5 (E4 hok).2).1
  obtain ⟨n,rfl⟩:=C4 hn
  rw [B7k]
  have e1:IntKind.i64.wrap ((n:Int).tdiv 32)=((n/32:Nat):Int):=by
   rw [N8 (by omega),wrap_i64 (by omega) (by omega)];omega
  have e2:(n:Int).tmod 32=((n%32:Nat):Int):=by rw [Q9 (by omega)];omega
  rw [e1,e2]
  simp only [A2]
  have hpow:2^(32*(n/32))*2^(n%32)=2^n:=by rw [←B8,show 32*(n/32)+n%32=n by omega]
  have hbl:=(Dy.I8 (n:=Dy.val a) (k:=32*a.length)).2 (Dy.I0 ha.2)
  refine ⟨⟨hc,ha1⟩,A8 (fun h=> ?_) (fun h=> ?_)⟩
  ·have h:=A1 h
   have h0:Dy.val a/2^n=0:=L9 (Dy.I8.1 (by omega))
   rw [h0,Dy.O0]
   have e3:decide ((a.length:Int)>0)=decide (Dy.val a≠0∧(Dy.tz (Dy.val a):Int)<(n:Int)):=by
    by_cases hv:Dy.val a=0
    ·have:a=[]:=by rw [←hc,hv,Dy.O0]
     subst this
     simp [Dy.val]
    ·have hz:=Dy.Z2 hv
     have hl:a≠[]:=fun e=>hv (by rw [e];rfl)
     have hl:=X4.2 hl
     rw [decide_eq_true (by omega),decide_eq_true ⟨hv,by omega⟩]
   rw [e3]
  ·have h:=A0 h
   have hv:Dy.val a≠0:=fun e=>h (by rw [e,Dy.K2];omega)
   refine ⟨⟨hc,ha1⟩,⟨ha,by omega,by omega,by simp,by omega,by omega,ha1⟩,?_⟩
   have hlt:Dy.val (a.drop (n/32))/2^(n%32)<2^(32*(a.length-n/32)):=by
    have:=Dy.I0 (Dy.CF ha.2 (n/32))
    rw [List.length_drop] at this
    exact L8 (L1 _ _) this
   rw [Dy.m8 hlt,Dy.HO ha.2,K7,hpow]
   have e3:decide ((n:Int)>(Dy.tz (Dy.val a):Int))=decide (Dy.val a≠0∧(Dy.tz (Dy.val a):Int)<(n:Int)):=by simp [hv]
   rw [e3]
 ·cases h
theorem C4f:G6 Tryz.prog Inv (look D5x):=A3 C4e B4f
end Go.AI

namespace Go.Dy
structure Dyd where
 neg:Bool
 mag:List Nat
 exp:Int
def L7:Dyd:=⟨false,[],0⟩
def form (s:Bool) (n:Nat) (e:Int):Dyd:=if n=0 then L7 else ⟨s,dg (n/2^tz n),e+tz n⟩
def C8 (z:Int) (e:Int):Dyd:=form (decide (z<0)) z.natAbs e
def Dyd.int (d:Dyd):Int:=if d.neg then -(val d.mag:Int) else val d.mag
def inside (e:Int):Bool:=decide (-16777216≤e∧e≤16777216)
def A5 (d:Dyd):Bool:=may d.mag&&(if d.mag=[] then !d.neg&&decide (d.exp=0) else decide (val d.mag%2=1)&&inside d.exp)
def I2 (d:Dyd):Dyd×Int:=if d.mag.length≤4096 then (if inside d.exp then (d,0) else (L7,20)) else (L7,3)
def N7 (s:Bool) (m:List Nat) (e:Int):Dyd×Int:=if may m then I2 (form s (val m) e) else (L7,2)
def unit (a b:Dyd):Int:=min a.exp b.exp
def at_ (d:Dyd) (u:Int):Int:=d.int*2^(d.exp-u).toNat
def C2 (a b:Dyd):Dyd:=C8 (at_ a (unit a b)+at_ b (unit a b)) (unit a b)
def E6 (a b:Dyd):Dyd:=form (a.neg !=b.neg) (val a.mag*val b.mag) (a.exp+b.exp)
def U2 (a b:Int):Int:=if a<b then -1 else if b<a then 1 else 0
def Y1 (a b:Dyd):Int:=U2 (at_ a (unit a b)) (at_ b (unit a b))
def G9 (d:Dyd):Dyd:=⟨!d.neg&&decide (d.mag≠[]),d.mag,d.exp⟩
def B7 (d:Dyd):Dyd:=⟨false,d.mag,d.exp⟩
def F0 (d:Dyd):Int:=if d.mag=[] then 0 else if d.neg then -1 else 1
def C7 (d:Dyd):Int:=if d.mag=[] then 0 else d.exp+bl (val d.mag)
def TM (c:Bool) (d:Dyd):Dyd×Int:=if c then (d,0) else (L7,2)
def O4 (c:Bool) (d:Dyd):Dyd×Int:=if c then I2 d else (L7,2)
def D68 (n:Int):Dyd:=C8 n 0
end Go.Dy
namespace Go.AI
open Go Go.RowKit Go.Proofs
set_option linter.unusedVariables false
def avD (p:List Nat) (d:Dy.Dyd):AV:= .agg [.bool d.neg,.dig p d.mag,.num .i64 d.exp]
def A7t:List AV→Option Spec
 |[.num .i64 e]=>some ⟨none,.bool (Dy.inside e)⟩
 |_=>none
def D4g:List AV→Option Spec
 |[.agg [.bool s,.dig [1] m,.num .i64 e]]=>some ⟨none,.bool (Dy.A5 ⟨s,m,e⟩)⟩
 |_=>none
def C7a:List AV→Option Spec
 |[.vec [1] 3 [.agg [.bool s,.dig [1] m,.num .i64 e],.agg [.bool s',.dig [1] m',.num .i64 e']]]=>some ⟨none,.bool (Dy.A5 ⟨s,m,e⟩&&Dy.A5 ⟨s',m',e'⟩)⟩
 |_=>none
def C7f:List AV→Option Spec
 |[.bool s,.dig [2] m,.num .i64 e]=>some ⟨none,.tup [avD [0] (Dy.N7 s m e).1,.num .i64 (Dy.N7 s m e).2]⟩
 |_=>none
def D4j:List AV→Option Spec
 |[.agg [.bool s,.dig [1] m,.num .i64 e]]=>some ⟨some (m.length≤1048576),.agg [.bool s,.dig [0] m,.num .i64 e]⟩
 |_=>none
def A7u:List AV→Option Spec
 |[.agg [.bool s,.dig [1] m,.num .i64 e],.bool n]=>some ⟨some (m.length≤1048576),.agg [.bool (n&&decide (m≠[])),.dig [0] m,.num .i64 e]⟩
 |_=>none
def C7h:List AV→Option Spec
 |[.agg [.bool s,.dig [1] m,.num .i64 e]]=>some ⟨none,.num .i64 (if Dy.A5 ⟨s,m,e⟩ then Dy.F0 ⟨s,m,e⟩ else 0)⟩
 |_=>none
def D4m:List AV→Option Spec
 |[.agg [.bool s,.dig [1] m,.num .i64 e]]=>some ⟨none,.num .i64 (if Dy.A5 ⟨s,m,e⟩ then Dy.C7 ⟨s,m,e⟩ else 0)⟩
 |_=>none
def D4f:List AV→Option Spec
 |[.num .i64 n]=>some ⟨none,avD [0] (Dy.D68 n)⟩
 |_=>none
def D4i:List AV→Option Spec
 |[.agg [.bool s,.dig [1] m,.num .i64 e]]=>some ⟨none,.tup [avD [0] (Dy.TM (Dy.A5 ⟨s,m,e⟩) (Dy.G9 ⟨s,m,e⟩)).1,.num .i64 (Dy.TM (Dy.A5 ⟨s,m,e⟩) (Dy.G9 ⟨s,m,e⟩)).2]⟩
 |_=>none
def D4b:List AV→Option Spec
 |[.agg [.bool s,.dig [1] m,.num .i64 e]]=>some ⟨none,.tup [avD [0] (Dy.TM (Dy.A5 ⟨s,m,e⟩) (Dy.B7 ⟨s,m,e⟩)).1,.num .i64 (Dy.TM (Dy.A5 ⟨s,m,e⟩) (Dy.B7 ⟨s,m,e⟩)).2]⟩
 |_=>none
def B8q:List AV→Option Spec
 |[.agg [.bool s,.dig [1] m,.num .i64 e],.agg [.bool s',.dig [2] m',.num .i64 e']]=>
  some ⟨some (Dy.A5 ⟨s,m,e⟩=true∧Dy.A5 ⟨s',m',e'⟩=true∧(m=[] ↔ m'=[])),.num .i64 (Dy.U2 (Dy.val m*2^(e-min e e').toNat:Nat) (Dy.val m'*2^(e'-min e e').toNat:Nat))⟩
 |_=>none
def D4d:List AV→Option Spec
 |[.agg [.bool s,.dig [1] m,.num .i64 e],.agg [.bool s',.dig [2] m',.num .i64 e']]=>
  some ⟨none,.tup [.num .i64 (if Dy.A5 ⟨s,m,e⟩&&Dy.A5 ⟨s',m',e'⟩ then Dy.Y1 ⟨s,m,e⟩ ⟨s',m',e'⟩ else 0),.num .i64 (if Dy.A5 ⟨s,m,e⟩&&Dy.A5 ⟨s',m',e'⟩ then 0 else 2)]⟩
 |_=>none
def C7d:List AV→Option Spec
 |[.bool p,.dig [2] x,.bool q,.dig [4] y,.num .i64 e]=>some ⟨some (Dy.may x=true∧Dy.may y=true∧x≠[]∧y≠[]∧Dy.inside e=true),
   .tup [avD [0] (Dy.I2 (Dy.C8 (Dy.Dyd.int ⟨p,x,0⟩+Dy.Dyd.int ⟨q,y,0⟩) e)).1,.num .i64 (Dy.I2 (Dy.C8 (Dy.Dyd.int ⟨p,x,0⟩+Dy.Dyd.int ⟨q,y,0⟩) e)).2]⟩
 |_=>none
def A7s:List AV→Option Spec
 |[.bool p,.dig [2] x,.dig [3] y,.num .i64 e]=>some ⟨some (Dy.may x=true∧Dy.may y=true∧Dy.inside e=true∧4096<(Dy.dg (Dy.val x+Dy.val y)).length),
   .tup [avD [0] (Dy.I2 (Dy.form p (Dy.val x+Dy.val y) e)).1,.num .i64 (Dy.I2 (Dy.form p (Dy.val x+Dy.val y) e)).2]⟩
 |_=>none
def C7c:List AV→Option Spec
 |[.agg [.bool s,.dig [1] m,.num .i64 e],.agg [.bool s',.dig [2] m',.num .i64 e'],.num .i64 g]=>
  some ⟨some (Dy.A5 ⟨s,m,e⟩=true∧Dy.A5 ⟨s',m',e'⟩=true∧m≠[]∧m'≠[]∧g=e-e'∧1≤g∧g+Dy.bl (Dy.val m)=131073),
   .tup [avD [0] (Dy.I2 (Dy.C2 ⟨s,m,e⟩ ⟨s',m',e'⟩)).1,.num .i64 (Dy.I2 (Dy.C2 ⟨s,m,e⟩ ⟨s',m',e'⟩)).2]⟩
 |_=>none
def C79:List AV→Option Spec
 |[.agg [.bool s,.dig [1] m,.num .i64 e],.agg [.bool s',.dig [2] m',.num .i64 e']]=>
  some ⟨some (Dy.A5 ⟨s,m,e⟩=true∧Dy.A5 ⟨s',m',e'⟩=true),.tup [avD [0] (Dy.I2 (Dy.C2 ⟨s,m,e⟩ ⟨s',m',e'⟩)).1,.num .i64 (Dy.I2 (Dy.C2 ⟨s,m,e⟩ ⟨s',m',e'⟩)).2]⟩
 |_=>none
def D4c:List AV→Option Spec
 |[.agg [.bool s,.dig [1] m,.num .i64 e],.agg [.bool s',.dig [2] m',.num .i64 e']]=>
  some ⟨none,.tup [avD [0] (Dy.O4 (Dy.A5 ⟨s,m,e⟩&&Dy.A5 ⟨s',m',e'⟩) (Dy.C2 ⟨s,m,e⟩ ⟨s',m',e'⟩)).1,.num .i64 (Dy.O4 (Dy.A5 ⟨s,m,e⟩&&Dy.A5 ⟨s',m',e'⟩) (Dy.C2 ⟨s,m,e⟩ ⟨s',m',e'⟩)).2]⟩
 |_=>none
def D4l:List AV→Option Spec
 |[.agg [.bool s,.dig [1] m,.num .i64 e],.agg [.bool s',.dig [2] m',.num .i64 e']]=>
  some ⟨none,.tup [avD [0] (Dy.O4 (Dy.A5 ⟨s,m,e⟩&&Dy.A5 ⟨s',m',e'⟩) (Dy.C2 ⟨s,m,e⟩ (Dy.G9 ⟨s',m',e'⟩))).1,
   .num .i64 (Dy.O4 (Dy.A5 ⟨s,m,e⟩&&Dy.A5 ⟨s',m',e'⟩) (Dy.C2 ⟨s,m,e⟩ (Dy.G9 ⟨s',m',e'⟩))).2]⟩
 |_=>none
def D4h:List AV→Option Spec
 |[.agg [.bool s,.dig [1] m,.num .i64 e],.agg [.bool s',.dig [2] m',.num .i64 e']]=>
  some ⟨none,.tup [avD [0] (Dy.O4 (Dy.A5 ⟨s,m,e⟩&&Dy.A5 ⟨s',m',e'⟩) (Dy.E6 ⟨s,m,e⟩ ⟨s',m',e'⟩)).1,.num .i64 (Dy.O4 (Dy.A5 ⟨s,m,e⟩&&Dy.A5 ⟨s',m',e'⟩) (Dy.E6 ⟨s,m,e⟩ ⟨s',m',e'⟩)).2]⟩
 |_=>none
def D3l:List (Nat×(List AV→Option Spec)):=(133,A7t)::D5x
def A2g:List (Nat×(List AV→Option Spec)):=(134,D4j)::(69,D4g)::D3l
def XO:List (Nat×(List AV→Option Spec)):=(148,C7a)::(125,C7f)::(70,A7u)::(25,C7h)::(152,D4m)::A2g
def C4o:List (Nat×(List AV→Option Spec)):=(150,D4i)::(26,D4b)::(203,B8q)::(209,A7s)::(187,C7c)::(178,D4h)::XO
def D16:List (Nat×(List AV→Option Spec)):=(179,D4d)::(188,C7d)::C4o
def C4p:List (Nat×(List AV→Option Spec)):=(149,C79)::D16
def XP:List (Nat×(List AV→Option Spec)):=(77,D4c)::(78,D4l)::C4p
end Go.AI

namespace Go.Dy
set_option maxRecDepth 100000
def sgn (s:Bool) (n:Nat):Int:=if s then -(n:Int) else n
theorem Dyd.int_eq (d:Dyd):d.int=sgn d.neg (val d.mag):=rfl
theorem GU (s:Bool) (m:List Nat) (e:Int):Dyd.int ⟨s,m,e⟩=sgn s (val m):=rfl
theorem T9 {n:Nat}:may (dg n)=true ↔ (dg n).length≤4096:=by
 rw [TI,E3];exact ⟨fun h=>h.1,fun h=>⟨h,rfl⟩⟩
theorem S2 {s:Bool} {m:List Nat} {e:Int}:A5 ⟨s,m,e⟩=true ↔ may m=true∧((m=[]∧s=false∧e=0)∨(m≠[]∧val m%2=1∧inside e=true)):=by
 unfold A5
 simp only [Bool.and_eq_true]
 by_cases h:m=[]
 ·simp [h]
 ·simp [h]
theorem N5 {e:Int}:inside e=true ↔ -16777216≤e∧e≤16777216:=by simp [inside]
theorem C1 {s:Bool} {m:List Nat} {e:Int} (h:A5 ⟨s,m,e⟩=true):may m=true:=(S2.1 h).1
theorem J2 {s:Bool} {m:List Nat} {e:Int} (h:A5 ⟨s,m,e⟩=true): -16777216≤e∧e≤16777216:=by
 rcases (S2.1 h).2 with ⟨_,_,h⟩|⟨_,_,h⟩
 ·omega
 ·exact N5.1 h
theorem FB {s:Bool} {m:List Nat} {e:Int} (h:A5 ⟨s,m,e⟩=true) (hm:m≠[]):val m%2=1:=by
 rcases (S2.1 h).2 with ⟨h,_⟩|⟨_,h,_⟩
 ·exact absurd h hm
 ·exact h
theorem CZ {s:Bool} {e:Int} (h:A5 ⟨s,[],e⟩=true):s=false∧e=0:=by
 rcases (S2.1 h).2 with ⟨_,h⟩|⟨h,_⟩
 ·exact h
 ·exact absurd rfl h
theorem A6h:A5 L7=true:=by decide
theorem O8 {m:List Nat} (h:may m=true):bl (val m)≤131072:=by
 have:=(J3 (n:=val m) (k:=4096)).1 (by rw [K5 h];exact J4 h)
 omega
theorem R0 {n:Nat}:(dg n).length≤4096 ↔ bl n≤131072:=J3 (k:=4096)
theorem Y2 (s:Bool) (e:Int):form s 0 e=L7:=rfl
theorem H6 {s:Bool} {n:Nat} {e:Int} (h:n≠0):form s n e=⟨s,dg (n/2^tz n),e+tz n⟩:=by rw [form,if_neg h]
theorem NK {s:Bool} {n:Nat} {e:Int} (h:n%2=1):form s n e=⟨s,dg n,e⟩:=by
 rw [H6 (by omega),WQ h,AY,Nat.div_one]
 simp
theorem EW (s:Bool) (n k:Nat) (e:Int):form s (n*2^k) e=form s n (e+k):=by
 by_cases h:n=0
 ·rw [h,R2,Y2,Y2]
 ·have h2:n*2^k≠0:=Nat.mul_ne_zero h (Nat.pos_iff_ne_zero.1 (A9 k))
  rw [H6 h2,H6 h,A2k h,B8,Nat.mul_div_mul_right _ _ (A9 k)]
  rw [show e+((tz n+k:Nat):Int)=e+(k:Int)+(tz n:Int) by omega]
theorem B2m (s:Bool) (n:Nat) (e:Int):form s (2*n) e=form s n (e+1):=by
 have:=EW s n 1 e
 rw [MW,B6] at this
 exact this
theorem A69 {s:Bool} {m:List Nat} {e:Int} (h:A5 ⟨s,m,e⟩=true):form s (val m) e=⟨s,m,e⟩:=by
 by_cases hm:m=[]
 ·subst hm
  obtain ⟨rfl,rfl⟩:=CZ h
  rfl
 ·rw [NK (FB h hm),K5 (C1 h)]
theorem S1 (s:Bool) (n:Nat) (e:Int):C8 (sgn s n) e=form s n e:=by
 unfold C8 sgn
 by_cases h:n=0
 ·subst h
  cases s<;>rfl
 ·cases s
  ·simp only [J7,if_false,S7]
   rw [decide_eq_false (by omega)]
  ·simp only [if_true,Int.natAbs_neg,S7]
   rw [decide_eq_true (by omega)]
theorem RD (e:Int):C8 0 e=L7:=rfl
theorem UI (s:Bool) (n k:Nat):sgn s n*(k:Int)=sgn s (n*k):=by
 unfold sgn
 cases s
 ·simp
 ·simp only [if_true,Int.neg_mul,L5]
theorem LN (z:Int):z=sgn (decide (z<0)) z.natAbs:=by
 unfold sgn
 by_cases h:z<0
 ·simp only [h,decide_true,if_true];omega
 ·simp only [h,decide_false,J7,if_false];omega
theorem s6 (z:Int) (k:Nat) (e:Int):C8 (z*2^k) e=C8 z (e+k):=by
 rw [LN z,show ((2:Int)^k)=((2^k:Nat):Int) by simp,UI,S1,S1,EW]
theorem RC {s:Bool} {m:List Nat} {e:Int} (h:A5 ⟨s,m,e⟩=true):C8 (Dyd.int ⟨s,m,e⟩) e=⟨s,m,e⟩:=by
 rw [GU,S1,A69 h]
theorem AM {d:Dyd} (h:A5 d=true):I2 d=(d,0):=by
 obtain ⟨s,m,e⟩:=d
 unfold I2
 rw [if_pos (J4 (C1 h)),if_pos (by rw [N5];exact J2 h)]
theorem j6 (s:Bool) (m:List Nat) (e u:Int):at_ ⟨s,m,e⟩ u=sgn s (val m*2^(e-u).toNat):=by
 unfold at_
 rw [GU]
 simp only
 rw [show ((2:Int)^(e-u).toNat)=((2^(e-u).toNat:Nat):Int) by simp,UI]
theorem C6k (a b:Dyd):unit a b=unit b a:=by unfold unit;omega
theorem VK (a b:Dyd):C2 a b=C2 b a:=by
 unfold C2
 rw [C6k a b,Int.add_comm]
theorem RZ {a:Dyd} {s:Bool} {e:Int} (ha:A5 a=true) (h:A5 ⟨s,[],e⟩=true):C2 a ⟨s,[],e⟩=a:=by
 obtain ⟨rfl,rfl⟩:=CZ h
 obtain ⟨s,m,e⟩:=a
 unfold C2
 have h0:at_ ⟨false,[],0⟩ (unit ⟨s,m,e⟩ ⟨false,[],0⟩)=0:=by rw [j6];simp [val,sgn]
 rw [h0,Int.add_zero]
 unfold at_
 rw [s6]
 simp only [unit]
 rw [show (min e 0+((e-min e 0).toNat:Int))=e by omega]
 exact RC ha
theorem RY {s s':Bool} {m m':List Nat} {e e':Int} (h:e'≤e):C2 ⟨s,m,e⟩ ⟨s',m',e'⟩=C8 (sgn s (val m*2^(e-e').toNat)+sgn s' (val m')) e':=by
 unfold C2
 rw [j6,j6]
 simp only [unit]
 rw [show min e e'=e' by omega,show (e'-e').toNat=0 by omega,AY,M0]
theorem CE {s:Bool} {n:Nat} {e:Int} (ho:n%2=1) (h:131072<bl n):I2 (form s n e)=(L7,3):=by
 rw [NK ho,I2,if_neg]
 intro c
 have:=R0.1 c
 omega
theorem AO {s:Bool} {n:Nat} {e:Int} (h:bl n≤131072):N7 s (dg n) e=I2 (form s n e):=by
 unfold N7
 rw [if_pos (T9.2 (R0.2 h)),E3]
theorem SA {a b:List Nat} (ha:may a=true) (hb:may b=true):PV a b=(if bl (val a+val b)≤131072 then dg (val a+val b) else [],if bl (val a+val b)≤131072 then 0 else 3):=by
 unfold PV
 rw [ha,hb,Bool.and_self,SF]
 simp only [R0]
theorem D32 {a b:List Nat} (ha:may a=true) (hb:may b=true):mulR a b=(if bl (val a*val b)≤131072 then dg (val a*val b) else [],if bl (val a*val b)≤131072 then 0 else 3):=by
 unfold mulR
 rw [ha,hb,Bool.and_self,SF]
 simp only [R0]
theorem UP {a b:List Nat} (ha:may a=true) (hb:may b=true):RU a b=(if val a<val b then ([],10) else (dg (val a-val b),0)):=by
 unfold RU D5v
 rw [ha,hb]
 rfl
theorem o4 {a:List Nat} (h:may a=true) (n:Nat):(H3 a (-(n:Int))).mag=dg (val a/2^n):=by
 unfold H3
 rw [if_pos h]
 by_cases c:val a=0
 ·rw [if_pos c,c,Nat.zero_div,O0]
 ·rw [if_neg c]
  by_cases c1: -(n:Int)<0
  ·rw [if_pos c1,show (- -(n:Int)).toNat=n by omega]
  ·have:n=0:=by omega
   subst this
   rw [if_neg c1,if_neg]
   ·simp
   ·have:=O8 h;omega
theorem CK {a:List Nat} (h:may a=true) (n:Nat) (hn:bl (val a)+n≤131072):(H3 a (n:Int)).mag=dg (val a*2^n):=by
 unfold H3
 rw [if_pos h]
 by_cases c:val a=0
 ·rw [if_pos c,c,R2,O0]
 ·rw [if_neg c,if_neg (by omega),if_neg (by omega),A2]
theorem C3x {a b:Nat} (h:bl a<bl b):a<b:=by
 rcases L4 a b with c|c
 ·exact c
 ·have:=K1 c;omega
theorem Q1 {m:List Nat} (h:may m=true) (hm:m≠[]):val m≠0:=fun e=>hm ((IK h).1 e)
theorem B3a {a b k:Nat} (hk:1≤k) (hb:b%2=1):(a*2^k+b)%2=1:=by
 obtain ⟨k,rfl⟩:∃j,k=j+1:=⟨k-1,by omega⟩
 rw [I5,←B9]
 omega
theorem B3b {a b k:Nat} (hk:1≤k) (hb:b%2=1) (h:b≤a*2^k):(a*2^k-b)%2=1:=by
 obtain ⟨k,rfl⟩:∃j,k=j+1:=⟨k-1,by omega⟩
 rw [I5,←B9] at h ⊢
 omega
theorem D34 {a b:Nat} (ha:a%2=1) (hb:b%2=1):a*b%2=1:=by rw [Nat.mul_mod,ha,hb]
theorem GD (s:Bool) (a b:Nat):sgn s a+sgn s b=sgn s (a+b):=by
 unfold sgn;cases s
 ·simp
 ·simp only [if_true];omega
theorem UJ {s s':Bool} (h:s≠s') {a b:Nat} (hab:b≤a):sgn s a+sgn s' b=sgn s (a-b):=by
 unfold sgn;cases s<;>cases s'<;>simp at h ⊢ <;>omega
theorem B5q {s s':Bool} (h:s≠s') {a b:Nat} (hab:a≤b):sgn s a+sgn s' b=sgn s' (b-a):=by
 rw [Int.add_comm];exact UJ (Ne.symm h) hab
theorem D2p {A B K:Nat} (h1:K+1<bl A) (h2:bl B≤K):K<bl (A+B)∧K<bl (A-B)∧B≤A:=by
 have hlt:B<2^K:=I8.1 h2
 have hge:2^(K+1)≤A:=a9.1 h1
 have hp:2^(K+1)=2^K*2:=I5 ..
 refine ⟨a9.2 ?_,a9.2 ?_,?_⟩<;>omega
theorem B2j {s s':Bool} {m m':List Nat} {e e':Int} (h:A5 ⟨s,m,e⟩=true) (h':A5 ⟨s',m',e'⟩=true) (hm:m≠[]) (hm':m'≠[]) (hg:131073<e-e'+bl (val m)):
  I2 (C2 ⟨s,m,e⟩ ⟨s',m',e'⟩)=(L7,3):=by
 have b1:=O8 (C1 h)
 have b2:=O8 (C1 h')
 obtain ⟨g,hgg⟩:∃g:Nat,e-e'=g:=⟨(e-e').toNat,by omega⟩
 rw [RY (by omega),hgg,A2]
 have o:=FB h' hm'
 have hv:=Q1 (C1 h) hm
 have hA:=E7 hv g
 obtain ⟨k1,k2,k3⟩:=D2p (A:=val m*2^g) (K:=131072) (by omega) b2
 by_cases c:s=s'
 ·subst c
  rw [GD,S1]
  exact CE (B3a (by omega) o) k1
 ·rw [UJ c k3,S1]
  exact CE (B3b (by omega) o k3) k2
theorem C76 (a b:Nat):U2 (-(a:Int)) (-(b:Int))= -U2 a b:=by
 unfold U2
 split<;>split<;>first|omega|(split<;>omega)
end Go.Dy

namespace Go.AI
open Dy Dyd IntKind
open Go Go.RowKit Go.Proofs
set_option linter.unusedVariables false
set_option maxRecDepth 100000
set_option maxHeartbeats 0
theorem A2v (e:Int) (Q:AV→Prop):(evF Tryz.prog (look D5x) (lam []) false Tryz.f133 [.num .i64 e] Q)=(bif decide (-16777216≤e) then Q (.bool (decide (e≤16777216))) else Q (.bool false)):=by kernel_rfl
theorem B6u (s:Bool) (m:List Nat) (e:Int) (Q:AV→Prop):(evF Tryz.prog (look D3l) (lam []) false Tryz.f69 [.agg [.bool s,.dig [1] m,.num .i64 e]] Q)=(bif !may m then Q (.bool false) else bif decide ((↑m.length:Int)=0) then bif !s then Q (.bool (decide (e=0))) else Q (.bool false) else ((0:Int)≤0∧(0:Int)<(↑m.length:Int))∧bif decide (u32.wrap (↑(A7 (32:Nat) (↑(m.getD (0:Nat) (0:Nat)):Int)&&&A7 (32:Nat) (1:Int)).toNat:Int)=1) then Q (.bool (inside e)) else Q (.bool false)):=by kernel_rfl
theorem B72 (s:Bool) (m:List Nat) (e:Int) (Q:AV→Prop):(evF Tryz.prog (look D3l) (lam []) false Tryz.f134 [.agg [.bool s,.dig [1] m,.num .i64 e]] Q)=(m.length≤1099511627776∧Q (.agg [.bool s,.dig [0] m,.num .i64 e])):=by kernel_rfl
theorem B10 (s:Bool) (s':Bool) (m:List Nat) (m':List Nat) (e:Int) (e':Int) (Q:AV→Prop):(evF Tryz.prog (look A2g) (lam [((2:Nat),LoopAnn.unroll (3:Nat))]) false Tryz.f148 [.vec [1] (3:Nat) [.agg [.bool s,.dig [1] m,.num .i64 e],.agg [.bool s',.dig [1] m',.num .i64 e']]] Q)=(((0:Int)≤0∧(0:Int)<(↑[AV.agg [AV.bool s,AV.dig [(1:Nat)] m,AV.num i64 e],AV.agg [AV.bool s',AV.dig [(1:Nat)] m',AV.num i64 e']].length:Int))∧bif !A5 (mk s m e) then Q (.bool false) else ((0:Int)≤i64.wrap ((0:Int)+1)∧i64.wrap ((0:Int)+1)<(↑[AV.agg [AV.bool s,AV.dig [(1:Nat)] m,AV.num i64 e],AV.agg [AV.bool s',AV.dig [(1:Nat)] m',AV.num i64 e']].length:Int))∧bif !A5 (mk s' m' e') then Q (.bool false) else Q (.bool true)):=by kernel_rfl
theorem B0x (s:Bool) (m:List Nat) (e:Int) (Q:AV→Prop):(evF Tryz.prog (look A2g) (lam []) false Tryz.f125 [.bool s,.dig [2] m,.num .i64 e] Q)=(bif !may m then Q (.tup [.agg [.bool false,.dig [0] [],.num .i64 0],.num .i64 2]) else bif decide ((↑m.length:Int)=0) then Q (.tup [.agg [.bool false,.dig [0] [],.num .i64 0],.num .i64 0]) else bif decide (e>i64.wrap ((16777216:Int)-(↑(RL m):Int))) then Q (.tup [.agg [.bool false,.dig [0] [],.num .i64 0],.num .i64 20]) else bif decide (e<i64.wrap ((-16777216:Int)-(↑(RL m):Int))) then Q (.tup [.agg [.bool false,.dig [0] [],.num .i64 0],.num .i64 20]) else∀(l1:List Nat),l1=(H3 m (i64.wrap ((0:Int)-(↑(RL m):Int)))).mag→∀b2,b2=(H3 m (i64.wrap ((0:Int)-(↑(RL m):Int)))).lost→∀n3,n3=(H3 m (i64.wrap ((0:Int)-(↑(RL m):Int)))).err→Q (.tup [.agg [.bool s,.dig [0] l1,.num .i64 (i64.wrap (e+(↑(RL m):Int)))],.num .i64 0])):=by kernel_rfl
theorem A2w (s:Bool) (n:Bool) (m:List Nat) (e:Int) (Q:AV→Prop):(evF Tryz.prog (look A2g) (lam []) false Tryz.f70 [.agg [.bool s,.dig [1] m,.num .i64 e],.bool n] Q)=(m.length≤1048576∧∀b1,b1=s→∀(l2:List Nat),l2=m→∀n3,n3=e→bif n then Q (.agg [.bool (decide ((↑l2.length:Int)>0)),.dig [0] l2,.num .i64 n3]) else Q (.agg [.bool false,.dig [0] l2,.num .i64 n3])):=by kernel_rfl
theorem B0z (s:Bool) (m:List Nat) (e:Int) (Q:AV→Prop):(evF Tryz.prog (look A2g) (lam []) false Tryz.f25 [.agg [.bool s,.dig [1] m,.num .i64 e]] Q)=(bif !A5 (mk s m e) then Q (.num .i64 0) else bif decide ((↑m.length:Int)=0) then Q (.num .i64 0) else bif s then Q (.num .i64 (-1)) else Q (.num .i64 1)):=by kernel_rfl
theorem B6z (s:Bool) (m:List Nat) (e:Int) (Q:AV→Prop):(evF Tryz.prog (look A2g) (lam []) false Tryz.f152 [.agg [.bool s,.dig [1] m,.num .i64 e]] Q)=(bif !A5 (mk s m e) then Q (.num .i64 0) else bif decide ((↑m.length:Int)=0) then Q (.num .i64 0) else Q (.num .i64 (i64.wrap (e+(↑(F3 m):Int))))):=by kernel_rfl
theorem B6w (s:Bool) (m:List Nat) (e:Int) (Q:AV→Prop):(evF Tryz.prog (look XO) (lam []) false Tryz.f150 [.agg [.bool s,.dig [1] m,.num .i64 e]] Q)=(bif !A5 (mk s m e) then Q (.tup [.agg [.bool false,.dig [0] [],.num .i64 0],.num .i64 2]) else m.length≤1048576∧∀b1,b1=(!s&&decide (m≠[]))→∀(l2:List Nat),l2=m→∀n3,n3=e→Q (.tup [.agg [.bool b1,.dig [0] l2,.num .i64 n3],.num .i64 0])):=by kernel_rfl
theorem B6q (s:Bool) (m:List Nat) (e:Int) (Q:AV→Prop):(evF Tryz.prog (look XO) (lam []) false Tryz.f26 [.agg [.bool s,.dig [1] m,.num .i64 e]] Q)=(bif !A5 (mk s m e) then Q (.tup [.agg [.bool false,.dig [0] [],.num .i64 0],.num .i64 2]) else m.length≤1048576∧∀b1,b1=(false&&decide (m≠[]))→∀(l2:List Nat),l2=m→∀n3,n3=e→Q (.tup [.agg [.bool b1,.dig [0] l2,.num .i64 n3],.num .i64 0])):=by kernel_rfl
theorem A56 (s:Bool) (s':Bool) (m:List Nat) (m':List Nat) (e:Int) (e':Int) (Q:AV→Prop):(evF Tryz.prog (look XO) (lam []) false Tryz.f203 [.agg [.bool s,.dig [1] m,.num .i64 e],.agg [.bool s',.dig [2] m',.num .i64 e']] Q)=(bif decide ((if A5 (mk s m e)=true then C7 (mk s m e) else (0:Int))<if A5 (mk s' m' e')=true then C7 (mk s' m' e') else (0:Int)) then Q (.num .i64 (-1)) else bif decide ((if A5 (mk s m e)=true then C7 (mk s m e) else (0:Int))>if A5 (mk s' m' e')=true then C7 (mk s' m' e') else (0:Int)) then Q (.num .i64 1) else bif decide (i64.wrap ((↑(F3 m):Int)-(↑(F3 m'):Int))>0) then∀(l1:List Nat),l1=(H3 m' (i64.wrap ((↑(F3 m):Int)-(↑(F3 m'):Int)))).mag→∀b2,b2=(H3 m' (i64.wrap ((↑(F3 m):Int)-(↑(F3 m'):Int)))).lost→∀n3,n3=(H3 m' (i64.wrap ((↑(F3 m):Int)-(↑(F3 m'):Int)))).err→∀n4,n4=(YB m l1).fst→∀n5,n5=(YB m l1).snd→Q (.num .i64 n4) else∀(l6:List Nat),l6=(H3 m (i64.wrap ((0:Int)-i64.wrap ((↑(F3 m):Int)-(↑(F3 m'):Int))))).mag→∀b7,b7=(H3 m (i64.wrap ((0:Int)-i64.wrap ((↑(F3 m):Int)-(↑(F3 m'):Int))))).lost→∀n8,n8=(H3 m (i64.wrap ((0:Int)-i64.wrap ((↑(F3 m):Int)-(↑(F3 m'):Int))))).err→∀n9,n9=(YB l6 m').fst→∀n10,n10=(YB l6 m').snd→Q (.num .i64 n9)):=by kernel_rfl
theorem B6s (s:Bool) (s':Bool) (m:List Nat) (m':List Nat) (e:Int) (e':Int) (Q:AV→Prop):(evF Tryz.prog (look C4o) (lam []) false Tryz.f179 [.agg [.bool s,.dig [1] m,.num .i64 e],.agg [.bool s',.dig [2] m',.num .i64 e']] Q)=(bif !(A5 (mk s m e)&&A5 (mk s' m' e')) then Q (.tup [.num .i64 0,.num .i64 2]) else bif decide ((if A5 (mk s m e)=true then F0 (mk s m e) else (0:Int))<if A5 (mk s' m' e')=true then F0 (mk s' m' e') else (0:Int)) then Q (.tup [.num .i64 (-1),.num .i64 0]) else bif decide ((if A5 (mk s m e)=true then F0 (mk s m e) else (0:Int))>if A5 (mk s' m' e')=true then F0 (mk s' m' e') else (0:Int)) then Q (.tup [.num .i64 1,.num .i64 0]) else (A5 (mk s m e)=true∧A5 (mk s' m' e')=true∧(m=[] ↔ m'=[]))∧Q (.tup [.num .i64 (i64.wrap ((if A5 (mk s m e)=true then F0 (mk s m e) else (0:Int))*U2 (↑(val m*2^(e-min e e').toNat):Int) (↑(val m'*2^(e'-min e e').toNat):Int))),.num .i64 0])):=by kernel_rfl
theorem A2u (p:Bool) (x:List Nat) (y:List Nat) (e:Int) (Q:AV→Prop):(evF Tryz.prog (look XO) (lam []) false Tryz.f209 [.bool p,.dig [2] x,.dig [3] y,.num .i64 e] Q)=(((0:Int)≤0∧(0:Int)<(↑x.length:Int))∧((0:Int)≤0∧(0:Int)<(↑y.length:Int))∧bif !decide (u32.wrap (↑(A7 (32:Nat) (↑(x.getD (0:Nat) (0:Nat)):Int)&&&A7 (32:Nat) (1:Int)).toNat:Int)=u32.wrap (↑(A7 (32:Nat) (↑(y.getD (0:Nat) (0:Nat)):Int)&&&A7 (32:Nat) (1:Int)).toNat:Int)) then Q (.tup [.agg [.bool false,.dig [0] [],.num .i64 0],.num .i64 3]) else∀(l1:List Nat),l1=(H3 x (-1:Int)).mag→∀b2,b2=(H3 x (-1:Int)).lost→∀n3,n3=(H3 x (-1:Int)).err→∀(l4:List Nat),l4=(H3 y (-1:Int)).mag→∀b5,b5=(H3 y (-1:Int)).lost→∀n6,n6=(H3 y (-1:Int)).err→∀(l7:List Nat),l7=(PV l1 l4).fst→∀n8,n8=(PV l1 l4).snd→((0:Int)≤0∧(0:Int)<(↑x.length:Int))∧bif decide (u32.wrap (↑(A7 (32:Nat) (↑(x.getD (0:Nat) (0:Nat)):Int)&&&A7 (32:Nat) (1:Int)).toNat:Int)=1) then∀(l9:List Nat),l9=(PV l7 (dg (1:Nat))).fst→∀n10,n10=(PV l7 (dg (1:Nat))).snd→∀b11,b11=(N7 p l9 (i64.wrap (e+1))).1.neg→∀(l12:List Nat),l12=(N7 p l9 (i64.wrap (e+1))).1.mag→∀n13,n13=(N7 p l9 (i64.wrap (e+1))).1.exp→∀n14,n14=(N7 p l9 (i64.wrap (e+1))).snd→Q (.tup [.agg [.bool b11,.dig [0] l12,.num .i64 n13],.num .i64 n14]) else∀b15,b15=(N7 p l7 (i64.wrap (e+1))).1.neg→∀(l16:List Nat),l16=(N7 p l7 (i64.wrap (e+1))).1.mag→∀n17,n17=(N7 p l7 (i64.wrap (e+1))).1.exp→∀n18,n18=(N7 p l7 (i64.wrap (e+1))).snd→Q (.tup [.agg [.bool b15,.dig [0] l16,.num .i64 n17],.num .i64 n18])):=by kernel_rfl
theorem B12 (p:Bool) (q:Bool) (x:List Nat) (y:List Nat) (e:Int) (Q:AV→Prop):(evF Tryz.prog (look C4o) (lam []) false Tryz.f188 [.bool p,.dig [2] x,.bool q,.dig [4] y,.num .i64 e] Q)=(bif decide (p=q) then∀(l1:List Nat),l1=(PV x y).fst→∀n2,n2=(PV x y).snd→bif !decide (n2=0) then (may x=true∧may y=true∧inside e=true∧(4096:Nat)<(dg (val x+val y)).length)∧∀b3,b3=(I2 (form p (val x+val y) e)).1.neg→∀(l4:List Nat),l4=(I2 (form p (val x+val y) e)).1.mag→∀n5,n5=(I2 (form p (val x+val y) e)).1.exp→∀n6,n6=(I2 (form p (val x+val y) e)).snd→Q (.tup [.agg [.bool b3,.dig [0] l4,.num .i64 n5],.num .i64 n6]) else∀b7,b7=(N7 p l1 e).1.neg→∀(l8:List Nat),l8=(N7 p l1 e).1.mag→∀n9,n9=(N7 p l1 e).1.exp→∀n10,n10=(N7 p l1 e).snd→Q (.tup [.agg [.bool b7,.dig [0] l8,.num .i64 n9],.num .i64 n10]) else∀n11,n11=(YB x y).fst→∀n12,n12=(YB x y).snd→bif decide (n11<0) then∀(l13:List Nat),l13=(RU y x).fst→∀n14,n14=(RU y x).snd→∀b15,b15=(N7 q l13 e).1.neg→∀(l16:List Nat),l16=(N7 q l13 e).1.mag→∀n17,n17=(N7 q l13 e).1.exp→∀n18,n18=(N7 q l13 e).snd→Q (.tup [.agg [.bool b15,.dig [0] l16,.num .i64 n17],.num .i64 n18]) else∀(l19:List Nat),l19=(RU x y).fst→∀n20,n20=(RU x y).snd→∀b21,b21=(N7 p l19 e).1.neg→∀(l22:List Nat),l22=(N7 p l19 e).1.mag→∀n23,n23=(N7 p l19 e).1.exp→∀n24,n24=(N7 p l19 e).snd→Q (.tup [.agg [.bool b21,.dig [0] l22,.num .i64 n23],.num .i64 n24])):=by kernel_rfl
theorem B70 (s:Bool) (s':Bool) (m:List Nat) (m':List Nat) (e:Int) (e':Int) (Q:AV→Prop):(evF Tryz.prog (look D16) (lam []) false Tryz.f149 [.agg [.bool s,.dig [1] m,.num .i64 e],.agg [.bool s',.dig [2] m',.num .i64 e']] Q)=(bif decide ((↑m.length:Int)=0) then m'.length≤1048576∧∀b1,b1=s'→∀(l2:List Nat),l2=m'→∀n3,n3=e'→Q (.tup [.agg [.bool b1,.dig [0] l2,.num .i64 n3],.num .i64 0]) else bif decide ((↑m'.length:Int)=0) then m.length≤1048576∧∀b4,b4=s→∀(l5:List Nat),l5=m→∀n6,n6=e→Q (.tup [.agg [.bool b4,.dig [0] l5,.num .i64 n6],.num .i64 0]) else bif decide (e<e') then bif decide (i64.wrap (i64.wrap (e'-e)+(↑(F3 m'):Int))>131073) then Q (.tup [.agg [.bool false,.dig [0] [],.num .i64 0],.num .i64 3]) else bif decide (i64.wrap (i64.wrap (e'-e)+(↑(F3 m'):Int))>131072) then (A5 (mk s' m' e')=true∧A5 (mk s m e)=true∧m'≠[]∧m≠[]∧i64.wrap (e'-e)=e'-e∧(1:Int)≤i64.wrap (e'-e)∧i64.wrap (e'-e)+(↑(bl (val m')):Int)=131073)∧∀b7,b7=(I2 (C2 (mk s' m' e') (mk s m e))).1.neg→∀(l8:List Nat),l8=(I2 (C2 (mk s' m' e') (mk s m e))).1.mag→∀n9,n9=(I2 (C2 (mk s' m' e') (mk s m e))).1.exp→∀n10,n10=(I2 (C2 (mk s' m' e') (mk s m e))).snd→Q (.tup [.agg [.bool b7,.dig [0] l8,.num .i64 n9],.num .i64 n10]) else∀(l11:List Nat),l11=(H3 m' (i64.wrap (e'-e))).mag→∀b12,b12=(H3 m' (i64.wrap (e'-e))).lost→∀n13,n13=(H3 m' (i64.wrap (e'-e))).err→(may l11=true∧may m=true∧l11≠[]∧m≠[]∧inside e=true)∧∀b14,b14=(I2 (C8 ((mk s' l11 (0:Int)).int+(mk s m (0:Int)).int) e)).1.neg→∀(l15:List Nat),l15=(I2 (C8 ((mk s' l11 (0:Int)).int+(mk s m (0:Int)).int) e)).1.mag→∀n16,n16=(I2 (C8 ((mk s' l11 (0:Int)).int+(mk s m (0:Int)).int) e)).1.exp→∀n17,n17=(I2 (C8 ((mk s' l11 (0:Int)).int+(mk s m (0:Int)).int) e)).snd→Q (.tup [.agg [.bool b14,.dig [0] l15,.num .i64 n16],.num .i64 n17]) else bif decide (i64.wrap (i64.wrap (e-e')+(↑(F3 m):Int))>131073) then Q (.tup [.agg [.bool false,.dig [0] [],.num .i64 0],.num .i64 3]) else bif decide (i64.wrap (i64.wrap (e-e')+(↑(F3 m):Int))>131072) then (A5 (mk s m e)=true∧A5 (mk s' m' e')=true∧m≠[]∧m'≠[]∧i64.wrap (e-e')=e-e'∧(1:Int)≤i64.wrap (e-e')∧i64.wrap (e-e')+(↑(bl (val m)):Int)=131073)∧∀b18,b18=(I2 (C2 (mk s m e) (mk s' m' e'))).1.neg→∀(l19:List Nat),l19=(I2 (C2 (mk s m e) (mk s' m' e'))).1.mag→∀n20,n20=(I2 (C2 (mk s m e) (mk s' m' e'))).1.exp→∀n21,n21=(I2 (C2 (mk s m e) (mk s' m' e'))).snd→Q (.tup [.agg [.bool b18,.dig [0] l19,.num .i64 n20],.num .i64 n21]) else∀(l22:List Nat),l22=(H3 m (i64.wrap (e-e'))).mag→∀b23,b23=(H3 m (i64.wrap (e-e'))).lost→∀n24,n24=(H3 m (i64.wrap (e-e'))).err→(may l22=true∧may m'=true∧l22≠[]∧m'≠[]∧inside e'=true)∧∀b25,b25=(I2 (C8 ((mk s l22 (0:Int)).int+(mk s' m' (0:Int)).int) e')).1.neg→∀(l26:List Nat),l26=(I2 (C8 ((mk s l22 (0:Int)).int+(mk s' m' (0:Int)).int) e')).1.mag→∀n27,n27=(I2 (C8 ((mk s l22 (0:Int)).int+(mk s' m' (0:Int)).int) e')).1.exp→∀n28,n28=(I2 (C8 ((mk s l22 (0:Int)).int+(mk s' m' (0:Int)).int) e')).snd→Q (.tup [.agg [.bool b25,.dig [0] l26,.num .i64 n27],.num .i64 n28])):=by kernel_rfl
theorem B6r (s:Bool) (s':Bool) (m:List Nat) (m':List Nat) (e:Int) (e':Int) (Q:AV→Prop):(evF Tryz.prog (look C4p) (lam []) false Tryz.f77 [.agg [.bool s,.dig [1] m,.num .i64 e],.agg [.bool s',.dig [2] m',.num .i64 e']] Q)=(bif !(A5 (mk s m e)&&A5 (mk s' m' e')) then Q (.tup [.agg [.bool false,.dig [0] [],.num .i64 0],.num .i64 2]) else (A5 (mk s m e)=true∧A5 (mk s' m' e')=true)∧∀b1,b1=(I2 (C2 (mk s m e) (mk s' m' e'))).1.neg→∀(l2:List Nat),l2=(I2 (C2 (mk s m e) (mk s' m' e'))).1.mag→∀n3,n3=(I2 (C2 (mk s m e) (mk s' m' e'))).1.exp→∀n4,n4=(I2 (C2 (mk s m e) (mk s' m' e'))).snd→Q (.tup [.agg [.bool b1,.dig [0] l2,.num .i64 n3],.num .i64 n4])):=by kernel_rfl
theorem B6y (s:Bool) (s':Bool) (m:List Nat) (m':List Nat) (e:Int) (e':Int) (Q:AV→Prop):(evF Tryz.prog (look C4p) (lam []) false Tryz.f78 [.agg [.bool s,.dig [1] m,.num .i64 e],.agg [.bool s',.dig [2] m',.num .i64 e']] Q)=(bif !(A5 (mk s m e)&&A5 (mk s' m' e')) then Q (.tup [.agg [.bool false,.dig [0] [],.num .i64 0],.num .i64 2]) else m'.length≤1048576∧∀b1,b1=(!s'&&decide (m'≠[]))→∀(l2:List Nat),l2=m'→∀n3,n3=e'→(A5 (mk s m e)=true∧A5 (mk b1 l2 n3)=true)∧∀b4,b4=(I2 (C2 (mk s m e) (mk b1 l2 n3))).1.neg→∀(l5:List Nat),l5=(I2 (C2 (mk s m e) (mk b1 l2 n3))).1.mag→∀n6,n6=(I2 (C2 (mk s m e) (mk b1 l2 n3))).1.exp→∀n7,n7=(I2 (C2 (mk s m e) (mk b1 l2 n3))).snd→Q (.tup [.agg [.bool b4,.dig [0] l5,.num .i64 n6],.num .i64 n7])):=by kernel_rfl
theorem B6v (s:Bool) (s':Bool) (m:List Nat) (m':List Nat) (e:Int) (e':Int) (Q:AV→Prop):(evF Tryz.prog (look XO) (lam []) false Tryz.f178 [.agg [.bool s,.dig [1] m,.num .i64 e],.agg [.bool s',.dig [2] m',.num .i64 e']] Q)=(bif !(A5 (mk s m e)&&A5 (mk s' m' e')) then Q (.tup [.agg [.bool false,.dig [0] [],.num .i64 0],.num .i64 2]) else∀(l1:List Nat),l1=(mulR m m').fst→∀n2,n2=(mulR m m').snd→bif !decide (n2=0) then Q (.tup [.agg [.bool false,.dig [0] [],.num .i64 0],.num .i64 n2]) else∀b3,b3=(N7 (!s==s') l1 (i64.wrap (e+e'))).1.neg→∀(l4:List Nat),l4=(N7 (!s==s') l1 (i64.wrap (e+e'))).1.mag→∀n5,n5=(N7 (!s==s') l1 (i64.wrap (e+e'))).1.exp→∀n6,n6=(N7 (!s==s') l1 (i64.wrap (e+e'))).snd→Q (.tup [.agg [.bool b3,.dig [0] l4,.num .i64 n5],.num .i64 n6])):=by kernel_rfl
end Go.AI

namespace Go.AI
open Go Go.RowKit Go.Proofs
set_option linter.unusedVariables false
set_option maxRecDepth 100000
theorem C9u {cs r:List AV} (h:AV.oks (.agg cs::r)):AV.oks cs∧AV.oks r:=by simp only [AV.oks,AV.ok] at h ⊢;exact h
theorem PK {b:Bool} {r:List AV} (h:AV.oks (.bool b::r)):AV.oks r:=by simp only [AV.oks,AV.ok] at h ⊢;exact h.2
theorem A6o {s:Bool} {p m:List Nat} {e:Int} {r:List AV} (h:AV.oks (.agg [.bool s,.dig p m,.num .i64 e]::r)):Dy.okl m∧(-9223372036854775808≤e∧e<9223372036854775808)∧AV.oks r:=by
 obtain ⟨h1,h2⟩:=C9u h
 obtain ⟨h3,h4⟩:=E4 (PK h1)
 exact ⟨h3,range_i64 (J5 h4).1,h2⟩
theorem A8x {l:List Nat} (h:Dy.D1 l):IntKind.u32.wrap ((A7 32 ((l.getD 0 0:Nat):Int)&&&A7 32 1).toNat:Int)=((Dy.val l%2:Nat):Int):=by
 have:=Dy.E5 h 0
 rw [ZQ (by omega) (by omega) (by omega) (by omega)]
 rw [A2,show (1:Int).toNat=1 from rfl,Nat.and_one_is_mod,←Dy.val_mod h]
 have:Dy.val l%4294967296%2=Dy.val l%2:=by omega
 rw [this]
theorem A13 (args:List AV) (s:Spec) (h:A7t args=some s) (hp:C6 s.pre True):Contract Tryz.prog Inv 133 args s.res:=by
 unfold A7t at h
 split at h
 ·cases h
  rename_i e
  refine A4 false C4f Tryz.func133 (by kernel_rfl) (by kernel_rfl) fun hok=> ?_
  rw [A2v]
  unfold Dy.inside
  refine A8 (fun h=> ?_) (fun h=> ?_)
  ·have h:=A1 h
   simp only [h,true_and]
  ·have h:=A0 h
   simp only [h,false_and,decide_false]
 ·cases h
theorem A9x:G6 Tryz.prog Inv (look D3l):=A3 C4f A13
theorem B3p (args:List AV) (s:Spec) (h:D4g args=some s) (hp:C6 s.pre True):Contract Tryz.prog Inv 69 args s.res:=by
 unfold D4g at h
 split at h
 ·cases h
  rename_i s m e
  refine A4 false A9x Tryz.func69 (by kernel_rfl) (by kernel_rfl) fun hok=> ?_
  obtain ⟨hm,he, -⟩:=A6o hok
  rw [B6u,A8x hm.2]
  unfold Dy.A5
  refine A8 (fun h=> ?_) (fun h=>A8 (fun h1=>A8 (fun h2=> ?_) (fun h2=> ?_)) (fun h1=>⟨?_,A8 (fun h2=> ?_) (fun h2=> ?_)⟩))
  ·simp only [G0] at h
   simp only [h,Bool.false_and]
  ·simp only [F1] at h
   have h1:=G5.1 (P6.1 (A1 h1))
   subst h1
   simp only [h,if_true,h2,AT]
  ·simp only [F1] at h
   have h1:=G5.1 (P6.1 (A1 h1))
   subst h1
   simp only [h,if_true,h2,AT,Bool.false_and]
  ·have h1:=A0 h1
   omega
  ·simp only [F1] at h
   have h1:=A0 h1
   have h2:=A1 h2
   have h1':m≠[]:=fun e=>h1 (by rw [e];rfl)
   simp only [h,if_neg h1',AT]
   rw [decide_eq_true (by omega),AT]
  ·simp only [F1] at h
   have h1:=A0 h1
   have h2:=A0 h2
   have h1':m≠[]:=fun e=>h1 (by rw [e];rfl)
   simp only [h,if_neg h1',AT]
   rw [decide_eq_false (by omega),Bool.false_and]
 ·cases h
theorem B3x (args:List AV) (s:Spec) (h:D4j args=some s) (hp:C6 s.pre True):Contract Tryz.prog Inv 134 args s.res:=by
 unfold D4j at h
 split at h
 ·cases h
  rename_i s m e
  have hp:=hp.1
  refine A4 false A9x Tryz.func134 (by kernel_rfl) (by kernel_rfl) fun hok=> ?_
  rw [B72]
  exact ⟨by omega,rfl⟩
 ·cases h
theorem JX:G6 Tryz.prog Inv (look A2g):=A3 (A3 A9x B3p) B3x
theorem A9a (args:List AV) (s:Spec) (h:C7a args=some s) (hp:C6 s.pre True):Contract Tryz.prog Inv 148 args s.res:=by
 unfold C7a at h
 split at h
 ·cases h
  rename_i s m e s' m' e'
  refine E8 false _ (lam [(2,.unroll 3)]) JX Tryz.func148 (by kernel_rfl) rfl (EP (k:=3) (by kernel_rfl) (by kernel_rfl)) fun hok=> ?_
  rw [B10]
  refine ⟨by simp,A8 (fun h=> ?_) (fun h=>⟨by rw [wrap_i64 (by omega) (by omega)];simp,A8 (fun h'=> ?_) (fun h'=> ?_)⟩)⟩
  ·simp at h;rw [h];rfl
  ·simp at h h';rw [h,h'];rfl
  ·simp at h h';rw [h,h'];rfl
 ·cases h
theorem A97 (args:List AV) (s:Spec) (h:C7f args=some s) (hp:C6 s.pre True):Contract Tryz.prog Inv 125 args s.res:=by
 unfold C7f at h
 split at h
 ·cases h
  rename_i s m e
  refine A4 false JX Tryz.func125 (by kernel_rfl) (by kernel_rfl) fun hok=> ?_
  obtain ⟨hm,h5⟩:=E4 (PK hok)
  have he:=range_i64 (J5 h5).1
  rw [B0x]
  unfold Dy.N7
  refine A8 (fun h=> ?_) (fun h=> ?_)
  ·simp only [G0] at h
   rw [h];rfl
  ·simp only [F1] at h
   simp only [h,if_true]
   refine A8 (fun h1=> ?_) (fun h1=> ?_)
   ·have h1:=G5.1 (P6.1 (A1 h1))
    subst h1
    rfl
   ·have h1:=A0 h1
    have h1':m≠[]:=fun e=>h1 (by rw [e];rfl)
    have hv:=Dy.Q1 h h1'
    have hb:=Dy.O8 h
    have ht:=Dy.Z2 hv
    have hlow:Dy.RL m=Dy.tz (Dy.val m):=by unfold Dy.RL;rw [if_pos h]
    have hlen:(Dy.dg (Dy.val m/2^Dy.tz (Dy.val m))).length≤4096:=by
     rw [Dy.R0,Dy.C5];omega
    rw [hlow,wrap_i64 (by omega) (by omega),wrap_i64 (by omega) (by omega),wrap_i64 (by omega) (by omega),Dy.H6 hv]
    unfold Dy.I2
    simp only [if_pos hlen]
    have hz:∀c:Bool,Dy.inside (e+(Dy.tz (Dy.val m):Int))=c→(if Dy.inside (e+(Dy.tz (Dy.val m):Int))=true then ((⟨s,Dy.dg (Dy.val m/2^Dy.tz (Dy.val m)),e+(Dy.tz (Dy.val m):Int)⟩:Dy.Dyd),(0:Int)) else (Dy.L7,20))=if c=true then (⟨s,Dy.dg (Dy.val m/2^Dy.tz (Dy.val m)),e+(Dy.tz (Dy.val m):Int)⟩,0) else (Dy.L7,20):=fun c hc=>by rw [hc]
    refine A8 (fun h2=> ?_) (fun h2=>A8 (fun h3=> ?_) (fun h3=> ?_))
    ·have h2:=A1 h2
     rw [hz false (by rw [←OM,Dy.N5];omega)]
     rfl
    ·have h3:=A1 h3
     rw [hz false (by rw [←OM,Dy.N5];omega)]
     rfl
    ·have h2:=A0 h2
     have h3:=A0 h3
     rw [hz true (by rw [Dy.N5];omega)]
     rw [show (0:Int)-(Dy.tz (Dy.val m):Int)= -(Dy.tz (Dy.val m):Int) by omega,Dy.o4 h]
     rintro _ rfl _-_ -
     rw [wrap_i64 (by omega) (by omega)]
     rfl
 ·cases h
theorem A14 (args:List AV) (s:Spec) (h:A7u args=some s) (hp:C6 s.pre True):Contract Tryz.prog Inv 70 args s.res:=by
 unfold A7u at h
 split at h
 ·cases h
  rename_i s m e n
  have hp:=hp.1
  refine A4 false JX Tryz.func70 (by kernel_rfl) (by kernel_rfl) fun hok=> ?_
  rw [A2w]
  refine ⟨hp,?_⟩
  intro _ _ l2 hl n3 hn
  subst hl hn
  refine A8 (fun h=> ?_) (fun h=> ?_)
  ·subst h
   have:decide ((l2.length:Int)>0)=decide (l2≠[]):=by
    rw [decide_eq_decide]
    constructor
    ·intro h e;rw [e] at h;simp at h
    ·intro h;have:=X4.2 h;omega
   rw [this,AT]
  ·subst h
   rfl
 ·cases h
theorem A99 (args:List AV) (s:Spec) (h:C7h args=some s) (hp:C6 s.pre True):Contract Tryz.prog Inv 25 args s.res:=by
 unfold C7h at h
 split at h
 ·cases h
  rename_i s m e
  refine A4 false JX Tryz.func25 (by kernel_rfl) (by kernel_rfl) fun hok=> ?_
  rw [B0z]
  unfold Dy.F0
  refine A8 (fun h=> ?_) (fun h=>A8 (fun h1=> ?_) (fun h1=> ?_))
  ·simp only [G0] at h
   simp only [h,J7,if_false]
  ·simp only [F1] at h
   have h1:=G5.1 (P6.1 (A1 h1))
   subst h1
   simp only [h,if_true]
  ·simp only [F1] at h
   have h1:=A0 h1
   have h1':m≠[]:=fun e=>h1 (by rw [e];rfl)
   simp only [h,if_neg h1',if_true]
   cases s<;>rfl
 ·cases h
theorem B3u (args:List AV) (s:Spec) (h:D4m args=some s) (hp:C6 s.pre True):Contract Tryz.prog Inv 152 args s.res:=by
 unfold D4m at h
 split at h
 ·cases h
  rename_i s m e
  refine A4 false JX Tryz.func152 (by kernel_rfl) (by kernel_rfl) fun hok=> ?_
  rw [B6z]
  unfold Dy.C7
  refine A8 (fun h=> ?_) (fun h=>A8 (fun h1=> ?_) (fun h1=> ?_))
  ·simp only [G0] at h
   simp only [h,J7,if_false]
  ·simp only [F1] at h
   have h1:=G5.1 (P6.1 (A1 h1))
   subst h1
   simp only [h,if_true]
  ·simp only [F1] at h
   have h1:=A0 h1
   have h1':m≠[]:=fun e=>h1 (by rw [e];rfl)
   have:=Dy.J2 h
   have hb:=Dy.O8 (Dy.C1 h)
   simp only [h,if_neg h1',if_true,Dy.F3,if_pos (Dy.C1 h)]
   rw [wrap_i64 (by omega) (by omega)]
 ·cases h
theorem HB:G6 Tryz.prog Inv (look XO):=A3 (A3 (A3 (A3 (A3 JX B3u) A99) A14) A97) A9a
end Go.AI

namespace Go.AI
open Dy IntKind
open Go Go.RowKit Go.Proofs
set_option linter.unusedVariables false
set_option maxRecDepth 100000
set_option maxHeartbeats 0
theorem B11 (s:Bool) (s':Bool) (m:List Nat) (m':List Nat) (e:Int) (e':Int) (g:Int) (Q:AV→Prop):(evF Tryz.prog (look XO) (lam []) false Tryz.f187 [.agg [.bool s,.dig [1] m,.num .i64 e],.agg [.bool s',.dig [2] m',.num .i64 e'],.num .i64 g] Q)=(bif decide (s=s') then Q (.tup [.agg [.bool false,.dig [0] [],.num .i64 0],.num .i64 3]) else∀(l1:List Nat),l1=(H3 m (i64.wrap (g-1))).mag→∀b2,b2=(H3 m (i64.wrap (g-1))).lost→∀n3,n3=(H3 m (i64.wrap (g-1))).err→∀(l4:List Nat),l4=(H3 m' (-1:Int)).mag→∀b5,b5=(H3 m' (-1:Int)).lost→∀n6,n6=(H3 m' (-1:Int)).err→∀(l7:List Nat),l7=(RU l1 l4).fst→∀n8,n8=(RU l1 l4).snd→bif !decide (n8=0) then Q (.tup [.agg [.bool false,.dig [0] [],.num .i64 0],.num .i64 3]) else∀(l9:List Nat),l9=(PV l7 l7).fst→∀n10,n10=(PV l7 l7).snd→bif decide (n10=0) then∀(l11:List Nat),l11=(RU l9 (dg (1:Nat))).fst→∀n12,n12=(RU l9 (dg (1:Nat))).snd→∀b13,b13=(N7 s l11 e').1.neg→∀(l14:List Nat),l14=(N7 s l11 e').1.mag→∀n15,n15=(N7 s l11 e').1.exp→∀n16,n16=(N7 s l11 e').snd→Q (.tup [.agg [.bool b13,.dig [0] l14,.num .i64 n15],.num .i64 n16]) else bif decide ((↑(F3 l7):Int)=i64.wrap ((↑(RL l7):Int)+1)) then∀(l17:List Nat),l17=(RU l7 (dg (1:Nat))).fst→∀n18,n18=(RU l7 (dg (1:Nat))).snd→∀(l19:List Nat),l19=(PV l17 l7).fst→∀n20,n20=(PV l17 l7).snd→∀b21,b21=(N7 s l19 e').1.neg→∀(l22:List Nat),l22=(N7 s l19 e').1.mag→∀n23,n23=(N7 s l19 e').1.exp→∀n24,n24=(N7 s l19 e').snd→Q (.tup [.agg [.bool b21,.dig [0] l22,.num .i64 n23],.num .i64 n24]) else Q (.tup [.agg [.bool false,.dig [0] [],.num .i64 0],.num .i64 3])):=by kernel_rfl
end Go.AI

namespace Go.Dy
set_option maxRecDepth 100000
theorem B92 {x y:List Nat} (hx:may x=true) (hy:may y=true):bl (val x+val y)≤131073:=by
 have h1:=I8.1 (O8 hx)
 have h2:=I8.1 (O8 hy)
 have gen:∀K:Nat,val x<2^K→val y<2^K→bl (val x+val y)≤K+1:=fun K h1 h2=>I8.2 (by rw [I5];omega)
 exact gen _ h1 h2
theorem C44 {n:Nat} (h:bl n≤131073):bl (n/2)≤131072:=by
 have:=C5 n 1
 rw [MW] at this
 omega
theorem KL {a b:Nat} (h:a≤b) {k:Nat} (hb:bl b≤k):bl a≤k:=Nat.le_trans (K1 h) hb
theorem C7n {X H K:Nat} (hX:bl X=K+1) (hH:bl H≤K):H<X∧0<2*(X-H)∧X-H<2^(K+1)∧(K+1<bl (2*(X-H))→(bl (X-H)=tz (X-H)+1→X-H=2^K)∧(X-H≠2^K→K+1<bl (2*(X-H)-1)))∧
  (X-H=2^K→bl (X-H)=tz (X-H)+1∧bl (2*(X-H)-1)≤K+1):=by
 have h1:2^K≤X:=a9.1 (by omega)
 have h2:X<2^(K+1):=I8.1 (by omega)
 have h3:H<2^K:=I8.1 hH
 have h5:2^(K+1)=2^K*2:=I5 ..
 have h6:2^(K+1+1)=2^(K+1)*2:=I5 ..
 have hpos:=A9 K
 refine ⟨by omega,by omega,by omega,fun hb=>⟨fun ht=> ?_,fun hne=> ?_⟩,fun he=>⟨?_,?_⟩⟩
 ·have h7:2^(K+1)≤2*(X-H):=a9.1 hb
  have hS:X-H≠0:=by omega
  obtain ⟨q,hq⟩:=LX hS
  have hS1:2^K≤X-H:=by omega
  have hS2:X-H<2^(K+1):=by omega
  generalize X-H=S at*
  have h8:bl S=K+1:=B25 (by omega) (by omega)
  have hz:tz S=K:=by omega
  rw [hz] at hq
  by_cases c:q=0
  ·rw [c] at hq;omega
  ·exfalso
   have:2^K*2≤2^K*(2*q+1):=Nat.mul_le_mul_left _ (by omega)
   omega
 ·have h7:2^(K+1)≤2*(X-H):=a9.1 hb
  refine a9.2 ?_
  omega
 ·rw [he]
  have:=WO K 0
  rw [O3,N9,M0] at this
  rw [this]
  exact B25 (I6 _) (by omega)
 ·rw [he]
  exact I8.2 (by omega)
theorem B8m {a b:Nat}:U2 a b=if a<b then -1 else if b<a then 1 else 0:=by
 unfold U2;simp only [Int.ofNat_lt]
end Go.Dy
namespace Go.AI
open Go Go.RowKit Go.Proofs
set_option linter.unusedVariables false
set_option maxRecDepth 100000
theorem NP {s:Bool} {n:Nat} (h:n<18446744073709551616) (e:Int) (he: -16777100≤e∧e≤16777100):Dy.N7 s (Dy.dg n) e=(Dy.form s n e,0):=by
 have hb:Dy.bl n≤64:=Dy.I8.2 (by omega)
 rw [Dy.AO (by omega)]
 by_cases c:n=0
 ·subst c;rfl
 ·have ht:=Dy.Z2 c
  rw [Dy.H6 c]
  unfold Dy.I2
  have hl:(Dy.dg (n/2^Dy.tz n)).length≤4096:=by rw [Dy.R0,Dy.C5];omega
  simp only [if_pos hl]
  rw [if_pos (by rw [Dy.N5];omega)]
theorem B3r (args:List AV) (s:Spec) (h:D4i args=some s) (hp:C6 s.pre True):Contract Tryz.prog Inv 150 args s.res:=by
 unfold D4i at h
 split at h
 ·cases h
  rename_i s m e
  refine A4 false HB Tryz.func150 (by kernel_rfl) (by kernel_rfl) fun hok=> ?_
  rw [B6w]
  unfold Dy.TM
  refine A8 (fun h=> ?_) (fun h=> ?_)
  ·simp only [G0] at h
   rw [h];rfl
  ·simp only [F1] at h
   have:=Dy.J4 (Dy.C1 h)
   refine ⟨by omega,?_⟩
   rintro _ rfl _ rfl _ rfl
   rw [h];rfl
 ·cases h
theorem B3l (args:List AV) (s:Spec) (h:D4b args=some s) (hp:C6 s.pre True):Contract Tryz.prog Inv 26 args s.res:=by
 unfold D4b at h
 split at h
 ·cases h
  rename_i s m e
  refine A4 false HB Tryz.func26 (by kernel_rfl) (by kernel_rfl) fun hok=> ?_
  rw [B6q]
  unfold Dy.TM
  refine A8 (fun h=> ?_) (fun h=> ?_)
  ·simp only [G0] at h
   rw [h];rfl
  ·simp only [F1] at h
   have:=Dy.J4 (Dy.C1 h)
   refine ⟨by omega,?_⟩
   rintro _ rfl _ rfl _ rfl
   rw [h];rfl
 ·cases h
theorem A41 (args:List AV) (s:Spec) (h:B8q args=some s) (hp:C6 s.pre True):Contract Tryz.prog Inv 203 args s.res:=by
 unfold B8q at h
 split at h
 ·cases h
  rename_i s m e s' m' e'
  obtain ⟨⟨hd,hd',hnn⟩, -⟩:=hp
  refine A4 false HB Tryz.func203 (by kernel_rfl) (by kernel_rfl) fun hok=> ?_
  have hm:=Dy.C1 hd
  have hm':=Dy.C1 hd'
  have b1:=Dy.O8 hm
  have b2:=Dy.O8 hm'
  have x1:=Dy.J2 hd
  have x2:=Dy.J2 hd'
  rw [A56,if_pos hd,if_pos hd']
  have l1:Dy.F3 m=Dy.bl (Dy.val m):=by unfold Dy.F3;rw [if_pos hm]
  have l2:Dy.F3 m'=Dy.bl (Dy.val m'):=by unfold Dy.F3;rw [if_pos hm']
  rw [l1,l2,wrap_i64 (n:=(Dy.bl (Dy.val m):Int)-_) (by omega) (by omega),wrap_i64 (by omega) (by omega)]
  by_cases c:m=[]
  ·have c':=hnn.1 c
   subst c c'
   refine B1 rfl (B1 rfl (B1 rfl ?_))
   rintro _ rfl _-_-_ rfl _ -
   rw [show (0:Int)-((Dy.bl (Dy.val []):Int)-(Dy.bl (Dy.val []):Int))= -((0:Nat):Int) by omega,Dy.o4 hm]
   simp [Dy.val,Dy.O0,Dy.U2]
   rfl
  ·have c':m'≠[]:=fun e=>c (hnn.2 e)
   have v1:=Dy.Q1 hm c
   have v2:=Dy.Q1 hm' c'
   unfold Dy.C7
   simp only [if_neg c,if_neg c']
   have k1:=Dy.E7 v1 (e-min e e').toNat
   have k2:=Dy.E7 v2 (e'-min e e').toNat
   rw [Dy.B8m]
   refine A8 (fun h=> ?_) (fun h=>A8 (fun h1=> ?_) (fun h1=>A8 (fun h2=> ?_) (fun h2=> ?_)))
   ·have h:=A1 h
    rw [if_pos (Dy.C3x (by omega))]
   ·have h1:=A1 h1
    have:=Dy.C3x (a:=Dy.val m'*2^(e'-min e e').toNat) (b:=Dy.val m*2^(e-min e e').toNat) (by omega)
    rw [if_neg (by omega),if_pos this]
   ·have h:=A0 h
    have h1:=A0 h1
    have h2:=A1 h2
    obtain ⟨n,hn⟩:∃n:Nat,(Dy.bl (Dy.val m):Int)-(Dy.bl (Dy.val m'):Int)=n:=⟨((Dy.bl (Dy.val m):Int)-(Dy.bl (Dy.val m'):Int)).toNat,by omega⟩
    rw [hn,Dy.CK hm' n (by omega)]
    rintro _ rfl _-_-_ rfl _ -
    have hmay:Dy.may (Dy.dg (Dy.val m'*2^n))=true:=Dy.T9.2 (Dy.R0.2 (by rw [Dy.E7 v2];omega))
    unfold Dy.YB
    rw [hm,hmay,Dy.E3]
    rw [show (e-min e e').toNat=0 by omega,show (e'-min e e').toNat=n by omega,AY,M0]
    rfl
   ·have h:=A0 h
    have h1:=A0 h1
    have h2:=A0 h2
    obtain ⟨n,hn⟩:∃n:Nat,(0:Int)-((Dy.bl (Dy.val m):Int)-(Dy.bl (Dy.val m'):Int))=n:=⟨((Dy.bl (Dy.val m'):Int)-(Dy.bl (Dy.val m):Int)).toNat,by omega⟩
    rw [hn,Dy.CK hm n (by omega)]
    rintro _ rfl _-_-_ rfl _ -
    have hmay:Dy.may (Dy.dg (Dy.val m*2^n))=true:=Dy.T9.2 (Dy.R0.2 (by rw [Dy.E7 v1];omega))
    unfold Dy.YB
    rw [hm',hmay,Dy.E3]
    rw [show (e'-min e e').toNat=0 by omega,show (e-min e e').toNat=n by omega,AY,M0]
    rfl
 ·cases h
end Go.AI

namespace Go.AI
open Go Go.RowKit Go.Proofs
set_option linter.unusedVariables false
set_option maxRecDepth 100000
theorem A12 (args:List AV) (s:Spec) (h:A7s args=some s) (hp:C6 s.pre True):Contract Tryz.prog Inv 209 args s.res:=by
 unfold A7s at h
 split at h
 ·cases h
  rename_i p x y e
  obtain ⟨⟨hx,hy,he,hl⟩, -⟩:=hp
  refine A4 false HB Tryz.func209 (by kernel_rfl) (by kernel_rfl) fun hok=> ?_
  obtain ⟨ox,h5⟩:=E4 (PK hok)
  obtain ⟨oy, -⟩:=E4 h5
  have he:=Dy.N5.1 he
  have b1:=Dy.O8 hx
  have b2:=Dy.O8 hy
  have hbig:131072<Dy.bl (Dy.val x+Dy.val y):=by
   have:=mt (Dy.R0 (n:=Dy.val x+Dy.val y)).2 (by omega)
   omega
  have b3:=Dy.B92 hx hy
  have nx:x≠[]:=fun e=>by subst e;simp only [Dy.val,N9] at hbig;omega
  have ny:y≠[]:=fun e=>by subst e;simp only [Dy.val,I4] at hbig;omega
  have lx:=X4.2 nx
  have ly:=X4.2 ny
  rw [A2u,A8x ox.2,A8x oy.2,wrap_i64 (by omega) (by omega)]
  refine ⟨by omega,by omega,A8 (fun h=> ?_) (fun h=> ?_)⟩
  ·simp only [G0,decide_eq_false_iff_not] at h
   rw [Dy.CE (by omega) hbig]
   rfl
  ·simp only [F1,decide_eq_true_eq] at h
   rw [show (-1:Int)= -((1:Nat):Int) from rfl,Dy.o4 hx,Dy.o4 hy,MW]
   intro l1 e1 _ _ _ _ l4 e4 _ _ _ _ l7 e7 _ _
   have hhx:Dy.bl (Dy.val x/2)≤131072:=Dy.KL (L1 _ _) b1
   have hhy:Dy.bl (Dy.val y/2)≤131072:=Dy.KL (L1 _ _) b2
   have hs:Dy.bl (Dy.val x/2+Dy.val y/2)≤131072:=Dy.KL (by omega) (Dy.C44 b3)
   have m1:Dy.may l1=true:=by rw [e1];exact Dy.T9.2 (Dy.R0.2 hhx)
   have m4:Dy.may l4=true:=by rw [e4];exact Dy.T9.2 (Dy.R0.2 hhy)
   have e7':l7=Dy.dg (Dy.val x/2+Dy.val y/2):=by
    rw [e7,Dy.SA m1 m4,e1,e4,Dy.E3,Dy.E3]
    simp only [if_pos hs]
   have m7:Dy.may l7=true:=by rw [e7'];exact Dy.T9.2 (Dy.R0.2 hs)
   refine ⟨by omega,A8 (fun h1=> ?_) (fun h1=> ?_)⟩
   ·have h1:=A1 h1
    have mo:Dy.may (Dy.dg 1)=true:=Dy.T9.2 (Dy.R0.2 (by decide))
    have hs2:Dy.bl (Dy.val x/2+Dy.val y/2+1)≤131072:=Dy.KL (by omega) (Dy.C44 b3)
    intro l9 e9 _ _
    have e9':l9=Dy.dg (Dy.val x/2+Dy.val y/2+1):=by
     rw [e9,Dy.SA m7 mo,e7',Dy.E3,Dy.E3]
     simp only [if_pos hs2]
    have:Dy.val x+Dy.val y=2*(Dy.val x/2+Dy.val y/2+1):=by omega
    rw [e9',Dy.AO hs2,this,Dy.B2m]
    rintro _ rfl _ rfl _ rfl _ rfl
    rfl
   ·have h1:=A0 h1
    have:Dy.val x+Dy.val y=2*(Dy.val x/2+Dy.val y/2):=by omega
    rw [e7',Dy.AO hs,this,Dy.B2m]
    rintro _ rfl _ rfl _ rfl _ rfl
    rfl
 ·cases h
theorem A9b (args:List AV) (s:Spec) (h:C7c args=some s) (hp:C6 s.pre True):Contract Tryz.prog Inv 187 args s.res:=by
 unfold C7c at h
 split at h
 ·cases h
  rename_i s m e s' m' e' g
  obtain ⟨⟨hd,hd',hm,hm',hg,hg1,hgb⟩, -⟩:=hp
  refine A4 false HB Tryz.func187 (by kernel_rfl) (by kernel_rfl) fun hok=> ?_
  have may1:=Dy.C1 hd
  have may2:=Dy.C1 hd'
  have b1:=Dy.O8 may1
  have b2:=Dy.O8 may2
  have odd:=Dy.FB hd' hm'
  have v1:=Dy.Q1 may1 hm
  obtain ⟨g,rfl⟩:=C4 (show 0≤g by omega)
  have hX:Dy.bl (Dy.val m*2^(g-1))=131072:=by rw [Dy.E7 v1];omega
  have hA:Dy.val m*2^g=2*(Dy.val m*2^(g-1)):=by
   rw [←B9,B6 2,B9,←Nat.pow_succ']
   congr 2;omega
  have hH:Dy.bl (Dy.val m'/2)≤131071:=by
   have:=Dy.C5 (Dy.val m') 1
   rw [MW] at this
   omega
  rw [Dy.RY (by omega),show (e-e').toNat=g by omega,B11,wrap_i64 (by omega) (by omega),show (g:Int)-1=((g-1:Nat):Int) by omega,
   Dy.CK may1 (g-1) (by omega),show (-1:Int)= -((1:Nat):Int) from rfl,Dy.o4 may2,MW,hA]
  have hM:Dy.val m'=2*(Dy.val m'/2)+1:=by omega
  generalize Dy.val m*2^(g-1)=X at*
  generalize Dy.val m'/2=H at*
  refine A8 (fun h=> ?_) (fun h=> ?_)
  ·have h:=A1 h
   subst h
   rw [Dy.GD,Dy.S1]
   have hb:131072<Dy.bl (2*X+Dy.val m'):=by
    have:Dy.bl (2*X)=131073:=by
     have:=Dy.E7 (n:=X) (fun e=>by subst e;simp [Dy.K2] at hX) 1
     rw [MW,B6] at this
     omega
    have:=Dy.K1 (show 2*X≤2*X+Dy.val m' by omega)
    omega
   rw [Dy.CE (by omega) hb]
   rfl
  ·have h:=A0 h
   obtain ⟨k1,k2,k3,k4,k5⟩:=Dy.C7n (K:=131071) hX hH
   clear k3
   have hHb:Dy.bl H≤131072:=by omega
   have mX:Dy.may (Dy.dg X)=true:=Dy.T9.2 (Dy.R0.2 (by omega))
   have mH:Dy.may (Dy.dg H)=true:=Dy.T9.2 (Dy.R0.2 hHb)
   have mo:Dy.may (Dy.dg 1)=true:=Dy.T9.2 (Dy.R0.2 (by decide))
   have hD:Dy.sgn s (2*X)+Dy.sgn s' (Dy.val m')=Dy.sgn s (2*(X-H)-1):=by
    rw [Dy.UJ h (by omega)]
    congr 1
    omega
   rw [hD,Dy.S1]
   intro l1 e1 _ _ _ _ l4 e4 _ _ _ _ l7 e7 n8 e8
   rw [e1,e4,Dy.UP mX mH,Dy.E3,Dy.E3,if_neg (by omega)] at e7 e8
   simp only at e7 e8
   subst e7 e8
   refine B1 (by simp) ?_
   have bS:Dy.bl (X-H)≤131072:=Dy.KL (b:=X) (by omega) (by omega)
   generalize X-H=S at*
   have mS:Dy.may (Dy.dg S)=true:=Dy.T9.2 (Dy.R0.2 bS)
   rw [Dy.SA mS mS,Dy.E3,show S+S=2*S by omega]
   intro l9 e9 n10 e10
   by_cases c:Dy.bl (2*S)≤131072
   ·simp only [if_pos c] at e9 e10
    subst e9 e10
    refine B5 (by simp) ?_
    rw [Dy.UP (Dy.T9.2 (Dy.R0.2 c)) mo,Dy.E3,Dy.E3,if_neg (by omega)]
    rintro _ rfl _ -
    rw [Dy.AO (Dy.KL (by omega) c)]
    rintro _ rfl _ rfl _ rfl _ rfl
    rfl
   ·simp only [if_neg c] at e9 e10
    subst e9 e10
    obtain ⟨k6,k7⟩:=k4 (by omega)
    have l1:Dy.F3 (Dy.dg S)=Dy.bl S:=by unfold Dy.F3;rw [if_pos mS,Dy.E3]
    have l2:Dy.RL (Dy.dg S)=Dy.tz S:=by unfold Dy.RL;rw [if_pos mS,Dy.E3]
    have hlt:=Dy.Z2 (n:=S) (by omega)
    rw [l1,l2,wrap_i64 (by omega) (by omega)]
    refine B1 (by simp) (A8 (fun h1=> ?_) (fun h1=> ?_))
    ·have h1:=A1 h1
     obtain ⟨-,k8⟩:=k5 (k6 (by omega))
     rw [Dy.UP mS mo,Dy.E3,Dy.E3,if_neg (by omega)]
     rintro _ rfl _ -
     have mS1:Dy.may (Dy.dg (S-1))=true:=Dy.T9.2 (Dy.R0.2 (Dy.KL (by omega) bS))
     rw [Dy.SA mS1 mS,Dy.E3,Dy.E3,show S-1+S=2*S-1 by omega]
     simp only [if_pos (show Dy.bl (2*S-1)≤131072 by omega)]
     rintro _ rfl _ -
     rw [Dy.AO (by omega)]
     rintro _ rfl _ rfl _ rfl _ rfl
     rfl
    ·have h1:=A0 h1
     have hne:∀P:Nat,(S=P→Dy.bl S=Dy.tz S+1∧Dy.bl (2*S-1)≤131071+1)→(S≠P→131071+1<Dy.bl (2*S-1))→131072<Dy.bl (2*S-1):=by
      intro P q1 q2
      by_cases q:S=P
      ·have:=(q1 q).1
       omega
      ·exact q2 q
     rw [Dy.CE (by omega) (hne _ k5 k7)]
     rfl
 ·cases h
theorem B3q (args:List AV) (s:Spec) (h:D4h args=some s) (hp:C6 s.pre True):Contract Tryz.prog Inv 178 args s.res:=by
 unfold D4h at h
 split at h
 ·cases h
  rename_i s m e s' m' e'
  refine A4 false HB Tryz.func178 (by kernel_rfl) (by kernel_rfl) fun hok=> ?_
  rw [B6v]
  unfold Dy.O4
  refine A8 (fun h=> ?_) (fun h=> ?_)
  ·simp only [G0] at h
   rw [h];rfl
  ·simp only [F1] at h
   obtain ⟨hd,hd'⟩:=Bool.and_eq_true_iff.1 h
   have may1:=Dy.C1 hd
   have may2:=Dy.C1 hd'
   have x1:=Dy.J2 hd
   have x2:=Dy.J2 hd'
   rw [h,if_pos rfl,Dy.D32 may1 may2,wrap_i64 (by omega) (by omega)]
   intro l1 e1 n2 e2
   unfold Dy.E6
   simp only
   by_cases c:Dy.bl (Dy.val m*Dy.val m')≤131072
   ·simp only [if_pos c] at e1 e2
    subst e1 e2
    refine B1 (by simp) ?_
    rw [Dy.AO c]
    rintro _ rfl _ rfl _ rfl _ rfl
    rfl
   ·simp only [if_neg c] at e1 e2
    subst e1 e2
    refine B5 (by simp) ?_
    have n1:m≠[]:=fun e=>c (by rw [e];simp only [Dy.val,R2];decide)
    have n2:m'≠[]:=fun e=>c (by rw [e];simp only [Dy.val,O3];decide)
    rw [Dy.CE (Dy.D34 (Dy.FB hd n1) (Dy.FB hd' n2)) (by omega)]
    rfl
 ·cases h
end Go.AI
