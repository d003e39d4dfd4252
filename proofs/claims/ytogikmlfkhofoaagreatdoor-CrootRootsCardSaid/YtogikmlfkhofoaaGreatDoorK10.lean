/- My texts AIhand4, AIlong, AIspecQ, AVquo, AIquo, AIspecE, AVrefq, AIrefq, AIspecF, in one. -/
import Derived.Test.YtogikmlfkhofoaaGreatDoorK9
open BitVec renaming ofInt→A7
open Int renaming natCast_ediv→ON,natCast_emod→OO,tdiv_eq_ediv_of_nonneg→N8,tmod_eq_emod_of_nonneg→Q9,toNat_natCast→A2
open List renaming append_assoc→U8,getD_eq_getElem?_getD→D7,getElem?_eq_none→M1,length_pos_iff→X4,length_replicate→U0,length_take→R8,replicate→B2
open Nat renaming add_comm→FW,add_mul→H2,add_mul_div_left→AL,add_mul_mod_self_left→DV,add_zero→I4,div_add_mod→Q6,div_eq_of_lt→L9,div_le_self→L1,div_lt_iff_lt_mul→H0,eq_zero_or_pos→j9,le_div_iff_mul_le→K8,le_of_lt→HX,le_refl→I6,le_trans→D9,lt_of_le_of_lt→L8,lt_of_lt_of_le→G7,lt_or_ge→L4,min_eq_left→J1,mod_eq_of_lt→F9,mod_lt→R5,mul_add→D0,mul_assoc→B9,mul_comm→B6,mul_div_cancel→KI,mul_le_mul→I7,mul_le_mul_left→F2,mul_le_mul_right→C0,mul_left_comm→M9,mul_mod_mul_right→DW,mul_mul_mul_comm→F7,mul_one→M0,mul_zero→O3,one_mul→Q2,pos_iff_ne_zero→R6,pow_add→B8,pow_le_pow_right→B3,pow_lt_pow_right→N4,pow_succ→I5,pow_zero→AY,two_pow_pos→A9,zero_add→N9,zero_le→MX,zero_mul→R2
namespace Go.Dy
theorem C5l {L v:List Nat} {lo m:Nat} (hL:D1 L) (hv:D1 v) (hm:v.length=m+2) (hlo:lo+(v.length+1)≤L.length) (hv1:2147483648≤v.getD (m+1) 0) (hU:N3 L lo (v.length+1)<4294967296*val v):
  N3 L lo (v.length+1)/val v≤(gl (v.getD (m+1) 0) (v.getD m 0) (L.getD (lo+m) 0) ((L.getD (lo+(m+2)) 0*4294967296+L.getD (lo+(m+1)) 0)/v.getD (m+1) 0) ((L.getD (lo+(m+2)) 0*4294967296+L.getD (lo+(m+1)) 0)/v.getD (m+1) 0) ((L.getD (lo+(m+2)) 0*4294967296+L.getD (lo+(m+1)) 0)%v.getD (m+1) 0)).1∧
  (gl (v.getD (m+1) 0) (v.getD m 0) (L.getD (lo+m) 0) ((L.getD (lo+(m+2)) 0*4294967296+L.getD (lo+(m+1)) 0)/v.getD (m+1) 0) ((L.getD (lo+(m+2)) 0*4294967296+L.getD (lo+(m+1)) 0)/v.getD (m+1) 0) ((L.getD (lo+(m+2)) 0*4294967296+L.getD (lo+(m+1)) 0)%v.getD (m+1) 0)).1≤N3 L lo (v.length+1)/val v+1∧
  (gl (v.getD (m+1) 0) (v.getD m 0) (L.getD (lo+m) 0) ((L.getD (lo+(m+2)) 0*4294967296+L.getD (lo+(m+1)) 0)/v.getD (m+1) 0) ((L.getD (lo+(m+2)) 0*4294967296+L.getD (lo+(m+1)) 0)/v.getD (m+1) 0) ((L.getD (lo+(m+2)) 0*4294967296+L.getD (lo+(m+1)) 0)%v.getD (m+1) 0)).1<4294967296:=by
 have hV:=D1w hm
 have hW:N3 L lo (v.length+1)=((L.getD (lo+(m+2)) 0*4294967296+L.getD (lo+(m+1)) 0)*4294967296+L.getD (lo+m) 0)*2^(32*m)+N3 L lo m:=by rw [hm];exact D2a (by omega)
 have hvr:val (v.take m)<2^(32*m):=by
  have:=I0 (Q7 hv m)
  rw [R8,J1 (by omega)] at this
  exact this
 have hur:=B20 hL lo m
 have hv2:=E5 hv m
 have hv1':=E5 hv (m+1)
 have hu0:=E5 hL (lo+(m+2))
 have hu1:=E5 hL (lo+(m+1))
 have hu2:=E5 hL (lo+m)
 generalize N3 L lo (v.length+1)=U at hU hW ⊢
 generalize val v=V at hU hV ⊢
 generalize val (v.take m)=vr at hV hvr
 generalize N3 L lo m=ur at hW hur
 generalize v.getD (m+1) 0=v1 at*
 generalize v.getD m 0=v2 at*
 generalize L.getD (lo+(m+2)) 0=u0 at*
 generalize L.getD (lo+(m+1)) 0=u1 at*
 generalize L.getD (lo+m) 0=u2 at*
 generalize 2^(32*m)=r at*
 have hr:0<r:=by omega
 have hu0v:u0≤v1:=by
  rcases L4 v1 u0 with c|c
  ·exfalso
   have h1:(v1*4294967296+v2+1)≤u0*4294967296:=by omega
   have h2:=C0 r h1
   have h3:V<(v1*4294967296+v2+1)*r:=by rw [H2 _ 1,Q2];omega
   have h4:4294967296*V≤4294967296*(u0*4294967296*r):=F2 _ (by omega)
   have h5:4294967296*(u0*4294967296*r)≤U:=by
    have h6:4294967296*(u0*4294967296)≤(u0*4294967296+u1)*4294967296+u2:=by omega
    have h7:=C0 r h6
    rw [←B9]
    omega
   omega
  ·exact c
 have htop:u0*4294967296+u1<v1*4294967296+4294967296:=by omega
 have hV0:0<V:=by
  have:0<(v1*4294967296+v2)*r:=Nat.mul_pos (by omega) hr
  omega
 refine C7v hV hvr hW hur (by omega) hv2 hu2 htop hU (by have:=Q6 (u0*4294967296+u1) v1;rw [B6] at this;exact this) ?_
 rw [K8 (by omega)]
 have hq:=Nat.div_mul_le_self U V
 have h1:U/V*((v1*4294967296)*r)≤U/V*V:=F2 _ (by
  have:v1*4294967296*r≤(v1*4294967296+v2)*r:=C0 _ (by omega)
  omega)
 have h2:U<(u0*4294967296+u1+1)*(4294967296*r):=by
  have h3:((u0*4294967296+u1)*4294967296+u2+1)≤(u0*4294967296+u1+1)*4294967296:=by omega
  have h4:=C0 r h3
  rw [H2 _ 1,Q2] at h4
  rw [←B9]
  omega
 have h5:U/V*v1*(4294967296*r)<(u0*4294967296+u1+1)*(4294967296*r):=by
  have:U/V*v1*(4294967296*r)=U/V*(v1*4294967296*r):=by simp only [B9]
  omega
 have:=Nat.lt_of_mul_lt_mul_right h5
 omega
end Go.Dy
namespace Go.AI
open Go Go.RowKit Go.Proofs
set_option linter.unusedVariables false
set_option maxRecDepth 100000
theorem D39 (args:List AV) (s:Spec) (h:D0w args=some s) (hp:C6 s.pre True):Contract Tryz.prog Inv 217 args s.res:=by
 unfold D0w at h
 split at h
 ·cases h
  rename_i L lo len v
  obtain ⟨⟨h0,hL,hv2,rfl,hlo,hv1,hU⟩, -⟩:=hp
  refine JR (t:=YK) 160 BU DA Tryz.func217 (by kernel_rfl) rfl h0 (D4z (by kernel_rfl) (by kernel_rfl) B31 (by kernel_rfl) B32 (by kernel_rfl) B33) rfl fun hok _ hoks g cap=> ?_
  have hdL:=(Dy.C0x hok).2
  have hdv:=(E4 hoks).1.2
  obtain ⟨m,hm⟩:∃m,v.length=m+2:=⟨v.length-2,by omega⟩
  have em1:v.length-1=m+1:=by omega
  have em2:v.length-2=m:=by omega
  rw [em1] at hv1
  obtain ⟨G1,G2,G3⟩:=Dy.C5l hdL hdv hm hlo hv1 hU
  have hu0:=Dy.E5 hdL (lo+(m+2))
  have hu1:=Dy.E5 hdL (lo+(m+1))
  have hv1':=Dy.E5 hdv (m+1)
  rw [D3s]
  have w1:IntKind.i64.wrap ((v.length:Int)-1)=((m+1:Nat):Int):=by rw [wrap_i64 (by omega) (by omega)];omega
  have w3:IntKind.u64.wrap ((v.getD (m+1) 0:Nat):Int)=((v.getD (m+1) 0:Nat):Int):=by rw [wrap_u64];omega
  rw [w1]
  simp only [A2]
  rw [hm] at hlo hU G1 G2 ⊢
  have w0:IntKind.u64.wrap ((L.getD (lo+(m+2)) 0:Nat):Int)=((L.getD (lo+(m+2)) 0:Nat):Int):=by rw [wrap_u64];omega
  rw [w0,C60 hu0 hu1,w3]
  generalize htop:L.getD (lo+(m+2)) 0*4294967296+L.getD (lo+(m+1)) 0=top at*
  have hv0:0<v.getD (m+1) 0:=by omega
  have hq:IntKind.u64.wrap (((top:Nat):Int).tdiv ((v.getD (m+1) 0:Nat):Int))=((top/v.getD (m+1) 0:Nat):Int):=by
   have h1:=L1 top (v.getD (m+1) 0)
   rw [N8 (by omega),←ON,wrap_u64]
   generalize top/v.getD (m+1) 0=qq at h1 ⊢
   clear G1 G2 G3
   omega
  have hr:((top:Nat):Int).tmod ((v.getD (m+1) 0:Nat):Int)=((top%v.getD (m+1) 0:Nat):Int):=by
   rw [Q9 (by omega),←OO]
  have hrl:=R5 top hv0
  have hqb:=L1 top (v.getD (m+1) 0)
  rw [hq,hr]
  clear hq hr
  generalize top/v.getD (m+1) 0=qq at*
  generalize top%v.getD (m+1) 0=rr at*
  refine ⟨by omega,by omega,by omega,by omega,by omega,by omega,by omega,by omega,?_⟩
  intro l1 h1 l2 h2 n3 h3 n4 h4 n5 h5
  have h1:=h1.symm;have h2:=h2.symm
  subst h1 h2 h3 h4 h5
  refine ⟨⟨hL,hdL,hdv,by rw [hm],by omega,by rw [hm],hlo,by omega,by omega,by omega,by omega⟩,?_⟩
  rw [A2,A2]
  rw [hm,show m+2-1=m+1 from rfl,show m+2-2=m from rfl]
  generalize hgl:(Dy.gl (v.getD (m+1) 0) (v.getD m 0) (L.getD (lo+m) 0) qq qq rr).1=G at*
  generalize (Dy.gl (v.getD (m+1) 0) (v.getD m 0) (L.getD (lo+m) 0) qq qq rr).2=M at*
  intro l6 h6 l7 h7 n8 h8 n9 h9 n10 h10
  have h6:=h6.symm;have h7:=h7.symm
  subst h6 h7 h8 h9 h10
  intro l11 h11 l12 h12 n13 h13 n14 h14 n15 h15 n16 h16 l17 h17 n18 h18 n19 h19
  have h11:=h11.symm;have h12:=h12.symm;have h17:=h17.symm
  subst h11 h12 h13 h14 h15 h16 h17 h18 h19
  refine ⟨⟨rfl,rfl,rfl,rfl,rfl,by omega,by omega,hdv,hdL,by rw [hm],hlo,hL⟩,?_⟩
  rw [A2]
  rw [hm]
  have hV:=Dy.I0 hdv
  rw [hm] at hV
  have hW:=Dy.B20 hdL lo (m+2)
  have hwin:=Dy.EM (L:=L) (lo:=lo) (n:=m+2) (by omega)
  have ht:=Dy.E5 hdL (lo+(m+2))
  have hVpos:0<Dy.val v:=by
   rcases j9 (Dy.val v) with e|e
   ·rw [e] at hU;omega
   ·exact e
  have hp0:=A9 (32*(m+2))
  have hps:=Dy.J6 (m+2)
  generalize hpp:2^(32*(m+2))=p at*
  have hPp:G*Dy.val v/p<4294967296:=by
   rw [H0 hp0]
   exact Nat.mul_lt_mul'' G3 hV
  have hdm:=Q6 (Dy.N3 L lo (m+2+1)) (Dy.val v)
  have hml:=R5 (Dy.N3 L lo (m+2+1)) hVpos
  have hqlt:∀g,Dy.N3 L lo (m+2+1)<g*Dy.val v→Dy.N3 L lo (m+2+1)/Dy.val v<g:=fun g h=>(H0 hVpos).2 h
  have hqle:∀g,g*Dy.val v≤Dy.N3 L lo (m+2+1)→g≤Dy.N3 L lo (m+2+1)/Dy.val v:=fun g h=>(K8 hVpos).2 h
  generalize Dy.N3 L lo (m+2+1)/Dy.val v=q at*
  generalize Dy.N3 L lo (m+2+1)%Dy.val v=r at*
  have hW1:Dy.N3 L lo (m+2)+p*(if Dy.N3 L lo (m+2)<G*Dy.val v%p then 1 else 0)-G*Dy.val v%p<p:=by
   have:=R5 (G*Dy.val v) hp0
   split<;>omega
  have hw1l:(Dy.dgN (m+2) (Dy.N3 L lo (m+2)+p*(if Dy.N3 L lo (m+2)<G*Dy.val v%p then 1 else 0)-G*Dy.val v%p)).length=m+2:=Dy.H5 _ _
  have hw1d:=Dy.o8 (m+2) (Dy.N3 L lo (m+2)+p*(if Dy.N3 L lo (m+2)<G*Dy.val v%p then 1 else 0)-G*Dy.val v%p)
  have hw1v:Dy.val (Dy.dgN (m+2) (Dy.N3 L lo (m+2)+p*(if Dy.N3 L lo (m+2)<G*Dy.val v%p then 1 else 0)-G*Dy.val v%p))=Dy.N3 L lo (m+2)+p*(if Dy.N3 L lo (m+2)<G*Dy.val v%p then 1 else 0)-G*Dy.val v%p:=by
   rw [Dy.X6,hpp,F9 hW1]
  have fit:= @Dy.D3k p (Dy.N3 L lo (m+2)) (L.getD (lo+(m+2)) 0) (G*Dy.val v) hp0 hW ht hPp
  have over:= @Dy.D15 p (Dy.N3 L lo (m+2)) (L.getD (lo+(m+2)) 0) (G*Dy.val v) hp0 hW ht hPp
  have hb1:(if Dy.N3 L lo (m+2)<G*Dy.val v%p then 1 else 0)≤1:=by split<;>omega
  generalize Dy.dgN (m+2) (Dy.N3 L lo (m+2)+p*(if Dy.N3 L lo (m+2)<G*Dy.val v%p then 1 else 0)-G*Dy.val v%p)=w1 at*
  generalize (if Dy.N3 L lo (m+2)<G*Dy.val v%p then 1 else 0)=b at*
  generalize Dy.N3 L lo (m+2)+p*b-G*Dy.val v%p=W1 at*
  generalize hH:G*Dy.val v/p=H at*
  intro l20 h20 l21 h21 n22 h22 n23 h23 n24 h24 n25 h25 l26 h26 n27 h27 n28 h28
  have h21:=h21.symm;have h26:=h26.symm
  subst h20 h21 h22 h23 h24 h25 h26 h27 h28
  have hput:(Dy.R3 L lo w1).length=L.length:=Dy.j8 (by omega)
  have hcur:(Dy.R3 L lo w1).getD (lo+(m+2)) 0=L.getD (lo+(m+2)) 0:=by
   have:=Dy.TZ (L:=L) (w:=w1) (lo:=lo) (by omega)
   rw [hw1l] at this
   exact this
  have hset:∀d,(Dy.R3 L lo w1).set (lo+(m+2)) d=Dy.R3 L lo (w1++[d]):=fun d=>by
   have:=Dy.UA (L:=L) (w:=w1) (lo:=lo) (d:=d) (by omega)
   rw [hw1l] at this
   exact this
  have e2:IntKind.u32.wrap ((H:Nat):Int)=((H:Nat):Int):=by rw [wrap_u32];omega
  simp only [A2,hput,hcur,e2]
  generalize L.getD (lo+(m+2)) 0=t at*
  refine ⟨by omega,by omega,by omega,?_⟩
  rintro n29 rfl n30 rfl
  refine ⟨by omega,by omega,?_⟩
  by_cases c:t<H+b
  ·obtain ⟨o1,o2⟩:=over c
   have e3:(((t:Int)-(H:Int)-(b:Int))%4294967296).toNat=4294967296+t-H-b:=by omega
   rw [if_pos (by omega),e3,hset]
   refine B1 (by decide) ?_
   generalize ht1:4294967296+t-H-b=t1 at*
   have ht1b:t1<4294967296:=by omega
   have hGq:G=q+1:=by
    have:q<G:=hqlt G (by rw [hwin];exact o1)
    clear fit over o2 hdm hU hwin
    omega
   intro l31 h31 n32 h32 n33 h33 n34 h34 l35 h35 n36 h36 n37 h37
   have h35:=h35.symm
   subst h31 h32 h33 h34 h35 h36 h37
   have hlen31:(Dy.R3 L lo (w1++[t1])).length=L.length:=Dy.j8 (by simp;omega)
   have hd31:Dy.D1 (Dy.R3 L lo (w1++[t1])):=Dy.A62 hdL (Dy.M2.2 ⟨hw1d,Dy.O9.2 ⟨ht1b,Dy.Q4⟩⟩) lo
   refine ⟨⟨rfl,rfl,rfl,hdv,hd31,by rw [hm],by rw [hlen31];exact hlo,by rw [hlen31];exact hL⟩,?_⟩
   rw [hm]
   have hwv:Dy.N3 (Dy.R3 L lo (w1++[t1])) lo (m+2)=W1:=by
    have:=Dy.A5t (L:=L) (w:=w1) (lo:=lo) (d:=t1) (by omega)
    rw [hw1l] at this
    rw [this,hw1v]
   have hg1:(Dy.R3 L lo (w1++[t1])).getD (lo+(m+2)) 0=t1:=by
    have:=Dy.A3i (L:=L) (w:=w1) (lo:=lo) (d:=t1) (by omega)
    rw [hw1l] at this
    exact this
   rw [hwv,hpp]
   have hr:W1+Dy.val v+p*t1=r+p*4294967296:=by
    rw [hGq,H2,Q2,B6 _ (Dy.val v)] at o2
    clear fit over
    omega
   have hVp:r<p:=by omega
   have s1:(W1+Dy.val v)%p=r:=by
    have:=congrArg (·%p) hr
    simp only [DV] at this
    rw [this,F9 hVp]
   have s2:(W1+Dy.val v)/p+t1=4294967296:=by
    have:=congrArg (·/p) hr
    simp only [AL _ _ hp0] at this
    rw [L9 hVp] at this
    omega
   intro l38 h38 n39 h39 n40 h40 n41 h41 l42 h42 n43 h43 n44 h44
   have h42:=h42.symm
   subst h38 h39 h40 h41 h42 h43 h44
   have hdl:(Dy.dgN (m+2) (W1+Dy.val v)).length=m+2:=Dy.H5 _ _
   have hcur2:(Dy.R3 (Dy.R3 L lo (w1++[t1])) lo (Dy.dgN (m+2) (W1+Dy.val v))).getD (lo+(m+2)) 0=t1:=by
    have:=Dy.TZ (L:=Dy.R3 L lo (w1++[t1])) (w:=Dy.dgN (m+2) (W1+Dy.val v)) (lo:=lo) (by omega)
    rw [hdl,hg1] at this
    exact this
   have hset2:∀d,(Dy.R3 (Dy.R3 L lo (w1++[t1])) lo (Dy.dgN (m+2) (W1+Dy.val v))).set (lo+(m+2)) d=Dy.R3 L lo (Dy.dgN (m+2) (W1+Dy.val v)++[d]):=fun d=>by
    have:=Dy.UA (L:=Dy.R3 L lo (w1++[t1])) (w:=Dy.dgN (m+2) (W1+Dy.val v)) (lo:=lo) (d:=d) (by omega)
    rw [hdl] at this
    rw [this,Dy.C9y (by simp;omega) (by simp [hdl,hw1l])]
   have hlen2:(Dy.R3 (Dy.R3 L lo (w1++[t1])) lo (Dy.dgN (m+2) (W1+Dy.val v))).length=L.length:=by rw [Dy.j8 (by omega),hlen31]
   have e4:IntKind.u32.wrap (((t1:Nat):Int)+(((W1+Dy.val v)/p:Nat):Int))=0:=by
    rw [wrap_u32]
    omega
   have e5:IntKind.u32.wrap (IntKind.u64.wrap (((G:Nat):Int)-1))=(q:Int):=by
    rw [wrap_u64,wrap_u32]
    clear fit over o1 o2 hr s1 s2 hdm hU hwin
    omega
   simp only [A2]
   rw [hcur2,e4,show (0:Int).toNat=0 from rfl,hset2,hlen2,e5]
   have hfin:Dy.dgN (m+2) (W1+Dy.val v)++[0]=Dy.dgN (m+2+1) r:=by
    refine Dy.OU (Dy.M2.2 ⟨Dy.o8 _ _,Dy.O9.2 ⟨by omega,Dy.Q4⟩⟩) (Dy.o8 _ _) (by simp [Dy.H5]) ?_
    rw [Dy.U6,Dy.X6,Dy.X6,O3,I4,hpp,s1,hps,F9 (by omega)]
   rw [hfin]
   exact ⟨by omega,by omega,by omega,by omega,trivial,trivial,Dy.j8 (by rw [Dy.H5];exact hlo),rfl⟩
  ·obtain ⟨f1,f2⟩:=fit c
   have e3:(((t:Int)-(H:Int)-(b:Int))%4294967296).toNat=t-H-b:=by omega
   rw [if_neg (by omega),e3,hset]
   refine B5 (by decide) ?_
   have hGq:G=q:=by
    have:G≤q:=hqle G (by rw [hwin];exact f1)
    clear fit over f2 hdm hU hwin
    omega
   have hrem:W1+p*(t-H-b)=r:=by
    rw [f2,←hwin,hGq,B6]
    clear fit over
    omega
   have hfin:w1++[t-H-b]=Dy.dgN (m+2+1) r:=by
    refine Dy.OU (Dy.M2.2 ⟨hw1d,Dy.O9.2 ⟨by omega,Dy.Q4⟩⟩) (Dy.o8 _ _) (by simp [Dy.H5,hw1l]) ?_
    rw [Dy.U6,hw1l,hpp,hw1v,Dy.X6,hrem,hps,F9 (by omega)]
   have e5:IntKind.u32.wrap ((G:Nat):Int)=(q:Int):=by
    rw [wrap_u32]
    clear fit over f1 f2 hdm hU hwin
    omega
   rw [hfin,e5]
   exact ⟨trivial,trivial,Dy.j8 (by rw [Dy.H5];exact hlo),rfl⟩
 ·cases h
end Go.AI

namespace Go.Dy
theorem D1v {L w:List Nat} {lo:Nat} (h:lo+w.length≤L.length):val (R3 L lo w)=val (L.take lo)+2^(32*lo)*(val w+2^(32*w.length)*val (L.drop (lo+w.length))):=by
 unfold R3
 have e:(L.take lo).length=lo:=by simp;omega
 rw [U8,o5,o5,e]
theorem D3p {L:List Nat} (lo n:Nat) (h:lo+n≤L.length):val (L.drop lo)=N3 L lo n+2^(32*n)*val (L.drop (lo+n)):=by
 unfold N3
 have:=V9 (L.drop lo) n (by simp;omega)
 rw [List.drop_drop] at this
 exact this
theorem C5p {u q v:List Nat} {j n U:Nat} (hu:D1 u) (hv:D1 v) (hn:v.length=n) (hq:j<q.length) (hul:j+n+1≤u.length) (hlt:val u<val v*2^(32*(j+1)))
  (hU:U=val (q.drop (j+1))*2^(32*(j+1))*val v+val u):
  N3 u j (n+1)<4294967296*val v∧N3 u j (n+1)/val v<4294967296∧val (R3 u j (dgN (n+1) (N3 u j (n+1)%val v)))<val v*2^(32*j)∧
   U=val ((q.set j (N3 u j (n+1)/val v)).drop j)*2^(32*j)*val v+val (R3 u j (dgN (n+1) (N3 u j (n+1)%val v))):=by
 have hV:=I0 hv
 rw [hn] at hV
 have hV0:0<val v:=by
  rcases j9 (val v) with e|e
  ·rw [e] at hlt;omega
  ·exact e
 have hT:=I0 (Q7 hu j)
 rw [R8,J1 (by omega)] at hT
 have hsplit:=V9 u j (by omega)
 have hwin:=D3p (L:=u) j (n+1) (by omega)
 have hp:=A9 (32*j)
 have hd:val (u.drop j)<4294967296*val v:=by
  rw [J6] at hlt
  have h1:2^(32*j)*val (u.drop j)<2^(32*j)*(4294967296*val v):=by
   have:val v*(2^(32*j)*4294967296)=2^(32*j)*(4294967296*val v):=by rw [B6 (val v),B9]
   omega
  exact Nat.lt_of_mul_lt_mul_left h1
 have hrest:val (u.drop (j+(n+1)))=0:=by
  rcases j9 (val (u.drop (j+(n+1)))) with e|e
  ·exact e
  ·exfalso
   have h1:=Nat.le_mul_of_pos_right (2^(32*(n+1))) e
   have h2:=J6 n
   omega
 rw [hrest,O3,I4] at hwin
 rw [←hwin]
 have hW:val (u.drop j)/val v<4294967296:=by rw [H0 hV0];exact hd
 have hm:=R5 (val (u.drop j)) hV0
 have hdm:=Q6 (val (u.drop j)) (val v)
 have hput:val (R3 u j (dgN (n+1) (val (u.drop j)%val v)))=val (u.take j)+2^(32*j)*(val (u.drop j)%val v):=by
  rw [D1v (by rw [H5];omega),H5,hrest,O3,I4,X6,F9]
  rw [J6]
  omega
 have hdrop:val ((q.set j (val (u.drop j)/val v)).drop j)=val (u.drop j)/val v+4294967296*val (q.drop (j+1)):=by
  rw [IS (by simpa using hq)]
  congr 2
  ·simp [D7,hq]
  ·rw [IX]
 refine ⟨hd,hW,?_,?_⟩
 ·rw [hput]
  have h1:2^(32*j)*(val (u.drop j)%val v+1)≤2^(32*j)*val v:=F2 _ hm
  rw [D0,M0] at h1
  rw [B6 (val v)]
  omega
 ·rw [hU,hput,hdrop,hsplit,J6]
  generalize val (q.drop (j+1))=Q
  generalize val (u.drop j)/val v=d at hdm ⊢
  generalize val (u.drop j)%val v=r at hdm ⊢
  generalize val (u.drop j)=W at hdm ⊢
  generalize val (u.take j)=T
  generalize 2^(32*j)=p
  subst hdm
  have e1:(d+4294967296*Q)*p*val v=d*p*val v+Q*(p*4294967296)*val v:=by
   rw [H2,H2,B6 4294967296 Q,B9 Q,B6 4294967296 p]
  have e2:p*(val v*d+r)=d*p*val v+p*r:=by
   rw [D0,B6 (val v) d,←B9,B6 p d]
  rw [e1,e2]
  omega
theorem C8q {u q v:List Nat} {U:Nat} (hu:D1 u) (hq:D1 q) (hlt:val u<val v) (hU:U=val q*val v+val u):u=dgN u.length (U%val v)∧q=dgN q.length (U/val v):=by
 have h1:U%val v=val u:=by rw [hU,FW,Nat.add_mul_mod_self_right,F9 hlt]
 have h2:U/val v=val q:=by rw [hU,FW,Nat.add_mul_div_right _ _ (by omega),L9 hlt,N9]
 rw [h1,h2,OS hu,OS hq]
 exact ⟨rfl,rfl⟩
end Go.Dy
namespace Go.AI
open Go Go.RowKit Go.Proofs
set_option linter.unusedVariables false
set_option maxRecDepth 100000
theorem D3b:G6 Tryz.prog Inv (look B6a):=A3 (A3 TQ D55) D39
theorem B2v:L6 Tryz.prog (look B6a) IH 2 68 A8d (D8 Tryz.f206 0) D50:=by
 intro vals r h K hK
 unfold D50 at h
 split at h
 ·cases h
  rename_i a s v u
  simp only [j0] at hK
  obtain ⟨⟨ha,hu⟩,hK⟩:=hK
  have key:∀(m:Nat) (u:List Nat),u.length≤1048577→m=a.length+1-u.length→K (.exit 0) [.dig [1,2,3] a,.num .i64 s,.grown 152 v,.grown 152 (u++B2 m 0)]→
    ∃k,P4 Tryz.prog (look B6a) IH 2 68 A8d (D8 Tryz.f206 0) k [.dig [1,2,3] a,.num .i64 s,.grown 152 v,.grown 152 u] K:=by
   intro m
   induction m with
   |zero=>
    intro u hu hm hK
    refine D4 ?_
    rw [A78]
    refine B1 (decide_eq_false (by omega)) ?_
    simpa using hK
   |succ m ih=>
    intro u hu hm hK
    obtain ⟨k,hk⟩:=ih (u++[0]) (by simp;omega) (by simp;omega) (by rw [U8];exact hK)
    refine E9 k ?_
    rw [A78]
    exact B5 (decide_eq_true (by omega)) ⟨by omega,hk⟩
  exact key _ u hu rfl hK
 ·cases h
theorem B2w:L6 Tryz.prog (look B6a) IH 2 68 A8e (D8 Tryz.f206 1) D51:=by
 intro vals r h K hK
 unfold D51 at h
 split at h
 ·cases h
  rename_i s v u n q j
  simp only [j0] at hK
  obtain ⟨⟨hdu,hdv,hv2,rfl,hul,hub,hq0,rfl,hvt,hlt⟩,hK⟩:=hK
  generalize hU:Dy.val u=U at hK
  generalize hk:q.length=k at*
  generalize hul':u.length=lu at*
  have key:∀(j:Nat) (u q:List Nat),u.length=lu→q.length=k→j≤k→Dy.D1 u→Dy.D1 q→Dy.val u<Dy.val v*2^(32*j)→U=Dy.val (q.drop j)*2^(32*j)*Dy.val v+Dy.val u→
    ∃m,P4 Tryz.prog (look B6a) IH 2 68 A8e (D8 Tryz.f206 1) m [.num .i64 s,.grown 152 v,.grown 152 u,.num .i64 v.length,.grown 152 q,.num .i64 ((j:Int)-1)] K:=by
   intro j
   induction j with
   |zero=>
    intro u q hul hql _ hdu hdq hlt hU
    refine D4 ?_
    rw [A79]
    refine B1 (decide_eq_false (by omega)) ?_
    obtain ⟨e1,e2⟩:=Dy.C8q hdu hdq (by simpa using hlt) (by simpa using hU)
    rw [hul] at e1
    rw [hql] at e2
    rw [e1,e2]
    exact hK
   |succ j ih=>
    intro u q hul hql hjk hdu hdq hlt hU
    obtain ⟨s1,s2,s3,s4⟩:=Dy.C5p hdu hdv rfl (by omega) (by omega) hlt hU
    obtain ⟨m,hm⟩:=ih _ (q.set j (Dy.N3 u j (v.length+1)/Dy.val v)) (by rw [Dy.j8 (by rw [Dy.H5];omega)];exact hul) (by simpa using hql) (by omega) (Dy.A62 hdu (Dy.o8 _ _) j) (Dy.BJ hdq s2) s3 s4
    refine E9 m ?_
    rw [A79]
    have e0:(((j+1:Nat):Int)-1)=(j:Int):=by omega
    have e1:IntKind.i64.wrap (IntKind.i64.wrap ((j:Int)+(v.length:Int))+1)=((j+v.length+1:Nat):Int):=by
     rw [wrap_i64 (n:=(j:Int)+(v.length:Int)) (by omega) (by omega),wrap_i64 (by omega) (by omega)]
     omega
    have e2:IntKind.i64.wrap ((j:Int)-1)=(j:Int)-1:=wrap_i64 (by omega) (by omega)
    rw [e0,e1,e2,A2,A2,A2,show j+v.length+1-j=v.length+1 by omega]
    refine B5 (decide_eq_true (by omega)) ⟨⟨by omega,by omega,by omega⟩,⟨⟨by omega,by omega,hv2,rfl,by omega,hvt,s1⟩,by omega⟩,by omega,by omega,hm⟩
  exact key k u q hul' hk (I6 _) hdu (by rw [hq0];exact Dy.P2 _) (by first|exact hlt|(rw [hU];exact hlt)) (by rw [List.drop_of_length_le (by omega),show Dy.val []=0 from rfl,R2,R2,N9];exact hU.symm)
 ·cases h
theorem D38 (args:List AV) (s:Spec) (h:D0o args=some s) (hp:C6 s.pre True):Contract Tryz.prog Inv 206 args s.res:=by
 unfold D0o at h
 split at h
 ·cases h
  rename_i a b
  obtain ⟨⟨ha,hb,hb2,hba,hal⟩, -⟩:=hp
  refine E8 false 68 IH D3b Tryz.func206 (by kernel_rfl) rfl (A8w (by kernel_rfl) (by kernel_rfl) B2v (by kernel_rfl) B2w) fun hok=> ?_
  have hda:=(E4 hok).1.2
  have hdb:=(E4 (E4 hok).2).1.2
  have hbn:b≠[]:=fun e=>by rw [e] at hb2;simp at hb2
  have han:a≠[]:=fun e=>by subst e;have:([]:List Nat).length=0:=rfl;omega
  have htop:=((Dy.KP hdb).1 hb).resolve_left hbn
  have htl:=Dy.E5 hdb (b.length-1)
  have hbl:=Dy.VP hdb hbn htop
  have hB0:Dy.val b≠0:=fun e=>by rw [e,Dy.O0] at hb;exact hbn hb.symm
  have ht32:Dy.bl (b.getD (b.length-1) 0)≤32:=Dy.I8.2 (by omega)
  have ht0:0<Dy.bl (b.getD (b.length-1) 0):=Dy.IV.2 htop
  rw [D3r]
  have w1:IntKind.i64.wrap ((b.length:Int)-1)=((b.length-1:Nat):Int):=by rw [wrap_i64 (by omega) (by omega)];omega
  rw [w1,A2,A2,Dy.VM (by omega)]
  obtain ⟨s,hs⟩:∃s,s=32-Dy.bl (b.getD (b.length-1) 0):=⟨_,rfl⟩
  have hs1:(32:Int)-(Dy.bl (b.getD (b.length-1) 0):Int)=(s:Int):=by omega
  rw [hs1,A2]
  have hVbl:Dy.bl (Dy.val b*2^s)=32*b.length:=by rw [Dy.E7 hB0,hbl];omega
  have hV0:Dy.val b*2^s≠0:=Nat.mul_ne_zero hB0 (R6.1 (A9 s))
  have hVl:(Dy.dg (Dy.val b*2^s)).length=b.length:=by
   refine Nat.le_antisymm (Dy.J3.2 (by omega)) ?_
   rcases L4 (Dy.dg (Dy.val b*2^s)).length b.length with c|c
   ·have:=(Dy.J3 (n:=Dy.val b*2^s) (k:=b.length-1)).1 (by omega)
    omega
   ·exact c
  have hVge:=Dy.W6 hV0
  rw [hVbl] at hVge
  have hVlt:Dy.val b*2^s<2^(32*b.length):=by have:=Dy.P9 (Dy.val b*2^s);rwa [hVbl] at this
  have hVtop:2147483648≤(Dy.dg (Dy.val b*2^s)).getD (b.length-1) 0:=by
   rw [Dy.A05 (Dy.x8 _),Dy.E3]
   have h1:Dy.val b*2^s/2^(32*(b.length-1))<4294967296:=by
    have hps:=Dy.J6 (b.length-1)
    rw [show b.length-1+1=b.length by omega] at hps
    rw [H0 (A9 _)]
    omega
   rw [F9 h1,K8 (A9 _),show 2147483648=2^31 from rfl,←B8,show 31+32*(b.length-1)=32*b.length-1 by omega]
   exact hVge
  have hA:=Dy.I0 hda
  have hUlt:Dy.val a*2^s<2^(32*(a.length+1)):=by
   rw [Dy.J6]
   exact Nat.mul_lt_mul_of_lt_of_le hA (D9 (B3 (n:=2) (by decide) (show s≤32 by omega)) (by decide)) (by decide)
  have hUl:(Dy.dg (Dy.val a*2^s)).length≤a.length+1:=Dy.M5.2 hUlt
  have hU1l:(Dy.dg (Dy.val a*2^s)++B2 (a.length+1-(Dy.dg (Dy.val a*2^s)).length) 0).length=a.length+1:=by simp;omega
  have hU1v:Dy.val (Dy.dg (Dy.val a*2^s)++B2 (a.length+1-(Dy.dg (Dy.val a*2^s)).length) 0)=Dy.val a*2^s:=by
   rw [Dy.o5,Dy.u7,O3,I4,Dy.E3]
  have hU1d:Dy.D1 (Dy.dg (Dy.val a*2^s)++B2 (a.length+1-(Dy.dg (Dy.val a*2^s)).length) 0):=Dy.M2.2 ⟨Dy.x8 _,Dy.P2 _⟩
  have hVv:Dy.val (Dy.dg (Dy.val b*2^s))=Dy.val b*2^s:=Dy.E3 _
  have hVd:=Dy.x8 (Dy.val b*2^s)
  generalize Dy.dg (Dy.val a*2^s)++B2 (a.length+1-(Dy.dg (Dy.val a*2^s)).length) 0=U1 at*
  generalize Dy.dg (Dy.val b*2^s)=V at*
  rw [hU1l,hVl,hU1v,hVv]
  have w2:IntKind.i64.wrap (((a.length+1:Nat):Int)-(b.length:Int))=((a.length+1-b.length:Nat):Int):=by rw [wrap_i64 (by omega) (by omega)];omega
  rw [w2,A2,U0,A2]
  have w3:IntKind.i64.wrap (((a.length+1-b.length:Nat):Int)-1)=((a.length+1-b.length:Nat):Int)-1:=wrap_i64 (by omega) (by omega)
  rw [w3]
  have hmul:Dy.val a*2^s<Dy.val b*2^s*2^(32*(a.length+1-b.length)):=by
   have h1:2^(32*(b.length-1))≤Dy.val b:=by
    have:=Dy.KY hB0
    rwa [hb] at this
   have h2:Dy.val a<Dy.val b*2^(32*(a.length+1-b.length)):=by
    refine G7 hA (D9 ?_ (C0 _ h1))
    rw [←B8]
    exact B3 (by decide) (by omega)
   have h3:=Nat.mul_lt_mul_of_pos_right h2 (A9 s)
   rw [Nat.mul_right_comm]
   exact h3
  have hq:Dy.val a*2^s/(Dy.val b*2^s)=Dy.val a/Dy.val b:=Nat.mul_div_mul_right _ _ (A9 s)
  have hr:Dy.val a*2^s%(Dy.val b*2^s)=Dy.val a%Dy.val b*2^s:=DW _ _ _
  have hqlt:Dy.val a/Dy.val b<2^(32*(a.length+1-b.length)):=by
   rw [←hq,H0 (R6.2 hV0),B6 (2^_)]
   exact hmul
  have hrlt:Dy.val a%Dy.val b*2^s<2^(32*b.length):=by
   refine L8 (C0 _ (HX (R5 _ (R6.2 hB0)))) hVlt
  have hrv:Dy.val ((Dy.dgN (a.length+1) (Dy.val a%Dy.val b*2^s)).take b.length)=Dy.val a%Dy.val b*2^s:=by
   rw [Dy.A2n (Dy.o8 _ _),Dy.X6,Nat.mod_mod_of_dvd _ (Nat.pow_dvd_pow 2 (by omega)),F9 hrlt]
  rw [hq,hr,hrv,Dy.X6,F9 hqlt,Dy.E3,Dy.E3,KI _ (A9 s)]
  have hlast:(Dy.dg (Dy.val a%Dy.val b*2^s)).length≤b.length:=Dy.M5.2 hrlt
  exact ⟨by omega,⟨hbn,by omega,by omega,by omega⟩,⟨han,by omega,by omega,hal⟩,⟨hal,by omega⟩,⟨by omega,by omega,by omega⟩,
   ⟨hU1d,hVd,hb2,rfl,by omega,by omega,rfl,rfl,hVtop,hmul⟩,⟨by omega,by rw [Dy.H5];omega⟩,⟨by omega,by omega⟩,rfl⟩
 ·cases h
end Go.AI

namespace Go.Dy
def isq:Nat→Nat
 |0=>0
 |n+1=>if (isq n+1)*(isq n+1)≤n+1 then isq n+1 else isq n
structure Qr where
 quo:List Nat
 rem:List Nat
 err:Int
def UB (a b:List Nat):Qr:=if may a&&may b then (if val b=0 then ⟨[],[],11⟩ else ⟨dg (val a/val b),dg (val a%val b),0⟩) else ⟨[],[],2⟩
structure Rt where
 mag:List Nat
 exact:Bool
 err:Int
def HG (a:List Nat):Rt:=if may a then ⟨dg (isq (val a)),decide (isq (val a)*isq (val a)=val a),0⟩ else ⟨[],false,2⟩
end Go.Dy
namespace Go.AI
open Go Go.RowKit Go.Proofs
set_option linter.unusedVariables false
def ZN:List AV→Option Spec
 |[.dig [1] a,.dig [2] b]=>some ⟨none,.tup [.dig [0] (Dy.UB a b).quo,.dig [0] (Dy.UB a b).rem,.num .i64 (Dy.UB a b).err]⟩
 |_=>none
def C1p:List AV→Option Spec
 |[.dig [1] a]=>some ⟨none,.tup [.dig [0] (Dy.HG a).mag,.bool (Dy.HG a).exact,.num .i64 (Dy.HG a).err]⟩
 |_=>none
def D43:List (Nat×(List AV→Option Spec)):=(206,D0o)::B0k
def XS:List (Nat×(List AV→Option Spec)):=(183,ZN)::B0k
end Go.AI

namespace Go.AI
open Dy IntKind
open Go Go.RowKit Go.Proofs
set_option linter.unusedVariables false
set_option maxRecDepth 100000
set_option maxHeartbeats 0
theorem A57 (a:List Nat) (b:List Nat) (Q:AV→Prop):(evF Tryz.prog (look D43) (lam []) false Tryz.f183 [.dig [1] a,.dig [2] b] Q)=(bif !(may a&&may b) then Q (.tup [.dig [0] [],.dig [0] [],.num .i64 2]) else bif decide ((↑b.length:Int)=0) then Q (.tup [.dig [0] [],.dig [0] [],.num .i64 11]) else (dg (val a)=a∧dg (val b)=b)∧bif decide (v8 (val a) (val b)<0) then a.length≤1099511627776∧Q (.tup [.dig [0] [],.dig [0] a,.num .i64 0]) else bif decide ((↑b.length:Int)=1) then ((0:Int)≤0∧(0:Int)<(↑b.length:Int))∧((0:Int)<(↑(b.getD (0:Nat) (0:Nat)):Int)∧a.length≤1048576)∧∀(l1:List Nat),l1=dg (val a/(↑(b.getD (0:Nat) (0:Nat)):Int).toNat)→∀n2,n2=(↑(val a%(↑(b.getD (0:Nat) (0:Nat)):Int).toNat):Int)→Q (.tup [.dig [0] l1,.dig [0] (dg (val [n2.toNat])),.num .i64 0]) else (dg (val a)=a∧dg (val b)=b∧(2:Nat)≤b.length∧b.length≤a.length∧a.length≤1048576)∧∀(l3:List Nat),l3=dg (val a/val b)→∀(l4:List Nat),l4=dg (val a%val b)→Q (.tup [.dig [0] l3,.dig [0] l4,.num .i64 0])):=by kernel_rfl
def B9k:List AV→Option LR
 |[.dig [1,2] a,.dig [2] r,.bool b,.num .i64 e,.dig [2] x]=>
 some (.need (Dy.may a=true∧a≠[]∧Dy.dg (Dy.val x)=x∧x.length≤4096∧x≠[]∧Dy.isq (Dy.val a)≤Dy.val x)
 (.done .ret [.dig [1,2] a,.dig [2] (Dy.dg (Dy.isq (Dy.val a))),.bool (decide (Dy.isq (Dy.val a)*Dy.isq (Dy.val a)=Dy.val a)),.num .i64 0,.dig [2] (Dy.dg (Dy.isq (Dy.val a)))]))
 |_=>none
def A0e:List (Nat×Keep):=[(0,.same),(2,.same),(3,.same),(4,.same),(5,.same)]
def C96:List AV→Option LR
 |[.dig [1,2] a,.dig [2] r,.bool b,.num .i64 e,.dig [2] x,.dig [2] q,.grown 152 o,.num .u32 c,.num .i64 k,.num .i64 i]=>
 some (.need (Dy.D1 x∧Dy.D1 q∧o=B2 o.length 0∧x.length<o.length∧q.length<o.length∧o.length≤1048576∧c=0∧k=o.length∧i=0)
 (.done (.exit 2) [.dig [1,2] a,.dig [2] r,.bool b,.num .i64 e,.dig [2] x,.dig [2] q,.grown 152 (Dy.dgN o.length (Dy.val q+Dy.val x)),.num .u32 0,.num .i64 k,.num .i64 k]))
 |_=>none
def TA:List (Nat×Keep):=[(0,.same),(2,.same),(3,.same),(4,.same),(5,.same),(6,.same),(9,.same),(10,.same),(42,.same),(43,.same)]
def II:=lam [(6,.spec A0e B9k),(10,.spec TA C96)]
theorem B74 (a:List Nat) (Q:AV→Prop):(evF Tryz.prog (look XS) II false Tryz.f146 [.dig [1] a] Q)=(bif !may a then Q (.tup [.dig [0] [],.bool false,.num .i64 2]) else bif decide ((↑a.length:Int)=0) then Q (.tup [.dig [0] [],.bool true,.num .i64 0]) else ((0:Int)≤i64.wrap ((i64.wrap ((↑(F3 a):Int)+1)).tdiv (2:Int))∧i64.wrap ((i64.wrap ((↑(F3 a):Int)+1)).tdiv (2:Int))≤33554432∧(1:Nat)≤1048576)∧(may a=true∧a≠[]∧dg (val (dg ((1:Nat)*2^(i64.wrap ((i64.wrap ((↑(F3 a):Int)+1)).tdiv (2:Int))).toNat)))=dg ((1:Nat)*2^(i64.wrap ((i64.wrap ((↑(F3 a):Int)+1)).tdiv (2:Int))).toNat)∧(dg ((1:Nat)*2^(i64.wrap ((i64.wrap ((↑(F3 a):Int)+1)).tdiv (2:Int))).toNat)).length≤4096∧dg ((1:Nat)*2^(i64.wrap ((i64.wrap ((↑(F3 a):Int)+1)).tdiv (2:Int))).toNat)≠[]∧isq (val a)≤val (dg ((1:Nat)*2^(i64.wrap ((i64.wrap ((↑(F3 a):Int)+1)).tdiv (2:Int))).toNat)))∧Q (.tup [.dig [0] (dg (isq (val a))),.bool (decide (isq (val a)*isq (val a)=val a)),.num .i64 0])):=by kernel_rfl
theorem QR (a:List Nat) (r:List Nat) (x:List Nat) (b:Bool) (e:Int) (K:Exit→List AV→Prop):(M7 Tryz.prog (look XS) II (1:Nat) (88:Nat) A0e (D8 Tryz.f146 (0:Nat)) [.dig [1,2] a,.dig [2] r,.bool b,.num .i64 e,.dig [2] x] K)=(∀(l1:List Nat),l1=(UB a x).quo→∀(l2:List Nat),l2=(UB a x).rem→∀n3,n3=(UB a x).err→((0:Int)≤i64.wrap ((if (↑x.length:Int)>(↑l1.length:Int) then (↑x.length:Int) else (↑l1.length:Int))+1)∧i64.wrap ((if (↑x.length:Int)>(↑l1.length:Int) then (↑x.length:Int) else (↑l1.length:Int))+1)≤i64.wrap ((if (↑x.length:Int)>(↑l1.length:Int) then (↑x.length:Int) else (↑l1.length:Int))+1)∧i64.wrap ((if (↑x.length:Int)>(↑l1.length:Int) then (↑x.length:Int) else (↑l1.length:Int))+1)≤2^(40:Nat))∧(D1 x∧D1 l1∧B2 (i64.wrap ((if (↑x.length:Int)>(↑l1.length:Int) then (↑x.length:Int) else (↑l1.length:Int))+1)).toNat (0:Nat)=B2 (B2 (i64.wrap ((if (↑x.length:Int)>(↑l1.length:Int) then (↑x.length:Int) else (↑l1.length:Int))+1)).toNat (0:Nat)).length (0:Nat)∧x.length<(B2 (i64.wrap ((if (↑x.length:Int)>(↑l1.length:Int) then (↑x.length:Int) else (↑l1.length:Int))+1)).toNat (0:Nat)).length∧l1.length<(B2 (i64.wrap ((if (↑x.length:Int)>(↑l1.length:Int) then (↑x.length:Int) else (↑l1.length:Int))+1)).toNat (0:Nat)).length∧(B2 (i64.wrap ((if (↑x.length:Int)>(↑l1.length:Int) then (↑x.length:Int) else (↑l1.length:Int))+1)).toNat (0:Nat)).length≤1048576∧(0:Int)=0∧(↑(B2 (i64.wrap ((if (↑x.length:Int)>(↑l1.length:Int) then (↑x.length:Int) else (↑l1.length:Int))+1)).toNat (0:Nat)).length:Int)=(↑(B2 (i64.wrap ((if (↑x.length:Int)>(↑l1.length:Int) then (↑x.length:Int) else (↑l1.length:Int))+1)).toNat (0:Nat)).length:Int)∧(0:Int)=0)∧((0:Int)≤1∧(dg (val (dgN (B2 (i64.wrap ((if (↑x.length:Int)>(↑l1.length:Int) then (↑x.length:Int) else (↑l1.length:Int))+1)).toNat (0:Nat)).length (val l1+val x)))).length≤1048576)∧(dg (val (dg (val (dg (val (dgN (B2 (i64.wrap ((if (↑x.length:Int)>(↑l1.length:Int) then (↑x.length:Int) else (↑l1.length:Int))+1)).toNat (0:Nat)).length (val l1+val x))))/2)))=dg (val (dg (val (dgN (B2 (i64.wrap ((if (↑x.length:Int)>(↑l1.length:Int) then (↑x.length:Int) else (↑l1.length:Int))+1)).toNat (0:Nat)).length (val l1+val x))))/2)∧dg (val x)=x)∧bif decide (v8 (val (dg (val (dg (val (dgN (B2 (i64.wrap ((if (↑x.length:Int)>(↑l1.length:Int) then (↑x.length:Int) else (↑l1.length:Int))+1)).toNat (0:Nat)).length (val l1+val x))))/2))) (val x)≥0) then (x.length≤1048576∧x.length≤1048576)∧(dg (val (dg (val x*val x)))=dg (val x*val x)∧dg (val a)=a)∧K Exit.ret [.dig [1,2] a,.dig [2] x,.bool (v8 (val (dg (val x*val x))) (val a)==(0:Int)),.num .i64 0,.dig [2] x] else K Exit.normal [.dig [1,2] a,.dig [2] r,.bool b,.num .i64 e,.dig [2] (dg (val (dg (val (dgN (B2 (i64.wrap ((if (↑x.length:Int)>(↑l1.length:Int) then (↑x.length:Int) else (↑l1.length:Int))+1)).toNat (0:Nat)).length (val l1+val x))))/2))]):=by kernel_rfl
theorem QS (a:List Nat) (r:List Nat) (x:List Nat) (q:List Nat) (o:List Nat) (b:Bool) (e:Int) (c:Int) (k:Int) (i:Int) (K:Exit→List AV→Prop):(M7 Tryz.prog (look XS) II (1:Nat) (88:Nat) TA (D8 Tryz.f146 (1:Nat)) [.dig [1,2] a,.dig [2] r,.bool b,.num .i64 e,.dig [2] x,.dig [2] q,.grown (152:TypeId) o,.num .u32 c,.num .i64 k,.num .i64 i] K)=(bif decide (i<k) then bif decide (i<(↑q.length:Int)) then (0≤i∧i<(↑q.length:Int))∧bif decide (i<(↑x.length:Int)) then (0≤i∧i<(↑x.length:Int))∧∀n1,n1=((↑(q.getD i.toNat (0:Nat)):Int)+(↑(x.getD i.toNat (0:Nat)):Int)+c)%4294967296→∀n2,n2=((↑(q.getD i.toNat (0:Nat)):Int)+(↑(x.getD i.toNat (0:Nat)):Int)+c)/4294967296→(0≤i∧i<(↑o.length:Int))∧i.toNat<o.length∧K Exit.normal [.dig [1,2] a,.dig [2] r,.bool b,.num .i64 e,.dig [2] x,.dig [2] q,.grown (152:Nat) (o.set i.toNat n1.toNat),.num .u32 n2,.num .i64 k,.num .i64 (i64.wrap (i+1))] else∀n3,n3=((↑(q.getD i.toNat (0:Nat)):Int)+0+c)%4294967296→∀n4,n4=((↑(q.getD i.toNat (0:Nat)):Int)+0+c)/4294967296→(0≤i∧i<(↑o.length:Int))∧i.toNat<o.length∧K Exit.normal [.dig [1,2] a,.dig [2] r,.bool b,.num .i64 e,.dig [2] x,.dig [2] q,.grown (152:Nat) (o.set i.toNat n3.toNat),.num .u32 n4,.num .i64 k,.num .i64 (i64.wrap (i+1))] else bif decide (i<(↑x.length:Int)) then (0≤i∧i<(↑x.length:Int))∧∀n5,n5=((0:Int)+(↑(x.getD i.toNat (0:Nat)):Int)+c)%4294967296→∀n6,n6=((0:Int)+(↑(x.getD i.toNat (0:Nat)):Int)+c)/4294967296→(0≤i∧i<(↑o.length:Int))∧i.toNat<o.length∧K Exit.normal [.dig [1,2] a,.dig [2] r,.bool b,.num .i64 e,.dig [2] x,.dig [2] q,.grown (152:Nat) (o.set i.toNat n5.toNat),.num .u32 n6,.num .i64 k,.num .i64 (i64.wrap (i+1))] else∀n7,n7=((0:Int)+0+c)%4294967296→∀n8,n8=((0:Int)+0+c)/4294967296→(0≤i∧i<(↑o.length:Int))∧i.toNat<o.length∧K Exit.normal [.dig [1,2] a,.dig [2] r,.bool b,.num .i64 e,.dig [2] x,.dig [2] q,.grown (152:Nat) (o.set i.toNat n7.toNat),.num .u32 n8,.num .i64 k,.num .i64 (i64.wrap (i+1))] else K (Exit.exit (2:Nat)) [.dig [1,2] a,.dig [2] r,.bool b,.num .i64 e,.dig [2] x,.dig [2] q,.grown (152:Nat) o,.num .u32 c,.num .i64 k,.num .i64 i]):=by kernel_rfl
end Go.AI

namespace Go.Dy
theorem W3:∀n,isq n*isq n≤n∧n<(isq n+1)*(isq n+1)
 |0=>by decide
 |n+1=>by
  obtain ⟨h1,h2⟩:=W3 n
  unfold isq
  split
  ·rename_i h
   refine ⟨h,?_⟩
   have:(isq n+1+1)*(isq n+1+1)=(isq n+1)*(isq n+1)+2*(isq n+1)+1:=by
    rw [H2 _ 1,D0,M0,Q2];omega
   omega
  ·rename_i h
   exact ⟨by omega,by omega⟩
theorem GX {x n:Nat} (h:x*x≤n):x≤isq n:=by
 rcases L4 (isq n) x with c|c
 ·have:=I7 c c
  have:=(W3 n).2
  simp only [Nat.succ_eq_add_one] at*
  omega
 ·exact c
theorem D2s {n:Nat} (h:n≠0):0<isq n:=GX (by omega)
theorem A0b {x n:Nat} (h:n<x*x):isq n<x:=by
 rcases L4 (isq n) x with c|c
 ·exact c
 ·have:=I7 c c
  have:=(W3 n).1
  omega
theorem C5t {a x:Nat} (hx:0<x):isq a≤(a/x+x)/2:=by
 rw [K8 (by decide)]
 rcases L4 (a/x+x) (isq a*2) with c|c
 ·exfalso
  have h0:=MX (a/x)
  obtain ⟨d,hd⟩:∃d,d+x=isq a*2:=⟨isq a*2-x,by omega⟩
  have h1:a/x<d:=by omega
  rw [H0 hx] at h1
  have h2:=(W3 a).1
  have h3:d*x≤isq a*isq a:=by
   generalize isq a=s at hd
   rcases L4 x s with e|e
   ·obtain ⟨k,rfl⟩:∃k,s=x+k:=⟨s-x,by omega⟩
    have:d=x+k+k:=by omega
    subst this
    have e1:(x+k+k)*x=x*x+k*x+k*x:=by rw [H2,H2]
    have e2:(x+k)*(x+k)=x*x+k*x+(x*k+k*k):=by rw [D0,H2,H2]
    have e3:=B6 x k
    have e4:=MX (k*k)
    omega
   ·obtain ⟨k,rfl⟩:∃k,x=s+k:=⟨x-s,by omega⟩
    obtain ⟨m,rfl⟩:∃m,s=m+k:=⟨s-k,by omega⟩
    have:d=m:=by omega
    subst this
    have e1:d*(d+k+k)=d*d+d*k+d*k:=by rw [D0,D0]
    have e2:(d+k)*(d+k)=d*d+k*d+(d*k+k*k):=by rw [D0,H2,H2]
    have e3:=B6 d k
    have e4:=MX (k*k)
    omega
  omega
 ·exact c
theorem B9v {a x:Nat} (hx:0<x) (h:x≤(a/x+x)/2) (hx':isq a≤x):x=isq a:=by
 rw [K8 (by decide)] at h
 have h1:x≤a/x:=by omega
 rw [K8 hx] at h1
 have:=GX h1
 omega
theorem B8r {e k:Nat} (h:e<32*k):(dg (2^e)).length≤k:=J3.2 (I8.2 (N4 (by decide) h))
theorem A93 {a:Nat} (ha:a≠0):isq a≤2^((bl a+1)/2):=by
 refine HX (A0b ?_)
 rw [←B8]
 exact G7 (P9 a) (B3 (by decide) (by omega))
end Go.Dy
namespace Go.AI
open Go Go.RowKit Go.Proofs
set_option linter.unusedVariables false
set_option maxRecDepth 100000
set_option maxHeartbeats 1000000
theorem C9m:G6 Tryz.prog Inv (look D43):=A3 TQ D38
theorem QG (args:List AV) (s:Spec) (h:ZN args=some s) (hp:C6 s.pre True):Contract Tryz.prog Inv 183 args s.res:=by
 unfold ZN at h
 split at h
 ·cases h
  rename_i a b
  refine A4 false C9m Tryz.func183 (by kernel_rfl) (by kernel_rfl) fun hok=> ?_
  have ha:=(E4 hok).1
  have hb:=(E4 (E4 hok).2).1
  rw [A57]
  unfold Dy.UB
  cases hm:Dy.may a&&Dy.may b with
  |false=>exact B5 rfl rfl
  |true=>
   obtain ⟨m1,m2⟩:=Bool.and_eq_true_iff.1 hm
   have l1:=Dy.J4 m1
   have l2:=Dy.J4 m2
   have d1:=Dy.K5 m1
   have d2:=Dy.K5 m2
   refine B1 rfl ?_
   by_cases hb0:b=[]
   ·subst hb0
    exact B5 rfl rfl
   ·have hbl:=X4.2 hb0
    have hv0:Dy.val b≠0:=fun e=>hb0 ((Dy.IK m2).1 e)
    rw [if_pos rfl,if_neg hv0]
    refine B1 (decide_eq_false (by omega)) ⟨⟨d1,d2⟩,A8 (fun h=> ?_) (fun h=> ?_)⟩
    ·have h:=Dy.GQ.1 (A1 h)
     refine ⟨by omega,?_⟩
     rw [L9 h,F9 h,d1]
     rfl
    ·have h:¬Dy.val a<Dy.val b:=fun c=>absurd (Dy.GQ.2 c) (A0 h)
     refine A8 (fun h1=> ?_) (fun h1=> ?_)
     ·have h1:=A1 h1
      have hl1:b.length=1:=by omega
      match b,hl1 with
      |[d],_=>
       have hd:=(Dy.O9.1 hb.2).1
       have hv:Dy.val [d]=d:=by simp [Dy.val]
       rw [hv] at hv0 ⊢
       have e:([d]:List Nat).getD 0 0=d:=rfl
       rw [e,A2]
       refine ⟨⟨by omega,by simp⟩,⟨by omega,by omega⟩,?_⟩
       rintro _ rfl _ rfl
       rw [A2]
       simp [Dy.val]
     ·have h1:=A0 h1
      have hba:b.length≤a.length:=by
       have:=Dy.CY (Nat.le_of_not_lt h)
       rwa [d1,d2] at this
      refine ⟨⟨d1,d2,by omega,hba,by omega⟩,?_⟩
      rintro _ rfl _ rfl
      rfl
 ·cases h
theorem C9n:G6 Tryz.prog Inv (look XS):=A3 TQ QG
theorem B30:L6 Tryz.prog (look XS) II 1 88 TA (D8 Tryz.f146 1) C96:=by
 intro vals r h K hK
 unfold C96 at h
 split at h
 ·cases h
  rename_i a r b e x q o c k i
  simp only [j0] at hK
  obtain ⟨⟨hx,hq,ho,hxl,hql,hol,rfl,rfl,rfl⟩,hK⟩:=hK
  generalize hn:o.length=n at*
  have key:∀(u j c:Nat) (o:List Nat),n=u+j→o.length=n→Dy.D1 o→c≤1→Dy.val (o.take j)+2^(32*j)*(c+Dy.val (q.drop j)+Dy.val (x.drop j))=Dy.val q+Dy.val x→
    ∃m,P4 Tryz.prog (look XS) II 1 88 TA (D8 Tryz.f146 1) m [.dig [1,2] a,.dig [2] r,.bool b,.num .i64 e,.dig [2] x,.dig [2] q,.grown 152 o,.num .u32 c,.num .i64 n,.num .i64 j] K:=by
   intro u
   induction u with
   |zero=>
    intro j c o hj hol hod hc hv
    refine D4 ?_
    rw [QS]
    refine B1 (decide_eq_false (by omega)) ?_
    simp only [Dy.OT x (show x.length≤j by omega),Dy.OT q (show q.length≤j by omega),I4] at hv
    have hjn:j=n:=by omega
    subst hjn
    rw [List.take_of_length_le (by omega)] at hv
    have hlt:Dy.val q+Dy.val x<2^(32*j):=by
     have h1:=Dy.I0 hx
     have h2:=Dy.I0 hq
     have hp1:2^(32*x.length)*2≤2^(32*j):=by
      rw [←I5];exact B3 (by decide) (by omega)
     have hp2:2^(32*q.length)*2≤2^(32*j):=by
      rw [←I5];exact B3 (by decide) (by omega)
     omega
    have hc0:c=0:=by
     rcases j9 c with h|h
     ·exact h
     ·have:=Nat.le_mul_of_pos_right (2^(32*j)) h
      omega
    subst hc0
    have ho:o=Dy.dgN j (Dy.val q+Dy.val x):=by
     rw [←hv,O3,I4]
     exact (Dy.CW hod hol).symm
    rw [ho]
    exact hK
   |succ u ih=>
    intro j c o hj hol hod hc hv
    rw [Dy.I1 q,Dy.I1 x] at hv
    have hset:=Dy.y7 (l:=o) (i:=j) (d:=(q.getD j 0+x.getD j 0+c)%4294967296) (by omega)
    have hb1:=Dy.E5 hq j
    have hb2:=Dy.E5 hx j
    obtain ⟨m,hm⟩:=ih (j+1) ((q.getD j 0+x.getD j 0+c)/4294967296) (o.set j ((q.getD j 0+x.getD j 0+c)%4294967296)) (by omega) (by simpa using hol) (Dy.BJ hod (by omega)) (by omega) (by
      rw [hset,Dy.J6,B9,Nat.add_assoc,←D0,←hv]
      congr 2
      omega)
    refine E9 m ?_
    rw [QS]
    have e1:∀y z:Nat,(((y:Int)+(z:Int)+(c:Int))%4294967296).toNat=(y+z+c)%4294967296:=fun y z=>by omega
    have e2:∀y z:Nat,((y:Int)+(z:Int)+(c:Int))/4294967296=(((y+z+c)/4294967296:Nat):Int):=fun y z=>by omega
    have z1:q.length≤j→q.getD j 0=0:=fun h=>by rw [D7,M1 (by omega)];rfl
    have z2:x.length≤j→x.getD j 0=0:=fun h=>by rw [D7,M1 (by omega)];rfl
    have fin:∀y z:Nat,y=q.getD j 0→z=x.getD j 0→∀n1:Int,n1=((y:Int)+(z:Int)+(c:Int))%4294967296→∀n2:Int,n2=((y:Int)+(z:Int)+(c:Int))/4294967296→
      ((0:Int)≤(j:Int)∧(j:Int)<(o.length:Int))∧((j:Int)).toNat<o.length∧
      P4 Tryz.prog (look XS) II 1 88 TA (D8 Tryz.f146 1) m [.dig [1,2] a,.dig [2] r,.bool b,.num .i64 e,.dig [2] x,.dig [2] q,.grown 152 (o.set ((j:Int)).toNat n1.toNat),.num .u32 n2,.num .i64 n,.num .i64 (IntKind.i64.wrap ((j:Int)+1))] K:=by
     rintro y z rfl rfl _ rfl _ rfl
     rw [A2,e1,e2,wrap_i64 (by omega) (by omega)]
     exact ⟨by omega,by omega,hm⟩
    refine B5 (decide_eq_true (by omega)) (A8 (fun h=> ?_) (fun h=> ?_))
    ·have h:=A1 h
     refine ⟨by omega,A8 (fun h'=> ?_) (fun h'=> ?_)⟩
     ·have h':=A1 h'
      exact ⟨by omega,fin _ _ rfl rfl⟩
     ·have h':=A0 h'
      exact fin _ 0 rfl (z2 (by omega)).symm
    ·have h:=A0 h
     refine A8 (fun h'=> ?_) (fun h'=> ?_)
     ·have h':=A1 h'
      exact ⟨by omega,fin 0 _ (z1 (by omega)).symm rfl⟩
     ·have h':=A0 h'
      exact fin 0 0 (z1 (by omega)).symm (z2 (by omega)).symm
  exact key n 0 0 o (by omega) hn (by rw [ho];exact Dy.P2 _) (by omega) (by simp [Dy.val])
 ·cases h
theorem B2z:L6 Tryz.prog (look XS) II 1 88 A0e (D8 Tryz.f146 0) B9k:=by
 intro vals r h K hK
 unfold B9k at h
 split at h
 ·cases h
  rename_i a r b e x
  simp only [j0] at hK
  obtain ⟨⟨hm,ha,hx,hxl,hx0,hge⟩,hK⟩:=hK
  have hav:Dy.val a≠0:=fun c=>ha ((Dy.IK hm).1 c)
  generalize hv:Dy.val x=v at*
  induction v using Nat.strongRecOn generalizing x with
  |_ v ih=>
   have hxd:Dy.D1 x:=by rw [←hx];exact Dy.x8 _
   have hv0:0<v:=by
    rcases j9 v with c|c
    ·exfalso;rw [c,Dy.O0] at hx;exact hx0 hx.symm
    ·exact c
   have hmx:Dy.may x=true:=Dy.TI.2 ⟨hxl,by rw [hv];exact hx⟩
   have hq:Dy.UB a x=⟨Dy.dg (Dy.val a/v),Dy.dg (Dy.val a%v),0⟩:=by
    unfold Dy.UB
    rw [hm,hmx,hv]
    exact (if_pos rfl).trans (if_neg (by omega))
   have hql:(Dy.dg (Dy.val a/v)).length≤a.length:=by
    have:=Dy.CY (L1 (Dy.val a) v)
    rwa [Dy.K5 hm] at this
   have hal:=Dy.J4 hm
   obtain ⟨n,hn,hn1,hn2⟩:∃n:Nat,(if (x.length:Int)>((Dy.dg (Dy.val a/v)).length:Int) then (x.length:Int) else ((Dy.dg (Dy.val a/v)).length:Int))+1=(n:Int)∧x.length<n∧(Dy.dg (Dy.val a/v)).length<n∧n≤4097:=by
    refine ⟨max x.length (Dy.dg (Dy.val a/v)).length+1,?_,by omega,by omega,by omega⟩
    split<;>omega
   have hw:IntKind.i64.wrap ((if (x.length:Int)>((Dy.dg (Dy.val a/v)).length:Int) then (x.length:Int) else ((Dy.dg (Dy.val a/v)).length:Int))+1)=(n:Int):=by
    rw [hn];exact wrap_i64 (by omega) (by omega)
   have hlt:Dy.val a/v+v<2^(32*n):=by
    have h1:=Dy.I0 hxd
    have h2:=Dy.I0 (Dy.x8 (Dy.val a/v))
    rw [Dy.E3] at h2
    rw [hv] at h1
    have hp1:2^(32*x.length)*2≤2^(32*n):=by
     rw [←I5];exact B3 (by decide) (by omega)
    have hp2:2^(32*(Dy.dg (Dy.val a/v)).length)*2≤2^(32*n):=by
     rw [←I5];exact B3 (by decide) (by omega)
    omega
   have hs:Dy.val (Dy.dgN n (Dy.val a/v+v))=Dy.val a/v+v:=by rw [Dy.X6,F9 hlt]
   have hsl:(Dy.dg (Dy.val a/v+v)).length≤n:=Dy.M5.2 hlt
   have hy:=Dy.C5t (a:=Dy.val a) hv0
   by_cases c:v≤(Dy.val a/v+v)/2
   ·have hvi:=Dy.B9v hv0 c hge
    refine D4 ?_
    rw [QR]
    intro l1 h1 l2 h2 n3 h3
    rw [hq] at h1
    have h1:l1=Dy.dg (Dy.val a/v):=h1
    subst h1
    rw [hw,A2,U0,hv,Dy.E3,hs,Dy.E3,Dy.E3,Dy.E3]
    refine ⟨⟨by omega,by omega,by omega⟩,⟨hxd,Dy.x8 _,rfl,hn1,hn2.1,by omega,rfl,rfl,rfl⟩,⟨by omega,by omega⟩,⟨rfl,hx⟩,?_⟩
    refine B5 (decide_eq_true ?_) ⟨⟨by omega,by omega⟩,⟨rfl,Dy.K5 hm⟩,?_⟩
    ·unfold Dy.v8
     rw [if_neg (by omega)]
     split<;>omega
    ·have e1:x=Dy.dg (Dy.isq (Dy.val a)):=by rw [←hvi];exact hx.symm
     have e2:(Dy.v8 (v*v) (Dy.val a)==(0:Int))=decide (Dy.isq (Dy.val a)*Dy.isq (Dy.val a)=Dy.val a):=by
      rw [←hvi]
      have:=(Dy.W3 (Dy.val a)).1
      rw [←hvi] at this
      unfold Dy.v8
      by_cases d:v*v=Dy.val a
      ·rw [if_neg (by omega),if_neg (by omega),decide_eq_true d];rfl
      ·rw [if_pos (by omega),decide_eq_false d];rfl
     rw [e2,e1]
     exact hK
   ·obtain ⟨m,hm'⟩:=ih ((Dy.val a/v+v)/2) (by omega) (Dy.dg ((Dy.val a/v+v)/2)) (by
      have:=Dy.CY (show (Dy.val a/v+v)/2≤v by omega)
      rw [hx] at this
      omega) (by
      intro c'
      have:=Dy.T6.1 c'
      have:=Dy.D2s hav
      omega) (Dy.E3 _) rfl hy
    refine E9 m ?_
    rw [QR]
    intro l1 h1 l2 h2 n3 h3
    rw [hq] at h1
    have h1:l1=Dy.dg (Dy.val a/v):=h1
    subst h1
    rw [hw,A2,U0,hv,Dy.E3,hs,Dy.E3,Dy.E3,Dy.E3]
    refine ⟨⟨by omega,by omega,by omega⟩,⟨hxd,Dy.x8 _,rfl,hn1,hn2.1,by omega,rfl,rfl,rfl⟩,⟨by omega,by omega⟩,⟨rfl,hx⟩,?_⟩
    refine B1 (decide_eq_false ?_) hm'
    unfold Dy.v8
    rw [if_pos (by omega)]
    decide
 ·cases h
theorem B3z (args:List AV) (s:Spec) (h:C1p args=some s) (hp:C6 s.pre True):Contract Tryz.prog Inv 146 args s.res:=by
 unfold C1p at h
 split at h
 ·cases h
  rename_i a
  refine E8 false 88 II C9n Tryz.func146 (by kernel_rfl) rfl (A8w (by kernel_rfl) (by kernel_rfl) B2z (by kernel_rfl) B30) fun hok=> ?_
  rw [B74]
  unfold Dy.HG
  cases hm:Dy.may a with
  |false=>exact B5 rfl rfl
  |true=>
   refine B1 rfl ?_
   by_cases ha:a=[]
   ·subst ha
    exact B5 rfl rfl
   ·have hl:=X4.2 ha
    have hav:Dy.val a≠0:=fun c=>ha ((Dy.IK hm).1 c)
    have hbl:=Dy.J4 hm
    have hb:Dy.bl (Dy.val a)≤131072:=by
     have:=(Dy.J3 (n:=Dy.val a) (k:=4096)).1 (by rw [Dy.K5 hm];exact hbl)
     omega
    have e0:Dy.F3 a=Dy.bl (Dy.val a):=by unfold Dy.F3;rw [hm];rfl
    rw [e0]
    have e1:IntKind.i64.wrap ((IntKind.i64.wrap (((Dy.bl (Dy.val a):Nat):Int)+1)).tdiv 2)=(((Dy.bl (Dy.val a)+1)/2:Nat):Int):=by
     rw [wrap_i64 (n:=((Dy.bl (Dy.val a):Nat):Int)+1) (by omega) (by omega),N8 (by omega),wrap_i64 (by omega) (by omega)]
     omega
    rw [e1,A2,Q2,Dy.E3]
    refine B1 (decide_eq_false (by omega)) ⟨⟨by omega,by omega,by omega⟩,⟨rfl,ha,rfl,?_,?_,Dy.A93 hav⟩,rfl⟩
    ·exact Dy.B8r (by omega)
    ·intro c
     have:=Dy.T6.1 c
     have:=A9 ((Dy.bl (Dy.val a)+1)/2)
     omega
 ·cases h
end Go.AI

namespace Go.AI
open Go Go.RowKit Go.Proofs
set_option linter.unusedVariables false
def A1x:List AV→Option Spec
 |[.dig [1] a,.num .u32 d]=>some ⟨some (0<d∧a.length≤100000),.tup [.dig [0] (Dy.dg (Dy.val a/d.toNat)),.dig [0] (Dy.dg (Dy.val a%d.toNat))]⟩
 |_=>none
def B0a:List AV→Option Spec
 |[.dig [1] a,.dig [2] b]=>some ⟨some (Dy.dg (Dy.val a)=a∧Dy.dg (Dy.val b)=b∧b≠[]∧a.length≤100000∧b.length≤100000),.tup [.dig [0] (Dy.dg (Dy.val a/Dy.val b)),.dig [0] (Dy.dg (Dy.val a%Dy.val b))]⟩
 |_=>none
def C12:List AV→Option Spec
 |[.dig [1] a]=>some ⟨some (Dy.dg (Dy.val a)=a∧a.length≤100000),.tup [.dig [0] (Dy.dg (Dy.isq (Dy.val a))),.bool (decide (Dy.isq (Dy.val a)*Dy.isq (Dy.val a)=Dy.val a))]⟩
 |_=>none
def A70:List (Nat×(List AV→Option Spec)):=(146,C1p)::(183,ZN)::D41
def MG:List (Nat×(List AV→Option Spec)):=(219,A1x)::A70
def D1f:List (Nat×(List AV→Option Spec)):=(213,B0a)::(97,C12)::MG
theorem B53:G6 Tryz.prog Inv (look A70):=A3 (A3 C9h QG) B3z
end Go.AI

namespace Go.AI
open Dy IntKind
open Go Go.RowKit Go.Proofs
set_option linter.unusedVariables false
set_option maxRecDepth 100000
set_option maxHeartbeats 0
def C8w:List AV→Option LR
 |[.dig [1,2,3] a,.num .u32 d,.grown 152 o,.num .u64 c,.num .i64 i]=>
 some (.need (Dy.okl a∧0<d∧d<4294967296∧o=B2 a.length 0∧c=0∧i=a.length-1)
 (.done (.exit 0) [.dig [1,2,3] a,.num .u32 d,.grown 152 (Dy.dgN a.length (Dy.val a/d.toNat)),.num .u64 (Dy.val a%d.toNat:Nat),.num .i64 (-1)]))
 |_=>none
def ZD:List (Nat×Keep):=[(0,.same),(1,.same),(6,.same),(7,.same),(8,.same)]
def A0g:=lam [(4,.spec ZD C8w)]
theorem C29 (a:List Nat) (d:Int) (Q:AV→Prop):(evF Tryz.prog (look A70) A0g false Tryz.f219 [.dig [1] a,.num .u32 d] Q)=(((0:Int)≤(↑a.length:Int)∧(↑a.length:Int)≤(↑a.length:Int)∧(↑a.length:Int)≤2^(40:Nat))∧(okl a∧0<d∧d<4294967296∧B2 (↑a.length:Int).toNat (0:Nat)=B2 a.length (0:Nat)∧(0:Int)=0∧i64.wrap ((↑a.length:Int)-1)=(↑a.length:Int)-1)∧Q (.tup [.dig [0] (dg (val (dgN a.length (val a/d.toNat)))),.dig [0] (dg (↑(val a%d.toNat):Int).toNat)])):=by kernel_rfl
theorem UU (a:List Nat) (o:List Nat) (d:Int) (c:Int) (i:Int) (K:Exit→List AV→Prop):(M7 Tryz.prog (look A70) A0g (2:Nat) (43:Nat) ZD (D8 Tryz.f219 (0:Nat)) [.dig [1,2,3] a,.num .u32 d,.grown (152:TypeId) o,.num .u64 c,.num .i64 i] K)=(bif decide (i≥0) then (0≤i∧i<(↑a.length:Int))∧u64.wrap d≠0∧(0≤i∧i<(↑o.length:Int))∧i.toNat<o.length∧u64.wrap d≠0∧K Exit.normal [.dig [1,2,3] a,.num .u32 d,.grown (152:Nat) (o.set i.toNat (u32.wrap (u64.wrap ((u64.wrap (↑(A7 (64:Nat) (u64.wrap (c*2^(32:Nat)))|||A7 (64:Nat) (u64.wrap (↑(a.getD i.toNat (0:Nat)):Int))).toNat:Int)).tdiv (u64.wrap d)))).toNat),.num .u64 ((u64.wrap (↑(A7 (64:Nat) (u64.wrap (c*2^(32:Nat)))|||A7 (64:Nat) (u64.wrap (↑(a.getD i.toNat (0:Nat)):Int))).toNat:Int)).tmod (u64.wrap d)),.num .i64 (i64.wrap (i-1))] else K (Exit.exit (0:Nat)) [.dig [1,2,3] a,.num .u32 d,.grown (152:Nat) o,.num .u64 c,.num .i64 i]):=by kernel_rfl
def D52:List AV→Option LR
 |[.dig [1,2,3] a,.dig [1,2,3] b,.grown 152 q,.dig [3] r,.num .i64 i]=>
 some (.need (Dy.dg (Dy.val a)=a∧Dy.dg (Dy.val b)=b∧Dy.val b≠0∧a.length≤100000∧b.length≤100000∧ -1≤i∧i<32*a.length∧q=B2 a.length 0∧r=Dy.dg (Dy.val a/2^(i+1).toNat)∧Dy.val a/2^(i+1).toNat<Dy.val b)
 (.done (.exit 0) [.dig [1,2,3] a,.dig [1,2,3] b,.grown 152 (Dy.dgN a.length (Dy.val a/Dy.val b)),.dig [3] (Dy.dg (Dy.val a%Dy.val b)),.num .i64 (-1)]))
 |_=>none
def VZ:List (Nat×Keep):=[(0,.same),(1,.same),(6,.same),(8,.same),(10,.same)]
def A0j:=lam [(7,.spec VZ D52)]
theorem B1i (a:List Nat) (b:List Nat) (Q:AV→Prop):(evF Tryz.prog (look MG) A0j false Tryz.f213 [.dig [1] a,.dig [2] b] Q)=(bif decide ((↑b.length:Int)=1) then ((0:Int)≤0∧(0:Int)<(↑b.length:Int))∧((0:Int)<(↑(b.getD (0:Nat) (0:Nat)):Int)∧a.length≤100000)∧∀(l1:List Nat),l1=dg (val a/(↑(b.getD (0:Nat) (0:Nat)):Int).toNat)→∀(l2:List Nat),l2=dg (val a%(↑(b.getD (0:Nat) (0:Nat)):Int).toNat)→Q (.tup [.dig [0] l1,.dig [0] l2]) else ((0:Int)≤(↑a.length:Int)∧(↑a.length:Int)≤(↑a.length:Int)∧(↑a.length:Int)≤2^(40:Nat))∧(dg (val a)=a∧a.length≤1048576)∧(dg (val b)=b∧b.length≤1048576)∧(dg (val a)=a∧(0≤if i64.wrap (i64.wrap ((↑(bl (val a)):Int)-(↑(bl (val b)):Int))+1)>0 then i64.wrap (i64.wrap ((↑(bl (val a)):Int)-(↑(bl (val b)):Int))+1) else (0:Int))∧a.length≤1048576)∧∀(l3:List Nat),l3=dg (val a/2^(if i64.wrap (i64.wrap ((↑(bl (val a)):Int)-(↑(bl (val b)):Int))+1)>0 then i64.wrap (i64.wrap ((↑(bl (val a)):Int)-(↑(bl (val b)):Int))+1) else (0:Int)).toNat)→∀b4,b4=decide (val a≠0∧(↑(tz (val a)):Int)<if i64.wrap (i64.wrap ((↑(bl (val a)):Int)-(↑(bl (val b)):Int))+1)>0 then i64.wrap (i64.wrap ((↑(bl (val a)):Int)-(↑(bl (val b)):Int))+1) else (0:Int))→(dg (val a)=a∧dg (val b)=b∧val b≠0∧a.length≤100000∧b.length≤100000∧(-1:Int)≤i64.wrap ((if i64.wrap (i64.wrap ((↑(bl (val a)):Int)-(↑(bl (val b)):Int))+1)>0 then i64.wrap (i64.wrap ((↑(bl (val a)):Int)-(↑(bl (val b)):Int))+1) else (0:Int))-1)∧i64.wrap ((if i64.wrap (i64.wrap ((↑(bl (val a)):Int)-(↑(bl (val b)):Int))+1)>0 then i64.wrap (i64.wrap ((↑(bl (val a)):Int)-(↑(bl (val b)):Int))+1) else (0:Int))-1)<32*(↑a.length:Int)∧B2 (↑a.length:Int).toNat (0:Nat)=B2 a.length (0:Nat)∧l3=dg (val a/2^(i64.wrap ((if i64.wrap (i64.wrap ((↑(bl (val a)):Int)-(↑(bl (val b)):Int))+1)>0 then i64.wrap (i64.wrap ((↑(bl (val a)):Int)-(↑(bl (val b)):Int))+1) else (0:Int))-1)+1).toNat)∧val a/2^(i64.wrap ((if i64.wrap (i64.wrap ((↑(bl (val a)):Int)-(↑(bl (val b)):Int))+1)>0 then i64.wrap (i64.wrap ((↑(bl (val a)):Int)-(↑(bl (val b)):Int))+1) else (0:Int))-1)+1).toNat<val b)∧Q (.tup [.dig [0] (dg (val (dgN a.length (val a/val b)))),.dig [0] (dg (val a%val b))])):=by kernel_rfl
theorem AR (a:List Nat) (b:List Nat) (q:List Nat) (r:List Nat) (i:Int) (K:Exit→List AV→Prop):(M7 Tryz.prog (look MG) A0j (2:Nat) (75:Nat) VZ (D8 Tryz.f213 (0:Nat)) [.dig [1,2,3] a,.dig [1,2,3] b,.grown (152:TypeId) q,.dig [3] r,.num .i64 i] K)=(bif decide (i≥0) then ((0:Int)≤1∧(1:Int)≤33554432∧r.length≤1048576)∧bif decide ((↑(if i<0 then (0:Nat) else val a/2^i.toNat%2):Int)=1) then ((dg (val r*2)).length≤1048576∧(1:Nat)≤1048576)∧(dg (val (dg (val (dg (val r*2))+1)))=dg (val (dg (val r*2))+1)∧dg (val b)=b)∧bif decide (v8 (val (dg (val (dg (val r*2))+1))) (val b)≥0) then (val b≤val (dg (val (dg (val r*2))+1))∧(dg (val (dg (val r*2))+1)).length≤1048576)∧((0:Int)≤i64.wrap (i.tdiv (32:Int))∧i64.wrap (i.tdiv (32:Int))<(↑q.length:Int))∧(i64.wrap (i.tdiv (32:Int))).toNat<q.length∧0≤i.tmod (32:Int)∧((0:Int)≤i64.wrap (i.tdiv (32:Int))∧i64.wrap (i.tdiv (32:Int))<(↑q.length:Int))∧(i64.wrap (i.tdiv (32:Int))).toNat<q.length∧K Exit.normal [.dig [1,2,3] a,.dig [1,2,3] b,.grown (152:Nat) (q.set (i64.wrap (i.tdiv (32:Int))).toNat (u32.wrap (↑(A7 (32:Nat) (↑(q.getD (i64.wrap (i.tdiv (32:Int))).toNat (0:Nat)):Int)|||A7 (32:Nat) (u32.wrap ((1:Int)*2^min (i.tmod (32:Int)).toNat (32:Nat)))).toNat:Int)).toNat),.dig [3] (dg (val (dg (val (dg (val r*2))+1))-val b)),.num .i64 (i64.wrap (i-1))] else K Exit.normal [.dig [1,2,3] a,.dig [1,2,3] b,.grown (152:Nat) q,.dig [3] (dg (val (dg (val r*2))+1)),.num .i64 (i64.wrap (i-1))] else (dg (val (dg (val r*2)))=dg (val r*2)∧dg (val b)=b)∧bif decide (v8 (val (dg (val r*2))) (val b)≥0) then (val b≤val (dg (val r*2))∧(dg (val r*2)).length≤1048576)∧((0:Int)≤i64.wrap (i.tdiv (32:Int))∧i64.wrap (i.tdiv (32:Int))<(↑q.length:Int))∧(i64.wrap (i.tdiv (32:Int))).toNat<q.length∧0≤i.tmod (32:Int)∧((0:Int)≤i64.wrap (i.tdiv (32:Int))∧i64.wrap (i.tdiv (32:Int))<(↑q.length:Int))∧(i64.wrap (i.tdiv (32:Int))).toNat<q.length∧K Exit.normal [.dig [1,2,3] a,.dig [1,2,3] b,.grown (152:Nat) (q.set (i64.wrap (i.tdiv (32:Int))).toNat (u32.wrap (↑(A7 (32:Nat) (↑(q.getD (i64.wrap (i.tdiv (32:Int))).toNat (0:Nat)):Int)|||A7 (32:Nat) (u32.wrap ((1:Int)*2^min (i.tmod (32:Int)).toNat (32:Nat)))).toNat:Int)).toNat),.dig [3] (dg (val (dg (val r*2))-val b)),.num .i64 (i64.wrap (i-1))] else K Exit.normal [.dig [1,2,3] a,.dig [1,2,3] b,.grown (152:Nat) q,.dig [3] (dg (val r*2)),.num .i64 (i64.wrap (i-1))] else K (Exit.exit (0:Nat)) [.dig [1,2,3] a,.dig [1,2,3] b,.grown (152:Nat) q,.dig [3] r,.num .i64 i]):=by kernel_rfl
def D53:List AV→Option LR
 |[.dig [1,2] a,.dig [2] r,.dig [2] s,.num .i64 i]=>
 some (.need (Dy.dg (Dy.val a)=a∧a.length≤100000∧r=[]∧s=[]∧ -2≤i∧i%2=0∧(Dy.bl (Dy.val a):Int)≤i+2∧i≤4000000)
 (.done (.exit 0) [.dig [1,2] a,.dig [2] (Dy.dg (Dy.isq (Dy.val a))),.dig [2] (Dy.dg (Dy.val a-Dy.isq (Dy.val a)*Dy.isq (Dy.val a))),.num .i64 (-2)]))
 |_=>none
def A8f:List (Nat×Keep):=[(0,.same),(4,.same),(5,.same),(7,.same)]
def B2u:=lam [(6,.spec A8f D53)]
theorem C2y (a:List Nat) (Q:AV→Prop):(evF Tryz.prog (look MG) B2u false Tryz.f97 [.dig [1] a] Q)=((dg (val a)=a∧a.length≤1048576)∧bif decide ((↑(bl (val a)):Int).tmod (2:Int)=1) then (dg (val a)=a∧a.length≤100000∧([]:List Nat)=[]∧([]:List Nat)=[]∧(-2:Int)≤i64.wrap (i64.wrap ((↑(bl (val a)):Int)+1)-2)∧i64.wrap (i64.wrap ((↑(bl (val a)):Int)+1)-2)%2=0∧(↑(bl (val a)):Int)≤i64.wrap (i64.wrap ((↑(bl (val a)):Int)+1)-2)+2∧i64.wrap (i64.wrap ((↑(bl (val a)):Int)+1)-2)≤4000000)∧Q (.tup [.dig [0] (dg (isq (val a))),.bool ((↑(dg (val a-isq (val a)*isq (val a))).length:Int)==(0:Int))]) else (dg (val a)=a∧a.length≤100000∧([]:List Nat)=[]∧([]:List Nat)=[]∧(-2:Int)≤i64.wrap ((↑(bl (val a)):Int)-2)∧i64.wrap ((↑(bl (val a)):Int)-2)%2=0∧(↑(bl (val a)):Int)≤i64.wrap ((↑(bl (val a)):Int)-2)+2∧i64.wrap ((↑(bl (val a)):Int)-2)≤4000000)∧Q (.tup [.dig [0] (dg (isq (val a))),.bool ((↑(dg (val a-isq (val a)*isq (val a))).length:Int)==(0:Int))])):=by kernel_rfl
theorem VB (a:List Nat) (r:List Nat) (s:List Nat) (i:Int) (K:Exit→List AV→Prop):(M7 Tryz.prog (look MG) B2u (1:Nat) (56:Nat) A8f (D8 Tryz.f97 (0:Nat)) [.dig [1,2] a,.dig [2] r,.dig [2] s,.num .i64 i] K)=(bif decide (i≥0) then ((0:Int)≤2∧(2:Int)≤33554432∧s.length≤1048576)∧((dg (val s*4)).length≤1048576∧(dg (u64.wrap (u32.wrap (u32.wrap ((2:Int)*(↑(if i64.wrap (i+1)<0 then (0:Nat) else val a/2^(i64.wrap (i+1)).toNat%2):Int))+(↑(if i<0 then (0:Nat) else val a/2^i.toNat%2):Int)))).toNat).length≤1048576)∧((0:Int)≤2∧(2:Int)≤33554432∧r.length≤1048576)∧((dg (val r*4)).length≤1048576∧(1:Nat)≤1048576)∧((0:Int)≤1∧(1:Int)≤33554432∧r.length≤1048576)∧(dg (val (dg (val (dg (val s*4))+val (dg (u64.wrap (u32.wrap (u32.wrap ((2:Int)*(↑(if i64.wrap (i+1)<0 then (0:Nat) else val a/2^(i64.wrap (i+1)).toNat%2):Int))+(↑(if i<0 then (0:Nat) else val a/2^i.toNat%2):Int)))).toNat))))=dg (val (dg (val s*4))+val (dg (u64.wrap (u32.wrap (u32.wrap ((2:Int)*(↑(if i64.wrap (i+1)<0 then (0:Nat) else val a/2^(i64.wrap (i+1)).toNat%2):Int))+(↑(if i<0 then (0:Nat) else val a/2^i.toNat%2):Int)))).toNat))∧dg (val (dg (val (dg (val r*4))+1)))=dg (val (dg (val r*4))+1))∧bif decide (v8 (val (dg (val (dg (val s*4))+val (dg (u64.wrap (u32.wrap (u32.wrap ((2:Int)*(↑(if i64.wrap (i+1)<0 then (0:Nat) else val a/2^(i64.wrap (i+1)).toNat%2):Int))+(↑(if i<0 then (0:Nat) else val a/2^i.toNat%2):Int)))).toNat)))) (val (dg (val (dg (val r*4))+1)))≥0) then (val (dg (val (dg (val r*4))+1))≤val (dg (val (dg (val s*4))+val (dg (u64.wrap (u32.wrap (u32.wrap ((2:Int)*(↑(if i64.wrap (i+1)<0 then (0:Nat) else val a/2^(i64.wrap (i+1)).toNat%2):Int))+(↑(if i<0 then (0:Nat) else val a/2^i.toNat%2):Int)))).toNat)))∧(dg (val (dg (val s*4))+val (dg (u64.wrap (u32.wrap (u32.wrap ((2:Int)*(↑(if i64.wrap (i+1)<0 then (0:Nat) else val a/2^(i64.wrap (i+1)).toNat%2):Int))+(↑(if i<0 then (0:Nat) else val a/2^i.toNat%2):Int)))).toNat))).length≤1048576)∧((dg (val r*2)).length≤1048576∧(1:Nat)≤1048576)∧K Exit.normal [.dig [1,2] a,.dig [2] (dg (val (dg (val r*2))+1)),.dig [2] (dg (val (dg (val (dg (val s*4))+val (dg (u64.wrap (u32.wrap (u32.wrap ((2:Int)*(↑(if i64.wrap (i+1)<0 then (0:Nat) else val a/2^(i64.wrap (i+1)).toNat%2):Int))+(↑(if i<0 then (0:Nat) else val a/2^i.toNat%2):Int)))).toNat)))-val (dg (val (dg (val r*4))+1)))),.num .i64 (i64.wrap (i-2))] else K Exit.normal [.dig [1,2] a,.dig [2] (dg (val r*2)),.dig [2] (dg (val (dg (val s*4))+val (dg (u64.wrap (u32.wrap (u32.wrap ((2:Int)*(↑(if i64.wrap (i+1)<0 then (0:Nat) else val a/2^(i64.wrap (i+1)).toNat%2):Int))+(↑(if i<0 then (0:Nat) else val a/2^i.toNat%2):Int)))).toNat))),.num .i64 (i64.wrap (i-2))] else K (Exit.exit (0:Nat)) [.dig [1,2] a,.dig [2] r,.dig [2] s,.num .i64 i]):=by kernel_rfl
end Go.AI

namespace Go.Dy
theorem A7l (A c:Nat):A/2^c=2*(A/2^(c+1))+A/2^c%2:=by
 rw [I5,←Nat.div_div_eq_div_mul]
 omega
theorem D3f {B Q R X X' b:Nat} (hX:X=B*Q+R) (hR:R<B) (hX':X'=2*X+b) (hb:b<2):
  (B≤2*R+b→X'/B=2*Q+1∧X'%B=2*R+b-B)∧(2*R+b<B→X'/B=2*Q∧X'%B=2*R+b):=by
 have e:X'=2*R+b+B*(2*Q):=by
  rw [hX',hX,D0,M9]
  omega
 constructor
 ·intro h
  have e2:X'=(2*R+b-B)+B*(2*Q+1):=by rw [e,D0 B,M0];omega
  rw [e2,AL _ _ (by omega),DV,L9 (by omega),F9 (by omega)]
  omega
 ·intro h
  rw [e,AL _ _ (by omega),DV,L9 h,F9 h]
  omega
theorem D3g {q:List Nat} {c Q:Nat} (hq:D1 q) (hc:c<32*q.length) (hv:val q=Q*2^(c+1)):
  (q.getD (c/32) 0|||2^(c%32))<4294967296∧val (q.set (c/32) (q.getD (c/32) 0|||2^(c%32)))=val q+2^c:=by
 have hd:q.getD (c/32) 0=(Q%2^(31-c%32))*2^(c%32+1):=by
  rw [A05 hq,hv,show c+1=(c%32+1)+32*(c/32) by omega,B8,←B9,KI _ (A9 _)]
  rw [show (4294967296:Nat)=2^(31-c%32)*2^(c%32+1) by rw [←B8,show 31-c%32+(c%32+1)=32 by omega]]
  rw [DW]
 have ho:q.getD (c/32) 0|||2^(c%32)=q.getD (c/32) 0+2^(c%32):=by
  rw [hd]
  have h1:2^(c%32)<2^(c%32+1):=N4 (by decide) (by omega)
  rw [B6,←Nat.two_pow_add_eq_or_of_lt h1]
 have hlt:=E5 hq (c/32)
 have hp:2^(c%32)<4294967296:=G7 (N4 (n:=32) (by decide) (R5 _ (by decide))) (by decide)
 refine ⟨Nat.or_lt_two_pow (n:=32) (by omega) (by omega),?_⟩
 have hs:=C50 (l:=q) (i:=c/32) (d:=q.getD (c/32) 0|||2^(c%32)) (by omega)
 rw [ho,D0,←B8,show 32*(c/32)+c%32=c by omega] at hs
 rw [ho]
 omega
theorem GV {x n:Nat} (h1:x*x≤n) (h2:n<(x+1)*(x+1)):isq n=x:=by
 have:=GX h1
 have:=A0b h2
 omega
theorem D0i {X X' b:Nat} (hX':X'=4*X+b) (hb:b<4):
  4*(X-isq X*isq X)+b≤X'∧(4*isq X+1≤4*(X-isq X*isq X)+b→isq X'=2*isq X+1∧X'-isq X'*isq X'=4*(X-isq X*isq X)+b-(4*isq X+1))∧
  (4*(X-isq X*isq X)+b<4*isq X+1→isq X'=2*isq X∧X'-isq X'*isq X'=4*(X-isq X*isq X)+b):=by
 obtain ⟨h1,h2⟩:=W3 X
 generalize isq X=R at*
 have e0:(R+1)*(R+1)=R*R+2*R+1:=by rw [H2,D0];omega
 have e1:(2*R+1)*(2*R+1)=4*(R*R)+4*R+1:=by
  rw [H2,D0,F7];omega
 have e2:(2*R+1+1)*(2*R+1+1)=4*(R*R)+8*R+4:=by
  rw [show 2*R+1+1=2*(R+1) by omega,F7,e0];omega
 have e3:(2*R)*(2*R)=4*(R*R):=F7 ..
 refine ⟨by omega,fun h=> ?_,fun h=> ?_⟩
 ·have:=GV (x:=2*R+1) (n:=X') (by omega) (by omega)
  rw [this]
  exact ⟨rfl,by omega⟩
 ·have:=GV (x:=2*R) (n:=X') (by omega) (by omega)
  rw [this]
  exact ⟨rfl,by omega⟩
theorem D1q (A c:Nat):A/2^c=4*(A/2^(c+2))+(2*(A/2^(c+1)%2)+A/2^c%2):=by
 have h1:=A7l A c
 have h2:=A7l A (c+1)
 rw [h2] at h1
 have h3:A/2^(c+1)%2=(2*(A/2^(c+1+1))+A/2^(c+1)%2)%2:=by rw [←h2]
 show _=4*(A/2^(c+1+1))+_
 rw [←h2] at h1
 generalize A/2^c=x at*
 generalize A/2^(c+1)=y at*
 generalize A/2^(c+1+1)=z at*
 omega
end Go.Dy
namespace Go.AI
open Go Go.RowKit Go.Proofs
set_option linter.unusedVariables false
set_option maxRecDepth 100000
set_option maxHeartbeats 1000000
theorem A8i:L6 Tryz.prog (look A70) A0g 2 43 ZD (D8 Tryz.f219 0) C8w:=by
 intro vals r h K hK
 unfold C8w at h
 split at h
 ·cases h
  rename_i a d o c i
  simp only [j0] at hK
  obtain ⟨⟨ha,hd0,hd1,rfl,rfl,rfl⟩,hK⟩:=hK
  have ha1:=ha.1
  obtain ⟨d,rfl⟩:=Int.eq_ofNat_of_zero_le (Int.le_of_lt hd0)
  simp only [A2] at hK
  have key:∀(j c:Nat) (o:List Nat),j≤a.length→o.length=a.length→Dy.D1 o→c<d→Dy.val a%d=(2^(32*j)*c+Dy.val (a.take j))%d→Dy.val a/d=2^(32*j)*Dy.val (o.drop j)+(2^(32*j)*c+Dy.val (a.take j))/d→
    ∃m,P4 Tryz.prog (look A70) A0g 2 43 ZD (D8 Tryz.f219 0) m [.dig [1,2,3] a,.num .u32 d,.grown 152 o,.num .u64 c,.num .i64 ((j:Int)-1)] K:=by
   intro j
   induction j with
   |zero=>
    intro c o hj hol hod hc hm hv
    refine D4 ?_
    rw [UU]
    refine B1 (decide_eq_false (by omega)) ?_
    simp only [O3,AY,Q2,List.take_zero,Dy.val,I4,List.drop_zero] at hm hv
    rw [F9 hc] at hm
    rw [L9 hc,I4] at hv
    rw [hm,hv,Dy.CW hod hol] at hK
    exact hK
   |succ j ih=>
    intro c o hj hol hod hc hm hv
    have hx:=Dy.E5 ha.2 j
    have hts:=Dy.O1 (l:=a) (i:=j) (by omega)
    generalize hxx:a.getD j 0=x at hx hts
    have hdp:0<d:=by omega
    have hq:(c*4294967296+x)/d<4294967296:=by
     rw [H0 hdp]
     have:(c+1)*4294967296≤d*4294967296:=C0 _ hc
     rw [B6 4294967296 d]
     omega
    have hr:(c*4294967296+x)%d<d:=R5 _ hdp
    have hN:2^(32*(j+1))*c+Dy.val (a.take (j+1))=d*(2^(32*j)*((c*4294967296+x)/d))+(2^(32*j)*((c*4294967296+x)%d)+Dy.val (a.take j)):=by
     have h1:=Q6 (c*4294967296+x) d
     generalize (c*4294967296+x)/d=q at h1 ⊢
     generalize (c*4294967296+x)%d=r at h1 ⊢
     rw [hts,Dy.J6,M9 d]
     have h2:2^(32*j)*(d*q+r)=2^(32*j)*(4294967296*c+x):=by rw [h1,B6 c]
     generalize 2^(32*j)=p at h2 ⊢
     simp only [D0,B9] at h2 ⊢
     omega
    have hds:=Dy.IS (l:=o.set j ((c*4294967296+x)/d)) (i:=j) (by simp;omega)
    rw [Dy.IX] at hds
    have hgs:(o.set j ((c*4294967296+x)/d)).getD j 0=(c*4294967296+x)/d:=by simp [D7,show j<o.length by omega]
    rw [hgs] at hds
    obtain ⟨m,hmm⟩:=ih ((c*4294967296+x)%d) (o.set j ((c*4294967296+x)/d)) (by omega) (by simpa using hol) (Dy.BJ hod hq) hr
     (by rw [hm,hN,Nat.mul_add_mod]) (by
      rw [hv,hN,hds,Nat.mul_add_div hdp,Dy.J6,D0,B9]
      omega)
    refine E9 m ?_
    rw [UU]
    have e0:(((j+1:Nat):Int)-1)=(j:Int):=by omega
    have ho:=C60 (x:=c) (y:=x) (by omega) hx
    have hwd:IntKind.u64.wrap ((d:Nat):Int)=((d:Nat):Int):=by rw [wrap_u64];omega
    have hqw:IntKind.u32.wrap (IntKind.u64.wrap ((((c*4294967296+x:Nat):Int)).tdiv ((d:Nat):Int)))=(((c*4294967296+x)/d:Nat):Int):=by
     rw [N8 (by omega),←ON]
     generalize (c*4294967296+x)/d=y at hq ⊢
     rw [wrap_u64,wrap_u32]
     omega
    have hrw:(((c*4294967296+x:Nat):Int)).tmod ((d:Nat):Int)=(((c*4294967296+x)%d:Nat):Int):=by
     rw [Q9 (by omega),←OO]
    rw [e0,A2,hxx,ho,hwd,hqw,hrw,A2,wrap_i64 (by omega) (by omega)]
    exact B5 (decide_eq_true (by omega)) ⟨by omega,by omega,by omega,by omega,by omega,hmm⟩
  exact key a.length 0 _ (I6 _) (by simp) (Dy.P2 _) (by omega) (by simp) (by simp [Dy.val])
 ·cases h
theorem B9x (args:List AV) (s:Spec) (h:A1x args=some s) (hp:C6 s.pre True):Contract Tryz.prog Inv 219 args s.res:=by
 unfold A1x at h
 split at h
 ·cases h
  rename_i a d
  obtain ⟨⟨hd,hal⟩, -⟩:=hp
  refine E8 false 43 A0g B53 Tryz.func219 (by kernel_rfl) rfl (W4 (by kernel_rfl) (by kernel_rfl) A8i) fun hok=> ?_
  have ha:=(E4 hok).1
  have hr:=range_u32 (J5 (E4 hok).2).1
  rw [C29]
  refine ⟨⟨by omega,by omega,by omega⟩,⟨ha,hd,hr.2,by rw [A2],rfl,by rw [wrap_i64 (by omega) (by omega)]⟩,?_⟩
  rw [Dy.m8 (L8 (L1 _ _) (Dy.I0 ha.2)),A2]
 ·cases h
theorem A1j:G6 Tryz.prog Inv (look MG):=A3 B53 B9x
theorem D6j {d k:Nat} (hd:d<4294967296) (hk:k<32):IntKind.u32.wrap ((A7 32 ((d:Nat):Int)|||A7 32 (IntKind.u32.wrap ((1:Int)*(2:Int)^min k (32:Nat)))).toNat:Int)=((d|||2^k:Nat):Int):=by
 have hp:2^k<4294967296:=G7 (N4 (n:=32) (by decide) hk) (by decide)
 have e1:IntKind.u32.wrap ((1:Int)*(2:Int)^min k (32:Nat))=((2^k:Nat):Int):=by
  rw [J1 (by omega),Int.one_mul,show ((2:Int)^k)=((2^k:Nat):Int) by simp]
  generalize 2^k=p at hp ⊢
  rw [wrap_u32]
  omega
 rw [e1]
 clear e1
 generalize 2^k=p at hp ⊢
 rw [A3d (by omega) (by omega) (by omega) (by omega),A2,A2]
theorem A0m:L6 Tryz.prog (look MG) A0j 2 75 VZ (D8 Tryz.f213 0) D52:=by
 intro vals r h K hK
 unfold D52 at h
 split at h
 ·cases h
  rename_i a b q r i
  simp only [j0] at hK
  obtain ⟨⟨hca,hcb,hB,hal,hbl,hi0,hi1,rfl,rfl,hlt⟩,hK⟩:=hK
  generalize hA:Dy.val a=A at*
  generalize hBv:Dy.val b=B at*
  have hB0:0<B:=by omega
  have hAl:A<2^(32*a.length):=by
   have:=Dy.I0 (l:=a) (by rw [←hca];exact Dy.x8 _)
   rwa [hA] at this
  have key:∀(c:Nat) (q:List Nat),c≤32*a.length→q.length=a.length→Dy.D1 q→Dy.val q=A/2^c/B*2^c→
    ∃m,P4 Tryz.prog (look MG) A0j 2 75 VZ (D8 Tryz.f213 0) m [.dig [1,2,3] a,.dig [1,2,3] b,.grown 152 q,.dig [3] (Dy.dg (A/2^c%B)),.num .i64 ((c:Int)-1)] K:=by
   intro c
   induction c with
   |zero=>
    intro q _ hql hqd hv
    refine D4 ?_
    rw [AR]
    refine B1 (decide_eq_false (by omega)) ?_
    rw [AY,Nat.div_one,M0] at hv
    rw [AY,Nat.div_one]
    have:q=Dy.dgN a.length (A/B):=by rw [←hv];exact (Dy.CW hqd hql).symm
    rw [this]
    exact hK
   |succ c ih=>
    intro q hc hql hqd hv
    have hR:=R5 (A/2^(c+1)) hB0
    have hX:=(Q6 (A/2^(c+1)) B).symm
    have hbit:=Dy.A7l A c
    have hb2:A/2^c%2<2:=R5 _ (by decide)
    obtain ⟨hq1,hq2⟩:=Dy.D3f hX hR hbit hb2
    have hrl:(Dy.dg (A/2^(c+1)%B)).length≤b.length:=by
     have:=Dy.CY (HX hR)
     rwa [hcb] at this
    generalize A/2^(c+1)%B=R at*
    generalize hQ:A/2^(c+1)/B=Q at*
    obtain ⟨hs1,hs2⟩:=Dy.D3g hqd (by omega) hv
    have e0:(((c+1:Nat):Int)-1)=(c:Int):=by omega
    have e1:IntKind.i64.wrap ((c:Int).tdiv 32)=((c/32:Nat):Int):=by
     rw [N8 (by omega),wrap_i64 (by omega) (by omega)];omega
    have e2:(c:Int).tmod 32=((c%32:Nat):Int):=by rw [Q9 (by omega)];omega
    have e3:IntKind.i64.wrap ((c:Int)-1)=(c:Int)-1:=wrap_i64 (by omega) (by omega)
    have e4:=D6j (Dy.E5 hqd (c/32)) (R5 c (by decide:0<32))
    have e5:(if (c:Int)<0 then (0:Nat) else A/2^c%2)=A/2^c%2:=if_neg (by omega)
    have hp2:2^(c+1)=2^c*2:=I5 ..
    have l2:(Dy.dg (R*2)).length≤b.length+1:=by
     refine Dy.M5.2 ?_
     have h1:=Dy.I0 (Dy.x8 R)
     rw [Dy.E3] at h1
     have h2:2^(32*(Dy.dg R).length)*2≤2^(32*(b.length+1)):=by
      rw [←I5];exact B3 (by decide) (by omega)
     omega
    have l3:(Dy.dg (R*2+1)).length≤b.length+1:=by
     refine Dy.M5.2 ?_
     have h1:=Dy.I0 (Dy.x8 R)
     rw [Dy.E3] at h1
     have h2:2^(32*(Dy.dg R).length)*2≤2^(32*(b.length+1)):=by
      rw [←I5];exact B3 (by decide) (by omega)
     omega
    have yes:B≤2*R+A/2^c%2→∃m,P4 Tryz.prog (look MG) A0j 2 75 VZ (D8 Tryz.f213 0) m [.dig [1,2,3] a,.dig [1,2,3] b,.grown 152 (q.set (c/32) (q.getD (c/32) 0|||2^(c%32))),.dig [3] (Dy.dg (2*R+A/2^c%2-B)),.num .i64 ((c:Int)-1)] K:=by
     intro hge
     obtain ⟨f1,f2⟩:=hq1 hge
     have:=ih (q.set (c/32) (q.getD (c/32) 0|||2^(c%32))) (by omega) (by simpa using hql) (Dy.BJ hqd hs1) (by
      rw [hs2,hv,f1,hp2,H2,Q2,B6 (2^c) 2,←B9,B6 Q 2])
     rw [f2] at this
     exact this
    have no:2*R+A/2^c%2<B→∃m,P4 Tryz.prog (look MG) A0j 2 75 VZ (D8 Tryz.f213 0) m [.dig [1,2,3] a,.dig [1,2,3] b,.grown 152 q,.dig [3] (Dy.dg (2*R+A/2^c%2)),.num .i64 ((c:Int)-1)] K:=by
     intro hlt'
     obtain ⟨f1,f2⟩:=hq2 hlt'
     have:=ih q (by omega) hql hqd (by rw [hv,f1,hp2,B6 (2^c) 2,←B9,B6 Q 2])
     rw [f2] at this
     exact this
    clear ih
    have hge1:∀X:Nat,B≤X→Dy.v8 X B≥0:=fun X h=>by
     unfold Dy.v8
     rw [if_neg (by omega)]
     split<;>omega
    have hlt1:∀X:Nat,X<B→¬Dy.v8 X B≥0:=fun X h=>by
     unfold Dy.v8
     rw [if_pos h]
     decide
    by_cases hbt:A/2^c%2=1
    ·rw [hbt] at yes no
     by_cases hge:B≤2*R+1
     ·obtain ⟨m,hm⟩:=yes hge
      refine E9 m ?_
      rw [AR,e0,e1,e2,e3,hA,hBv,A2,A2,A2,e4,A2,Dy.E3,Dy.E3,Dy.E3,hcb]
      refine B5 (decide_eq_true (by omega)) ⟨by omega,B5 (decide_eq_true (by rw [e5,hbt];rfl)) ⟨⟨by omega,by omega⟩,⟨rfl,rfl⟩,B5 (decide_eq_true (hge1 _ (by omega))) ⟨⟨by omega,by omega⟩,⟨by omega,by omega⟩,by omega,by omega,⟨by omega,by omega⟩,by omega,?_⟩⟩⟩
      rw [show R*2+1-B=2*R+1-B by omega]
      exact hm
     ·obtain ⟨m,hm⟩:=no (by omega)
      refine E9 m ?_
      rw [AR,e0,e1,e2,e3,hA,hBv,A2,A2,A2,e4,A2,Dy.E3,Dy.E3,Dy.E3,hcb]
      refine B5 (decide_eq_true (by omega)) ⟨by omega,B5 (decide_eq_true (by rw [e5,hbt];rfl)) ⟨⟨by omega,by omega⟩,⟨rfl,rfl⟩,B1 (decide_eq_false (hlt1 _ (by omega))) ?_⟩⟩
      rw [show R*2+1=2*R+1 by omega]
      exact hm
    ·have hb0:A/2^c%2=0:=by omega
     rw [hb0] at yes no
     by_cases hge:B≤2*R
     ·obtain ⟨m,hm⟩:=yes (by omega)
      refine E9 m ?_
      rw [AR,e0,e1,e2,e3,hA,hBv,A2,A2,A2,e4,A2,Dy.E3,Dy.E3,Dy.E3,hcb]
      refine B5 (decide_eq_true (by omega)) ⟨by omega,B1 (decide_eq_false (by rw [e5];omega)) ⟨⟨rfl,rfl⟩,B5 (decide_eq_true (hge1 _ (by omega))) ⟨⟨by omega,by omega⟩,⟨by omega,by omega⟩,by omega,by omega,⟨by omega,by omega⟩,by omega,?_⟩⟩⟩
      rw [show R*2-B=2*R+0-B by omega]
      exact hm
     ·obtain ⟨m,hm⟩:=no (by omega)
      refine E9 m ?_
      rw [AR,e0,e1,e2,e3,hA,hBv,A2,A2,A2,e4,A2,Dy.E3,Dy.E3,Dy.E3,hcb]
      refine B5 (decide_eq_true (by omega)) ⟨by omega,B1 (decide_eq_false (by rw [e5];omega)) ⟨⟨rfl,rfl⟩,B1 (decide_eq_false (hlt1 _ (by omega))) ?_⟩⟩
      rw [show R*2=2*R+0 by omega]
      exact hm
  obtain ⟨c,hc⟩:∃c:Nat,(i+1).toNat=c:=⟨_,rfl⟩
  have hic:i=(c:Int)-1:=by omega
  rw [hc] at hlt ⊢
  have:=key c (B2 a.length 0) (by omega) (by simp) (Dy.P2 _) (by rw [Dy.u7,L9 hlt,R2])
  rw [F9 hlt,←hic] at this
  exact this
 ·cases h
theorem A9t (args:List AV) (s:Spec) (h:B0a args=some s) (hp:C6 s.pre True):Contract Tryz.prog Inv 213 args s.res:=by
 unfold B0a at h
 split at h
 ·cases h
  rename_i a b
  obtain ⟨⟨hca,hcb,hb0,hal,hbl⟩, -⟩:=hp
  refine E8 false 75 A0j A1j Tryz.func213 (by kernel_rfl) rfl (W4 (by kernel_rfl) (by kernel_rfl) A0m) fun hok=> ?_
  have hda:=(E4 hok).1.2
  have hdb:=(E4 (E4 hok).2).1.2
  have hB:Dy.val b≠0:=fun e=>by rw [e,Dy.O0] at hcb;exact hb0 hcb.symm
  rw [B1i]
  refine A8 (fun h1=> ?_) (fun h1=> ?_)
  ·have h1:=A1 h1
   have hl1:b.length=1:=by omega
   match b,hl1 with
   |[d],_=>
    have hd:=(Dy.O9.1 hdb).1
    have hv:Dy.val [d]=d:=by simp [Dy.val]
    rw [hv] at hB ⊢
    have e:([d]:List Nat).getD 0 0=d:=rfl
    rw [e,A2]
    refine ⟨⟨by omega,by simp⟩,⟨by omega,by omega⟩,?_⟩
    rintro _ rfl _ rfl
    rfl
  ·have hbA:=(Dy.J3 (n:=Dy.val a) (k:=a.length)).1 (by rw [hca];exact I6 _)
   have hbB:=(Dy.J3 (n:=Dy.val b) (k:=b.length)).1 (by rw [hcb];exact I6 _)
   have hBp:=Dy.IV.2 hB
   obtain ⟨n,hn⟩:∃n:Nat,n=Dy.bl (Dy.val a)+1-Dy.bl (Dy.val b):=⟨_,rfl⟩
   have e1:(if IntKind.i64.wrap (IntKind.i64.wrap (((Dy.bl (Dy.val a):Nat):Int)-((Dy.bl (Dy.val b):Nat):Int))+1)>0 then IntKind.i64.wrap (IntKind.i64.wrap (((Dy.bl (Dy.val a):Nat):Int)-((Dy.bl (Dy.val b):Nat):Int))+1) else 0)=(n:Int):=by
    rw [wrap_i64 (n:=((Dy.bl (Dy.val a):Nat):Int)-((Dy.bl (Dy.val b):Nat):Int)) (by omega) (by omega),wrap_i64 (by omega) (by omega)]
    split<;>omega
   rw [e1,wrap_i64 (n:=(n:Int)-1) (by omega) (by omega),A2,A2,show ((n:Int)-1+1).toNat=n by omega]
   have hlt:Dy.val a/2^n<Dy.val b:=by
    have h1:Dy.bl (Dy.val a/2^n)≤Dy.bl (Dy.val b)-1:=by rw [Dy.C5];omega
    exact G7 (Dy.I8.1 h1) (Dy.W6 hB)
   refine ⟨⟨by omega,by omega,by omega⟩,⟨hca,by omega⟩,⟨hcb,by omega⟩,⟨hca,by omega,by omega⟩,?_⟩
   rintro l3 rfl b4 -
   refine ⟨⟨hca,hcb,hB,hal,hbl,by omega,by omega,rfl,rfl,hlt⟩,?_⟩
   rw [Dy.m8 (L8 (L1 _ _) (Dy.I0 hda))]
 ·cases h
theorem A8p:L6 Tryz.prog (look MG) B2u 1 56 A8f (D8 Tryz.f97 0) D53:=by
 intro vals r h K hK
 unfold D53 at h
 split at h
 ·cases h
  rename_i a r s i
  simp only [j0] at hK
  obtain ⟨⟨hca,hal,rfl,rfl,hi0,hi1,hi2,hi3⟩,hK⟩:=hK
  generalize hA:Dy.val a=A at*
  have hAl:A<2^(32*a.length):=by
   have:=Dy.I0 (l:=a) (by rw [←hca];exact Dy.x8 _)
   rwa [hA] at this
  have hlen:∀n,n≤4*A+3→(Dy.dg n).length≤1048576:=by
   intro n hn
   refine D9 (Dy.M5 (k:=a.length+1).2 ?_) (by omega)
   have h2:2^(32*a.length)*4≤2^(32*(a.length+1)):=by
    rw [show (4:Nat)=2^2 from rfl,←B8];exact B3 (by decide) (by omega)
   omega
  have key:∀(k:Nat) (i:Int),i=2*(k:Int)-2→k≤2000001→
    ∃m,P4 Tryz.prog (look MG) B2u 1 56 A8f (D8 Tryz.f97 0) m [.dig [1,2] a,.dig [2] (Dy.dg (Dy.isq (A/2^(2*k)))),.dig [2] (Dy.dg (A/2^(2*k)-Dy.isq (A/2^(2*k))*Dy.isq (A/2^(2*k)))),.num .i64 i] K:=by
   intro k
   induction k with
   |zero=>
    intro i hi hk
    refine D4 ?_
    rw [VB]
    refine B1 (decide_eq_false (by omega)) ?_
    rw [O3,AY,Nat.div_one,show i= -2 by omega]
    exact hK
   |succ k ih=>
    intro i hi hk
    obtain ⟨m,hm⟩:=ih (i-2) (by omega) (by omega)
    refine E9 m ?_
    clear ih
    have hbits:=Dy.D1q A (2*k)
    have hb2:2*(A/2^(2*k+1)%2)+A/2^(2*k)%2<4:=by omega
    obtain ⟨hr1,hr2,hr3⟩:=Dy.D0i hbits hb2
    have hx:A/2^(2*k)≤A:=L1 _ _
    rw [show 2*(k+1)=2*k+2 by omega]
    have hle:Dy.isq (A/2^(2*k+2))≤A:=by
     have h1:=(Dy.W3 (A/2^(2*k+2))).1
     have h2:A/2^(2*k+2)≤A:=L1 _ _
     have h3:=Nat.le_mul_self (Dy.isq (A/2^(2*k+2)))
     omega
    generalize Dy.isq (A/2^(2*k+2))=R at*
    generalize A/2^(2*k+2)-R*R=S at*
    generalize hX:A/2^(2*k)=X at*
    generalize hY:A/2^(2*k+1)=Y at*
    have ew:IntKind.i64.wrap (i+1)=i+1:=wrap_i64 (by omega) (by omega)
    have ew2:IntKind.i64.wrap (i-2)=i-2:=wrap_i64 (by omega) (by omega)
    have eb:(IntKind.u64.wrap (IntKind.u32.wrap (IntKind.u32.wrap ((2:Int)*((if i+1<(0:Int) then (0:Nat) else A/(2:Nat)^(i+1).toNat%(2:Nat):Nat):Int))+((if i<(0:Int) then (0:Nat) else A/(2:Nat)^i.toNat%(2:Nat):Nat):Int)))).toNat=2*(Y%2)+X%2:=by
     rw [if_neg (by omega),if_neg (by omega),show i.toNat=2*k by omega,show (i+1).toNat=2*k+1 by omega,hX,hY,wrap_u32,wrap_u32,wrap_u64]
     omega
    rw [VB,ew,ew2,hA,eb,Dy.E3,Dy.E3]
    generalize 2*(Y%2)+X%2=b at*
    simp only [Dy.E3]
    have l1:=hlen (S*4) (by omega)
    have l2:=hlen b (by omega)
    have l3:=hlen (R*4) (by omega)
    have l4:=hlen R (by omega)
    have l5:=hlen S (by omega)
    have l6:=hlen (R*2) (by omega)
    have l7:=hlen (S*4+b) (by omega)
    refine B5 (decide_eq_true (by omega)) ⟨⟨by omega,by omega,l5⟩,⟨l1,l2⟩,⟨by omega,by omega,l4⟩,⟨l3,by omega⟩,⟨by omega,by omega,l4⟩,⟨trivial,trivial⟩,?_⟩
    by_cases hge:R*4+1≤S*4+b
    ·obtain ⟨f1,f2⟩:=hr2 (by omega)
     refine B5 (decide_eq_true (by unfold Dy.v8;rw [if_neg (by omega)];split<;>omega)) ⟨⟨hge,by first|exact l7|exact hlen _ (by omega)⟩,⟨l6,by omega⟩,?_⟩
     rw [f1] at hm f2
     rw [f2] at hm
     rw [show R*2+1=2*R+1 by omega,show S*4+b-(R*4+1)=4*S+b-(4*R+1) by omega]
     exact hm
    ·obtain ⟨f1,f2⟩:=hr3 (by omega)
     refine B1 (decide_eq_false (by unfold Dy.v8;rw [if_pos (by omega)];decide)) ?_
     rw [f1] at hm f2
     rw [f2] at hm
     rw [show R*2=2*R by omega,show S*4+b=4*S+b by omega]
     exact hm
  obtain ⟨k,hk⟩:∃k:Nat,i=2*(k:Int)-2:=⟨((i+2)/2).toNat,by omega⟩
  have hz:A/2^(2*k)=0:=L9 (Dy.I8.1 (by omega))
  have:=key k i hk (by omega)
  rw [hz] at this
  exact this
 ·cases h
theorem C0m (args:List AV) (s:Spec) (h:C12 args=some s) (hp:C6 s.pre True):Contract Tryz.prog Inv 97 args s.res:=by
 unfold C12 at h
 split at h
 ·cases h
  rename_i a
  obtain ⟨⟨hca,hal⟩, -⟩:=hp
  refine E8 false 56 B2u A1j Tryz.func97 (by kernel_rfl) rfl (W4 (by kernel_rfl) (by kernel_rfl) A8p) fun hok=> ?_
  have hbA:=(Dy.J3 (n:=Dy.val a) (k:=a.length)).1 (by rw [hca];exact I6 _)
  have hex:(((Dy.dg (Dy.val a-Dy.isq (Dy.val a)*Dy.isq (Dy.val a))).length:Int)==(0:Int))=decide (Dy.isq (Dy.val a)*Dy.isq (Dy.val a)=Dy.val a):=by
   have h1:=(Dy.W3 (Dy.val a)).1
   by_cases e:Dy.isq (Dy.val a)*Dy.isq (Dy.val a)=Dy.val a
   ·rw [decide_eq_true e,e,Nat.sub_self,Dy.O0];rfl
   ·rw [decide_eq_false e,beq_eq_false_iff_ne]
    intro h2
    have h3:Dy.dg (Dy.val a-Dy.isq (Dy.val a)*Dy.isq (Dy.val a))=[]:=List.length_eq_zero_iff.1 (by omega)
    have h4:=Dy.E3 (Dy.val a-Dy.isq (Dy.val a)*Dy.isq (Dy.val a))
    rw [h3] at h4
    simp only [Dy.val] at h4
    omega
  rw [C2y,hex,Q9 (by omega)]
  refine ⟨⟨hca,by omega⟩,A8 (fun h1=> ?_) (fun h1=> ?_)⟩
  ·have h1:=A1 h1
   rw [wrap_i64 (n:=((Dy.bl (Dy.val a):Nat):Int)+1) (by omega) (by omega),wrap_i64 (by omega) (by omega)]
   exact ⟨⟨hca,hal,rfl,rfl,by omega,by omega,by omega,by omega⟩,rfl⟩
  ·have h1:=A0 h1
   rw [wrap_i64 (by omega) (by omega)]
   exact ⟨⟨hca,hal,rfl,rfl,by omega,by omega,by omega,by omega⟩,rfl⟩
 ·cases h
theorem B54:G6 Tryz.prog Inv (look D1f):=A3 (A3 A1j C0m) A9t
end Go.AI

namespace Go.Dy
def O5 (s:Bool) (q:Nat) (e:Int) (more:Bool) (k:Int):Cutd:=
 if (I2 (form s (q/2^((bl q:Int)-k).toNat) (e+(((bl q:Int)-k).toNat:Int)))).2=0 then
  ⟨(I2 (form s (q/2^((bl q:Int)-k).toNat) (e+(((bl q:Int)-k).toNat:Int)))).1,decide (q%2^((bl q:Int)-k).toNat≠0)||more,0⟩
 else ⟨L7,false,(I2 (form s (q/2^((bl q:Int)-k).toNat) (e+(((bl q:Int)-k).toNat:Int)))).2⟩
def LJ (a b:Nat) (k:Int):Nat:=(k+1+(bl b:Int)-(bl a:Int)).toNat
def A4n (a b:Dyd) (k:Int):Cutd:=
 if ((A5 a&&A5 b)&&decide (1≤k))=true then
  if k≤8192 then
   if b.mag=[] then ⟨L7,false,11⟩ else if a.mag=[] then ⟨L7,false,0⟩
   else O5 (a.neg !=b.neg) (val a.mag*2^LJ (val a.mag) (val b.mag) k/val b.mag) (a.exp-b.exp-LJ (val a.mag) (val b.mag) k) (decide (val a.mag*2^LJ (val a.mag) (val b.mag) k%val b.mag≠0)) k
  else ⟨L7,false,3⟩
 else ⟨L7,false,2⟩
def sh2 (M:Nat) (n:Int):Nat:=if n<0 then M/2^(-n).toNat else M*2^n.toNat
def VU (M:Nat) (n:Int):Bool:=decide (n<0∧M%2^(-n).toNat≠0)
def DY (e n:Int):Int:=if (e-n)%2=0 then n else n+1
def QJ (M:Nat) (e k:Int):Int:=DY e (2*k+2-(bl M:Int))
def BD (d:Dyd) (k:Int):Cutd:=
 if (A5 d&&decide (1≤k))=true then
  if k≤8192 then
   if d.mag=[] then ⟨L7,false,0⟩ else if d.neg then ⟨L7,false,10⟩
   else O5 false (isq (sh2 (val d.mag) (QJ (val d.mag) d.exp k))) ((d.exp-QJ (val d.mag) d.exp k)/2)
    (VU (val d.mag) (QJ (val d.mag) d.exp k)||decide (isq (sh2 (val d.mag) (QJ (val d.mag) d.exp k))*isq (sh2 (val d.mag) (QJ (val d.mag) d.exp k))≠sh2 (val d.mag) (QJ (val d.mag) d.exp k))) k
  else ⟨L7,false,3⟩
 else ⟨L7,false,2⟩
def GC (a b:Dyd) (k:Int):Dyd×Bool:=
 if a.mag=[] then (L7,false) else
  ((F6 (form (a.neg !=b.neg) (val a.mag*2^LJ (val a.mag) (val b.mag) k/val b.mag) (a.exp-b.exp-LJ (val a.mag) (val b.mag) k)) k).1,
  (F6 (form (a.neg !=b.neg) (val a.mag*2^LJ (val a.mag) (val b.mag) k/val b.mag) (a.exp-b.exp-LJ (val a.mag) (val b.mag) k)) k).2||decide (val a.mag*2^LJ (val a.mag) (val b.mag) k%val b.mag≠0))
def U5 (M:Nat) (e k:Int):Nat:=(DY e (if 2*k+2-(bl M:Int)<0 then 0 else 2*k+2-(bl M:Int))).toNat
def C3 (d:Dyd) (k:Int):Dyd×Bool:=
 ((F6 (form false (isq (val d.mag*2^U5 (val d.mag) d.exp k)) ((d.exp-U5 (val d.mag) d.exp k)/2)) k).1,
 (F6 (form false (isq (val d.mag*2^U5 (val d.mag) d.exp k)) ((d.exp-U5 (val d.mag) d.exp k)/2)) k).2||
  decide (isq (val d.mag*2^U5 (val d.mag) d.exp k)*isq (val d.mag*2^U5 (val d.mag) d.exp k)≠val d.mag*2^U5 (val d.mag) d.exp k))
end Go.Dy
namespace Go.AI
open Go Go.RowKit Go.Proofs
set_option linter.unusedVariables false
def D03:List AV→Option Spec
 |[.agg [.bool s,.dig [1] m,.num .i64 e],.num .i64 b]=>some ⟨some (Dy.dg (Dy.val m)=m∧m.length≤4096∧Dy.tz (Dy.val m)=0∧ -1099511627776≤e∧e+131072≤1099511627776∧1≤b),.tup [avD [0,1,2] (Dy.F6 ⟨s,m,e⟩ b).1,.bool (Dy.F6 ⟨s,m,e⟩ b).2]⟩
 |_=>none
def C7e:List AV→Option Spec
 |[.bool s,.dig [2] q,.num .i64 e,.bool more,.num .i64 k]=>
  some ⟨some (Dy.may q=true∧ -1099511627776≤e∧e≤1099511627776∧1≤k∧k≤8192),.tup [avD [0] (Dy.O5 s (Dy.val q) e more k).num,.bool (Dy.O5 s (Dy.val q) e more k).lost,.num .i64 (Dy.O5 s (Dy.val q) e more k).err]⟩
 |_=>none
def D4k:List AV→Option Spec
 |[.agg [.bool s,.dig [1] m,.num .i64 e],.agg [.bool s',.dig [2] m',.num .i64 e'],.num .i64 k]=>
  some ⟨some (m.length≤1000∧m'.length≤1000),.tup [avD [0] (Dy.A4n ⟨s,m,e⟩ ⟨s',m',e'⟩ k).num,.bool (Dy.A4n ⟨s,m,e⟩ ⟨s',m',e'⟩ k).lost,.num .i64 (Dy.A4n ⟨s,m,e⟩ ⟨s',m',e'⟩ k).err]⟩
 |_=>none
def C7g:List AV→Option Spec
 |[.agg [.bool s,.dig [1] m,.num .i64 e],.num .i64 k]=>
  some ⟨none,.tup [avD [0] (Dy.BD ⟨s,m,e⟩ k).num,.bool (Dy.BD ⟨s,m,e⟩ k).lost,.num .i64 (Dy.BD ⟨s,m,e⟩ k).err]⟩
 |_=>none
def D09:List AV→Option Spec
 |[.agg [.bool s,.dig [1] m,.num .i64 e],.agg [.bool s',.dig [2] m',.num .i64 e'],.num .i64 k]=>
  some ⟨some (Dy.A5 ⟨s,m,e⟩=true∧Dy.A5 ⟨s',m',e'⟩=true∧m'≠[]∧1≤k∧k≤8192∧m.length≤1000∧m'.length≤1000),.tup [avD [0] (Dy.GC ⟨s,m,e⟩ ⟨s',m',e'⟩ k).1,.bool (Dy.GC ⟨s,m,e⟩ ⟨s',m',e'⟩ k).2]⟩
 |_=>none
def C11:List AV→Option Spec
 |[.agg [.bool s,.dig [1] m,.num .i64 e],.num .i64 k]=>
  some ⟨some (Dy.A5 ⟨s,m,e⟩=true∧1≤k∧k≤8192),.tup [avD [0] (Dy.C3 ⟨s,m,e⟩ k).1,.bool (Dy.C3 ⟨s,m,e⟩ k).2]⟩
 |_=>none
def A71:List (Nat×(List AV→Option Spec)):=(99,D03)::(147,C7e)::D1f
def B68:List (Nat×(List AV→Option Spec)):=(189,D4k)::(76,C7g)::(197,D09)::(42,C11)::A71
end Go.AI
