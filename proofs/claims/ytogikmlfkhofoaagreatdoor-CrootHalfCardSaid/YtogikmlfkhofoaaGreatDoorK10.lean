/- My texts AIhand4, AIlong, AIspecQ, AVquo, AIquo, AIspecE, AVrefq, AIrefq, AIspecF, in one. -/
import Derived.Test.YtogikmlfkhofoaaGreatDoorK9
namespace Go.Dy
theorem guess_win {L v:List Nat} {lo m:Nat} (hL:digs L) (hv:digs v) (hm:v.length=m+2) (hlo:lo+(v.length+1)≤L.length) (hv1:2147483648≤v.getD (m+1) 0) (hU:winV L lo (v.length+1)<4294967296*val v):
  winV L lo (v.length+1)/val v≤(gl (v.getD (m+1) 0) (v.getD m 0) (L.getD (lo+m) 0) ((L.getD (lo+(m+2)) 0*4294967296+L.getD (lo+(m+1)) 0)/v.getD (m+1) 0) ((L.getD (lo+(m+2)) 0*4294967296+L.getD (lo+(m+1)) 0)/v.getD (m+1) 0) ((L.getD (lo+(m+2)) 0*4294967296+L.getD (lo+(m+1)) 0)%v.getD (m+1) 0)).1∧
  (gl (v.getD (m+1) 0) (v.getD m 0) (L.getD (lo+m) 0) ((L.getD (lo+(m+2)) 0*4294967296+L.getD (lo+(m+1)) 0)/v.getD (m+1) 0) ((L.getD (lo+(m+2)) 0*4294967296+L.getD (lo+(m+1)) 0)/v.getD (m+1) 0) ((L.getD (lo+(m+2)) 0*4294967296+L.getD (lo+(m+1)) 0)%v.getD (m+1) 0)).1≤winV L lo (v.length+1)/val v+1∧
  (gl (v.getD (m+1) 0) (v.getD m 0) (L.getD (lo+m) 0) ((L.getD (lo+(m+2)) 0*4294967296+L.getD (lo+(m+1)) 0)/v.getD (m+1) 0) ((L.getD (lo+(m+2)) 0*4294967296+L.getD (lo+(m+1)) 0)/v.getD (m+1) 0) ((L.getD (lo+(m+2)) 0*4294967296+L.getD (lo+(m+1)) 0)%v.getD (m+1) 0)).1<4294967296:=by
 have hV:=val_top2 hm
 have hW:winV L lo (v.length+1)=((L.getD (lo+(m+2)) 0*4294967296+L.getD (lo+(m+1)) 0)*4294967296+L.getD (lo+m) 0)*2^(32*m)+winV L lo m:=by rw [hm];exact win_top3 (by omega)
 have hvr:val (v.take m)<2^(32*m):=by
  have:=val_lt (digs_take hv m)
  rw [List.length_take,Nat.min_eq_left (by omega)] at this
  exact this
 have hur:=winV_lt hL lo m
 have hv2:=digs_getD hv m
 have hv1':=digs_getD hv (m+1)
 have hu0:=digs_getD hL (lo+(m+2))
 have hu1:=digs_getD hL (lo+(m+1))
 have hu2:=digs_getD hL (lo+m)
 generalize winV L lo (v.length+1)=U at hU hW ⊢
 generalize val v=V at hU hV ⊢
 generalize val (v.take m)=vr at hV hvr
 generalize winV L lo m=ur at hW hur
 generalize v.getD (m+1) 0=v1 at*
 generalize v.getD m 0=v2 at*
 generalize L.getD (lo+(m+2)) 0=u0 at*
 generalize L.getD (lo+(m+1)) 0=u1 at*
 generalize L.getD (lo+m) 0=u2 at*
 generalize 2^(32*m)=r at*
 have hr:0<r:=by omega
 have hu0v:u0≤v1:=by
  rcases Nat.lt_or_ge v1 u0 with c|c
  ·exfalso
   have h1:(v1*4294967296+v2+1)≤u0*4294967296:=by omega
   have h2:=Nat.mul_le_mul_right r h1
   have h3:V<(v1*4294967296+v2+1)*r:=by rw [Nat.add_mul _ 1,Nat.one_mul];omega
   have h4:4294967296*V≤4294967296*(u0*4294967296*r):=Nat.mul_le_mul_left _ (by omega)
   have h5:4294967296*(u0*4294967296*r)≤U:=by
    have h6:4294967296*(u0*4294967296)≤(u0*4294967296+u1)*4294967296+u2:=by omega
    have h7:=Nat.mul_le_mul_right r h6
    rw [←Nat.mul_assoc]
    omega
   omega
  ·exact c
 have htop:u0*4294967296+u1<v1*4294967296+4294967296:=by omega
 have hV0:0<V:=by
  have:0<(v1*4294967296+v2)*r:=Nat.mul_pos (by omega) hr
  omega
 refine guess_ok hV hvr hW hur (by omega) hv2 hu2 htop hU (by have:=Nat.div_add_mod (u0*4294967296+u1) v1;rw [Nat.mul_comm] at this;exact this) ?_
 rw [Nat.le_div_iff_mul_le (by omega)]
 have hq:=Nat.div_mul_le_self U V
 have h1:U/V*((v1*4294967296)*r)≤U/V*V:=Nat.mul_le_mul_left _ (by
  have:v1*4294967296*r≤(v1*4294967296+v2)*r:=Nat.mul_le_mul_right _ (by omega)
  omega)
 have h2:U<(u0*4294967296+u1+1)*(4294967296*r):=by
  have h3:((u0*4294967296+u1)*4294967296+u2+1)≤(u0*4294967296+u1+1)*4294967296:=by omega
  have h4:=Nat.mul_le_mul_right r h3
  rw [Nat.add_mul _ 1,Nat.one_mul] at h4
  rw [←Nat.mul_assoc]
  omega
 have h5:U/V*v1*(4294967296*r)<(u0*4294967296+u1+1)*(4294967296*r):=by
  have:U/V*v1*(4294967296*r)=U/V*(v1*4294967296*r):=by simp only [Nat.mul_assoc]
  omega
 have:=Nat.lt_of_mul_lt_mul_right h5
 omega
end Go.Dy
namespace Go.AI
open Go Go.RowKit Go.Proofs
set_option linter.unusedVariables false
set_option maxRecDepth 100000
theorem ok_step (args:List AV) (s:Spec) (h:sStep args=some s) (hp:andO s.pre True):Contract Tryz.prog Inv 217 args s.res:=by
 unfold sStep at h
 split at h
 ·cases h
  rename_i L lo len v
  obtain ⟨⟨h0,hL,hv2,rfl,hlo,hv1,hU⟩, -⟩:=hp
  refine contract_hand_at (t:=tabS) 160 lamStep ok_tab2 Tryz.func217 (by kernel_rfl) rfl h0 (loops3 (by kernel_rfl) (by kernel_rfl) loop_step_1 (by kernel_rfl) loop_step_2 (by kernel_rfl) loop_step_3) rfl fun hok _ hoks g cap=> ?_
  have hdL:=(Dy.okl_of hok).2
  have hdv:=(oks1_dig hoks).1.2
  obtain ⟨m,hm⟩:∃m,v.length=m+2:=⟨v.length-2,by omega⟩
  have em1:v.length-1=m+1:=by omega
  have em2:v.length-2=m:=by omega
  rw [em1] at hv1
  obtain ⟨G1,G2,G3⟩:=Dy.guess_win hdL hdv hm hlo hv1 hU
  have hu0:=Dy.digs_getD hdL (lo+(m+2))
  have hu1:=Dy.digs_getD hdL (lo+(m+1))
  have hv1':=Dy.digs_getD hdv (m+1)
  rw [vc_step]
  have w1:IntKind.i64.wrap ((v.length:Int)-1)=((m+1:Nat):Int):=by rw [wrap_i64 (by omega) (by omega)];omega
  have w3:IntKind.u64.wrap ((v.getD (m+1) 0:Nat):Int)=((v.getD (m+1) 0:Nat):Int):=by rw [wrap_u64];omega
  rw [w1]
  simp only [Int.toNat_natCast]
  rw [hm] at hlo hU G1 G2 ⊢
  have w0:IntKind.u64.wrap ((L.getD (lo+(m+2)) 0:Nat):Int)=((L.getD (lo+(m+2)) 0:Nat):Int):=by rw [wrap_u64];omega
  rw [w0,or64 hu0 hu1,w3]
  generalize htop:L.getD (lo+(m+2)) 0*4294967296+L.getD (lo+(m+1)) 0=top at*
  have hv0:0<v.getD (m+1) 0:=by omega
  have hq:IntKind.u64.wrap (((top:Nat):Int).tdiv ((v.getD (m+1) 0:Nat):Int))=((top/v.getD (m+1) 0:Nat):Int):=by
   have h1:=Nat.div_le_self top (v.getD (m+1) 0)
   rw [Int.tdiv_eq_ediv_of_nonneg (by omega),←Int.natCast_ediv,wrap_u64]
   generalize top/v.getD (m+1) 0=qq at h1 ⊢
   clear G1 G2 G3
   omega
  have hr:((top:Nat):Int).tmod ((v.getD (m+1) 0:Nat):Int)=((top%v.getD (m+1) 0:Nat):Int):=by
   rw [Int.tmod_eq_emod_of_nonneg (by omega),←Int.natCast_emod]
  have hrl:=Nat.mod_lt top hv0
  have hqb:=Nat.div_le_self top (v.getD (m+1) 0)
  rw [hq,hr]
  clear hq hr
  generalize top/v.getD (m+1) 0=qq at*
  generalize top%v.getD (m+1) 0=rr at*
  refine ⟨by omega,by omega,by omega,by omega,by omega,by omega,by omega,by omega,?_⟩
  intro l1 h1 l2 h2 n3 h3 n4 h4 n5 h5
  have h1:=h1.symm;have h2:=h2.symm
  subst h1 h2 h3 h4 h5
  refine ⟨⟨hL,hdL,hdv,by rw [hm],by omega,by rw [hm],hlo,by omega,by omega,by omega,by omega⟩,?_⟩
  rw [Int.toNat_natCast,Int.toNat_natCast]
  rw [hm,show m+2-1=m+1 from rfl,show m+2-2=m from rfl]
  generalize hgl:(Dy.gl (v.getD (m+1) 0) (v.getD m 0) (L.getD (lo+m) 0) qq qq rr).1=G at*
  generalize (Dy.gl (v.getD (m+1) 0) (v.getD m 0) (L.getD (lo+m) 0) qq qq rr).2=M at*
  intro l6 h6 l7 h7 n8 h8 n9 h9 n10 h10
  have h6:=h6.symm;have h7:=h7.symm
  subst h6 h7 h8 h9 h10
  intro l11 h11 l12 h12 n13 h13 n14 h14 n15 h15 n16 h16 l17 h17 n18 h18 n19 h19
  have h11:=h11.symm;have h12:=h12.symm;have h17:=h17.symm
  subst h11 h12 h13 h14 h15 h16 h17 h18 h19
  refine ⟨⟨rfl,rfl,rfl,rfl,rfl,by omega,by omega,hdv,hdL,by rw [hm],hlo,hL⟩,?_⟩
  rw [Int.toNat_natCast]
  rw [hm]
  have hV:=Dy.val_lt hdv
  rw [hm] at hV
  have hW:=Dy.winV_lt hdL lo (m+2)
  have hwin:=Dy.winV_succ (L:=L) (lo:=lo) (n:=m+2) (by omega)
  have ht:=Dy.digs_getD hdL (lo+(m+2))
  have hVpos:0<Dy.val v:=by
   rcases Nat.eq_zero_or_pos (Dy.val v) with e|e
   ·rw [e] at hU;omega
   ·exact e
  have hp0:=Nat.two_pow_pos (32*(m+2))
  have hps:=Dy.pow_split (m+2)
  generalize hpp:2^(32*(m+2))=p at*
  have hPp:G*Dy.val v/p<4294967296:=by
   rw [Nat.div_lt_iff_lt_mul hp0]
   exact Nat.mul_lt_mul'' G3 hV
  have hdm:=Nat.div_add_mod (Dy.winV L lo (m+2+1)) (Dy.val v)
  have hml:=Nat.mod_lt (Dy.winV L lo (m+2+1)) hVpos
  have hqlt:∀g,Dy.winV L lo (m+2+1)<g*Dy.val v→Dy.winV L lo (m+2+1)/Dy.val v<g:=fun g h=>(Nat.div_lt_iff_lt_mul hVpos).2 h
  have hqle:∀g,g*Dy.val v≤Dy.winV L lo (m+2+1)→g≤Dy.winV L lo (m+2+1)/Dy.val v:=fun g h=>(Nat.le_div_iff_mul_le hVpos).2 h
  generalize Dy.winV L lo (m+2+1)/Dy.val v=q at*
  generalize Dy.winV L lo (m+2+1)%Dy.val v=r at*
  have hW1:Dy.winV L lo (m+2)+p*(if Dy.winV L lo (m+2)<G*Dy.val v%p then 1 else 0)-G*Dy.val v%p<p:=by
   have:=Nat.mod_lt (G*Dy.val v) hp0
   split<;>omega
  have hw1l:(Dy.dgN (m+2) (Dy.winV L lo (m+2)+p*(if Dy.winV L lo (m+2)<G*Dy.val v%p then 1 else 0)-G*Dy.val v%p)).length=m+2:=Dy.dgN_length _ _
  have hw1d:=Dy.digs_dgN (m+2) (Dy.winV L lo (m+2)+p*(if Dy.winV L lo (m+2)<G*Dy.val v%p then 1 else 0)-G*Dy.val v%p)
  have hw1v:Dy.val (Dy.dgN (m+2) (Dy.winV L lo (m+2)+p*(if Dy.winV L lo (m+2)<G*Dy.val v%p then 1 else 0)-G*Dy.val v%p))=Dy.winV L lo (m+2)+p*(if Dy.winV L lo (m+2)<G*Dy.val v%p then 1 else 0)-G*Dy.val v%p:=by
   rw [Dy.val_dgN,hpp,Nat.mod_eq_of_lt hW1]
  have fit:= @Dy.sub_fit p (Dy.winV L lo (m+2)) (L.getD (lo+(m+2)) 0) (G*Dy.val v) hp0 hW ht hPp
  have over:= @Dy.sub_over p (Dy.winV L lo (m+2)) (L.getD (lo+(m+2)) 0) (G*Dy.val v) hp0 hW ht hPp
  have hb1:(if Dy.winV L lo (m+2)<G*Dy.val v%p then 1 else 0)≤1:=by split<;>omega
  generalize Dy.dgN (m+2) (Dy.winV L lo (m+2)+p*(if Dy.winV L lo (m+2)<G*Dy.val v%p then 1 else 0)-G*Dy.val v%p)=w1 at*
  generalize (if Dy.winV L lo (m+2)<G*Dy.val v%p then 1 else 0)=b at*
  generalize Dy.winV L lo (m+2)+p*b-G*Dy.val v%p=W1 at*
  generalize hH:G*Dy.val v/p=H at*
  intro l20 h20 l21 h21 n22 h22 n23 h23 n24 h24 n25 h25 l26 h26 n27 h27 n28 h28
  have h21:=h21.symm;have h26:=h26.symm
  subst h20 h21 h22 h23 h24 h25 h26 h27 h28
  have hput:(Dy.putW L lo w1).length=L.length:=Dy.putW_length (by omega)
  have hcur:(Dy.putW L lo w1).getD (lo+(m+2)) 0=L.getD (lo+(m+2)) 0:=by
   have:=Dy.putW_get (L:=L) (w:=w1) (lo:=lo) (by omega)
   rw [hw1l] at this
   exact this
  have hset:∀d,(Dy.putW L lo w1).set (lo+(m+2)) d=Dy.putW L lo (w1++[d]):=fun d=>by
   have:=Dy.putW_set (L:=L) (w:=w1) (lo:=lo) (d:=d) (by omega)
   rw [hw1l] at this
   exact this
  have e2:IntKind.u32.wrap ((H:Nat):Int)=((H:Nat):Int):=by rw [wrap_u32];omega
  simp only [Int.toNat_natCast,hput,hcur,e2]
  generalize L.getD (lo+(m+2)) 0=t at*
  refine ⟨by omega,by omega,by omega,?_⟩
  rintro n29 rfl n30 rfl
  refine ⟨by omega,by omega,?_⟩
  by_cases c:t<H+b
  ·obtain ⟨o1,o2⟩:=over c
   have e3:(((t:Int)-(H:Int)-(b:Int))%4294967296).toNat=4294967296+t-H-b:=by omega
   rw [if_pos (by omega),e3,hset]
   refine cond_f (by decide) ?_
   generalize ht1:4294967296+t-H-b=t1 at*
   have ht1b:t1<4294967296:=by omega
   have hGq:G=q+1:=by
    have:q<G:=hqlt G (by rw [hwin];exact o1)
    clear fit over o2 hdm hU hwin
    omega
   intro l31 h31 n32 h32 n33 h33 n34 h34 l35 h35 n36 h36 n37 h37
   have h35:=h35.symm
   subst h31 h32 h33 h34 h35 h36 h37
   have hlen31:(Dy.putW L lo (w1++[t1])).length=L.length:=Dy.putW_length (by simp;omega)
   have hd31:Dy.digs (Dy.putW L lo (w1++[t1])):=Dy.digs_putW hdL (Dy.digs_append.2 ⟨hw1d,Dy.digs_cons.2 ⟨ht1b,Dy.digs_nil⟩⟩) lo
   refine ⟨⟨rfl,rfl,rfl,hdv,hd31,by rw [hm],by rw [hlen31];exact hlo,by rw [hlen31];exact hL⟩,?_⟩
   rw [hm]
   have hwv:Dy.winV (Dy.putW L lo (w1++[t1])) lo (m+2)=W1:=by
    have:=Dy.winV_put_snoc (L:=L) (w:=w1) (lo:=lo) (d:=t1) (by omega)
    rw [hw1l] at this
    rw [this,hw1v]
   have hg1:(Dy.putW L lo (w1++[t1])).getD (lo+(m+2)) 0=t1:=by
    have:=Dy.getD_put_snoc (L:=L) (w:=w1) (lo:=lo) (d:=t1) (by omega)
    rw [hw1l] at this
    exact this
   rw [hwv,hpp]
   have hr:W1+Dy.val v+p*t1=r+p*4294967296:=by
    rw [hGq,Nat.add_mul,Nat.one_mul,Nat.mul_comm _ (Dy.val v)] at o2
    clear fit over
    omega
   have hVp:r<p:=by omega
   have s1:(W1+Dy.val v)%p=r:=by
    have:=congrArg (·%p) hr
    simp only [Nat.add_mul_mod_self_left] at this
    rw [this,Nat.mod_eq_of_lt hVp]
   have s2:(W1+Dy.val v)/p+t1=4294967296:=by
    have:=congrArg (·/p) hr
    simp only [Nat.add_mul_div_left _ _ hp0] at this
    rw [Nat.div_eq_of_lt hVp] at this
    omega
   intro l38 h38 n39 h39 n40 h40 n41 h41 l42 h42 n43 h43 n44 h44
   have h42:=h42.symm
   subst h38 h39 h40 h41 h42 h43 h44
   have hdl:(Dy.dgN (m+2) (W1+Dy.val v)).length=m+2:=Dy.dgN_length _ _
   have hcur2:(Dy.putW (Dy.putW L lo (w1++[t1])) lo (Dy.dgN (m+2) (W1+Dy.val v))).getD (lo+(m+2)) 0=t1:=by
    have:=Dy.putW_get (L:=Dy.putW L lo (w1++[t1])) (w:=Dy.dgN (m+2) (W1+Dy.val v)) (lo:=lo) (by omega)
    rw [hdl,hg1] at this
    exact this
   have hset2:∀d,(Dy.putW (Dy.putW L lo (w1++[t1])) lo (Dy.dgN (m+2) (W1+Dy.val v))).set (lo+(m+2)) d=Dy.putW L lo (Dy.dgN (m+2) (W1+Dy.val v)++[d]):=fun d=>by
    have:=Dy.putW_set (L:=Dy.putW L lo (w1++[t1])) (w:=Dy.dgN (m+2) (W1+Dy.val v)) (lo:=lo) (d:=d) (by omega)
    rw [hdl] at this
    rw [this,Dy.putW_put (by simp;omega) (by simp [hdl,hw1l])]
   have hlen2:(Dy.putW (Dy.putW L lo (w1++[t1])) lo (Dy.dgN (m+2) (W1+Dy.val v))).length=L.length:=by rw [Dy.putW_length (by omega),hlen31]
   have e4:IntKind.u32.wrap (((t1:Nat):Int)+(((W1+Dy.val v)/p:Nat):Int))=0:=by
    rw [wrap_u32]
    omega
   have e5:IntKind.u32.wrap (IntKind.u64.wrap (((G:Nat):Int)-1))=(q:Int):=by
    rw [wrap_u64,wrap_u32]
    clear fit over o1 o2 hr s1 s2 hdm hU hwin
    omega
   simp only [Int.toNat_natCast]
   rw [hcur2,e4,show (0:Int).toNat=0 from rfl,hset2,hlen2,e5]
   have hfin:Dy.dgN (m+2) (W1+Dy.val v)++[0]=Dy.dgN (m+2+1) r:=by
    refine Dy.ext_val (Dy.digs_append.2 ⟨Dy.digs_dgN _ _,Dy.digs_cons.2 ⟨by omega,Dy.digs_nil⟩⟩) (Dy.digs_dgN _ _) (by simp [Dy.dgN_length]) ?_
    rw [Dy.val_snoc,Dy.val_dgN,Dy.val_dgN,Nat.mul_zero,Nat.add_zero,hpp,s1,hps,Nat.mod_eq_of_lt (by omega)]
   rw [hfin]
   exact ⟨by omega,by omega,by omega,by omega,trivial,trivial,Dy.putW_length (by rw [Dy.dgN_length];exact hlo),rfl⟩
  ·obtain ⟨f1,f2⟩:=fit c
   have e3:(((t:Int)-(H:Int)-(b:Int))%4294967296).toNat=t-H-b:=by omega
   rw [if_neg (by omega),e3,hset]
   refine cond_t (by decide) ?_
   have hGq:G=q:=by
    have:G≤q:=hqle G (by rw [hwin];exact f1)
    clear fit over f2 hdm hU hwin
    omega
   have hrem:W1+p*(t-H-b)=r:=by
    rw [f2,←hwin,hGq,Nat.mul_comm]
    clear fit over
    omega
   have hfin:w1++[t-H-b]=Dy.dgN (m+2+1) r:=by
    refine Dy.ext_val (Dy.digs_append.2 ⟨hw1d,Dy.digs_cons.2 ⟨by omega,Dy.digs_nil⟩⟩) (Dy.digs_dgN _ _) (by simp [Dy.dgN_length,hw1l]) ?_
    rw [Dy.val_snoc,hw1l,hpp,hw1v,Dy.val_dgN,hrem,hps,Nat.mod_eq_of_lt (by omega)]
   have e5:IntKind.u32.wrap ((G:Nat):Int)=(q:Int):=by
    rw [wrap_u32]
    clear fit over f1 f2 hdm hU hwin
    omega
   rw [hfin,e5]
   exact ⟨trivial,trivial,Dy.putW_length (by rw [Dy.dgN_length];exact hlo),rfl⟩
 ·cases h
end Go.AI

namespace Go.Dy
theorem val_putW {L w:List Nat} {lo:Nat} (h:lo+w.length≤L.length):val (putW L lo w)=val (L.take lo)+2^(32*lo)*(val w+2^(32*w.length)*val (L.drop (lo+w.length))):=by
 unfold putW
 have e:(L.take lo).length=lo:=by simp;omega
 rw [List.append_assoc,val_append,val_append,e]
theorem val_win {L:List Nat} (lo n:Nat) (h:lo+n≤L.length):val (L.drop lo)=winV L lo n+2^(32*n)*val (L.drop (lo+n)):=by
 unfold winV
 have:=val_take_drop (L.drop lo) n (by simp;omega)
 rw [List.drop_drop] at this
 exact this
theorem long_step {u q v:List Nat} {j n U:Nat} (hu:digs u) (hv:digs v) (hn:v.length=n) (hq:j<q.length) (hul:j+n+1≤u.length) (hlt:val u<val v*2^(32*(j+1)))
  (hU:U=val (q.drop (j+1))*2^(32*(j+1))*val v+val u):
  winV u j (n+1)<4294967296*val v∧winV u j (n+1)/val v<4294967296∧val (putW u j (dgN (n+1) (winV u j (n+1)%val v)))<val v*2^(32*j)∧
   U=val ((q.set j (winV u j (n+1)/val v)).drop j)*2^(32*j)*val v+val (putW u j (dgN (n+1) (winV u j (n+1)%val v))):=by
 have hV:=val_lt hv
 rw [hn] at hV
 have hV0:0<val v:=by
  rcases Nat.eq_zero_or_pos (val v) with e|e
  ·rw [e] at hlt;omega
  ·exact e
 have hT:=val_lt (digs_take hu j)
 rw [List.length_take,Nat.min_eq_left (by omega)] at hT
 have hsplit:=val_take_drop u j (by omega)
 have hwin:=val_win (L:=u) j (n+1) (by omega)
 have hp:=Nat.two_pow_pos (32*j)
 have hd:val (u.drop j)<4294967296*val v:=by
  rw [pow_split] at hlt
  have h1:2^(32*j)*val (u.drop j)<2^(32*j)*(4294967296*val v):=by
   have:val v*(2^(32*j)*4294967296)=2^(32*j)*(4294967296*val v):=by rw [Nat.mul_comm (val v),Nat.mul_assoc]
   omega
  exact Nat.lt_of_mul_lt_mul_left h1
 have hrest:val (u.drop (j+(n+1)))=0:=by
  rcases Nat.eq_zero_or_pos (val (u.drop (j+(n+1)))) with e|e
  ·exact e
  ·exfalso
   have h1:=Nat.le_mul_of_pos_right (2^(32*(n+1))) e
   have h2:=pow_split n
   omega
 rw [hrest,Nat.mul_zero,Nat.add_zero] at hwin
 rw [←hwin]
 have hW:val (u.drop j)/val v<4294967296:=by rw [Nat.div_lt_iff_lt_mul hV0];exact hd
 have hm:=Nat.mod_lt (val (u.drop j)) hV0
 have hdm:=Nat.div_add_mod (val (u.drop j)) (val v)
 have hput:val (putW u j (dgN (n+1) (val (u.drop j)%val v)))=val (u.take j)+2^(32*j)*(val (u.drop j)%val v):=by
  rw [val_putW (by rw [dgN_length];omega),dgN_length,hrest,Nat.mul_zero,Nat.add_zero,val_dgN,Nat.mod_eq_of_lt]
  rw [pow_split]
  omega
 have hdrop:val ((q.set j (val (u.drop j)/val v)).drop j)=val (u.drop j)/val v+4294967296*val (q.drop (j+1)):=by
  rw [val_drop_at (by simpa using hq)]
  congr 2
  ·simp [List.getD_eq_getElem?_getD,hq]
  ·rw [drop_set_succ]
 refine ⟨hd,hW,?_,?_⟩
 ·rw [hput]
  have h1:2^(32*j)*(val (u.drop j)%val v+1)≤2^(32*j)*val v:=Nat.mul_le_mul_left _ hm
  rw [Nat.mul_add,Nat.mul_one] at h1
  rw [Nat.mul_comm (val v)]
  omega
 ·rw [hU,hput,hdrop,hsplit,pow_split]
  generalize val (q.drop (j+1))=Q
  generalize val (u.drop j)/val v=d at hdm ⊢
  generalize val (u.drop j)%val v=r at hdm ⊢
  generalize val (u.drop j)=W at hdm ⊢
  generalize val (u.take j)=T
  generalize 2^(32*j)=p
  subst hdm
  have e1:(d+4294967296*Q)*p*val v=d*p*val v+Q*(p*4294967296)*val v:=by
   rw [Nat.add_mul,Nat.add_mul,Nat.mul_comm 4294967296 Q,Nat.mul_assoc Q,Nat.mul_comm 4294967296 p]
  have e2:p*(val v*d+r)=d*p*val v+p*r:=by
   rw [Nat.mul_add,Nat.mul_comm (val v) d,←Nat.mul_assoc,Nat.mul_comm p d]
  rw [e1,e2]
  omega
theorem long_end {u q v:List Nat} {U:Nat} (hu:digs u) (hq:digs q) (hlt:val u<val v) (hU:U=val q*val v+val u):u=dgN u.length (U%val v)∧q=dgN q.length (U/val v):=by
 have h1:U%val v=val u:=by rw [hU,Nat.add_comm,Nat.add_mul_mod_self_right,Nat.mod_eq_of_lt hlt]
 have h2:U/val v=val q:=by rw [hU,Nat.add_comm,Nat.add_mul_div_right _ _ (by omega),Nat.div_eq_of_lt hlt,Nat.zero_add]
 rw [h1,h2,dgN_val hu,dgN_val hq]
 exact ⟨rfl,rfl⟩
end Go.Dy
namespace Go.AI
open Go Go.RowKit Go.Proofs
set_option linter.unusedVariables false
set_option maxRecDepth 100000
theorem ok_tabL:PhiOk Tryz.prog Inv (look tabL):=look_cons (look_cons ok_tab4 ok_upO) ok_step
theorem loop_long_1:LoopOk Tryz.prog (look tabL) lamLong 2 68 keepL1 (bodyN Tryz.f206 0) lsL1:=by
 intro vals r h K hK
 unfold lsL1 at h
 split at h
 ·cases h
  rename_i a s v u
  simp only [evLR] at hK
  obtain ⟨⟨ha,hu⟩,hK⟩:=hK
  have key:∀(m:Nat) (u:List Nat),u.length≤1048577→m=a.length+1-u.length→K (.exit 0) [.dig [1,2,3] a,.num .i64 s,.grown 152 v,.grown 152 (u++List.replicate m 0)]→
    ∃k,iterN Tryz.prog (look tabL) lamLong 2 68 keepL1 (bodyN Tryz.f206 0) k [.dig [1,2,3] a,.num .i64 s,.grown 152 v,.grown 152 u] K:=by
   intro m
   induction m with
   |zero=>
    intro u hu hm hK
    refine iterN_last ?_
    rw [vc_long_1]
    refine cond_f (decide_eq_false (by omega)) ?_
    simpa using hK
   |succ m ih=>
    intro u hu hm hK
    obtain ⟨k,hk⟩:=ih (u++[0]) (by simp;omega) (by simp;omega) (by rw [List.append_assoc];exact hK)
    refine iterN_next k ?_
    rw [vc_long_1]
    exact cond_t (decide_eq_true (by omega)) ⟨by omega,hk⟩
  exact key _ u hu rfl hK
 ·cases h
theorem loop_long_2:LoopOk Tryz.prog (look tabL) lamLong 2 68 keepL2 (bodyN Tryz.f206 1) lsL2:=by
 intro vals r h K hK
 unfold lsL2 at h
 split at h
 ·cases h
  rename_i s v u n q j
  simp only [evLR] at hK
  obtain ⟨⟨hdu,hdv,hv2,rfl,hul,hub,hq0,rfl,hvt,hlt⟩,hK⟩:=hK
  generalize hU:Dy.val u=U at hK
  generalize hk:q.length=k at*
  generalize hul':u.length=lu at*
  have key:∀(j:Nat) (u q:List Nat),u.length=lu→q.length=k→j≤k→Dy.digs u→Dy.digs q→Dy.val u<Dy.val v*2^(32*j)→U=Dy.val (q.drop j)*2^(32*j)*Dy.val v+Dy.val u→
    ∃m,iterN Tryz.prog (look tabL) lamLong 2 68 keepL2 (bodyN Tryz.f206 1) m [.num .i64 s,.grown 152 v,.grown 152 u,.num .i64 v.length,.grown 152 q,.num .i64 ((j:Int)-1)] K:=by
   intro j
   induction j with
   |zero=>
    intro u q hul hql _ hdu hdq hlt hU
    refine iterN_last ?_
    rw [vc_long_2]
    refine cond_f (decide_eq_false (by omega)) ?_
    obtain ⟨e1,e2⟩:=Dy.long_end hdu hdq (by simpa using hlt) (by simpa using hU)
    rw [hul] at e1
    rw [hql] at e2
    rw [e1,e2]
    exact hK
   |succ j ih=>
    intro u q hul hql hjk hdu hdq hlt hU
    obtain ⟨s1,s2,s3,s4⟩:=Dy.long_step hdu hdv rfl (by omega) (by omega) hlt hU
    obtain ⟨m,hm⟩:=ih _ (q.set j (Dy.winV u j (v.length+1)/Dy.val v)) (by rw [Dy.putW_length (by rw [Dy.dgN_length];omega)];exact hul) (by simpa using hql) (by omega) (Dy.digs_putW hdu (Dy.digs_dgN _ _) j) (Dy.digs_set hdq s2) s3 s4
    refine iterN_next m ?_
    rw [vc_long_2]
    have e0:(((j+1:Nat):Int)-1)=(j:Int):=by omega
    have e1:IntKind.i64.wrap (IntKind.i64.wrap ((j:Int)+(v.length:Int))+1)=((j+v.length+1:Nat):Int):=by
     rw [wrap_i64 (n:=(j:Int)+(v.length:Int)) (by omega) (by omega),wrap_i64 (by omega) (by omega)]
     omega
    have e2:IntKind.i64.wrap ((j:Int)-1)=(j:Int)-1:=wrap_i64 (by omega) (by omega)
    rw [e0,e1,e2,Int.toNat_natCast,Int.toNat_natCast,Int.toNat_natCast,show j+v.length+1-j=v.length+1 by omega]
    refine cond_t (decide_eq_true (by omega)) ⟨⟨by omega,by omega,by omega⟩,⟨⟨by omega,by omega,hv2,rfl,by omega,hvt,s1⟩,by omega⟩,by omega,by omega,hm⟩
  exact key k u q hul' hk (Nat.le_refl _) hdu (by rw [hq0];exact Dy.digs_replicate _) (by first|exact hlt|(rw [hU];exact hlt)) (by rw [List.drop_of_length_le (by omega),show Dy.val []=0 from rfl,Nat.zero_mul,Nat.zero_mul,Nat.zero_add];exact hU.symm)
 ·cases h
theorem ok_long (args:List AV) (s:Spec) (h:sLong args=some s) (hp:andO s.pre True):Contract Tryz.prog Inv 206 args s.res:=by
 unfold sLong at h
 split at h
 ·cases h
  rename_i a b
  obtain ⟨⟨ha,hb,hb2,hba,hal⟩, -⟩:=hp
  refine contract_at false 68 lamLong ok_tabL Tryz.func206 (by kernel_rfl) rfl (loops2 (by kernel_rfl) (by kernel_rfl) loop_long_1 (by kernel_rfl) loop_long_2) fun hok=> ?_
  have hda:=(oks1_dig hok).1.2
  have hdb:=(oks1_dig (oks1_dig hok).2).1.2
  have hbn:b≠[]:=fun e=>by rw [e] at hb2;simp at hb2
  have han:a≠[]:=fun e=>by subst e;have:([]:List Nat).length=0:=rfl;omega
  have htop:=((Dy.can_iff hdb).1 hb).resolve_left hbn
  have htl:=Dy.digs_getD hdb (b.length-1)
  have hbl:=Dy.bl_digits hdb hbn htop
  have hB0:Dy.val b≠0:=fun e=>by rw [e,Dy.dg_zero] at hb;exact hbn hb.symm
  have ht32:Dy.bl (b.getD (b.length-1) 0)≤32:=Dy.bl_le.2 (by omega)
  have ht0:0<Dy.bl (b.getD (b.length-1) 0):=Dy.bl_pos.2 htop
  rw [vc_long]
  have w1:IntKind.i64.wrap ((b.length:Int)-1)=((b.length-1:Nat):Int):=by rw [wrap_i64 (by omega) (by omega)];omega
  rw [w1,Int.toNat_natCast,Int.toNat_natCast,Dy.bitLen_eq (by omega)]
  obtain ⟨s,hs⟩:∃s,s=32-Dy.bl (b.getD (b.length-1) 0):=⟨_,rfl⟩
  have hs1:(32:Int)-(Dy.bl (b.getD (b.length-1) 0):Int)=(s:Int):=by omega
  rw [hs1,Int.toNat_natCast]
  have hVbl:Dy.bl (Dy.val b*2^s)=32*b.length:=by rw [Dy.bl_mul_two_pow hB0,hbl];omega
  have hV0:Dy.val b*2^s≠0:=Nat.mul_ne_zero hB0 (Nat.pos_iff_ne_zero.1 (Nat.two_pow_pos s))
  have hVl:(Dy.dg (Dy.val b*2^s)).length=b.length:=by
   refine Nat.le_antisymm (Dy.length_dg_bl.2 (by omega)) ?_
   rcases Nat.lt_or_ge (Dy.dg (Dy.val b*2^s)).length b.length with c|c
   ·have:=(Dy.length_dg_bl (n:=Dy.val b*2^s) (k:=b.length-1)).1 (by omega)
    omega
   ·exact c
  have hVge:=Dy.two_bl_le hV0
  rw [hVbl] at hVge
  have hVlt:Dy.val b*2^s<2^(32*b.length):=by have:=Dy.lt_two_bl (Dy.val b*2^s);rwa [hVbl] at this
  have hVtop:2147483648≤(Dy.dg (Dy.val b*2^s)).getD (b.length-1) 0:=by
   rw [Dy.getD_val (Dy.digs_dg _),Dy.val_dg]
   have h1:Dy.val b*2^s/2^(32*(b.length-1))<4294967296:=by
    have hps:=Dy.pow_split (b.length-1)
    rw [show b.length-1+1=b.length by omega] at hps
    rw [Nat.div_lt_iff_lt_mul (Nat.two_pow_pos _)]
    omega
   rw [Nat.mod_eq_of_lt h1,Nat.le_div_iff_mul_le (Nat.two_pow_pos _),show 2147483648=2^31 from rfl,←Nat.pow_add,show 31+32*(b.length-1)=32*b.length-1 by omega]
   exact hVge
  have hA:=Dy.val_lt hda
  have hUlt:Dy.val a*2^s<2^(32*(a.length+1)):=by
   rw [Dy.pow_split]
   exact Nat.mul_lt_mul_of_lt_of_le hA (Nat.le_trans (Nat.pow_le_pow_right (n:=2) (by decide) (show s≤32 by omega)) (by decide)) (by decide)
  have hUl:(Dy.dg (Dy.val a*2^s)).length≤a.length+1:=Dy.length_dg_le.2 hUlt
  have hU1l:(Dy.dg (Dy.val a*2^s)++List.replicate (a.length+1-(Dy.dg (Dy.val a*2^s)).length) 0).length=a.length+1:=by simp;omega
  have hU1v:Dy.val (Dy.dg (Dy.val a*2^s)++List.replicate (a.length+1-(Dy.dg (Dy.val a*2^s)).length) 0)=Dy.val a*2^s:=by
   rw [Dy.val_append,Dy.val_replicate,Nat.mul_zero,Nat.add_zero,Dy.val_dg]
  have hU1d:Dy.digs (Dy.dg (Dy.val a*2^s)++List.replicate (a.length+1-(Dy.dg (Dy.val a*2^s)).length) 0):=Dy.digs_append.2 ⟨Dy.digs_dg _,Dy.digs_replicate _⟩
  have hVv:Dy.val (Dy.dg (Dy.val b*2^s))=Dy.val b*2^s:=Dy.val_dg _
  have hVd:=Dy.digs_dg (Dy.val b*2^s)
  generalize Dy.dg (Dy.val a*2^s)++List.replicate (a.length+1-(Dy.dg (Dy.val a*2^s)).length) 0=U1 at*
  generalize Dy.dg (Dy.val b*2^s)=V at*
  rw [hU1l,hVl,hU1v,hVv]
  have w2:IntKind.i64.wrap (((a.length+1:Nat):Int)-(b.length:Int))=((a.length+1-b.length:Nat):Int):=by rw [wrap_i64 (by omega) (by omega)];omega
  rw [w2,Int.toNat_natCast,List.length_replicate,Int.toNat_natCast]
  have w3:IntKind.i64.wrap (((a.length+1-b.length:Nat):Int)-1)=((a.length+1-b.length:Nat):Int)-1:=wrap_i64 (by omega) (by omega)
  rw [w3]
  have hmul:Dy.val a*2^s<Dy.val b*2^s*2^(32*(a.length+1-b.length)):=by
   have h1:2^(32*(b.length-1))≤Dy.val b:=by
    have:=Dy.le_of_length hB0
    rwa [hb] at this
   have h2:Dy.val a<Dy.val b*2^(32*(a.length+1-b.length)):=by
    refine Nat.lt_of_lt_of_le hA (Nat.le_trans ?_ (Nat.mul_le_mul_right _ h1))
    rw [←Nat.pow_add]
    exact Nat.pow_le_pow_right (by decide) (by omega)
   have h3:=Nat.mul_lt_mul_of_pos_right h2 (Nat.two_pow_pos s)
   rw [Nat.mul_right_comm]
   exact h3
  have hq:Dy.val a*2^s/(Dy.val b*2^s)=Dy.val a/Dy.val b:=Nat.mul_div_mul_right _ _ (Nat.two_pow_pos s)
  have hr:Dy.val a*2^s%(Dy.val b*2^s)=Dy.val a%Dy.val b*2^s:=Nat.mul_mod_mul_right _ _ _
  have hqlt:Dy.val a/Dy.val b<2^(32*(a.length+1-b.length)):=by
   rw [←hq,Nat.div_lt_iff_lt_mul (Nat.pos_iff_ne_zero.2 hV0),Nat.mul_comm (2^_)]
   exact hmul
  have hrlt:Dy.val a%Dy.val b*2^s<2^(32*b.length):=by
   refine Nat.lt_of_le_of_lt (Nat.mul_le_mul_right _ (Nat.le_of_lt (Nat.mod_lt _ (Nat.pos_iff_ne_zero.2 hB0)))) hVlt
  have hrv:Dy.val ((Dy.dgN (a.length+1) (Dy.val a%Dy.val b*2^s)).take b.length)=Dy.val a%Dy.val b*2^s:=by
   rw [Dy.val_take (Dy.digs_dgN _ _),Dy.val_dgN,Nat.mod_mod_of_dvd _ (Nat.pow_dvd_pow 2 (by omega)),Nat.mod_eq_of_lt hrlt]
  rw [hq,hr,hrv,Dy.val_dgN,Nat.mod_eq_of_lt hqlt,Dy.val_dg,Dy.val_dg,Nat.mul_div_cancel _ (Nat.two_pow_pos s)]
  have hlast:(Dy.dg (Dy.val a%Dy.val b*2^s)).length≤b.length:=Dy.length_dg_le.2 hrlt
  exact ⟨by omega,⟨hbn,by omega,by omega,by omega⟩,⟨han,by omega,by omega,hal⟩,⟨hal,by omega⟩,⟨by omega,by omega,by omega⟩,
   ⟨hU1d,hVd,hb2,rfl,by omega,by omega,rfl,rfl,hVtop,hmul⟩,⟨by omega,by rw [Dy.dgN_length];omega⟩,⟨by omega,by omega⟩,rfl⟩
 ·cases h
end Go.AI

namespace Go.Dy
def isq:Nat→Nat
 |0=>0
 |n+1=>if (isq n+1)*(isq n+1)≤n+1 then isq n+1 else isq n
structure Qr where
 quo:List Nat
 rem:List Nat
 err:Int
def quoR (a b:List Nat):Qr:=if may a&&may b then (if val b=0 then ⟨[],[],11⟩ else ⟨dg (val a/val b),dg (val a%val b),0⟩) else ⟨[],[],2⟩
structure Rt where
 mag:List Nat
 exact:Bool
 err:Int
def rootR (a:List Nat):Rt:=if may a then ⟨dg (isq (val a)),decide (isq (val a)*isq (val a)=val a),0⟩ else ⟨[],false,2⟩
end Go.Dy
namespace Go.AI
open Go Go.RowKit Go.Proofs
set_option linter.unusedVariables false
def sQuoRem:List AV→Option Spec
 |[.dig [1] a,.dig [2] b]=>some ⟨none,.tup [.dig [0] (Dy.quoR a b).quo,.dig [0] (Dy.quoR a b).rem,.num .i64 (Dy.quoR a b).err]⟩
 |_=>none
def sRootN:List AV→Option Spec
 |[.dig [1] a]=>some ⟨none,.tup [.dig [0] (Dy.rootR a).mag,.bool (Dy.rootR a).exact,.num .i64 (Dy.rootR a).err]⟩
 |_=>none
def tabQ0:List (Nat×(List AV→Option Spec)):=(206,sLong)::tab4
def tabQ1:List (Nat×(List AV→Option Spec)):=(183,sQuoRem)::tab4
end Go.AI

namespace Go.AI
open Dy IntKind
open Go Go.RowKit Go.Proofs
set_option linter.unusedVariables false
set_option maxRecDepth 100000
set_option maxHeartbeats 0
theorem vc_nat_QuoRem (a:List Nat) (b:List Nat) (Q:AV→Prop):(evF Tryz.prog (look tabQ0) (lam []) false Tryz.f183 [.dig [1] a,.dig [2] b] Q)=(bif !(may a&&may b) then Q (.tup [.dig [0] [],.dig [0] [],.num .i64 2]) else bif decide ((↑b.length:Int)=(0:Int)) then Q (.tup [.dig [0] [],.dig [0] [],.num .i64 11]) else (dg (val a)=a∧dg (val b)=b)∧bif decide (cmpN (val a) (val b)<(0:Int)) then a.length≤1099511627776∧Q (.tup [.dig [0] [],.dig [0] a,.num .i64 0]) else bif decide ((↑b.length:Int)=(1:Int)) then ((0:Int)≤(0:Int)∧(0:Int)<(↑b.length:Int))∧((0:Int)<(↑(b.getD (0:Nat) (0:Nat)):Int)∧a.length≤1048576)∧∀(l1:List Nat),l1=dg (val a/(↑(b.getD (0:Nat) (0:Nat)):Int).toNat)→∀(n2:Int),n2=(↑(val a%(↑(b.getD (0:Nat) (0:Nat)):Int).toNat):Int)→Q (.tup [.dig [0] l1,.dig [0] (dg (val [n2.toNat])),.num .i64 0]) else (dg (val a)=a∧dg (val b)=b∧(2:Nat)≤b.length∧b.length≤a.length∧a.length≤1048576)∧∀(l3:List Nat),l3=dg (val a/val b)→∀(l4:List Nat),l4=dg (val a%val b)→Q (.tup [.dig [0] l3,.dig [0] l4,.num .i64 0])):=by kernel_rfl
def lsRoot:List AV→Option LR
 |[.dig [1,2] a,.dig [2] r,.bool b,.num .i64 e,.dig [2] x]=>
 some (.need (Dy.may a=true∧a≠[]∧Dy.dg (Dy.val x)=x∧x.length≤4096∧x≠[]∧Dy.isq (Dy.val a)≤Dy.val x)
 (.done .ret [.dig [1,2] a,.dig [2] (Dy.dg (Dy.isq (Dy.val a))),.bool (decide (Dy.isq (Dy.val a)*Dy.isq (Dy.val a)=Dy.val a)),.num .i64 0,.dig [2] (Dy.dg (Dy.isq (Dy.val a)))]))
 |_=>none
def keepRoot:List (Nat×Keep):=[(0,.same),(2,.same),(3,.same),(4,.same),(5,.same)]
def lsSum:List AV→Option LR
 |[.dig [1,2] a,.dig [2] r,.bool b,.num .i64 e,.dig [2] x,.dig [2] q,.grown 152 o,.num .u32 c,.num .i64 k,.num .i64 i]=>
 some (.need (Dy.digs x∧Dy.digs q∧o=List.replicate o.length 0∧x.length<o.length∧q.length<o.length∧o.length≤1048576∧c=0∧k=o.length∧i=0)
 (.done (.exit 2) [.dig [1,2] a,.dig [2] r,.bool b,.num .i64 e,.dig [2] x,.dig [2] q,.grown 152 (Dy.dgN o.length (Dy.val q+Dy.val x)),.num .u32 0,.num .i64 k,.num .i64 k]))
 |_=>none
def keepSum:List (Nat×Keep):=[(0,.same),(2,.same),(3,.same),(4,.same),(5,.same),(6,.same),(9,.same),(10,.same),(42,.same),(43,.same)]
def lamRoot:=lam [(6,.spec keepRoot lsRoot),(10,.spec keepSum lsSum)]
theorem vc_nat_Root (a:List Nat) (Q:AV→Prop):(evF Tryz.prog (look tabQ1) lamRoot false Tryz.f146 [.dig [1] a] Q)=(bif !may a then Q (.tup [.dig [0] [],.bool false,.num .i64 2]) else bif decide ((↑a.length:Int)=(0:Int)) then Q (.tup [.dig [0] [],.bool true,.num .i64 0]) else ((0:Int)≤i64.wrap ((i64.wrap ((↑(lenN a):Int)+(1:Int))).tdiv (2:Int))∧i64.wrap ((i64.wrap ((↑(lenN a):Int)+(1:Int))).tdiv (2:Int))≤(33554432:Int)∧(1:Nat)≤(1048576:Nat))∧(may a=true∧a≠[]∧dg (val (dg ((1:Nat)*(2:Nat)^(i64.wrap ((i64.wrap ((↑(lenN a):Int)+(1:Int))).tdiv (2:Int))).toNat)))=dg ((1:Nat)*(2:Nat)^(i64.wrap ((i64.wrap ((↑(lenN a):Int)+(1:Int))).tdiv (2:Int))).toNat)∧(dg ((1:Nat)*(2:Nat)^(i64.wrap ((i64.wrap ((↑(lenN a):Int)+(1:Int))).tdiv (2:Int))).toNat)).length≤4096∧dg ((1:Nat)*(2:Nat)^(i64.wrap ((i64.wrap ((↑(lenN a):Int)+(1:Int))).tdiv (2:Int))).toNat)≠[]∧isq (val a)≤val (dg ((1:Nat)*(2:Nat)^(i64.wrap ((i64.wrap ((↑(lenN a):Int)+(1:Int))).tdiv (2:Int))).toNat)))∧Q (.tup [.dig [0] (dg (isq (val a))),.bool (decide (isq (val a)*isq (val a)=val a)),.num .i64 0])):=by kernel_rfl
theorem vc_nat_Root_1 (a:List Nat) (r:List Nat) (x:List Nat) (b:Bool) (e:Int) (K:Exit→List AV→Prop):(evIter Tryz.prog (look tabQ1) lamRoot (1:Nat) (88:Nat) keepRoot (bodyN Tryz.f146 (0:Nat)) [.dig [1,2] a,.dig [2] r,.bool b,.num .i64 e,.dig [2] x] K)=(∀(l1:List Nat),l1=(quoR a x).quo→∀(l2:List Nat),l2=(quoR a x).rem→∀(n3:Int),n3=(quoR a x).err→((0:Int)≤i64.wrap ((if (↑x.length:Int)>(↑l1.length:Int) then (↑x.length:Int) else (↑l1.length:Int))+(1:Int))∧i64.wrap ((if (↑x.length:Int)>(↑l1.length:Int) then (↑x.length:Int) else (↑l1.length:Int))+(1:Int))≤i64.wrap ((if (↑x.length:Int)>(↑l1.length:Int) then (↑x.length:Int) else (↑l1.length:Int))+(1:Int))∧i64.wrap ((if (↑x.length:Int)>(↑l1.length:Int) then (↑x.length:Int) else (↑l1.length:Int))+(1:Int))≤(2:Int)^(40:Nat))∧(digs x∧digs l1∧List.replicate (i64.wrap ((if (↑x.length:Int)>(↑l1.length:Int) then (↑x.length:Int) else (↑l1.length:Int))+(1:Int))).toNat (0:Nat)=List.replicate (List.replicate (i64.wrap ((if (↑x.length:Int)>(↑l1.length:Int) then (↑x.length:Int) else (↑l1.length:Int))+(1:Int))).toNat (0:Nat)).length (0:Nat)∧x.length<(List.replicate (i64.wrap ((if (↑x.length:Int)>(↑l1.length:Int) then (↑x.length:Int) else (↑l1.length:Int))+(1:Int))).toNat (0:Nat)).length∧l1.length<(List.replicate (i64.wrap ((if (↑x.length:Int)>(↑l1.length:Int) then (↑x.length:Int) else (↑l1.length:Int))+(1:Int))).toNat (0:Nat)).length∧(List.replicate (i64.wrap ((if (↑x.length:Int)>(↑l1.length:Int) then (↑x.length:Int) else (↑l1.length:Int))+(1:Int))).toNat (0:Nat)).length≤1048576∧(0:Int)=(0:Int)∧(↑(List.replicate (i64.wrap ((if (↑x.length:Int)>(↑l1.length:Int) then (↑x.length:Int) else (↑l1.length:Int))+(1:Int))).toNat (0:Nat)).length:Int)=(↑(List.replicate (i64.wrap ((if (↑x.length:Int)>(↑l1.length:Int) then (↑x.length:Int) else (↑l1.length:Int))+(1:Int))).toNat (0:Nat)).length:Int)∧(0:Int)=(0:Int))∧((0:Int)≤(1:Int)∧(dg (val (dgN (List.replicate (i64.wrap ((if (↑x.length:Int)>(↑l1.length:Int) then (↑x.length:Int) else (↑l1.length:Int))+(1:Int))).toNat (0:Nat)).length (val l1+val x)))).length≤1048576)∧(dg (val (dg (val (dg (val (dgN (List.replicate (i64.wrap ((if (↑x.length:Int)>(↑l1.length:Int) then (↑x.length:Int) else (↑l1.length:Int))+(1:Int))).toNat (0:Nat)).length (val l1+val x))))/(2:Nat))))=dg (val (dg (val (dgN (List.replicate (i64.wrap ((if (↑x.length:Int)>(↑l1.length:Int) then (↑x.length:Int) else (↑l1.length:Int))+(1:Int))).toNat (0:Nat)).length (val l1+val x))))/(2:Nat))∧dg (val x)=x)∧bif decide (cmpN (val (dg (val (dg (val (dgN (List.replicate (i64.wrap ((if (↑x.length:Int)>(↑l1.length:Int) then (↑x.length:Int) else (↑l1.length:Int))+(1:Int))).toNat (0:Nat)).length (val l1+val x))))/(2:Nat)))) (val x)≥(0:Int)) then (x.length≤1048576∧x.length≤1048576)∧(dg (val (dg (val x*val x)))=dg (val x*val x)∧dg (val a)=a)∧K Exit.ret [.dig [1,2] a,.dig [2] x,.bool (cmpN (val (dg (val x*val x))) (val a)==(0:Int)),.num .i64 0,.dig [2] x] else K Exit.normal [.dig [1,2] a,.dig [2] r,.bool b,.num .i64 e,.dig [2] (dg (val (dg (val (dgN (List.replicate (i64.wrap ((if (↑x.length:Int)>(↑l1.length:Int) then (↑x.length:Int) else (↑l1.length:Int))+(1:Int))).toNat (0:Nat)).length (val l1+val x))))/(2:Nat)))]):=by kernel_rfl
theorem vc_nat_Root_2 (a:List Nat) (r:List Nat) (x:List Nat) (q:List Nat) (o:List Nat) (b:Bool) (e:Int) (c:Int) (k:Int) (i:Int) (K:Exit→List AV→Prop):(evIter Tryz.prog (look tabQ1) lamRoot (1:Nat) (88:Nat) keepSum (bodyN Tryz.f146 (1:Nat)) [.dig [1,2] a,.dig [2] r,.bool b,.num .i64 e,.dig [2] x,.dig [2] q,.grown (152:TypeId) o,.num .u32 c,.num .i64 k,.num .i64 i] K)=(bif decide (i<k) then bif decide (i<(↑q.length:Int)) then (0≤i∧i<(↑q.length:Int))∧bif decide (i<(↑x.length:Int)) then (0≤i∧i<(↑x.length:Int))∧∀(n1:Int),n1=((↑(q.getD i.toNat (0:Nat)):Int)+(↑(x.getD i.toNat (0:Nat)):Int)+c)%(4294967296:Int)→∀(n2:Int),n2=((↑(q.getD i.toNat (0:Nat)):Int)+(↑(x.getD i.toNat (0:Nat)):Int)+c)/(4294967296:Int)→(0≤i∧i<(↑o.length:Int))∧i.toNat<o.length∧K Exit.normal [.dig [1,2] a,.dig [2] r,.bool b,.num .i64 e,.dig [2] x,.dig [2] q,.grown (152:Nat) (o.set i.toNat n1.toNat),.num .u32 n2,.num .i64 k,.num .i64 (i64.wrap (i+(1:Int)))] else∀(n3:Int),n3=((↑(q.getD i.toNat (0:Nat)):Int)+(0:Int)+c)%(4294967296:Int)→∀(n4:Int),n4=((↑(q.getD i.toNat (0:Nat)):Int)+(0:Int)+c)/(4294967296:Int)→(0≤i∧i<(↑o.length:Int))∧i.toNat<o.length∧K Exit.normal [.dig [1,2] a,.dig [2] r,.bool b,.num .i64 e,.dig [2] x,.dig [2] q,.grown (152:Nat) (o.set i.toNat n3.toNat),.num .u32 n4,.num .i64 k,.num .i64 (i64.wrap (i+(1:Int)))] else bif decide (i<(↑x.length:Int)) then (0≤i∧i<(↑x.length:Int))∧∀(n5:Int),n5=((0:Int)+(↑(x.getD i.toNat (0:Nat)):Int)+c)%(4294967296:Int)→∀(n6:Int),n6=((0:Int)+(↑(x.getD i.toNat (0:Nat)):Int)+c)/(4294967296:Int)→(0≤i∧i<(↑o.length:Int))∧i.toNat<o.length∧K Exit.normal [.dig [1,2] a,.dig [2] r,.bool b,.num .i64 e,.dig [2] x,.dig [2] q,.grown (152:Nat) (o.set i.toNat n5.toNat),.num .u32 n6,.num .i64 k,.num .i64 (i64.wrap (i+(1:Int)))] else∀(n7:Int),n7=((0:Int)+(0:Int)+c)%(4294967296:Int)→∀(n8:Int),n8=((0:Int)+(0:Int)+c)/(4294967296:Int)→(0≤i∧i<(↑o.length:Int))∧i.toNat<o.length∧K Exit.normal [.dig [1,2] a,.dig [2] r,.bool b,.num .i64 e,.dig [2] x,.dig [2] q,.grown (152:Nat) (o.set i.toNat n7.toNat),.num .u32 n8,.num .i64 k,.num .i64 (i64.wrap (i+(1:Int)))] else K (Exit.exit (2:Nat)) [.dig [1,2] a,.dig [2] r,.bool b,.num .i64 e,.dig [2] x,.dig [2] q,.grown (152:Nat) o,.num .u32 c,.num .i64 k,.num .i64 i]):=by kernel_rfl
end Go.AI

namespace Go.Dy
theorem isq_spec:∀n,isq n*isq n≤n∧n<(isq n+1)*(isq n+1)
 |0=>by decide
 |n+1=>by
  obtain ⟨h1,h2⟩:=isq_spec n
  unfold isq
  split
  ·rename_i h
   refine ⟨h,?_⟩
   have:(isq n+1+1)*(isq n+1+1)=(isq n+1)*(isq n+1)+2*(isq n+1)+1:=by
    rw [Nat.add_mul _ 1,Nat.mul_add,Nat.mul_one,Nat.one_mul];omega
   omega
  ·rename_i h
   exact ⟨by omega,by omega⟩
theorem le_isq {x n:Nat} (h:x*x≤n):x≤isq n:=by
 rcases Nat.lt_or_ge (isq n) x with c|c
 ·have:=Nat.mul_le_mul c c
  have:=(isq_spec n).2
  simp only [Nat.succ_eq_add_one] at*
  omega
 ·exact c
theorem isq_pos {n:Nat} (h:n≠0):0<isq n:=le_isq (by omega)
theorem isq_lt {x n:Nat} (h:n<x*x):isq n<x:=by
 rcases Nat.lt_or_ge (isq n) x with c|c
 ·exact c
 ·have:=Nat.mul_le_mul c c
  have:=(isq_spec n).1
  omega
theorem newton_ge {a x:Nat} (hx:0<x):isq a≤(a/x+x)/2:=by
 rw [Nat.le_div_iff_mul_le (by decide)]
 rcases Nat.lt_or_ge (a/x+x) (isq a*2) with c|c
 ·exfalso
  have h0:=Nat.zero_le (a/x)
  obtain ⟨d,hd⟩:∃d,d+x=isq a*2:=⟨isq a*2-x,by omega⟩
  have h1:a/x<d:=by omega
  rw [Nat.div_lt_iff_lt_mul hx] at h1
  have h2:=(isq_spec a).1
  have h3:d*x≤isq a*isq a:=by
   generalize isq a=s at hd
   rcases Nat.lt_or_ge x s with e|e
   ·obtain ⟨k,rfl⟩:∃k,s=x+k:=⟨s-x,by omega⟩
    have:d=x+k+k:=by omega
    subst this
    have e1:(x+k+k)*x=x*x+k*x+k*x:=by rw [Nat.add_mul,Nat.add_mul]
    have e2:(x+k)*(x+k)=x*x+k*x+(x*k+k*k):=by rw [Nat.mul_add,Nat.add_mul,Nat.add_mul]
    have e3:=Nat.mul_comm x k
    have e4:=Nat.zero_le (k*k)
    omega
   ·obtain ⟨k,rfl⟩:∃k,x=s+k:=⟨x-s,by omega⟩
    obtain ⟨m,rfl⟩:∃m,s=m+k:=⟨s-k,by omega⟩
    have:d=m:=by omega
    subst this
    have e1:d*(d+k+k)=d*d+d*k+d*k:=by rw [Nat.mul_add,Nat.mul_add]
    have e2:(d+k)*(d+k)=d*d+k*d+(d*k+k*k):=by rw [Nat.mul_add,Nat.add_mul,Nat.add_mul]
    have e3:=Nat.mul_comm d k
    have e4:=Nat.zero_le (k*k)
    omega
  omega
 ·exact c
theorem newton_end {a x:Nat} (hx:0<x) (h:x≤(a/x+x)/2) (hx':isq a≤x):x=isq a:=by
 rw [Nat.le_div_iff_mul_le (by decide)] at h
 have h1:x≤a/x:=by omega
 rw [Nat.le_div_iff_mul_le hx] at h1
 have:=le_isq h1
 omega
theorem dg_pow_len {e k:Nat} (h:e<32*k):(dg (2^e)).length≤k:=length_dg_bl.2 (bl_le.2 (Nat.pow_lt_pow_right (by decide) h))
theorem newton_begin {a:Nat} (ha:a≠0):isq a≤2^((bl a+1)/2):=by
 refine Nat.le_of_lt (isq_lt ?_)
 rw [←Nat.pow_add]
 exact Nat.lt_of_lt_of_le (lt_two_bl a) (Nat.pow_le_pow_right (by decide) (by omega))
end Go.Dy
namespace Go.AI
open Go Go.RowKit Go.Proofs
set_option linter.unusedVariables false
set_option maxRecDepth 100000
set_option maxHeartbeats 1000000
theorem ok_tabQ0:PhiOk Tryz.prog Inv (look tabQ0):=look_cons ok_tab4 ok_long
theorem ok_nat_QuoRem (args:List AV) (s:Spec) (h:sQuoRem args=some s) (hp:andO s.pre True):Contract Tryz.prog Inv 183 args s.res:=by
 unfold sQuoRem at h
 split at h
 ·cases h
  rename_i a b
  refine contract0 false ok_tabQ0 Tryz.func183 (by kernel_rfl) (by kernel_rfl) fun hok=> ?_
  have ha:=(oks1_dig hok).1
  have hb:=(oks1_dig (oks1_dig hok).2).1
  rw [vc_nat_QuoRem]
  unfold Dy.quoR
  cases hm:Dy.may a&&Dy.may b with
  |false=>exact cond_t rfl rfl
  |true=>
   obtain ⟨m1,m2⟩:=Bool.and_eq_true_iff.1 hm
   have l1:=Dy.may_len m1
   have l2:=Dy.may_len m2
   have d1:=Dy.may_dg m1
   have d2:=Dy.may_dg m2
   refine cond_f rfl ?_
   by_cases hb0:b=[]
   ·subst hb0
    exact cond_t rfl rfl
   ·have hbl:=List.length_pos_iff.2 hb0
    have hv0:Dy.val b≠0:=fun e=>hb0 ((Dy.may_nil m2).1 e)
    rw [if_pos rfl,if_neg hv0]
    refine cond_f (decide_eq_false (by omega)) ⟨⟨d1,d2⟩,cond_i (fun h=> ?_) (fun h=> ?_)⟩
    ·have h:=Dy.cmpN_neg.1 (of_decide_eq_true h)
     refine ⟨by omega,?_⟩
     rw [Nat.div_eq_of_lt h,Nat.mod_eq_of_lt h,d1]
     rfl
    ·have h:¬Dy.val a<Dy.val b:=fun c=>absurd (Dy.cmpN_neg.2 c) (of_decide_eq_false h)
     refine cond_i (fun h1=> ?_) (fun h1=> ?_)
     ·have h1:=of_decide_eq_true h1
      have hl1:b.length=1:=by omega
      match b,hl1 with
      |[d],_=>
       have hd:=(Dy.digs_cons.1 hb.2).1
       have hv:Dy.val [d]=d:=by simp [Dy.val]
       rw [hv] at hv0 ⊢
       have e:([d]:List Nat).getD 0 0=d:=rfl
       rw [e,Int.toNat_natCast]
       refine ⟨⟨by omega,by simp⟩,⟨by omega,by omega⟩,?_⟩
       rintro _ rfl _ rfl
       rw [Int.toNat_natCast]
       simp [Dy.val]
     ·have h1:=of_decide_eq_false h1
      have hba:b.length≤a.length:=by
       have:=Dy.length_dg_mono (Nat.le_of_not_lt h)
       rwa [d1,d2] at this
      refine ⟨⟨d1,d2,by omega,hba,by omega⟩,?_⟩
      rintro _ rfl _ rfl
      rfl
 ·cases h
theorem ok_tabQ1:PhiOk Tryz.prog Inv (look tabQ1):=look_cons ok_tab4 ok_nat_QuoRem
theorem loop_root_2:LoopOk Tryz.prog (look tabQ1) lamRoot 1 88 keepSum (bodyN Tryz.f146 1) lsSum:=by
 intro vals r h K hK
 unfold lsSum at h
 split at h
 ·cases h
  rename_i a r b e x q o c k i
  simp only [evLR] at hK
  obtain ⟨⟨hx,hq,ho,hxl,hql,hol,rfl,rfl,rfl⟩,hK⟩:=hK
  generalize hn:o.length=n at*
  have key:∀(u j c:Nat) (o:List Nat),n=u+j→o.length=n→Dy.digs o→c≤1→Dy.val (o.take j)+2^(32*j)*(c+Dy.val (q.drop j)+Dy.val (x.drop j))=Dy.val q+Dy.val x→
    ∃m,iterN Tryz.prog (look tabQ1) lamRoot 1 88 keepSum (bodyN Tryz.f146 1) m [.dig [1,2] a,.dig [2] r,.bool b,.num .i64 e,.dig [2] x,.dig [2] q,.grown 152 o,.num .u32 c,.num .i64 n,.num .i64 j] K:=by
   intro u
   induction u with
   |zero=>
    intro j c o hj hol hod hc hv
    refine iterN_last ?_
    rw [vc_nat_Root_2]
    refine cond_f (decide_eq_false (by omega)) ?_
    simp only [Dy.drop_le x (show x.length≤j by omega),Dy.drop_le q (show q.length≤j by omega),Nat.add_zero] at hv
    have hjn:j=n:=by omega
    subst hjn
    rw [List.take_of_length_le (by omega)] at hv
    have hlt:Dy.val q+Dy.val x<2^(32*j):=by
     have h1:=Dy.val_lt hx
     have h2:=Dy.val_lt hq
     have hp1:2^(32*x.length)*2≤2^(32*j):=by
      rw [←Nat.pow_succ];exact Nat.pow_le_pow_right (by decide) (by omega)
     have hp2:2^(32*q.length)*2≤2^(32*j):=by
      rw [←Nat.pow_succ];exact Nat.pow_le_pow_right (by decide) (by omega)
     omega
    have hc0:c=0:=by
     rcases Nat.eq_zero_or_pos c with h|h
     ·exact h
     ·have:=Nat.le_mul_of_pos_right (2^(32*j)) h
      omega
    subst hc0
    have ho:o=Dy.dgN j (Dy.val q+Dy.val x):=by
     rw [←hv,Nat.mul_zero,Nat.add_zero]
     exact (Dy.dgN_val' hod hol).symm
    rw [ho]
    exact hK
   |succ u ih=>
    intro j c o hj hol hod hc hv
    rw [Dy.val_drop_step q,Dy.val_drop_step x] at hv
    have hset:=Dy.val_take_set_succ (l:=o) (i:=j) (d:=(q.getD j 0+x.getD j 0+c)%4294967296) (by omega)
    have hb1:=Dy.digs_getD hq j
    have hb2:=Dy.digs_getD hx j
    obtain ⟨m,hm⟩:=ih (j+1) ((q.getD j 0+x.getD j 0+c)/4294967296) (o.set j ((q.getD j 0+x.getD j 0+c)%4294967296)) (by omega) (by simpa using hol) (Dy.digs_set hod (by omega)) (by omega) (by
      rw [hset,Dy.pow_split,Nat.mul_assoc,Nat.add_assoc,←Nat.mul_add,←hv]
      congr 2
      omega)
    refine iterN_next m ?_
    rw [vc_nat_Root_2]
    have e1:∀y z:Nat,(((y:Int)+(z:Int)+(c:Int))%4294967296).toNat=(y+z+c)%4294967296:=fun y z=>by omega
    have e2:∀y z:Nat,((y:Int)+(z:Int)+(c:Int))/4294967296=(((y+z+c)/4294967296:Nat):Int):=fun y z=>by omega
    have z1:q.length≤j→q.getD j 0=0:=fun h=>by rw [List.getD_eq_getElem?_getD,List.getElem?_eq_none (by omega)];rfl
    have z2:x.length≤j→x.getD j 0=0:=fun h=>by rw [List.getD_eq_getElem?_getD,List.getElem?_eq_none (by omega)];rfl
    have fin:∀y z:Nat,y=q.getD j 0→z=x.getD j 0→∀n1:Int,n1=((y:Int)+(z:Int)+(c:Int))%4294967296→∀n2:Int,n2=((y:Int)+(z:Int)+(c:Int))/4294967296→
      ((0:Int)≤(j:Int)∧(j:Int)<(o.length:Int))∧((j:Int)).toNat<o.length∧
      iterN Tryz.prog (look tabQ1) lamRoot 1 88 keepSum (bodyN Tryz.f146 1) m [.dig [1,2] a,.dig [2] r,.bool b,.num .i64 e,.dig [2] x,.dig [2] q,.grown 152 (o.set ((j:Int)).toNat n1.toNat),.num .u32 n2,.num .i64 n,.num .i64 (IntKind.i64.wrap ((j:Int)+1))] K:=by
     rintro y z rfl rfl _ rfl _ rfl
     rw [Int.toNat_natCast,e1,e2,wrap_i64 (by omega) (by omega)]
     exact ⟨by omega,by omega,hm⟩
    refine cond_t (decide_eq_true (by omega)) (cond_i (fun h=> ?_) (fun h=> ?_))
    ·have h:=of_decide_eq_true h
     refine ⟨by omega,cond_i (fun h'=> ?_) (fun h'=> ?_)⟩
     ·have h':=of_decide_eq_true h'
      exact ⟨by omega,fin _ _ rfl rfl⟩
     ·have h':=of_decide_eq_false h'
      exact fin _ 0 rfl (z2 (by omega)).symm
    ·have h:=of_decide_eq_false h
     refine cond_i (fun h'=> ?_) (fun h'=> ?_)
     ·have h':=of_decide_eq_true h'
      exact ⟨by omega,fin 0 _ (z1 (by omega)).symm rfl⟩
     ·have h':=of_decide_eq_false h'
      exact fin 0 0 (z1 (by omega)).symm (z2 (by omega)).symm
  exact key n 0 0 o (by omega) hn (by rw [ho];exact Dy.digs_replicate _) (by omega) (by simp [Dy.val])
 ·cases h
theorem loop_root_1:LoopOk Tryz.prog (look tabQ1) lamRoot 1 88 keepRoot (bodyN Tryz.f146 0) lsRoot:=by
 intro vals r h K hK
 unfold lsRoot at h
 split at h
 ·cases h
  rename_i a r b e x
  simp only [evLR] at hK
  obtain ⟨⟨hm,ha,hx,hxl,hx0,hge⟩,hK⟩:=hK
  have hav:Dy.val a≠0:=fun c=>ha ((Dy.may_nil hm).1 c)
  generalize hv:Dy.val x=v at*
  induction v using Nat.strongRecOn generalizing x with
  |_ v ih=>
   have hxd:Dy.digs x:=by rw [←hx];exact Dy.digs_dg _
   have hv0:0<v:=by
    rcases Nat.eq_zero_or_pos v with c|c
    ·exfalso;rw [c,Dy.dg_zero] at hx;exact hx0 hx.symm
    ·exact c
   have hmx:Dy.may x=true:=Dy.may_iff.2 ⟨hxl,by rw [hv];exact hx⟩
   have hq:Dy.quoR a x=⟨Dy.dg (Dy.val a/v),Dy.dg (Dy.val a%v),0⟩:=by
    unfold Dy.quoR
    rw [hm,hmx,hv]
    exact (if_pos rfl).trans (if_neg (by omega))
   have hql:(Dy.dg (Dy.val a/v)).length≤a.length:=by
    have:=Dy.length_dg_mono (Nat.div_le_self (Dy.val a) v)
    rwa [Dy.may_dg hm] at this
   have hal:=Dy.may_len hm
   obtain ⟨n,hn,hn1,hn2⟩:∃n:Nat,(if (x.length:Int)>((Dy.dg (Dy.val a/v)).length:Int) then (x.length:Int) else ((Dy.dg (Dy.val a/v)).length:Int))+1=(n:Int)∧x.length<n∧(Dy.dg (Dy.val a/v)).length<n∧n≤4097:=by
    refine ⟨max x.length (Dy.dg (Dy.val a/v)).length+1,?_,by omega,by omega,by omega⟩
    split<;>omega
   have hw:IntKind.i64.wrap ((if (x.length:Int)>((Dy.dg (Dy.val a/v)).length:Int) then (x.length:Int) else ((Dy.dg (Dy.val a/v)).length:Int))+1)=(n:Int):=by
    rw [hn];exact wrap_i64 (by omega) (by omega)
   have hlt:Dy.val a/v+v<2^(32*n):=by
    have h1:=Dy.val_lt hxd
    have h2:=Dy.val_lt (Dy.digs_dg (Dy.val a/v))
    rw [Dy.val_dg] at h2
    rw [hv] at h1
    have hp1:2^(32*x.length)*2≤2^(32*n):=by
     rw [←Nat.pow_succ];exact Nat.pow_le_pow_right (by decide) (by omega)
    have hp2:2^(32*(Dy.dg (Dy.val a/v)).length)*2≤2^(32*n):=by
     rw [←Nat.pow_succ];exact Nat.pow_le_pow_right (by decide) (by omega)
    omega
   have hs:Dy.val (Dy.dgN n (Dy.val a/v+v))=Dy.val a/v+v:=by rw [Dy.val_dgN,Nat.mod_eq_of_lt hlt]
   have hsl:(Dy.dg (Dy.val a/v+v)).length≤n:=Dy.length_dg_le.2 hlt
   have hy:=Dy.newton_ge (a:=Dy.val a) hv0
   by_cases c:v≤(Dy.val a/v+v)/2
   ·have hvi:=Dy.newton_end hv0 c hge
    refine iterN_last ?_
    rw [vc_nat_Root_1]
    intro l1 h1 l2 h2 n3 h3
    rw [hq] at h1
    have h1:l1=Dy.dg (Dy.val a/v):=h1
    subst h1
    rw [hw,Int.toNat_natCast,List.length_replicate,hv,Dy.val_dg,hs,Dy.val_dg,Dy.val_dg,Dy.val_dg]
    refine ⟨⟨by omega,by omega,by omega⟩,⟨hxd,Dy.digs_dg _,rfl,hn1,hn2.1,by omega,rfl,rfl,rfl⟩,⟨by omega,by omega⟩,⟨rfl,hx⟩,?_⟩
    refine cond_t (decide_eq_true ?_) ⟨⟨by omega,by omega⟩,⟨rfl,Dy.may_dg hm⟩,?_⟩
    ·unfold Dy.cmpN
     rw [if_neg (by omega)]
     split<;>omega
    ·have e1:x=Dy.dg (Dy.isq (Dy.val a)):=by rw [←hvi];exact hx.symm
     have e2:(Dy.cmpN (v*v) (Dy.val a)==(0:Int))=decide (Dy.isq (Dy.val a)*Dy.isq (Dy.val a)=Dy.val a):=by
      rw [←hvi]
      have:=(Dy.isq_spec (Dy.val a)).1
      rw [←hvi] at this
      unfold Dy.cmpN
      by_cases d:v*v=Dy.val a
      ·rw [if_neg (by omega),if_neg (by omega),decide_eq_true d];rfl
      ·rw [if_pos (by omega),decide_eq_false d];rfl
     rw [e2,e1]
     exact hK
   ·obtain ⟨m,hm'⟩:=ih ((Dy.val a/v+v)/2) (by omega) (Dy.dg ((Dy.val a/v+v)/2)) (by
      have:=Dy.length_dg_mono (show (Dy.val a/v+v)/2≤v by omega)
      rw [hx] at this
      omega) (by
      intro c'
      have:=Dy.dg_eq_nil.1 c'
      have:=Dy.isq_pos hav
      omega) (Dy.val_dg _) rfl hy
    refine iterN_next m ?_
    rw [vc_nat_Root_1]
    intro l1 h1 l2 h2 n3 h3
    rw [hq] at h1
    have h1:l1=Dy.dg (Dy.val a/v):=h1
    subst h1
    rw [hw,Int.toNat_natCast,List.length_replicate,hv,Dy.val_dg,hs,Dy.val_dg,Dy.val_dg,Dy.val_dg]
    refine ⟨⟨by omega,by omega,by omega⟩,⟨hxd,Dy.digs_dg _,rfl,hn1,hn2.1,by omega,rfl,rfl,rfl⟩,⟨by omega,by omega⟩,⟨rfl,hx⟩,?_⟩
    refine cond_f (decide_eq_false ?_) hm'
    unfold Dy.cmpN
    rw [if_pos (by omega)]
    decide
 ·cases h
theorem ok_nat_Root (args:List AV) (s:Spec) (h:sRootN args=some s) (hp:andO s.pre True):Contract Tryz.prog Inv 146 args s.res:=by
 unfold sRootN at h
 split at h
 ·cases h
  rename_i a
  refine contract_at false 88 lamRoot ok_tabQ1 Tryz.func146 (by kernel_rfl) rfl (loops2 (by kernel_rfl) (by kernel_rfl) loop_root_1 (by kernel_rfl) loop_root_2) fun hok=> ?_
  rw [vc_nat_Root]
  unfold Dy.rootR
  cases hm:Dy.may a with
  |false=>exact cond_t rfl rfl
  |true=>
   refine cond_f rfl ?_
   by_cases ha:a=[]
   ·subst ha
    exact cond_t rfl rfl
   ·have hl:=List.length_pos_iff.2 ha
    have hav:Dy.val a≠0:=fun c=>ha ((Dy.may_nil hm).1 c)
    have hbl:=Dy.may_len hm
    have hb:Dy.bl (Dy.val a)≤131072:=by
     have:=(Dy.length_dg_bl (n:=Dy.val a) (k:=4096)).1 (by rw [Dy.may_dg hm];exact hbl)
     omega
    have e0:Dy.lenN a=Dy.bl (Dy.val a):=by unfold Dy.lenN;rw [hm];rfl
    rw [e0]
    have e1:IntKind.i64.wrap ((IntKind.i64.wrap (((Dy.bl (Dy.val a):Nat):Int)+1)).tdiv 2)=(((Dy.bl (Dy.val a)+1)/2:Nat):Int):=by
     rw [wrap_i64 (n:=((Dy.bl (Dy.val a):Nat):Int)+1) (by omega) (by omega),Int.tdiv_eq_ediv_of_nonneg (by omega),wrap_i64 (by omega) (by omega)]
     omega
    rw [e1,Int.toNat_natCast,Nat.one_mul,Dy.val_dg]
    refine cond_f (decide_eq_false (by omega)) ⟨⟨by omega,by omega,by omega⟩,⟨rfl,ha,rfl,?_,?_,Dy.newton_begin hav⟩,rfl⟩
    ·exact Dy.dg_pow_len (by omega)
    ·intro c
     have:=Dy.dg_eq_nil.1 c
     have:=Nat.two_pow_pos ((Dy.bl (Dy.val a)+1)/2)
     omega
 ·cases h
end Go.AI

namespace Go.AI
open Go Go.RowKit Go.Proofs
set_option linter.unusedVariables false
def rByDigit:List AV→Option Spec
 |[.dig [1] a,.num .u32 d]=>some ⟨some (0<d∧a.length≤100000),.tup [.dig [0] (Dy.dg (Dy.val a/d.toNat)),.dig [0] (Dy.dg (Dy.val a%d.toNat))]⟩
 |_=>none
def rQuoRem:List AV→Option Spec
 |[.dig [1] a,.dig [2] b]=>some ⟨some (Dy.dg (Dy.val a)=a∧Dy.dg (Dy.val b)=b∧b≠[]∧a.length≤100000∧b.length≤100000),.tup [.dig [0] (Dy.dg (Dy.val a/Dy.val b)),.dig [0] (Dy.dg (Dy.val a%Dy.val b))]⟩
 |_=>none
def rRootN:List AV→Option Spec
 |[.dig [1] a]=>some ⟨some (Dy.dg (Dy.val a)=a∧a.length≤100000),.tup [.dig [0] (Dy.dg (Dy.isq (Dy.val a))),.bool (decide (Dy.isq (Dy.val a)*Dy.isq (Dy.val a)=Dy.val a))]⟩
 |_=>none
def tabE0:List (Nat×(List AV→Option Spec)):=(146,sRootN)::(183,sQuoRem)::tab23
def tabE1:List (Nat×(List AV→Option Spec)):=(219,rByDigit)::tabE0
def tabE2:List (Nat×(List AV→Option Spec)):=(213,rQuoRem)::(97,rRootN)::tabE1
theorem ok_tabE0:PhiOk Tryz.prog Inv (look tabE0):=look_cons (look_cons ok_tab23 ok_nat_QuoRem) ok_nat_Root
end Go.AI

namespace Go.AI
open Dy IntKind
open Go Go.RowKit Go.Proofs
set_option linter.unusedVariables false
set_option maxRecDepth 100000
set_option maxHeartbeats 0
def lsByD:List AV→Option LR
 |[.dig [1,2,3] a,.num .u32 d,.grown 152 o,.num .u64 c,.num .i64 i]=>
 some (.need (Dy.okl a∧0<d∧d<4294967296∧o=List.replicate a.length 0∧c=0∧i=a.length-1)
 (.done (.exit 0) [.dig [1,2,3] a,.num .u32 d,.grown 152 (Dy.dgN a.length (Dy.val a/d.toNat)),.num .u64 (Dy.val a%d.toNat:Nat),.num .i64 (-1)]))
 |_=>none
def keepByD:List (Nat×Keep):=[(0,.same),(1,.same),(6,.same),(7,.same),(8,.same)]
def lamByD:=lam [(4,.spec keepByD lsByD)]
theorem vc_byDigit (a:List Nat) (d:Int) (Q:AV→Prop):(evF Tryz.prog (look tabE0) lamByD false Tryz.f219 [.dig [1] a,.num .u32 d] Q)=(((0:Int)≤(↑a.length:Int)∧(↑a.length:Int)≤(↑a.length:Int)∧(↑a.length:Int)≤(2:Int)^(40:Nat))∧(okl a∧0<d∧d<4294967296∧List.replicate (↑a.length:Int).toNat (0:Nat)=List.replicate a.length (0:Nat)∧(0:Int)=(0:Int)∧i64.wrap ((↑a.length:Int)-(1:Int))=(↑a.length:Int)-(1:Int))∧Q (.tup [.dig [0] (dg (val (dgN a.length (val a/d.toNat)))),.dig [0] (dg (↑(val a%d.toNat):Int).toNat)])):=by kernel_rfl
theorem vc_byDigit_1 (a:List Nat) (o:List Nat) (d:Int) (c:Int) (i:Int) (K:Exit→List AV→Prop):(evIter Tryz.prog (look tabE0) lamByD (2:Nat) (43:Nat) keepByD (bodyN Tryz.f219 (0:Nat)) [.dig [1,2,3] a,.num .u32 d,.grown (152:TypeId) o,.num .u64 c,.num .i64 i] K)=(bif decide (i≥(0:Int)) then (0≤i∧i<(↑a.length:Int))∧u64.wrap d≠(0:Int)∧(0≤i∧i<(↑o.length:Int))∧i.toNat<o.length∧u64.wrap d≠(0:Int)∧K Exit.normal [.dig [1,2,3] a,.num .u32 d,.grown (152:Nat) (o.set i.toNat (u32.wrap (u64.wrap ((u64.wrap (↑(BitVec.ofInt (64:Nat) (u64.wrap (c*(2:Int)^(32:Nat)))|||BitVec.ofInt (64:Nat) (u64.wrap (↑(a.getD i.toNat (0:Nat)):Int))).toNat:Int)).tdiv (u64.wrap d)))).toNat),.num .u64 ((u64.wrap (↑(BitVec.ofInt (64:Nat) (u64.wrap (c*(2:Int)^(32:Nat)))|||BitVec.ofInt (64:Nat) (u64.wrap (↑(a.getD i.toNat (0:Nat)):Int))).toNat:Int)).tmod (u64.wrap d)),.num .i64 (i64.wrap (i-(1:Int)))] else K (Exit.exit (0:Nat)) [.dig [1,2,3] a,.num .u32 d,.grown (152:Nat) o,.num .u64 c,.num .i64 i]):=by kernel_rfl
def lsRQ:List AV→Option LR
 |[.dig [1,2,3] a,.dig [1,2,3] b,.grown 152 q,.dig [3] r,.num .i64 i]=>
 some (.need (Dy.dg (Dy.val a)=a∧Dy.dg (Dy.val b)=b∧Dy.val b≠0∧a.length≤100000∧b.length≤100000∧ -1≤i∧i<32*a.length∧q=List.replicate a.length 0∧r=Dy.dg (Dy.val a/2^(i+1).toNat)∧Dy.val a/2^(i+1).toNat<Dy.val b)
 (.done (.exit 0) [.dig [1,2,3] a,.dig [1,2,3] b,.grown 152 (Dy.dgN a.length (Dy.val a/Dy.val b)),.dig [3] (Dy.dg (Dy.val a%Dy.val b)),.num .i64 (-1)]))
 |_=>none
def keepRQ:List (Nat×Keep):=[(0,.same),(1,.same),(6,.same),(8,.same),(10,.same)]
def lamRQ:=lam [(7,.spec keepRQ lsRQ)]
theorem vc_refQuoRem (a:List Nat) (b:List Nat) (Q:AV→Prop):(evF Tryz.prog (look tabE1) lamRQ false Tryz.f213 [.dig [1] a,.dig [2] b] Q)=(bif decide ((↑b.length:Int)=(1:Int)) then ((0:Int)≤(0:Int)∧(0:Int)<(↑b.length:Int))∧((0:Int)<(↑(b.getD (0:Nat) (0:Nat)):Int)∧a.length≤100000)∧∀(l1:List Nat),l1=dg (val a/(↑(b.getD (0:Nat) (0:Nat)):Int).toNat)→∀(l2:List Nat),l2=dg (val a%(↑(b.getD (0:Nat) (0:Nat)):Int).toNat)→Q (.tup [.dig [0] l1,.dig [0] l2]) else ((0:Int)≤(↑a.length:Int)∧(↑a.length:Int)≤(↑a.length:Int)∧(↑a.length:Int)≤(2:Int)^(40:Nat))∧(dg (val a)=a∧a.length≤1048576)∧(dg (val b)=b∧b.length≤1048576)∧(dg (val a)=a∧(0≤if i64.wrap (i64.wrap ((↑(bl (val a)):Int)-(↑(bl (val b)):Int))+(1:Int))>(0:Int) then i64.wrap (i64.wrap ((↑(bl (val a)):Int)-(↑(bl (val b)):Int))+(1:Int)) else (0:Int))∧a.length≤1048576)∧∀(l3:List Nat),l3=dg (val a/(2:Nat)^(if i64.wrap (i64.wrap ((↑(bl (val a)):Int)-(↑(bl (val b)):Int))+(1:Int))>(0:Int) then i64.wrap (i64.wrap ((↑(bl (val a)):Int)-(↑(bl (val b)):Int))+(1:Int)) else (0:Int)).toNat)→∀(b4:Bool),b4=decide (val a≠(0:Nat)∧(↑(tz (val a)):Int)<if i64.wrap (i64.wrap ((↑(bl (val a)):Int)-(↑(bl (val b)):Int))+(1:Int))>(0:Int) then i64.wrap (i64.wrap ((↑(bl (val a)):Int)-(↑(bl (val b)):Int))+(1:Int)) else (0:Int))→(dg (val a)=a∧dg (val b)=b∧val b≠(0:Nat)∧a.length≤100000∧b.length≤100000∧(-1:Int)≤i64.wrap ((if i64.wrap (i64.wrap ((↑(bl (val a)):Int)-(↑(bl (val b)):Int))+(1:Int))>(0:Int) then i64.wrap (i64.wrap ((↑(bl (val a)):Int)-(↑(bl (val b)):Int))+(1:Int)) else (0:Int))-(1:Int))∧i64.wrap ((if i64.wrap (i64.wrap ((↑(bl (val a)):Int)-(↑(bl (val b)):Int))+(1:Int))>(0:Int) then i64.wrap (i64.wrap ((↑(bl (val a)):Int)-(↑(bl (val b)):Int))+(1:Int)) else (0:Int))-(1:Int))<(32:Int)*(↑a.length:Int)∧List.replicate (↑a.length:Int).toNat (0:Nat)=List.replicate a.length (0:Nat)∧l3=dg (val a/(2:Nat)^(i64.wrap ((if i64.wrap (i64.wrap ((↑(bl (val a)):Int)-(↑(bl (val b)):Int))+(1:Int))>(0:Int) then i64.wrap (i64.wrap ((↑(bl (val a)):Int)-(↑(bl (val b)):Int))+(1:Int)) else (0:Int))-(1:Int))+(1:Int)).toNat)∧val a/(2:Nat)^(i64.wrap ((if i64.wrap (i64.wrap ((↑(bl (val a)):Int)-(↑(bl (val b)):Int))+(1:Int))>(0:Int) then i64.wrap (i64.wrap ((↑(bl (val a)):Int)-(↑(bl (val b)):Int))+(1:Int)) else (0:Int))-(1:Int))+(1:Int)).toNat<val b)∧Q (.tup [.dig [0] (dg (val (dgN a.length (val a/val b)))),.dig [0] (dg (val a%val b))])):=by kernel_rfl
theorem vc_refQuoRem_1 (a:List Nat) (b:List Nat) (q:List Nat) (r:List Nat) (i:Int) (K:Exit→List AV→Prop):(evIter Tryz.prog (look tabE1) lamRQ (2:Nat) (75:Nat) keepRQ (bodyN Tryz.f213 (0:Nat)) [.dig [1,2,3] a,.dig [1,2,3] b,.grown (152:TypeId) q,.dig [3] r,.num .i64 i] K)=(bif decide (i≥(0:Int)) then ((0:Int)≤(1:Int)∧(1:Int)≤(33554432:Int)∧r.length≤1048576)∧bif decide ((↑(if i<0 then (0:Nat) else val a/(2:Nat)^i.toNat%(2:Nat)):Int)=(1:Int)) then ((dg (val r*(2:Nat))).length≤1048576∧(1:Nat)≤(1048576:Nat))∧(dg (val (dg (val (dg (val r*(2:Nat)))+(1:Nat))))=dg (val (dg (val r*(2:Nat)))+(1:Nat))∧dg (val b)=b)∧bif decide (cmpN (val (dg (val (dg (val r*(2:Nat)))+(1:Nat)))) (val b)≥(0:Int)) then (val b≤val (dg (val (dg (val r*(2:Nat)))+(1:Nat)))∧(dg (val (dg (val r*(2:Nat)))+(1:Nat))).length≤1048576)∧((0:Int)≤i64.wrap (i.tdiv (32:Int))∧i64.wrap (i.tdiv (32:Int))<(↑q.length:Int))∧(i64.wrap (i.tdiv (32:Int))).toNat<q.length∧0≤i.tmod (32:Int)∧((0:Int)≤i64.wrap (i.tdiv (32:Int))∧i64.wrap (i.tdiv (32:Int))<(↑q.length:Int))∧(i64.wrap (i.tdiv (32:Int))).toNat<q.length∧K Exit.normal [.dig [1,2,3] a,.dig [1,2,3] b,.grown (152:Nat) (q.set (i64.wrap (i.tdiv (32:Int))).toNat (u32.wrap (↑(BitVec.ofInt (32:Nat) (↑(q.getD (i64.wrap (i.tdiv (32:Int))).toNat (0:Nat)):Int)|||BitVec.ofInt (32:Nat) (u32.wrap ((1:Int)*(2:Int)^min (i.tmod (32:Int)).toNat (32:Nat)))).toNat:Int)).toNat),.dig [3] (dg (val (dg (val (dg (val r*(2:Nat)))+(1:Nat)))-val b)),.num .i64 (i64.wrap (i-(1:Int)))] else K Exit.normal [.dig [1,2,3] a,.dig [1,2,3] b,.grown (152:Nat) q,.dig [3] (dg (val (dg (val r*(2:Nat)))+(1:Nat))),.num .i64 (i64.wrap (i-(1:Int)))] else (dg (val (dg (val r*(2:Nat))))=dg (val r*(2:Nat))∧dg (val b)=b)∧bif decide (cmpN (val (dg (val r*(2:Nat)))) (val b)≥(0:Int)) then (val b≤val (dg (val r*(2:Nat)))∧(dg (val r*(2:Nat))).length≤1048576)∧((0:Int)≤i64.wrap (i.tdiv (32:Int))∧i64.wrap (i.tdiv (32:Int))<(↑q.length:Int))∧(i64.wrap (i.tdiv (32:Int))).toNat<q.length∧0≤i.tmod (32:Int)∧((0:Int)≤i64.wrap (i.tdiv (32:Int))∧i64.wrap (i.tdiv (32:Int))<(↑q.length:Int))∧(i64.wrap (i.tdiv (32:Int))).toNat<q.length∧K Exit.normal [.dig [1,2,3] a,.dig [1,2,3] b,.grown (152:Nat) (q.set (i64.wrap (i.tdiv (32:Int))).toNat (u32.wrap (↑(BitVec.ofInt (32:Nat) (↑(q.getD (i64.wrap (i.tdiv (32:Int))).toNat (0:Nat)):Int)|||BitVec.ofInt (32:Nat) (u32.wrap ((1:Int)*(2:Int)^min (i.tmod (32:Int)).toNat (32:Nat)))).toNat:Int)).toNat),.dig [3] (dg (val (dg (val r*(2:Nat)))-val b)),.num .i64 (i64.wrap (i-(1:Int)))] else K Exit.normal [.dig [1,2,3] a,.dig [1,2,3] b,.grown (152:Nat) q,.dig [3] (dg (val r*(2:Nat))),.num .i64 (i64.wrap (i-(1:Int)))] else K (Exit.exit (0:Nat)) [.dig [1,2,3] a,.dig [1,2,3] b,.grown (152:Nat) q,.dig [3] r,.num .i64 i]):=by kernel_rfl
def lsRR:List AV→Option LR
 |[.dig [1,2] a,.dig [2] r,.dig [2] s,.num .i64 i]=>
 some (.need (Dy.dg (Dy.val a)=a∧a.length≤100000∧r=[]∧s=[]∧ -2≤i∧i%2=0∧(Dy.bl (Dy.val a):Int)≤i+2∧i≤4000000)
 (.done (.exit 0) [.dig [1,2] a,.dig [2] (Dy.dg (Dy.isq (Dy.val a))),.dig [2] (Dy.dg (Dy.val a-Dy.isq (Dy.val a)*Dy.isq (Dy.val a))),.num .i64 (-2)]))
 |_=>none
def keepRR:List (Nat×Keep):=[(0,.same),(4,.same),(5,.same),(7,.same)]
def lamRR:=lam [(6,.spec keepRR lsRR)]
theorem vc_refRoot (a:List Nat) (Q:AV→Prop):(evF Tryz.prog (look tabE1) lamRR false Tryz.f97 [.dig [1] a] Q)=((dg (val a)=a∧a.length≤1048576)∧bif decide ((↑(bl (val a)):Int).tmod (2:Int)=(1:Int)) then (dg (val a)=a∧a.length≤100000∧([]:List Nat)=[]∧([]:List Nat)=[]∧(-2:Int)≤i64.wrap (i64.wrap ((↑(bl (val a)):Int)+(1:Int))-(2:Int))∧i64.wrap (i64.wrap ((↑(bl (val a)):Int)+(1:Int))-(2:Int))%(2:Int)=(0:Int)∧(↑(bl (val a)):Int)≤i64.wrap (i64.wrap ((↑(bl (val a)):Int)+(1:Int))-(2:Int))+(2:Int)∧i64.wrap (i64.wrap ((↑(bl (val a)):Int)+(1:Int))-(2:Int))≤(4000000:Int))∧Q (.tup [.dig [0] (dg (isq (val a))),.bool ((↑(dg (val a-isq (val a)*isq (val a))).length:Int)==(0:Int))]) else (dg (val a)=a∧a.length≤100000∧([]:List Nat)=[]∧([]:List Nat)=[]∧(-2:Int)≤i64.wrap ((↑(bl (val a)):Int)-(2:Int))∧i64.wrap ((↑(bl (val a)):Int)-(2:Int))%(2:Int)=(0:Int)∧(↑(bl (val a)):Int)≤i64.wrap ((↑(bl (val a)):Int)-(2:Int))+(2:Int)∧i64.wrap ((↑(bl (val a)):Int)-(2:Int))≤(4000000:Int))∧Q (.tup [.dig [0] (dg (isq (val a))),.bool ((↑(dg (val a-isq (val a)*isq (val a))).length:Int)==(0:Int))])):=by kernel_rfl
theorem vc_refRoot_1 (a:List Nat) (r:List Nat) (s:List Nat) (i:Int) (K:Exit→List AV→Prop):(evIter Tryz.prog (look tabE1) lamRR (1:Nat) (56:Nat) keepRR (bodyN Tryz.f97 (0:Nat)) [.dig [1,2] a,.dig [2] r,.dig [2] s,.num .i64 i] K)=(bif decide (i≥(0:Int)) then ((0:Int)≤(2:Int)∧(2:Int)≤(33554432:Int)∧s.length≤1048576)∧((dg (val s*(4:Nat))).length≤1048576∧(dg (u64.wrap (u32.wrap (u32.wrap ((2:Int)*(↑(if i64.wrap (i+(1:Int))<(0:Int) then (0:Nat) else val a/(2:Nat)^(i64.wrap (i+(1:Int))).toNat%(2:Nat)):Int))+(↑(if i<0 then (0:Nat) else val a/(2:Nat)^i.toNat%(2:Nat)):Int)))).toNat).length≤1048576)∧((0:Int)≤(2:Int)∧(2:Int)≤(33554432:Int)∧r.length≤1048576)∧((dg (val r*(4:Nat))).length≤1048576∧(1:Nat)≤(1048576:Nat))∧((0:Int)≤(1:Int)∧(1:Int)≤(33554432:Int)∧r.length≤1048576)∧(dg (val (dg (val (dg (val s*(4:Nat)))+val (dg (u64.wrap (u32.wrap (u32.wrap ((2:Int)*(↑(if i64.wrap (i+(1:Int))<(0:Int) then (0:Nat) else val a/(2:Nat)^(i64.wrap (i+(1:Int))).toNat%(2:Nat)):Int))+(↑(if i<0 then (0:Nat) else val a/(2:Nat)^i.toNat%(2:Nat)):Int)))).toNat))))=dg (val (dg (val s*(4:Nat)))+val (dg (u64.wrap (u32.wrap (u32.wrap ((2:Int)*(↑(if i64.wrap (i+(1:Int))<(0:Int) then (0:Nat) else val a/(2:Nat)^(i64.wrap (i+(1:Int))).toNat%(2:Nat)):Int))+(↑(if i<0 then (0:Nat) else val a/(2:Nat)^i.toNat%(2:Nat)):Int)))).toNat))∧dg (val (dg (val (dg (val r*(4:Nat)))+(1:Nat))))=dg (val (dg (val r*(4:Nat)))+(1:Nat)))∧bif decide (cmpN (val (dg (val (dg (val s*(4:Nat)))+val (dg (u64.wrap (u32.wrap (u32.wrap ((2:Int)*(↑(if i64.wrap (i+(1:Int))<(0:Int) then (0:Nat) else val a/(2:Nat)^(i64.wrap (i+(1:Int))).toNat%(2:Nat)):Int))+(↑(if i<0 then (0:Nat) else val a/(2:Nat)^i.toNat%(2:Nat)):Int)))).toNat)))) (val (dg (val (dg (val r*(4:Nat)))+(1:Nat))))≥(0:Int)) then (val (dg (val (dg (val r*(4:Nat)))+(1:Nat)))≤val (dg (val (dg (val s*(4:Nat)))+val (dg (u64.wrap (u32.wrap (u32.wrap ((2:Int)*(↑(if i64.wrap (i+(1:Int))<(0:Int) then (0:Nat) else val a/(2:Nat)^(i64.wrap (i+(1:Int))).toNat%(2:Nat)):Int))+(↑(if i<0 then (0:Nat) else val a/(2:Nat)^i.toNat%(2:Nat)):Int)))).toNat)))∧(dg (val (dg (val s*(4:Nat)))+val (dg (u64.wrap (u32.wrap (u32.wrap ((2:Int)*(↑(if i64.wrap (i+(1:Int))<(0:Int) then (0:Nat) else val a/(2:Nat)^(i64.wrap (i+(1:Int))).toNat%(2:Nat)):Int))+(↑(if i<0 then (0:Nat) else val a/(2:Nat)^i.toNat%(2:Nat)):Int)))).toNat))).length≤1048576)∧((dg (val r*(2:Nat))).length≤1048576∧(1:Nat)≤(1048576:Nat))∧K Exit.normal [.dig [1,2] a,.dig [2] (dg (val (dg (val r*(2:Nat)))+(1:Nat))),.dig [2] (dg (val (dg (val (dg (val s*(4:Nat)))+val (dg (u64.wrap (u32.wrap (u32.wrap ((2:Int)*(↑(if i64.wrap (i+(1:Int))<(0:Int) then (0:Nat) else val a/(2:Nat)^(i64.wrap (i+(1:Int))).toNat%(2:Nat)):Int))+(↑(if i<0 then (0:Nat) else val a/(2:Nat)^i.toNat%(2:Nat)):Int)))).toNat)))-val (dg (val (dg (val r*(4:Nat)))+(1:Nat))))),.num .i64 (i64.wrap (i-(2:Int)))] else K Exit.normal [.dig [1,2] a,.dig [2] (dg (val r*(2:Nat))),.dig [2] (dg (val (dg (val s*(4:Nat)))+val (dg (u64.wrap (u32.wrap (u32.wrap ((2:Int)*(↑(if i64.wrap (i+(1:Int))<(0:Int) then (0:Nat) else val a/(2:Nat)^(i64.wrap (i+(1:Int))).toNat%(2:Nat)):Int))+(↑(if i<0 then (0:Nat) else val a/(2:Nat)^i.toNat%(2:Nat)):Int)))).toNat))),.num .i64 (i64.wrap (i-(2:Int)))] else K (Exit.exit (0:Nat)) [.dig [1,2] a,.dig [2] r,.dig [2] s,.num .i64 i]):=by kernel_rfl
end Go.AI

namespace Go.Dy
theorem bit_div (A c:Nat):A/2^c=2*(A/2^(c+1))+A/2^c%2:=by
 rw [Nat.pow_succ,←Nat.div_div_eq_div_mul]
 omega
theorem quo_bit {B Q R X X' b:Nat} (hX:X=B*Q+R) (hR:R<B) (hX':X'=2*X+b) (hb:b<2):
  (B≤2*R+b→X'/B=2*Q+1∧X'%B=2*R+b-B)∧(2*R+b<B→X'/B=2*Q∧X'%B=2*R+b):=by
 have e:X'=2*R+b+B*(2*Q):=by
  rw [hX',hX,Nat.mul_add,Nat.mul_left_comm]
  omega
 constructor
 ·intro h
  have e2:X'=(2*R+b-B)+B*(2*Q+1):=by rw [e,Nat.mul_add B,Nat.mul_one];omega
  rw [e2,Nat.add_mul_div_left _ _ (by omega),Nat.add_mul_mod_self_left,Nat.div_eq_of_lt (by omega),Nat.mod_eq_of_lt (by omega)]
  omega
 ·intro h
  rw [e,Nat.add_mul_div_left _ _ (by omega),Nat.add_mul_mod_self_left,Nat.div_eq_of_lt h,Nat.mod_eq_of_lt h]
  omega
theorem set_bit {q:List Nat} {c Q:Nat} (hq:digs q) (hc:c<32*q.length) (hv:val q=Q*2^(c+1)):
  (q.getD (c/32) 0|||2^(c%32))<4294967296∧val (q.set (c/32) (q.getD (c/32) 0|||2^(c%32)))=val q+2^c:=by
 have hd:q.getD (c/32) 0=(Q%2^(31-c%32))*2^(c%32+1):=by
  rw [getD_val hq,hv,show c+1=(c%32+1)+32*(c/32) by omega,Nat.pow_add,←Nat.mul_assoc,Nat.mul_div_cancel _ (Nat.two_pow_pos _)]
  rw [show (4294967296:Nat)=2^(31-c%32)*2^(c%32+1) by rw [←Nat.pow_add,show 31-c%32+(c%32+1)=32 by omega]]
  rw [Nat.mul_mod_mul_right]
 have ho:q.getD (c/32) 0|||2^(c%32)=q.getD (c/32) 0+2^(c%32):=by
  rw [hd]
  have h1:2^(c%32)<2^(c%32+1):=Nat.pow_lt_pow_right (by decide) (by omega)
  rw [Nat.mul_comm,←Nat.two_pow_add_eq_or_of_lt h1]
 have hlt:=digs_getD hq (c/32)
 have hp:2^(c%32)<4294967296:=Nat.lt_of_lt_of_le (Nat.pow_lt_pow_right (n:=32) (by decide) (Nat.mod_lt _ (by decide))) (by decide)
 refine ⟨Nat.or_lt_two_pow (n:=32) (by omega) (by omega),?_⟩
 have hs:=val_set (l:=q) (i:=c/32) (d:=q.getD (c/32) 0|||2^(c%32)) (by omega)
 rw [ho,Nat.mul_add,←Nat.pow_add,show 32*(c/32)+c%32=c by omega] at hs
 rw [ho]
 omega
theorem isq_uniq {x n:Nat} (h1:x*x≤n) (h2:n<(x+1)*(x+1)):isq n=x:=by
 have:=le_isq h1
 have:=isq_lt h2
 omega
theorem root_bit {X X' b:Nat} (hX':X'=4*X+b) (hb:b<4):
  4*(X-isq X*isq X)+b≤X'∧(4*isq X+1≤4*(X-isq X*isq X)+b→isq X'=2*isq X+1∧X'-isq X'*isq X'=4*(X-isq X*isq X)+b-(4*isq X+1))∧
  (4*(X-isq X*isq X)+b<4*isq X+1→isq X'=2*isq X∧X'-isq X'*isq X'=4*(X-isq X*isq X)+b):=by
 obtain ⟨h1,h2⟩:=isq_spec X
 generalize isq X=R at*
 have e0:(R+1)*(R+1)=R*R+2*R+1:=by rw [Nat.add_mul,Nat.mul_add];omega
 have e1:(2*R+1)*(2*R+1)=4*(R*R)+4*R+1:=by
  rw [Nat.add_mul,Nat.mul_add,Nat.mul_mul_mul_comm];omega
 have e2:(2*R+1+1)*(2*R+1+1)=4*(R*R)+8*R+4:=by
  rw [show 2*R+1+1=2*(R+1) by omega,Nat.mul_mul_mul_comm,e0];omega
 have e3:(2*R)*(2*R)=4*(R*R):=Nat.mul_mul_mul_comm ..
 refine ⟨by omega,fun h=> ?_,fun h=> ?_⟩
 ·have:=isq_uniq (x:=2*R+1) (n:=X') (by omega) (by omega)
  rw [this]
  exact ⟨rfl,by omega⟩
 ·have:=isq_uniq (x:=2*R) (n:=X') (by omega) (by omega)
  rw [this]
  exact ⟨rfl,by omega⟩
theorem two_bits (A c:Nat):A/2^c=4*(A/2^(c+2))+(2*(A/2^(c+1)%2)+A/2^c%2):=by
 have h1:=bit_div A c
 have h2:=bit_div A (c+1)
 rw [h2] at h1
 have h3:A/2^(c+1)%2=(2*(A/2^(c+1+1))+A/2^(c+1)%2)%2:=by rw [←h2]
 show _=4*(A/2^(c+1+1))+_
 rw [←h2] at h1
 generalize A/2^c=x at*
 generalize A/2^(c+1)=y at*
 generalize A/2^(c+1+1)=z at*
 omega
end Go.Dy
namespace Go.AI
open Go Go.RowKit Go.Proofs
set_option linter.unusedVariables false
set_option maxRecDepth 100000
set_option maxHeartbeats 1000000
theorem loop_byDigit:LoopOk Tryz.prog (look tabE0) lamByD 2 43 keepByD (bodyN Tryz.f219 0) lsByD:=by
 intro vals r h K hK
 unfold lsByD at h
 split at h
 ·cases h
  rename_i a d o c i
  simp only [evLR] at hK
  obtain ⟨⟨ha,hd0,hd1,rfl,rfl,rfl⟩,hK⟩:=hK
  have ha1:=ha.1
  obtain ⟨d,rfl⟩:=Int.eq_ofNat_of_zero_le (Int.le_of_lt hd0)
  simp only [Int.toNat_natCast] at hK
  have key:∀(j c:Nat) (o:List Nat),j≤a.length→o.length=a.length→Dy.digs o→c<d→Dy.val a%d=(2^(32*j)*c+Dy.val (a.take j))%d→Dy.val a/d=2^(32*j)*Dy.val (o.drop j)+(2^(32*j)*c+Dy.val (a.take j))/d→
    ∃m,iterN Tryz.prog (look tabE0) lamByD 2 43 keepByD (bodyN Tryz.f219 0) m [.dig [1,2,3] a,.num .u32 d,.grown 152 o,.num .u64 c,.num .i64 ((j:Int)-1)] K:=by
   intro j
   induction j with
   |zero=>
    intro c o hj hol hod hc hm hv
    refine iterN_last ?_
    rw [vc_byDigit_1]
    refine cond_f (decide_eq_false (by omega)) ?_
    simp only [Nat.mul_zero,Nat.pow_zero,Nat.one_mul,List.take_zero,Dy.val,Nat.add_zero,List.drop_zero] at hm hv
    rw [Nat.mod_eq_of_lt hc] at hm
    rw [Nat.div_eq_of_lt hc,Nat.add_zero] at hv
    rw [hm,hv,Dy.dgN_val' hod hol] at hK
    exact hK
   |succ j ih=>
    intro c o hj hol hod hc hm hv
    have hx:=Dy.digs_getD ha.2 j
    have hts:=Dy.val_take_succ (l:=a) (i:=j) (by omega)
    generalize hxx:a.getD j 0=x at hx hts
    have hdp:0<d:=by omega
    have hq:(c*4294967296+x)/d<4294967296:=by
     rw [Nat.div_lt_iff_lt_mul hdp]
     have:(c+1)*4294967296≤d*4294967296:=Nat.mul_le_mul_right _ hc
     rw [Nat.mul_comm 4294967296 d]
     omega
    have hr:(c*4294967296+x)%d<d:=Nat.mod_lt _ hdp
    have hN:2^(32*(j+1))*c+Dy.val (a.take (j+1))=d*(2^(32*j)*((c*4294967296+x)/d))+(2^(32*j)*((c*4294967296+x)%d)+Dy.val (a.take j)):=by
     have h1:=Nat.div_add_mod (c*4294967296+x) d
     generalize (c*4294967296+x)/d=q at h1 ⊢
     generalize (c*4294967296+x)%d=r at h1 ⊢
     rw [hts,Dy.pow_split,Nat.mul_left_comm d]
     have h2:2^(32*j)*(d*q+r)=2^(32*j)*(4294967296*c+x):=by rw [h1,Nat.mul_comm c]
     generalize 2^(32*j)=p at h2 ⊢
     simp only [Nat.mul_add,Nat.mul_assoc] at h2 ⊢
     omega
    have hds:=Dy.val_drop_at (l:=o.set j ((c*4294967296+x)/d)) (i:=j) (by simp;omega)
    rw [Dy.drop_set_succ] at hds
    have hgs:(o.set j ((c*4294967296+x)/d)).getD j 0=(c*4294967296+x)/d:=by simp [List.getD_eq_getElem?_getD,show j<o.length by omega]
    rw [hgs] at hds
    obtain ⟨m,hmm⟩:=ih ((c*4294967296+x)%d) (o.set j ((c*4294967296+x)/d)) (by omega) (by simpa using hol) (Dy.digs_set hod hq) hr
     (by rw [hm,hN,Nat.mul_add_mod]) (by
      rw [hv,hN,hds,Nat.mul_add_div hdp,Dy.pow_split,Nat.mul_add,Nat.mul_assoc]
      omega)
    refine iterN_next m ?_
    rw [vc_byDigit_1]
    have e0:(((j+1:Nat):Int)-1)=(j:Int):=by omega
    have ho:=or64 (x:=c) (y:=x) (by omega) hx
    have hwd:IntKind.u64.wrap ((d:Nat):Int)=((d:Nat):Int):=by rw [wrap_u64];omega
    have hqw:IntKind.u32.wrap (IntKind.u64.wrap ((((c*4294967296+x:Nat):Int)).tdiv ((d:Nat):Int)))=(((c*4294967296+x)/d:Nat):Int):=by
     rw [Int.tdiv_eq_ediv_of_nonneg (by omega),←Int.natCast_ediv]
     generalize (c*4294967296+x)/d=y at hq ⊢
     rw [wrap_u64,wrap_u32]
     omega
    have hrw:(((c*4294967296+x:Nat):Int)).tmod ((d:Nat):Int)=(((c*4294967296+x)%d:Nat):Int):=by
     rw [Int.tmod_eq_emod_of_nonneg (by omega),←Int.natCast_emod]
    rw [e0,Int.toNat_natCast,hxx,ho,hwd,hqw,hrw,Int.toNat_natCast,wrap_i64 (by omega) (by omega)]
    exact cond_t (decide_eq_true (by omega)) ⟨by omega,by omega,by omega,by omega,by omega,hmm⟩
  exact key a.length 0 _ (Nat.le_refl _) (by simp) (Dy.digs_replicate _) (by omega) (by simp) (by simp [Dy.val])
 ·cases h
theorem ok_byDigit (args:List AV) (s:Spec) (h:rByDigit args=some s) (hp:andO s.pre True):Contract Tryz.prog Inv 219 args s.res:=by
 unfold rByDigit at h
 split at h
 ·cases h
  rename_i a d
  obtain ⟨⟨hd,hal⟩, -⟩:=hp
  refine contract_at false 43 lamByD ok_tabE0 Tryz.func219 (by kernel_rfl) rfl (loops1 (by kernel_rfl) (by kernel_rfl) loop_byDigit) fun hok=> ?_
  have ha:=(oks1_dig hok).1
  have hr:=range_u32 (oks1_num (oks1_dig hok).2).1
  rw [vc_byDigit]
  refine ⟨⟨by omega,by omega,by omega⟩,⟨ha,hd,hr.2,by rw [Int.toNat_natCast],rfl,by rw [wrap_i64 (by omega) (by omega)]⟩,?_⟩
  rw [Dy.dg_val_dgN (Nat.lt_of_le_of_lt (Nat.div_le_self _ _) (Dy.val_lt ha.2)),Int.toNat_natCast]
 ·cases h
theorem ok_tabE1:PhiOk Tryz.prog Inv (look tabE1):=look_cons ok_tabE0 ok_byDigit
theorem or32 {d k:Nat} (hd:d<4294967296) (hk:k<32):IntKind.u32.wrap ((BitVec.ofInt 32 ((d:Nat):Int)|||BitVec.ofInt 32 (IntKind.u32.wrap ((1:Int)*(2:Int)^min k (32:Nat)))).toNat:Int)=((d|||2^k:Nat):Int):=by
 have hp:2^k<4294967296:=Nat.lt_of_lt_of_le (Nat.pow_lt_pow_right (n:=32) (by decide) hk) (by decide)
 have e1:IntKind.u32.wrap ((1:Int)*(2:Int)^min k (32:Nat))=((2^k:Nat):Int):=by
  rw [Nat.min_eq_left (by omega),Int.one_mul,show ((2:Int)^k)=((2^k:Nat):Int) by simp]
  generalize 2^k=p at hp ⊢
  rw [wrap_u32]
  omega
 rw [e1]
 clear e1
 generalize 2^k=p at hp ⊢
 rw [w32_or (by omega) (by omega) (by omega) (by omega),Int.toNat_natCast,Int.toNat_natCast]
theorem loop_refQuoRem:LoopOk Tryz.prog (look tabE1) lamRQ 2 75 keepRQ (bodyN Tryz.f213 0) lsRQ:=by
 intro vals r h K hK
 unfold lsRQ at h
 split at h
 ·cases h
  rename_i a b q r i
  simp only [evLR] at hK
  obtain ⟨⟨hca,hcb,hB,hal,hbl,hi0,hi1,rfl,rfl,hlt⟩,hK⟩:=hK
  generalize hA:Dy.val a=A at*
  generalize hBv:Dy.val b=B at*
  have hB0:0<B:=by omega
  have hAl:A<2^(32*a.length):=by
   have:=Dy.val_lt (l:=a) (by rw [←hca];exact Dy.digs_dg _)
   rwa [hA] at this
  have key:∀(c:Nat) (q:List Nat),c≤32*a.length→q.length=a.length→Dy.digs q→Dy.val q=A/2^c/B*2^c→
    ∃m,iterN Tryz.prog (look tabE1) lamRQ 2 75 keepRQ (bodyN Tryz.f213 0) m [.dig [1,2,3] a,.dig [1,2,3] b,.grown 152 q,.dig [3] (Dy.dg (A/2^c%B)),.num .i64 ((c:Int)-1)] K:=by
   intro c
   induction c with
   |zero=>
    intro q _ hql hqd hv
    refine iterN_last ?_
    rw [vc_refQuoRem_1]
    refine cond_f (decide_eq_false (by omega)) ?_
    rw [Nat.pow_zero,Nat.div_one,Nat.mul_one] at hv
    rw [Nat.pow_zero,Nat.div_one]
    have:q=Dy.dgN a.length (A/B):=by rw [←hv];exact (Dy.dgN_val' hqd hql).symm
    rw [this]
    exact hK
   |succ c ih=>
    intro q hc hql hqd hv
    have hR:=Nat.mod_lt (A/2^(c+1)) hB0
    have hX:=(Nat.div_add_mod (A/2^(c+1)) B).symm
    have hbit:=Dy.bit_div A c
    have hb2:A/2^c%2<2:=Nat.mod_lt _ (by decide)
    obtain ⟨hq1,hq2⟩:=Dy.quo_bit hX hR hbit hb2
    have hrl:(Dy.dg (A/2^(c+1)%B)).length≤b.length:=by
     have:=Dy.length_dg_mono (Nat.le_of_lt hR)
     rwa [hcb] at this
    generalize A/2^(c+1)%B=R at*
    generalize hQ:A/2^(c+1)/B=Q at*
    obtain ⟨hs1,hs2⟩:=Dy.set_bit hqd (by omega) hv
    have e0:(((c+1:Nat):Int)-1)=(c:Int):=by omega
    have e1:IntKind.i64.wrap ((c:Int).tdiv 32)=((c/32:Nat):Int):=by
     rw [Int.tdiv_eq_ediv_of_nonneg (by omega),wrap_i64 (by omega) (by omega)];omega
    have e2:(c:Int).tmod 32=((c%32:Nat):Int):=by rw [Int.tmod_eq_emod_of_nonneg (by omega)];omega
    have e3:IntKind.i64.wrap ((c:Int)-1)=(c:Int)-1:=wrap_i64 (by omega) (by omega)
    have e4:=or32 (Dy.digs_getD hqd (c/32)) (Nat.mod_lt c (by decide:0<32))
    have e5:(if (c:Int)<0 then (0:Nat) else A/2^c%2)=A/2^c%2:=if_neg (by omega)
    have hp2:2^(c+1)=2^c*2:=Nat.pow_succ ..
    have l2:(Dy.dg (R*2)).length≤b.length+1:=by
     refine Dy.length_dg_le.2 ?_
     have h1:=Dy.val_lt (Dy.digs_dg R)
     rw [Dy.val_dg] at h1
     have h2:2^(32*(Dy.dg R).length)*2≤2^(32*(b.length+1)):=by
      rw [←Nat.pow_succ];exact Nat.pow_le_pow_right (by decide) (by omega)
     omega
    have l3:(Dy.dg (R*2+1)).length≤b.length+1:=by
     refine Dy.length_dg_le.2 ?_
     have h1:=Dy.val_lt (Dy.digs_dg R)
     rw [Dy.val_dg] at h1
     have h2:2^(32*(Dy.dg R).length)*2≤2^(32*(b.length+1)):=by
      rw [←Nat.pow_succ];exact Nat.pow_le_pow_right (by decide) (by omega)
     omega
    have yes:B≤2*R+A/2^c%2→∃m,iterN Tryz.prog (look tabE1) lamRQ 2 75 keepRQ (bodyN Tryz.f213 0) m [.dig [1,2,3] a,.dig [1,2,3] b,.grown 152 (q.set (c/32) (q.getD (c/32) 0|||2^(c%32))),.dig [3] (Dy.dg (2*R+A/2^c%2-B)),.num .i64 ((c:Int)-1)] K:=by
     intro hge
     obtain ⟨f1,f2⟩:=hq1 hge
     have:=ih (q.set (c/32) (q.getD (c/32) 0|||2^(c%32))) (by omega) (by simpa using hql) (Dy.digs_set hqd hs1) (by
      rw [hs2,hv,f1,hp2,Nat.add_mul,Nat.one_mul,Nat.mul_comm (2^c) 2,←Nat.mul_assoc,Nat.mul_comm Q 2])
     rw [f2] at this
     exact this
    have no:2*R+A/2^c%2<B→∃m,iterN Tryz.prog (look tabE1) lamRQ 2 75 keepRQ (bodyN Tryz.f213 0) m [.dig [1,2,3] a,.dig [1,2,3] b,.grown 152 q,.dig [3] (Dy.dg (2*R+A/2^c%2)),.num .i64 ((c:Int)-1)] K:=by
     intro hlt'
     obtain ⟨f1,f2⟩:=hq2 hlt'
     have:=ih q (by omega) hql hqd (by rw [hv,f1,hp2,Nat.mul_comm (2^c) 2,←Nat.mul_assoc,Nat.mul_comm Q 2])
     rw [f2] at this
     exact this
    clear ih
    have hge1:∀X:Nat,B≤X→Dy.cmpN X B≥0:=fun X h=>by
     unfold Dy.cmpN
     rw [if_neg (by omega)]
     split<;>omega
    have hlt1:∀X:Nat,X<B→¬Dy.cmpN X B≥0:=fun X h=>by
     unfold Dy.cmpN
     rw [if_pos h]
     decide
    by_cases hbt:A/2^c%2=1
    ·rw [hbt] at yes no
     by_cases hge:B≤2*R+1
     ·obtain ⟨m,hm⟩:=yes hge
      refine iterN_next m ?_
      rw [vc_refQuoRem_1,e0,e1,e2,e3,hA,hBv,Int.toNat_natCast,Int.toNat_natCast,Int.toNat_natCast,e4,Int.toNat_natCast,Dy.val_dg,Dy.val_dg,Dy.val_dg,hcb]
      refine cond_t (decide_eq_true (by omega)) ⟨by omega,cond_t (decide_eq_true (by rw [e5,hbt];rfl)) ⟨⟨by omega,by omega⟩,⟨rfl,rfl⟩,cond_t (decide_eq_true (hge1 _ (by omega))) ⟨⟨by omega,by omega⟩,⟨by omega,by omega⟩,by omega,by omega,⟨by omega,by omega⟩,by omega,?_⟩⟩⟩
      rw [show R*2+1-B=2*R+1-B by omega]
      exact hm
     ·obtain ⟨m,hm⟩:=no (by omega)
      refine iterN_next m ?_
      rw [vc_refQuoRem_1,e0,e1,e2,e3,hA,hBv,Int.toNat_natCast,Int.toNat_natCast,Int.toNat_natCast,e4,Int.toNat_natCast,Dy.val_dg,Dy.val_dg,Dy.val_dg,hcb]
      refine cond_t (decide_eq_true (by omega)) ⟨by omega,cond_t (decide_eq_true (by rw [e5,hbt];rfl)) ⟨⟨by omega,by omega⟩,⟨rfl,rfl⟩,cond_f (decide_eq_false (hlt1 _ (by omega))) ?_⟩⟩
      rw [show R*2+1=2*R+1 by omega]
      exact hm
    ·have hb0:A/2^c%2=0:=by omega
     rw [hb0] at yes no
     by_cases hge:B≤2*R
     ·obtain ⟨m,hm⟩:=yes (by omega)
      refine iterN_next m ?_
      rw [vc_refQuoRem_1,e0,e1,e2,e3,hA,hBv,Int.toNat_natCast,Int.toNat_natCast,Int.toNat_natCast,e4,Int.toNat_natCast,Dy.val_dg,Dy.val_dg,Dy.val_dg,hcb]
      refine cond_t (decide_eq_true (by omega)) ⟨by omega,cond_f (decide_eq_false (by rw [e5];omega)) ⟨⟨rfl,rfl⟩,cond_t (decide_eq_true (hge1 _ (by omega))) ⟨⟨by omega,by omega⟩,⟨by omega,by omega⟩,by omega,by omega,⟨by omega,by omega⟩,by omega,?_⟩⟩⟩
      rw [show R*2-B=2*R+0-B by omega]
      exact hm
     ·obtain ⟨m,hm⟩:=no (by omega)
      refine iterN_next m ?_
      rw [vc_refQuoRem_1,e0,e1,e2,e3,hA,hBv,Int.toNat_natCast,Int.toNat_natCast,Int.toNat_natCast,e4,Int.toNat_natCast,Dy.val_dg,Dy.val_dg,Dy.val_dg,hcb]
      refine cond_t (decide_eq_true (by omega)) ⟨by omega,cond_f (decide_eq_false (by rw [e5];omega)) ⟨⟨rfl,rfl⟩,cond_f (decide_eq_false (hlt1 _ (by omega))) ?_⟩⟩
      rw [show R*2=2*R+0 by omega]
      exact hm
  obtain ⟨c,hc⟩:∃c:Nat,(i+1).toNat=c:=⟨_,rfl⟩
  have hic:i=(c:Int)-1:=by omega
  rw [hc] at hlt ⊢
  have:=key c (List.replicate a.length 0) (by omega) (by simp) (Dy.digs_replicate _) (by rw [Dy.val_replicate,Nat.div_eq_of_lt hlt,Nat.zero_mul])
  rw [Nat.mod_eq_of_lt hlt,←hic] at this
  exact this
 ·cases h
theorem ok_refQuoRem (args:List AV) (s:Spec) (h:rQuoRem args=some s) (hp:andO s.pre True):Contract Tryz.prog Inv 213 args s.res:=by
 unfold rQuoRem at h
 split at h
 ·cases h
  rename_i a b
  obtain ⟨⟨hca,hcb,hb0,hal,hbl⟩, -⟩:=hp
  refine contract_at false 75 lamRQ ok_tabE1 Tryz.func213 (by kernel_rfl) rfl (loops1 (by kernel_rfl) (by kernel_rfl) loop_refQuoRem) fun hok=> ?_
  have hda:=(oks1_dig hok).1.2
  have hdb:=(oks1_dig (oks1_dig hok).2).1.2
  have hB:Dy.val b≠0:=fun e=>by rw [e,Dy.dg_zero] at hcb;exact hb0 hcb.symm
  rw [vc_refQuoRem]
  refine cond_i (fun h1=> ?_) (fun h1=> ?_)
  ·have h1:=of_decide_eq_true h1
   have hl1:b.length=1:=by omega
   match b,hl1 with
   |[d],_=>
    have hd:=(Dy.digs_cons.1 hdb).1
    have hv:Dy.val [d]=d:=by simp [Dy.val]
    rw [hv] at hB ⊢
    have e:([d]:List Nat).getD 0 0=d:=rfl
    rw [e,Int.toNat_natCast]
    refine ⟨⟨by omega,by simp⟩,⟨by omega,by omega⟩,?_⟩
    rintro _ rfl _ rfl
    rfl
  ·have hbA:=(Dy.length_dg_bl (n:=Dy.val a) (k:=a.length)).1 (by rw [hca];exact Nat.le_refl _)
   have hbB:=(Dy.length_dg_bl (n:=Dy.val b) (k:=b.length)).1 (by rw [hcb];exact Nat.le_refl _)
   have hBp:=Dy.bl_pos.2 hB
   obtain ⟨n,hn⟩:∃n:Nat,n=Dy.bl (Dy.val a)+1-Dy.bl (Dy.val b):=⟨_,rfl⟩
   have e1:(if IntKind.i64.wrap (IntKind.i64.wrap (((Dy.bl (Dy.val a):Nat):Int)-((Dy.bl (Dy.val b):Nat):Int))+1)>0 then IntKind.i64.wrap (IntKind.i64.wrap (((Dy.bl (Dy.val a):Nat):Int)-((Dy.bl (Dy.val b):Nat):Int))+1) else 0)=(n:Int):=by
    rw [wrap_i64 (n:=((Dy.bl (Dy.val a):Nat):Int)-((Dy.bl (Dy.val b):Nat):Int)) (by omega) (by omega),wrap_i64 (by omega) (by omega)]
    split<;>omega
   rw [e1,wrap_i64 (n:=(n:Int)-1) (by omega) (by omega),Int.toNat_natCast,Int.toNat_natCast,show ((n:Int)-1+1).toNat=n by omega]
   have hlt:Dy.val a/2^n<Dy.val b:=by
    have h1:Dy.bl (Dy.val a/2^n)≤Dy.bl (Dy.val b)-1:=by rw [Dy.bl_div_two_pow];omega
    exact Nat.lt_of_lt_of_le (Dy.bl_le.1 h1) (Dy.two_bl_le hB)
   refine ⟨⟨by omega,by omega,by omega⟩,⟨hca,by omega⟩,⟨hcb,by omega⟩,⟨hca,by omega,by omega⟩,?_⟩
   rintro l3 rfl b4 -
   refine ⟨⟨hca,hcb,hB,hal,hbl,by omega,by omega,rfl,rfl,hlt⟩,?_⟩
   rw [Dy.dg_val_dgN (Nat.lt_of_le_of_lt (Nat.div_le_self _ _) (Dy.val_lt hda))]
 ·cases h
theorem loop_refRoot:LoopOk Tryz.prog (look tabE1) lamRR 1 56 keepRR (bodyN Tryz.f97 0) lsRR:=by
 intro vals r h K hK
 unfold lsRR at h
 split at h
 ·cases h
  rename_i a r s i
  simp only [evLR] at hK
  obtain ⟨⟨hca,hal,rfl,rfl,hi0,hi1,hi2,hi3⟩,hK⟩:=hK
  generalize hA:Dy.val a=A at*
  have hAl:A<2^(32*a.length):=by
   have:=Dy.val_lt (l:=a) (by rw [←hca];exact Dy.digs_dg _)
   rwa [hA] at this
  have hlen:∀n,n≤4*A+3→(Dy.dg n).length≤1048576:=by
   intro n hn
   refine Nat.le_trans (Dy.length_dg_le (k:=a.length+1).2 ?_) (by omega)
   have h2:2^(32*a.length)*4≤2^(32*(a.length+1)):=by
    rw [show (4:Nat)=2^2 from rfl,←Nat.pow_add];exact Nat.pow_le_pow_right (by decide) (by omega)
   omega
  have key:∀(k:Nat) (i:Int),i=2*(k:Int)-2→k≤2000001→
    ∃m,iterN Tryz.prog (look tabE1) lamRR 1 56 keepRR (bodyN Tryz.f97 0) m [.dig [1,2] a,.dig [2] (Dy.dg (Dy.isq (A/2^(2*k)))),.dig [2] (Dy.dg (A/2^(2*k)-Dy.isq (A/2^(2*k))*Dy.isq (A/2^(2*k)))),.num .i64 i] K:=by
   intro k
   induction k with
   |zero=>
    intro i hi hk
    refine iterN_last ?_
    rw [vc_refRoot_1]
    refine cond_f (decide_eq_false (by omega)) ?_
    rw [Nat.mul_zero,Nat.pow_zero,Nat.div_one,show i= -2 by omega]
    exact hK
   |succ k ih=>
    intro i hi hk
    obtain ⟨m,hm⟩:=ih (i-2) (by omega) (by omega)
    refine iterN_next m ?_
    clear ih
    have hbits:=Dy.two_bits A (2*k)
    have hb2:2*(A/2^(2*k+1)%2)+A/2^(2*k)%2<4:=by omega
    obtain ⟨hr1,hr2,hr3⟩:=Dy.root_bit hbits hb2
    have hx:A/2^(2*k)≤A:=Nat.div_le_self _ _
    rw [show 2*(k+1)=2*k+2 by omega]
    have hle:Dy.isq (A/2^(2*k+2))≤A:=by
     have h1:=(Dy.isq_spec (A/2^(2*k+2))).1
     have h2:A/2^(2*k+2)≤A:=Nat.div_le_self _ _
     have h3:=Nat.le_mul_self (Dy.isq (A/2^(2*k+2)))
     omega
    generalize Dy.isq (A/2^(2*k+2))=R at*
    generalize A/2^(2*k+2)-R*R=S at*
    generalize hX:A/2^(2*k)=X at*
    generalize hY:A/2^(2*k+1)=Y at*
    have ew:IntKind.i64.wrap (i+1)=i+1:=wrap_i64 (by omega) (by omega)
    have ew2:IntKind.i64.wrap (i-2)=i-2:=wrap_i64 (by omega) (by omega)
    have eb:(IntKind.u64.wrap (IntKind.u32.wrap (IntKind.u32.wrap ((2:Int)*((if i+1<(0:Int) then (0:Nat) else A/(2:Nat)^(i+1).toNat%(2:Nat):Nat):Int))+((if i<(0:Int) then (0:Nat) else A/(2:Nat)^i.toNat%(2:Nat):Nat):Int)))).toNat=2*(Y%2)+X%2:=by
     rw [if_neg (by omega),if_neg (by omega),show i.toNat=2*k by omega,show (i+1).toNat=2*k+1 by omega,hX,hY,wrap_u32,wrap_u32,wrap_u64]
     omega
    rw [vc_refRoot_1,ew,ew2,hA,eb,Dy.val_dg,Dy.val_dg]
    generalize 2*(Y%2)+X%2=b at*
    simp only [Dy.val_dg]
    have l1:=hlen (S*4) (by omega)
    have l2:=hlen b (by omega)
    have l3:=hlen (R*4) (by omega)
    have l4:=hlen R (by omega)
    have l5:=hlen S (by omega)
    have l6:=hlen (R*2) (by omega)
    have l7:=hlen (S*4+b) (by omega)
    refine cond_t (decide_eq_true (by omega)) ⟨⟨by omega,by omega,l5⟩,⟨l1,l2⟩,⟨by omega,by omega,l4⟩,⟨l3,by omega⟩,⟨by omega,by omega,l4⟩,⟨trivial,trivial⟩,?_⟩
    by_cases hge:R*4+1≤S*4+b
    ·obtain ⟨f1,f2⟩:=hr2 (by omega)
     refine cond_t (decide_eq_true (by unfold Dy.cmpN;rw [if_neg (by omega)];split<;>omega)) ⟨⟨hge,by first|exact l7|exact hlen _ (by omega)⟩,⟨l6,by omega⟩,?_⟩
     rw [f1] at hm f2
     rw [f2] at hm
     rw [show R*2+1=2*R+1 by omega,show S*4+b-(R*4+1)=4*S+b-(4*R+1) by omega]
     exact hm
    ·obtain ⟨f1,f2⟩:=hr3 (by omega)
     refine cond_f (decide_eq_false (by unfold Dy.cmpN;rw [if_pos (by omega)];decide)) ?_
     rw [f1] at hm f2
     rw [f2] at hm
     rw [show R*2=2*R by omega,show S*4+b=4*S+b by omega]
     exact hm
  obtain ⟨k,hk⟩:∃k:Nat,i=2*(k:Int)-2:=⟨((i+2)/2).toNat,by omega⟩
  have hz:A/2^(2*k)=0:=Nat.div_eq_of_lt (Dy.bl_le.1 (by omega))
  have:=key k i hk (by omega)
  rw [hz] at this
  exact this
 ·cases h
theorem ok_refRoot (args:List AV) (s:Spec) (h:rRootN args=some s) (hp:andO s.pre True):Contract Tryz.prog Inv 97 args s.res:=by
 unfold rRootN at h
 split at h
 ·cases h
  rename_i a
  obtain ⟨⟨hca,hal⟩, -⟩:=hp
  refine contract_at false 56 lamRR ok_tabE1 Tryz.func97 (by kernel_rfl) rfl (loops1 (by kernel_rfl) (by kernel_rfl) loop_refRoot) fun hok=> ?_
  have hbA:=(Dy.length_dg_bl (n:=Dy.val a) (k:=a.length)).1 (by rw [hca];exact Nat.le_refl _)
  have hex:(((Dy.dg (Dy.val a-Dy.isq (Dy.val a)*Dy.isq (Dy.val a))).length:Int)==(0:Int))=decide (Dy.isq (Dy.val a)*Dy.isq (Dy.val a)=Dy.val a):=by
   have h1:=(Dy.isq_spec (Dy.val a)).1
   by_cases e:Dy.isq (Dy.val a)*Dy.isq (Dy.val a)=Dy.val a
   ·rw [decide_eq_true e,e,Nat.sub_self,Dy.dg_zero];rfl
   ·rw [decide_eq_false e,beq_eq_false_iff_ne]
    intro h2
    have h3:Dy.dg (Dy.val a-Dy.isq (Dy.val a)*Dy.isq (Dy.val a))=[]:=List.length_eq_zero_iff.1 (by omega)
    have h4:=Dy.val_dg (Dy.val a-Dy.isq (Dy.val a)*Dy.isq (Dy.val a))
    rw [h3] at h4
    simp only [Dy.val] at h4
    omega
  rw [vc_refRoot,hex,Int.tmod_eq_emod_of_nonneg (by omega)]
  refine ⟨⟨hca,by omega⟩,cond_i (fun h1=> ?_) (fun h1=> ?_)⟩
  ·have h1:=of_decide_eq_true h1
   rw [wrap_i64 (n:=((Dy.bl (Dy.val a):Nat):Int)+1) (by omega) (by omega),wrap_i64 (by omega) (by omega)]
   exact ⟨⟨hca,hal,rfl,rfl,by omega,by omega,by omega,by omega⟩,rfl⟩
  ·have h1:=of_decide_eq_false h1
   rw [wrap_i64 (by omega) (by omega)]
   exact ⟨⟨hca,hal,rfl,rfl,by omega,by omega,by omega,by omega⟩,rfl⟩
 ·cases h
theorem ok_tabE2:PhiOk Tryz.prog Inv (look tabE2):=look_cons (look_cons ok_tabE1 ok_refRoot) ok_refQuoRem
end Go.AI

namespace Go.Dy
def madeD (s:Bool) (q:Nat) (e:Int) (more:Bool) (k:Int):Cutd:=
 if (boundD (form s (q/2^((bl q:Int)-k).toNat) (e+(((bl q:Int)-k).toNat:Int)))).2=0 then
  ⟨(boundD (form s (q/2^((bl q:Int)-k).toNat) (e+(((bl q:Int)-k).toNat:Int)))).1,decide (q%2^((bl q:Int)-k).toNat≠0)||more,0⟩
 else ⟨zeroD,false,(boundD (form s (q/2^((bl q:Int)-k).toNat) (e+(((bl q:Int)-k).toNat:Int)))).2⟩
def quoS (a b:Nat) (k:Int):Nat:=(k+1+(bl b:Int)-(bl a:Int)).toNat
def quoD (a b:Dyd) (k:Int):Cutd:=
 if ((mayD a&&mayD b)&&decide (1≤k))=true then
  if k≤8192 then
   if b.mag=[] then ⟨zeroD,false,11⟩ else if a.mag=[] then ⟨zeroD,false,0⟩
   else madeD (a.neg !=b.neg) (val a.mag*2^quoS (val a.mag) (val b.mag) k/val b.mag) (a.exp-b.exp-quoS (val a.mag) (val b.mag) k) (decide (val a.mag*2^quoS (val a.mag) (val b.mag) k%val b.mag≠0)) k
  else ⟨zeroD,false,3⟩
 else ⟨zeroD,false,2⟩
def sh2 (M:Nat) (n:Int):Nat:=if n<0 then M/2^(-n).toNat else M*2^n.toNat
def fell (M:Nat) (n:Int):Bool:=decide (n<0∧M%2^(-n).toNat≠0)
def evenS (e n:Int):Int:=if (e-n)%2=0 then n else n+1
def rootS (M:Nat) (e k:Int):Int:=evenS e (2*k+2-(bl M:Int))
def rootD (d:Dyd) (k:Int):Cutd:=
 if (mayD d&&decide (1≤k))=true then
  if k≤8192 then
   if d.mag=[] then ⟨zeroD,false,0⟩ else if d.neg then ⟨zeroD,false,10⟩
   else madeD false (isq (sh2 (val d.mag) (rootS (val d.mag) d.exp k))) ((d.exp-rootS (val d.mag) d.exp k)/2)
    (fell (val d.mag) (rootS (val d.mag) d.exp k)||decide (isq (sh2 (val d.mag) (rootS (val d.mag) d.exp k))*isq (sh2 (val d.mag) (rootS (val d.mag) d.exp k))≠sh2 (val d.mag) (rootS (val d.mag) d.exp k))) k
  else ⟨zeroD,false,3⟩
 else ⟨zeroD,false,2⟩
def quoF (a b:Dyd) (k:Int):Dyd×Bool:=
 if a.mag=[] then (zeroD,false) else
  ((cutR (form (a.neg !=b.neg) (val a.mag*2^quoS (val a.mag) (val b.mag) k/val b.mag) (a.exp-b.exp-quoS (val a.mag) (val b.mag) k)) k).1,
  (cutR (form (a.neg !=b.neg) (val a.mag*2^quoS (val a.mag) (val b.mag) k/val b.mag) (a.exp-b.exp-quoS (val a.mag) (val b.mag) k)) k).2||decide (val a.mag*2^quoS (val a.mag) (val b.mag) k%val b.mag≠0))
def rootZ (M:Nat) (e k:Int):Nat:=(evenS e (if 2*k+2-(bl M:Int)<0 then 0 else 2*k+2-(bl M:Int))).toNat
def rootF (d:Dyd) (k:Int):Dyd×Bool:=
 ((cutR (form false (isq (val d.mag*2^rootZ (val d.mag) d.exp k)) ((d.exp-rootZ (val d.mag) d.exp k)/2)) k).1,
 (cutR (form false (isq (val d.mag*2^rootZ (val d.mag) d.exp k)) ((d.exp-rootZ (val d.mag) d.exp k)/2)) k).2||
  decide (isq (val d.mag*2^rootZ (val d.mag) d.exp k)*isq (val d.mag*2^rootZ (val d.mag) d.exp k)≠val d.mag*2^rootZ (val d.mag) d.exp k))
end Go.Dy
namespace Go.AI
open Go Go.RowKit Go.Proofs
set_option linter.unusedVariables false
def rCutW:List AV→Option Spec
 |[.agg [.bool s,.dig [1] m,.num .i64 e],.num .i64 b]=>some ⟨some (Dy.dg (Dy.val m)=m∧m.length≤4096∧Dy.tz (Dy.val m)=0∧ -1099511627776≤e∧e+131072≤1099511627776∧1≤b),.tup [avD [0,1,2] (Dy.cutR ⟨s,m,e⟩ b).1,.bool (Dy.cutR ⟨s,m,e⟩ b).2]⟩
 |_=>none
def dMade:List AV→Option Spec
 |[.bool s,.dig [2] q,.num .i64 e,.bool more,.num .i64 k]=>
  some ⟨some (Dy.may q=true∧ -1099511627776≤e∧e≤1099511627776∧1≤k∧k≤8192),.tup [avD [0] (Dy.madeD s (Dy.val q) e more k).num,.bool (Dy.madeD s (Dy.val q) e more k).lost,.num .i64 (Dy.madeD s (Dy.val q) e more k).err]⟩
 |_=>none
def dQuo:List AV→Option Spec
 |[.agg [.bool s,.dig [1] m,.num .i64 e],.agg [.bool s',.dig [2] m',.num .i64 e'],.num .i64 k]=>
  some ⟨some (m.length≤1000∧m'.length≤1000),.tup [avD [0] (Dy.quoD ⟨s,m,e⟩ ⟨s',m',e'⟩ k).num,.bool (Dy.quoD ⟨s,m,e⟩ ⟨s',m',e'⟩ k).lost,.num .i64 (Dy.quoD ⟨s,m,e⟩ ⟨s',m',e'⟩ k).err]⟩
 |_=>none
def dRoot:List AV→Option Spec
 |[.agg [.bool s,.dig [1] m,.num .i64 e],.num .i64 k]=>
  some ⟨none,.tup [avD [0] (Dy.rootD ⟨s,m,e⟩ k).num,.bool (Dy.rootD ⟨s,m,e⟩ k).lost,.num .i64 (Dy.rootD ⟨s,m,e⟩ k).err]⟩
 |_=>none
def rQuoD:List AV→Option Spec
 |[.agg [.bool s,.dig [1] m,.num .i64 e],.agg [.bool s',.dig [2] m',.num .i64 e'],.num .i64 k]=>
  some ⟨some (Dy.mayD ⟨s,m,e⟩=true∧Dy.mayD ⟨s',m',e'⟩=true∧m'≠[]∧1≤k∧k≤8192∧m.length≤1000∧m'.length≤1000),.tup [avD [0] (Dy.quoF ⟨s,m,e⟩ ⟨s',m',e'⟩ k).1,.bool (Dy.quoF ⟨s,m,e⟩ ⟨s',m',e'⟩ k).2]⟩
 |_=>none
def rRootD:List AV→Option Spec
 |[.agg [.bool s,.dig [1] m,.num .i64 e],.num .i64 k]=>
  some ⟨some (Dy.mayD ⟨s,m,e⟩=true∧1≤k∧k≤8192),.tup [avD [0] (Dy.rootF ⟨s,m,e⟩ k).1,.bool (Dy.rootF ⟨s,m,e⟩ k).2]⟩
 |_=>none
def tabF0:List (Nat×(List AV→Option Spec)):=(99,rCutW)::(147,dMade)::tabE2
def tabF:List (Nat×(List AV→Option Spec)):=(189,dQuo)::(76,dRoot)::(197,rQuoD)::(42,rRootD)::tabF0
end Go.AI
