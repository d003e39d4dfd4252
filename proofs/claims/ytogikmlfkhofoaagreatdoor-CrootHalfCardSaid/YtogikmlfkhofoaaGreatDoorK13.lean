/- My texts AIspanv, AIspan1, AVarc, AIarc, AIpi0, AIpi1, AIpi3, AIpi2, AIpi4, AIarc2, AIspan2, AIlen64, AIlen64b, AIspecS, AIpiq, AIquav, AIpi5, AIquart, in one. -/
import Derived.Test.YtogikmlfkhofoaaGreatDoorK12
import Derived.RowKit2
namespace Go.Dy
def rndQ (z D:Int) (high:Bool):Int:=if high then -((-z)/D) else z/D
theorem rndQ_low {z D:Int} (hD:0<D):rndQ z D false*D≤z∧z<rndQ z D false*D+D:=by
 have h1:=Int.mul_ediv_add_emod z D
 have h2:=Int.emod_nonneg z (Int.ne_of_gt hD)
 have h3:=Int.emod_lt_of_pos z hD
 have e:rndQ z D false=z/D:=rfl
 rw [e]
 rw [Int.mul_comm] at h1
 omega
theorem rndQ_high {z D:Int} (hD:0<D):z≤rndQ z D true*D∧rndQ z D true*D<z+D:=by
 have h1:=Int.mul_ediv_add_emod (-z) D
 have h2:=Int.emod_nonneg (-z) (Int.ne_of_gt hD)
 have h3:=Int.emod_lt_of_pos (-z) hD
 have e:rndQ z D true= -((-z)/D):=rfl
 rw [e,Int.neg_mul]
 rw [Int.mul_comm] at h1
 omega
theorem rndQ_one (z:Int) (high:Bool):rndQ z 1 high=z:=by
 unfold rndQ
 cases high<;>simp
theorem rndQ_zero (D:Int) (high:Bool):rndQ 0 D high=0:=by
 unfold rndQ
 cases high<;>simp
theorem rndQ_sgn (s:Bool) (M:Nat) {D:Nat} (hD:0<D) (high:Bool):
  rndQ (sgn s M) (D:Int) high=if (decide (M%D≠0)&&(s !=high))=true then sgn s (M/D)+(if high then 1 else -1) else sgn s (M/D):=by
 have h1:=Nat.div_add_mod M D
 have h2:=Nat.mod_lt M hD
 generalize hq:M/D=q at*
 generalize hr:M%D=r at*
 have hDi:(0:Int)<D:=by omega
 have key:∀{x y:Int},y*D≤x→x<(y+1)*D→x/D=y:=fun {x y} k1 k2=>ediv_eq hDi k1 k2
 have hM:(M:Int)=D*q+r:=by rw [←h1];simp
 have hneg:¬r=0→ -(M:Int)/D= -(q:Int)-1:=fun hr0=>key (by rw [hM,Int.sub_mul,Int.neg_mul,Int.mul_comm (q:Int)];omega) (by rw [hM,show -(q:Int)-1+1= -(q:Int) by omega,Int.neg_mul,Int.mul_comm (q:Int)];omega)
 have hneg0:r=0→ -(M:Int)/D= -(q:Int):=fun hr0=>key (by rw [hM,Int.neg_mul,Int.mul_comm (q:Int)];omega) (by rw [hM,Int.add_mul,Int.neg_mul,Int.mul_comm (q:Int)];omega)
 have hpos:(M:Int)/D=q:=key (by rw [hM,Int.mul_comm (q:Int)];omega) (by rw [hM,Int.add_mul,Int.mul_comm (q:Int)];omega)
 unfold rndQ sgn
 by_cases c:r=0
 ·rw [decide_eq_false (by simpa using c)]
  cases s<;>cases high<;>simp [hpos,hneg0 c]
 ·rw [decide_eq_true c]
  cases s<;>cases high<;>simp [hpos,hneg c]<;>omega
theorem unit_at (u v:Int) (h:v≤u):at_ (unitOf u) v=2^(u-v).toNat:=by
 unfold unitOf
 rw [at_mk]
 simp [sgn,val]
theorem exp_formZ {z e v:Int} (h1:v≤e) (h2:v≤0):v≤(formZ z e).exp:=exp_form h1 h2
theorem exp_formZ_ne {z e:Int} (h:z≠0):e≤(formZ z e).exp:=exp_form_pos (by omega)
theorem add_unit {z u:Int} (h:z≠0) (high:Bool):(if high=true then addD (formZ z u) (unitOf u) else subD (formZ z u) (unitOf u))=formZ (z+(if high then 1 else -1)) u:=by
 have h1:at_ (unitOf u) u=1:=by rw [unit_at u u (Int.le_refl _),Int.sub_self];rfl
 cases high
 ·simp only [Bool.false_eq_true,if_false]
  unfold subD
  rw [addD_at (u:=u) (exp_formZ_ne h) (by show u≤u;omega),at_formZ_self,at_negD,h1]
 ·simp only [if_true]
  rw [addD_at (exp_formZ_ne h) (by show u≤u;omega),at_formZ_self,h1]
theorem cutR_formZ (z e n:Int) (hn:1≤n):cutR (formZ z e) n=(form (decide (z<0)) (z.natAbs/2^((bl z.natAbs:Int)-n).toNat) (e+(((bl z.natAbs:Int)-n).toNat:Int)),decide (z.natAbs%2^((bl z.natAbs:Int)-n).toNat≠0)):=cutR_form _ _ _ _ hn
theorem top_formZ {z e:Int} (h:z≠0):topD (formZ z e)=e+bl z.natAbs:=top_form (by omega)
theorem form_sgn (s:Bool) (n:Nat) (e:Int):form s n e=formZ (sgn s n) e:=(formZ_sgn s n e).symm
theorem endD_formZ (z e n:Int) (hn:1≤n) (high:Bool):endD (formZ z e) n high=formZ (rndQ z (2^((bl z.natAbs:Int)-n).toNat) high) (e+(((bl z.natAbs:Int)-n).toNat:Int)):=by
 unfold endD
 rw [cutR_formZ z e n hn]
 obtain ⟨t,ht⟩:∃t:Nat,((bl z.natAbs:Int)-n).toNat=t:=⟨_,rfl⟩
 rw [ht]
 by_cases h0:z=0
 ·subst h0
  have:(0:Int).natAbs=0:=rfl
  rw [this,Nat.zero_div,Nat.zero_mod,rndQ_zero,formZ_zero,form_zero]
  rfl
 have hz:=sgn_natAbs z
 have hp:(0:Nat)<2^t:=Nat.two_pow_pos t
 have hr:=rndQ_sgn (decide (z<0)) z.natAbs hp high
 rw [←hz,Int.natCast_pow] at hr
 have hr:rndQ z (2^t) high=_:=hr
 rw [hr]
 have hM:z.natAbs≠0:=by omega
 have hneg:(formZ z e).neg=decide (z<0):=by unfold formZ;rw [form_pos hM]
 unfold stepD
 simp only
 rw [hneg]
 by_cases c:(decide (z.natAbs%2^t≠0)&&(decide (z<0) !=high))=true
 ·rw [if_pos c,if_pos c]
  have c1:=of_decide_eq_true (Bool.and_eq_true _ _ ▸ c:_∧_).1
  have ht0:t≠0:=fun e=>by rw [e,Nat.pow_zero,Nat.mod_one] at c1;exact c1 rfl
  have hu:topD (formZ z e)-n=e+(t:Int):=by rw [top_formZ h0];omega
  have hbq:=bl_div_two_pow z.natAbs t
  have hq:z.natAbs/2^t≠0:=fun e=>by rw [e,bl_zero] at hbq;omega
  rw [hu,form_sgn,add_unit]
  unfold sgn
  split<;>omega
 ·rw [if_neg c,if_neg c,form_sgn]
theorem quoE_formZ {s:Bool} {m:List Nat} {e:Int} {m':List Nat} {e' n:Int} (ha:mayD ⟨s,m,e⟩=true) (hb:mayD ⟨false,m',e'⟩=true) (h0:m'≠[]) (hn:1≤n):
  ∃S t:Nat,(val m≠0→2^(n.toNat-1)*(val m'*2^t)≤val m*2^S)∧(S:Int)≤n+1+bl (val m')∧t≤bl (val m*2^S)∧bl (val m*2^S/(val m'*2^t))≤n.toNat∧
   ∀high,quoE ⟨s,m,e⟩ ⟨false,m',e'⟩ n high=formZ (rndQ (sgn s (val m*2^S)) ((val m'*2^t:Nat):Int) high) (e-e'-S+t):=by
 have hN:=val_ne (mayD_may hb) h0
 obtain ⟨S,hS⟩:∃S:Nat,quoS (val m) (val m') n=S:=⟨_,rfl⟩
 obtain ⟨t,ht⟩:∃t:Nat,((bl (val m*2^S/val m'):Int)-n).toNat=t:=⟨_,rfl⟩
 have hSv:quoS (val m) (val m') n=(n+1+(bl (val m'):Int)-(bl (val m):Int)).toNat:=rfl
 have hNp:0<val m':=by omega
 have hp:=Nat.two_pow_pos t
 have hbq:=bl_mono (Nat.div_le_self (val m*2^S) (val m'))
 refine ⟨S,t,fun hM=> ?_,by omega,by omega,?_,fun high=> ?_⟩
 ·-- enough bits
  have hX0:val m*2^S≠0:=Nat.mul_ne_zero hM (Nat.pos_iff_ne_zero.1 (Nat.two_pow_pos S))
  have hbX:bl (val m*2^S)=bl (val m)+S:=bl_mul_two_pow hM S
  have hQ2:2^n.toNat≤val m*2^S/val m':=by
   rw [Nat.le_div_iff_mul_le hNp]
   have h1:=lt_two_bl (val m')
   have h2:=two_bl_le hX0
   have h3:2^n.toNat*val m'≤2^n.toNat*2^bl (val m'):=Nat.mul_le_mul_left _ (Nat.le_of_lt h1)
   rw [←Nat.pow_add] at h3
   have h4:2^(n.toNat+bl (val m'))≤2^(bl (val m*2^S)-1):=Nat.pow_le_pow_right (by decide) (by omega)
   omega
  have hlb:=lt_bl.2 hQ2
  have hQ0:val m*2^S/val m'≠0:=fun e=>by rw [e,bl_zero] at hlb;omega
  have h5:=two_bl_le hQ0
  have h6:2^(n.toNat-1)*2^t≤val m*2^S/val m':=by
   rw [←Nat.pow_add]
   exact Nat.le_trans (Nat.pow_le_pow_right (by decide) (by omega)) h5
  have h7:=(Nat.le_div_iff_mul_le hNp).1 h6
  rwa [Nat.mul_assoc,Nat.mul_comm (2^t)] at h7
 ·rw [←Nat.div_div_eq_div_mul,bl_div_two_pow]
  omega
 ·unfold quoE quoF
  simp only
  by_cases hm:m=[]
  ·subst hm
   rw [if_pos rfl]
   have:sgn s (val ([]:List Nat)*2^S)=0:=by rw [show val ([]:List Nat)=0 from rfl,Nat.zero_mul,sgn_zero]
   rw [this,rndQ_zero,formZ_zero]
   rfl
  rw [if_neg hm,hS,cutR_form _ _ _ _ hn,ht]
  simp only
  have hM:=val_ne (mayD_may ha) hm
  have hs:(s !=false)=s:=by cases s<;>rfl
  rw [hs]
  have hX0:val m*2^S≠0:=Nat.mul_ne_zero hM (Nat.pos_iff_ne_zero.1 (Nat.two_pow_pos S))
  have hbX:bl (val m*2^S)=bl (val m)+S:=bl_mul_two_pow hM S
  have hQ2:2^n.toNat≤val m*2^S/val m':=by
   rw [Nat.le_div_iff_mul_le hNp]
   have h1:=lt_two_bl (val m')
   have h2:=two_bl_le hX0
   have h3:2^n.toNat*val m'≤2^n.toNat*2^bl (val m'):=Nat.mul_le_mul_left _ (Nat.le_of_lt h1)
   rw [←Nat.pow_add] at h3
   have h4:2^(n.toNat+bl (val m'))≤2^(bl (val m*2^S)-1):=Nat.pow_le_pow_right (by decide) (by omega)
   omega
  have hlb:=lt_bl.2 hQ2
  have hbW:=bl_div_two_pow (val m*2^S/val m') t
  have hW0:val m*2^S/val m'/2^t≠0:=fun e=>by rw [e,bl_zero] at hbW;omega
  have hdiv:val m*2^S/val m'/2^t=val m*2^S/(val m'*2^t):=Nat.div_div_eq_div_mul _ _ _
  have hlost:(decide (val m*2^S/val m'%2^t≠0)||decide (val m*2^S%val m'≠0))=decide (val m*2^S%(val m'*2^t)≠0):=by
   rw [Nat.mod_mul,Bool.eq_iff_iff]
   simp only [Bool.or_eq_true,decide_eq_true_eq,ne_eq,Nat.add_eq_zero_iff,Nat.mul_eq_zero]
   constructor
   ·rintro (h|h) ⟨h1,h2|h2⟩
    ·omega
    ·exact h h2
    ·exact h h1
    ·exact h h1
   ·intro h
    by_cases c:val m*2^S%val m'=0
    ·exact .inl fun h2=>h ⟨c,.inr h2⟩
    ·exact .inr c
  rw [hlost]
  have hr:=rndQ_sgn s (val m*2^S) (Nat.mul_pos hNp hp) high
  rw [hr]
  have hneg:(form s (val m*2^S/val m'/2^t) (e-e' - ↑S+↑t)).neg=s:=by rw [form_pos hW0]
  unfold stepD
  rw [hneg]
  by_cases c:(decide (val m*2^S%(val m'*2^t)≠0)&&(s !=high))=true
  ·rw [if_pos c,if_pos c,top_form hW0,hbW,show e-e'-(S:Int)+(t:Int)+((bl (val m*2^S/val m')-t:Nat):Int)-n=e-e'-S+t by omega,form_sgn,add_unit,hdiv]
   unfold sgn
   split<;>omega
  ·rw [if_neg c,if_neg c,form_sgn,hdiv]
theorem rndQ_abs (z:Int) {D:Nat} (hD:0<D) (high:Bool):(rndQ z D high).natAbs≤z.natAbs/D+1:=by
 have h:=rndQ_sgn (decide (z<0)) z.natAbs hD high
 rw [←sgn_natAbs] at h
 rw [h]
 generalize z.natAbs/D=q
 unfold sgn
 split<;>split<;>(try split)<;>omega
theorem formZ_fit {z e:Int} {L E:Nat} (hb:bl z.natAbs≤L) (h1: -(E:Int)≤e) (h2:e+(L:Int)≤E) (hL:L≤131072) (hE:E≤16777216):Fit (formZ z e) L E:=(fit_formZ hb h1 (by omega) hL hE).1
theorem self_formZ {d:Dyd} (h:mayD d=true):d=formZ d.int d.exp:=by
 obtain ⟨s,m,e⟩:=d
 exact (formZ_self h).symm
theorem int_bl (d:Dyd):bl d.int.natAbs=bl (val d.mag):=by rw [Dyd.int_eq,natAbs_sgn]
theorem end_fit {d:Dyd} {L E:Nat} (h:Fit d L E) {n:Int} (hn:1≤n∧n≤8192) (hE:E+L+8194≤16777216) (high:Bool):Fit (endD d n high) (n.toNat+1) (E+L+8194):=by
 have hb:=h.bits
 have h1:=h.lo
 have h2:=h.hi
 rw [self_formZ h.may,endD_formZ _ _ _ hn.1,int_bl]
 obtain ⟨t,ht⟩:∃t:Nat,((bl (val d.mag):Int)-n).toNat=t:=⟨_,rfl⟩
 rw [ht]
 have hp:=Nat.two_pow_pos t
 have ha:=rndQ_abs d.int hp high
 rw [Int.natCast_pow] at ha
 have hq:bl (d.int.natAbs/2^t)≤n.toNat:=by rw [bl_div_two_pow,int_bl];omega
 have hr:bl (rndQ d.int (2^t) high).natAbs≤n.toNat+1:=Nat.le_trans (bl_mono ha) (bl_half_succ hq)
 exact formZ_fit hr (by omega) (by omega) (by omega) hE
theorem quo_fit {a b:Dyd} {L E:Nat} (ha:Fit a L E) (hb:Fit b L E) (hs:b.neg=false) (h0:b.mag≠[]) {n:Int} (hn:1≤n∧n≤8192) (hE:2*E+3*L+20000≤16777216) (high:Bool):Fit (quoE a b n high) (n.toNat+1) (2*E+3*L+20000):=by
 obtain ⟨s,m,e⟩:=a
 obtain ⟨s',m',e'⟩:=b
 simp only at hs h0
 subst hs
 obtain ⟨S,t, -,k2,k3,k4,k5⟩:=quoE_formZ ha.may hb.may h0 hn.1
 have a0:=ha.bits
 have a1:=ha.lo
 have a2:=ha.hi
 have b0:=hb.bits
 have b1:=hb.lo
 have b2:=hb.hi
 simp only at a0 a1 a2 b0 b1 b2
 have hN:=val_ne (mayD_may hb.may) h0
 have hD:0<val m'*2^t:=Nat.mul_pos (by omega) (Nat.two_pow_pos t)
 rw [k5]
 have hab:=rndQ_abs (sgn s (val m*2^S)) hD high
 rw [natAbs_sgn] at hab
 have hr:=Nat.le_trans (bl_mono hab) (bl_half_succ k4)
 have k6:t≤bl (val m)+S:=Nat.le_trans k3 (bl_mul_le (Nat.le_refl _))
 exact formZ_fit hr (by omega) (by omega) (by omega) hE
theorem quoF_fit {a b:Dyd} {L E:Nat} (ha:Fit a L E) (hb:Fit b L E) {n:Int} (hn:1≤n∧n≤8192) (hE:2*E+3*L+30000≤16777216):Fit (quoF a b n).1 n.toNat (2*E+3*L+30000):=by
 have a0:=ha.bits
 have a1:=ha.lo
 have a2:=ha.hi
 have b0:=hb.bits
 have b1:=hb.lo
 have b2:=hb.hi
 unfold quoF
 by_cases h:a.mag=[]
 ·rw [if_pos h]
  exact ⟨mayD_zero,by show bl 0≤_;rw [bl_zero];omega,by show _≤(0:Int);omega,by show (0:Int)≤_;omega⟩
 ·rw [if_neg h]
  simp only
  rw [cutR_form _ _ _ _ hn.1]
  simp only
  have hS:quoS (val a.mag) (val b.mag) n=(n+1+(bl (val b.mag):Int)-(bl (val a.mag):Int)).toNat:=rfl
  have hQ:=Nat.le_trans (bl_mono (Nat.div_le_self (val a.mag*2^quoS (val a.mag) (val b.mag) n) (val b.mag))) (bl_mul_le (Nat.le_refl _))
  generalize quoS (val a.mag) (val b.mag) n=S at*
  generalize val a.mag*2^S/val b.mag=Q at*
  have hW:=bl_div_two_pow Q ((bl Q:Int)-n).toNat
  exact (fit_form (by omega) (by omega) (by omega) (by omega) hE).1
theorem top_fit {d:Dyd} {L E:Nat} (h:Fit d L E): -(E:Int)≤topD d∧topD d≤E+L:=by
 have h1:=h.bits
 have h2:=h.lo
 have h3:=h.hi
 unfold topD
 split<;>omega
theorem quoD_fit {a b:Dyd} {L E:Nat} (ha:Fit a L E) (hb:Fit b L E) (h0:b.mag≠[]) {n:Int} (hn:1≤n∧n≤8192) (hE:2*E+3*L+30000≤16777216):quoD a b n=⟨(quoF a b n).1,(quoF a b n).2,0⟩:=by
 have hf:=quoF_fit ha hb hn hE
 have h1:=hf.lo
 have h2:=hf.hi
 rw [quoD_eq ha.may hb.may h0 hn.1 hn.2,if_pos (inside_iff.2 (by omega))]
theorem unit_may {u:Int} (h: -16777216≤u∧u≤16777216):mayD (unitOf u)=true:=by
 unfold unitOf
 rw [mayD_iff]
 refine ⟨rfl,.inr ⟨by decide,by decide,inside_iff.2 h⟩⟩
theorem cut_may {d:Dyd} (h:mid d) {n:Int} (hn:1≤n):mayD (cutR d n).1=true:=by
 obtain ⟨h0,h1,h2⟩:=h
 have hb:=may_bl (mayD_may (s:=d.neg) (m:=d.mag) (e:=d.exp) h0)
 rw [self_formZ h0,cutR_formZ _ _ _ hn,int_bl]
 simp only
 have hq:bl (d.int.natAbs/2^((bl (val d.mag):Int)-n).toNat)≤131072:=by rw [bl_div_two_pow,int_bl];omega
 exact (fit_form (L:=131072) (E:=2000000) hq (by omega) (by omega) (by decide) (by decide)).1.may
theorem cutD_eq {d:Dyd} (h:mid d) {n:Int} (hn:1≤n∧n≤8192):cutD d n=⟨(cutR d n).1,(cutR d n).2,0⟩:=by
 have hm:=cut_may h hn.1
 unfold cutD
 rw [if_pos h.1,if_pos (show askD n=0 by unfold askD;rw [if_neg (by omega),if_neg (by omega)])]
 unfold cutL
 unfold cutR at hm ⊢
 by_cases c:overD d n≤0
 ·rw [if_pos c,if_pos c]
 ·rw [if_neg c] at hm
  rw [if_neg c,if_neg c,boundD_self hm]
  rfl
theorem mid_fit {d:Dyd} (h:mid d):Fit d 131072 1000000:=⟨h.1,may_bl (mayD_may (s:=d.neg) (m:=d.mag) (e:=d.exp) h.1),h.2.1,h.2.2⟩
theorem fit_mid {d:Dyd} {L E:Nat} (h:Fit d L E) (hE:E≤1000000):mid d:=⟨h.may,by have:=h.lo;omega,by have:=h.hi;omega⟩
theorem top_mid {d:Dyd} (h:mid d): -1000000≤topD d∧topD d≤1131072:=by
 have hf:=mid_fit h
 have h1:=hf.bits
 have h2:=hf.lo
 have h3:=hf.hi
 unfold topD
 split<;>omega
end Go.Dy

namespace Go.AI
open Go Go.RowKit Go.Proofs
set_option linter.unusedVariables false
set_option maxRecDepth 100000
set_option maxHeartbeats 1000000
theorem dpeel {x:Dy.Dyd} {P:Bool→List Nat→Int→Prop} (h:∀b l n,Dy.Dyd.mk b l n=x→P b l n):dyF x P:=by
 rintro _ rfl _ rfl _ rfl
 exact h _ _ _ rfl
theorem avD_of {p:List Nat} {b:Bool} {l:List Nat} {n:Int} {d:Dy.Dyd} (h:Dy.Dyd.mk b l n=d):AV.agg [.bool b,.dig p l,.num .i64 n]=avD p d:=by subst h;rfl
theorem avS_of {p:List Nat} {b b':Bool} {l l':List Nat} {n n':Int} {d d':Dy.Dyd} (h:Dy.Dyd.mk b l n=d) (h':Dy.Dyd.mk b' l' n'=d'):AV.agg [.bool b,.dig p l,.num .i64 n,.bool b',.dig p l',.num .i64 n']=avS p d d':=by subst h h';rfl
theorem addN {a b:Dy.Dyd} (h1:Dy.mayD a=true) (h2:Dy.mayD b=true) (h3:Dy.mayD (Dy.addD a b)=true):Dy.boundIf (Dy.mayD a&&Dy.mayD b) (Dy.addD a b)=(Dy.addD a b,0):=by
 unfold Dy.boundIf
 rw [h1,h2,Dy.boundD_self h3]
 rfl
theorem mulN {a b:Dy.Dyd} (h1:Dy.mayD a=true) (h2:Dy.mayD b=true) (h3:Dy.mayD (Dy.mulD a b)=true):Dy.boundIf (Dy.mayD a&&Dy.mayD b) (Dy.mulD a b)=(Dy.mulD a b,0):=by
 unfold Dy.boundIf
 rw [h1,h2,Dy.boundD_self h3]
 rfl
theorem subN' {a b:Dy.Dyd} (h1:Dy.mayD a=true) (h2:Dy.mayD b=true) (h3:Dy.mayD (Dy.subD a b)=true):Dy.boundIf (Dy.mayD a&&Dy.mayD b) (Dy.addD a (Dy.negD b))=(Dy.subD a b,0):=by
 unfold Dy.boundIf
 unfold Dy.subD at h3 ⊢
 rw [h1,h2,Dy.boundD_self h3]
 rfl
theorem ok_span_power (args:List AV) (s:Spec) (h:sPowerS args=some s) (hp:andO s.pre True):Contract Tryz.prog Inv 151 args s.res:=by
 unfold sPowerS at h
 split at h
 ·cases h
  refine contract0 false ok_tabF Tryz.func151 (by kernel_rfl) (by kernel_rfl) fun hok=> ?_
  rw [vc_span_power]
  rfl
 ·cases h
theorem ok_span_Of (args:List AV) (s:Spec) (h:sOfS args=some s) (hp:andO s.pre True):Contract Tryz.prog Inv 73 args s.res:=by
 unfold sOfS at h
 split at h
 ·cases h
  refine contract0 true ok_tabF Tryz.func73 (by kernel_rfl) (by kernel_rfl) fun hok=> ?_
  rw [vc_span_Of]
  rfl
 ·cases h
theorem ok_span_add (args:List AV) (s:Spec) (h:sAddS args=some s) (hp:andO s.pre True):Contract Tryz.prog Inv 140 args s.res:=by
 unfold sAddS at h
 split at h
 ·cases h
  obtain ⟨⟨p1,p2,p3⟩, -⟩:=hp
  refine contract0 false ok_tabF Tryz.func140 (by kernel_rfl) (by kernel_rfl) fun hok=> ?_
  rw [vc_span_add,addN p1 p2 p3]
  refine dpeel fun b l n hd=> ?_
  rintro _ -
  exact avD_of hd
 ·cases h
theorem ok_span_sub (args:List AV) (s:Spec) (h:sSubS args=some s) (hp:andO s.pre True):Contract Tryz.prog Inv 190 args s.res:=by
 unfold sSubS at h
 split at h
 ·cases h
  obtain ⟨⟨p1,p2,p3⟩, -⟩:=hp
  refine contract0 false ok_tabF Tryz.func190 (by kernel_rfl) (by kernel_rfl) fun hok=> ?_
  rw [vc_span_sub,subN' p1 p2 p3]
  refine dpeel fun b l n hd=> ?_
  rintro _ -
  exact avD_of hd
 ·cases h
theorem ok_span_mul (args:List AV) (s:Spec) (h:sMulS args=some s) (hp:andO s.pre True):Contract Tryz.prog Inv 141 args s.res:=by
 unfold sMulS at h
 split at h
 ·cases h
  obtain ⟨⟨p1,p2,p3⟩, -⟩:=hp
  refine contract0 false ok_tabF Tryz.func141 (by kernel_rfl) (by kernel_rfl) fun hok=> ?_
  rw [vc_span_mul,mulN p1 p2 p3]
  refine dpeel fun b l n hd=> ?_
  rintro _ -
  exact avD_of hd
 ·cases h
theorem ok_span_less (args:List AV) (s:Spec) (h:sLessS args=some s) (hp:andO s.pre True):Contract Tryz.prog Inv 142 args s.res:=by
 unfold sLessS at h
 split at h
 ·cases h
  obtain ⟨⟨p1,p2⟩, -⟩:=hp
  refine contract0 false ok_tabF Tryz.func142 (by kernel_rfl) (by kernel_rfl) fun hok=> ?_
  rw [vc_span_less,p1,p2]
  rintro _ rfl _ -
  rfl
 ·cases h
theorem ok_tabR0:PhiOk Tryz.prog Inv (look tabR0):=
 look_cons (look_cons (look_cons (look_cons (look_cons (look_cons ok_tabF ok_span_less) ok_span_mul) ok_span_sub) ok_span_add) ok_span_Of) ok_span_power
theorem step_tail {c:Dy.Dyd} {lost high neg:Bool} {u:Int} {b:Bool} {l:List Nat} {k:Int} (hd:Dy.Dyd.mk b l k=c) (hc:Dy.mayD c=true) (hu: -16777216≤u∧u≤16777216) (hf:Dy.mayD (Dy.stepD c lost high neg u)=true):
  bif !lost then AV.agg [.bool b,.dig [0] l,.num .i64 k]=avD [0] (Dy.stepD c lost high neg u)
  else bif decide (neg=high) then AV.agg [.bool b,.dig [0] l,.num .i64 k]=avD [0] (Dy.stepD c lost high neg u)
  else dyF (Dy.unitOf u) fun b6 l7 n8=>
   bif high then (Dy.mayD (Dy.Dyd.mk b l k)=true∧Dy.mayD (Dy.Dyd.mk b6 l7 n8)=true∧Dy.mayD (Dy.addD (Dy.Dyd.mk b l k) (Dy.Dyd.mk b6 l7 n8))=true)∧
    dyF (Dy.addD (Dy.Dyd.mk b l k) (Dy.Dyd.mk b6 l7 n8)) fun b9 l10 n11=>
     AV.agg [.bool b9,.dig [0] l10,.num .i64 n11]=avD [0] (Dy.stepD c lost high neg u)
   else (Dy.mayD (Dy.Dyd.mk b l k)=true∧Dy.mayD (Dy.Dyd.mk b6 l7 n8)=true∧Dy.mayD (Dy.subD (Dy.Dyd.mk b l k) (Dy.Dyd.mk b6 l7 n8))=true)∧
    dyF (Dy.subD (Dy.Dyd.mk b l k) (Dy.Dyd.mk b6 l7 n8)) fun b9 l10 n11=>
     AV.agg [.bool b9,.dig [0] l10,.num .i64 n11]=avD [0] (Dy.stepD c lost high neg u):=by
 subst hd
 have hum:=Dy.unit_may hu
 cases lost with
 |false=>exact cond_t rfl rfl
 |true=>
  refine cond_f rfl (cond_i (fun h=> ?_) (fun h=> ?_))
  ·have h:=of_decide_eq_true h
   subst h
   have:Dy.stepD (Dy.Dyd.mk b l k) true neg neg u=Dy.Dyd.mk b l k:=by unfold Dy.stepD;rw [if_neg (by simp)]
   rw [this]
   rfl
  ·have h:=of_decide_eq_false h
   refine dpeel fun b6 l7 n8 h6=> ?_
   rw [h6]
   have hb:(true&&(neg !=high))=true:=by cases neg<;>cases high<;>simp_all
   cases high with
   |true=>
    have e:Dy.stepD (Dy.Dyd.mk b l k) true true neg u=Dy.addD (Dy.Dyd.mk b l k) (Dy.unitOf u):=by unfold Dy.stepD;rw [if_pos hb,if_pos rfl]
    rw [e] at hf
    refine cond_t rfl ⟨⟨hc,hum,hf⟩,dpeel fun b9 l10 n11 h9=> ?_⟩
    rw [e]
    exact avD_of h9
   |false=>
    have e:Dy.stepD (Dy.Dyd.mk b l k) true false neg u=Dy.subD (Dy.Dyd.mk b l k) (Dy.unitOf u):=by unfold Dy.stepD;rw [if_pos hb,if_neg (by decide)]
    rw [e] at hf
    refine cond_f rfl ⟨⟨hc,hum,hf⟩,dpeel fun b9 l10 n11 h9=> ?_⟩
    rw [e]
    exact avD_of h9
theorem ok_span_end (args:List AV) (s:Spec) (h:sEndS args=some s) (hp:andO s.pre True):Contract Tryz.prog Inv 177 args s.res:=by
 unfold sEndS at h
 split at h
 ·cases h
  obtain ⟨⟨hm,h1,h2⟩, -⟩:=hp
  refine contract0 false ok_tabR0 Tryz.func177 (by kernel_rfl) (by kernel_rfl) fun hok=> ?_
  have ht:=Dy.top_mid hm
  rw [vc_span_end,Dy.cutD_eq hm ⟨h1,h2⟩,if_pos hm.1,wrap_i64 (by omega) (by omega)]
  refine dpeel fun b l k hd=> ?_
  rintro _ rfl _ -
  exact step_tail hd (Dy.cut_may hm h1) (by omega) (Dy.end_fit (Dy.mid_fit hm) ⟨h1,h2⟩ (by decide) _).may
 ·cases h
theorem ok_span_quo (args:List AV) (s:Spec) (h:sQuoS args=some s) (hp:andO s.pre True):Contract Tryz.prog Inv 153 args s.res:=by
 unfold sQuoS at h
 split at h
 ·cases h
  rename_i high
  obtain ⟨⟨hm,hm',h0,l1,l2,h1,h2,hs⟩, -⟩:=hp
  refine contract0 false ok_tabR0 Tryz.func153 (by kernel_rfl) (by kernel_rfl) fun hok=> ?_
  have hq:=Dy.quoF_fit (Dy.mid_fit hm) (Dy.mid_fit hm') ⟨h1,h2⟩ (by decide)
  have ht:=Dy.top_fit hq
  rw [vc_span_quo,Dy.quoD_fit (Dy.mid_fit hm) (Dy.mid_fit hm') h0 ⟨h1,h2⟩ (by decide)]
  refine ⟨⟨l1,l2⟩,dpeel fun b l k hd=> ?_⟩
  rintro _ rfl _ -
  change Dy.Dyd.mk b l k=(Dy.quoF _ _ _).1 at hd
  rw [←hd] at hq ht
  rw [if_pos hq.may,wrap_i64 (by omega) (by omega)]
  have hf:=(Dy.quo_fit (Dy.mid_fit hm) (Dy.mid_fit hm') hs h0 ⟨h1,h2⟩ (by decide) high).may
  unfold Dy.quoE at hf ⊢
  rw [←hd] at hf ⊢
  exact step_tail rfl hq.may (by omega) hf
 ·cases h
theorem ok_tabR1:PhiOk Tryz.prog Inv (look tabR1):=look_cons (look_cons ok_tabR0 ok_span_quo) ok_span_end
theorem ok_span_out (args:List AV) (s:Spec) (h:sOutS args=some s) (hp:andO s.pre True):Contract Tryz.prog Inv 139 args s.res:=by
 unfold sOutS at h
 split at h
 ·cases h
  obtain ⟨⟨hm,hm',h1,h2⟩, -⟩:=hp
  refine contract0 false ok_tabR1 Tryz.func139 (by kernel_rfl) (by kernel_rfl) fun hok=> ?_
  rw [vc_span_out]
  refine ⟨⟨hm,h1,h2⟩,dpeel fun b l k hd=>⟨⟨hm',h1,h2⟩,dpeel fun b' l' k' hd'=> ?_⟩⟩
  exact avS_of hd hd'
 ·cases h
theorem ok_span_Sign (args:List AV) (s:Spec) (h:sSignSp args=some s) (hp:andO s.pre True):Contract Tryz.prog Inv 191 args s.res:=by
 unfold sSignSp at h
 split at h
 ·cases h
  obtain ⟨⟨p1,p2⟩, -⟩:=hp
  refine contract0 false ok_tabR1 Tryz.func191 (by kernel_rfl) (by kernel_rfl) fun hok=> ?_
  rw [vc_span_Sign,if_pos p1,if_pos p2]
  unfold Dy.signS
  refine cond_i (fun h=> ?_) (fun h=> ?_)
  ·rw [if_pos (of_decide_eq_true h)]
  ·rw [if_neg (of_decide_eq_false h)]
 ·cases h
theorem ok_span_Neg (args:List AV) (s:Spec) (h:sNegS args=some s) (hp:andO s.pre True):Contract Tryz.prog Inv 81 args s.res:=by
 unfold sNegS at h
 split at h
 ·cases h
  obtain ⟨⟨p1,p2⟩, -⟩:=hp
  refine contract0 false ok_tabR1 Tryz.func81 (by kernel_rfl) (by kernel_rfl) fun hok=> ?_
  rw [vc_span_Neg,p1,p2]
  refine dpeel fun b l k hd=> ?_
  rintro _ -
  refine dpeel fun b' l' k' hd'=> ?_
  rintro _ -
  exact avS_of hd hd'
 ·cases h
theorem shiftD_mid {d:Dy.Dyd} (h:Dy.mid d) {k:Int} (hk: -1000000≤k∧k≤1000000):Dy.shiftD d k=(Dy.shD d k,0):=by
 unfold Dy.shiftD Dy.shD
 obtain ⟨h0,h1,h2⟩:=h
 rw [if_pos h0]
 by_cases c:d.mag=[]
 ·rw [if_pos c,if_pos c]
 ·rw [if_neg c,if_neg c,if_pos (Dy.inside_iff.2 (by omega))]
theorem ok_span_Scale (args:List AV) (s:Spec) (h:sScaleS args=some s) (hp:andO s.pre True):Contract Tryz.prog Inv 83 args s.res:=by
 unfold sScaleS at h
 split at h
 ·cases h
  obtain ⟨⟨p1,p2,k1,k2⟩, -⟩:=hp
  refine contract0 false ok_tabR1 Tryz.func83 (by kernel_rfl) (by kernel_rfl) fun hok=> ?_
  rw [vc_span_Scale,shiftD_mid p1 ⟨k1,k2⟩,shiftD_mid p2 ⟨k1,k2⟩]
  refine dpeel fun b l k hd=> ?_
  rintro _ -
  refine dpeel fun b' l' k' hd'=> ?_
  rintro _ -
  exact avS_of hd hd'
 ·cases h
end Go.AI

namespace Go.AI
open Dy IntKind
open Go Go.RowKit Go.Proofs
set_option linter.unusedVariables false
set_option maxRecDepth 100000
set_option maxHeartbeats 0
end Go.AI

namespace Go.Dy
end Go.Dy
namespace Go.AI
open Go Go.RowKit Go.Proofs
set_option linter.unusedVariables false
set_option maxRecDepth 100000
set_option maxHeartbeats 1000000
end Go.AI

namespace Go.Dy
end Go.Dy

namespace Go.Dy
open Go Go.RowKit
set_option maxRecDepth 100000
def serK (nn:Nat):Nat→Nat→Nat→Nat→Nat→Nat×Nat×Nat
 |0,_,k,p,m=>(k,p,m)
 |f+1,pw,k,p,m=>
  match pw with
  |0=>(k,p,m)
  |q+1=>
   match p+(q+1)/k with
   |0=>(k,0,m)
   |p'+1=>serK nn f ((q+1)/nn) (k+2) m (p'+1)
def serE (x:Nat×Nat×Nat):Int:=if x.1%4=1 then (x.2.1:Int)-x.2.2 else (x.2.2:Int)-x.2.1
def serV (b n f:Nat):Int:=serE (serK (n*n) f (2^b/n) 1 0 0)
def prec:Nat:=13000
def piN:Int:=16*serV prec 5 4000-4*serV prec 239 2000
end Go.Dy

namespace Go.Dy
open Go Go.RowKit
set_option maxRecDepth 100000
end Go.Dy

namespace Go.Dy
open Go Go.RowKit
set_option maxRecDepth 100000
end Go.Dy

namespace Go.Dy
end Go.Dy

namespace Go.Dy
end Go.Dy
namespace Go.AI
open Go Go.RowKit Go.Proofs
set_option linter.unusedVariables false
set_option maxRecDepth 100000
set_option maxHeartbeats 1000000
theorem ok_tabR2:PhiOk Tryz.prog Inv (look tabR2):=
 look_cons (look_cons (look_cons (look_cons (ok_tabR1) ok_span_Scale) ok_span_Neg) ok_span_Sign) ok_span_out
end Go.AI

namespace Go.AI
open Go Go.RowKit Go.Proofs
set_option linter.unusedVariables false
set_option maxRecDepth 100000
set_option maxHeartbeats 1000000
def mmX (n:Int) (R:AV):List Dy.Dyd→Dy.Dyd→Dy.Dyd→Prop
 |[],lo,hi=>(Dy.mid lo∧Dy.mid hi∧1≤n∧n≤8192)∧dyF (Dy.endD lo n false) fun b l k=>dyF (Dy.endD hi n true) fun b' l' k'=>AV.agg [.bool b,.dig [0] l,.num .i64 k,.bool b',.dig [0] l',.num .i64 k']=R
 |d::r,lo,hi=>(Dy.mayD d=true∧Dy.mayD lo=true)∧
  bif decide (Dy.cmpD d lo<0) then (Dy.mayD hi=true∧Dy.mayD d=true)∧bif decide (Dy.cmpD hi d<0) then mmX n R r d d else mmX n R r d hi
  else (Dy.mayD hi=true∧Dy.mayD d=true)∧bif decide (Dy.cmpD hi d<0) then mmX n R r lo d else mmX n R r lo hi
theorem mmX_ok {n:Int} (h1:1≤n) (h2:n≤8192):∀(r:List Dy.Dyd) (lo hi:Dy.Dyd) (R:AV),(∀d ∈ r,Dy.mid d)→Dy.mid lo→Dy.mid hi→avS [0] (Dy.endD (r.foldl Dy.minD lo) n false) (Dy.endD (r.foldl Dy.maxD hi) n true)=R→mmX n R r lo hi
 |[],lo,hi,R,_,m1,m2,hR=>⟨⟨m1,m2,h1,h2⟩,dpeel fun b3 l3 k3 d3=>dpeel fun b4 l4 k4 d4=>(avS_of d3 d4).trans hR⟩
 |d::r,lo,hi,R,hr,m1,m2,hR=>by
  have md:=hr d (by simp)
  have hr':∀x ∈ r,Dy.mid x:=fun x hx=>hr x (by simp [hx])
  refine ⟨⟨md.1,m1.1⟩,cond_i (fun c=>⟨⟨m2.1,md.1⟩,cond_i (fun c'=> ?_) (fun c'=> ?_)⟩) (fun c=>⟨⟨m2.1,md.1⟩,cond_i (fun c'=> ?_) (fun c'=> ?_)⟩)⟩
  ·refine mmX_ok h1 h2 r d d R hr' md md ?_
   rw [←hR,List.foldl_cons,List.foldl_cons]
   have e1:Dy.minD lo d=d:=if_pos (of_decide_eq_true c)
   have e2:Dy.maxD hi d=d:=if_pos (of_decide_eq_true c')
   rw [e1,e2]
  ·refine mmX_ok h1 h2 r d hi R hr' md m2 ?_
   rw [←hR,List.foldl_cons,List.foldl_cons]
   have e1:Dy.minD lo d=d:=if_pos (of_decide_eq_true c)
   have e2:Dy.maxD hi d=hi:=if_neg (of_decide_eq_false c')
   rw [e1,e2]
  ·refine mmX_ok h1 h2 r lo d R hr' m1 md ?_
   rw [←hR,List.foldl_cons,List.foldl_cons]
   have e1:Dy.minD lo d=lo:=if_neg (of_decide_eq_false c)
   have e2:Dy.maxD hi d=d:=if_pos (of_decide_eq_true c')
   rw [e1,e2]
  ·refine mmX_ok h1 h2 r lo hi R hr' m1 m2 ?_
   rw [←hR,List.foldl_cons,List.foldl_cons]
   have e1:Dy.minD lo d=lo:=if_neg (of_decide_eq_false c)
   have e2:Dy.maxD hi d=hi:=if_neg (of_decide_eq_false c')
   rw [e1,e2]
theorem ok_span_Mul (args:List AV) (s:Spec) (h:sMulSp args=some s) (hp:andO s.pre True):Contract Tryz.prog Inv 75 args s.res:=by
 unfold sMulSp at h
 split at h
 ·cases h
  rename_i n s m e s' m' e' t l f t' l' f'
  obtain ⟨⟨p1,p2,p3,p4,p5,p6,p7,p8,h1,h2⟩, -⟩:=hp
  refine contract_at false 78 (lam [(6,.unroll 4)]) ok_tabR2 Tryz.func75 (by kernel_rfl) rfl (loops1u (k:=4) (by kernel_rfl) (by kernel_rfl)) fun hok=> ?_
  have slow:∀{R:AV},avS [0] (Dy.endD (Dy.min4 (Dy.mulD ⟨s,m,e⟩ ⟨t,l,f⟩) (Dy.mulD ⟨s,m,e⟩ ⟨t',l',f'⟩) (Dy.mulD ⟨s',m',e'⟩ ⟨t,l,f⟩) (Dy.mulD ⟨s',m',e'⟩ ⟨t',l',f'⟩)) n false)
    (Dy.endD (Dy.max4 (Dy.mulD ⟨s,m,e⟩ ⟨t,l,f⟩) (Dy.mulD ⟨s,m,e⟩ ⟨t',l',f'⟩) (Dy.mulD ⟨s',m',e'⟩ ⟨t,l,f⟩) (Dy.mulD ⟨s',m',e'⟩ ⟨t',l',f'⟩)) n true)=R→
    (Dy.mayD ⟨s,m,e⟩=true∧Dy.mayD ⟨t,l,f⟩=true∧Dy.mayD (Dy.mulD ⟨s,m,e⟩ ⟨t,l,f⟩)=true)∧dyF (Dy.mulD ⟨s,m,e⟩ ⟨t,l,f⟩) fun b1 l1 k1=>
    (Dy.mayD ⟨s,m,e⟩=true∧Dy.mayD ⟨t',l',f'⟩=true∧Dy.mayD (Dy.mulD ⟨s,m,e⟩ ⟨t',l',f'⟩)=true)∧dyF (Dy.mulD ⟨s,m,e⟩ ⟨t',l',f'⟩) fun b2 l2 k2=>
    (Dy.mayD ⟨s',m',e'⟩=true∧Dy.mayD ⟨t,l,f⟩=true∧Dy.mayD (Dy.mulD ⟨s',m',e'⟩ ⟨t,l,f⟩)=true)∧dyF (Dy.mulD ⟨s',m',e'⟩ ⟨t,l,f⟩) fun b3 l3 k3=>
    (Dy.mayD ⟨s',m',e'⟩=true∧Dy.mayD ⟨t',l',f'⟩=true∧Dy.mayD (Dy.mulD ⟨s',m',e'⟩ ⟨t',l',f'⟩)=true)∧dyF (Dy.mulD ⟨s',m',e'⟩ ⟨t',l',f'⟩) fun b4 l4 k4=>
    mmX n R [⟨b2,l2,k2⟩,⟨b3,l3,k3⟩,⟨b4,l4,k4⟩] ⟨b1,l1,k1⟩ ⟨b1,l1,k1⟩:=by
   intro R hR
   refine ⟨⟨p1,p3,p5.1⟩,dpeel fun b1 l1 k1 d1=>⟨⟨p1,p4,p6.1⟩,dpeel fun b2 l2 k2 d2=>⟨⟨p2,p3,p7.1⟩,dpeel fun b3 l3 k3 d3=>⟨⟨p2,p4,p8.1⟩,dpeel fun b4 l4 k4 d4=> ?_⟩⟩⟩⟩
   rw [d1,d2,d3,d4]
   refine mmX_ok h1 h2 _ _ _ _ (fun d hd=> ?_) p5 p5 hR
   simp only [List.mem_cons,List.mem_nil_iff,or_false] at hd
   rcases hd with rfl|rfl|rfl
   ·exact p6
   ·exact p7
   ·exact p8
  rw [vc_span_Mul]
  cases s with
  |true=>exact cond_f rfl (slow rfl)
  |false=>
   cases t with
   |true=>exact cond_t rfl (cond_f rfl (slow rfl))
   |false=>
    refine cond_t rfl (cond_t rfl ⟨⟨p1,p3,p5.1⟩,dpeel fun b1 l1 k1 d1=>⟨⟨p2,p4,p8.1⟩,dpeel fun b2 l2 k2 d2=> ?_⟩⟩)
    rw [d1,d2]
    exact ⟨⟨p5,p8,h1,h2⟩,dpeel fun b3 l3 k3 d3=>dpeel fun b4 l4 k4 d4=>avS_of d3 d4⟩
 ·cases h
theorem ok_span_Div (args:List AV) (s:Spec) (h:sDivSp args=some s) (hp:andO s.pre True):Contract Tryz.prog Inv 84 args s.res:=by
 unfold sDivSp at h
 split at h
 ·cases h
  rename_i n s m e s' m' e' t l f t' l' f'
  obtain ⟨⟨p1,p2,p3,p4,ht,ht',l0,l0',n1,n2,n3,n4,h1,h2⟩, -⟩:=hp
  refine contract0 false ok_tabR2 Tryz.func84 (by kernel_rfl) (by kernel_rfl) fun hok=> ?_
  rw [vc_span_Div]
  refine cond_f ht' ?_
  cases s<;>cases s'
  ·exact cond_f rfl (cond_f rfl ⟨⟨p1,p4,l0',n1,n4,h1,h2,ht'⟩,dpeel fun b3 l3 k3 d3=>⟨⟨p2,p3,l0,n2,n3,h1,h2,ht⟩,dpeel fun b4 l4 k4 d4=>avS_of d3 d4⟩⟩)
  ·exact cond_f rfl (cond_t rfl ⟨⟨p1,p4,l0',n1,n4,h1,h2,ht'⟩,dpeel fun b3 l3 k3 d3=>⟨⟨p2,p4,l0',n2,n4,h1,h2,ht'⟩,dpeel fun b4 l4 k4 d4=>avS_of d3 d4⟩⟩)
  ·exact cond_t rfl (cond_f rfl ⟨⟨p1,p3,l0,n1,n3,h1,h2,ht⟩,dpeel fun b3 l3 k3 d3=>⟨⟨p2,p3,l0,n2,n3,h1,h2,ht⟩,dpeel fun b4 l4 k4 d4=>avS_of d3 d4⟩⟩)
  ·exact cond_t rfl (cond_t rfl ⟨⟨p1,p3,l0,n1,n3,h1,h2,ht⟩,dpeel fun b3 l3 k3 d3=>⟨⟨p2,p4,l0',n2,n4,h1,h2,ht'⟩,dpeel fun b4 l4 k4 d4=>avS_of d3 d4⟩⟩)
 ·cases h
theorem ok_span_Cut (args:List AV) (s:Spec) (h:sCutSp args=some s) (hp:andO s.pre True):Contract Tryz.prog Inv 154 args s.res:=by
 unfold sCutSp at h
 split at h
 ·cases h
  rename_i s m e s' m' e' b
  obtain ⟨⟨p1,p2,h1,h2⟩, -⟩:=hp
  refine contract0 false ok_tabR2 Tryz.func154 (by kernel_rfl) (by kernel_rfl) fun hok=> ?_
  rw [vc_span_Cut]
  refine ⟨⟨p1.1,p2.1⟩,?_⟩
  refine cond_i (fun h=> ?_) (fun h=> ?_)
  ·rw [h]
   rfl
  ·rw [h,Dy.cutD_eq p1 ⟨h1,h2⟩,Dy.cutD_eq p2 ⟨h1,h2⟩]
   refine dpeel fun b1 l1 k1 d1=> ?_
   rintro _-_ -
   refine dpeel fun b2 l2 k2 d2=> ?_
   rintro _-_ -
   have q1:Dy.mayD (Dy.Dyd.mk b1 l1 k1)=true:=by rw [d1];exact Dy.cut_may p1 h1
   have q2:Dy.mayD (Dy.Dyd.mk b2 l2 k2)=true:=by rw [d2];exact Dy.cut_may p2 h1
   rw [q1,q2]
   rintro _ rfl _ -
   rw [avD_of d1,d1,d2]
   rfl
 ·cases h
theorem ok_tabR3:PhiOk Tryz.prog Inv (look tabR3):=look_cons (look_cons (look_cons ok_tabR2 ok_span_Cut) ok_span_Div) ok_span_Mul
end Go.AI

namespace Go.AI
open Go Go.RowKit Go.Proofs
set_option linter.unusedVariables false
set_option maxHeartbeats 4000000 in
set_option maxRecDepth 100000 in
theorem len64_0 (x:Int) (w:World) (h0:0≤x) (h1:x<18446744073709551616) (c0:x<4294967296) (c1:x<65536) (c2:x<256):
  Calls Tryz.prog 175 #[.int .u64 x] w fun e w'=>e= .returned (.int .i64 (Lib.bitLen x.toNat))∧w'=w:=by
 have k1:x≤255:=by omega
 have k0:0≤x:=by omega
 go_enter Tryz.func175,Tryz.ntmps175
 go_wp2
 go_ret
 refine ⟨congrArg Ending.returned (congrArg (Value.int IntKind.i64) ?_),rfl⟩
 rw [Lib.len8_of (x) k0 k1]
 have l:=Lib.bitLen_le8' (x) k0 k1
 clear h0 h1 k0 k1 c0 c1 c2
 generalize Lib.bitLen x.toNat=b at*
 unfold wrap64
 omega
set_option maxHeartbeats 4000000 in
set_option maxRecDepth 100000 in
theorem len64_1 (x:Int) (w:World) (h0:0≤x) (h1:x<18446744073709551616) (c0:x<4294967296) (c1:x<65536) (c2:256≤x):
  Calls Tryz.prog 175 #[.int .u64 x] w fun e w'=>e= .returned (.int .i64 (Lib.bitLen x.toNat))∧w'=w:=by
 have k1:x/256≤255:=by omega
 have k0:0≤x/256:=by omega
 go_enter Tryz.func175,Tryz.ntmps175
 go_wp2
 go_ret
 refine ⟨congrArg Ending.returned (congrArg (Value.int IntKind.i64) ?_),rfl⟩
 rw [Lib.len8_of (x/256) k0 k1]
 have l:=Lib.bitLen_le8' (x/256) k0 k1
 have e:(x/256).toNat=x.toNat/256:=by omega
 have s:=Lib.bitLen_shift8 x.toNat (by omega) (by omega)
 rw [e] at l ⊢
 rw [s]
 clear s e h0 h1 k0 k1 c0 c1 c2
 generalize Lib.bitLen (x.toNat/256)=b at*
 unfold wrap64
 omega
set_option maxHeartbeats 4000000 in
set_option maxRecDepth 100000 in
theorem len64_2 (x:Int) (w:World) (h0:0≤x) (h1:x<18446744073709551616) (c0:x<4294967296) (c1:65536≤x) (c2:x/65536<256):
  Calls Tryz.prog 175 #[.int .u64 x] w fun e w'=>e= .returned (.int .i64 (Lib.bitLen x.toNat))∧w'=w:=by
 have k1:x/65536≤255:=by omega
 have k0:0≤x/65536:=by omega
 go_enter Tryz.func175,Tryz.ntmps175
 go_wp2
 go_ret
 refine ⟨congrArg Ending.returned (congrArg (Value.int IntKind.i64) ?_),rfl⟩
 rw [Lib.len8_of (x/65536) k0 k1]
 have l:=Lib.bitLen_le8' (x/65536) k0 k1
 have e:(x/65536).toNat=x.toNat/65536:=by omega
 have s:=Lib.bitLen_shift16 x.toNat (by omega) (by omega)
 rw [e] at l ⊢
 rw [s]
 clear s e h0 h1 k0 k1 c0 c1 c2
 generalize Lib.bitLen (x.toNat/65536)=b at*
 unfold wrap64
 omega
set_option maxHeartbeats 4000000 in
set_option maxRecDepth 100000 in
theorem len64_3 (x:Int) (w:World) (h0:0≤x) (h1:x<18446744073709551616) (c0:x<4294967296) (c1:65536≤x) (c2:256≤x/65536):
  Calls Tryz.prog 175 #[.int .u64 x] w fun e w'=>e= .returned (.int .i64 (Lib.bitLen x.toNat))∧w'=w:=by
 have k1:x/65536/256≤255:=by omega
 have k0:0≤x/65536/256:=by omega
 go_enter Tryz.func175,Tryz.ntmps175
 go_wp2
 go_ret
 refine ⟨congrArg Ending.returned (congrArg (Value.int IntKind.i64) ?_),rfl⟩
 rw [Lib.len8_of (x/65536/256) k0 k1]
 have l:=Lib.bitLen_le8' (x/65536/256) k0 k1
 have e:(x/65536/256).toNat=x.toNat/16777216:=by omega
 have s:=Lib.bitLen_shift24 x.toNat (by omega) (by omega)
 rw [e] at l ⊢
 rw [s]
 clear s e h0 h1 k0 k1 c0 c1 c2
 generalize Lib.bitLen (x.toNat/16777216)=b at*
 unfold wrap64
 omega
set_option maxHeartbeats 4000000 in
set_option maxRecDepth 100000 in
theorem len64_4 (x:Int) (w:World) (h0:0≤x) (h1:x<18446744073709551616) (c0:4294967296≤x) (c1:x/4294967296<65536) (c2:x/4294967296<256):
  Calls Tryz.prog 175 #[.int .u64 x] w fun e w'=>e= .returned (.int .i64 (Lib.bitLen x.toNat))∧w'=w:=by
 have k1:x/4294967296≤255:=by omega
 have k0:0≤x/4294967296:=by omega
 go_enter Tryz.func175,Tryz.ntmps175
 go_wp2
 go_ret
 refine ⟨congrArg Ending.returned (congrArg (Value.int IntKind.i64) ?_),rfl⟩
 rw [Lib.len8_of (x/4294967296) k0 k1]
 have l:=Lib.bitLen_le8' (x/4294967296) k0 k1
 have e:(x/4294967296).toNat=x.toNat/4294967296:=by omega
 have s:=Lib.bitLen_shift32 x.toNat (by omega) (by omega)
 rw [e] at l ⊢
 rw [s]
 clear s e h0 h1 k0 k1 c0 c1 c2
 generalize Lib.bitLen (x.toNat/4294967296)=b at*
 unfold wrap64
 omega
set_option maxHeartbeats 4000000 in
set_option maxRecDepth 100000 in
theorem len64_5 (x:Int) (w:World) (h0:0≤x) (h1:x<18446744073709551616) (c0:4294967296≤x) (c1:x/4294967296<65536) (c2:256≤x/4294967296):
  Calls Tryz.prog 175 #[.int .u64 x] w fun e w'=>e= .returned (.int .i64 (Lib.bitLen x.toNat))∧w'=w:=by
 have k1:x/4294967296/256≤255:=by omega
 have k0:0≤x/4294967296/256:=by omega
 go_enter Tryz.func175,Tryz.ntmps175
 go_wp2
 go_ret
 refine ⟨congrArg Ending.returned (congrArg (Value.int IntKind.i64) ?_),rfl⟩
 rw [Lib.len8_of (x/4294967296/256) k0 k1]
 have l:=Lib.bitLen_le8' (x/4294967296/256) k0 k1
 have e:(x/4294967296/256).toNat=x.toNat/1099511627776:=by omega
 have s:=Lib.bitLen_shift40 x.toNat (by omega) (by omega)
 rw [e] at l ⊢
 rw [s]
 clear s e h0 h1 k0 k1 c0 c1 c2
 generalize Lib.bitLen (x.toNat/1099511627776)=b at*
 unfold wrap64
 omega
set_option maxHeartbeats 4000000 in
set_option maxRecDepth 100000 in
theorem len64_6 (x:Int) (w:World) (h0:0≤x) (h1:x<18446744073709551616) (c0:4294967296≤x) (c1:65536≤x/4294967296) (c2:x/4294967296/65536<256):
  Calls Tryz.prog 175 #[.int .u64 x] w fun e w'=>e= .returned (.int .i64 (Lib.bitLen x.toNat))∧w'=w:=by
 have k1:x/4294967296/65536≤255:=by omega
 have k0:0≤x/4294967296/65536:=by omega
 go_enter Tryz.func175,Tryz.ntmps175
 go_wp2
 go_ret
 refine ⟨congrArg Ending.returned (congrArg (Value.int IntKind.i64) ?_),rfl⟩
 rw [Lib.len8_of (x/4294967296/65536) k0 k1]
 have l:=Lib.bitLen_le8' (x/4294967296/65536) k0 k1
 have e:(x/4294967296/65536).toNat=x.toNat/281474976710656:=by omega
 have s:=Lib.bitLen_shift48 x.toNat (by omega) (by omega)
 rw [e] at l ⊢
 rw [s]
 clear s e h0 h1 k0 k1 c0 c1 c2
 generalize Lib.bitLen (x.toNat/281474976710656)=b at*
 unfold wrap64
 omega
set_option maxHeartbeats 4000000 in
set_option maxRecDepth 100000 in
theorem len64_7 (x:Int) (w:World) (h0:0≤x) (h1:x<18446744073709551616) (c0:4294967296≤x) (c1:65536≤x/4294967296) (c2:256≤x/4294967296/65536):
  Calls Tryz.prog 175 #[.int .u64 x] w fun e w'=>e= .returned (.int .i64 (Lib.bitLen x.toNat))∧w'=w:=by
 have k1:x/4294967296/65536/256≤255:=by omega
 have k0:0≤x/4294967296/65536/256:=by omega
 go_enter Tryz.func175,Tryz.ntmps175
 go_wp2
 go_ret
 refine ⟨congrArg Ending.returned (congrArg (Value.int IntKind.i64) ?_),rfl⟩
 rw [Lib.len8_of (x/4294967296/65536/256) k0 k1]
 have l:=Lib.bitLen_le8' (x/4294967296/65536/256) k0 k1
 have e:(x/4294967296/65536/256).toNat=x.toNat/72057594037927936:=by omega
 have s:=Lib.bitLen_shift56 x.toNat (by omega) (by omega)
 rw [e] at l ⊢
 rw [s]
 clear s e h0 h1 k0 k1 c0 c1 c2
 generalize Lib.bitLen (x.toNat/72057594037927936)=b at*
 unfold wrap64
 omega
end Go.AI

namespace Go.AI
open Go Go.RowKit Go.Proofs
set_option linter.unusedVariables false
theorem bits_Len64 (x:Int) (w:World) (h0:0≤x) (h1:x<18446744073709551616):
  Calls Tryz.prog 175 #[.int .u64 x] w fun e w'=>e= .returned (.int .i64 (Lib.bitLen x.toNat))∧w'=w:=by
 rcases Int.lt_or_le x 4294967296 with c0|c0
 ·rcases Int.lt_or_le x 65536 with c1|c1
  ·rcases Int.lt_or_le x 256 with c2|c2
   ·exact len64_0 x w h0 h1 c0 c1 c2
   ·exact len64_1 x w h0 h1 c0 c1 c2
  ·rcases Int.lt_or_le (x/65536) 256 with c2|c2
   ·exact len64_2 x w h0 h1 c0 c1 c2
   ·exact len64_3 x w h0 h1 c0 c1 c2
 ·rcases Int.lt_or_le (x/4294967296) 65536 with c1|c1
  ·rcases Int.lt_or_le (x/4294967296) 256 with c2|c2
   ·exact len64_4 x w h0 h1 c0 c1 c2
   ·exact len64_5 x w h0 h1 c0 c1 c2
  ·rcases Int.lt_or_le (x/4294967296/65536) 256 with c2|c2
   ·exact len64_6 x w h0 h1 c0 c1 c2
   ·exact len64_7 x w h0 h1 c0 c1 c2
theorem u64_max:IntKind.u64.max=18446744073709551615:=by simp [IntKind.max,IntKind.bits,IntKind.signed]
theorem u64_min:IntKind.u64.min=0:=rfl
theorem u64_range {x:Int} (h:IntKind.u64.min≤x∧x≤IntKind.u64.max):0≤x∧x<18446744073709551616:=by
 rw [u64_max,u64_min] at h
 omega
theorem u64_nat {x:Int} (h:0≤x∧x<18446744073709551616):x.toNat<2^64:=by omega
def sLen64:List AV→Option Spec
 |[.num .u64 x]=>some ⟨none,.num .i64 (Dy.bl x.toNat)⟩
 |_=>none
theorem okLen64 (args:List AV) (s:Spec) (h:sLen64 args=some s) (hp:andO s.pre True):Contract Tryz.prog Inv 175 args s.res:=by
 unfold sLen64 at h
 split at h
 ·cases h
  rename_i x
  refine contract_num1 (fun cs w=>Tryz.call175 cs w) fun w hI hr=> ?_
  have hr':=u64_range hr
  have hb:=Dy.bitLen_eq (x:=x.toNat) (u64_nat hr')
  have hl:=Lib.bitLen_le x.toNat 64 (Nat.le_refl _) (u64_nat hr')
  rw [hb] at hl
  have hc:=bits_Len64 x w hr'.1 hr'.2
  rw [hb] at hc
  generalize Dy.bl x.toNat=b at*
  refine ⟨?_,hc⟩
  simp [IntKind.min,IntKind.max,IntKind.bits,IntKind.signed]
  omega
 ·cases h
end Go.AI

namespace Go.Dy
end Go.Dy
namespace Go.AI
open Go Go.RowKit Go.Proofs
set_option linter.unusedVariables false
end Go.AI

namespace Go.Dy
theorem pow_cast (k:Nat):((2^k:Nat):Int)=(2:Int)^k:=by simp
end Go.Dy

namespace Go.Dy
theorem endD_self {d:Dyd} (h:mayD d=true) {n:Nat} (hn:1≤n) (hb:bl (val d.mag)≤n) (high:Bool):endD d n high=d:=by
 conv=>lhs;rw [self_formZ h]
 rw [endD_formZ _ _ _ (by omega),int_bl,show ((bl (val d.mag):Int)-n).toNat=0 by omega,Int.pow_zero,rndQ_one]
 conv=>rhs;rw [self_formZ h]
 congr 1
 omega
end Go.Dy

namespace Go.Dy
open Go Go.RowKit
set_option maxRecDepth 100000
structure Wit where
 g:Nat
 kb:Nat
 p:Nat
 q:Nat
 c:Nat
def Wit.ok (w:Wit):Bool:=decide (Nat.gcd w.p w.q=1)&&(decide (2*2^w.kb≤w.q)&&(decide (w.q<2^(w.kb+w.c))&&decide (2*2^w.kb*(piN*2^w.g*w.q-w.p*(2^(prec+1):Nat)).natAbs≤2^(prec+1))))
end Go.Dy

namespace Go.Dy
end Go.Dy
