/- My texts AIrnd3, AIspecJ, AIspecL, AVdoc, AIdoc, AIspecN, in one. -/
import Derived.Test.YtogikmlfkhofoaaGreatDoorK19
open Int renaming eq_ofNat_of_zero_le→C4,toNat_natCast→A2
open Nat renaming add_zero→I4,le_trans→D9,mod_eq_of_lt→F9,pow_le_pow_right→B3,two_pow_pos→A9,zero_add→N9,zero_mul→R2
namespace Go.Dy
set_option maxRecDepth 100000
theorem UT {m:Int} {d:Dyd} (hd:A5 d=true) (h0:d.mag≠[]) {E:Int} (he:C7 d-63≤E):OG m d E=form d.neg (H4 (I9 d) m d.neg E).1 E∧((H4 (I9 d) m d.neg E).2=true ↔ d=form d.neg (H4 (I9 d) m d.neg E).1 E):=by
 have h:=B6e h0 hd (m:=m) (neg:=d.neg) (u:=min d.exp E) he (by omega) (by omega) rfl rfl
 rw [h]
 refine ⟨rfl,?_⟩
 simp only [decide_eq_true_eq]
 have hx:d=C8 (sgn d.neg (val d.mag*2^(d.exp-min d.exp E).toNat)) (min d.exp E):=by
  have e9:=BK hd (u:=min d.exp E) (by omega)
  rw [show at_ d (min d.exp E)=sgn d.neg (val d.mag*2^(d.exp-min d.exp E).toNat) from j6 d.neg d.mag d.exp _] at e9
  exact e9.symm
 generalize hS:val d.mag*2^(d.exp-min d.exp E).toNat=S at*
 have hE:∀n:Nat,form d.neg n E=C8 (sgn d.neg (n*2^(E-min d.exp E).toNat)) (min d.exp E):=fun n=>by
  rw [←W2,EW]
  congr 1
  omega
 have hp:=A9 (E-min d.exp E).toNat
 rw [hE]
 generalize 2^(E-min d.exp E).toNat=U at*
 have hinj:∀x y:Nat,sgn d.neg x=sgn d.neg y ↔ x=y:=fun x y=>by
  unfold sgn
  split<;>omega
 constructor
 ·intro c
  rw [XT c,Nat.div_mul_cancel (Nat.dvd_of_mod_eq_zero c)]
  exact hx
 ·intro c
  have c:=(hinj _ _).1 (VX.1 (hx.symm.trans c))
  rw [c]
  exact Nat.mul_mod_left _ _
end Go.Dy
namespace Go.AI
open Go Go.RowKit Go.Proofs
set_option linter.unusedVariables false
set_option maxRecDepth 100000
set_option maxHeartbeats 1000000
theorem C5x (args:List AV) (s:Spec) (h:iInf args=some s) (hp:C6 s.pre True):Contract Tryz.prog Inv 92 args s.res:=by
 unfold iInf at h
 split at h
 ·cases h
  rename_i f neg
  obtain ⟨hf, -⟩:=hp
  refine A4 false FF Tryz.func92 (by kernel_rfl) (by kernel_rfl) fun hok=> ?_
  rw [C6p]
  refine ⟨⟨hf,by omega,by omega,by decide,by have:=A9 (Dy.A6 f);omega⟩,?_⟩
  rw [A2,I4]
  rfl
 ·cases h
theorem C0f (args:List AV) (s:Spec) (h:C85 args=some s) (hp:C6 s.pre True):Contract Tryz.prog Inv 93 args s.res:=by
 unfold C85 at h
 split at h
 ·cases h
  rename_i f
  obtain ⟨hf, -⟩:=hp
  refine A4 false FF Tryz.func93 (by kernel_rfl) (by kernel_rfl) fun hok=> ?_
  rw [C2r]
  rcases hf with rfl|rfl
  ·exact ⟨by decide,⟨.inl rfl,by decide,by decide,by decide,by decide⟩,congrArg (AV.num .u64) (by decide)⟩
  ·exact ⟨by decide,⟨.inr rfl,by decide,by decide,by decide,by decide⟩,congrArg (AV.num .u64) (by decide)⟩
 ·cases h
theorem B41 (args:List AV) (s:Spec) (h:B95 args=some s) (hp:C6 s.pre True):Contract Tryz.prog Inv 14 args s.res:=by
 unfold B95 at h
 split at h
 ·cases h
  rename_i f w
  obtain ⟨⟨p,c⟩, -⟩:=hp
  have hf:=(Dy.r9 p).1
  refine A4 false FF Tryz.func14 (by kernel_rfl) (by kernel_rfl) fun hok=> ?_
  rw [B77]
  have hFr:Dy.wFr f w.toNat<2^Dy.A6 f:=Nat.mod_lt _ (A9 _)
  have hx:=Dy.C51 hf w.toNat
  have hF:=Dy.J0 hf
  have h52:2^Dy.A6 f≤2^52:=B3 (by decide) (by omega)
  refine ⟨p,?_⟩
  rintro _ rfl _ rfl _ rfl
  rw [A2]
  refine A8 (fun h=> ?_) (fun h=> ?_)
  ·have h:=A1 h
   refine ⟨⟨by rw [Dy.E3],Dy.BY (D9 (Dy.I8.2 hFr) (by omega)),by omega,by omega⟩,?_⟩
   refine B4 fun b4 l5 n6 d4=>V4 (d4.trans ?_)
   unfold Dy.S6
   rw [Dy.E3,if_pos (by omega),if_pos (by omega),I4,Int.zero_add]
  ·have h:=A0 h
   have e1:(IntKind.u64.wrap (((2^Dy.A6 f:Nat):Int)+((Dy.wFr f w.toNat:Nat):Int))).toNat=Dy.wFr f w.toNat+2^Dy.A6 f:=by
    rw [wrap_u64]
    omega
   have e2:IntKind.i64.wrap (IntKind.i64.wrap (((Dy.Y3 f w.toNat:Nat):Int)-1)+Dy.C9 f)=(Dy.Y3 f w.toNat:Int)-1+Dy.C9 f:=by
    rw [wrap_i64 (n:=((Dy.Y3 f w.toNat:Nat):Int)-1) (by omega) (by omega),wrap_i64 (by omega) (by omega)]
   rw [pw hf,e1,e2]
   refine ⟨by omega,⟨by rw [Dy.E3],Dy.BY (D9 (Dy.I8.2 (show _<2^53 by omega)) (by decide)),by omega,by omega⟩,?_⟩
   refine B4 fun b4 l5 n6 d4=>V4 (d4.trans ?_)
   unfold Dy.S6
   rw [Dy.E3,if_neg (by omega),if_neg (by omega)]
 ·cases h
theorem A1l:G6 Tryz.prog Inv (look C4v):=A3 (A3 (A3 (A3 (A3 FF B41) C9f) B43) C0f) C5x
theorem C0h (args:List AV) (s:Spec) (h:C86 args=some s) (hp:C6 s.pre True):Contract Tryz.prog Inv 160 args s.res:=by
 unfold C86 at h
 split at h
 ·cases h
  rename_i f m neg
  obtain ⟨hf, -⟩:=hp
  refine A4 false A1l Tryz.func160 (by kernel_rfl) (by kernel_rfl) fun hok=> ?_
  rw [C2t]
  have hi:=Dy.IT hf
  have hb2:2^Dy.M8 f≤2^63:=B3 (by decide) (by have:=Dy.W8 hf;omega)
  have hs:Dy.D5 f neg≤2^Dy.M8 f:=by unfold Dy.D5;split<;>omega
  have e1:IntKind.u64.wrap (((Dy.D5 f neg+Dy.N6 f:Nat):Int)-1)=((Dy.D5 f neg+(Dy.N6 f-1):Nat):Int):=by
   rw [wrap_u64]
   omega
  have o:Dy.NX f m neg=Dy.D5 f neg+(if m=3∨(m=4∧neg=true)∨(m=5∧neg=false) then Dy.N6 f-1 else Dy.N6 f):=rfl
  rw [e1,o]
  by_cases h3:m=3
  ·exact B5 (decide_eq_true h3) ⟨hf,by rw [if_pos (.inl h3)]⟩
  ·refine B1 (decide_eq_false h3) ?_
   by_cases h4:m=4
   ·refine B5 (decide_eq_true h4) ?_
    cases neg
    ·exact B1 rfl (B1 (decide_eq_false (by omega)) ⟨hf,by rw [if_neg (by simp [h4])]⟩)
    ·exact B5 rfl ⟨hf,by rw [if_pos (by simp [h4])]⟩
   ·refine B1 (decide_eq_false h4) ?_
    by_cases h5:m=5
    ·refine B5 (decide_eq_true h5) ?_
     cases neg
     ·exact B5 rfl ⟨hf,by rw [if_pos (by simp [h5])]⟩
     ·exact B1 rfl ⟨hf,by rw [if_neg (by simp [h3,h4])]⟩
    ·exact B1 (decide_eq_false h5) ⟨hf,by rw [if_neg (by simp [h3,h4,h5])]⟩
 ·cases h
theorem A6x {s:Bool} {l:List Nat} {e:Int} (h:Dy.small ⟨s,l,e⟩): -10000≤Dy.C7 ⟨s,l,e⟩∧Dy.C7 ⟨s,l,e⟩≤10000:=by
 obtain ⟨-,h1,h2,h3⟩:=h
 simp only at h1 h2 h3
 unfold Dy.C7
 simp only
 split<;>omega
theorem C6l {k:Int} (h1: -40000≤k) (h2:k≤39999):Dy.A5 (Dy.K0 k)=true:=by
 rw [Dy.LY]
 exact (Dy.R9 (L:=1) (E:=40000) (by decide) (by omega) (by show k+((1:Nat):Int)≤_;omega) (by decide) (by decide)).1.may
theorem A9j (args:List AV) (s:Spec) (h:A85 args=some s) (hp:C6 s.pre True):Contract Tryz.prog Inv 95 args s.res:=by
 unfold A85 at h
 split at h
 ·cases h
  rename_i s l e lost
  obtain ⟨hs, -⟩:=hp
  refine A4 true A1l Tryz.func95 (by kernel_rfl) (by kernel_rfl) fun hok=> ?_
  rw [B19]
  have ht:=A6x hs
  obtain ⟨hm,h1,h2,h3⟩:=hs
  simp only at h1 h2 h3
  cases lost
  ·exact B5 rfl rfl
  ·have e1:IntKind.i64.wrap (IntKind.i64.wrap (Dy.C7 ⟨s,l,e⟩-60)-2)=Dy.C7 ⟨s,l,e⟩-62:=by
    rw [wrap_i64 (n:=Dy.C7 ⟨s,l,e⟩-60) (by omega) (by omega),wrap_i64 (by omega) (by omega)]
    omega
   refine B1 rfl ⟨⟨Dy.K5 (Dy.C1 hm),D9 (Dy.J4 (Dy.C1 hm)) (by decide),by omega,by omega⟩,?_⟩
   rw [e1]
   have mU:=C6l (k:=Dy.C7 ⟨s,l,e⟩-62) (by omega) (by omega)
   refine B4 fun b1 l2 n3 d1=> ?_
   have x3:n3=Dy.C7 ⟨s,l,e⟩-62:=congrArg Dy.Dyd.exp d1
   rw [d1]
   unfold Dy.CU
   rw [cond_true]
   cases s
   ·refine B1 rfl ⟨⟨hm,mU,.inr (.inr ⟨by omega,by omega⟩)⟩,?_⟩
    exact B4 fun b4 l5 n6 d4=>V4 d4
   ·refine B5 rfl ⟨⟨hm,mU,.inr (.inr ⟨by omega,by omega⟩)⟩,?_⟩
    exact B4 fun b4 l5 n6 d4=>V4 d4
 ·cases h
theorem B55:G6 Tryz.prog Inv (look D1g):=A3 (A3 A1l A9j) C0h
theorem B42 (args:List AV) (s:Spec) (h:B93 args=some s) (hp:C6 s.pre True):Contract Tryz.prog Inv 94 args s.res:=by
 unfold B93 at h
 split at h
 ·cases h
  rename_i f m s l e
  obtain ⟨⟨em,hsm⟩, -⟩:=hp
  refine A4 false B55 Tryz.func94 (by kernel_rfl) (by kernel_rfl) fun hok=> ?_
  rw [B78]
  obtain ⟨hf,m1,m2, -, -, -⟩:=Dy.W5 em
  have ht:=A6x hsm
  obtain ⟨hm,h1,h2,h3⟩:=id hsm
  simp only at h1 h2 h3
  have hF:=Dy.J0 hf
  by_cases hl:l=[]
  ·subst hl
   exact B5 rfl rfl
  ·have hsg:¬Dy.F0 ⟨s,l,e⟩=0:=by
    unfold Dy.F0
    rw [if_neg hl]
    split<;>decide
   refine B1 (decide_eq_false hsg) ⟨⟨Dy.K5 (Dy.C1 hm),D9 (Dy.J4 (Dy.C1 hm)) (by decide),by omega,by omega⟩,?_⟩
   have hM:Dy.val l≠0:=Dy.Q1 (Dy.C1 hm) hl
   have hpo:(Dy.I9 ⟨s,l,e⟩).ok:=Dy.B5g (d:=⟨s,l,e⟩) hM
   have hpt:(Dy.I9 ⟨s,l,e⟩).top=Dy.C7 ⟨s,l,e⟩:=rfl
   have hw1:IntKind.i64.wrap (((Dy.A6 f:Nat):Int)+1)=(Dy.A6 f:Int)+1:=wrap_i64 (by omega) (by omega)
   have hfw:IntKind.i64.wrap (Dy.C7 ⟨s,l,e⟩-IntKind.i64.wrap (((Dy.A6 f:Nat):Int)+1))=Dy.C7 ⟨s,l,e⟩-(Dy.A6 f+1):=by rw [hw1];exact wrap_i64 (by omega) (by omega)
   have hw2:IntKind.i64.wrap (Dy.C9 f+IntKind.i64.wrap (((Dy.A6 f:Nat):Int)+1))=Dy.C9 f+(Dy.A6 f+1):=by rw [hw1];exact wrap_i64 (by omega) (by omega)
   have hrd:Dy.H8 f m ⟨s,l,e⟩=Dy.R4 f m s (Dy.I9 ⟨s,l,e⟩):=by unfold Dy.H8;rw [if_neg hl]
   obtain ⟨g1,g2,g3⟩:=Dy.OI f (Dy.I9 ⟨s,l,e⟩)
   obtain ⟨E,hE⟩:∃E,Dy.K6 f (Dy.I9 ⟨s,l,e⟩)=E:=⟨_,rfl⟩
   rw [hpt] at g2 g3
   rw [hE] at g1 g2 g3
   have hul:=Dy.A2l hf (m:=m) (neg:=s) hpo
   have hug:=Dy.B6f hf (m:=m) (neg:=s) hpo
   rw [hE] at hul hug
   obtain ⟨tE,sE⟩:=Dy.UT (m:=m) hm (d:=⟨s,l,e⟩) hl (E:=E) (by omega)
   obtain ⟨tF, -⟩:=Dy.UT (m:=m) hm (d:=⟨s,l,e⟩) hl (E:=Dy.C7 ⟨s,l,e⟩-(Dy.A6 f+1)) (by omega)
   simp only at tE sE tF
   have hsame:∀b1 l2 n3,Dy.Dyd.mk b1 l2 n3=Dy.form s (Dy.H4 (Dy.I9 ⟨s,l,e⟩) m s E).1 E→Dy.DZ ⟨s,l,e⟩ (Dy.form s (Dy.H4 (Dy.I9 ⟨s,l,e⟩) m s E).1 E)=(Dy.H4 (Dy.I9 ⟨s,l,e⟩) m s E).2:=fun _ _ _ _=>by
    rw [Bool.eq_iff_iff,Dy.PM]
    exact sE.symm
   have hsame:=hsame _ _ _ rfl
   obtain ⟨N,hN⟩:∃N,(Dy.H4 (Dy.I9 ⟨s,l,e⟩) m s E).1=N:=⟨_,rfl⟩
   obtain ⟨N2,hN2⟩:∃N,(Dy.H4 (Dy.I9 ⟨s,l,e⟩) m s (Dy.C7 ⟨s,l,e⟩-(Dy.A6 f+1))).1=N:=⟨_,rfl⟩
   rw [hN] at tE hsame hul hug
   rw [hN2] at tF
   have hlow:N=0→E=Dy.C9 f:=fun c=>by
    rcases Int.lt_or_le (Dy.C9 f) E with d|d
    ·have:=hug d
     have:=A9 (Dy.A6 f)
     omega
    ·omega
   have hp2:2^(Dy.A6 f+1)≤2^53:=B3 (by decide) (by omega)
   have hNb:Dy.bl N≤54:=Dy.I8.2 (by omega)
   have hN20:N2≠0∧Dy.bl N2≤54:=by
    rw [←hN2]
    unfold Dy.H4
    rw [if_neg (by rw [hpt];omega),show (Dy.C7 ⟨s,l,e⟩-(Dy.A6 f+1)-(Dy.I9 ⟨s,l,e⟩).top+64).toNat=63-Dy.A6 f by rw [hpt];omega]
    have hu:=Dy.KD hpo m s (d:=63-Dy.A6 f) (by omega)
    have h64:2^(64-(63-Dy.A6 f))≤2^53:=B3 (by decide) (by omega)
    refine ⟨?_,Dy.I8.2 (by omega)⟩
    have hge:2^Dy.A6 f≤(Dy.I9 ⟨s,l,e⟩).h/2^(63-Dy.A6 f):=by
     rw [Nat.le_div_iff_mul_le (A9 _),←Nat.pow_add,show Dy.A6 f+(63-Dy.A6 f)=63 by omega]
     exact hpo.1
    have:=A9 (Dy.A6 f)
    unfold Dy.DG
    simp only
    omega
   obtain ⟨hN20,hN2b⟩:=hN20
   have fN:=(Dy.U4 (s:=s) (n:=N) (e:=E) (L:=54) (E:=20000) hNb (by omega) (by omega) (by decide) (by decide)).1
   have fN2:=(Dy.U4 (s:=s) (n:=N2) (e:=Dy.C7 ⟨s,l,e⟩-(Dy.A6 f+1)) (L:=54) (E:=20000) hN2b (by omega) (by omega) (by decide) (by decide)).1
   have htb: -20000000≤(Dy.I9 ⟨s,l,e⟩).top∧(Dy.I9 ⟨s,l,e⟩).top≤20000000:=by rw [hpt];omega
   have fwr:=hfw
   refine A8 (fun h=> ?_) (fun h=> ?_)
   ·have hEq:Dy.C9 f=E:=by
     have h:=A1 h
     rw [hfw] at h
     omega
    refine ⟨⟨hsm,hl,by omega,by omega,m1,m2⟩,?_⟩
    refine B4 fun b1 l2 n3 d1=> ?_
    have d1:Dy.Dyd.mk b1 l2 n3=Dy.form s N E:=d1.trans (by rw [hEq];exact tE)
    have m1':Dy.A5 ⟨b1,l2,n3⟩=true:=by rw [d1];exact fN.may
    have x3:n3=(Dy.form s N E).exp:=congrArg Dy.Dyd.exp d1
    have x2:l2=(Dy.form s N E).mag:=congrArg Dy.Dyd.mag d1
    have y1:=fN.lo
    have y2:=fN.hi
    refine ⟨⟨Dy.K5 (Dy.C1 m1'),D9 (Dy.J4 (Dy.C1 m1')) (by decide),by omega,by omega⟩,?_⟩
    rw [d1]
    refine A8 (fun ho=> ?_) (fun ho=> ?_)
    ·have ho:=A1 ho
     have hN0:N≠0:=fun c=>by
      rw [c,Dy.Y2] at ho
      have:(0:Int)>Dy.P8 f:=ho
      omega
     rw [Dy.O6 hN0] at ho
     refine ⟨hf,?_⟩
     rw [hrd]
     unfold Dy.R4
     rw [hE,hN,if_pos (by omega)]
    ·have ho:=A0 ho
     have hw:¬Dy.P8 f<Dy.bl N+E:=by
      by_cases c:N=0
      ·have:=hlow c
       rw [c,Dy.K2]
       omega
      ·rw [Dy.O6 c] at ho
       omega
     obtain ⟨w1,w2,w3,w4,w5,w6,w7,w8⟩:=Dy.PR hf hpo hE (by rw [hE];exact hN) htb hw
     rw [←d1] at w1 w2 w3
     refine eq3 ?_
     have mA:Dy.A5 ⟨false,l2,n3⟩=true:=by
      have h:=m1'
      rw [Dy.S2] at h ⊢
      exact ⟨h.1,h.2.elim (fun c=> .inl ⟨c.1,rfl,c.2.2⟩) .inr⟩
     refine ⟨⟨hf,rfl,mA,w2,w3⟩,?_⟩
     have hW:(if l2=[] then 0 else Dy.DD f ⟨false,l2,n3⟩)=(E-Dy.C9 f).toNat*2^Dy.A6 f+N∧(E-Dy.C9 f).toNat*2^Dy.A6 f+N<2^Dy.M8 f:=by
      by_cases c:N=0
      ·have e0:=w4 c
       rw [if_pos (by rw [x2,c,Dy.Y2];rfl),c,e0]
       have:=A9 (Dy.M8 f)
       rw [show (Dy.C9 f-Dy.C9 f).toNat=0 by omega,R2]
       exact ⟨rfl,this⟩
      ·obtain ⟨v1,v2,v3⟩:=w5 c
       have hl2:l2≠[]:=by rw [x2];exact v1
       rw [if_neg hl2]
       have e9:Dy.DD f ⟨false,l2,n3⟩=Dy.DD f (Dy.form s N E):=by rw [←d1];rfl
       rw [e9,v3]
       have hz:=(Dy.OD hf (d:=⟨false,l2,n3⟩) w2 hl2 (w3 hl2).1 (w3 hl2).2).1
       rw [e9,v3] at hz
       exact ⟨rfl,hz⟩
     rw [hW.1]
     rintro _ rfl _ rfl
     refine ⟨hf,?_⟩
     have hws:Dy.R1 f ((((E-Dy.C9 f).toNat*2^Dy.A6 f+N:Nat):Int)).toNat=(E-Dy.C9 f).toNat*2^Dy.A6 f+N:=by
      rw [A2]
      exact F9 hW.2
     rw [hws,hsame,hrd]
     have hres:∀x:Int,(Dy.R4 f m s (Dy.I9 ⟨s,l,e⟩)).2=x→AV.tup [.num .u64 (Dy.D5 f s+((E-Dy.C9 f).toNat*2^Dy.A6 f+N):Nat),.num .u8 x]=AV.tup [.num .u64 ((Dy.R4 f m s (Dy.I9 ⟨s,l,e⟩)).1:Nat),.num .u8 (Dy.R4 f m s (Dy.I9 ⟨s,l,e⟩)).2]:=fun x hx=>by
      rw [hx]
      have:(Dy.R4 f m s (Dy.I9 ⟨s,l,e⟩)).1=Dy.D5 f s+((E-Dy.C9 f).toNat*2^Dy.A6 f+N):=by
       unfold Dy.R4
       rw [hE,hN,if_neg hw]
       rfl
      rw [this]
     have hflag:(Dy.R4 f m s (Dy.I9 ⟨s,l,e⟩)).2=if (Dy.H4 (Dy.I9 ⟨s,l,e⟩) m s E).2=true then 0 else if (Dy.bl N2:Int)+Dy.C7 ⟨s,l,e⟩-(Dy.A6 f+1)<Dy.C9 f+(Dy.A6 f+1) then 24 else 16:=by
      unfold Dy.R4
      rw [hE,hN,if_neg hw,hpt,hN2]
     refine A8 (fun hx=> ?_) (fun hx=> ?_)
     ·exact hres 0 (by rw [hflag,if_pos hx])
     ·rw [hx,if_neg (by decide)] at hflag
      refine ⟨⟨hsm,hl,by omega,by omega,m1,m2⟩,?_⟩
      refine B4 fun b9 l10 n11 d9=> ?_
      have d9:Dy.Dyd.mk b9 l10 n11=Dy.form s N2 (Dy.C7 ⟨s,l,e⟩-(Dy.A6 f+1)):=d9.trans (by rw [hfw];exact tF)
      have m9:Dy.A5 ⟨b9,l10,n11⟩=true:=by rw [d9];exact fN2.may
      have x9:n11=(Dy.form s N2 (Dy.C7 ⟨s,l,e⟩-(Dy.A6 f+1))).exp:=congrArg Dy.Dyd.exp d9
      have z1:=fN2.lo
      have z2:=fN2.hi
      refine ⟨⟨Dy.K5 (Dy.C1 m9),D9 (Dy.J4 (Dy.C1 m9)) (by decide),by omega,by omega⟩,?_⟩
      rw [d9,Dy.O6 hN20,hw2]
      refine A8 (fun c=> ?_) (fun c=> ?_)
      ·have c:=A1 c
       exact hres 24 (by rw [hflag,if_pos (by omega)])
      ·have c:=A0 c
       exact hres 16 (by rw [hflag,if_neg (by omega)])
   ·have hEq:IntKind.i64.wrap (Dy.C7 ⟨s,l,e⟩-IntKind.i64.wrap (((Dy.A6 f:Nat):Int)+1))=E:=by
     have h:=A0 h
     rw [hfw] at h ⊢
     omega
    refine ⟨⟨hsm,hl,by omega,by omega,m1,m2⟩,?_⟩
    refine B4 fun b1 l2 n3 d1=> ?_
    have d1:Dy.Dyd.mk b1 l2 n3=Dy.form s N E:=d1.trans (by rw [hEq];exact tE)
    have m1':Dy.A5 ⟨b1,l2,n3⟩=true:=by rw [d1];exact fN.may
    have x3:n3=(Dy.form s N E).exp:=congrArg Dy.Dyd.exp d1
    have x2:l2=(Dy.form s N E).mag:=congrArg Dy.Dyd.mag d1
    have y1:=fN.lo
    have y2:=fN.hi
    refine ⟨⟨Dy.K5 (Dy.C1 m1'),D9 (Dy.J4 (Dy.C1 m1')) (by decide),by omega,by omega⟩,?_⟩
    rw [d1]
    refine A8 (fun ho=> ?_) (fun ho=> ?_)
    ·have ho:=A1 ho
     have hN0:N≠0:=fun c=>by
      rw [c,Dy.Y2] at ho
      have:(0:Int)>Dy.P8 f:=ho
      omega
     rw [Dy.O6 hN0] at ho
     refine ⟨hf,?_⟩
     rw [hrd]
     unfold Dy.R4
     rw [hE,hN,if_pos (by omega)]
    ·have ho:=A0 ho
     have hw:¬Dy.P8 f<Dy.bl N+E:=by
      by_cases c:N=0
      ·have:=hlow c
       rw [c,Dy.K2]
       omega
      ·rw [Dy.O6 c] at ho
       omega
     obtain ⟨w1,w2,w3,w4,w5,w6,w7,w8⟩:=Dy.PR hf hpo hE (by rw [hE];exact hN) htb hw
     rw [←d1] at w1 w2 w3
     refine eq3 ?_
     have mA:Dy.A5 ⟨false,l2,n3⟩=true:=by
      have h:=m1'
      rw [Dy.S2] at h ⊢
      exact ⟨h.1,h.2.elim (fun c=> .inl ⟨c.1,rfl,c.2.2⟩) .inr⟩
     refine ⟨⟨hf,rfl,mA,w2,w3⟩,?_⟩
     have hW:(if l2=[] then 0 else Dy.DD f ⟨false,l2,n3⟩)=(E-Dy.C9 f).toNat*2^Dy.A6 f+N∧(E-Dy.C9 f).toNat*2^Dy.A6 f+N<2^Dy.M8 f:=by
      by_cases c:N=0
      ·have e0:=w4 c
       rw [if_pos (by rw [x2,c,Dy.Y2];rfl),c,e0]
       have:=A9 (Dy.M8 f)
       rw [show (Dy.C9 f-Dy.C9 f).toNat=0 by omega,R2]
       exact ⟨rfl,this⟩
      ·obtain ⟨v1,v2,v3⟩:=w5 c
       have hl2:l2≠[]:=by rw [x2];exact v1
       rw [if_neg hl2]
       have e9:Dy.DD f ⟨false,l2,n3⟩=Dy.DD f (Dy.form s N E):=by rw [←d1];rfl
       rw [e9,v3]
       have hz:=(Dy.OD hf (d:=⟨false,l2,n3⟩) w2 hl2 (w3 hl2).1 (w3 hl2).2).1
       rw [e9,v3] at hz
       exact ⟨rfl,hz⟩
     rw [hW.1]
     rintro _ rfl _ rfl
     refine ⟨hf,?_⟩
     have hws:Dy.R1 f ((((E-Dy.C9 f).toNat*2^Dy.A6 f+N:Nat):Int)).toNat=(E-Dy.C9 f).toNat*2^Dy.A6 f+N:=by
      rw [A2]
      exact F9 hW.2
     rw [hws,hsame,hrd]
     have hres:∀x:Int,(Dy.R4 f m s (Dy.I9 ⟨s,l,e⟩)).2=x→AV.tup [.num .u64 (Dy.D5 f s+((E-Dy.C9 f).toNat*2^Dy.A6 f+N):Nat),.num .u8 x]=AV.tup [.num .u64 ((Dy.R4 f m s (Dy.I9 ⟨s,l,e⟩)).1:Nat),.num .u8 (Dy.R4 f m s (Dy.I9 ⟨s,l,e⟩)).2]:=fun x hx=>by
      rw [hx]
      have:(Dy.R4 f m s (Dy.I9 ⟨s,l,e⟩)).1=Dy.D5 f s+((E-Dy.C9 f).toNat*2^Dy.A6 f+N):=by
       unfold Dy.R4
       rw [hE,hN,if_neg hw]
       rfl
      rw [this]
     have hflag:(Dy.R4 f m s (Dy.I9 ⟨s,l,e⟩)).2=if (Dy.H4 (Dy.I9 ⟨s,l,e⟩) m s E).2=true then 0 else if (Dy.bl N2:Int)+Dy.C7 ⟨s,l,e⟩-(Dy.A6 f+1)<Dy.C9 f+(Dy.A6 f+1) then 24 else 16:=by
      unfold Dy.R4
      rw [hE,hN,if_neg hw,hpt,hN2]
     refine A8 (fun hx=> ?_) (fun hx=> ?_)
     ·exact hres 0 (by rw [hflag,if_pos hx])
     ·rw [hx,if_neg (by decide)] at hflag
      refine ⟨⟨hsm,hl,by omega,by omega,m1,m2⟩,?_⟩
      refine B4 fun b9 l10 n11 d9=> ?_
      have d9:Dy.Dyd.mk b9 l10 n11=Dy.form s N2 (Dy.C7 ⟨s,l,e⟩-(Dy.A6 f+1)):=d9.trans (by rw [hfw];exact tF)
      have m9:Dy.A5 ⟨b9,l10,n11⟩=true:=by rw [d9];exact fN2.may
      have x9:n11=(Dy.form s N2 (Dy.C7 ⟨s,l,e⟩-(Dy.A6 f+1))).exp:=congrArg Dy.Dyd.exp d9
      have z1:=fN2.lo
      have z2:=fN2.hi
      refine ⟨⟨Dy.K5 (Dy.C1 m9),D9 (Dy.J4 (Dy.C1 m9)) (by decide),by omega,by omega⟩,?_⟩
      rw [d9,Dy.O6 hN20,hw2]
      refine A8 (fun c=> ?_) (fun c=> ?_)
      ·have c:=A1 c
       exact hres 24 (by rw [hflag,if_pos (by omega)])
      ·have c:=A0 c
       exact hres 16 (by rw [hflag,if_neg (by omega)])
 ·cases h
theorem B56:G6 Tryz.prog Inv (look D1h):=A3 B55 B42
theorem C1b {d:Dy.Dyd} (h:Dy.small d) (hs:d.neg=false) (h0:d.mag≠[]):Dy.small (Dy.C3 d 60).1∧Dy.small (Dy.CU (Dy.C3 d 60).1 (Dy.C3 d 60).2):=by
 obtain ⟨hm,h1,h2,h3⟩:=h
 obtain ⟨b,k1,k2, -⟩:=Dy.IN hm hs h0 (V:=2600) (n:=60) (by decide) (by omega) (Dy.v7 hs _)
 have k2:(Dy.C3 d 60).1=_:=k2
 have hX:=Dy.Y0 (n:=Dy.val d.mag) (k:=(d.exp - -(2*(2600:Nat):Int)).toNat) h3
 generalize Dy.val d.mag*2^(d.exp - -(2*(2600:Nat):Int)).toNat=X at*
 have hq:=Dy.C8f (N:=X) (j:=7600) (by omega)
 generalize Dy.isq X=s at*
 have hb60:Dy.bl (s/2^b)=60:=by rw [Dy.C5];omega
 generalize s/2^b=q at*
 have f1:=(Dy.U4 (s:=false) (n:=q) (e:= -((2600:Nat):Int)+b) (L:=60) (E:=5000) (by omega) (by omega) (by omega) (by decide) (by decide)).1
 have f2:=(Dy.U4 (s:=false) (n:=4*q+1) (e:= -((2600:Nat):Int)+b-2) (L:=62) (E:=5000) (by rw [Dy.KM hb60 (by decide)];decide) (by omega) (by rw [Dy.KM hb60 (by decide)];omega) (by decide) (by decide)).1
 rw [k2]
 refine ⟨⟨f1.may,f1.lo,f1.hi,by have:=f1.bits;omega⟩,?_⟩
 cases (Dy.C3 d 60).2
 ·exact ⟨f1.may,f1.lo,f1.hi,by have:=f1.bits;show Dy.bl (Dy.val (Dy.form false q _).mag)≤5000;omega⟩
 ·rw [Dy.OQ hb60]
  exact ⟨f2.may,f2.lo,f2.hi,by have:=f2.bits;omega⟩
theorem C0i (args:List AV) (s:Spec) (h:C87 args=some s) (hp:C6 s.pre True):Contract Tryz.prog Inv 37 args s.res:=by
 unfold C87 at h
 split at h
 ·cases h
  rename_i f m s l e
  obtain ⟨⟨em,hs,hsm⟩, -⟩:=hp
  refine A4 false B56 Tryz.func37 (by kernel_rfl) (by kernel_rfl) fun hok=> ?_
  rw [C2u]
  obtain ⟨hf,m1,m2, -, -, -⟩:=Dy.W5 em
  by_cases hl:l=[]
  ·subst hl
   exact B5 rfl rfl
  ·have hsg:¬Dy.F0 ⟨s,l,e⟩=0:=by
    unfold Dy.F0
    rw [if_neg hl]
    split<;>decide
   obtain ⟨r1,r2⟩:=C1b hsm hs hl
   have hsame:=Dy.C67 (m:=m) hf hsm.1 hs hl
   refine B1 (decide_eq_false hsg) ⟨⟨hsm.1,by decide,by decide⟩,?_⟩
   refine B4 (x:=(Dy.C3 ⟨s,l,e⟩ 60).1) fun b1 l2 n3 d1=> ?_
   rintro _ rfl
   rw [d1]
   refine ⟨r1,?_⟩
   refine B4 fun b5 l6 n7 d5=> ?_
   rw [d5]
   refine ⟨⟨em,r2⟩,?_⟩
   rintro _ rfl _ rfl
   rw [hsame]
 ·cases h
theorem X5:G6 Tryz.prog Inv (look FJ):=A3 B56 C0i
end Go.AI

namespace Go.Dy
def KR (f m a b:Int):Int:=if L2 f m=0 then (if H9 f a=0 then H9 f b else H9 f a) else L2 f m
def BL (f m a b:Int):Bool:=decide (KR f m a b=0)
def A5s (f:Int) (w:Nat):Dyd:=if 4≤D3 f w then L7 else S6 f w
def AG (f:Int) (w:Nat):Bool:=o9 f w&& !decide (D3 f w=5)
def crF (f m a b:Int):(Nat×Int)×(Nat×Int):=
 if D3 f b.toNat=4 then ((D5 f false+N6 f,0),(D5 f (AG f b.toNat)+N6 f,0))
 else if D3 f a.toNat=4 then
  (if D3 f b.toNat=5 then (if AG f a.toNat then ((T7 f,0),(D5 f false+N6 f,0)) else ((D5 f false+N6 f,0),(T7 f,0)))
  else if AG f a.toNat then ((D5 f false,0),(D5 f (AG f b.toNat)+N6 f,0)) else ((D5 f false+N6 f,0),(D5 f (AG f b.toNat),0)))
 else if D3 f b.toNat=5∨D3 f a.toNat=5 then ((T7 f,0),(T7 f,0))
 else NG f m a b
def zrX (f m a b:Int):(Nat×Int)×(Nat×Int):=if KR f m a b=0 then crF f m a b else ((0,0),(0,0))
end Go.Dy
namespace Go.AI
open Go Go.RowKit Go.Proofs
set_option linter.unusedVariables false
def C70:List AV→Option Spec
 |[.agg [.num .u8 f,.num .u8 m,.num .u64 a,.num .u64 b,.num .u8 k,.num .u8 k',.bool g,.bool h,.bool s,.dig [1] d,.num .i64 e,.bool s',.dig [1] d',.num .i64 e'],.bool neg]=>some ⟨some (Dy.isF f),.agg [.num .u64 (Dy.D5 f neg+Dy.N6 f:Nat),.num .u8 0]⟩
 |_=>none
def B8h:List AV→Option Spec
 |[.agg [.num .u8 f,.num .u8 m,.num .u64 a,.num .u64 b,.num .u8 k,.num .u8 k',.bool g,.bool h,.bool s,.dig [1] d,.num .i64 e,.bool s',.dig [1] d',.num .i64 e'],.num .u8 x]=>some ⟨some (Dy.isF f),.agg [.num .u64 (Dy.T7 f:Nat),.num .u8 x]⟩
 |_=>none
def B8i:List AV→Option Spec
 |[.num .u8 f,.num .u8 m,.agg [.num .u64 a,.num .u64 b]]=>
  some ⟨none,
   .tup [.agg [.num .u8 f,.num .u8 m,.num .u64 a,.num .u64 b,.num .u8 (bif Dy.BL f m a b then Dy.D3 f a.toNat else 0),.num .u8 (bif Dy.BL f m a b then Dy.D3 f b.toNat else 0),.bool (Dy.BL f m a b&&Dy.AG f a.toNat),.bool (Dy.BL f m a b&&Dy.AG f b.toNat),
    .bool (bif Dy.BL f m a b then Dy.A5s f a.toNat else Dy.L7).neg,.dig [0] (bif Dy.BL f m a b then Dy.A5s f a.toNat else Dy.L7).mag,.num .i64 (bif Dy.BL f m a b then Dy.A5s f a.toNat else Dy.L7).exp,
    .bool (bif Dy.BL f m a b then Dy.A5s f b.toNat else Dy.L7).neg,.dig [0] (bif Dy.BL f m a b then Dy.A5s f b.toNat else Dy.L7).mag,.num .i64 (bif Dy.BL f m a b then Dy.A5s f b.toNat else Dy.L7).exp],.num .i64 (Dy.KR f m a b)]⟩
 |_=>none
def D1i:List (Nat×(List AV→Option Spec)):=(22,C70)::(23,B8h)::(20,B8i)::B67
def B8l:List AV→Option Spec
 |[.num .u8 f,.num .u8 m,.agg [.num .u64 a,.num .u64 b]]=>some ⟨none,.tup [avP (Dy.zrX f m a b),.num .i64 (Dy.KR f m a b)]⟩
 |_=>none
end Go.AI

namespace Go.AI
open Go Go.RowKit Go.Proofs
set_option linter.unusedVariables false
def B97:List AV→Option Spec
 |[.agg [.bool s,.dig [1] m,.num .i64 e]]=>some ⟨none,avS [0,1] ⟨s,m,e⟩ ⟨s,m,e⟩⟩
 |_=>none
def B98:List AV→Option Spec
 |[.agg [.bool s,.dig [1] m,.num .i64 e,.bool s',.dig [1] m',.num .i64 e'],.num .i64 n]=>
  some ⟨some (Dy.mid ⟨s,m,e⟩∧Dy.mid ⟨s',m',e'⟩∧m≠[]∧m'≠[]∧ -1000≤n∧n≤1000),avS [0,1,2] (Dy.shD ⟨s,m,e⟩ n) (Dy.shD ⟨s',m',e'⟩ n)⟩
 |_=>none
def C8h:List AV→Option Spec
 |[.agg [.bool s,.dig [1] m,.num .i64 e],.num .i64 n]=>some ⟨some (Dy.mid ⟨s,m,e⟩∧s=false∧1≤n∧n≤8192),avD [0,1,2] (Dy.O7 ⟨s,m,e⟩ n false)⟩
 |_=>none
def jUp:List AV→Option Spec
 |[.agg [.bool s,.dig [1] m,.num .i64 e],.num .i64 n]=>some ⟨some (Dy.mid ⟨s,m,e⟩∧s=false∧1≤n∧n≤8192),avD [0,1,2] (Dy.O7 ⟨s,m,e⟩ n true)⟩
 |_=>none
def D4x:List AV→Option Spec
 |[.agg [.bool s,.dig [1] m,.num .i64 e],.agg [.bool s',.dig [2] m',.num .i64 e'],.num .i64 k,.bool high]=>
  some ⟨some (Dy.mid ⟨s,m,e⟩∧Dy.mid ⟨s',m',e'⟩∧m'≠[]∧1≤k∧k≤8192∧m.length≤1000∧m'.length≤1000),avD [0] (Dy.V5 ⟨s,m,e⟩ ⟨s',m',e'⟩ k high)⟩
 |_=>none
def A89:List AV→Option Spec
 |[.agg [.bool s,.dig [1] m,.num .i64 e,.bool s',.dig [1] m',.num .i64 e'],.num .i64 n]=>
  some ⟨some (Dy.A5 ⟨s,m,e⟩=true∧Dy.A5 ⟨s',m',e'⟩=true∧1≤n),.tup [avD [0,1,2] (bif decide (Dy.F0 ⟨s,m,e⟩*Dy.F0 ⟨s',m',e'⟩≤0) then Dy.L7 else (Dy.F6 ⟨s,m,e⟩ n).1),
   .bool (bif decide (Dy.F0 ⟨s,m,e⟩*Dy.F0 ⟨s',m',e'⟩≤0) then false else Dy.DZ (Dy.F6 ⟨s,m,e⟩ n).1 (Dy.F6 ⟨s',m',e'⟩ n).1)]⟩
 |_=>none
def C8m:List AV→Option Spec
 |[.agg [.bool s,.dig [1] m,.num .i64 e,.bool s',.dig [1] m',.num .i64 e'],.num .i64 n]=>
  some ⟨some (Dy.A5 ⟨s,m,e⟩=true∧Dy.A5 ⟨s',m',e'⟩=true∧s=false∧s'=false∧m≠[]∧m'≠[]∧1≤n∧n≤8192∧ -16777216≤Dy.C7 (Dy.C3 ⟨s',m',e'⟩ n).1-n∧Dy.C7 (Dy.C3 ⟨s',m',e'⟩ n).1-n≤16777216),
   avS [0] (Dy.C3 ⟨s,m,e⟩ n).1 (Dy.Y9 ⟨s',m',e'⟩ n)⟩
 |_=>none
def A8b:List AV→Option Spec
 |[.num .u8 f,.agg [.num .u64 a,.num .u64 b]]=>some ⟨some (Dy.H9 f a=0∧Dy.H9 f b=0∧Dy.D3 f a.toNat<4∧Dy.D3 f b.toNat<4),avD [0] (Dy.C2 (Dy.E6 (Dy.S6 f a.toNat) (Dy.S6 f a.toNat)) (Dy.E6 (Dy.S6 f b.toNat) (Dy.S6 f b.toNat)))⟩
 |_=>none
def A0c:List AV→Option Spec
 |[.num .u8 f,.num .u8 m,.agg [.bool s,.dig [3] d,.num .i64 e]]=>
  some ⟨some (Dy.L2 f m=0∧Dy.small ⟨s,d,e⟩∧Dy.small (Dy.CU ⟨s,d,e⟩ true)),.tup [.num .u64 ((Dy.H8 f m (Dy.CU ⟨s,d,e⟩ true)).1:Nat),.num .u8 (Dy.H8 f m (Dy.CU ⟨s,d,e⟩ true)).2]⟩
 |_=>none
def C8j:List AV→Option Spec
 |[.num .u8 f,.num .u8 x]=>some ⟨some (Dy.isF f),.agg [.num .u64 (Dy.T7 f:Nat),.num .u8 x]⟩
 |_=>none
def C8o:List AV→Option Spec
 |[.num .u8 f,.bool neg]=>some ⟨some (Dy.isF f),.agg [.num .u64 (Dy.D5 f neg:Nat),.num .u8 0]⟩
 |_=>none
def D4u:List AV→Option Spec
 |[.num .u8 f,.bool neg]=>some ⟨some (Dy.isF f),.agg [.num .u64 (Dy.D5 f neg+Dy.N6 f:Nat),.num .u8 0]⟩
 |_=>none
def D4v:List AV→Option Spec
 |[.num .u8 f,.num .u64 w]=>some ⟨some (Dy.H9 f w=0),.bool (Dy.AG f w.toNat)⟩
 |_=>none
def A8c:List AV→Option Spec
 |[.num .u8 m]=>some ⟨none,.num .u8 (if m=4 then 5 else if m=5 then 4 else m)⟩
 |_=>none
def A72:List (Nat×(List AV→Option Spec)):=(103,B97)::(104,B98)::(195,C8h)::(196,jUp)::(165,D4x)::(45,A89)::(102,C8m)::
 (41,A8b)::(108,A0c)::(34,C8j)::(35,C8o)::(33,D4u)::(31,D4v)::(39,A8c)::(32,A5y)::FJ
def D4w:List AV→Option Spec
 |[.agg [.bool s,.dig [1] m,.num .i64 e],.agg [.bool s',.dig [2] m',.num .i64 e'],.num .i64 n]=>some ⟨some (Dy.mid ⟨s,m,e⟩∧Dy.mid ⟨s',m',e'⟩∧s=false∧s'=false∧1≤n∧n≤8192),avS [0,1,2,3] (Dy.O7 ⟨s,m,e⟩ n false) (Dy.O7 ⟨s',m',e'⟩ n true)⟩
 |_=>none
def C8k:List AV→Option Spec
 |[.agg [.bool s,.dig [1] m,.num .i64 e,.bool s',.dig [1] m',.num .i64 e'],.agg [.bool t,.dig [2] l,.num .i64 i,.bool t',.dig [2] l',.num .i64 i'],.num .i64 n]=>
  some ⟨some (s=false∧s'=false∧Dy.mid ⟨s,m,e⟩∧Dy.mid ⟨s',m',e'⟩∧Dy.mid ⟨t,l,i⟩∧Dy.mid ⟨t',l',i'⟩∧l≠[]∧l'≠[]∧1≤n∧n≤8192∧m.length≤1000∧m'.length≤1000∧l.length≤1000∧l'.length≤1000),
   avS [0] (Dy.V5 ⟨s,m,e⟩ ⟨t',l',i'⟩ n false) (Dy.V5 ⟨s',m',e'⟩ ⟨t,l,i⟩ n true)⟩
 |_=>none
def A0d:List AV→Option Spec
 |[.num .u8 f,.num .u8 m,.agg [.bool s,.dig [3] d,.num .i64 e]]=>
  some ⟨some (Dy.L2 f m=0∧Dy.small ⟨s,d,e⟩∧Dy.small (Dy.CU ⟨s,d,e⟩ true)),.agg [.num .u64 ((Dy.H8 f m (Dy.CU ⟨s,d,e⟩ true)).1:Nat),.num .u8 (Dy.H8 f m (Dy.CU ⟨s,d,e⟩ true)).2]⟩
 |_=>none
def C8i:List AV→Option Spec
 |[.num .u8 f,.num .u8 m,.agg [.bool s,.dig [3] l,.num .i64 e],.agg [.bool s',.dig [4] l',.num .i64 e'],.bool neg]=>
  some ⟨some (Dy.L2 f m=0∧Dy.small ⟨s,l,e⟩∧Dy.small ⟨s',l',e'⟩∧(∀X,X=Dy.C2 ⟨s',l',e'⟩ ⟨s,l,e⟩∨X=Dy.C2 ⟨s',l',e'⟩ (Dy.G9 ⟨s,l,e⟩)→Dy.small (Dy.shD X (-1))∧(Dy.shD X (-1)).neg=false∧X.mag≠[]∧Dy.C7 (Dy.shD X (-1))≤Dy.P8 f+3)),
   .tup [.agg [.num .u64 ((Dy.S5 f m (Dy.shD (Dy.C2 ⟨s',l',e'⟩ ⟨s,l,e⟩) (-1)) false).1:Nat),.num .u8 (Dy.S5 f m (Dy.shD (Dy.C2 ⟨s',l',e'⟩ ⟨s,l,e⟩) (-1)) false).2],
    .agg [.num .u64 ((Dy.S5 f m (Dy.shD (Dy.C2 ⟨s',l',e'⟩ (Dy.G9 ⟨s,l,e⟩)) (-1)) neg).1:Nat),.num .u8 (Dy.S5 f m (Dy.shD (Dy.C2 ⟨s',l',e'⟩ (Dy.G9 ⟨s,l,e⟩)) (-1)) neg).2]]⟩
 |_=>none
def D1j:List (Nat×(List AV→Option Spec)):=(164,D4w)::(106,C8k)::(46,A0d)::(43,C8i)::A72
def C8l:List AV→Option Spec
 |[.agg [.bool s,.dig [1] m,.num .i64 e,.bool s',.dig [1] m',.num .i64 e'],.agg [.bool t,.dig [2] l,.num .i64 f,.bool t',.dig [2] l',.num .i64 f'],.num .i64 n]=>
  some ⟨some (Dy.A5 ⟨s,m,e⟩=true∧Dy.A5 ⟨s',m',e'⟩=true∧Dy.A5 ⟨t,l,f⟩=true∧Dy.A5 ⟨t',l',f'⟩=true∧(m=[]∨l=[]∨(-300000≤e-f∧e-f≤300000))∧(m'=[]∨l'=[]∨(-300000≤e'-f'∧e'-f'≤300000))∧
   Dy.mid (Dy.C2 ⟨s,m,e⟩ ⟨t,l,f⟩)∧Dy.mid (Dy.C2 ⟨s',m',e'⟩ ⟨t',l',f'⟩)∧(Dy.C2 ⟨s,m,e⟩ ⟨t,l,f⟩).neg=false∧(Dy.C2 ⟨s',m',e'⟩ ⟨t',l',f'⟩).neg=false∧1≤n∧n≤8192),
   avS [0,1,2,3] (Dy.O7 (Dy.C2 ⟨s,m,e⟩ ⟨t,l,f⟩) n false) (Dy.O7 (Dy.C2 ⟨s',m',e'⟩ ⟨t',l',f'⟩) n true)⟩
 |_=>none
def D1k:List (Nat×(List AV→Option Spec)):=(105,C8l)::D1j
def A8a:List AV→Option Spec
 |[.agg [.bool s,.dig [1] d,.num .i64 e],.agg [.bool s',.dig [2] d',.num .i64 e'],.num .i64 n]=>
  some ⟨some (Dy.A5 ⟨s,d,e⟩=true∧s'=false∧Dy.offZ (Dy.B7 ⟨s,d,e⟩) (Dy.B7 ⟨s',d',e'⟩)∧20≤n∧n≤8192),
   .tup [avS [0] (Dy.Z4 ⟨s,d,e⟩ ⟨s',d',e'⟩ n) (Dy.g9 ⟨s,d,e⟩ ⟨s',d',e'⟩ n),avS [0] (Dy.CX ⟨s,d,e⟩ ⟨s',d',e'⟩ n) (Dy.EZ ⟨s,d,e⟩ ⟨s',d',e'⟩ n)]⟩
 |_=>none
def B6b:List (Nat×(List AV→Option Spec)):=(44,A8a)::D1k
def C8n:List AV→Option Spec
 |[.num .u8 f,.num .u8 m,.agg [.num .u64 a,.num .u64 b]]=>some ⟨some (Dy.L2 f m=0∧Dy.H9 f a=0∧Dy.H9 f b=0),avP (Dy.crF f m a b)⟩
 |_=>none
def D1l:List (Nat×(List AV→Option Spec)):=(10,C8n)::(6,B8l)::(7,C7z)::(9,B8z)::B6b
def jIs:List AV→Option Spec
 |[.agg [.num .u64 a,.num .u64 b,.num .u8 x,.num .u8 y],.num .i64 e,.agg [.num .u64 a',.num .u64 b',.num .u8 x',.num .u8 y'],.num .i64 r]=>
  some ⟨none,.bool (if r=0 then decide ((a=a'∧b=b'∧x=x'∧y=y')∧e=0) else decide ((a=0∧b=0∧x=0∧y=0)∧e=r))⟩
 |_=>none
def D42:List (Nat×(List AV→Option Spec)):=(8,jIs)::D1l
end Go.AI

namespace Go.AI
open Dy Dyd IntKind
open Go Go.RowKit Go.Proofs
set_option linter.unusedVariables false
set_option maxRecDepth 100000
set_option maxHeartbeats 0
theorem B0t (s:Bool) (m:List Nat) (e:Int) (Q:AV→Prop):(evF Tryz.prog (look FJ) (lam []) true Tryz.f103 [.agg [.bool s,.dig [1] m,.num .i64 e]] Q)=(Q (.agg [.bool s,.dig [0,1] m,.num .i64 e,.bool s,.dig [0,1] m,.num .i64 e])):=by kernel_rfl
theorem B0u (s:Bool) (m:List Nat) (e:Int) (s':Bool) (m':List Nat) (e':Int) (n:Int) (Q:AV→Prop):(evF Tryz.prog (look FJ) (lam []) true Tryz.f104 [.agg [.bool s,.dig [1] m,.num .i64 e,.bool s',.dig [1] m',.num .i64 e'],.num .i64 n] Q)=((m=[]∨ -1099511627776≤e∧e≤1099511627776∧ -1099511627776≤n∧n≤1099511627776)∧∀b1,b1=s→∀(l2:List Nat),l2=m→∀(n3:Int),(n3=if m=[] then e else e+n)→(m'=[]∨ -1099511627776≤e'∧e'≤1099511627776∧ -1099511627776≤n∧n≤1099511627776)∧∀b4,b4=s'→∀(l5:List Nat),l5=m'→∀(n6:Int),(n6=if m'=[] then e' else e'+n)→Q (.agg [.bool b1,.dig [0,1,2] l2,.num .i64 n3,.bool b4,.dig [0,1,2] l5,.num .i64 n6])):=by kernel_rfl
theorem B6k (s:Bool) (m:List Nat) (e:Int) (n:Int) (Q:AV→Prop):(evF Tryz.prog (look FJ) (lam []) true Tryz.f195 [.agg [.bool s,.dig [1] m,.num .i64 e],.num .i64 n] Q)=((dg (val m)=m∧m.length≤4096∧tz (val m)=0∧ -1099511627776≤e∧e+131072≤1099511627776∧1≤n)∧dyF (F6 (mk s m e) n).1 fun b1 l2 n3=>∀b4,b4=(F6 (mk s m e) n).snd→bif b4 then bif s then (dg (val m)=m∧m.length≤1048576∧ -1099511627776≤e∧e≤1099511627776)∧dyF (K0 (i64.wrap (C7 (mk s m e)-n))) fun b5 l6 n7=>(A5 (mk b1 l2 n3)=true∧A5 (mk b5 l6 n7)=true∧(l2=[]∨l6=[]∨ -300000≤n3-n7∧n3-n7≤300000))∧dyF (C2 (mk b1 l2 n3) (G9 (mk b5 l6 n7))) fun b8 l9 n10=>Q (.agg [.bool b8,.dig [0,1,2] l9,.num .i64 n10]) else Q (.agg [.bool b1,.dig [0,1,2] l2,.num .i64 n3]) else Q (.agg [.bool b1,.dig [0,1,2] l2,.num .i64 n3])):=by kernel_rfl
theorem C6m (s:Bool) (m:List Nat) (e:Int) (n:Int) (Q:AV→Prop):(evF Tryz.prog (look FJ) (lam []) true Tryz.f196 [.agg [.bool s,.dig [1] m,.num .i64 e],.num .i64 n] Q)=((dg (val m)=m∧m.length≤4096∧tz (val m)=0∧ -1099511627776≤e∧e+131072≤1099511627776∧1≤n)∧dyF (F6 (mk s m e) n).1 fun b1 l2 n3=>∀b4,b4=(F6 (mk s m e) n).snd→bif b4 then bif !s then (dg (val m)=m∧m.length≤1048576∧ -1099511627776≤e∧e≤1099511627776)∧dyF (K0 (i64.wrap (C7 (mk s m e)-n))) fun b5 l6 n7=>(A5 (mk b1 l2 n3)=true∧A5 (mk b5 l6 n7)=true∧(l2=[]∨l6=[]∨ -300000≤n3-n7∧n3-n7≤300000))∧dyF (C2 (mk b1 l2 n3) (mk b5 l6 n7)) fun b8 l9 n10=>Q (.agg [.bool b8,.dig [0,1,2] l9,.num .i64 n10]) else Q (.agg [.bool b1,.dig [0,1,2] l2,.num .i64 n3]) else Q (.agg [.bool b1,.dig [0,1,2] l2,.num .i64 n3])):=by kernel_rfl
theorem C2b (s:Bool) (m:List Nat) (e:Int) (s':Bool) (m':List Nat) (e':Int) (k:Int) (high:Bool) (Q:AV→Prop):(evF Tryz.prog (look FJ) (lam []) false Tryz.f165 [.agg [.bool s,.dig [1] m,.num .i64 e],.agg [.bool s',.dig [2] m',.num .i64 e'],.num .i64 k,.bool high] Q)=((A5 (mk s m e)=true∧A5 (mk s' m' e')=true∧m'≠[]∧1≤k∧k≤8192∧m.length≤1000∧m'.length≤1000)∧dyF (GC (mk s m e) (mk s' m' e') k).1 fun b1 l2 n3=>∀b4,b4=(GC (mk s m e) (mk s' m' e') k).snd→bif b4 then bif high then bif !b1 then (dg (val l2)=l2∧l2.length≤1048576∧ -1099511627776≤n3∧n3≤1099511627776)∧dyF (K0 (i64.wrap (C7 (mk b1 l2 n3)-k))) fun b5 l6 n7=>(A5 (mk b1 l2 n3)=true∧A5 (mk b5 l6 n7)=true∧(l2=[]∨l6=[]∨ -300000≤n3-n7∧n3-n7≤300000))∧dyF (C2 (mk b1 l2 n3) (mk b5 l6 n7)) fun b8 l9 n10=>Q (.agg [.bool b8,.dig [0] l9,.num .i64 n10]) else bif b4 then bif !high then bif b1 then (dg (val l2)=l2∧l2.length≤1048576∧ -1099511627776≤n3∧n3≤1099511627776)∧dyF (K0 (i64.wrap (C7 (mk b1 l2 n3)-k))) fun b11 l12 n13=>(A5 (mk b1 l2 n3)=true∧A5 (mk b11 l12 n13)=true∧(l2=[]∨l12=[]∨ -300000≤n3-n13∧n3-n13≤300000))∧dyF (C2 (mk b1 l2 n3) (G9 (mk b11 l12 n13))) fun b14 l15 n16=>Q (.agg [.bool b14,.dig [0] l15,.num .i64 n16]) else Q (.agg [.bool b1,.dig [0] l2,.num .i64 n3]) else Q (.agg [.bool b1,.dig [0] l2,.num .i64 n3]) else Q (.agg [.bool b1,.dig [0] l2,.num .i64 n3]) else bif b4 then bif !high then bif b1 then (dg (val l2)=l2∧l2.length≤1048576∧ -1099511627776≤n3∧n3≤1099511627776)∧dyF (K0 (i64.wrap (C7 (mk b1 l2 n3)-k))) fun b17 l18 n19=>(A5 (mk b1 l2 n3)=true∧A5 (mk b17 l18 n19)=true∧(l2=[]∨l18=[]∨ -300000≤n3-n19∧n3-n19≤300000))∧dyF (C2 (mk b1 l2 n3) (G9 (mk b17 l18 n19))) fun b20 l21 n22=>Q (.agg [.bool b20,.dig [0] l21,.num .i64 n22]) else Q (.agg [.bool b1,.dig [0] l2,.num .i64 n3]) else Q (.agg [.bool b1,.dig [0] l2,.num .i64 n3]) else Q (.agg [.bool b1,.dig [0] l2,.num .i64 n3]) else bif b4 then bif !high then bif b1 then (dg (val l2)=l2∧l2.length≤1048576∧ -1099511627776≤n3∧n3≤1099511627776)∧dyF (K0 (i64.wrap (C7 (mk b1 l2 n3)-k))) fun b23 l24 n25=>(A5 (mk b1 l2 n3)=true∧A5 (mk b23 l24 n25)=true∧(l2=[]∨l24=[]∨ -300000≤n3-n25∧n3-n25≤300000))∧dyF (C2 (mk b1 l2 n3) (G9 (mk b23 l24 n25))) fun b26 l27 n28=>Q (.agg [.bool b26,.dig [0] l27,.num .i64 n28]) else Q (.agg [.bool b1,.dig [0] l2,.num .i64 n3]) else Q (.agg [.bool b1,.dig [0] l2,.num .i64 n3]) else Q (.agg [.bool b1,.dig [0] l2,.num .i64 n3])):=by kernel_rfl
theorem A51 (s:Bool) (m:List Nat) (e:Int) (s':Bool) (m':List Nat) (e':Int) (n:Int) (Q:AV→Prop):(evF Tryz.prog (look FJ) (lam []) true Tryz.f45 [.agg [.bool s,.dig [1] m,.num .i64 e,.bool s',.dig [1] m',.num .i64 e'],.num .i64 n] Q)=(bif decide (i64.wrap (F0 (mk s m e)*F0 (mk s' m' e'))≤0) then Q (.tup [.agg [.bool false,.dig [0,1,2] [],.num .i64 0],.bool false]) else (dg (val m)=m∧m.length≤4096∧tz (val m)=0∧ -1099511627776≤e∧e+131072≤1099511627776∧1≤n)∧dyF (F6 (mk s m e) n).1 fun b1 l2 n3=>∀b4,b4=(F6 (mk s m e) n).snd→(dg (val m')=m'∧m'.length≤4096∧tz (val m')=0∧ -1099511627776≤e'∧e'+131072≤1099511627776∧1≤n)∧dyF (F6 (mk s' m' e') n).1 fun b5 l6 n7=>∀b8,b8=(F6 (mk s' m' e') n).snd→Q (.tup [.agg [.bool b1,.dig [0,1,2] l2,.num .i64 n3],.bool (DZ (mk b1 l2 n3) (mk b5 l6 n7))])):=by kernel_rfl
theorem B6j (s:Bool) (m:List Nat) (e:Int) (s':Bool) (m':List Nat) (e':Int) (n:Int) (Q:AV→Prop):(evF Tryz.prog (look FJ) (lam []) false Tryz.f102 [.agg [.bool s,.dig [1] m,.num .i64 e,.bool s',.dig [1] m',.num .i64 e'],.num .i64 n] Q)=(bif decide (F0 (mk s m e)>0) then (A5 (mk s m e)=true∧1≤n∧n≤8192)∧dyF (F6 (form false (isq (val (mk s m e).mag*2^U5 (val (mk s m e).mag) (mk s m e).exp n)) (((mk s m e).exp-(↑(U5 (val (mk s m e).mag) (mk s m e).exp n):Int))/2)) n).1 fun b1 l2 n3=>∀b4,b4=(C3 (mk s m e) n).snd→bif decide (F0 (mk s' m' e')>0) then (A5 (mk s' m' e')=true∧1≤n∧n≤8192)∧dyF (F6 (form false (isq (val (mk s' m' e').mag*2^U5 (val (mk s' m' e').mag) (mk s' m' e').exp n)) (((mk s' m' e').exp-(↑(U5 (val (mk s' m' e').mag) (mk s' m' e').exp n):Int))/2)) n).1 fun b5 l6 n7=>∀b8,b8=(C3 (mk s' m' e') n).snd→bif b8 then (dg (val l6)=l6∧l6.length≤1048576∧ -1099511627776≤n7∧n7≤1099511627776)∧dyF (K0 (i64.wrap (C7 (mk b5 l6 n7)-n))) fun b9 l10 n11=>(A5 (mk b5 l6 n7)=true∧A5 (mk b9 l10 n11)=true∧(l6=[]∨l10=[]∨ -300000≤n7-n11∧n7-n11≤300000))∧dyF (C2 (mk b5 l6 n7) (mk b9 l10 n11)) fun b12 l13 n14=>Q (.agg [.bool b1,.dig [0] l2,.num .i64 n3,.bool b12,.dig [0] l13,.num .i64 n14]) else Q (.agg [.bool b1,.dig [0] l2,.num .i64 n3,.bool b5,.dig [0] l6,.num .i64 n7]) else Q (.agg [.bool b1,.dig [0] l2,.num .i64 n3,.bool false,.dig [0] [],.num .i64 0]) else bif decide (F0 (mk s' m' e')>0) then (A5 (mk s' m' e')=true∧1≤n∧n≤8192)∧dyF (F6 (form false (isq (val (mk s' m' e').mag*2^U5 (val (mk s' m' e').mag) (mk s' m' e').exp n)) (((mk s' m' e').exp-(↑(U5 (val (mk s' m' e').mag) (mk s' m' e').exp n):Int))/2)) n).1 fun b15 l16 n17=>∀b18,b18=(C3 (mk s' m' e') n).snd→bif b18 then (dg (val l16)=l16∧l16.length≤1048576∧ -1099511627776≤n17∧n17≤1099511627776)∧dyF (K0 (i64.wrap (C7 (mk b15 l16 n17)-n))) fun b19 l20 n21=>(A5 (mk b15 l16 n17)=true∧A5 (mk b19 l20 n21)=true∧(l16=[]∨l20=[]∨ -300000≤n17-n21∧n17-n21≤300000))∧dyF (C2 (mk b15 l16 n17) (mk b19 l20 n21)) fun b22 l23 n24=>Q (.agg [.bool false,.dig [0] [],.num .i64 0,.bool b22,.dig [0] l23,.num .i64 n24]) else Q (.agg [.bool false,.dig [0] [],.num .i64 0,.bool b15,.dig [0] l16,.num .i64 n17]) else Q (.agg [.bool false,.dig [0] [],.num .i64 0,.bool false,.dig [0] [],.num .i64 0])):=by kernel_rfl
theorem A50 (f:Int) (a:Int) (b:Int) (Q:AV→Prop):(evF Tryz.prog (look FJ) (lam []) false Tryz.f41 [.num .u8 f,.agg [.num .u64 a,.num .u64 b]] Q)=((H9 f a=0∧D3 f a.toNat<4)∧dyF (S6 f a.toNat) fun b1 l2 n3=>(H9 f b=0∧D3 f b.toNat<4)∧dyF (S6 f b.toNat) fun b4 l5 n6=>(A5 (mk b1 l2 n3)=true∧A5 (mk b1 l2 n3)=true)∧dyF (E6 (mk b1 l2 n3) (mk b1 l2 n3)) fun b7 l8 n9=>(A5 (mk b4 l5 n6)=true∧A5 (mk b4 l5 n6)=true)∧dyF (E6 (mk b4 l5 n6) (mk b4 l5 n6)) fun b10 l11 n12=>(A5 (mk b7 l8 n9)=true∧A5 (mk b10 l11 n12)=true∧(l8=[]∨l11=[]∨ -300000≤n9-n12∧n9-n12≤300000))∧dyF (C2 (mk b7 l8 n9) (mk b10 l11 n12)) fun b13 l14 n15=>Q (.agg [.bool b13,.dig [0] l14,.num .i64 n15])):=by kernel_rfl
theorem A2s (f:Int) (m:Int) (s:Bool) (d:List Nat) (e:Int) (Q:AV→Prop):(evF Tryz.prog (look FJ) (lam []) false Tryz.f108 [.num .u8 f,.num .u8 m,.agg [.bool s,.dig [3] d,.num .i64 e]] Q)=(small (mk s d e)∧dyF (CU (mk s d e) true) fun b1 l2 n3=>(L2 f m=0∧small (mk b1 l2 n3))∧∀n4,n4=(↑(H8 f m (mk b1 l2 n3)).fst:Int)→∀n5,n5=(H8 f m (mk b1 l2 n3)).snd→Q (.tup [.num .u64 n4,.num .u8 n5])):=by kernel_rfl
theorem B6m (f:Int) (x:Int) (Q:AV→Prop):(evF Tryz.prog (look FJ) (lam []) false Tryz.f34 [.num .u8 f,.num .u8 x] Q)=(isF f∧Q (.agg [.num .u64 (↑(T7 f):Int),.num .u8 x])):=by kernel_rfl
theorem B6n (f:Int) (neg:Bool) (Q:AV→Prop):(evF Tryz.prog (look FJ) (lam []) false Tryz.f35 [.num .u8 f,.bool neg] Q)=(isF f∧Q (.agg [.num .u64 (↑(D5 f neg+R1 f (0:Nat)):Int),.num .u8 0])):=by kernel_rfl
theorem C2c (f:Int) (neg:Bool) (Q:AV→Prop):(evF Tryz.prog (look FJ) (lam []) false Tryz.f33 [.num .u8 f,.bool neg] Q)=(isF f∧Q (.agg [.num .u64 (↑(D5 f neg+N6 f):Int),.num .u8 0])):=by kernel_rfl
theorem C2d (f:Int) (w:Int) (Q:AV→Prop):(evF Tryz.prog (look FJ) (lam []) false Tryz.f31 [.num .u8 f,.num .u64 w] Q)=(H9 f w=0∧bif !decide (D3 f w.toNat=5) then H9 f w=0∧∀b1,b1=o9 f w.toNat→∀n2,n2=(↑(Y3 f w.toNat):Int)→∀n3,n3=(↑(wFr f w.toNat):Int)→Q (.bool b1) else Q (.bool false)):=by kernel_rfl
theorem A53 (m:Int) (Q:AV→Prop):(evF Tryz.prog (look FJ) (lam []) false Tryz.f39 [.num .u8 m] Q)=(bif decide (m=4) then Q (.num .u8 5) else bif decide (m=5) then Q (.num .u8 4) else Q (.num .u8 m)):=by kernel_rfl
theorem B6l (a:Int) (b:Int) (c:Int) (d:Int) (Q:AV→Prop):(evF Tryz.prog (look FJ) (lam []) false Tryz.f32 [.agg [.num .u64 a,.num .u8 b],.agg [.num .u64 c,.num .u8 d]] Q)=(Q (.agg [.num .u64 a,.num .u64 c,.num .u8 b,.num .u8 d])):=by kernel_rfl
theorem C2a (s:Bool) (m:List Nat) (e:Int) (s':Bool) (m':List Nat) (e':Int) (n:Int) (Q:AV→Prop):(evF Tryz.prog (look A72) (lam []) true Tryz.f164 [.agg [.bool s,.dig [1] m,.num .i64 e],.agg [.bool s',.dig [2] m',.num .i64 e'],.num .i64 n] Q)=((mid (mk s m e)∧s=false∧1≤n∧n≤8192)∧dyF (O7 (mk s m e) n false) fun b1 l2 n3=>(mid (mk s' m' e')∧s'=false∧1≤n∧n≤8192)∧dyF (O7 (mk s' m' e') n true) fun b4 l5 n6=>Q (.agg [.bool b1,.dig [0,1,2,3] l2,.num .i64 n3,.bool b4,.dig [0,1,2,3] l5,.num .i64 n6])):=by kernel_rfl
theorem B6h (s:Bool) (m:List Nat) (e:Int) (s':Bool) (m':List Nat) (e':Int) (t:Bool) (l:List Nat) (i:Int) (t':Bool) (l':List Nat) (i':Int) (n:Int) (Q:AV→Prop):(evF Tryz.prog (look A72) (lam []) false Tryz.f106 [.agg [.bool s,.dig [1] m,.num .i64 e,.bool s',.dig [1] m',.num .i64 e'],.agg [.bool t,.dig [2] l,.num .i64 i,.bool t',.dig [2] l',.num .i64 i'],.num .i64 n] Q)=(bif s then bif s' then (mid (mk s m e)∧mid (mk t l i)∧l≠[]∧1≤n∧n≤8192∧m.length≤1000∧l.length≤1000)∧dyF (V5 (mk s m e) (mk t l i) n false) fun b1 l2 n3=>(mid (mk s' m' e')∧mid (mk t' l' i')∧l'≠[]∧1≤n∧n≤8192∧m'.length≤1000∧l'.length≤1000)∧dyF (V5 (mk s' m' e') (mk t' l' i') n true) fun b4 l5 n6=>Q (.agg [.bool b1,.dig [0] l2,.num .i64 n3,.bool b4,.dig [0] l5,.num .i64 n6]) else (mid (mk s m e)∧mid (mk t l i)∧l≠[]∧1≤n∧n≤8192∧m.length≤1000∧l.length≤1000)∧dyF (V5 (mk s m e) (mk t l i) n false) fun b7 l8 n9=>(mid (mk s' m' e')∧mid (mk t l i)∧l≠[]∧1≤n∧n≤8192∧m'.length≤1000∧l.length≤1000)∧dyF (V5 (mk s' m' e') (mk t l i) n true) fun b10 l11 n12=>Q (.agg [.bool b7,.dig [0] l8,.num .i64 n9,.bool b10,.dig [0] l11,.num .i64 n12]) else bif s' then (mid (mk s m e)∧mid (mk t' l' i')∧l'≠[]∧1≤n∧n≤8192∧m.length≤1000∧l'.length≤1000)∧dyF (V5 (mk s m e) (mk t' l' i') n false) fun b13 l14 n15=>(mid (mk s' m' e')∧mid (mk t' l' i')∧l'≠[]∧1≤n∧n≤8192∧m'.length≤1000∧l'.length≤1000)∧dyF (V5 (mk s' m' e') (mk t' l' i') n true) fun b16 l17 n18=>Q (.agg [.bool b13,.dig [0] l14,.num .i64 n15,.bool b16,.dig [0] l17,.num .i64 n18]) else (mid (mk s m e)∧mid (mk t' l' i')∧l'≠[]∧1≤n∧n≤8192∧m.length≤1000∧l'.length≤1000)∧dyF (V5 (mk s m e) (mk t' l' i') n false) fun b19 l20 n21=>(mid (mk s' m' e')∧mid (mk t l i)∧l≠[]∧1≤n∧n≤8192∧m'.length≤1000∧l.length≤1000)∧dyF (V5 (mk s' m' e') (mk t l i) n true) fun b22 l23 n24=>Q (.agg [.bool b19,.dig [0] l20,.num .i64 n21,.bool b22,.dig [0] l23,.num .i64 n24])):=by kernel_rfl
theorem A2t (f:Int) (m:Int) (s:Bool) (d:List Nat) (e:Int) (Q:AV→Prop):(evF Tryz.prog (look A72) (lam []) false Tryz.f46 [.num .u8 f,.num .u8 m,.agg [.bool s,.dig [3] d,.num .i64 e]] Q)=((L2 f m=0∧small (mk s d e)∧small (CU (mk s d e) true))∧∀n1,n1=(↑(H8 f m (CU (mk s d e) true)).fst:Int)→∀n2,n2=(H8 f m (CU (mk s d e) true)).snd→Q (.agg [.num .u64 n1,.num .u8 n2])):=by kernel_rfl
theorem B6o (f:Int) (m:Int) (s:Bool) (l:List Nat) (e:Int) (s':Bool) (l':List Nat) (e':Int) (neg:Bool) (Q:AV→Prop):(evF Tryz.prog (look A72) (lam []) false Tryz.f43 [.num .u8 f,.num .u8 m,.agg [.bool s,.dig [3] l,.num .i64 e],.agg [.bool s',.dig [4] l',.num .i64 e'],.bool neg] Q)=((A5 (mk s' l' e')=true∧A5 (mk s l e)=true∧(l'=[]∨l=[]∨ -300000≤e'-e∧e'-e≤300000))∧dyF (C2 (mk s' l' e') (mk s l e)) fun b1 l2 n3=>(l2=[]∨ -1099511627776≤n3∧n3≤1099511627776∧(-1099511627776:Int)≤(-1:Int)∧(-1:Int)≤1099511627776)∧∀b4,b4=b1→∀(l5:List Nat),l5=l2→∀(n6:Int),(n6=if l2=[] then n3 else n3+(-1:Int))→(L2 f m=0∧b4=false∧small (mk b4 l5 n6))∧∀n7,n7=(↑(S3 f m (mk b4 l5 n6)).fst:Int)→∀n8,n8=(S3 f m (mk b4 l5 n6)).snd→bif neg then (A5 (mk s' l' e')=true∧A5 (mk s l e)=true∧(l'=[]∨l=[]∨ -300000≤e'-e∧e'-e≤300000))∧dyF (C2 (mk s' l' e') (G9 (mk s l e))) fun b9 l10 n11=>(l10=[]∨ -1099511627776≤n11∧n11≤1099511627776∧(-1099511627776:Int)≤(-1:Int)∧(-1:Int)≤1099511627776)∧∀b12,b12=b9→∀(l13:List Nat),l13=l10→∀(n14:Int),(n14=if l10=[] then n11 else n11+(-1:Int))→(L2 f (if m=4 then (5:Int) else if m=5 then (4:Int) else m)=0∧b12=false∧small (mk b12 l13 n14))∧∀n15,n15=(↑(S3 f (if m=4 then (5:Int) else if m=5 then (4:Int) else m) (mk b12 l13 n14)).fst:Int)→∀n16,n16=(S3 f (if m=4 then (5:Int) else if m=5 then (4:Int) else m) (mk b12 l13 n14)).snd→isF f∧Q (.tup [.agg [.num .u64 n7,.num .u8 n8],.agg [.num .u64 (↑(D5 f neg+R1 f n15.toNat):Int),.num .u8 n16]]) else (A5 (mk s' l' e')=true∧A5 (mk s l e)=true∧(l'=[]∨l=[]∨ -300000≤e'-e∧e'-e≤300000))∧dyF (C2 (mk s' l' e') (G9 (mk s l e))) fun b17 l18 n19=>(l18=[]∨ -1099511627776≤n19∧n19≤1099511627776∧(-1099511627776:Int)≤(-1:Int)∧(-1:Int)≤1099511627776)∧∀b20,b20=b17→∀(l21:List Nat),l21=l18→∀(n22:Int),(n22=if l18=[] then n19 else n19+(-1:Int))→(L2 f m=0∧b20=false∧small (mk b20 l21 n22))∧∀n23,n23=(↑(S3 f m (mk b20 l21 n22)).fst:Int)→∀n24,n24=(S3 f m (mk b20 l21 n22)).snd→isF f∧Q (.tup [.agg [.num .u64 n7,.num .u8 n8],.agg [.num .u64 (↑(D5 f neg+R1 f n23.toNat):Int),.num .u8 n24]])):=by kernel_rfl
theorem B6i (s:Bool) (m:List Nat) (e:Int) (s':Bool) (m':List Nat) (e':Int) (t:Bool) (l:List Nat) (i:Int) (t':Bool) (l':List Nat) (i':Int) (n:Int) (Q:AV→Prop):(evF Tryz.prog (look D1j) (lam []) true Tryz.f105 [.agg [.bool s,.dig [1] m,.num .i64 e,.bool s',.dig [1] m',.num .i64 e'],.agg [.bool t,.dig [2] l,.num .i64 i,.bool t',.dig [2] l',.num .i64 i'],.num .i64 n] Q)=((A5 (mk s m e)=true∧A5 (mk t l i)=true∧(m=[]∨l=[]∨ -300000≤e-i∧e-i≤300000))∧dyF (C2 (mk s m e) (mk t l i)) fun b1 l2 n3=>(A5 (mk s' m' e')=true∧A5 (mk t' l' i')=true∧(m'=[]∨l'=[]∨ -300000≤e'-i'∧e'-i'≤300000))∧dyF (C2 (mk s' m' e') (mk t' l' i')) fun b4 l5 n6=>(mid (mk b1 l2 n3)∧mid (mk b4 l5 n6)∧b1=false∧b4=false∧1≤n∧n≤8192)∧dyF (O7 (mk b1 l2 n3) n false) fun b7 l8 n9=>dyF (O7 (mk b4 l5 n6) n true) fun b10 l11 n12=>Q (.agg [.bool b7,.dig [0,1,2,3] l8,.num .i64 n9,.bool b10,.dig [0,1,2,3] l11,.num .i64 n12])):=by kernel_rfl
theorem A52 (s:Bool) (d:List Nat) (e:Int) (s':Bool) (d':List Nat) (e':Int) (n:Int) (Q:AV→Prop):(evF Tryz.prog (look D1k) (lam []) false Tryz.f44 [.agg [.bool s,.dig [1] d,.num .i64 e],.agg [.bool s',.dig [2] d',.num .i64 e'],.num .i64 n] Q)=(∀b1,b1=false→∀(l2:List Nat),l2=d→∀n3,n3=e→(A5 (mk s d e)=true∧A5 (mk s d e)=true)∧dyF (E6 (mk s d e) (mk s d e)) fun b4 l5 n6=>(A5 (mk s' d' e')=true∧A5 (mk s' d' e')=true)∧dyF (E6 (mk s' d' e') (mk s' d' e')) fun b7 l8 n9=>(A5 (mk b4 l5 n6)=true∧A5 (mk b7 l8 n9)=true∧(l5=[]∨l8=[]∨ -300000≤n6-n9∧n6-n9≤300000))∧dyF (C2 (mk b4 l5 n6) (mk b7 l8 n9)) fun b10 l11 n12=>dyF (mk b10 l11 n12) fun b13 l14 n15=>dyF (mk b10 l11 n12) fun b16 l17 n18=>(A5 (mk b13 l14 n15)=true∧A5 (mk b16 l17 n18)=true∧b13=false∧b16=false∧l14≠[]∧l17≠[]∧1≤n∧n≤8192∧ -16777216≤C7 (C3 (mk b16 l17 n18) n).fst-n∧C7 (C3 (mk b16 l17 n18) n).fst-n≤16777216)∧dyF (F6 (form false (isq (val (mk b13 l14 n15).mag*2^U5 (val (mk b13 l14 n15).mag) (mk b13 l14 n15).exp n)) (((mk b13 l14 n15).exp-(↑(U5 (val (mk b13 l14 n15).mag) (mk b13 l14 n15).exp n):Int))/2)) n).1 fun b19 l20 n21=>dyF (Y9 (mk b16 l17 n18) n) fun b22 l23 n24=>dyF (mk b1 l2 n3) fun b25 l26 n27=>dyF (mk b1 l2 n3) fun b28 l29 n30=>(A5 (mk b19 l20 n21)=true∧A5 (mk b22 l23 n24)=true∧A5 (mk b25 l26 n27)=true∧A5 (mk b28 l29 n30)=true∧(l20=[]∨l26=[]∨ -300000≤n21-n27∧n21-n27≤300000)∧(l23=[]∨l29=[]∨ -300000≤n24-n30∧n24-n30≤300000)∧mid (C2 (mk b19 l20 n21) (mk b25 l26 n27))∧mid (C2 (mk b22 l23 n24) (mk b28 l29 n30))∧(C2 (mk b19 l20 n21) (mk b25 l26 n27)).neg=false∧(C2 (mk b22 l23 n24) (mk b28 l29 n30)).neg=false∧1≤n∧n≤8192)∧dyF (O7 (C2 (mk b19 l20 n21) (mk b25 l26 n27)) n false) fun b31 l32 n33=>dyF (O7 (C2 (mk b22 l23 n24) (mk b28 l29 n30)) n true) fun b34 l35 n36=>(mid (mk b31 l32 n33)∧mid (mk b34 l35 n36)∧l32≠[]∧l35≠[]∧(-1000:Int)≤(-1:Int)∧(-1:Int)≤1000)∧dyF (shD (mk b31 l32 n33) (-1:Int)) fun b37 l38 n39=>dyF (shD (mk b34 l35 n36) (-1:Int)) fun b40 l41 n42=>(A5 (mk b37 l38 n39)=true∧A5 (mk b40 l41 n42)=true∧b37=false∧b40=false∧l38≠[]∧l41≠[]∧1≤n∧n≤8192∧ -16777216≤C7 (C3 (mk b40 l41 n42) n).fst-n∧C7 (C3 (mk b40 l41 n42) n).fst-n≤16777216)∧dyF (F6 (form false (isq (val (mk b37 l38 n39).mag*2^U5 (val (mk b37 l38 n39).mag) (mk b37 l38 n39).exp n)) (((mk b37 l38 n39).exp-(↑(U5 (val (mk b37 l38 n39).mag) (mk b37 l38 n39).exp n):Int))/2)) n).1 fun b43 l44 n45=>dyF (Y9 (mk b40 l41 n42) n) fun b46 l47 n48=>dyF (mk s' d' e') fun b49 l50 n51=>dyF (mk s' d' e') fun b52 l53 n54=>(mid (mk b49 l50 n51)∧mid (mk b52 l53 n54)∧l50≠[]∧l53≠[]∧(-1000:Int)≤(-1:Int)∧(-1:Int)≤1000)∧dyF (shD (mk b49 l50 n51) (-1:Int)) fun b55 l56 n57=>dyF (shD (mk b52 l53 n54) (-1:Int)) fun b58 l59 n60=>(b55=false∧b58=false∧mid (mk b55 l56 n57)∧mid (mk b58 l59 n60)∧mid (mk b43 l44 n45)∧mid (mk b46 l47 n48)∧l44≠[]∧l47≠[]∧1≤n∧n≤8192∧l56.length≤1000∧l59.length≤1000∧l44.length≤1000∧l47.length≤1000)∧dyF (V5 (mk b55 l56 n57) (mk b46 l47 n48) n false) fun b61 l62 n63=>dyF (V5 (mk b58 l59 n60) (mk b43 l44 n45) n true) fun b64 l65 n66=>bif s then Q (.tup [.agg [.bool b61,.dig [0] l62,.num .i64 n63,.bool b64,.dig [0] l65,.num .i64 n66],.agg [.bool b43,.dig [0] l44,.num .i64 n45,.bool b46,.dig [0] l47,.num .i64 n48]]) else Q (.tup [.agg [.bool b43,.dig [0] l44,.num .i64 n45,.bool b46,.dig [0] l47,.num .i64 n48],.agg [.bool b61,.dig [0] l62,.num .i64 n63,.bool b64,.dig [0] l65,.num .i64 n66]])):=by kernel_rfl
end Go.AI

namespace Go.Dy
theorem C5g {d:Dyd} {n:Int} (h:d.neg=false):O7 d n false=(F6 d n).1:=by
 unfold O7 CL
 rw [h,if_neg (by cases (F6 d n).2<;>decide)]
theorem B8t {d:Dyd} {n:Int} (h:d.neg=false):O7 d n true=if (F6 d n).2=true then C2 (F6 d n).1 (K0 (C7 d-n)) else (F6 d n).1:=by
 unfold O7 CL
 rw [h]
 cases (F6 d n).2<;>rfl
theorem A7i {a b:Dyd} (ha:a.neg=false) (hb:b.neg=false):(C2 a b).neg=false:=by
 unfold C2
 rw [v7 ha,v7 hb]
 unfold C8
 rw [decide_eq_false (by omega)]
 exact OW _ _
theorem D0h {d:Dyd} (hd:A5 d=true) (hs:d.neg=false) (h0:d.mag≠[]) {n:Nat} (hn:1≤n) (hn2:n≤8192):(C3 d n).1.neg=false∧(Y9 d n).neg=false:=by
 have h:=(DC hd hs h0 hn hn2).2.2.1
 refine ⟨h,?_⟩
 unfold Y9
 cases (C3 d n).2
 ·exact h
 ·exact A7i h rfl
theorem D2m {d:Dyd} (h:mid d) (h0:d.mag≠[]) {n:Int} (hn:1≤n) (hl:(F6 d n).2=true):C7 d-n≤(F6 d n).1.exp∧(F6 d n).1.exp≤C7 d:=by
 have hM:=Q1 (C1 (s:=d.neg) (e:=d.exp) h.1) h0
 have ht:C7 d=d.exp+bl (val d.mag):=by unfold C7;rw [if_neg h0]
 unfold F6 at hl ⊢
 split at hl
 ·cases hl
 ·rename_i c
  have hov:HF d n=(bl (val d.mag):Int)-n:=rfl
  rw [if_neg c]
  simp only
  unfold headD
  have hq:bl (val d.mag/2^(HF d n).toNat)=n.toNat:=by rw [C5];omega
  generalize val d.mag/2^(HF d n).toNat=q at*
  have hq0:q≠0:=fun e=>by rw [e,K2] at hq;omega
  have ht2:=Z2 hq0
  rw [H6 hq0]
  simp only
  omega
theorem LC (x:Dyd):E6 x x=E6 (B7 x) (B7 x):=by
 unfold E6 B7
 cases x.neg<;>rfl
theorem A6k {f:Int} (hf:isF f) {w z:Nat} (hw:w=D5 f false+z) (hz:z≤N6 f):YE f w=D5 f true+R1 f w∧D5 f false+R1 f w=w:=by
 have hi:=IT hf
 have h0:D5 f false=0:=rfl
 rw [h0,N9] at hw
 subst hw
 have hs:R1 f w=w:=F9 (by omega)
 have hc:D3 f w≠5:=by
  unfold D3
  rw [hs]
  (repeat' split)<;>omega
 have hn:o9 f w=false:=decide_eq_false (by omega)
 refine ⟨?_,by rw [h0,hs,N9]⟩
 unfold YE
 rw [if_neg hc,hn,if_neg (by decide),hs,Nat.add_comm]
 rfl
end Go.Dy
namespace Go.AI
open Go Go.RowKit Go.Proofs
set_option linter.unusedVariables false
set_option maxRecDepth 100000
set_option maxHeartbeats 1000000
theorem A95 (args:List AV) (s:Spec) (h:B97 args=some s) (hp:C6 s.pre True):Contract Tryz.prog Inv 103 args s.res:=by
 unfold B97 at h
 split at h
 ·cases h
  refine A4 true X5 Tryz.func103 (by kernel_rfl) (by kernel_rfl) fun hok=> ?_
  rw [B0t]
  rfl
 ·cases h
theorem A96 (args:List AV) (s:Spec) (h:B98 args=some s) (hp:C6 s.pre True):Contract Tryz.prog Inv 104 args s.res:=by
 unfold B98 at h
 split at h
 ·cases h
  rename_i s m e s' m' e' n
  obtain ⟨⟨⟨a1,a2,a3⟩,⟨b1,b2,b3⟩,hm,hm',n1,n2⟩, -⟩:=hp
  simp only at a2 a3 b2 b3
  refine A4 true X5 Tryz.func104 (by kernel_rfl) (by kernel_rfl) fun hok=> ?_
  rw [B0u]
  have e1:Dy.shD ⟨s,m,e⟩ n=⟨s,m,e+n⟩:=by unfold Dy.shD;rw [if_neg hm]
  have e2:Dy.shD ⟨s',m',e'⟩ n=⟨s',m',e'+n⟩:=by unfold Dy.shD;rw [if_neg hm']
  rw [e1,e2]
  refine ⟨.inr ⟨by omega,by omega,by omega,by omega⟩,eq2 ?_⟩
  intro n3 h3
  refine ⟨.inr ⟨by omega,by omega,by omega,by omega⟩,eq2 ?_⟩
  intro n6 h6
  rw [if_neg hm] at h3
  rw [if_neg hm'] at h6
  rw [h3,h6]
  rfl
 ·cases h
theorem A92 {s:Bool} {m:List Nat} {e:Int} (h:Dy.A5 ⟨s,m,e⟩=true):Dy.dg (Dy.val m)=m∧m.length≤4096∧Dy.tz (Dy.val m)=0:=by
 refine ⟨Dy.K5 (Dy.C1 h),Dy.J4 (Dy.C1 h),?_⟩
 by_cases c:m=[]
 ·subst c;rfl
 ·exact Dy.WQ (Dy.FB h c)
theorem B3f (args:List AV) (s:Spec) (h:C8h args=some s) (hp:C6 s.pre True):Contract Tryz.prog Inv 195 args s.res:=by
 unfold C8h at h
 split at h
 ·cases h
  rename_i s m e n
  obtain ⟨⟨hmid,hs,n1,n2⟩, -⟩:=hp
  subst hs
  refine A4 true X5 Tryz.func195 (by kernel_rfl) (by kernel_rfl) fun hok=> ?_
  obtain ⟨t1,t2,t3⟩:=A92 hmid.1
  have x1:=hmid.2.1
  have x2:=hmid.2.2
  simp only at x1 x2
  rw [B6k,Dy.C5g rfl]
  refine ⟨⟨t1,t2,t3,by omega,by omega,n1⟩,B4 fun b1 l2 n3 d1=> ?_⟩
  intro b4 h4
  exact A8 (fun c=>B1 rfl (V4 d1)) (fun c=>V4 d1)
 ·cases h
theorem C5u (args:List AV) (s:Spec) (h:jUp args=some s) (hp:C6 s.pre True):Contract Tryz.prog Inv 196 args s.res:=by
 unfold jUp at h
 split at h
 ·cases h
  rename_i s m e n
  obtain ⟨⟨hmid,hs,n1,n2⟩, -⟩:=hp
  subst hs
  refine A4 true X5 Tryz.func196 (by kernel_rfl) (by kernel_rfl) fun hok=> ?_
  obtain ⟨t1,t2,t3⟩:=A92 hmid.1
  have ht:=Dy.B0o hmid
  have x1:=hmid.2.1
  have x2:=hmid.2.2
  simp only at x1 x2
  rw [C6m,Dy.B8t rfl]
  refine ⟨⟨t1,t2,t3,by omega,by omega,n1⟩,B4 fun b1 l2 n3 d1=> ?_⟩
  intro b4 h4
  refine A8 (fun c=>B5 rfl ?_) (fun c=> ?_)
  ·rw [c] at h4
   have hm0:m≠[]:=fun e0=>by
    subst e0
    have:(Dy.F6 ⟨false,[],e⟩ n).2=false:=by
     unfold Dy.F6
     rw [if_pos (by show ((Dy.bl 0:Nat):Int)-n≤0;rw [Dy.K2];omega)]
    rw [this] at h4
    cases h4
   have hg:=Dy.D2m hmid hm0 n1 h4.symm
   have x3:n3=(Dy.F6 ⟨false,m,e⟩ n).1.exp:=congrArg Dy.Dyd.exp d1
   rw [wrap_i64 (by omega) (by omega)]
   refine ⟨⟨t1,by omega,by omega,by omega⟩,B4 fun b5 l6 n7 d5=> ?_⟩
   have x7:n7=Dy.C7 ⟨false,m,e⟩-n:=congrArg Dy.Dyd.exp d5
   rw [d1,d5]
   refine ⟨⟨Dy.FY hmid n1,Dy.KC ⟨by omega,by omega⟩,.inr (.inr ⟨by omega,by omega⟩)⟩,B4 fun b8 l9 n10 d8=> ?_⟩
   rw [if_pos h4.symm]
   exact V4 d8
  ·rw [c] at h4
   rw [if_neg (by rw [←h4];decide)]
   exact V4 d1
 ·cases h
theorem B9z (args:List AV) (s:Spec) (h:D4x args=some s) (hp:C6 s.pre True):Contract Tryz.prog Inv 165 args s.res:=by
 unfold D4x at h
 split at h
 ·cases h
  rename_i s m e s' m' e' k high
  obtain ⟨⟨⟨hd,e1,e2⟩,⟨hd',e3,e4⟩,m0',hk1,hk,hl,hl'⟩, -⟩:=hp
  simp only at e1 e2 e3 e4
  refine A4 false X5 Tryz.func165 (by kernel_rfl) (by kernel_rfl) fun hok=> ?_
  have lb:∀{l:List Nat},Dy.dg (Dy.val l)=l→l.length≤1000→Dy.bl (Dy.val l)≤32000:=fun {l} h1 h2=>(Dy.J3 (n:=Dy.val l) (k:=1000)).1 (by rw [h1];exact h2)
  have fa:Dy.Fit ⟨s,m,e⟩ 32000 1000000:=⟨hd,lb (Dy.K5 (Dy.C1 hd)) hl,by simp only;omega,by simp only;omega⟩
  have fb:Dy.Fit ⟨s',m',e'⟩ 32000 1000000:=⟨hd',lb (Dy.K5 (Dy.C1 hd')) hl',by simp only;omega,by simp only;omega⟩
  have fq:=Dy.A1w fa fb (n:=k) ⟨hk1,hk⟩ (by decide)
  have hE:Dy.V5 ⟨s,m,e⟩ ⟨s',m',e'⟩ k high=Dy.CL (Dy.GC ⟨s,m,e⟩ ⟨s',m',e'⟩ k).1 (Dy.GC ⟨s,m,e⟩ ⟨s',m',e'⟩ k).2 high (Dy.GC ⟨s,m,e⟩ ⟨s',m',e'⟩ k).1.neg (Dy.C7 (Dy.GC ⟨s,m,e⟩ ⟨s',m',e'⟩ k).1-k):=rfl
  rw [C2b,hE]
  refine ⟨⟨hd,hd',m0',hk1,hk,hl,hl'⟩,B4 fun b1 l2 n3 d1=> ?_⟩
  intro b4 h4
  rw [←h4,←d1]
  rw [←d1] at fq
  have f1:=fq.lo
  have f2:=fq.hi
  have f3:=fq.bits
  have ft:=Dy.C4x fq
  have hdg:=Dy.K5 (Dy.C1 fq.may)
  have hln:=Dy.J4 (Dy.C1 fq.may)
  simp only at f1 f2 f3
  have hu:IntKind.i64.wrap (Dy.C7 ⟨b1,l2,n3⟩-k)=Dy.C7 ⟨b1,l2,n3⟩-k:=wrap_i64 (by omega) (by omega)
  have hum:Dy.A5 (Dy.K0 (Dy.C7 ⟨b1,l2,n3⟩-k))=true:=Dy.KC ⟨by omega,by omega⟩
  have hgap:l2=[]∨(-300000≤n3-(Dy.C7 ⟨b1,l2,n3⟩-k)∧n3-(Dy.C7 ⟨b1,l2,n3⟩-k)≤300000):=by
   by_cases c:l2=[]
   ·exact .inl c
   ·refine .inr ?_
    have ht:Dy.C7 ⟨b1,l2,n3⟩=n3+Dy.bl (Dy.val l2):=by unfold Dy.C7;simp only [if_neg c]
    rw [ht]
    omega
  rw [hu]
  unfold Dy.CL
  have un:∀{b:Bool} {l:List Nat} {n:Int},Dy.Dyd.mk b l n=Dy.K0 (Dy.C7 ⟨b1,l2,n3⟩-k)→n=Dy.C7 ⟨b1,l2,n3⟩-k:=fun h=>by unfold Dy.K0 at h;cases h;rfl
  cases b4<;>cases high<;>cases b1
  ·rfl
  ·rfl
  ·rfl
  ·rfl
  ·rfl
  ·refine ⟨⟨hdg,by omega,by omega,by omega⟩,B4 fun b5 l6 n7 d5=> ?_⟩
   have hn7:=un d5
   rw [d5]
   refine ⟨⟨fq.may,hum,?_⟩,B4 fun b8 l9 n10 d8=> ?_⟩
   ·rw [hn7];rcases hgap with c|c;exact .inl c;exact .inr (.inr c)
   ·rw [V4 d8]
    rfl
  ·refine ⟨⟨hdg,by omega,by omega,by omega⟩,B4 fun b5 l6 n7 d5=> ?_⟩
   have hn7:=un d5
   rw [d5]
   refine ⟨⟨fq.may,hum,?_⟩,B4 fun b8 l9 n10 d8=> ?_⟩
   ·rw [hn7];rcases hgap with c|c;exact .inl c;exact .inr (.inr c)
   ·rw [V4 d8]
    rfl
  ·rfl
 ·cases h
theorem A2b (d:Dy.Dyd): -1≤Dy.F0 d∧Dy.F0 d≤1:=by
 unfold Dy.F0
 by_cases h:d.mag=[]
 ·rw [if_pos h];decide
 ·rw [if_neg h]
  split<;>decide
theorem A3w (args:List AV) (s:Spec) (h:A89 args=some s) (hp:C6 s.pre True):Contract Tryz.prog Inv 45 args s.res:=by
 unfold A89 at h
 split at h
 ·cases h
  rename_i s m e s' m' e' n
  obtain ⟨⟨hd,hd',n1⟩, -⟩:=hp
  refine A4 true X5 Tryz.func45 (by kernel_rfl) (by kernel_rfl) fun hok=> ?_
  rw [A51]
  have g1:=A2b ⟨s,m,e⟩
  have g2:=A2b ⟨s',m',e'⟩
  have hw:IntKind.i64.wrap (Dy.F0 ⟨s,m,e⟩*Dy.F0 ⟨s',m',e'⟩)=Dy.F0 ⟨s,m,e⟩*Dy.F0 ⟨s',m',e'⟩:=by
   generalize Dy.F0 ⟨s,m,e⟩=a at*
   generalize Dy.F0 ⟨s',m',e'⟩=c at*
   rcases (by omega:a= -1∨a=0∨a=1) with h|h|h<;>rcases (by omega:c= -1∨c=0∨c=1) with h'|h'|h'<;>subst h h'<;>decide
  rw [hw]
  refine A8 (fun h=> ?_) (fun h=> ?_)
  ·rw [h]
   rfl
  ·rw [h]
   have x1:=Dy.J2 hd
   have x2:=Dy.J2 hd'
   obtain ⟨t1,t2,t3⟩:=A92 hd
   obtain ⟨t4,t5,t6⟩:=A92 hd'
   refine ⟨⟨t1,t2,t3,by omega,by omega,n1⟩,B4 fun b1 l2 n3 d1=> ?_⟩
   intro b4 _
   refine ⟨⟨t4,t5,t6,by omega,by omega,n1⟩,B4 fun b5 l6 n7 d5=> ?_⟩
   intro b8 _
   rw [d1,d5,V4 d1]
   rfl
 ·cases h
theorem B3e (args:List AV) (s:Spec) (h:C8m args=some s) (hp:C6 s.pre True):Contract Tryz.prog Inv 102 args s.res:=by
 unfold C8m at h
 split at h
 ·cases h
  rename_i s m e s' m' e' n
  obtain ⟨⟨p1,p2,rfl,rfl,p3,p4,n1,n2,p5,p6⟩, -⟩:=hp
  refine A4 false X5 Tryz.func102 (by kernel_rfl) (by kernel_rfl) fun hok=> ?_
  obtain ⟨N,rfl⟩:=C4 (show 0≤n by omega)
  obtain ⟨q1,q2,q3, -,q5⟩:=Dy.DC p2 rfl p4 (n:=N) (by omega) (by omega)
  have g1:Dy.F0 ⟨false,m,e⟩=1:=by unfold Dy.F0;rw [if_neg p3];rfl
  have g2:Dy.F0 ⟨false,m',e'⟩=1:=by unfold Dy.F0;rw [if_neg p4];rfl
  rw [B6j,g1,g2]
  refine B5 rfl ⟨⟨p1,n1,n2⟩,B4 (x:=(Dy.C3 ⟨false,m,e⟩ (N:Int)).1) fun b1 l2 n3 d1=> ?_⟩
  intro b4 _
  refine B5 rfl ⟨⟨p2,n1,n2⟩,B4 (x:=(Dy.C3 ⟨false,m',e'⟩ (N:Int)).1) fun b5 l6 n7 d5=> ?_⟩
  intro b8 h8
  have x7:n7=(Dy.C3 ⟨false,m',e'⟩ (N:Int)).1.exp:=congrArg Dy.Dyd.exp d5
  have xt:Dy.C7 (Dy.C3 ⟨false,m',e'⟩ (N:Int)).1=(Dy.C3 ⟨false,m',e'⟩ (N:Int)).1.exp+Dy.bl (Dy.val (Dy.C3 ⟨false,m',e'⟩ (N:Int)).1.mag):=by unfold Dy.C7;rw [if_neg q2]
  have m5:Dy.A5 ⟨b5,l6,n7⟩=true:=by rw [d5];exact q1
  have x9:=Dy.J2 m5
  refine A8 (fun c=> ?_) (fun c=> ?_)
  ·have h8:(Dy.C3 ⟨false,m',e'⟩ (N:Int)).2=true:=by rw [←h8,c]
   have eU:Dy.Y9 ⟨false,m',e'⟩ (N:Int)=Dy.C2 (Dy.C3 ⟨false,m',e'⟩ (N:Int)).1 (Dy.K0 (Dy.C7 (Dy.C3 ⟨false,m',e'⟩ (N:Int)).1-N)):=by unfold Dy.Y9;rw [h8];rfl
   rw [d5,wrap_i64 (by omega) (by omega),eU]
   refine ⟨⟨Dy.K5 (Dy.C1 m5),D9 (Dy.J4 (Dy.C1 m5)) (by decide),by omega,by omega⟩,B4 fun b9 l10 n11 d9=> ?_⟩
   have x11:n11=Dy.C7 (Dy.C3 ⟨false,m',e'⟩ (N:Int)).1-N:=congrArg Dy.Dyd.exp d9
   rw [d9]
   exact ⟨⟨q1,Dy.KC ⟨p5,p6⟩,.inr (.inr ⟨by omega,by omega⟩)⟩,B4 fun b12 l13 n14 d12=>S9 d1 d12⟩
  ·have h8:(Dy.C3 ⟨false,m',e'⟩ (N:Int)).2=false:=by rw [←h8,c]
   have eU:Dy.Y9 ⟨false,m',e'⟩ (N:Int)=(Dy.C3 ⟨false,m',e'⟩ (N:Int)).1:=by unfold Dy.Y9;rw [h8];rfl
   rw [eU]
   exact S9 d1 d5
 ·cases h
theorem A3v (args:List AV) (s:Spec) (h:A8b args=some s) (hp:C6 s.pre True):Contract Tryz.prog Inv 41 args s.res:=by
 unfold A8b at h
 split at h
 ·cases h
  rename_i f a b
  obtain ⟨⟨p1,p2,c1,c2⟩, -⟩:=hp
  refine A4 false X5 Tryz.func41 (by kernel_rfl) (by kernel_rfl) fun hok=> ?_
  have hf:=(Dy.r9 p1).1
  obtain ⟨vx1,vx2,vx3,vx4, -⟩:=Dy.PQ hf c1
  obtain ⟨vy1,vy2,vy3,vy4, -⟩:=Dy.PQ hf c2
  have hW:Dy.P8 f≤1024:=by rcases Dy.J0 hf with c|c<;>omega
  have fx:=Dy.FC vx1 vx2 vx3 (by omega)
  have fy:=Dy.FC vy1 vy2 vy3 (by omega)
  have f1:=(Dy.KW fx fx (by decide) (by decide)).1
  have f2:=(Dy.KW fy fy (by decide) (by decide)).1
  have g1:=f1.lo
  have g2:=f1.hi
  have g3:=f2.lo
  have g4:=f2.hi
  rw [A50]
  generalize Dy.S6 f a.toNat=X at*
  generalize Dy.S6 f b.toNat=Y at*
  refine ⟨⟨p1,c1⟩,B4 fun b1 l2 n3 d1=>⟨⟨p2,c2⟩,B4 fun b4 l5 n6 d4=> ?_⟩⟩
  rw [d1,d4]
  refine ⟨⟨vx1,vx1⟩,B4 fun b7 l8 n9 d7=>⟨⟨vy1,vy1⟩,B4 fun b10 l11 n12 d10=> ?_⟩⟩
  have x9:n9=(Dy.E6 X X).exp:=congrArg Dy.Dyd.exp d7
  have x12:n12=(Dy.E6 Y Y).exp:=congrArg Dy.Dyd.exp d10
  rw [d7,d10]
  exact ⟨⟨f1.may,f2.may,.inr (.inr ⟨by omega,by omega⟩)⟩,B4 fun b13 l14 n15 d13=>V4 d13⟩
 ·cases h
theorem A10 (args:List AV) (s:Spec) (h:A0c args=some s) (hp:C6 s.pre True):Contract Tryz.prog Inv 108 args s.res:=by
 unfold A0c at h
 split at h
 ·cases h
  obtain ⟨⟨em,h1,h2⟩, -⟩:=hp
  refine A4 false X5 Tryz.func108 (by kernel_rfl) (by kernel_rfl) fun hok=> ?_
  rw [A2s]
  refine ⟨h1,B4 fun b1 l2 n3 d1=> ?_⟩
  rw [d1]
  refine ⟨⟨em,h2⟩,?_⟩
  rintro _ rfl _ rfl
  rfl
 ·cases h
theorem B3h (args:List AV) (s:Spec) (h:C8j args=some s) (hp:C6 s.pre True):Contract Tryz.prog Inv 34 args s.res:=by
 unfold C8j at h
 split at h
 ·cases h
  obtain ⟨hf, -⟩:=hp
  refine A4 false X5 Tryz.func34 (by kernel_rfl) (by kernel_rfl) fun hok=> ?_
  rw [B6m]
  exact ⟨hf,rfl⟩
 ·cases h
theorem B3j (args:List AV) (s:Spec) (h:C8o args=some s) (hp:C6 s.pre True):Contract Tryz.prog Inv 35 args s.res:=by
 unfold C8o at h
 split at h
 ·cases h
  rename_i f neg
  obtain ⟨hf, -⟩:=hp
  refine A4 false X5 Tryz.func35 (by kernel_rfl) (by kernel_rfl) fun hok=> ?_
  rw [B6n,show Dy.R1 f 0=0 from Nat.zero_mod _,I4]
  exact ⟨hf,rfl⟩
 ·cases h
theorem C00 (args:List AV) (s:Spec) (h:D4u args=some s) (hp:C6 s.pre True):Contract Tryz.prog Inv 33 args s.res:=by
 unfold D4u at h
 split at h
 ·cases h
  obtain ⟨hf, -⟩:=hp
  refine A4 false X5 Tryz.func33 (by kernel_rfl) (by kernel_rfl) fun hok=> ?_
  rw [C2c]
  exact ⟨hf,rfl⟩
 ·cases h
theorem C01 (args:List AV) (s:Spec) (h:D4v args=some s) (hp:C6 s.pre True):Contract Tryz.prog Inv 31 args s.res:=by
 unfold D4v at h
 split at h
 ·cases h
  rename_i f w
  obtain ⟨p, -⟩:=hp
  refine A4 false X5 Tryz.func31 (by kernel_rfl) (by kernel_rfl) fun hok=> ?_
  rw [C2d]
  unfold Dy.AG
  refine ⟨p,A8 (fun c=>⟨p,?_⟩) (fun c=> ?_)⟩
  ·rintro _ rfl _-_ -
   rw [c,Bool.and_true]
  ·rw [c,Bool.and_false]
 ·cases h
theorem A3y (args:List AV) (s:Spec) (h:A8c args=some s) (hp:C6 s.pre True):Contract Tryz.prog Inv 39 args s.res:=by
 unfold A8c at h
 split at h
 ·cases h
  rename_i m
  refine A4 false X5 Tryz.func39 (by kernel_rfl) (by kernel_rfl) fun hok=> ?_
  rw [A53]
  refine A8 (fun c=> ?_) (fun c=>A8 (fun c'=> ?_) (fun c'=> ?_))
  ·rw [if_pos (A1 c)]
  ·rw [if_neg (A0 c),if_pos (A1 c')]
  ·rw [if_neg (A0 c),if_neg (A0 c')]
 ·cases h
theorem B3g (args:List AV) (s:Spec) (h:A5y args=some s) (hp:C6 s.pre True):Contract Tryz.prog Inv 32 args s.res:=by
 unfold A5y at h
 split at h
 ·cases h
  refine A4 false X5 Tryz.func32 (by kernel_rfl) (by kernel_rfl) fun hok=> ?_
  rw [B6l]
 ·cases h
theorem NU:G6 Tryz.prog Inv (look A72):=A3 (A3 (A3 (A3 (A3 (A3 (A3 (A3 (A3 (A3 (A3 (A3 (A3 (A3 (A3 X5 B3g) A3y) C01) C00) B3j) B3h) A10) A3v) B3e) A3w) B9z) C5u) B3f) A96) A95
theorem B9y (args:List AV) (s:Spec) (h:D4w args=some s) (hp:C6 s.pre True):Contract Tryz.prog Inv 164 args s.res:=by
 unfold D4w at h
 split at h
 ·cases h
  obtain ⟨⟨h1,h2,h3,h4,n1,n2⟩, -⟩:=hp
  refine A4 true NU Tryz.func164 (by kernel_rfl) (by kernel_rfl) fun hok=> ?_
  rw [C2a]
  exact ⟨⟨h1,h3,n1,n2⟩,B4 fun _ _ _ d1=>⟨⟨h2,h4,n1,n2⟩,B4 fun _ _ _ d2=>S9 d1 d2⟩⟩
 ·cases h
theorem B3c (args:List AV) (s:Spec) (h:C8k args=some s) (hp:C6 s.pre True):Contract Tryz.prog Inv 106 args s.res:=by
 unfold C8k at h
 split at h
 ·cases h
  obtain ⟨⟨rfl,rfl,h1,h2,h3,h4,h5,h6,n1,n2,l1,l2,l3,l4⟩, -⟩:=hp
  refine A4 false NU Tryz.func106 (by kernel_rfl) (by kernel_rfl) fun hok=> ?_
  rw [B6h]
  exact B1 rfl (B1 rfl ⟨⟨h1,h4,h6,n1,n2,l1,l4⟩,B4 fun _ _ _ d1=>⟨⟨h2,h3,h5,n1,n2,l2,l3⟩,B4 fun _ _ _ d2=>S9 d1 d2⟩⟩)
 ·cases h
theorem A11 (args:List AV) (s:Spec) (h:A0d args=some s) (hp:C6 s.pre True):Contract Tryz.prog Inv 46 args s.res:=by
 unfold A0d at h
 split at h
 ·cases h
  obtain ⟨p, -⟩:=hp
  refine A4 false NU Tryz.func46 (by kernel_rfl) (by kernel_rfl) fun hok=> ?_
  rw [A2t]
  refine ⟨p,?_⟩
  rintro _ rfl _ rfl
  rfl
 ·cases h
theorem B3k (args:List AV) (s:Spec) (h:C8i args=some s) (hp:C6 s.pre True):Contract Tryz.prog Inv 43 args s.res:=by
 unfold C8i at h
 split at h
 ·cases h
  rename_i f m s l e s' l' e' neg
  obtain ⟨⟨em,sx,ss,hX⟩, -⟩:=hp
  obtain ⟨hf,m1,m2, -, -, -⟩:=Dy.W5 em
  have x1:=sx.2.1
  have x2:=sx.2.2.1
  have x3:=ss.2.1
  have x4:=ss.2.2.1
  simp only at x1 x2 x3 x4
  refine A4 false NU Tryz.func43 (by kernel_rfl) (by kernel_rfl) fun hok=> ?_
  rw [B6o]
  have shift:∀{b:Bool} {l:List Nat} {n:Int} {X:Dy.Dyd},Dy.Dyd.mk b l n=X→X.mag≠[]→Dy.small (Dy.shD X (-1))→(l=[]∨ -1099511627776≤n∧n≤1099511627776∧(-1099511627776:Int)≤ -1∧(-1:Int)≤1099511627776)∧(∀n6:Int,(n6=if l=[] then n else n+ -1)→Dy.Dyd.mk b l n6=Dy.shD X (-1)):=fun {b l n X} h h0 hs=>by
   subst h
   have e1:Dy.shD ⟨b,l,n⟩ (-1)=⟨b,l,n+ -1⟩:=by unfold Dy.shD;rw [if_neg h0]
   rw [e1] at hs ⊢
   have y1:=hs.2.1
   have y2:=hs.2.2.1
   simp only at y1 y2
   exact ⟨.inr ⟨by omega,by omega,by decide,by decide⟩,fun n6 h6=>by rw [h6,if_neg h0]⟩
  obtain ⟨u1,u2,u3,u4⟩:=hX _ (.inl rfl)
  obtain ⟨w1,w2,w3,w4⟩:=hX _ (.inr rfl)
  refine ⟨⟨ss.1,sx.1,.inr (.inr ⟨by omega,by omega⟩)⟩,B4 fun b1 l2 n3 d1=> ?_⟩
  obtain ⟨c1,c2⟩:=shift d1 u3 u1
  refine ⟨c1,eq2 ?_⟩
  intro n6 h6
  have d6:=c2 n6 h6
  rw [d6]
  refine ⟨⟨em,(congrArg Dy.Dyd.neg d6).trans u2,u1⟩,?_⟩
  rintro _ rfl _ rfl
  have rN1:Dy.S5 f m (Dy.shD (Dy.C2 ⟨s',l',e'⟩ ⟨s,l,e⟩) (-1)) false=Dy.S3 f m (Dy.shD (Dy.C2 ⟨s',l',e'⟩ ⟨s,l,e⟩) (-1)):=rfl
  rw [rN1]
  obtain ⟨z,hz1,hz2⟩:=Dy.A21 (m:=Dy.Z6 m neg) hf w1.1 w2 w4
  have rN2:Dy.S5 f (Dy.Z6 m neg) (Dy.shD (Dy.C2 ⟨s',l',e'⟩ (Dy.G9 ⟨s,l,e⟩)) (-1)) false=Dy.S3 f (Dy.Z6 m neg) (Dy.shD (Dy.C2 ⟨s',l',e'⟩ (Dy.G9 ⟨s,l,e⟩)) (-1)):=rfl
  rw [rN2] at hz1
  have hsz:=Dy.A6k hf hz1 (by omega)
  cases neg
  ·refine B1 rfl ⟨⟨ss.1,sx.1,.inr (.inr ⟨by omega,by omega⟩)⟩,B4 fun b9 l10 n11 d9=> ?_⟩
   obtain ⟨c3,c4⟩:=shift d9 w3 w1
   refine ⟨c3,eq2 ?_⟩
   intro n14 h14
   have d14:=c4 n14 h14
   rw [d14]
   refine ⟨⟨em,(congrArg Dy.Dyd.neg d14).trans w2,w1⟩,?_⟩
   rintro _ rfl _ rfl
   have hm:Dy.Z6 m false=m:=rfl
   rw [hm] at hsz
   rw [A2,hsz.2]
   exact ⟨hf,rfl⟩
  ·have hm:Dy.Z6 m true=if m=4 then 5 else if m=5 then 4 else m:=by
    unfold Dy.Z6
    by_cases h4:4≤m
    ·rw [if_pos ⟨rfl,h4⟩]
     (repeat' split)<;>omega
    ·rw [if_neg (fun c=>h4 c.2)]
     (repeat' split)<;>omega
   have em':Dy.L2 f (if m=4 then 5 else if m=5 then 4 else m)=0:=by
    unfold Dy.L2
    rw [Dy.OY hf,cond_true]
    (repeat' split)<;>omega
   rw [hm] at hsz
   refine B5 rfl ⟨⟨ss.1,sx.1,.inr (.inr ⟨by omega,by omega⟩)⟩,B4 fun b9 l10 n11 d9=> ?_⟩
   obtain ⟨c3,c4⟩:=shift d9 w3 w1
   refine ⟨c3,eq2 ?_⟩
   intro n14 h14
   have d14:=c4 n14 h14
   rw [d14]
   refine ⟨⟨em',(congrArg Dy.Dyd.neg d14).trans w2,w1⟩,?_⟩
   rintro _ rfl _ rfl
   rw [A2,←hsz.1]
   refine ⟨hf,?_⟩
   unfold Dy.S5
   rw [hm,if_pos rfl]
 ·cases h
theorem B58:G6 Tryz.prog Inv (look D1j):=A3 (A3 (A3 (A3 NU B3k) A11) B3c) B9y
theorem B3d (args:List AV) (s:Spec) (h:C8l args=some s) (hp:C6 s.pre True):Contract Tryz.prog Inv 105 args s.res:=by
 unfold C8l at h
 split at h
 ·cases h
  obtain ⟨⟨h1,h2,h3,h4,h5,h6,h7,h8,h9,h10,n1,n2⟩, -⟩:=hp
  refine A4 true B58 Tryz.func105 (by kernel_rfl) (by kernel_rfl) fun hok=> ?_
  rw [B6i]
  refine ⟨⟨h1,h3,h5⟩,B4 fun b1 l2 n3 d1=>⟨⟨h2,h4,h6⟩,B4 fun b4 l5 n6 d4=> ?_⟩⟩
  rw [d1,d4]
  exact ⟨⟨h7,h8,(congrArg Dy.Dyd.neg d1).trans h9,(congrArg Dy.Dyd.neg d4).trans h10,n1,n2⟩,B4 fun _ _ _ d7=>B4 fun _ _ _ d10=>S9 d7 d10⟩
 ·cases h
theorem B59:G6 Tryz.prog Inv (look D1k):=A3 B58 B3d
theorem A3x (args:List AV) (s:Spec) (h:A8a args=some s) (hp:C6 s.pre True):Contract Tryz.prog Inv 44 args s.res:=by
 unfold A8a at h
 split at h
 ·cases h
  rename_i s d e s' d' e' n
  obtain ⟨⟨mx,hs',off,n1,n2⟩, -⟩:=hp
  subst hs'
  refine A4 false B59 Tryz.func44 (by kernel_rfl) (by kernel_rfl) fun hok=> ?_
  obtain ⟨N,rfl⟩:=C4 (show 0≤n by omega)
  have F:=Dy.B2n off (N:=N) (by omega) (by omega)
  rw [A52]
  have my:Dy.A5 ⟨false,d',e'⟩=true:=off.my
  have aX:Dy.Dyd.mk false d e=Dy.B7 ⟨s,d,e⟩:=rfl
  have fx:=Dy.FC off.mx off.bx off.ex off.tx
  have fy:=Dy.FC off.my off.by_ off.ey off.ty
  have fxx:=(Dy.KW fx fx (by decide) (by decide)).1
  have fyy:=(Dy.KW fy fy (by decide) (by decide)).1
  have g1:=fxx.lo
  have g2:=fxx.hi
  have g3:=fyy.lo
  have g4:=fyy.hi
  have hx1:=fx.lo
  have hx2:=fx.hi
  have s1:=F.fs1.lo
  have s2:=F.fs1.hi
  have s3:=F.fs2.lo
  have s4:=F.fs2.hi
  have rS:=Dy.D0h F.mS F.nS F.zS (n:=N) (by omega) (by omega)
  have hSq:Dy.sqD ⟨s,d,e⟩ ⟨false,d',e'⟩=Dy.C2 (Dy.E6 (Dy.B7 ⟨s,d,e⟩) (Dy.B7 ⟨s,d,e⟩)) (Dy.E6 (Dy.B7 ⟨false,d',e'⟩) (Dy.B7 ⟨false,d',e'⟩)):=rfl
  have nA:(Dy.B7 ⟨s,d,e⟩).neg=false:=rfl
  intro b1 h1 l2 h2 n3 h3
  have dX:Dy.Dyd.mk b1 l2 n3=Dy.B7 ⟨s,d,e⟩:=by rw [h1,h2,h3];rfl
  refine ⟨⟨mx,mx⟩,B4 fun b4 l5 n6 d4=>⟨⟨my,my⟩,B4 fun b7 l8 n9 d7=> ?_⟩⟩
  rw [Dy.LC] at d4 d7
  have x6:n6=_:=congrArg Dy.Dyd.exp d4
  have x9:n9=_:=congrArg Dy.Dyd.exp d7
  rw [d4,d7,←hSq]
  refine ⟨⟨fxx.may,fyy.may,.inr (.inr ⟨by omega,by omega⟩)⟩,B4 fun b10 l11 n12 d10=> ?_⟩
  rw [d10]
  refine B4 fun b13 l14 n15 d13=>B4 fun b16 l17 n18 d16=> ?_
  rw [d13,d16]
  refine ⟨⟨F.mS,F.mS,(congrArg Dy.Dyd.neg d13).trans F.nS,(congrArg Dy.Dyd.neg d16).trans F.nS,fun c=>F.zS ((congrArg Dy.Dyd.mag d13).symm.trans c),fun c=>F.zS ((congrArg Dy.Dyd.mag d16).symm.trans c),by omega,by omega,F.rS.1,F.rS.2⟩,
   B4 (x:=(Dy.C3 (Dy.sqD ⟨s,d,e⟩ ⟨false,d',e'⟩) (N:Int)).1) fun b19 l20 n21 d19=>B4 fun b22 l23 n24 d22=> ?_⟩
  have d19:Dy.Dyd.mk b19 l20 n21=Dy.sLo (Dy.sqD ⟨s,d,e⟩ ⟨false,d',e'⟩) N:=d19
  have d22:Dy.Dyd.mk b22 l23 n24=Dy.sHi (Dy.sqD ⟨s,d,e⟩ ⟨false,d',e'⟩) N:=d22
  have x21:n21=(Dy.sLo (Dy.sqD ⟨s,d,e⟩ ⟨false,d',e'⟩) N).exp:=congrArg Dy.Dyd.exp d19
  have x24:n24=(Dy.sHi (Dy.sqD ⟨s,d,e⟩ ⟨false,d',e'⟩) N).exp:=congrArg Dy.Dyd.exp d22
  rw [dX]
  refine B4 fun b25 l26 n27 d25=>B4 fun b28 l29 n30 d28=> ?_
  have x27:n27=(Dy.B7 ⟨s,d,e⟩).exp:=congrArg Dy.Dyd.exp d25
  have x30:n30=(Dy.B7 ⟨s,d,e⟩).exp:=congrArg Dy.Dyd.exp d28
  rw [d19,d22,d25,d28]
  refine ⟨⟨F.fs1.may,F.fs2.may,F.mA,F.mA,.inr (.inr ⟨by omega,by omega⟩),.inr (.inr ⟨by omega,by omega⟩),Dy.J9 F.fa1 (by decide),Dy.J9 F.fa2 (by decide),Dy.A7i rS.1 nA,Dy.A7i rS.2 nA,by omega,by omega⟩,B4 fun b31 l32 n33 d31=>B4 fun b34 l35 n36 d34=> ?_⟩
  have sh0:∀{D:Dy.Dyd},(Dy.shD D (-1)).mag≠[]→D.mag≠[]:=fun {D} h c=>by
   unfold Dy.shD at h
   rw [if_pos c] at h
   exact h rfl
  refine ⟨⟨by rw [d31];exact Dy.J9 F.fe1 (by decide),by rw [d34];exact Dy.J9 F.fe2 (by decide),fun c=>sh0 F.mg1 ((congrArg Dy.Dyd.mag d31).symm.trans c),fun c=>sh0 F.mg2 ((congrArg Dy.Dyd.mag d34).symm.trans c),by decide,by decide⟩,B4 fun b37 l38 n39 d37=>B4 fun b40 l41 n42 d40=> ?_⟩
  have d37:Dy.Dyd.mk b37 l38 n39=Dy.gLo (Dy.sqD ⟨s,d,e⟩ ⟨false,d',e'⟩) (Dy.B7 ⟨s,d,e⟩) N:=by rw [d31] at d37;exact d37
  have d40:Dy.Dyd.mk b40 l41 n42=Dy.gHi (Dy.sqD ⟨s,d,e⟩ ⟨false,d',e'⟩) (Dy.B7 ⟨s,d,e⟩) N:=by rw [d34] at d40;exact d40
  rw [d37,d40]
  refine ⟨⟨F.fg1.may,F.fg2.may,(congrArg Dy.Dyd.neg d37).trans F.ng1,(congrArg Dy.Dyd.neg d40).trans F.ng2,fun c=>F.mg1 ((congrArg Dy.Dyd.mag d37).symm.trans c),fun c=>F.mg2 ((congrArg Dy.Dyd.mag d40).symm.trans c),by omega,by omega,F.rG.1,F.rG.2⟩,
   B4 (x:=(Dy.C3 (Dy.gLo (Dy.sqD ⟨s,d,e⟩ ⟨false,d',e'⟩) (Dy.B7 ⟨s,d,e⟩) N) (N:Int)).1) fun b43 l44 n45 d43=>B4 fun b46 l47 n48 d46=> ?_⟩
  have d43:Dy.Dyd.mk b43 l44 n45=Dy.o0 (Dy.sqD ⟨s,d,e⟩ ⟨false,d',e'⟩) (Dy.B7 ⟨s,d,e⟩) N:=d43
  have d46:Dy.Dyd.mk b46 l47 n48=Dy.AE (Dy.sqD ⟨s,d,e⟩ ⟨false,d',e'⟩) (Dy.B7 ⟨s,d,e⟩) N:=d46
  have aY:Dy.B7 ⟨false,d',e'⟩=⟨false,d',e'⟩:=rfl
  have y0:d'≠[]:=F.y0
  refine B4 fun b49 l50 n51 d49=>B4 fun b52 l53 n54 d52=> ?_
  have mY:Dy.mid ⟨false,d',e'⟩:=Dy.J9 fy (by decide)
  refine ⟨⟨by rw [d49];exact mY,by rw [d52];exact mY,fun c=>y0 ((congrArg Dy.Dyd.mag d49).symm.trans c),fun c=>y0 ((congrArg Dy.Dyd.mag d52).symm.trans c),by decide,by decide⟩,B4 fun b55 l56 n57 d55=>B4 fun b58 l59 n60 d58=> ?_⟩
  rw [d49] at d55
  rw [d52] at d58
  have fyh:Dy.Fit (Dy.shD ⟨false,d',e'⟩ (-1)) 1100 1101:=F.fy
  have nyh:(Dy.shD ⟨false,d',e'⟩ (-1)).neg=false:=F.ny
  refine ⟨⟨(congrArg Dy.Dyd.neg d55).trans nyh,(congrArg Dy.Dyd.neg d58).trans nyh,by rw [d55];exact Dy.J9 fyh (by decide),by rw [d58];exact Dy.J9 fyh (by decide),by rw [d43];exact Dy.J9 F.fl1 (by decide),by rw [d46];exact Dy.J9 F.fl2 (by decide),
   fun c=>F.ml1 ((congrArg Dy.Dyd.mag d43).symm.trans c),fun c=>F.ml2 ((congrArg Dy.Dyd.mag d46).symm.trans c),by omega,by omega,by rw [show l56=_ from congrArg Dy.Dyd.mag d55];exact Dy.BT fyh (by decide),by rw [show l59=_ from congrArg Dy.Dyd.mag d58];exact Dy.BT fyh (by decide),
   by rw [show l44=_ from congrArg Dy.Dyd.mag d43];exact Dy.BT F.fl1 (by decide),by rw [show l47=_ from congrArg Dy.Dyd.mag d46];exact Dy.BT F.fl2 (by decide)⟩,B4 fun b61 l62 n63 d61=>B4 fun b64 l65 n66 d64=> ?_⟩
  rw [d55,d46] at d61
  rw [d58,d43] at d64
  cases s
  ·refine B1 rfl (C28 ((S9 d43 d46).trans ?_) ((S9 d61 d64).trans ?_))
   ·unfold Dy.Z4 Dy.g9
    rfl
   ·unfold Dy.CX Dy.EZ Dy.BQ Dy.DE
    rfl
  ·refine B5 rfl (C28 ((S9 d61 d64).trans ?_) ((S9 d43 d46).trans ?_))
   ·unfold Dy.Z4 Dy.g9 Dy.BQ Dy.DE
    rfl
   ·unfold Dy.CX Dy.EZ
    rfl
 ·cases h
theorem A1m:G6 Tryz.prog Inv (look B6b):=A3 B59 A3x
end Go.AI

namespace Go.Dy
def agr (lo hi:Dyd) (b:Int):Bool:=bif decide (F0 lo*F0 hi≤0) then false else DZ (F6 lo b).1 (F6 hi b).1
def EU (X Y:Dyd) (n:Int):Bool:=agr (Z4 X Y n) (g9 X Y n) 60&&agr (CX X Y n) (EZ X Y n) 60
def B2h (ok:Int→Bool):Nat→Int→Int
 |0,n=>n
 |j+1,n=>if ok n=true then n else B2h ok j (2*n)
def D2n (n:Int):Prop:=n=128∨n=256∨n=512∨n=1024∨n=2048∨n=4096∨n=8192
structure docPre (f m:Int) (neg:Bool) (X Y:Dyd):Prop where
 em:L2 f m=0
 hn:neg=Y.neg
 mx:A5 X=true
 my:A5 Y=true
 off:offZ (B7 X) (B7 Y)
end Go.Dy
namespace Go.AI
open Go Go.RowKit Go.Proofs
set_option linter.unusedVariables false
def C8z:List AV→Option LR
 |[.num .u8 f,.num .u8 m,.boxv [.num .u64 r,.num .u64 r',.num .u8 t,.num .u8 t'],.bool neg,.boxv [.bool s,.dig [4] d,.num .i64 e],.boxv [.bool s',.dig [4] d',.num .i64 e'],.num .i64 n]=>
  some (.need (Dy.docPre f m neg ⟨s,d,e⟩ ⟨s',d',e'⟩∧Dy.D2n n) (.done .ret [.num .u8 f,.num .u8 m,
   .boxv [.num .u64 ((Dy.H8 f m (Dy.K4 (Dy.reD ⟨s,d,e⟩ ⟨s',d',e'⟩))).1:Nat),.num .u64 ((Dy.H8 f m (Dy.K4 (Dy.imD ⟨s,d,e⟩ ⟨s',d',e'⟩))).1:Nat),.num .u8 (Dy.H8 f m (Dy.K4 (Dy.reD ⟨s,d,e⟩ ⟨s',d',e'⟩))).2,.num .u8 (Dy.H8 f m (Dy.K4 (Dy.imD ⟨s,d,e⟩ ⟨s',d',e'⟩))).2],
   .bool neg,.boxv [.bool s,.dig [4] d,.num .i64 e],.boxv [.bool s',.dig [4] d',.num .i64 e'],.num .i64 (Dy.B2h (Dy.EU ⟨s,d,e⟩ ⟨false,d',e'⟩) 10 n)]))
 |_=>none
def OZ:List (Nat×Keep):=[(0,.same),(1,.same),(6,.same),(9,.same),(11,.same),(12,.same),(20,.same)]
def RI:=lam [(31,.spec OZ C8z)]
def A2i:List (Nat×(List AV→Option Spec)):=(33,fun _=>none)::(34,fun _=>none)::B6b
end Go.AI
