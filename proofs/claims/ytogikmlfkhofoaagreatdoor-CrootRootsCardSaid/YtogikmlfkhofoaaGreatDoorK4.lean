/- My texts AIfun, in one. -/
import Derived.Test.YtogikmlfkhofoaaGreatDoorK3
open Array renaming mapM_eq_mapM_toList→PS
open List renaming getD→M6,getElem?_replicate→j1,length_cons→T5,range→MR,replicate→B2
open Nat renaming lt_or_ge→L4
namespace Go.AI
open Go Go.RowKit
set_option linter.unusedVariables false
set_option linter.unusedSimpArgs false
mutual
def AV.ok:AV→Prop
 | .num k n=>k.min≤n∧n≤k.max
 | .dig _ l=>BC l
 | .vec _ _ l=>l.length≤2^45∧AV.oks l
 | .agg cs=>AV.oks cs
 | .tup cs=>AV.oks cs
 | .cref _ cs=>AV.oks cs
 | .fn _ cs=>AV.oks cs
 | .handv _ L _ lo len=>BC L∧lo+len≤L.length
 |_=>True
def AV.oks:List AV→Prop
 |[]=>True
 |c::cs=>AV.ok c∧AV.oks cs
end
mutual
theorem V.ok {C:Ctx}:∀(c:AV) (v:Value),V C c v→c.ok
 | .num k n,v,h=>by simp only [V] at h;simp only [AV.ok];exact h.2
 | .dig p l,v,h=>by simp only [V] at h;simp only [AV.ok];exact h.2.1
 | .vec p n l,v,h=>by
  simp only [V] at h
  simp only [AV.ok]
  obtain ⟨_,h1,_,_,_,us,_,h2,_⟩:=h
  exact ⟨h1,Vs.ok l us h2⟩
 | .agg cs,v,h=>by simp only [V] at h;simp only [AV.ok];obtain ⟨vs,_,h⟩:=h;exact Vs.ok cs vs h
 | .tup cs,v,h=>by simp only [V] at h;simp only [AV.ok];obtain ⟨vs,_,h⟩:=h;exact Vs.ok cs vs h
 | .cref p cs,v,h=>by simp only [V] at h;simp only [AV.ok];obtain ⟨_,vs,h,_⟩:=h;exact Vs.ok cs vs h
 | .fn f cs,v,h=>by simp only [V] at h;simp only [AV.ok];obtain ⟨vs,_,h⟩:=h;exact Vs.ok cs vs h
 | .junk,_,_=>by simp only [AV.ok]
 | .bool _,_,_=>by simp only [AV.ok]
 | .nilS,_,_=>by simp only [AV.ok]
 | .addr ..,_,_=>by simp only [AV.ok]
 | .own _,_,_=>by simp only [AV.ok]
 | .grown ..,_,_=>by simp only [AV.ok]
 | .boxv _,_,_=>by simp only [AV.ok]
 | .hand ..,_,_=>by simp only [AV.ok]
 | .handv _ L _ lo len,v,h=>by simp only [V] at h;simp only [AV.ok];exact h
 | .avec ..,_,_=>by simp only [AV.ok]
theorem Vs.ok {C:Ctx}:∀(cs:List AV) (vs:List Value),Vs C cs vs→AV.oks cs
 |[],[],_=>by simp only [AV.oks]
 |c::cs,v::vs,h=>by simp only [Vs] at h;simp only [AV.oks];exact ⟨V.ok c v h.1,Vs.ok cs vs h.2⟩
 |[],_::_,h=>by simp only [Vs] at h
 |_::_,[],h=>by simp only [Vs] at h
end
section
variable {P:Program} {Inv:World→Prop} {na nt:Nat} {β0:Nat→Nat→Prop} {w0:World} {σ:St} {β:Nat→Nat→Prop} {a:Act} {w:World} {Φ:Nat→List AV→Option Spec} {Λ:Nat→Option LoopAnn}
theorem C4i (hR:R na β0 w0 σ β a w) (hS:∀x,¬β0 (na+1) x) {alias:Bool} {p p':List Nat} (hp:(alias=true∧p.contains 0=false∧p'=MR (na+1))∨((∀i ∈ p,na<i)∧p'=[0])) {b:Nat}
  (h:Ctx.inP ⟨σ.box,β,w⟩ p b):Ctx.inP ⟨fun _=> .G4,AQ w0 w β0,w⟩ p' b:=by
 obtain ⟨i,hi,hx⟩:=h
 have fresh:na<i→AQ w0 w β0 0 b:=fun hna=>by
  unfold AQ
  rw [if_pos rfl]
  have h1:=hR.new i b hna hx
  exact ⟨h1.1.resolve_right (hS b),h1.2⟩
 rcases hp with ⟨_,h0,rfl⟩|⟨hall,rfl⟩
 ·by_cases hna:na<i
  ·exact ⟨0,by simp,fresh hna⟩
  ·refine ⟨i,by simp;omega,?_⟩
   show AQ w0 w β0 i b
   unfold AQ
   have:i≠0:=fun e=>by
    subst e
    have:p.contains 0=true:=by simpa using hi
    rw [h0] at this;cases this
   rw [if_neg this]
   exact hR.arg0 i b (by omega) hx
 ·exact ⟨0,by simp,fresh (hall i hi)⟩
mutual
theorem D2e (hR:R na β0 w0 σ β a w) (hS:∀x,¬β0 (na+1) x) (alias:Bool):∀(c c':AV) (v:Value),V ⟨σ.box,β,w⟩ c v→AV.CT σ.box na alias c=some c'→V ⟨fun _=> .G4,AQ w0 w β0,w⟩ c' v
 | .junk,c',v,hV,h=>by simp [AV.CT] at h
 | .num ..,c',v,hV,h=>by simp [AV.CT] at h;subst h;simp only [V] at hV ⊢;exact hV
 | .bool _,c',v,hV,h=>by simp [AV.CT] at h;subst h;simp only [V] at hV ⊢;exact hV
 | .nilS,c',v,hV,h=>by
  simp [AV.CT] at h
  subst h
  simp only [V] at hV ⊢
  subst hV
  exact ⟨fun i _=>by simp,⟨by simp,by simp⟩,none,0,by simp,fun _=> .inl ⟨rfl,rfl⟩⟩
 | .dig p l,c',v,hV,h=>by
  simp only [AV.CT] at h
  split at h
  ·rename_i har
   simp only [V] at hV
   obtain ⟨_,hok,base,cap,rfl,hd⟩:=hV
   have hal:=Y6 (Sub.refl σ.box) β w har
   have key:∀p',((alias=true∧p.contains 0=false∧p'=MR (na+1))∨((∀i ∈ p,na<i)∧p'=[0]))→V ⟨fun _=> .G4,AQ w0 w β0,w⟩ (.dig p' l) (.slice base l.length cap):=by
    intro p' hp
    simp only [V]
    exact ⟨fun i _=>by simp,hok,base,cap,rfl,fun _=>(hd hal).mono fun b hb=>⟨C4i hR hS hp hb,rfl⟩⟩
   split at h
   ·rename_i hal'
    split at h
    ·cases h
    ·rename_i h0
     cases h
     exact key _ (.inl ⟨hal',by simpa using h0,rfl⟩)
   ·split at h
    ·rename_i hall
     cases h
     exact key _ (.inr ⟨by simpa using hall,rfl⟩)
    ·cases h
  ·cases h
 | .own b,c',v,hV,h=>by
  simp only [AV.CT] at h
  split at h
  ·rename_i T l hb
   cases h
   have hbok:=hR.boxes b
   rw [hb] at hbok
   have hna:=hR.QF (i:=b) (by rw [hb];simp)
   simp only [V] at hV ⊢
   rcases hV.2.2 T l hb with ⟨rfl,rfl⟩|⟨blk,cap,g1,rfl,g2,g3,cs,g4,g5⟩
   ·exact ⟨fun i _=>by simp,⟨by simp,by simp⟩,none,0,by simp,fun _=> .inl ⟨rfl,rfl⟩⟩
   ·obtain ⟨cs',hc',h4,h5⟩:=hbok.2.2 blk g1
    refine ⟨fun i _=>by simp,hbok.2.1,_,_,rfl,fun _=> .inr ⟨blk,0,cs',T,(0,0),rfl,⟨0,by split<;>simp,?_⟩,hc',g2,fun j hj=> ?_,fun j x hj=>by rw [Nat.zero_add];exact h5 j x hj⟩⟩
    rotate_left
    ·have g4':w.heap[blk]? =some (.cells cs T (0,0)):=g4
     have hc'':w.heap[blk]? =some (.cells cs' T (0,0)):=hc'
     rw [hc''] at g4'
     cases g4'
     omega
    show AQ w0 w β0 0 blk
    unfold AQ
    rw [if_pos rfl]
    have h1:=hR.new b blk hna g1
    exact ⟨h1.1.resolve_right (hS blk),h1.2⟩
  ·cases h
 | .agg cs,c',v,hV,h=>by
  simp only [AV.CT] at h
  split at h
  ·rename_i cs' hcs
   cases h
   simp only [V] at hV ⊢
   obtain ⟨vs,rfl,hvs⟩:=hV
   exact ⟨vs,rfl,NB hR hS alias cs cs' vs hvs hcs⟩
  ·cases h
 | .vec p n l,c',v,hV,h=>by
  simp only [AV.CT] at h
  split at h
  ·rename_i har
   split at h
   ·rename_i l' hl
    simp only [V] at hV
    obtain ⟨_,hlen,hn,base,cap,us,rfl,hus,hsz,hd⟩:=hV
    have hal:=Y6 (Sub.refl σ.box) β w har
    have hm:=NB hR hS alias l l' us hus hl
    have hll:l'.length=l.length:=by rw [hm.length,hus.length]
    have key:∀p',((alias=true∧p.contains 0=false∧p'=MR (na+1))∨((∀i ∈ p,na<i)∧p'=[0]))→V ⟨fun _=> .G4,AQ w0 w β0,w⟩ (.vec p' n l') (.slice base l.length cap):=by
     intro p' hp
     simp only [V]
     exact ⟨fun i _=>by simp,by omega,hn,base,cap,us,by rw [hll],hm,hsz,fun _=>(hd hal).mono fun b hb=>⟨C4i hR hS hp hb,rfl⟩⟩
    split at h
    ·rename_i hal'
     split at h
     ·cases h
     ·rename_i h0
      cases h
      exact key _ (.inl ⟨hal',by simpa using h0,rfl⟩)
    ·split at h
     ·rename_i hall
      cases h
      exact key _ (.inr ⟨by simpa using hall,rfl⟩)
     ·cases h
   ·cases h
  ·cases h
 | .tup _,c',v,hV,h=>by simp [AV.CT] at h
 | .addr ..,c',v,hV,h=>by simp [AV.CT] at h
 | .cref ..,c',v,hV,h=>by simp [AV.CT] at h
 | .fn ..,c',v,hV,h=>by simp [AV.CT] at h
 | .grown ..,c',v,hV,h=>by simp [AV.CT] at h
 | .boxv _,c',v,hV,h=>by simp [AV.CT] at h
 | .hand ..,c',v,hV,h=>by simp [AV.CT] at h
 | .handv ..,c',v,hV,h=>by simp [AV.CT] at h
 | .avec ..,c',v,hV,h=>by simp [AV.CT] at h
theorem NB (hR:R na β0 w0 σ β a w) (hS:∀x,¬β0 (na+1) x) (alias:Bool):∀(cs cs':List AV) (vs:List Value),Vs ⟨σ.box,β,w⟩ cs vs→AV.QX σ.box na alias cs=some cs'→Vs ⟨fun _=> .G4,AQ w0 w β0,w⟩ cs' vs
 |[],cs',[],hV,h=>by simp [AV.QX] at h;subst h;simp only [Vs]
 |c::cs,cs',v::vs,hV,h=>by
  simp only [AV.QX] at h
  split at h
  ·cases h
  ·rename_i c' hc
   split at h
   ·cases h
   ·rename_i cs'' hcs
    cases h
    simp only [Vs] at hV ⊢
    exact ⟨D2e hR hS alias c c' v hV.1 hc,NB hR hS alias cs cs'' vs hV.2 hcs⟩
 |[],_,_::_,hV,_=>by simp only [Vs] at hV
 |_::_,_,[],hV,_=>by simp only [Vs] at hV
end
theorem A06 (hR:R na β0 w0 σ β a w) (t:Nat):V ⟨σ.box,β,w⟩ (σ.tmps.getD t .junk) (a.tmps.getD t undef):=hR.O2 (.tmp t)
def C17 (tmps:Array Value):ResultVar→Sem Value
 | .tmp t=>pure (tmps.getD t undef)
 | .cell c t=>do loadVar t (←asAddr (tmps.getD c undef))
theorem RP (fn:Func) (tmps:Array Value):results fn tmps=(fn.results.mapM (C17 tmps))>>=fun vs=>pure (if h:vs.size=1 then vs[0] else .tuple vs):=by
 unfold results
 congr 1
theorem IP (hR:R na β0 w0 σ β a w):∀(rs:List ResultVar) (avs:List AV),CJ P σ rs=some avs→
  ∃vs:List Value,(rs.mapM (C17 a.tmps)).run P w= .ok vs w∧Vs ⟨σ.box,β,w⟩ avs vs
 |[],avs,h=>by
  simp [CJ] at h
  subst h
  exact ⟨[],by simp,by simp only [Vs]⟩
 |r::rs,avs,h=>by
  simp only [CJ] at h
  split at h
  ·cases h
  ·rename_i v hv
   split at h
   ·cases h
   ·rename_i avs' havs
    cases h
    obtain ⟨vs,h1,h2⟩:=IP hR rs avs' havs
    have key:∃u,(C17 a.tmps r).run P w= .ok u w∧V ⟨σ.box,β,w⟩ v u:=by
     cases r with
     |tmp t=>
      simp only [A1y,Option.some.injEq] at hv
      subst hv
      exact ⟨_,rfl,A06 hR t⟩
     |cell c t=>
      simp only [A1y] at hv
      have hV:=A06 hR c
      split at hv
      ·rename_i b off hb
       rw [hb] at hV
       simp only [V] at hV
       split at hv
       ·rename_i cs hcs
        obtain ⟨blk,hβ,hx⟩:=hV.2 (by rw [hcs];trivial)
        have hok:=hR.boxes b
        rw [hcs] at hok
        obtain ⟨blk',q1,us,T,q2,q3⟩:=hok
        have:blk=blk':=(q1 blk).1 hβ
        subst this
        obtain ⟨u,hu1,hu2⟩:=OA (P:=P) hv (q3.drop off) (w:=w) (b:=blk) (off:=off) (fun j y hj=>by
         rw [cell?_of_block q2]
         rw [List.getElem?_drop] at hj
         simpa using hj)
        refine ⟨u,?_,hu2⟩
        simp only [C17,hx,asAddr,Sem.run_bind,Sem.run_pure,Result.andThen_ok,hu1]
       ·cases hv
      ·cases hv
    obtain ⟨u,hu1,hu2⟩:=key
    refine ⟨u::vs,?_,by simp only [Vs];exact ⟨hu2,h2⟩⟩
    rw [List.mapM_cons]
    simp only [Sem.run_bind,hu1,Result.andThen_ok,h1,Sem.run_pure]
theorem A83 (hR:R na β0 w0 σ β a w) (hS:∀x,¬β0 (na+1) x) {fn:Func} {alias:Bool} {Q:AV→Prop} (h:YX P fn na alias Q σ):
  ∃v r,(results fn a.tmps).run P w= .ok v w∧Q r∧V ⟨fun _=> .G4,AQ w0 w β0,w⟩ r v:=by
 unfold YX at h
 split at h
 ·exact h.elim
 ·rename_i avs havs
  obtain ⟨vs,h1,h2⟩:=IP (P:=P) hR _ _ havs
  have hrun:(fn.results.mapM (C17 a.tmps)).run P w= .ok vs.toArray w:=by
   rw [PS,Sem.run_map,h1]
   rfl
  have hres:(results fn a.tmps).run P w= .ok (if h:vs.toArray.size=1 then vs.toArray[0] else .tuple vs.toArray) w:=by
   rw [RP]
   simp only [Sem.run_bind,hrun,Result.andThen_ok,Sem.run_pure]
  split at h
  ·exact h.elim
  ·rename_i r hr
   have hv:=NB hR hS alias _ _ _ h2 hr
   obtain ⟨u,rfl,hu⟩:=hv.one
   exact ⟨u,r,by rw [hres];rfl,h,hu⟩
  ·rename_i rs hne hrs
   have hv:=NB hR hS alias _ _ _ h2 hrs
   have hlen:=hv.length
   refine ⟨.tuple vs.toArray,.tup rs,?_,h,by simp only [V];exact ⟨vs,rfl,hv⟩⟩
   rw [hres,dif_neg]
   intro h1
   simp at h1
   rw [h1] at hlen
   obtain ⟨r,hr⟩:=List.length_eq_one_iff.1 hlen
   exact hne r hr
theorem C3j {fn:Func} {args:List AV} {cargs:List Value} (hlt:∀i x,β i x→x<w.heap.size) (hV:Vs ⟨X8 args.length,β,w⟩ args cargs):
  R args.length (fun i x=>i≤args.length∧β i x) w ⟨args++B2 (fn.ntmps-args.length) .junk,B2 (args.length+1) .G4⟩ (fun i x=>i≤args.length∧β i x) {tmps:=cargs.toArray++Array.replicate (fn.ntmps-cargs.toArray.size) undef,defers:=[]} w:=by
 let σ:St:=⟨args++B2 (fn.ntmps-args.length) .junk,B2 (args.length+1) .G4⟩
 have hbox:∀i,σ.box i=X8 args.length i:=by
  intro i
  show M6 _ _ _=_
  simp only [σ,M6,j1,X8]
  by_cases hi:i≤args.length
  ·rw [if_pos (by omega),if_pos hi];rfl
  ·rw [if_neg (by omega),if_neg hi];rfl
 have hbx:σ.box=X8 args.length:=funext hbox
 let β1:Nat→Nat→Prop:=fun i x=>i≤args.length∧β i x
 have hle:Le ⟨X8 args.length,β,w⟩ ⟨X8 args.length,β1,w⟩:=by
  have hb:∀i,X8 args.length i≠ .unborn→i≤args.length:=fun i hi=>by
   unfold X8 at hi
   rcases L4 args.length i with h'|h'
   ·rw [if_neg (by omega)] at hi;exact absurd rfl hi
   ·exact h'
  refine ⟨fun _ h=>h,fun i hi ha=>⟨ha,fun x hx=>⟨⟨hb i hi,hx⟩,rfl⟩⟩,fun i T l hi hd=>⟨l,hd,rfl,fun x hx=>⟨⟨hb i hi,hx⟩,fun cs hc=>⟨cs,hc,rfl⟩⟩⟩,fun i cs hi hc=>⟨cs,hc,fun x hx=>⟨hb i hi,hx⟩⟩⟩
 have hlen:=hV.length
 refine ⟨?_,rfl,fun i=> ?_,fun i hi=> ?_,fun i x _ hx=>⟨hlt i x hx.2,fun h=>absurd h.1 (by omega)⟩,fun i x hi hx=>absurd hx.1 (by omega),fun i j x hi _ hx _=>absurd hx.1 (by omega),fun i x hi hx=> ?_,GrowS.refl fun x hx=>absurd hx.1 (by omega),fun i x _ hx=>hx⟩
 ·show Vs ⟨σ.box,β1,w⟩ _ _
  rw [hbx]
  have h1:=Vs.mono hle _ _ hV
  have h2:Vs ⟨X8 args.length,β1,w⟩ (B2 (fn.ntmps-args.length) AV.junk) (B2 (fn.ntmps-args.length) undef):=Vs.of (by simp) fun i c v hc _=>by
   rw [j1] at hc
   split at hc
   ·cases hc;simp only [V]
   ·cases hc
  have h3:=h1.append h2
  show Vs _ (args++B2 (fn.ntmps-args.length) .junk) (cargs.toArray++Array.replicate (fn.ntmps-cargs.toArray.size) undef).toList
  rw [hlen] at h3 ⊢
  simpa using h3
 ·show QA _ i (σ.box i)
  rw [hbox]
  unfold X8
  split<;>trivial
 ·show σ.box i=_
  rw [hbox]
  unfold X8
  rw [if_pos hi]
 ·have hi:σ.box i= .unborn:=hi
  rw [hbox] at hi
  unfold X8 at hi
  split at hi
  ·cases hi
  ·exact absurd hx.1 (by omega)
theorem B2a {f:Nat} {fn:Func} {c:Code} {args:List AV} {res:AV} {alias:Bool} (hm:P.follows .mixedOrders=true) (hΦ:G6 P Inv Φ) (hGrow:∀w w',Inv w→Grow w w'→Inv w')
  (hfn : P.funcs[f]? = some fn) (hb : fn.body = some c) (hname : (fn.name == "runtime.NumGoroutine") = false) (hnt : args.length + (fn.ntmps - args.length) = nt) (hl : CO P Φ Λ args.length nt c)
  (h:AV.oks args→evF P Φ Λ alias fn args (fun r=>r=res)):Contract P Inv f args res:=by
 refine ⟨fun as w=> ?_,fun w cargs β hInv hlt hV _=> ?_⟩
 ·simp only [callFunc,Sem.run_bind,run_program,Result.andThen_ok,hfn,hname,hb]
  rfl
 ·have hok:=Vs.ok _ _ hV
  have hE:=h hok
  unfold evF at hE
  rw [hb] at hE
  simp only at hE
  have hR:=C3j (fn:=fn) hlt hV
  have hS:∀x,¬(args.length+1≤args.length∧β (args.length+1) x):=fun x hx=>absurd hx.1 (by omega)
  refine calls_of_wp hfn hb ?_
  refine VT (Λ:=Λ) (nt:=nt) (na:=args.length) (w0:=w) hm hΦ (fun w' hg=>hGrow w w' hInv (hg.B0n hS)) c hl _ _ _ w _ ⟨by simp;omega,_,hR⟩ hE fun e σ' a' w' hk hR'=> ?_
  obtain ⟨_,β',hR'⟩:=hR'
  have fin:YX P fn args.length alias (fun r=>r=res) σ'→bodyPost P fn (fun e w'=>∃v,e= .returned v∧ER args res w w' β cargs v) .normal a' w':=by
   intro hf
   obtain ⟨v,r,q1,rfl,q2⟩:=A83 (P:=P) hR' hS hf
   have hle:Le ⟨fun _=> .G4,AQ w w' (fun i x=>i≤args.length∧β i x),w'⟩ ⟨fun _=> .G4,AQ w w' β,w'⟩:=by
    refine ⟨fun _ h=>h,fun i hi ha=>⟨ha,fun x hx=>⟨?_,rfl⟩⟩,fun i T l hi hd=>(by cases hd),fun i cs hi hc=>(by cases hc)⟩
    have hx:AQ w w' (fun i x=>i≤args.length∧β i x) i x:=hx
    show AQ w w' β i x
    unfold AQ at hx ⊢
    split
    ·rename_i h0;rw [if_pos h0] at hx;exact hx
    ·rename_i h0;rw [if_neg h0] at hx;exact hx.2
   exact ⟨hR'.defers,v,q1,v,rfl,ER.of (hR'.grow.B0n hS) (V.mono hle _ _ q2)⟩
  cases e with
  |normal=>exact fin hk
  |ret=>exact fin hk
  |_=>exact hk.elim
theorem A7q {f:Nat} {fn:Func} {c:Code} {args:List AV} {res:AV} (hm:P.follows .mixedOrders=true) (hΦ:G6 P Inv Φ) (hGrow:∀w w',Inv w→Grow w w'→Inv w')
  (hfn : P.funcs[f]? = some fn) (hb : fn.body = some c) (hname : (fn.name == "runtime.NumGoroutine") = false) (hnt : args.length + (fn.ntmps - args.length) = nt) (hl : CO P Φ Λ args.length nt c)
  (h:AV.oks args→evO P Φ Λ fn args (fun r=>r=res)):Contract P Inv f args res:=by
 refine ⟨fun as w=> ?_,fun w cargs β hInv hlt hV _=> ?_⟩
 ·simp only [callFunc,Sem.run_bind,run_program,Result.andThen_ok,hfn,hname,hb]
  rfl
 ·have hok:=Vs.ok _ _ hV
  have hE:=h hok
  unfold evO at hE
  rw [hb] at hE
  simp only at hE
  have hR:=C3j (fn:=fn) hlt hV
  have hS:∀x,¬(args.length+1≤args.length∧β (args.length+1) x):=fun x hx=>absurd hx.1 (by omega)
  refine calls_of_wp hfn hb ?_
  refine VT (Λ:=Λ) (nt:=nt) (na:=args.length) (w0:=w) hm hΦ (fun w' hg=>hGrow w w' hInv (hg.B0n hS)) c hl _ _ _ w _ ⟨by simp;omega,_,hR⟩ hE fun e σ' a' w' hk hR'=> ?_
  obtain ⟨_,β',hR'⟩:=hR'
  have fin:A82 P fn (fun r=>r=res) σ'→bodyPost P fn (fun e w'=>∃v,e= .returned v∧ER args res w w' β cargs v) .normal a' w':=by
   intro hf
   unfold A82 at hf
   split at hf
   ·rename_i b havs
    split at hf
    ·rename_i T l hbx
     subst hf
     obtain ⟨vs,h1,h2⟩:=IP (P:=P) hR' _ _ havs
     have hrun:(fn.results.mapM (C17 a'.tmps)).run P w'= .ok vs.toArray w':=by
      rw [PS,Sem.run_map,h1]
      rfl
     obtain ⟨u,rfl,hu⟩:=h2.one
     have hres:(results fn a'.tmps).run P w'= .ok u w':=by
      rw [RP]
      simp only [Sem.run_bind,hrun,Result.andThen_ok,Sem.run_pure]
      rfl
     have hbok:=hR'.boxes b
     rw [hbx] at hbok
     have hna:=hR'.QF (i:=b) (by rw [hbx];simp)
     refine ⟨hR'.defers,u,hres,u,rfl,?_⟩
     unfold ER
     refine ⟨hR'.grow.B0n hS,hbok.2.1,?_⟩
     simp only [V] at hu
     rcases hu.2.2 T l hbx with h|⟨g,cap,q1,q2,q3,q4,cs,q5,q6⟩
     ·exact .inl h
     ·obtain ⟨cs',r1,r2,r3⟩:=hbok.2.2 g q1
      have r1:w'.heap[g]? =some (.cells cs' T (0,0)):=r1
      have q5:w'.heap[g]? =some (.cells cs T (0,0)):=q5
      rw [r1] at q5
      cases q5
      have hnew:=hR'.new b g hna q1
      exact .inr ⟨g,cs,hnew.1.resolve_right (hS g),hnew.2,r1,by rw [q2,q6],by omega,by omega,r3⟩
    ·exact hf.elim
   ·exact hf.elim
  cases e with
  |normal=>exact fin hk
  |ret=>exact fin hk
  |_=>exact hk.elim
theorem A3h {f:Nat} {fn:Func} {c:Code} {T:TypeId} {L:List Nat} {lo len:Nat} {args:List AV} {res:AV} (hm:P.follows .mixedOrders=true) (hΦ:G6 P Inv Φ)
  (hGrow:∀(g:Nat) (w w':World),Inv w→MM w T L g→GrowS (·=g) w w'→Inv w')
  (hfn : P.funcs[f]? = some fn) (hb : fn.body = some c) (hname : (fn.name == "runtime.NumGoroutine") = false) (hnt : args.length + 1 + (fn.ntmps - (args.length + 1)) = nt) (hl : CO P Φ Λ (args.length + 1) nt c)
  (hkind:kindOf res=2) (h:BC L→lo+len≤L.length→AV.oks args→∀g cap,evH P Φ Λ fn T L g cap lo len args (fun r=>r=res)):Contract P Inv f (.handv T L none lo len::args) res:=by
 refine ⟨fun as w=> ?_,fun w cargs β hInv hlt hV hasks=> ?_⟩
 ·simp only [callFunc,Sem.run_bind,run_program,Result.andThen_ok,hfn,hname,hb]
  rfl
 ·unfold A7g at hasks
  rw [hkind] at hasks
  obtain ⟨g,cap,tl,rfl,hlc,hokL,hll,hat,⟨cs0,hc0,hcap⟩,hne⟩:=hasks
  simp only [Vs,T5] at hV
  have hok:=Vs.ok _ _ hV.2
  have hE:=h hokL hll hok g cap
  unfold evH at hE
  rw [hb] at hE
  simp only at hE
  let σ:St:=⟨.hand (args.length+2) (some (g,cap)) lo len::args++B2 (fn.ntmps-(args.length+1)) .junk,B2 (args.length+2) .G4++[.D1 T L]⟩
  have hbox:∀i,σ.box i=if i≤args.length+1 then .G4 else if i=args.length+2 then .D1 T L else .unborn:=by
   intro i
   show M6 _ _ _=_
   simp only [σ,M6,List.getElem?_append,List.length_replicate,j1]
   by_cases hi:i≤args.length+1
   ·rw [if_pos (by omega),if_pos (by omega),if_pos hi];rfl
   ·rw [if_neg (by omega),if_neg hi]
    by_cases hi2:i=args.length+2
    ·subst hi2;simp
    ·rw [if_neg hi2,List.getElem?_eq_none (by simp;omega)];rfl
  let β1:Nat→Nat→Prop:=fun i x=>if i=args.length+2 then x=g else i≤args.length+1∧β i x
  have hβ1:β1 (args.length+1+1)=(·=g):=funext fun x=>if_pos rfl
  have hβlow:∀i x,i≤args.length+1→β1 i x→β i x:=fun i x hi hx=>by
   have hx:(if i=args.length+2 then x=g else i≤args.length+1∧β i x):=hx
   rw [if_neg (by omega)] at hx
   exact hx.2
  have hβhigh:∀i x,args.length+1<i→β1 i x→i=args.length+2∧x=g:=fun i x hi hx=>by
   have hx:(if i=args.length+2 then x=g else i≤args.length+1∧β i x):=hx
   split at hx
   ·rename_i e;exact ⟨e,hx⟩
   ·exact absurd hx.1 (by omega)
  have hle:Le ⟨X8 (args.length+1),β,w⟩ ⟨σ.box,β1,w⟩:=by
   have hb:∀i,X8 (args.length+1) i≠ .unborn→i≤args.length+1:=fun i hi=>by
    unfold X8 at hi
    rcases L4 (args.length+1) i with h'|h'
    ·rw [if_neg (by omega)] at hi;exact absurd rfl hi
    ·exact h'
   have up:∀i x,i≤args.length+1→β i x→β1 i x:=fun i x hi hx=>by
    show (if i=args.length+2 then x=g else i≤args.length+1∧β i x)
    rw [if_neg (by omega)]
    exact ⟨hi,hx⟩
   refine ⟨fun i hi=> ?_,fun i hi ha=>⟨?_,fun x hx=>⟨up i x (hb i hi) hx,rfl⟩⟩,fun i T' l hi hd=> ?_,fun i cs hi hc=> ?_⟩
   ·show σ.box i≠_
    rw [hbox,if_pos (hb i hi)];simp
   ·show X8 _ i=_
    unfold X8;rw [if_pos (hb i hi)]
   ·have hd:σ.box i= .D1 T' l:=hd
    rw [hbox,if_pos (hb i hi)] at hd;cases hd
   ·have hc:σ.box i= .cells cs:=hc
    rw [hbox,if_pos (hb i hi)] at hc;cases hc
  have hlen:=hV.2.length
  have hgl:g<w.heap.size:=(Array.getElem?_eq_some_iff.1 hc0).1
  let a0:Act:={tmps:=((.slice (some ⟨g,lo,none⟩) len cap)::tl).toArray++Array.replicate (fn.ntmps-((Value.slice (some ⟨g,lo,none⟩) len cap)::tl).toArray.size) undef,defers:=[]}
  have hR:R (args.length+1) β1 w σ β1 a0 w:=by
   refine ⟨?_,rfl,fun i=> ?_,fun i hi=> ?_,fun i x hi hx=> ?_,fun i x hi hx=> ?_,fun i j x hi hj hx hy=> ?_,fun i x hi hx=> ?_,GrowS.refl fun x hx=> ?_,fun i x _ hx=>hx⟩
   ·have h1:=Vs.mono hle _ _ hV.2
    have h2:Vs ⟨σ.box,β1,w⟩ (B2 (fn.ntmps-(args.length+1)) AV.junk) (B2 (fn.ntmps-(args.length+1)) undef):=Vs.of (by simp) fun i c v hc _=>by
     rw [j1] at hc
     split at hc
     ·cases hc;simp only [V]
     ·cases hc
    have h3:=h1.append h2
    have h4:V ⟨σ.box,β1,w⟩ (.hand (args.length+2) (some (g,cap)) lo len) (.slice (some ⟨g,lo,none⟩) len cap):=by
     simp only [V]
     refine ⟨by rw [hbox,if_neg (by omega),if_pos rfl];simp,g,cap,.inr rfl,rfl,hlc,fun T' L' hl=> ?_⟩
     rw [hbox,if_neg (by omega),if_pos rfl] at hl
     cases hl
     refine ⟨?_,hll,cs0,hc0,hcap⟩
     show (if args.length+2=args.length+2 then g=g else _)
     rw [if_pos rfl]
    show Vs _ (.hand (args.length+2) (some (g,cap)) lo len::args++B2 (fn.ntmps-(args.length+1)) .junk) (((Value.slice (some ⟨g,lo,none⟩) len cap)::tl).toArray++Array.replicate (fn.ntmps-((Value.slice (some ⟨g,lo,none⟩) len cap)::tl).toArray.size) undef).toList
    rw [hlen] at h3
    rw [hlen]
    simp only [List.cons_append,Array.toList_append,Array.toList_replicate,List.size_toArray,T5]
    simp only [Vs]
    exact ⟨hlen ▸ h4,by simpa using h3⟩
   ·rw [hbox]
    by_cases hi:i≤args.length+1
    ·rw [if_pos hi];trivial
    ·rw [if_neg hi]
     by_cases hi2:i=args.length+2
     ·rw [if_pos hi2]
      have q:∀x,β1 i x→x=g:=fun x hx=>(hβhigh i x (by omega) hx).2
      refine ⟨fun x y hx hy=>by rw [q x hx,q y hy],hokL,fun x hx=> ?_⟩
      rw [q x hx]
      exact hat
     ·rw [if_neg hi2];trivial
   ·rw [hbox,if_pos hi]
   ·have h1:=hβlow i x hi hx
    refine ⟨hlt i x h1,?_⟩
    rw [hβ1]
    exact hne i x h1
   ·have h1:=hβhigh i x hi hx
    rw [hβ1]
    exact ⟨.inr h1.2,by rw [h1.2];exact hgl⟩
   ·rw [(hβhigh i x hi hx).1,(hβhigh j x hj hy).1]
   ·rw [hbox] at hi
    split at hi
    ·cases hi
    ·split at hi
     ·cases hi
     ·rename_i h1 h2
      exact absurd (hβhigh i x (by omega) hx).1 h2
   ·rw [hβ1] at hx
    rw [show x=g from hx]
    exact ⟨cs0,T,hc0⟩
  refine calls_of_wp hfn hb ?_
  refine VT (Λ:=Λ) (nt:=nt) (na:=args.length+1) (w0:=w) hm hΦ (fun w' hg=>hGrow g w w' hInv hat (by rw [←hβ1];exact hg)) c hl σ _ a0 w _ ⟨by simp [σ];omega,_,hR⟩ hE fun e σ' a' w' hk hR'=> ?_
  obtain ⟨_,β',hR'⟩:=hR'
  have hgrow:=hR'.grow
  rw [hβ1] at hgrow
  have fin:A81 P fn T L g cap lo len (fun r=>r=res) σ'→bodyPost P fn (fun e w'=>∃v,e= .returned v∧ER (.handv T L none lo len::args) res w w' β (.slice (some ⟨g,lo,none⟩) len cap::tl) v) .normal a' w':=by
   intro hf
   unfold A81 at hf
   split at hf
   ·rename_i b g' cap' lo' len' hs
    split at hf
    ·rename_i T' L' hbx
     obtain ⟨rfl,rfl,hll',hf⟩:=hf
     have hV0:=A06 hR' 0
     rw [hs] at hV0
     simp only [V] at hV0
     obtain ⟨_,g1,cap1,hgc,_,_,hd⟩:=hV0
     have hgc:g'=g1∧cap'=cap1:=by
      rcases hgc with h|h
      ·cases h
      ·cases h;exact ⟨rfl,rfl⟩
     obtain ⟨rfl,rfl⟩:=hgc
     obtain ⟨q1,_,_⟩:=hd T' L' hbx
     have hbok:=hR'.boxes b
     rw [hbx] at hbok
     have hat':MM w' T' L' g':=hbok.2.2 g' q1
     have fin2:∀{r:AV} {u:Value},.boxv [.dig [] L',r]=res→(results fn a'.tmps).run P w'= .ok u w'→YQ g' cap lo len r u→bodyPost P fn (fun e w'=>∃v,e= .returned v∧ER (.handv T' L none lo len::args) res w w' β (.slice (some ⟨g',lo,none⟩) len cap::tl) v) .normal a' w':=by
      intro r u hres hrun hr
      subst hres
      refine ⟨hR'.defers,u,hrun,u,rfl,?_⟩
      unfold ER
      exact ⟨g',cap,tl,rfl,hgrow,hll',hbok.2.1,hat',hr⟩
     have one:∀{r:AV},CJ P σ' fn.results.toList=some [r]→∃u,(results fn a'.tmps).run P w'= .ok u w'∧V ⟨σ'.box,β',w'⟩ r u:=by
      intro r havs
      obtain ⟨vs,h1,h2⟩:=IP (P:=P) hR' _ _ havs
      have hrun:(fn.results.mapM (C17 a'.tmps)).run P w'= .ok vs.toArray w':=by
       rw [PS,Sem.run_map,h1]
       rfl
      obtain ⟨u,rfl,hu⟩:=h2.one
      refine ⟨u,?_,hu⟩
      rw [RP]
      simp only [Sem.run_bind,hrun,Result.andThen_ok,Sem.run_pure]
      rfl
     split at hf
     ·rename_i k d havs
      obtain ⟨u,hu1,hu2⟩:=one havs
      simp only [V] at hu2
      exact fin2 (r:= .num k d) hf hu1 hu2
     ·rename_i b' g2 cap2 lo2 k havs
      obtain ⟨rfl,rfl,rfl,hkl,hf⟩:=hf
      obtain ⟨u,hu1,hu2⟩:=one havs
      simp only [V] at hu2
      obtain ⟨_,g3,cap3,hgc3,hu3,_,_⟩:=hu2
      have:g2=g3∧cap2=cap3:=by
       rcases hgc3 with h|h
       ·cases h
       ·cases h;exact ⟨rfl,rfl⟩
      obtain ⟨rfl,rfl⟩:=this
      exact fin2 (r:= .addr 0 k) hf hu1 ⟨hu3,hkl⟩
     ·exact hf.elim
    ·exact hf.elim
   ·exact hf.elim
  cases e with
  |normal=>exact fin hk
  |ret=>exact fin hk
  |_=>exact hk.elim
end
end Go.AI
