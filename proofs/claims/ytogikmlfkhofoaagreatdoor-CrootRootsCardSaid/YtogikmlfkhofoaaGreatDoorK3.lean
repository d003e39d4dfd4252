/- My texts AIeff, AIreg0, AIreg, AIdraw, AIview, AIcode, in one. -/
import Derived.Test.YtogikmlfkhofoaaGreatDoorK2
open Array renaming all_eq_true_iff_forall_mem→HW,getD→FL,getElem?_eq_some_iff→Q8,getElem_setIfInBounds→MK
open Bool renaming and_eq_true→K9,and_eq_true_iff→P1,false_eq_true→J7,not_eq_true→OM,not_eq_true'→G0,or_eq_true→Y4
open List renaming contains_iff_mem→DT,getD→M6,getElem?_append→CB,getElem?_cons_succ→JJ,getElem?_eq_getElem→g0,getElem?_eq_none→M1,getElem?_eq_some_iff→X3,getElem?_replicate→j1,getElem?_set→BH,length_replicate→U0,map_congr_left→PU,map_cons→W9,mem_append→DO,mem_cons→Q5,mem_of_getElem?→X7,mem_zipIdx_iff_getElem?→BS,replicate→B2
open Nat renaming add_zero→I4,le_refl→I6,lt_or_ge→L4
open Option renaming getD_some→CC,map_some→AW
namespace Go.AI
open Go Go.RowKit
set_option linter.unusedVariables false
set_option linter.unusedSimpArgs false
section
variable {P:Program} {Inv:World→Prop} {na:Nat} {β0:Nat→Nat→Prop} {w0:World} {σ:St} {β:Nat→Nat→Prop} {a:Act} {w:World} {o:Oper} {bx:Nat→Box} {Φ:Nat→List AV→Option Spec} {dr:Bool} {n:Nat} {e:Eff}
theorem B63 (hR:R na β0 w0 σ β a w) (hb:Sub bx σ.box) (hInv:Inv w) (hΦ:G6 P Inv Φ) {c:Call} (ho:o.op= .call c) {f:Operand} (hc:c.callee= .value f)
  (he:eff P Φ na dr σ.eval bx n o=some e) (hp:C6 e.pre True) (hn:Free na σ n):F8 P na β0 w0 (σ.apply o.dst e) o a w:=by
 have hVf:=hR.O2 f
 unfold eff at he
 rw [ho] at he
 simp only [hc] at he
 split at he
 ·rename_i g caps hf
  rw [hf] at hVf
  simp only [V] at hVf
  obtain ⟨vs,hfv,hvs⟩:=hVf
  have hV:=(A7z hR c.args).append hvs
  obtain ⟨hent,hcall⟩:VI P g∧Calls P g ((c.args.map a.eval).toList++vs).toArray w fun en w'=>∃v,en= .returned v∧∃β',R na β0 w0 {σ with boxes:=F4 σ.boxes e.upd} β' a w'∧V ⟨St.box {σ with boxes:=F4 σ.boxes e.upd},β',w'⟩ e.val v:=by
   split at he
   ·rename_i e' he'
    cases he
    exact A4s hR hb hInv hΦ hV he' hp hn
   ·exact A4p (dst:=o.dst) hR hb hInv hΦ hV he hp hn
  intro next Q hnext
  have hrun:(execOp a.eval o).run P w= .ok (.enter g ((c.args.map a.eval).toList++vs).toArray) w:=by
   have:execOp a.eval o=callFunc g ((c.args.map a.eval)++vs.toArray):=by
    simp only [execOp,ho,resolve,hc,hfv,Deferred.ofValue]
    simp [invoke]
   rw [this,hent]
   congr 2
   simp
  unfold Oper.wp
  rw [hrun,Oper.upon_enter]
  refine hcall.mono ?_
  rintro en w' ⟨v,rfl,β',h1,h2⟩
  exact hnext β' _ w' (h1.put o.dst h2)
 ·cases he
theorem A4o (hR:R na β0 w0 σ β a w) (hb:Sub bx σ.box) {c:Call} (ho:o.op= .call c) {b:Builtin} (hc:c.callee= .builtin b)
  (he:eff P Φ na dr σ.eval bx n o=some e) (hp:C6 e.pre True) (hn:b= .append→Free na σ n):F8 P na β0 w0 (σ.apply o.dst e) o a w:=by
 have hargs:=A7z hR c.args
 have hx:=A80 ho hc a
 unfold eff at he
 rw [ho] at he
 simp only [hc] at he
 unfold KO at he
 cases b<;>simp only at he<;>try cases he
 case append=>
  split at he
  ·rename_i t t' x y hty harg
   rw [harg] at hargs
   obtain ⟨u,v,huv,hu,hv⟩:=hargs.two
   split at he
   ·rename_i htt
    subst htt
    have hrun:∀{r:Value} {w':World},(Builtin.append_ #[t,t] o.type #[u,v]).run P w= .ok r w'→(execOp a.eval o).run P w= .ok (.value r) w':=by
     intro r w' h
     rw [hx,EH hty,EH huv]
     simp only [builtin,Sem.run_bind,h,Result.andThen_ok,Sem.run_pure]
    have hap:∃β' w' r,(Builtin.append_ #[t,t] o.type #[u,v]).run P w= .ok r w'∧R na β0 w0 {σ with boxes:=F4 σ.boxes e.upd} β' a w'∧V ⟨St.box {σ with boxes:=F4 σ.boxes e.upd},β',w'⟩ e.val r:=by
     have he':=he
     unfold CD at he'
     split at he'
     ·exact WK hR hb hu hv he hp (hn rfl) o.type
     ·exact WL hR hb hu hv he hp (hn rfl) o.type
     ·cases he'
    obtain ⟨β',w',r,h1,h2,h3⟩:=hap
    exact F8.value (hrun h1) h2 h3
   ·cases he
  ·cases he
 case len=>
  split at he
  ·rename_i t x hty harg
   rw [harg] at hargs
   obtain ⟨v,hv,hV⟩:=hargs.one
   obtain ⟨p,r,c',rfl,h1,h2⟩:=C5o hR hb hV he o.type
   refine F8.pure' hR (v:=r) ?_ h2
   rw [hx,EH hty,EH hv]
   simp only [builtin,Sem.run_bind,h1,Result.andThen_ok,Sem.run_pure]
  ·cases he
 case max=>
  split at he
  ·rename_i x y harg
   rw [harg] at hargs
   obtain ⟨u,v,huv,hu,hv⟩:=hargs.two
   unfold B9p at he
   split at he
   ·split at he
    ·rename_i e';subst e'
     cases he
     obtain ⟨h1,h2,_,_⟩:=C98 (P:=P) (w:=w) hu hv
     refine F8.pure' hR ?_ h2
     rw [hx,EH huv]
     have h1':∀tys ty,(Builtin.max_ tys ty #[u,v]).run P w=_:=fun tys ty=>h1
     simp only [builtin,Sem.run_bind,h1',Result.andThen_ok,Sem.run_pure]
    ·cases he
   ·cases he
  ·cases he
 case min=>
  split at he
  ·rename_i x y harg
   rw [harg] at hargs
   obtain ⟨u,v,huv,hu,hv⟩:=hargs.two
   unfold B9q at he
   split at he
   ·split at he
    ·rename_i e';subst e'
     cases he
     obtain ⟨_,_,h1,h2⟩:=C98 (P:=P) (w:=w) hu hv
     refine F8.pure' hR ?_ h2
     rw [hx,EH huv]
     have h1':∀tys ty,(Builtin.min_ tys ty #[u,v]).run P w=_:=fun tys ty=>h1
     simp only [builtin,Sem.run_bind,h1',Result.andThen_ok,Sem.run_pure]
    ·cases he
   ·cases he
  ·cases he
theorem A64 (hR:R na β0 w0 σ β a w) (hb:Sub bx σ.box) (hInv:Inv w) (hΦ:G6 P Inv Φ)
  (he:eff P Φ na dr σ.eval bx n o=some e) (hp:C6 e.pre True) (hn:F5 o.op=true→Free na σ n):F8 P na β0 w0 (σ.apply o.dst e) o a w:=by
 cases ho:o.op with
 |move x=>exact A2d hR (.inl ho) he
 |assign x=>exact A2d hR (.inr ho) he
 |pick c x y=>exact C21 hR ho he
 |alloc t=>exact B5x hR ho he (hn (by rw [ho];rfl))
 |box t x=>exact C6c hR ho he (hn (by rw [ho];rfl))
 |build t ps=>exact B5z hR ho he
 |buildSlice t len ps=>exact WM hR ho he (hn (by rw [ho];rfl))
 |load t x=>exact C1z hR hb ho he hp
 |store t x y=>exact B62 hR hb ho he hp
 |binOp op t x y t'=>exact B5y hR ho he hp
 |unOp op t x=>exact C22 hR ho he
 |convert t t' x=>exact A4q hR ho he
 |makeSlice t x y=>exact C20 hR ho he hp (hn (by rw [ho];rfl))
 |slice t x lo hi mx=>exact B61 hR hb ho he hp
 |fieldAddr t x f=>exact YI hR hb ho he
 |field t x f=>exact B60 hR ho he
 |indexAddr t x ix=>exact YJ hR hb ho he hp
 |extract x i=>exact A4r hR ho he
 |makeFunc fn first captured=>exact A2c hR ho he
 |call c=>
  cases hc:c.callee with
  |value f=>exact B63 hR hb hInv hΦ ho hc he hp (hn (by rw [ho];simp [F5,hc]))
  |builtin b=>exact A4o hR hb ho hc he hp (fun e'=>hn (by rw [ho];simp [F5,hc,e']))
  |invoke r m=>unfold eff at he;rw [ho] at he;simp only [hc] at he;cases he
 |_=>unfold eff at he;rw [ho] at he;simp at he
end
end Go.AI

namespace Go.AI
open Go Go.RowKit
set_option linter.unusedVariables false
set_option linter.unusedSimpArgs false
section
variable {na:Nat} {P:Program} {Φ:Nat→List AV→Option Spec} {dr:Bool} {n:Nat} {o:Oper} {bx bx':Nat→Box} {ρ ρ':Operand→AV} {e:Eff}
theorem A63 (h:∀x ∈ o.op.operands,ρ x=ρ' x):eff P Φ na dr ρ bx n o=eff P Φ na dr ρ' bx n o:=by
 unfold eff
 cases ho:o.op<;>rw [ho] at h<;>simp only [Op.operands] at h<;>(try dsimp only)
 case move x=>rw [h x (by simp)]
 case assign x=>rw [h x (by simp)]
 case pick c x y=>rw [h c (by simp),h x (by simp),h y (by simp)]
 case box t x=>rw [h x (by simp)]
 case build t ps=>
  have:(ps.toList.map fun (x:Nat×Operand)=>(x.1,ρ x.2))=ps.toList.map fun (x:Nat×Operand)=>(x.1,ρ' x.2):=PU fun x hx=>by rw [h x.2 (by simp;exact ⟨x.1,by simpa using hx⟩)]
  simp only [this]
 case buildSlice t len ps=>
  have:(ps.toList.map fun (x:Nat×Operand)=>(x.1,ρ x.2))=ps.toList.map fun (x:Nat×Operand)=>(x.1,ρ' x.2):=PU fun x hx=>by rw [h x.2 (by simp;exact ⟨x.1,by simpa using hx⟩)]
  simp only [this]
 case load t x=>rw [h x (by simp)]
 case store t x y=>simp only [h x (by simp),h y (by simp)]
 case binOp op t x y t'=>rw [h x (by simp),h y (by simp)]
 case unOp op t x=>rw [h x (by simp)]
 case convert t t' x=>rw [h x (by simp)]
 case makeSlice t x y=>rw [h x (by simp),h y (by simp)]
 case slice t x lo hi mx=>
  have h1:=h x (by simp)
  have h2:∀y,lo=some y→ρ y=ρ' y:=fun y e=>h y (by simp [e])
  have h3:∀y,hi=some y→ρ y=ρ' y:=fun y e=>h y (by simp [e])
  cases lo with
  |none=>cases hi with
   |none=>simp only [h1]
   |some v=>simp only [h1,h3 v rfl]
  |some u=>cases hi with
   |none=>simp only [h1,h2 u rfl]
   |some v=>simp only [h1,h2 u rfl,h3 v rfl]
 case fieldAddr t x f=>rw [h x (by simp)]
 case field t x f=>rw [h x (by simp)]
 case indexAddr t x ix=>rw [h x (by simp),h ix (by simp)]
 case extract x i=>rw [h x (by simp)]
 case makeFunc fn first captured=>
  have:captured.toList.map ρ=captured.toList.map ρ':=PU fun x hx=>h x (by simp;exact .inr (by simpa using hx))
  cases fn<;>simp only [this]
 case call c=>
  have:c.args.toList.map ρ=c.args.toList.map ρ':=PU fun x hx=>h x (by simp [Call.operands];exact .inr (by simpa using hx))
  cases hc:c.callee with
  |value f=>simp only [this,h f (by simp [Call.operands,hc])]
  |builtin b=>simp only [this]
  |invoke r m=>rfl
theorem C5f (h:SR o.op=false):eff P Φ na dr ρ bx n o=eff P Φ na dr ρ bx' n o:=by
 unfold eff
 cases ho:o.op<;>rw [ho] at h<;>simp [SR] at h<;>first|rfl|(rename_i fn _ _;cases fn<;>rfl)
theorem RE:∀(p:List Nat) {u:List (Nat×Box)},freeze bx dr p=some u→∀x ∈ u,dr=false∧bx x.1≠ .unborn
 |[],u,h=>by simp [freeze] at h;subst h;simp
 |i::p,u,h=>by
  unfold freeze at h
  split at h
  ·exact RE p h
  ·rename_i T l hi
   split at h
   ·cases h
   ·rename_i hd
    split at h
    ·rename_i u' hu'
     cases h
     intro x hx
     rcases Q5.1 hx with rfl|hx
     ·exact ⟨by simpa using hd,by rw [hi];simp⟩
     ·exact RE p hu' x hx
    ·cases h
  ·cases h
theorem TY:∀{p:List Nat},WI na bx p=true→∀i ∈ p,bx i= .G4
 |[],_,i,hi=>by simp at hi
 |j::p,h,i,hi=>by
  unfold WI at h
  simp only [K9,decide_eq_true_eq] at h
  rcases Q5.1 hi with rfl|hi
  ·have:=h.1.2
   split at this
   ·assumption
   ·cases this
  ·exact TY h.2 i hi
theorem B2o {c:AV} {b:Nat} {T:TypeId} {L:List Nat} {lo len:Nat} (h:RF bx c=some (b,T,L,lo,len)):bx b= .D1 T L:=by
 unfold RF at h
 split at h
 ·split at h
  ·rename_i e;cases h;exact e
  ·cases h
 ·split at h
  ·rename_i e;cases h;exact e
  ·cases h
 ·cases h
theorem A7v (he:eff P Φ na dr ρ bx n o=some e):∀x ∈ e.upd,(x.1=n∧F5 o.op=true)∨((T1 o.op=true∨dr=false)∧bx x.1≠ .unborn):=by
 unfold eff at he
 cases ho:o.op<;>rw [ho] at he<;>simp only at he
 case call c=>
  cases hc:c.callee with
  |value f=>
   simp only [hc] at he
   split at he
   ·split at he
    ·rename_i e' he'
     cases he
     unfold YZ at he'
     split at he'
     ·cases he'
     split at he'
     ·cases he'
     rename_i b T L lo len hh
     split at he'
     ·cases he'
     split at he'
     ·cases he'
     split at he'
     ·cases he'
     rename_i hdr
     simp only [Y4,not_or,OM] at hdr
     have hbx:bx b≠ .unborn:=by rw [B2o hh];simp
     split at he'
     ·cases he'
      intro x hx
      simp at hx
      rcases hx with rfl|rfl
      ·exact .inl ⟨rfl,by simp [F5,hc]⟩
      ·exact .inr ⟨.inr hdr.1,hbx⟩
     ·split at he'
      ·cases he'
       intro x hx
       simp at hx
       rcases hx with rfl|rfl
       ·exact .inr ⟨.inr hdr.1,hbx⟩
       ·exact .inl ⟨rfl,by simp [F5,hc]⟩
      ·cases he'
     ·cases he'
    unfold YT at he
    split at he
    ·cases he
    ·split at he
     ·cases he
     ·split at he
      ·split at he
       ·rename_i hown
        cases he
        simp only [K9,G0] at hown
        intro x hx
        obtain ⟨i,hi,rfl⟩:=List.mem_map.1 hx
        exact .inr ⟨.inr hown.1,by rw [TY hown.2 i hi];simp⟩
       ·cases he
      ·split at he
       ·cases he
        intro x hx
        simp at hx
        subst hx
        exact .inl ⟨rfl,by simp [F5,hc]⟩
       ·cases he
       split at he
       ·cases he
       ·rename_i u hu
        cases he
        intro x hx
        rcases Q5.1 hx with rfl|hx
        ·exact .inl ⟨rfl,by simp [F5,hc]⟩
        ·obtain ⟨h1,h2⟩:=RE _ hu x hx
         exact .inr ⟨.inr h1,h2⟩
   ·cases he
  |builtin b=>
   simp only [hc] at he
   unfold KO at he
   cases b<;>simp only at he<;>try cases he
   case append=>
    split at he
    ·split at he
     ·unfold CD at he
      split at he
      ·split at he
       ·split at he
        ·cases he;intro x hx;simp at hx;subst hx;exact .inl ⟨rfl,by simp [F5,hc]⟩
        ·cases he
       ·cases he
      ·split at he
       ·rename_i hb _
        split at he
        ·cases he
         intro x hx
         simp at hx
         rcases hx with rfl|rfl
         ·exact .inr ⟨.inl (by simp [T1,hc]),by rw [hb];simp⟩
         ·exact .inl ⟨rfl,by simp [F5,hc]⟩
        ·cases he
       ·cases he
      ·cases he
     ·cases he
    ·cases he
   case len=>
    split at he
    ·unfold A8h at he
     (repeat' split at he)<;>cases he<;>simp
    ·cases he
   case max=>
    split at he
    ·unfold B9p at he
     (repeat' split at he)<;>cases he<;>simp
    ·cases he
   case min=>
    split at he
    ·unfold B9q at he
     (repeat' split at he)<;>cases he<;>simp
    ·cases he
  |invoke r m=>simp only [hc] at he;cases he
 case store t x y=>
  split at he
  ·split at he
   ·rename_i hb
    split at he
    ·split at he
     ·cases he;intro x hx;simp at hx;subst hx;exact .inr ⟨.inl rfl,by rw [hb];simp⟩
     ·cases he
    ·cases he
   ·rename_i hb
    split at he
    ·cases he;intro x hx;simp at hx;subst hx;exact .inr ⟨.inl rfl,by rw [hb];simp⟩
    ·cases he
   ·cases he
  ·cases he
 case makeFunc fn first captured=>
  cases fn<;>simp only at he
  case func f=>
   split at he
   ·cases he;simp
   ·cases he
  all_goals cases he
 case binOp op t x y t'=>
  split at he
  ·cases he;simp
  ·rw [B85 he];simp
 all_goals
  (repeat' split at he)<;>cases he<;>simp [F5]
end
end Go.AI

namespace Go.AI
open Go Go.RowKit
set_option linter.unusedVariables false
set_option linter.unusedSimpArgs false
theorem IQ:∀{v:AV} {k:AV→Prop},LQ v k→k v
 | .dig p l,k,h=>h l rfl
 | .num kd n,k,h=>h n rfl
 | .bool b,k,h=>h b rfl
 | .junk,k,h=>h
 | .nilS,k,h=>h
 | .vec ..,k,h=>h
 | .agg _,k,h=>h
 | .tup _,k,h=>h
 | .addr ..,k,h=>h
 | .own _,k,h=>h
 | .cref ..,k,h=>h
 | .fn ..,k,h=>h
 | .grown ..,k,h=>h
 | .boxv _,k,h=>h
 | .hand ..,k,h=>h
 | .handv ..,k,h=>h
 | .avec ..,k,h=>h
theorem LU:∀{l:List AV} {k:List AV→Prop},LS l k→k l
 |[],_,h=>h
 |v::l,k,h=>LU (l:=l) (k:=fun l'=>k (v::l')) (IQ (v:=v) (k:=fun v'=>LS l fun l'=>k (v'::l')) h)
theorem B5s {v:AV} {k:AV→Prop} (h:A2a v k):k v:=by
 unfold A2a at h
 split at h
 ·exact LU h
 ·exact IQ h
theorem UM:∀{l:List AV} {k:List AV→Prop},PN l k→k l
 |[],_,h=>h
 |v::l,k,h=>UM (l:=l) (k:=fun l'=>k (v::l')) (B5s (v:=v) (k:=fun v'=>PN l fun l'=>k (v'::l')) h)
theorem C1w {v:AV} {k:AV→Prop} (h:A6v v k):k v:=by
 unfold A6v at h
 split at h
 ·exact LU h
 ·exact UM h
 ·exact h
theorem A2e {b c:Bool} {e:Eff} {k:Eff→Prop} (h:cond b (A6v e.val fun v=>k ⟨e.pre,v,e.upd⟩) (cond c (LQ e.val fun v=>k ⟨e.pre,v,e.upd⟩) (k e))):k e:=by
 cases b
 ·cases c
  ·exact h
  ·exact IQ (k:=fun v=>k ⟨e.pre,v,e.upd⟩) h
 ·exact C1w (k:=fun v=>k ⟨e.pre,v,e.upd⟩) h
theorem ZT {p:Option Prop} {q:Prop} (h:C6 p q):C6 p True∧q:=by
 cases p with
 |none=>exact ⟨trivial,h⟩
 |some p=>exact ⟨⟨h.1,trivial⟩,h.2⟩
theorem FP:∀(u:List (Nat×Box)) (bs:List Box),(F4 bs u).length=bs.length
 |[],_=>rfl
 |(i,b)::u,bs=>by simp [F4,FP u]
theorem HH:∀(u:List (Nat×Box)) (bs:List Box) (j:Nat),(∀x ∈ u,x.1≠j)→(F4 bs u).getD j .unborn=bs.getD j .unborn
 |[],_,_,_=>rfl
 |(i,b)::u,bs,j,h=>by
  simp only [F4]
  rw [HH u _ j (fun x hx=>h x (by simp [hx]))]
  have hij:i≠j:=h (i,b) (by simp)
  simp [M6,BH,hij]
theorem St.A7n (σ:St) (d:Option Tmp) (v:AV):(σ.put d v).box=σ.box:=by cases d<;>rfl
theorem St.OR (σ:St) (d:Option Tmp) (v:AV):(σ.put d v).boxes=σ.boxes:=by cases d<;>rfl
theorem St.HZ (σ:St) (d:Option Tmp) (e:Eff):(σ.apply d e).boxes=F4 σ.boxes e.upd:=by simp only [St.apply,St.OR]
section
variable {P:Program} {Inv:World→Prop} {na:Nat} {β0:Nat→Nat→Prop} {w0:World} {σ:St} {β:Nat→Nat→Prop} {a:Act} {w:World} {Φ:Nat→List AV→Option Spec} {ops:Array Oper}
def MY (na:Nat) (σ:St) (m:Nat) (L:List Oper):Prop:=na<m∧(∀i,m≤i→σ.box i= .unborn)∧m+X9 L≤σ.boxes.length
theorem R.B5i (h:R na β0 w0 σ β a w) {d:Nat} {b:Bool} (hd:σ.tmps.getD d .junk= .bool b):σ.put (some d) (.bool b)=σ∧a.tmps[d]? =some (.bool b):=by
 have hs:σ.tmps[d]? =some (.bool b):=by
  cases hc:σ.tmps[d]? with
  |none=>simp [M6,hc] at hd
  |some c=>simp [M6,hc] at hd;rw [hd]
 refine ⟨?_,?_⟩
 ·have hlt:d<σ.tmps.length:=(X3.1 hs).1
  have:σ.tmps.set d (.bool b)=σ.tmps:=by
   apply List.ext_getElem?
   intro j
   rw [BH]
   split
   ·rename_i e;subst e;simp [hlt,hs]
    have:=X3.1 hs
    exact this.2.symm
   ·rfl
  show ({σ with tmps:=σ.tmps.set d (.bool b)}:St)=σ
  rw [this]
 ·obtain ⟨v,h1,h2⟩:=h.tmps.get hs
  have:=h2.ET
  subst this
  simpa using h1
theorem A7e (h:R na β0 w0 σ β a w) {j d:Nat} {b want:Bool} {o:Oper} (hg:o.guard=some (j,want)) (hj:(ops[j]?).bind (·.dst)=some d) (hd:σ.tmps.getD d .junk= .bool b):
  Region.wanted o (yielded ops a.tmps)=(b==want):=by
 obtain ⟨_,h2⟩:=h.B5i hd
 simp only [Region.wanted,hg,yielded,hj,Option.bind_some,h2]
 cases b<;>cases want<;>rfl
theorem C3k {C:Ctx}:V C (.tup []) undef:=by simp only [V];exact ⟨[],rfl,by simp only [Vs]⟩
theorem XW (h:R na β0 w0 σ β a w) {j d:Nat} {want:Bool} {o:Oper} (hg:o.guard=some (j,want)) (hj:(ops[j]?).bind (·.dst)=some d) (hd:σ.tmps.getD d .junk= .tup []):
  Region.wanted o (yielded ops a.tmps)=false:=by
 have hs:σ.tmps[d]? =some (.tup []):=by
  cases hc:σ.tmps[d]? with
  |none=>simp [M6,hc] at hd
  |some c=>simp [M6,hc] at hd;rw [hd]
 obtain ⟨v,h1,h2⟩:=h.tmps.get hs
 simp only [V] at h2
 obtain ⟨vs,rfl, -⟩:=h2
 have h1':a.tmps[d]? =some (.tuple vs.toArray):=by simpa using h1
 simp only [Region.wanted,hg,yielded,hj,Option.bind_some,h1']
 rfl
theorem C23 (hR:R na β0 w0 σ β a w) (hInv:Inv w) (hΦ:G6 P Inv Φ) {F:(Nat→Box)→Nat→Box} {x:Nat×Oper} {k:St→Prop} (h:MF P Φ na false F σ x k) (hn:F5 x.2.op=true→Free na σ x.1):
  ∃e,eff P Φ na false σ.eval σ.box x.1 x.2=some e∧C6 e.pre True∧k (σ.apply x.2.dst e)∧F8 P na β0 w0 (σ.apply x.2.dst e) x.2 a w:=by
 unfold MF at h
 split at h
 ·rename_i e he
  obtain ⟨h1,h2⟩:=ZT h
  refine ⟨e,he,h1,A2e (k:=fun e=>k (σ.apply x.2.dst e)) h2,?_⟩
  exact A64 hR (Sub.refl _) hInv hΦ he h1 hn
 ·exact h.elim
theorem MY.step {m:Nat} {o:Oper} {L:List Oper} (h:MY na σ m (o::L)) {bx:Nat→Box} (hb:Sub bx σ.box) {dr:Bool} {e:Eff} (he:eff P Φ na dr σ.eval bx m o=some e):
  MY na (σ.apply o.dst e) (if F5 o.op then m+1 else m) L:=by
 obtain ⟨h1,h2,h3⟩:=h
 have hu:=A7v he
 have hlen:(σ.apply o.dst e).boxes.length=σ.boxes.length:=by rw [St.HZ,FP]
 refine ⟨by split<;>omega,fun i hi=> ?_,?_⟩
 ·have hmi:m≤i:=by split at hi<;>omega
  show M6 _ _ _=_
  rw [St.HZ,HH]
  ·exact h2 i hmi
  ·intro x hx e'
   rcases hu x hx with ⟨q1,q2⟩|⟨_,q2⟩
   ·rw [q2] at hi;simp at hi;omega
   ·rcases hb x.1 with h'|h'
    ·exact q2 h'
    ·rw [e'] at h';rw [h2 i hmi] at h';exact q2 (e' ▸ h')
 ·rw [hlen]
  simp only [X9] at h3
  split<;>rename_i ha<;>simp [ha] at h3<;>omega
theorem MY.free {m:Nat} {o:Oper} {L:List Oper} (h:MY na σ m (o::L)) (ha:F5 o.op=true):Free na σ m:=
 ⟨h.1,by have:=h.2.2;simp [X9,ha] at this;omega,h.2.1 m (I6 _)⟩
theorem MY.put {m:Nat} {o:Oper} {L:List Oper} (h:MY na σ m (o::L)) (d:Option Tmp) (v:AV):MY na (σ.put d v) (if F5 o.op then m+1 else m) L:=by
 obtain ⟨h1,h2,h3⟩:=h
 refine ⟨by split<;>omega,fun i hi=> ?_,?_⟩
 ·rw [St.A7n];exact h2 i (by split at hi<;>omega)
 ·rw [St.OR]
  simp only [X9] at h3
  split<;>rename_i ha<;>simp [ha] at h3<;>omega
theorem A7y (hΦ:G6 P Inv Φ) (hGrow:∀w',GrowS (β0 (na+1)) w0 w'→Inv w') {Q:Exit→Act→World→Prop} {K:St→Prop}
  (hK:∀σ β a w,R na β0 w0 σ β a w→K σ→Q .normal a w) (lim:Nat):∀(L:List Oper) (m:Nat) (σ:St) (β:Nat→Nat→Prop) (a:Act) (w:World),R na β0 w0 σ β a w→MY na σ m L→
  evR P Φ na false none lim ops (number m L) σ K→wpList P ops Q L a w
 |[],m,σ,β,a,w,hR,_,h=>hK σ β a w hR h
 |o::L,m,σ,β,a,w,hR,hrd,h=>by
  have hInv:Inv w:=hGrow _ hR.grow
  simp only [number,evR] at h
  have take:∀{k},MF P Φ na false (PW none lim ops o) σ (m,o) k→(∀σ',k σ'→evR P Φ na false none lim ops (number (if F5 o.op then m+1 else m) L) σ' K)→Region.wanted o (yielded ops a.tmps)=true→wpList P ops Q (o::L) a w:=by
   intro k hs hk hw
   obtain ⟨e,he,_,h2,h3⟩:=C23 hR hInv hΦ hs (fun ha=>hrd.free ha)
   unfold wpList
   rw [if_pos hw]
   refine .inl (h3 _ _ fun β' a' w' hR'=> ?_)
   exact A7y hΦ hGrow hK lim L _ _ β' a' w' hR' (hrd.step (Sub.refl _) he) (hk _ h2)
  have pass:evR P Φ na false none lim ops (number (if F5 o.op then m+1 else m) L) (σ.put o.dst (.tup [])) K→Region.wanted o (yielded ops a.tmps)=false→wpList P ops Q (o::L) a w:=by
   intro hs hw
   unfold wpList
   rw [if_neg (by simp [hw])]
   exact A7y hΦ hGrow hK lim L _ _ β _ w (hR.put o.dst C3k) (hrd.put _ _) hs
  split at h
  ·rename_i hg
   exact take h (fun _ h=>h) (by simp [Region.wanted,hg])
  ·rename_i j want hg
   split at h
   ·exact h.elim
   ·rename_i d hj
    split at h
    ·rename_i b hd
     have hw:=A7e (ops:=ops) hR hg hj hd
     obtain ⟨hput,_⟩:=hR.B5i hd
     cases b<;>simp only [cond_true,cond_false] at h<;>rw [hput] at h<;>cases want<;>simp only [cond_true,cond_false] at h
     ·exact take h (fun _ h=>h) hw
     ·exact pass h hw
     ·exact pass h hw
     ·exact take h (fun _ h=>h) hw
    ·rename_i hd
     exact pass h (XW hR hg hj hd)
    ·exact h.elim
end
end Go.AI

namespace Go.AI
open Go Go.RowKit
set_option linter.unusedVariables false
set_option linter.unusedSimpArgs false
section
variable {P:Program} {Inv:World→Prop} {na:Nat} {β0:Nat→Nat→Prop} {w0:World} {σ:St} {β:Nat→Nat→Prop} {a:Act} {w:World} {Φ:Nat→List AV→Option Spec} {ops:Array Oper} {ban:Option (List Nat)}
def o3 (ban:Option (List Nat)) (ops:Array Oper) (lim:Nat) (σ:St) (o:Oper):Nat→Box:=PW ban lim ops o σ.box
def B21 (P:Program) (Φ:Nat→List AV→Option Spec) (na:Nat) (ban:Option (List Nat)) (ops:Array Oper) (lim:Nat) (σ:St) (x:Nat×Oper) (σ':St):Prop:=
 ∃e,eff P Φ na true σ.eval (o3 ban ops lim σ x.2) x.1 x.2=some e∧C6 e.pre True∧σ'=σ.apply x.2.dst e
def D6g (v:AV) (want go:Bool):Prop:=(∃b,v= .bool b∧go=(b==want))∨(v= .tup []∧go=false)
def CQ (P:Program) (Φ:Nat→List AV→Option Spec) (na:Nat) (ban:Option (List Nat)) (ops:Array Oper) (lim:Nat) (σ:St) (x:Nat×Oper) (σ':St):Prop:=
 match x.2.guard with
 |none=>B21 P Φ na ban ops lim σ x σ'
 |some (j,want)=>∃d b,(ops[j]?).bind (·.dst)=some d∧D6g (σ.tmps.getD d .junk) want b∧(if b=true then B21 P Φ na ban ops lim σ x σ' else σ'=σ.put x.2.dst (.tup []))
def VJ (P:Program) (Φ:Nat→List AV→Option Spec) (na:Nat) (ban:Option (List Nat)) (ops:Array Oper) (lim:Nat):List (Nat×Oper)→St→St→Prop
 |[],σ,σ'=>σ'=σ
 |x::L,σ,σ'=>∃σ1,CQ P Φ na ban ops lim σ x σ1∧VJ P Φ na ban ops lim L σ1 σ'
theorem B5j {σ:St} {d:Nat} {b:Bool} (hd:σ.tmps.getD d .junk= .bool b):σ.put (some d) (.bool b)=σ:=by
 have hs:σ.tmps[d]? =some (.bool b):=by
  cases hc:σ.tmps[d]? with
  |none=>simp [M6,hc] at hd
  |some c=>simp [M6,hc] at hd;rw [hd]
 have hlt:d<σ.tmps.length:=(X3.1 hs).1
 have:σ.tmps.set d (.bool b)=σ.tmps:=by
  apply List.ext_getElem?
  intro j
  rw [BH]
  split
  ·rename_i e;subst e;simp [hlt]
   have:=X3.1 hs
   exact this.2.symm
  ·rfl
 show ({σ with tmps:=σ.tmps.set d (.bool b)}:St)=σ
 rw [this]
theorem QD {lim:Nat} {x:Nat×Oper} {k:St→Prop} (h:MF P Φ na true (PW ban lim ops x.2) σ x k):∃σ',B21 P Φ na ban ops lim σ x σ'∧k σ':=by
 unfold MF at h
 split at h
 ·rename_i e he
  obtain ⟨h1,h2⟩:=ZT h
  refine ⟨_,⟨e,?_,h1,rfl⟩,A2e (k:=fun e=>k (σ.apply x.2.dst e)) h2⟩
  exact he
 ·exact h.elim
theorem FH {lim:Nat} {K:St→Prop}:∀(L:List (Nat×Oper)) (σ:St),evR P Φ na true ban lim ops L σ K→∃σ',VJ P Φ na ban ops lim L σ σ'∧K σ'
 |[],σ,h=>⟨σ,rfl,h⟩
 |x::L,σ,h=>by
  simp only [evR] at h
  split at h
  ·rename_i hg
   obtain ⟨σ1,h1,h2⟩:=QD h
   obtain ⟨σ2,h3,h4⟩:=FH L σ1 h2
   exact ⟨σ2,⟨σ1,by unfold CQ;rw [hg];exact h1,h3⟩,h4⟩
  ·rename_i j want hg
   split at h
   ·exact h.elim
   ·rename_i d hj
    split at h
    ·rename_i b hd
     have hput:=B5j hd
     have take:MF P Φ na true (PW ban lim ops x.2) σ x (fun σ'=>evR P Φ na true ban lim ops L σ' K)→b=want→∃σ',VJ P Φ na ban ops lim (x::L) σ σ'∧K σ':=by
      intro hs hb
      obtain ⟨σ1,h1,h2⟩:=QD hs
      obtain ⟨σ2,h3,h4⟩:=FH L σ1 h2
      refine ⟨σ2,⟨σ1,?_,h3⟩,h4⟩
      unfold CQ
      rw [hg]
      exact ⟨d,true,hj,.inl ⟨b,hd,by simp [hb]⟩,by rw [if_pos rfl];exact h1⟩
     have pass:evR P Φ na true ban lim ops L (σ.put x.2.dst (.tup [])) K→b≠want→∃σ',VJ P Φ na ban ops lim (x::L) σ σ'∧K σ':=by
      intro hs hb
      obtain ⟨σ2,h3,h4⟩:=FH L _ hs
      refine ⟨σ2,⟨_,?_,h3⟩,h4⟩
      unfold CQ
      rw [hg]
      exact ⟨d,false,hj,.inl ⟨b,hd,by simp [hb]⟩,by rw [if_neg (by simp)]⟩
     cases b<;>simp only [cond_true,cond_false] at h<;>rw [hput] at h<;>cases want<;>simp only [cond_true,cond_false] at h
     ·exact take h rfl
     ·exact pass h (by simp)
     ·exact pass h (by simp)
     ·exact take h rfl
    ·rename_i hd
     obtain ⟨σ2,h3,h4⟩:=FH L _ h
     refine ⟨σ2,⟨_,?_,h3⟩,h4⟩
     unfold CQ
     rw [hg]
     exact ⟨d,false,hj,.inr ⟨hd,rfl⟩,by rw [if_neg (by simp)]⟩
    ·exact h.elim
theorem eval_put {σ:St} {dst:Option Tmp} {v:AV} {x:Operand} (h:∀d,dst=some d→x≠ .tmp d):(σ.put dst v).eval x=σ.eval x:=by
 cases dst with
 |none=>rfl
 |some d=>
  cases x with
  |tmp t=>
   have hne:d≠t:=fun e=>h d rfl (e ▸ rfl)
   show (σ.tmps.set d v).getD t .junk=σ.tmps.getD t .junk
   simp [M6,BH,hne]
  |_=>rfl
theorem B8v (σ:St) (bs:List Box) (x:Operand):St.eval {σ with boxes:=bs} x=σ.eval x:=by cases x<;>rfl
theorem B8u {σ:St} {dst:Option Tmp} {e:Eff} {x:Operand} (h:∀d,dst=some d→x≠ .tmp d):(σ.apply dst e).eval x=σ.eval x:=by
 unfold St.apply
 rw [eval_put h,B8v]
theorem B0m {σ:St} {dst:Option Tmp} {v:AV} {d:Nat} (h:dst≠some d):(σ.put dst v).tmps.getD d .junk=σ.tmps.getD d .junk:=by
 cases dst with
 |none=>rfl
 |some t=>
  have hne:t≠d:=fun e=>h (e ▸ rfl)
  show (σ.tmps.set t v).getD d .junk=σ.tmps.getD d .junk
  simp [M6,BH,hne]
theorem A76 {σ:St} {dst:Option Tmp} {e:Eff} {d:Nat} (h:dst≠some d):(σ.apply dst e).tmps.getD d .junk=σ.tmps.getD d .junk:=by
 unfold St.apply
 rw [B0m h]
theorem put_comm {σ:St} {x y:Option Tmp} (u v:AV) (h:∀d,x=some d→y≠some d):(σ.put x u).put y v=(σ.put y v).put x u:=by
 cases x with
 |none=>cases y<;>rfl
 |some d=>
  cases y with
  |none=>rfl
  |some t=>
   have hne:d≠t:=fun e=>h d rfl (e ▸ rfl)
   show ({σ with tmps:=(σ.tmps.set d u).set t v}:St)={σ with tmps:=(σ.tmps.set t v).set d u}
   rw [List.set_comm _ _ hne]
theorem C65 (σ:St) (x:Option Tmp) (u:AV) (bs:List Box):St.put {σ with boxes:=bs} x u={σ.put x u with boxes:=bs}:=by cases x<;>rfl
theorem QK:∀(u v:List (Nat×Box)) (bs:List Box),(∀x ∈ u,∀y ∈ v,x.1≠y.1)→F4 (F4 bs u) v=F4 (F4 bs v) u
 |[],v,bs,_=>rfl
 |(i,b)::u,v,bs,h=>by
  have one:∀(v:List (Nat×Box)) (bs:List Box),(∀y ∈ v,i≠y.1)→F4 (bs.set i b) v=(F4 bs v).set i b:=by
   intro v
   induction v with
   |nil=>intro bs _;rfl
   |cons y v ih=>
    intro bs hv
    obtain ⟨j,c⟩:=y
    simp only [F4]
    have hij:i≠j:=hv (j,c) (by simp)
    rw [List.set_comm _ _ hij,ih _ (fun y hy=>hv y (by simp [hy]))]
  simp only [F4]
  rw [QK u v _ (fun x hx y hy=>h x (by simp [hx]) y hy),one v bs (fun y hy=>h (i,b) (by simp) y hy)]
theorem B87 {σ:St} {x y:Option Tmp} {e f:Eff} (h:∀d,x=some d→y≠some d) (hu:∀p ∈ e.upd,∀q ∈ f.upd,p.1≠q.1):(σ.apply x e).apply y f=(σ.apply y f).apply x e:=by
 simp only [St.apply,C65,St.OR]
 have:=put_comm (σ:=σ) e.val f.val h
 rw [QK _ _ _ hu]
 cases x<;>cases y<;>simp_all [St.put]
def OC (ban:Option (List Nat)) (lim:Nat) (ops:Array Oper) (o:Oper) (i:Nat):Bool:=bif OH ban o then decide (i<lim)||(vis lim ops o).contains i else UH ban lim ops o i
theorem B8w {lim:Nat} {o:Oper} {f g:Nat→Box} (h:∀i,OC ban lim ops o i=true→f i=g i):PW ban lim ops o f=PW ban lim ops o g:=by
 funext i
 have hi:=h i
 unfold OC at hi
 unfold PW
 cases ht:OH ban o with
 |true=>
  rw [ht] at hi
  simp only [cond_true] at hi ⊢
  cases hl:decide (i<lim) with
  |true=>rw [hl] at hi;rw [hi rfl]
  |false=>
   rw [hl] at hi
   cases hv:(vis lim ops o).contains i with
   |true=>rw [hv] at hi;simp only [cond_false,cond_true];exact hi rfl
   |false=>rfl
 |false=>
  rw [ht] at hi
  simp only [cond_false] at hi ⊢
  unfold B9o
  split
  ·rename_i hs;exact hi hs
  ·rfl
theorem C7p {lim:Nat} {o:Oper} {f:Nat→Box}:Sub (PW ban lim ops o f) f:=by
 intro i
 unfold PW
 cases ht:OH ban o with
 |true=>
  simp only [cond_true]
  cases hl:decide (i<lim) with
  |true=>
   simp only [cond_true]
   split
   ·rename_i e;exact .inr e.symm
   ·exact .inl rfl
  |false=>
   simp only [cond_false]
   cases hv:(vis lim ops o).contains i with
   |true=>exact .inr rfl
   |false=>exact .inl rfl
 |false=>exact Sub.B9o _ _ i
theorem A5x {σ:St} {dst:Option Tmp} {e:Eff} {j:Nat} (h:∀x ∈ e.upd,x.1≠j):(σ.apply dst e).box j=σ.box j:=by
 show M6 _ _ _=M6 _ _ _
 rw [St.HZ,HH _ _ _ h]
def B2q (ban:Option (List Nat)) (lim:Nat) (ops:Array Oper) (s:Oper) (i:Nat):Prop:=if OH ban s=true then i ∈ vis lim ops s else UH ban lim ops s i=true
def C6v (ban:Option (List Nat)) (ops:Array Oper) (lim:Nat) (s m:Oper):Prop:=(loose ops s=true∨sharp ban ops s=true∨OH ban s=true)∧T1 m.op=false∧∀i,B2q ban lim ops s i→OC ban lim ops m i=false
structure Indep (ban:Option (List Nat)) (ops:Array Oper) (lim:Nat) (x y:Nat×Oper):Prop where
 apart:x.2.apart ops y.2=true
 mem:(T1 x.2.op=true→SR y.2.op=true→C6v ban ops lim x.2 y.2)∧(T1 y.2.op=true→SR x.2.op=true→C6v ban ops lim y.2 x.2)
 lx:lim≤x.1
 ly:lim≤y.1
 ne:F5 x.2.op=true→F5 y.2.op=true→x.1≠y.1
 seen:(F5 x.2.op=true→x.1 ∉ vis lim ops y.2)∧(F5 y.2.op=true→y.1 ∉ vis lim ops x.2)
theorem Indep.symm {lim:Nat} {x y:Nat×Oper} (h:Indep ban ops lim x y):Indep ban ops lim y x:=by
 refine ⟨?_,⟨h.mem.2,h.mem.1⟩,h.ly,h.lx,fun a b e=>h.ne b a e.symm,h.seen.2,h.seen.1⟩
 obtain ⟨h1,h2,h3⟩:=Oper.apart_spec h.apart
 unfold Oper.apart
 simp only [K9]
 refine ⟨?_,?_⟩
 ·cases hd:y.2.dst with
  |none=>rfl
  |some d=>
   simp only [K9,G0,bne_iff_ne,ne_eq]
   exact ⟨by simpa using h3 d hd,fun e=>h2 d e hd⟩
 ·cases hd:x.2.dst with
  |none=>rfl
  |some d=>simpa using h1 d hd
theorem A3j {op:Op} (h:T1 op=true):SR op=true:=by
 cases op<;>simp [T1] at h<;>rfl
theorem NA {op:Op} (h:F5 op=true):SR op=true:=by
 cases op<;>simp [F5] at h<;>rfl
theorem TW {o:Oper} {t:Nat} (h:Operand.tmp t ∈ o.op.operands):t ∈ o.looksAt ops:=by
 simp only [Oper.looksAt,DO,List.mem_filterMap]
 exact .inl ⟨.tmp t,by simpa using h,rfl⟩
theorem AP:∀(l:List Oper) (m i:Nat) (x:Nat×Oper),(number m l)[i]? =some x→l[i]? =some x.2∧m≤x.1
 |[],m,i,x,h=>by simp [number] at h
 |o::l,m,0,x,h=>by simp [number] at h;subst h;simp
 |o::l,m,i+1,x,h=>by
  simp only [number,JJ] at h
  obtain ⟨h1,h2⟩:=AP l _ i x h
  refine ⟨by simpa using h1,?_⟩
  split at h2<;>omega
theorem WE:∀(l:List Oper) (m:Nat) (i j:Nat) (x y:Nat×Oper),i<j→(number m l)[i]? =some x→(number m l)[j]? =some y→F5 x.2.op=true→x.1<y.1:=by
 intro l
 induction l with
 |nil=>intro m i j x y _ h;simp [number] at h
 |cons o l ih=>
  intro m i j x y hij hx hy ha
  obtain ⟨j,rfl⟩:∃j',j=j'+1:=⟨j-1,by omega⟩
  simp only [number,JJ] at hy
  cases i with
  |zero=>
   simp only [number,List.getElem?_cons_zero,Option.some.injEq] at hx
   subst hx
   have:=(AP l _ j y hy).2
   rw [if_pos ha] at this
   simp only at this ⊢
   omega
  |succ i=>
   simp only [number,JJ] at hx
   exact ih _ i j x y (by omega) hx hy ha
theorem B1s {lim n:Nat} {o:Oper} (h:n ∈ vis lim ops o):∃i z,i ∈ reach ops 12 o∧(number lim ops.toList)[i]? =some z∧F5 z.2.op=true∧z.1=n:=by
 unfold vis at h
 rw [List.mem_filterMap] at h
 obtain ⟨i,hi,hz⟩:=h
 split at hz
 ·rename_i z hz'
  split at hz
  ·rename_i ha
   cases hz
   exact ⟨i,z,hi,hz',ha,rfl⟩
  ·cases hz
 ·cases hz
theorem C39 {lim:Nat} {o:Oper} {y:Nat×Oper} {j:Nat} (hy:(number lim ops.toList)[j]? =some y) (ha:F5 y.2.op=true) (h:y.1 ∈ vis lim ops o):j ∈ reach ops 12 o:=by
 obtain ⟨i,z,hi,hz,haz,hn⟩:=B1s h
 by_cases c:i=j
 ·rw [←c];exact hi
 ·by_cases d:i<j
  ·have:=WE _ _ _ _ _ _ d hz hy haz;omega
  ·have:=WE _ _ _ _ _ _ (show j<i by omega) hy hz ha;omega
theorem XU {o:Oper} (h:OH ban o=true):∃c,o.op= .call c∧c.callee= .builtin .append:=by
 unfold OH at h
 simp only [K9] at h
 have h2:=h.2
 split at h2
 ·rename_i c ho
  split at h2
  ·rename_i hc
   exact ⟨c,ho,hc⟩
  ·cases h2
 ·cases h2
theorem C25 {o:Oper} (h:OH ban o=true):T1 o.op=true:=by
 obtain ⟨c,h1,h2⟩:=XU h
 rw [h1]
 simp only [T1,h2]
theorem C24 {o:Oper} (h:T1 o.op=false):OH ban o=false:=by
 cases c:OH ban o with
 |false=>rfl
 |true=>rw [C25 c] at h;cases h
theorem RQ {lim i:Nat} {o:Oper} (h:T1 o.op=false):UH ban lim ops o i=true ↔ (i<lim∧i ∉ ban.getD [])∨i ∈ vis lim ops o:=by
 unfold UH
 rw [h]
 simp [DT]
theorem A26 {lim i:Nat} {o:Oper} (h:T1 o.op=true) (hl:loose ops o=true):(UH ban lim ops o i=true)=(i ∈ vis lim ops o):=by
 unfold UH
 rw [h,hl]
 simp [DT]
theorem A27 {lim i:Nat} {o:Oper} (h:T1 o.op=true) (hl:loose ops o=false) (hs:sharp ban ops o=true):UH ban lim ops o i=true ↔ i<lim∧i ∈ ban.getD []:=by
 unfold UH
 rw [h,hl,hs]
 simp [DT]
theorem A6w {lim i:Nat} {o:Oper} (hl:T1 o.op=true→loose ops o=true∨sharp ban ops o=true∨OH ban o=true) (hs:OC ban lim ops o i=true):i<lim∨i ∈ vis lim ops o:=by
 unfold OC at hs
 cases ht:OH ban o with
 |true=>
  rw [ht] at hs
  simpa [DT] using hs
 |false=>
  rw [ht] at hs
  replace hs:UH ban lim ops o i=true:=hs
  cases hst:T1 o.op with
  |false=>
   rcases (RQ hst).1 hs with h|h
   ·exact .inl h.1
   ·exact .inr h
  |true=>
   cases c:loose ops o with
   |true=>rw [A26 hst c] at hs;exact .inr hs
   |false=>
    rcases hl hst with hl|hl|hl
    ·rw [c] at hl;cases hl
    ·exact .inl ((A27 hst c hl).1 hs).1
    ·rw [ht] at hl;cases hl
theorem C45 {lim i:Nat} {o:Oper} (hst:T1 o.op=true) (hl:loose ops o=true∨sharp ban ops o=true∨OH ban o=true) (hs:B2q ban lim ops o i):i<lim∨i ∈ vis lim ops o:=by
 unfold B2q at hs
 split at hs
 ·exact .inr hs
 ·rename_i ht
  refine A6w (ban:=ban) (fun _=>hl) ?_
  unfold OC
  simp only [OM] at ht
  rw [ht]
  exact hs
theorem B86 {n:Nat} {o:Oper} {c:Call} {dr:Bool} {ρ:Operand→AV} {bx:Nat→Box} {e:Eff} (h1:o.op= .call c) (h2:c.callee= .builtin .append) (he:eff P Φ na dr ρ bx n o=some e):∀x ∈ e.upd,x.1=n∨∃T l,bx x.1= .D1 T l:=by
 unfold eff at he
 rw [h1] at he
 simp only [h2,KO] at he
 split at he
 ·split at he
  ·unfold CD at he
   split at he
   ·split at he
    ·split at he
     ·cases he
      intro x hx
      simp at hx
      subst hx
      exact .inl rfl
     ·cases he
    ·cases he
   ·split at he
    ·rename_i T l e' hb _
     split at he
     ·cases he
      intro x hx
      simp at hx
      rcases hx with rfl|rfl
      ·exact .inr ⟨_,_,hb⟩
      ·exact .inl rfl
     ·cases he
    ·cases he
   ·cases he
  ·cases he
 ·cases he
theorem hit {lim:Nat} {σ:St} {x:Nat×Oper} {e:Eff} (he:eff P Φ na true σ.eval (o3 ban ops lim σ x.2) x.1 x.2=some e):∀p ∈ e.upd,(p.1=x.1∧F5 x.2.op=true)∨(T1 x.2.op=true∧B2q ban lim ops x.2 p.1):=by
 intro p hp
 rcases A7v he p hp with h|⟨u1|u1,u2⟩
 ·exact .inl h
 ·unfold B2q
  cases ht:OH ban x.2 with
  |true=>
   obtain ⟨c,h1,h2⟩:=XU ht
   rcases B86 h1 h2 he p hp with h3|⟨T,l,h3⟩
   ·refine .inl ⟨h3,?_⟩
    rw [h1]
    simp only [F5,h2]
   ·refine .inr ⟨u1,?_⟩
    simp only [if_true]
    unfold o3 PW at h3
    rw [ht] at h3
    simp only [cond_true] at h3
    cases hl:decide (p.1<lim) with
    |true=>
     rw [hl] at h3
     simp only [cond_true] at h3
     split at h3<;>cases h3
    |false=>
     rw [hl] at h3
     simp only [cond_false] at h3
     cases hv:(vis lim ops x.2).contains p.1 with
     |true=>simpa [DT] using hv
     |false=>rw [hv] at h3;cases h3
  |false=>
   refine .inr ⟨u1,?_⟩
   simp only [J7,if_false]
   cases c:UH ban lim ops x.2 p.1 with
   |true=>rfl
   |false=>
    exfalso
    apply u2
    unfold o3 PW B9o
    rw [ht]
    simp only [cond_false]
    rw [c]
    rfl
 ·cases u1
theorem B21.behind {lim:Nat} {x y:Nat×Oper} (hi:Indep ban ops lim x y) {σ:St} {e:Eff} (he:eff P Φ na true σ.eval (o3 ban ops lim σ x.2) x.1 x.2=some e) (σ1:St) (hσ1:σ1=σ.apply x.2.dst e):
  eff P Φ na true σ1.eval (o3 ban ops lim σ1 y.2) y.1 y.2=eff P Φ na true σ.eval (o3 ban ops lim σ y.2) y.1 y.2:=by
 obtain ⟨h1,h2,h3⟩:=Oper.apart_spec hi.apart
 subst hσ1
 rw [A63 (ρ':=σ.eval) fun z hz=>B8u fun d hd e'=>by subst e';exact h1 d hd (TW hz)]
 by_cases hm:SR y.2.op=true
 ·unfold o3
  rw [B8w (g:=σ.box) fun i hil=>A5x fun p hp e'=> ?_]
  rcases hit he p hp with ⟨u1,u2⟩|⟨u1,u2⟩
  ·have hlx:=hi.lx
   rw [u1] at e'
   rw [←e'] at hil
   rcases A6w (fun hys=>(hi.mem.2 hys (NA u2)).1) hil with h|h
   ·omega
   ·exact hi.seen.1 u2 h
  ·have h4:=(hi.mem.1 u1 hm).2.2 _ u2
   rw [e',hil] at h4
   cases h4
 ·exact C5f (by simpa using hm)
theorem CQ.comm {lim:Nat} {x y:Nat×Oper} (hi:Indep ban ops lim x y) {σ σ1 σ2:St} (h1:CQ P Φ na ban ops lim σ x σ1) (h2:CQ P Φ na ban ops lim σ1 y σ2):
  ∃σ1',CQ P Φ na ban ops lim σ y σ1'∧CQ P Φ na ban ops lim σ1' x σ2:=by
 obtain ⟨q1,q2,q3⟩:=Oper.apart_spec hi.apart
 obtain ⟨p1,p2,p3⟩:=Oper.apart_spec hi.symm.apart
 have form:∀{z:Nat×Oper} {s s':St},CQ P Φ na ban ops lim s z s'→(∃e,eff P Φ na true s.eval (o3 ban ops lim s z.2) z.1 z.2=some e∧C6 e.pre True∧s'=s.apply z.2.dst e∧
    (∀t,(∀d,d ∈ z.2.looksAt ops→t.tmps.getD d .junk=s.tmps.getD d .junk)→∀t',B21 P Φ na ban ops lim t z t'→CQ P Φ na ban ops lim t z t'))∨
   (s'=s.put z.2.dst (.tup [])∧∀t,(∀d,d ∈ z.2.looksAt ops→t.tmps.getD d .junk=s.tmps.getD d .junk)→CQ P Φ na ban ops lim t z (t.put z.2.dst (.tup []))):=by
  intro z s s' h
  unfold CQ at h
  split at h
  ·rename_i hg
   obtain ⟨e,he,hp,hs⟩:=h
   refine .inl ⟨e,he,hp,hs,fun t _ t' hd=> ?_⟩
   unfold CQ
   rw [hg]
   exact hd
  ·rename_i j want hg
   obtain ⟨d,b,hj,hd,hif⟩:=h
   have hlook:d ∈ z.2.looksAt ops:=by
    simp only [Oper.looksAt,DO,hg,hj]
    exact .inr (by simp)
   by_cases hb:b=true
   ·rw [if_pos hb] at hif
    obtain ⟨e,he,hp,hs⟩:=hif
    refine .inl ⟨e,he,hp,hs,fun t ht t' hdo=> ?_⟩
    unfold CQ
    rw [hg]
    exact ⟨d,b,hj,by rw [ht d hlook];exact hd,by rw [if_pos hb];exact hdo⟩
   ·rw [if_neg hb] at hif
    refine .inr ⟨hif,fun t ht=> ?_⟩
    unfold CQ
    rw [hg]
    exact ⟨d,b,hj,by rw [ht d hlook];exact hd,by rw [if_neg hb]⟩
 have lookX:∀(v:AV) (s:St),∀d,d ∈ x.2.looksAt ops→(s.put y.2.dst v).tmps.getD d .junk=s.tmps.getD d .junk:=fun v s d hd=>B0m fun e=>q3 d e hd
 have lookX':∀(e:Eff) (s:St),∀d,d ∈ x.2.looksAt ops→(s.apply y.2.dst e).tmps.getD d .junk=s.tmps.getD d .junk:=fun v s d hd=>A76 fun e=>q3 d e hd
 have lookY:∀(v:AV) (s:St),∀d,d ∈ y.2.looksAt ops→s.tmps.getD d .junk=(s.put x.2.dst v).tmps.getD d .junk:=fun v s d hd=>(B0m fun e=>q1 d e hd).symm
 have lookY':∀(e:Eff) (s:St),∀d,d ∈ y.2.looksAt ops→s.tmps.getD d .junk=(s.apply x.2.dst e).tmps.getD d .junk:=fun v s d hd=>(A76 fun e=>q1 d e hd).symm
 have putApply:∀{z:Nat×Oper} {d:Option Tmp} {s:St},(∀t,z.2.dst=some t→d≠some t)→∀e:Eff,(s.apply z.2.dst e).put d (.tup [])=(s.put d (.tup [])).apply z.2.dst e:=by
  intro z d s hne e
  have h2:St.put {s with boxes:=F4 s.boxes e.upd} d (.tup [])={s.put d (.tup []) with boxes:=F4 (s.put d (.tup [])).boxes e.upd}:=by cases d<;>rfl
  simp only [St.apply]
  rw [put_comm _ _ hne,h2]
 have effPut:∀{z z':Nat×Oper} {s:St},(∀t,z'.2.dst=some t→t ∉ z.2.looksAt ops)→eff P Φ na true (s.put z'.2.dst (.tup [])).eval (o3 ban ops lim (s.put z'.2.dst (.tup [])) z.2) z.1 z.2=eff P Φ na true s.eval (o3 ban ops lim s z.2) z.1 z.2:=by
  intro z z' s hz
  rw [A63 (ρ':=s.eval) fun u hu=>eval_put fun d hd e'=>by subst e';exact hz d hd (TW hu)]
  unfold o3
  rw [St.A7n]
 rcases form h1 with ⟨e,he,hp,hs,hk⟩|⟨hs,hk⟩
 ·rcases form h2 with ⟨f,hf,hfp,hfs,hfk⟩|⟨hfs,hfk⟩
  ·have hf':eff P Φ na true σ.eval (o3 ban ops lim σ y.2) y.1 y.2=some f:=by rw [←B21.behind hi he σ1 hs];exact hf
   refine ⟨σ.apply y.2.dst f,hfk σ (by rw [hs];exact lookY' e σ) _ ⟨f,hf',hfp,rfl⟩,hk _ (lookX' f σ) _ ⟨e,?_,hp,?_⟩⟩
   ·rw [B21.behind hi.symm hf' _ rfl];exact he
   ·rw [hfs,hs]
    refine B87 q2 fun p hpm q hqm e'=> ?_
    rcases hit he p hpm with ⟨r1,r2⟩|⟨r1,r2⟩
    ·rcases hit hf' q hqm with ⟨t1,t2⟩|⟨t1,t2⟩
     ·exact hi.ne r2 t2 (by omega)
     ·have k1:=(hi.mem.2 t1 (NA r2)).1
      have h4:=C45 t1 k1 t2
      rw [←e',r1] at h4
      have hlx:=hi.lx
      rcases h4 with h4|h4
      ·omega
      ·exact hi.seen.1 r2 h4
    ·rcases hit hf' q hqm with ⟨t1,t2⟩|⟨t1,t2⟩
     ·have k1:=(hi.mem.1 r1 (NA t2)).1
      have h4:=C45 r1 k1 r2
      rw [e',t1] at h4
      have hly:=hi.ly
      rcases h4 with h4|h4
      ·omega
      ·exact hi.seen.2 t2 h4
     ·have k2:=(hi.mem.1 r1 (A3j t1)).2.1
      rw [t1] at k2;cases k2
  ·refine ⟨σ.put y.2.dst (.tup []),hfk σ (by rw [hs];exact lookY' e σ),hk _ (lookX (.tup []) σ) _ ⟨e,?_,hp,?_⟩⟩
   ·rw [effPut q3];exact he
   ·rw [hfs,hs]
    exact putApply q2 e
 ·rcases form h2 with ⟨f,hf,hfp,hfs,hfk⟩|⟨hfs,hfk⟩
  ·have hf':eff P Φ na true σ.eval (o3 ban ops lim σ y.2) y.1 y.2=some f:=by rw [hs,effPut q1] at hf;exact hf
   refine ⟨σ.apply y.2.dst f,hfk σ (by rw [hs];exact lookY (.tup []) σ) _ ⟨f,hf',hfp,rfl⟩,?_⟩
   have:=hk (σ.apply y.2.dst f) (lookX' f σ)
   rw [putApply p2 f] at this
   rw [hfs,hs]
   exact this
  ·refine ⟨σ.put y.2.dst (.tup []),hfk σ (by rw [hs];exact lookY (.tup []) σ),?_⟩
   have:=hk (σ.put y.2.dst (.tup [])) (lookX (.tup []) σ)
   rw [put_comm _ _ p2] at this
   rw [hfs,hs]
   exact this
theorem VJ.first {lim:Nat} {x:Nat×Oper} {B:List (Nat×Oper)}:∀(A:List (Nat×Oper)) (σ σ':St),(∀y ∈ A,Indep ban ops lim y x)→VJ P Φ na ban ops lim (A++x::B) σ σ'→VJ P Φ na ban ops lim (x::(A++B)) σ σ'
 |[],σ,σ',_,h=>h
 |y::A,σ,σ',hi,⟨σ1,h1,h2⟩=>by
  obtain ⟨σ2,h3,h4⟩:=VJ.first A σ1 σ' (fun z hz=>hi z (by simp [hz])) h2
  obtain ⟨σ1',h5,h6⟩:=CQ.comm (hi y (by simp)) h1 h3
  exact ⟨σ1',h5,σ2,h6,h4⟩
structure Todo (ops:Array Oper) (na lim:Nat) (σ:St) (listed:Array Bool) (L:List ((Nat×Oper)×Nat)):Prop where
 full:∀x ∈ L,ops[x.2]? =some x.1.2
 open_:∀i,i<ops.size→(listed.getD i true=false ↔ ∃x ∈ L,x.2=i)
 size:listed.size=ops.size
 sorted:L.Pairwise fun x y=>x.2<y.2∧(F5 x.1.2.op=true→F5 y.1.2.op=true→x.1.1≠y.1.1)
 num:∀x ∈ L,(number lim ops.toList)[x.2]? =some x.1
 lim:∀x ∈ L,lim≤x.1.1
 free:∀x ∈ L,F5 x.1.2.op=true→Free na σ x.1.1
 shut:∀(i:Nat) (o:Oper),ops[i]? =some o→listed.getD i false=true→∀e ∈ o.after,Region.binds .any e=true→listed.getD e.on false=true
theorem A6i {f i:Nat} {o:Oper} (h:i ∈ reach ops (f+1) o):∃e ∈ o.after,Region.binds .any e=true∧∃z,ops[e.on]? =some z∧(i=e.on∨i ∈ reach ops f z):=by
 simp only [reach,List.mem_flatMap] at h
 obtain ⟨e,he,hi⟩:=h
 split at hi
 ·rename_i hb
  split at hi
  ·rename_i z hz
   split at hi
   ·exact ⟨e,by simpa using he,hb,z,hz,by simpa using hi⟩
   ·simp at hi
  ·simp at hi
 ·simp at hi
theorem UC {listed:Array Bool} (hs:∀(i:Nat) (o:Oper),ops[i]? =some o→listed.getD i false=true→∀e ∈ o.after,Region.binds .any e=true→listed.getD e.on false=true):
  ∀(f i:Nat) (o:Oper),(∀e ∈ o.after,Region.binds .any e=true→listed.getD e.on false=true)→i ∈ reach ops f o→listed.getD i false=true
 |0,i,o,_,h=>by simp [reach] at h
 |f+1,i,o,ho,h=>by
  obtain ⟨e,he,hb,z,hz,hi⟩:=A6i h
  rcases hi with rfl|hi
  ·exact ho e he hb
  ·exact UC hs f i z (hs e.on z hz (ho e he hb)) hi
theorem NI (h:ED ban ops=true) {j:Nat} {y:Oper} (hj:ops[j]? =some y):
  (∀e ∈ y.after,Region.binds .any e=true→e.on<j)∧∀i x,i<j→ops[i]? =some x→JS ban ops x y=true→∃e ∈ y.after,Region.binds .any e=true∧(e.on=i∨∃z,ops[e.on]? =some z∧∃e' ∈ z.after,Region.binds .any e'=true∧e'.on=i):=by
 unfold ED at h
 rw [List.all_eq_true] at h
 have hm:∀{i:Nat} {x:Oper},ops[i]? =some x→(x,i) ∈ ops.toList.zipIdx:=by
  intro i x hx
  rw [List.mk_mem_zipIdx_iff_getElem?]
  simpa using hx
 have h1:=h (y,j) (hm hj)
 simp only [K9] at h1
 refine ⟨fun e he hb=> ?_,fun i x hi hx hd=> ?_⟩
 ·have:=HW.1 h1.1 e he
  simpa [hb] using this
 ·have:=List.all_eq_true.1 h1.2 (x,i) (hm hx)
  simp only [hi,hd,decide_true,Bool.not_true,Bool.false_or,Y4] at this
  rcases this with this|this
  ·obtain ⟨e,he1,he2⟩:=Array.any_eq_true'.1 this
   simp only [K9,decide_eq_true_eq] at he2
   exact ⟨e,he1,he2.1,.inl he2.2⟩
  ·obtain ⟨e,he1,he2⟩:=Array.any_eq_true'.1 this
   simp only [K9] at he2
   obtain ⟨he2,he3⟩:=he2
   split at he3
   ·rename_i z hz
    obtain ⟨e',he4,he5⟩:=Array.any_eq_true'.1 he3
    simp only [K9,decide_eq_true_eq] at he5
    exact ⟨e,he1,he2,.inr ⟨z,hz,e',he4,he5.1,he5.2⟩⟩
   ·cases he3
theorem B5m (hok:ED ban ops=true):∀(f i j:Nat) (o:Oper),ops[j]? =some o→i ∈ reach ops f o→i<j
 |0,i,j,o,_,h=>by simp [reach] at h
 |f+1,i,j,o,ho,h=>by
  obtain ⟨e,he,hb,z,hz,hi⟩:=A6i h
  have:=(NI hok ho).1 e he hb
  rcases hi with rfl|hi
  ·exact this
  ·exact Nat.lt_trans (B5m hok f i e.on z hz hi) this
theorem C8b {lim:Nat} {x y:Nat×Oper} (h:JS ban ops x.2 y.2=false) (hx:lim≤x.1) (hy:lim≤y.1) (hne:F5 x.2.op=true→F5 y.2.op=true→x.1≠y.1)
  (hse:(F5 x.2.op=true→x.1 ∉ vis lim ops y.2)∧(F5 y.2.op=true→y.1 ∉ vis lim ops x.2)):Indep ban ops lim x y:=by
 unfold JS at h
 simp only [Bool.or_eq_false_iff,Bool.not_eq_false',Bool.and_eq_false_iff] at h
 obtain ⟨⟨h1,h2⟩,h3⟩:=h
 have spec:∀{s m:Oper},T1 s.op=true→C4m ban ops s m=true→C6v ban ops lim s m:=by
  intro s m hst hs
  unfold C4m at hs
  simp only [K9,G0] at hs
  obtain ⟨hm,hs⟩:=hs
  have hmt:∀i,OC ban lim ops m i=UH ban lim ops m i:=fun i=>by unfold OC;rw [C24 hm];rfl
  cases c:(loose ops s||OH ban s) with
  |true=>
   rw [c] at hs
   have hv:∀i,B2q ban lim ops s i→i ∈ vis lim ops s:=by
    intro i h4
    unfold B2q at h4
    split at h4
    ·exact h4
    ·rename_i ht
     simp only [Y4] at c
     rw [A26 hst (c.resolve_right ht)] at h4
     exact h4
   refine ⟨?_,hm,fun i h4=> ?_⟩
   ·simp only [Y4] at c
    exact c.elim .inl fun h=> .inr (.inr h)
   rw [hmt]
   cases d:UH ban lim ops m i with
   |false=>rfl
   |true=>
    exfalso
    obtain ⟨j,z,hj,hz,ha,hzn⟩:=B1s (hv i h4)
    rcases (RQ hm).1 d with h5|h5
    ·have:=(AP _ _ _ _ hz).2
     omega
    ·have h6:=C39 hz ha (by rw [hzn];exact h5)
     have h7:=List.all_eq_true.1 hs j hj
     have h8:=(AP _ _ _ _ hz).1
     simp only [Array.getElem?_toList] at h8
     simp only [h8,ha,Bool.not_true,Bool.or_false,G0,DT,decide_eq_false_iff_not,Bool.eq_false_iff,ne_eq] at h7
     exact h7 h6
  |false=>
   rw [c] at hs
   replace hs:sharp ban ops s=true:=hs
   simp only [Bool.or_eq_false_iff] at c
   refine ⟨.inr (.inl hs),hm,fun i h4=> ?_⟩
   unfold B2q at h4
   rw [c.2] at h4
   simp only [J7,if_false] at h4
   have h4:=(A27 hst c.1 hs).1 h4
   rw [hmt]
   cases d:UH ban lim ops m i with
   |false=>rfl
   |true=>
    exfalso
    rcases (RQ hm).1 d with h5|h5
    ·exact h5.2 h4.2
    ·obtain ⟨j,z,hj,hz,ha,hzn⟩:=B1s h5
     have:=(AP _ _ _ _ hz).2
     omega
 refine ⟨h1,⟨fun e f=> ?_,fun e f=> ?_⟩,hx,hy,hne,hse⟩
 ·rcases h2 with (h|h)|h
  ·rw [e] at h;cases h
  ·rw [f] at h;cases h
  ·exact spec e h
 ·rcases h3 with (h|h)|h
  ·rw [f] at h;cases h
  ·rw [e] at h;cases h
  ·exact spec e h
theorem C7m (hok:ED ban ops=true) (hΦ:G6 P Inv Φ) (hGrow:∀w',GrowS (β0 (na+1)) w0 w'→Inv w') {Q:Exit→Act→World→Prop} {K:St→Prop}
  (hK:∀σ β a w,R na β0 w0 σ β a w→K σ→Q .normal a w) (lim:Nat):∀(fuel:Nat) (L:List ((Nat×Oper)×Nat)) (listed:Array Bool) (σ σf:St) (β:Nat→Nat→Prop) (a:Act) (w:World),L.length≤fuel→
  Todo ops na lim σ listed L→R na β0 w0 σ β a w→VJ P Φ na ban ops lim (L.map (·.1)) σ σf→K σf→wpAny P .any ops Q fuel listed a w:=by
 have noneReady:∀(L:List ((Nat×Oper)×Nat)) (listed:Array Bool) (σ:St),Todo ops na lim σ listed L→Region.ready .any ops listed=[]→L=[]:=by
  intro L listed σ ht hr
  cases L with
  |nil=>rfl
  |cons x L=>
   exfalso
   have hx:=ht.full x (by simp)
   have hlt:x.2<ops.size:=(Q8.1 hx).1
   have hmem:x.2 ∈ Region.ready .any ops listed:=by
    unfold Region.ready
    rw [List.mem_filter]
    refine ⟨by simpa using hlt,?_⟩
    rw [(ht.open_ x.2 hlt).2 ⟨x,by simp,rfl⟩,hx]
    simp only [Bool.not_false,Bool.true_and,AW,CC]
    rw [HW]
    intro e he
    cases hb:Region.binds .any e with
    |false=>rfl
    |true=>
     have hon:=(NI hok hx).1 e he hb
     cases hl:listed.getD e.on false with
     |true=>rfl
     |false=>
      exfalso
      have hon':e.on<ops.size:=by omega
      have hlt':listed.getD e.on true=false:=by
       have:e.on<listed.size:=by rw [ht.size];exact hon'
       simp [FL,this] at hl ⊢
       exact hl
      obtain ⟨z,hz,hze⟩:=(ht.open_ e.on hon').1 hlt'
      rcases Q5.1 hz with rfl|hz
      ·omega
      ·have:=(List.pairwise_cons.1 ht.sorted).1 z hz
       omega
   rw [hr] at hmem
   simp at hmem
 intro fuel
 induction fuel with
 |zero=>
  intro L listed σ σf β a w hL ht hR hrun hk
  have:L=[]:=List.eq_nil_of_length_eq_zero (by omega)
  subst this
  have hs:σf=σ:=hrun
  subst hs
  refine ⟨?_,hK _ _ _ _ hR hk⟩
  unfold Region.ready
  rw [List.filter_eq_nil_iff]
  intro i hi
  have hi':i<ops.size:=by simpa using hi
  have:=ht.open_ i hi'
  cases hl:listed.getD i true with
  |true=>simp
  |false=>rw [hl] at this;obtain ⟨x,hx,_⟩:=this.1 rfl;simp at hx
 |succ fuel ih=>
  intro L listed σ σf β a w hL ht hR hrun hk
  refine ⟨fun hr=> ?_,fun i hi=> ?_⟩
  ·have:=noneReady L listed σ ht hr
   subst this
   have hs:σf=σ:=hrun
   subst hs
   exact hK _ _ _ _ hR hk
  ·unfold Region.ready at hi
   rw [List.mem_filter] at hi
   obtain ⟨hi1,hi2⟩:=hi
   have hlt:i<ops.size:=by simpa using hi1
   simp only [K9,G0] at hi2
   obtain ⟨x,hx,hxi⟩:=(ht.open_ i hlt).1 hi2.1
   subst hxi
   have hxo:=ht.full x hx
   obtain ⟨A,B,rfl⟩:=List.append_of_mem hx
   have hsrt:=List.pairwise_append.1 ht.sorted
   have hedges:∀e ∈ x.1.2.after,Region.binds .any e=true→listed.getD e.on false=true:=by
    have h2:=hi2.2
    rw [hxo] at h2
    simp only [AW,CC] at h2
    rw [HW] at h2
    intro e he hb
    have:=h2 e he
    simpa [hb] using this
   have hind:∀y ∈ A.map (·.1),Indep ban ops lim y x.1:=by
    intro y hy
    obtain ⟨z,hz,rfl⟩:=List.mem_map.1 hy
    have hzx:=hsrt.2.2 z hz x (by simp)
    have hzo:=ht.full z (by simp [hz])
    have hzun:listed.getD z.2 false=false:=by
     have hzlt:z.2<ops.size:=(Q8.1 hzo).1
     have h2:=(ht.open_ z.2 hzlt).2 ⟨z,by simp [hz],rfl⟩
     have hs:z.2<listed.size:=by rw [ht.size];exact hzlt
     simp [FL,hs] at h2 ⊢
     exact h2
    refine C8b ?_ (ht.lim z (by simp [hz])) (ht.lim x (by simp)) hzx.2 ⟨fun ha hm=> ?_,fun ha hm=> ?_⟩
    rotate_left
    ·have h1:=C39 (ht.num z (by simp [hz])) ha hm
     have h2:=UC ht.shut 12 z.2 x.1.2 hedges h1
     rw [hzun] at h2
     cases h2
    ·have h1:=C39 (ht.num x (by simp)) ha hm
     have h2:=B5m hok 12 x.2 z.2 z.1.2 hzo h1
     have h3:=hzx.1
     omega
    cases hd:JS ban ops z.1.2 x.1.2 with
    |false=>rfl
    |true=>
     exfalso
     obtain ⟨e,he,hb,hon⟩:=(NI hok hxo).2 z.2 z.1.2 hzx.1 hzo hd
     have h1:=hedges e he hb
     have h1:listed.getD z.2 false=true:=by
      rcases hon with hon|⟨y,hy,e',he',hb',hon⟩
      ·rw [←hon];exact h1
      ·rw [←hon];exact ht.shut e.on y hy h1 e' he' hb'
     have hzlt:z.2<ops.size:=(Q8.1 hzo).1
     have h2:=(ht.open_ z.2 hzlt).2 ⟨z,by simp [hz],rfl⟩
     have hs:z.2<listed.size:=by rw [ht.size];exact hzlt
     simp [FL,hs] at h1 h2
     rw [h1] at h2
     cases h2
   have hrun':VJ P Φ na ban ops lim (x.1::((A++B).map (·.1))) σ σf:=by
    have:(A++x::B).map (·.1)=A.map (·.1)++x.1::B.map (·.1):=by simp
    rw [this] at hrun
    have:=VJ.first _ _ _ hind hrun
    simpa using this
   obtain ⟨σ1,hstep,hrest⟩:=hrun'
   have hInv:Inv w:=hGrow _ hR.grow
   have hnext:∀σ',(∀j,σ.box j= .unborn→j≠x.1.1∨F5 x.1.2.op=false→σ'.box j= .unborn)→σ'.boxes.length=σ.boxes.length→Todo ops na lim σ' (listed.setIfInBounds x.2 true) (A++B):=by
    intro σ' hun hlen
    have hmem:∀y ∈ A++B,y ∈ A++x::B:=fun y hy=>by
     rcases DO.1 hy with h|h
     ·simp [h]
     ·simp [h]
    have hne:∀y ∈ A++B,y.2≠x.2∧(F5 x.1.2.op=true→F5 y.1.2.op=true→y.1.1≠x.1.1):=fun y hy=>by
     rcases DO.1 hy with h|h
     ·have:=hsrt.2.2 y h x (by simp)
      exact ⟨by omega,fun a b=>this.2 b a⟩
     ·have:=(List.pairwise_cons.1 hsrt.2.1).1 y h
      exact ⟨by omega,fun a b e=>this.2 a b e.symm⟩
    refine ⟨fun y hy=>ht.full y (hmem y hy),fun j hj=> ?_,by simp [ht.size],?_,fun y hy=>ht.num y (hmem y hy),fun y hy=>ht.lim y (hmem y hy),fun y hy hay=> ?_,fun j o ho hj e he hb=> ?_⟩
    rotate_right
    ·have hmono:∀m,listed.getD m false=true→(listed.setIfInBounds x.2 true).getD m false=true:=by
      intro m hm
      have hml:m<listed.size:=by
       by_cases c:m<listed.size
       ·exact c
       ·simp [FL,c] at hm
      simp [FL,hml] at hm
      simp [FL,hml,MK,hm]
     refine hmono _ ?_
     by_cases e':j=x.2
     ·subst e'
      rw [hxo] at ho
      cases ho
      exact hedges e he hb
     ·refine ht.shut j o ho ?_ e he hb
      have hjs:j<listed.size:=by
       have:=(Q8.1 ho).1
       rw [ht.size];exact this
      have e'':x.2≠j:=fun h=>e' h.symm
      simp [FL,hjs,MK,e''] at hj
      simp [FL,hjs,hj]
    ·have hjs:j<listed.size:=by rw [ht.size];exact hj
     by_cases e:j=x.2
     ·subst e
      constructor
      ·intro h;simp [FL,hjs] at h
      ·rintro ⟨y,hy,hyx⟩;exact absurd hyx (hne y hy).1
     ·have e':x.2≠j:=fun h=>e h.symm
      have hg:(listed.setIfInBounds x.2 true).getD j true=listed.getD j true:=by
       simp [FL,hjs,MK,e']
      rw [hg,ht.open_ j hj]
      constructor
      ·rintro ⟨y,hy,hyj⟩
       rcases DO.1 hy with h|h
       ·exact ⟨y,by simp [h],hyj⟩
       ·rcases Q5.1 h with rfl|h
        ·omega
        ·exact ⟨y,by simp [h],hyj⟩
      ·rintro ⟨y,hy,hyj⟩;exact ⟨y,hmem y hy,hyj⟩
    ·rw [List.pairwise_append]
     exact ⟨hsrt.1,(List.pairwise_cons.1 hsrt.2.1).2,fun y hy z hz=>hsrt.2.2 y hy z (by simp [hz])⟩
    ·have hf:=ht.free y (hmem y hy) hay
     refine ⟨hf.na,by rw [hlen];exact hf.len,hun _ hf.un ?_⟩
     cases hax:F5 x.1.2.op with
     |false=>exact .inr rfl
     |true=>exact .inl ((hne y hy).2 hax hay)
   have hlenAB:(A++B).length≤fuel:=by simp at hL ⊢;omega
   have take:∀{σ'},B21 P Φ na ban ops lim σ x.1 σ'→VJ P Φ na ban ops lim ((A++B).map (·.1)) σ' σf→Region.wanted x.1.2 (yielded ops a.tmps)=true→wpOp P ops Q x.2 (wpAny P .any ops Q fuel (listed.setIfInBounds x.2 true)) a w:=by
    rintro σ' ⟨e,he,hp,rfl⟩ hr hw
    have hb:Sub (o3 ban ops lim σ x.1.2) σ.box:=by
     exact C7p
    have hs:=A64 hR hb hInv hΦ he hp (fun ha=>ht.free x (by simp) ha)
    unfold wpOp
    rw [hxo]
    simp only
    rw [if_pos hw]
    refine .inl (hs _ _ fun β' a' w' hR'=>ih _ _ _ _ β' a' w' hlenAB (hnext _ (fun j hj hor=> ?_) (by rw [St.HZ,FP])) hR' hr hk)
    rw [A5x]
    ·exact hj
    ·intro p hpm e'
     rcases A7v he p hpm with ⟨q1,q2⟩|⟨_,q2⟩
     ·rcases hor with h|h
      ·exact h (by rw [←e',q1])
      ·rw [h] at q2;cases q2
     ·rcases hb p.1 with h|h
      ·exact q2 h
      ·rw [e',hj] at h;exact q2 (e' ▸ h)
   have pass:VJ P Φ na ban ops lim ((A++B).map (·.1)) (σ.put x.1.2.dst (.tup [])) σf→Region.wanted x.1.2 (yielded ops a.tmps)=false→wpOp P ops Q x.2 (wpAny P .any ops Q fuel (listed.setIfInBounds x.2 true)) a w:=by
    intro hr hw
    unfold wpOp
    rw [hxo]
    simp only
    rw [if_neg (by simp [hw])]
    exact ih _ _ _ _ β _ w hlenAB (hnext _ (fun j hj _=>by rw [St.A7n];exact hj) (by rw [St.OR])) (hR.put _ C3k) hr hk
   unfold CQ at hstep
   split at hstep
   ·rename_i hg
    exact take hstep hrest (by simp [Region.wanted,hg])
   ·rename_i j want hg
    obtain ⟨d,b,hj,hd,hif⟩:=hstep
    have hw:Region.wanted x.1.2 (yielded ops a.tmps)=b:=by
     rcases hd with ⟨b',hd,rfl⟩|⟨hd,rfl⟩
     ·exact A7e (ops:=ops) hR hg hj hd
     ·exact XW (ops:=ops) hR hg hj hd
    by_cases hb:b=true
    ·rw [if_pos hb] at hif
     exact take hif hrest (by rw [hw,hb])
    ·rw [if_neg hb] at hif
     rw [hif] at hrest
     exact pass hrest (by rw [hw];simpa using hb)
theorem JA:∀(l:List Oper) (m:Nat),(number m l).length=l.length
 |[],_=>rfl
 |o::l,m=>by simp [number,JA l]
theorem A0r:∀(l:List Oper) (m i:Nat) (x:Nat×Oper),(number m l)[i]? =some x→F5 x.2.op=true→x.1<m+X9 l
 |[],m,i,x,h,_=>by simp [number] at h
 |o::l,m,0,x,h,ha=>by simp [number] at h;subst h;simp [X9,ha];omega
 |o::l,m,i+1,x,h,ha=>by
  simp only [number,JJ] at h
  have:=A0r l _ i x h ha
  simp only [X9]
  split at this<;>rename_i hao<;>simp [hao]<;>omega
theorem C7o (hok:ED ban ops=true) (hm:P.follows .mixedOrders=true) (hΦ:G6 P Inv Φ) (hGrow:∀w',GrowS (β0 (na+1)) w0 w'→Inv w') {Q:Exit→Act→World→Prop} {K:St→Prop}
  (hK:∀σ β a w,R na β0 w0 σ β a w→K σ→Q .normal a w) {lim:Nat} (hR:R na β0 w0 σ β a w) (hrd:MY na σ lim ops.toList) (h:evR P Φ na true ban lim ops (number lim ops.toList) σ K) (id:Nat):
  (Code.region id ops true).wp P Q a w:=by
 obtain ⟨σf,hrun,hk⟩:=FH _ _ h
 have hR':R na β0 w0 σ β a {w with drawn:=w.drawn+1}:=hR.grown (w':=w.drew) ((Grow.refl w).drew)
 refine wp_region_any hm (C7m hok hΦ hGrow hK lim ops.size (number lim ops.toList).zipIdx _ σ σf β a _ (by simp [JA]) ⟨fun x hx=> ?_,fun i hi=> ?_,by simp,?_,fun x hx=>by rw [BS] at hx;exact hx,fun x hx=> ?_,fun x hx ha=> ?_,fun i o ho hi=> ?_⟩ hR' (by simpa using hrun) hk)
 ·rw [BS] at hx
  have:=(AP _ _ _ _ hx).1
  simpa using this
 ·constructor
  ·intro _
   have hlt:i<(number lim ops.toList).length:=by rw [JA];simpa using hi
   exact ⟨((number lim ops.toList)[i],i),by rw [BS];simp [hlt],rfl⟩
  ·intro _
   simp [FL,hi]
 ·rw [List.pairwise_iff_getElem]
  intro i j hi hj hij
  simp only [List.getElem_zipIdx]
  refine ⟨by omega,fun ha _ e=> ?_⟩
  have:=WE ops.toList lim i j _ _ hij (g0 (by simpa using hi)) (g0 (by simpa using hj)) ha
  omega
 ·rw [BS] at hx
  exact (AP _ _ _ _ hx).2
 ·rw [BS] at hx
  have h1:=(AP _ _ _ _ hx).2
  have h2:=A0r _ _ _ _ hx ha
  exact ⟨by have:=hrd.1;omega,by have:=hrd.2.2;omega,hrd.2.1 _ h1⟩
 ·exfalso
  have hlt:=(Q8.1 ho).1
  simp [FL,hlt] at hi
end
end Go.AI

namespace Go.AI
open Go Go.RowKit
set_option linter.unusedVariables false
set_option linter.unusedSimpArgs false
section
variable {na:Nat} {β0:Nat→Nat→Prop} {w0:World} {σ:St} {β:Nat→Nat→Prop} {a:Act} {w:World} {kb:List (Option Nat)}
def S4 (na:Nat) (β:Nat→Nat→Prop) (kb:List (Option Nat)):Nat→Nat→Prop:=fun i x=>
 if i≤na then β i x
 else if i=na+1 then∃j,na<j∧some j ∉ kb∧β j x
 else∃j,kb[i-(na+2)]? =some (some j)∧β j x
def BN (na:Nat) (bs:List Box):Nat→Box:=fun i=>(B2 (na+2) Box.G4++bs).getD i .unborn
theorem EF {na:Nat} {bs:List Box} {i:Nat} (h:i<na+2):BN na bs i= .G4:=by
 unfold BN
 simp [M6,CB,h,j1]
theorem RJ {na:Nat} {bs:List Box} {i:Nat} (h:na+2≤i):BN na bs i=bs.getD (i-(na+2)) .unborn:=by
 unfold BN
 simp only [M6,CB,U0]
 rw [if_neg (by omega)]
theorem A3c (hkb:∀i,some i ∈ kb→σ.box i≠ .G4) {p p':List Nat} (hal:∀i ∈ p,σ.box i= .G4) (hp:(∀i ∈ p,na<i)∨((∀i ∈ p,0<i)∧p'=BR na)) (hp':na+1 ∈ p') {bs:List Box} {b:Nat}
  (h:Ctx.inP ⟨σ.box,β,w⟩ p b):Ctx.inP ⟨BN na bs,S4 na β kb,w⟩ p' b:=by
 obtain ⟨i,hi,hx⟩:=h
 by_cases hna:na<i
 ·refine ⟨na+1,hp',?_⟩
  show S4 na β kb (na+1) b
  unfold S4
  rw [if_neg (by omega),if_pos rfl]
  exact ⟨i,hna,fun hm=>hkb i hm (hal i hi),hx⟩
 ·rcases hp with hp|⟨h0,rfl⟩
  ·exact absurd (hp i hi) hna
  ·have:=h0 i hi
   refine ⟨i,by simp [BR];exact ⟨i-1,by omega,by omega⟩,?_⟩
   show S4 na β kb i b
   unfold S4
   rw [if_pos (by omega)]
   exact hx
mutual
theorem C4a (hkb:∀i,some i ∈ kb→σ.box i≠ .G4) (bs:List Box) (any:Bool):∀(c c':AV) (v:Value),V ⟨σ.box,β,w⟩ c v→AV.merge σ.box na any c=some c'→V ⟨BN na bs,S4 na β kb,w⟩ c' v
 | .junk,c',v,hV,h=>by simp [AV.merge] at h;subst h;simp only [V]
 | .num ..,c',v,hV,h=>by simp [AV.merge] at h;subst h;simp only [V] at hV ⊢;exact hV
 | .bool _,c',v,hV,h=>by simp [AV.merge] at h;subst h;simp only [V] at hV ⊢;exact hV
 | .nilS,c',v,hV,h=>by
  simp [AV.merge] at h
  subst h
  simp only [V] at hV ⊢
  subst hV
  refine ⟨fun i hi=> ?_,⟨by simp,by simp⟩,none,0,by simp,fun _=> .inl ⟨rfl,rfl⟩⟩
  have:i<na+2:=by split at hi<;>simp [BR] at hi<;>omega
  show BN na bs i≠_
  rw [EF this];simp
 | .dig p l,c',v,hV,h=>by
  simp only [AV.merge] at h
  split at h
  ·rename_i har
   have h0:∀i ∈ p,0<i:=by simpa [PG] using (P1.1 har).2
   replace har:=(P1.1 har).1
   simp only [V] at hV
   obtain ⟨_,hok,base,cap,rfl,hd⟩:=hV
   have hal:=Y6 (Sub.refl σ.box) β w har
   have key:∀p',((∀i ∈ p,na<i)∨p'=BR na)→na+1 ∈ p'→(∀i ∈ p',i<na+2)→V ⟨BN na bs,S4 na β kb,w⟩ (.dig p' l) (.slice base l.length cap):=by
    intro p' h1 h2 h3
    simp only [V]
    refine ⟨fun i hi=> ?_,hok,base,cap,rfl,fun _=>(hd hal).mono fun b hb=>⟨A3c hkb hal (h1.imp id fun e=>⟨h0,e⟩) h2 hb,rfl⟩⟩
    show BN na bs i≠_
    rw [EF (h3 i hi)];simp
   split at h
   ·cases h
    exact key _ (.inr rfl) (by simp [BR]) (by simp [BR])
   ·split at h
    ·rename_i hall
     cases h
     exact key _ (.inl (by simpa using hall)) (by simp) (by simp)
    ·cases h
     exact key _ (.inr rfl) (by simp [BR]) (by simp [BR])
  ·cases h
 | .vec p n l,c',v,hV,h=>by
  simp only [AV.merge] at h
  split at h
  ·rename_i har
   have h0:∀i ∈ p,0<i:=by simpa [PG] using (P1.1 har).2
   replace har:=(P1.1 har).1
   split at h
   ·rename_i l' hl
    cases h
    simp only [V] at hV
    obtain ⟨_,hlen,hn,base,cap,us,rfl,hus,hsz,hd⟩:=hV
    have hal:=Y6 (Sub.refl σ.box) β w har
    have hm:=GZ hkb bs any l l' us hus hl
    have hll:l'.length=l.length:=by rw [hm.length,hus.length]
    have key:∀p',((∀i ∈ p,na<i)∨p'=BR na)→na+1 ∈ p'→(∀i ∈ p',i<na+2)→V ⟨BN na bs,S4 na β kb,w⟩ (.vec p' n l') (.slice base l.length cap):=by
     intro p' h1 h2 h3
     simp only [V]
     refine ⟨fun i hi=> ?_,by omega,hn,base,cap,us,by rw [hll],hm,hsz,fun _=>(hd hal).mono fun b hb=>⟨A3c hkb hal (h1.imp id fun e=>⟨h0,e⟩) h2 hb,rfl⟩⟩
     show BN na bs i≠_
     rw [EF (h3 i hi)];simp
    split
    ·exact key _ (.inr rfl) (by simp [BR]) (by simp [BR])
    ·split
     ·rename_i hall
      exact key _ (.inl (by simpa using hall)) (by simp) (by simp)
     ·exact key _ (.inr rfl) (by simp [BR]) (by simp [BR])
   ·cases h
  ·cases h
 | .agg cs,c',v,hV,h=>by
  simp only [AV.merge] at h
  split at h
  ·rename_i cs' hcs
   cases h
   simp only [V] at hV ⊢
   obtain ⟨vs,rfl,hvs⟩:=hV
   exact ⟨vs,rfl,GZ hkb bs any cs cs' vs hvs hcs⟩
  ·cases h
 | .tup cs,c',v,hV,h=>by
  simp only [AV.merge] at h
  split at h
  ·rename_i cs' hcs
   cases h
   simp only [V] at hV ⊢
   obtain ⟨vs,rfl,hvs⟩:=hV
   exact ⟨vs,rfl,GZ hkb bs any cs cs' vs hvs hcs⟩
  ·cases h
 | .fn f cs,c',v,hV,h=>by
  simp only [AV.merge] at h
  split at h
  ·rename_i cs' hcs
   cases h
   simp only [V] at hV ⊢
   obtain ⟨vs,rfl,hvs⟩:=hV
   exact ⟨vs,rfl,GZ hkb bs any cs cs' vs hvs hcs⟩
  ·cases h
 | .cref p cs,c',v,hV,h=>by
  simp only [AV.merge] at h
  split at h
  ·rename_i har
   have h0:∀i ∈ p,0<i:=by simpa [PG] using (P1.1 har).2
   replace har:=(P1.1 har).1
   split at h
   ·rename_i l' hl
    cases h
    simp only [V] at hV ⊢
    obtain ⟨_,vs,hvs,b,off,rfl,hd⟩:=hV
    have hal:=Y6 (Sub.refl σ.box) β w har
    refine ⟨fun i hi=> ?_,vs,GZ hkb bs any cs l' vs hvs hl,b,off,rfl,fun _=>⟨A3c hkb hal (.inr ⟨h0,rfl⟩) (by simp [BR]) (hd hal).1,(hd hal).2⟩⟩
    simp [BR] at hi
    show BN na bs i≠_
    rw [EF (by omega)];simp
   ·cases h
  ·cases h
 | .own _,c',v,hV,h=>by simp [AV.merge] at h
 | .addr ..,c',v,hV,h=>by simp [AV.merge] at h
 | .grown ..,c',v,hV,h=>by simp [AV.merge] at h
 | .boxv _,c',v,hV,h=>by simp [AV.merge] at h
 | .hand ..,c',v,hV,h=>by simp [AV.merge] at h
 | .handv ..,c',v,hV,h=>by simp [AV.merge] at h
 | .avec ..,c',v,hV,h=>by simp [AV.merge] at h
theorem GZ (hkb:∀i,some i ∈ kb→σ.box i≠ .G4) (bs:List Box) (any:Bool):∀(cs cs':List AV) (vs:List Value),Vs ⟨σ.box,β,w⟩ cs vs→AV.IZ σ.box na any cs=some cs'→Vs ⟨BN na bs,S4 na β kb,w⟩ cs' vs
 |[],cs',[],hV,h=>by simp [AV.IZ] at h;subst h;simp only [Vs]
 |c::cs,cs',v::vs,hV,h=>by
  simp only [AV.IZ] at h
  split at h
  ·cases h
  ·rename_i c' hc
   split at h
   ·cases h
   ·rename_i cs'' hcs
    cases h
    simp only [Vs] at hV ⊢
    exact ⟨C4a hkb bs any c c' v hV.1 hc,GZ hkb bs any cs cs'' vs hV.2 hcs⟩
 |[],_,_::_,hV,_=>by simp only [Vs] at hV
 |_::_,_,[],hV,_=>by simp only [Vs] at hV
end
def A7h (na:Nat) (σ:St) (β:Nat→Nat→Prop) (kb:List (Option Nat)) (bs:List Box) (w:World) (s:Option Nat) (b:Box):Prop:=
 match s with
 |none=>∃T,b= .D1 T []
 |some i=>(∃T l,σ.box i= .D1 T l∧b= .D1 T l)∨∃cs cs',σ.box i= .cells cs∧b= .cells cs'∧∀vs,Vs ⟨σ.box,β,w⟩ cs vs→Vs ⟨BN na bs,S4 na β kb,w⟩ cs' vs
theorem A7d (hR:R na β0 w0 σ β a w) (hkb:∀i,some i ∈ kb→σ.box i≠ .G4) (bs:List Box):∀(keep:List (Nat×Keep)) (vals:List AV),view na σ keep=some vals→
  (E0 σ keep).length=(N0 vals).length∧∀(j:Nat) (s:Option Nat) (b:Box),(E0 σ keep)[j]? =some s→(N0 vals)[j]? =some b→A7h na σ β kb bs w s b
 |[],vals,h=>by simp [view] at h;subst h;simp [E0,DS,N0]
 |(t,kp)::keep,vals,h=>by
  simp only [view] at h
  split at h
  ·cases h
  ·rename_i v hv
   split at h
   ·cases h
   ·rename_i vs hvs
    cases h
    obtain ⟨h1,h2⟩:=A7d hR hkb bs keep vs hvs
    have cons:∀{s b},A7h na σ β kb bs w s b→E0 σ ((t,kp)::keep)=s::E0 σ keep→N0 (v::vs)=b::N0 vs→
      (E0 σ ((t,kp)::keep)).length=(N0 (v::vs)).length∧∀(j:Nat) (s:Option Nat) (b:Box),(E0 σ ((t,kp)::keep))[j]? =some s→(N0 (v::vs))[j]? =some b→A7h na σ β kb bs w s b:=by
     intro s b hk e1 e2
     rw [e1,e2]
     refine ⟨by simp [h1],fun j s' b' hs hb=> ?_⟩
     cases j with
     |zero=>simp at hs hb;subst hs;subst hb;exact hk
     |succ j=>exact h2 j s' b' (by simpa using hs) (by simpa using hb)
    have same:E0 σ ((t,kp)::keep)=E0 σ keep→N0 (v::vs)=N0 vs→
      (E0 σ ((t,kp)::keep)).length=(N0 (v::vs)).length∧∀(j:Nat) (s:Option Nat) (b:Box),(E0 σ ((t,kp)::keep))[j]? =some s→(N0 (v::vs))[j]? =some b→A7h na σ β kb bs w s b:=by
     intro e1 e2
     rw [e1,e2]
     exact ⟨h1,h2⟩
    have noBox:∀{c c':AV} {any:Bool},AV.merge σ.box na any c=some c'→N0 (c'::vs)=N0 vs:=by
     intro c c' any hm
     cases c<;>simp only [AV.merge] at hm<;>first|(cases hm;done)|skip
     all_goals
      (repeat' split at hm)<;>first|(cases hm;rfl)|(cases hm;done)
    cases hc:σ.tmps.getD t .junk with
    |own b=>
     rw [hc] at hv
     simp only [DK] at hv
     split at hv
     ·rename_i T l hb
      cases hv
      exact cons (s:=some b) (b:= .D1 T l) (.inl ⟨T,l,hb,rfl⟩) (by unfold E0;simp only [W9,DS,hc]) rfl
     ·cases hv
    |hand b gc lo len=>
     rw [hc] at hv
     simp only [DK] at hv
     split at hv
     ·rename_i T l hb
      cases hv
      exact cons (s:=some b) (b:= .D1 T l) (.inl ⟨T,l,hb,rfl⟩) (by unfold E0;simp only [W9,DS,hc]) rfl
     ·cases hv
    |addr b off=>
     rw [hc] at hv
     simp only [DK] at hv
     split at hv
     ·split at hv
      ·rename_i cs hb
       split at hv
       ·rename_i cs' hcs
        cases hv
        exact cons (s:=some b) (b:= .cells cs') (.inr ⟨cs,cs',hb,rfl,fun us hus=>GZ hkb bs _ cs cs' us hus hcs⟩) (by unfold E0;simp only [W9,DS,hc]) rfl
       ·cases hv
      ·cases hv
     ·cases hv
    |nilS=>
     rw [hc] at hv
     simp only [DK] at hv
     cases kp with
     |grow T=>
      simp only at hv
      cases hv
      exact cons (s:=none) (b:= .D1 T []) ⟨T,rfl⟩ (by unfold E0;simp only [W9,DS,hc]) rfl
     |same=>exact same (by unfold E0;simp only [W9,DS,hc]) (noBox hv)
     |any=>exact same (by unfold E0;simp only [W9,DS,hc]) (noBox hv)
    |_=>
     rw [hc] at hv
     simp only [DK] at hv
     exact same (by unfold E0;simp only [W9,DS,hc]) (noBox hv)
theorem CN (hR:R na β0 w0 σ β a w) (hkb:∀i,some i ∈ kb→σ.box i≠ .G4) (bs:List Box):∀(keep:List (Nat×Keep)) (vals:List AV) (n:Nat) (tmps:List AV),view na σ keep=some vals→na+2≤n→
  Vs ⟨BN na bs,S4 na β kb,w⟩ tmps a.tmps.toList→(∀(j:Nat) (s:Option Nat),(E0 σ keep)[j]? =some s→kb[n+j-(na+2)]? =some s)→(∀(j:Nat) (b:Box),(N0 vals)[j]? =some b→BN na bs (n+j)=b)→
  Vs ⟨BN na bs,S4 na β kb,w⟩ (DH n keep vals tmps) a.tmps.toList
 |[],vals,n,tmps,h,hn,hV,_,_=>by simp [view] at h;subst h;simpa [DH] using hV
 |(t,kp)::keep,vals,n,tmps,h,hn,hV,hk,hb=>by
  simp only [view] at h
  split at h
  ·cases h
  ·rename_i v hv
   split at h
   ·cases h
   ·rename_i vs hvs
    cases h
    have put:∀{c:AV},(∀u,a.tmps.toList[t]? =some u→V ⟨BN na bs,S4 na β kb,w⟩ c u)→Vs ⟨BN na bs,S4 na β kb,w⟩ (tmps.set t c) a.tmps.toList:=by
     intro c hc
     refine Vs.of (by rw [List.length_set];exact hV.length) fun i c' u h1 h2=> ?_
     rw [BH] at h1
     split at h1
     ·rename_i e
      subst e
      split at h1
      ·cases h1;exact hc u h2
      ·cases h1
     ·exact hV.at h1 h2
    have old:∀u,a.tmps.toList[t]? =some u→V ⟨σ.box,β,w⟩ (σ.tmps.getD t .junk) u:=by
     intro u hu
     cases hc:σ.tmps[t]? with
     |none=>simp [M6,hc,V]
     |some c=>simp only [M6,hc,CC];exact hR.tmps.at hc hu
    have plain:∀{any:Bool} {c:AV},σ.tmps.getD t .junk=c→AV.merge σ.box na any c=some v→E0 σ ((t,kp)::keep)=E0 σ keep→
      Vs ⟨BN na bs,S4 na β kb,w⟩ (DH n ((t,kp)::keep) (v::vs) tmps) a.tmps.toList:=by
     intro any c hc hm e1
     have hun:DH n ((t,kp)::keep) (v::vs) tmps=DH n keep vs (tmps.set t v)∧N0 (v::vs)=N0 vs:=by
      cases c<;>simp only [AV.merge] at hm<;>first|(cases hm;done)|skip
      all_goals
       (repeat' split at hm)<;>first|(cases hm;exact ⟨rfl,rfl⟩)|(cases hm;done)
     rw [hun.1]
     refine CN hR hkb bs keep vs n _ hvs hn (put fun u hu=> ?_) (by rw [←e1];exact hk) (by rw [←hun.2];exact hb)
     have:=old u hu
     rw [hc] at this
     exact C4a hkb bs _ c v u this hm
    cases hc:σ.tmps.getD t .junk with
    |own b=>
     rw [hc] at hv
     simp only [DK] at hv
     split at hv
     ·rename_i T l hbx
      cases hv
      have e1:E0 σ ((t,kp)::keep)=some b::E0 σ keep:=by unfold E0;simp only [W9,DS,hc]
      have hkn:=hk 0 (some b) (by rw [e1];rfl)
      have hbn:=hb 0 (.D1 T l) rfl
      simp only [I4] at hkn hbn
      refine CN hR hkb bs keep vs (n+1) _ hvs (by omega) (put fun u hu=> ?_) (fun j s hs=> ?_) (fun j b' hb'=> ?_)
      ·have:=old u hu
       rw [hc] at this
       simp only [V] at this ⊢
       rw [hbn]
       refine ⟨by simp,this.2.1,fun T' l' hl=> ?_⟩
       cases hl
       rcases this.2.2 T l hbx with h|⟨blk,cap,q1,q2,q3,q4,q5⟩
       ·exact .inl h
       ·refine .inr ⟨blk,cap,?_,q2,q3,q4,q5⟩
        show S4 na β kb n blk
        unfold S4
        rw [if_neg (by omega),if_neg (by omega)]
        exact ⟨b,hkn,q1⟩
      ·have:=hk (j+1) s (by rw [e1];simpa using hs)
       rwa [show n+(j+1)=n+1+j by omega] at this
      ·have:=hb (j+1) b' (by show (Box.D1 T l::N0 vs)[j+1]? =_;simpa using hb')
       rwa [show n+(j+1)=n+1+j by omega] at this
     ·cases hv
    |hand b gc lo len=>
     rw [hc] at hv
     simp only [DK] at hv
     split at hv
     ·rename_i T l hbx
      cases hv
      have e1:E0 σ ((t,kp)::keep)=some b::E0 σ keep:=by unfold E0;simp only [W9,DS,hc]
      have hkn:=hk 0 (some b) (by rw [e1];rfl)
      have hbn:=hb 0 (.D1 T l) rfl
      simp only [I4] at hkn hbn
      refine CN hR hkb bs keep vs (n+1) _ hvs (by omega) (put fun u hu=> ?_) (fun j s hs=> ?_) (fun j b' hb'=> ?_)
      ·have:=old u hu
       rw [hc] at this
       simp only [V] at this ⊢
       rw [hbn]
       obtain ⟨_,g,cap,q1,q2,q3,q4⟩:=this
       refine ⟨by simp,g,cap,q1,q2,q3,fun T' l' hl=> ?_⟩
       cases hl
       obtain ⟨q5,q6,q7⟩:=q4 T l hbx
       refine ⟨?_,q6,q7⟩
       show S4 na β kb n g
       unfold S4
       rw [if_neg (by omega),if_neg (by omega)]
       exact ⟨b,hkn,q5⟩
      ·have:=hk (j+1) s (by rw [e1];simpa using hs)
       rwa [show n+(j+1)=n+1+j by omega] at this
      ·have:=hb (j+1) b' (by show (Box.D1 T l::N0 vs)[j+1]? =_;simpa using hb')
       rwa [show n+(j+1)=n+1+j by omega] at this
     ·cases hv
    |addr b off=>
     rw [hc] at hv
     simp only [DK] at hv
     split at hv
     ·rename_i hoff
      split at hv
      ·rename_i cs hbx
       split at hv
       ·rename_i cs' hcs
        cases hv
        have e1:E0 σ ((t,kp)::keep)=some b::E0 σ keep:=by unfold E0;simp only [W9,DS,hc]
        have hkn:=hk 0 (some b) (by rw [e1];rfl)
        have hbn:=hb 0 (.cells cs') rfl
        simp only [I4] at hkn hbn
        refine CN hR hkb bs keep vs (n+1) _ hvs (by omega) (put fun u hu=> ?_) (fun j s hs=> ?_) (fun j b' hb'=> ?_)
        ·have:=old u hu
         rw [hc] at this
         simp only [V] at this ⊢
         rw [hbn]
         refine ⟨by simp,fun _=> ?_⟩
         obtain ⟨blk,q1,q2⟩:=this.2 (by rw [hbx];trivial)
         refine ⟨blk,?_,by rw [q2,hoff]⟩
         show S4 na β kb n blk
         unfold S4
         rw [if_neg (by omega),if_neg (by omega)]
         exact ⟨b,hkn,q1⟩
        ·have:=hk (j+1) s (by rw [e1];simpa using hs)
         rwa [show n+(j+1)=n+1+j by omega] at this
        ·have:=hb (j+1) b' (by show (Box.cells cs'::N0 vs)[j+1]? =_;simpa using hb')
         rwa [show n+(j+1)=n+1+j by omega] at this
       ·cases hv
      ·cases hv
     ·cases hv
    |nilS=>
     rw [hc] at hv
     simp only [DK] at hv
     cases kp with
     |grow T=>
      simp only at hv
      cases hv
      have e1:E0 σ ((t,.grow T)::keep)=none::E0 σ keep:=by unfold E0;simp only [W9,DS,hc]
      have hbn:=hb 0 (.D1 T []) rfl
      simp only [I4] at hbn
      refine CN hR hkb bs keep vs (n+1) _ hvs (by omega) (put fun u hu=> ?_) (fun j s hs=> ?_) (fun j b' hb'=> ?_)
      ·have:=old u hu
       rw [hc] at this
       simp only [V] at this ⊢
       rw [hbn]
       refine ⟨by simp,⟨_,_,_,this⟩,fun T' l' hl=> ?_⟩
       cases hl
       exact .inl ⟨this,rfl⟩
      ·have:=hk (j+1) s (by rw [e1];simpa using hs)
       rwa [show n+(j+1)=n+1+j by omega] at this
      ·have:=hb (j+1) b' (by show (Box.D1 T []::N0 vs)[j+1]? =_;simpa using hb')
       rwa [show n+(j+1)=n+1+j by omega] at this
     |same=>exact plain hc hv (by unfold E0;simp only [W9,DS,hc])
     |any=>exact plain hc hv (by unfold E0;simp only [W9,DS,hc])
    |_=>
     rw [hc] at hv
     simp only [DK] at hv
     exact plain hc hv (by unfold E0;simp only [W9,DS,hc])
theorem B9w {l:List Nat} (h:nodup l=true):l.Nodup:=by
 have key:∀l:List Nat,(AN l).length≤l.length∧((AN l).length=l.length→l.Nodup):=by
  intro l
  induction l with
  |nil=>simp [AN]
  |cons x l ih=>
   unfold AN
   split
   ·refine ⟨by simp;omega,fun e=> ?_⟩
    simp at e;omega
   ·rename_i hx
    refine ⟨by simp;exact ih.1,fun e=> ?_⟩
    rw [List.nodup_cons]
    exact ⟨by simpa using hx,ih.2 (by simpa using e)⟩
 exact (key l).2 (by unfold nodup at h;simpa using h)
theorem A6m:∀{l:List (Option Nat)},(l.filterMap id).Nodup→∀(i j x:Nat),l[i]? =some (some x)→l[j]? =some (some x)→i=j
 |[],_,i,j,x,h,_=>by simp at h
 |s::l,hn,i,j,x,hi,hj=>by
  have hn':(l.filterMap id).Nodup:=by
   cases s with
   |none=>simpa using hn
   |some y=>simp at hn;exact hn.2
  have hmem:∀k,l[k]? =some (some x)→x ∈ l.filterMap id:=fun k hk=>by
   rw [List.mem_filterMap]
   exact ⟨some x,X7 hk,rfl⟩
  cases i with
  |zero=>
   simp at hi
   subst hi
   cases j with
   |zero=>rfl
   |succ j=>
    exfalso
    simp at hn hj
    exact absurd (hmem j hj) (by simpa using hn.1)
  |succ i=>
   cases j with
   |zero=>
    exfalso
    simp at hj
    subst hj
    simp at hn hi
    exact absurd (hmem i hi) (by simpa using hn.1)
   |succ j=>have:=A6m hn' i j x (by simpa using hi) (by simpa using hj);omega
theorem A6e:∀(keep:List (Nat×Keep)) (vals:List AV),view na σ keep=some vals→∀i,some i ∈ E0 σ keep→(∃T l,σ.box i= .D1 T l)∨∃cs,σ.box i= .cells cs
 |[],vals,h,i,hi=>by simp [E0,DS] at hi
 |(t,kp)::keep,vals,h,i,hi=>by
  simp only [view] at h
  split at h
  ·cases h
  ·rename_i v hv
   split at h
   ·cases h
   ·rename_i vs hvs
    have ih:=A6e keep vs hvs i
    unfold E0 at hi ih
    simp only [W9] at hi
    cases hc:σ.tmps.getD t .junk with
    |own b=>
     rw [hc] at hv
     simp only [DK] at hv
     simp only [DS,hc] at hi
     rcases Q5.1 hi with h'|h'
     ·cases h'
      split at hv
      ·rename_i T l hb;exact .inl ⟨T,l,hb⟩
      ·cases hv
     ·exact ih h'
    |hand b gc lo len=>
     rw [hc] at hv
     simp only [DK] at hv
     simp only [DS,hc] at hi
     rcases Q5.1 hi with h'|h'
     ·cases h'
      split at hv
      ·rename_i T l hb;exact .inl ⟨T,l,hb⟩
      ·cases hv
     ·exact ih h'
    |addr b off=>
     rw [hc] at hv
     simp only [DK] at hv
     simp only [DS,hc] at hi
     rcases Q5.1 hi with h'|h'
     ·cases h'
      split at hv
      ·split at hv
       ·rename_i cs hb;exact .inr ⟨cs,hb⟩
       ·cases hv
      ·cases hv
     ·exact ih h'
    |nilS=>
     simp only [DS,hc] at hi
     cases kp with
     |grow T=>simp at hi;exact ih hi
     |same=>exact ih hi
     |any=>exact ih hi
    |_=>simp only [DS,hc] at hi;exact ih hi
theorem R.D0d (hR:R na β0 w0 σ β a w) {keep:List (Nat×Keep)} {vals:List AV} (hv:view na σ keep=some vals) (hn:nodup ((E0 σ keep).filterMap id)=true):
  R na β0 w0 (layOut na σ.tmps.length keep vals) (S4 na β (E0 σ keep)) a w:=by
 have hlive:=A6e keep vals hv
 have hkb:∀i,some i ∈ E0 σ keep→σ.box i≠ .G4:=fun i hi=>by
  rcases hlive i hi with ⟨T,l,h⟩|⟨cs,h⟩<;>rw [h]<;>simp
 have hnd:=A6m (B9w hn)
 obtain ⟨hlen,hkept⟩:=A7d hR hkb (N0 vals) keep vals hv
 have hbox:(layOut na σ.tmps.length keep vals).box=BN na (N0 vals):=rfl
 have hid:∀i x,na<i→S4 na β (E0 σ keep) i x→∃j,na<j∧β j x∧((i=na+1∧some j ∉ E0 σ keep)∨(na+2≤i∧(E0 σ keep)[i-(na+2)]? =some (some j))):=by
  intro i x hi hx
  unfold S4 at hx
  rw [if_neg (by omega)] at hx
  split at hx
  ·rename_i e
   obtain ⟨j,h1,h2,h3⟩:=hx
   exact ⟨j,h1,h3,.inl ⟨e,h2⟩⟩
  ·obtain ⟨j,h1,h2⟩:=hx
   exact ⟨j,hR.QF (hkb j (X7 h1)),h2,.inr ⟨by omega,h1⟩⟩
 refine ⟨?_,hR.defers,fun i=> ?_,fun i hi=> ?_,fun i x hi hx=> ?_,fun i x hi hx=> ?_,fun i j x hi hj hx hy=> ?_,fun i x hi hx=> ?_,hR.grow,fun i x hi hx=>by
  unfold S4 at hx
  rw [if_pos hi] at hx
  exact hR.arg0 i x hi hx⟩
 ·rw [hbox]
  refine CN hR hkb (N0 vals) keep vals (na+2) _ hv (I6 _) (Vs.of (by rw [U0];exact hR.tmps.length) fun i c v h1 h2=> ?_) (fun j s hs=> ?_) (fun j b hb=> ?_)
  ·rw [j1] at h1
   split at h1
   ·cases h1;simp only [V]
   ·cases h1
  ·rwa [show na+2+j-(na+2)=j by omega]
  ·rw [RJ (by omega),show na+2+j-(na+2)=j by omega]
   simp [M6,hb]
 ·rw [hbox]
  by_cases hi:i<na+2
  ·rw [EF hi];trivial
  ·rw [RJ (by omega)]
   cases hb:(N0 vals)[i-(na+2)]? with
   |none=>simp only [M6,hb];trivial
   |some b=>
    have hlt:i-(na+2)<(E0 σ keep).length:=by rw [hlen];exact (X3.1 hb).1
    have hs:(E0 σ keep)[i-(na+2)]? =some ((E0 σ keep)[i-(na+2)]):=g0 hlt
    have hk:=hkept _ _ b hs hb
    have hβ:∀x,S4 na β (E0 σ keep) i x ↔ ∃j,(E0 σ keep)[i-(na+2)]=some j∧β j x:=by
     intro x
     unfold S4
     rw [if_neg (by omega),if_neg (by omega),hs]
     constructor
     ·rintro ⟨j,h1,h2⟩;exact ⟨j,Option.some.inj h1,h2⟩
     ·rintro ⟨j,h1,h2⟩;exact ⟨j,by rw [h1],h2⟩
    simp only [M6,hb,CC]
    generalize (E0 σ keep)[i-(na+2)]=s at hk hβ
    cases s with
    |none=>
     obtain ⟨T,rfl⟩:=hk
     have hno:∀x,¬S4 na β (E0 σ keep) i x:=fun x hx=>by
      obtain ⟨j,h,_⟩:=(hβ x).1 hx
      cases h
     exact ⟨fun x y hx _=>absurd hx (hno x),⟨by simp,by simp⟩,fun x hx=>absurd hx (hno x)⟩
    |some j=>
     have hβ':∀x,S4 na β (E0 σ keep) i x ↔ β j x:=fun x=>by
      rw [hβ x]
      constructor
      ·rintro ⟨j',h1,h2⟩;cases h1;exact h2
      ·intro h;exact ⟨j,rfl,h⟩
     have hok:=hR.boxes j
     rcases hk with ⟨T,l,h1,rfl⟩|⟨cs,cs',h1,rfl,h2⟩
     ·rw [h1] at hok
      obtain ⟨q1,q2,q3⟩:=hok
      exact ⟨fun x y hx hy=>q1 x y ((hβ' x).1 hx) ((hβ' y).1 hy),q2,fun x hx=>q3 x ((hβ' x).1 hx)⟩
     ·rw [h1] at hok
      obtain ⟨blk,q1,vs,T,q2,q3⟩:=hok
      exact ⟨blk,fun x=>(hβ' x).trans (q1 x),vs,T,q2,h2 _ q3⟩
 ·rw [hbox,EF (by omega)]
 ·unfold S4 at hx
  rw [if_pos hi] at hx
  exact hR.old i x hi hx
 ·obtain ⟨j,h1,h2,_⟩:=hid i x hi hx
  exact hR.new j x h1 h2
 ·obtain ⟨i',h1,h2,h3⟩:=hid i x hi hx
  obtain ⟨j',k1,k2,k3⟩:=hid j x hj hy
  have e:=hR.disj i' j' x h1 k1 h2 k2
  subst e
  rcases h3 with ⟨e1,n1⟩|⟨e1,n1⟩<;>rcases k3 with ⟨e2,n2⟩|⟨e2,n2⟩
  ·omega
  ·exact absurd (X7 n2) n1
  ·exact absurd (X7 n1) n2
  ·have:=hnd _ _ _ n1 n2
   omega
 ·rw [hbox] at hi
  have hi':na+2≤i:=by
   rcases L4 i (na+2) with h|h
   ·rw [EF h] at hi;cases hi
   ·exact h
  rw [RJ hi'] at hi
  obtain ⟨j,h1,h2,h3⟩:=hid i x (by omega) hx
  rcases h3 with ⟨e1,_⟩|⟨_,n1⟩
  ·omega
  ·have hlt:i-(na+2)<(N0 vals).length:=by rw [←hlen];exact (X3.1 n1).1
   have hb:(N0 vals)[i-(na+2)]? =some (N0 vals)[i-(na+2)]:=g0 hlt
   have hk:=hkept _ _ _ n1 hb
   simp only [M6,hb,CC] at hi
   rcases hk with ⟨T,l,_,e⟩|⟨cs,cs',_,e,_⟩<;>rw [e] at hi<;>cases hi
end
end Go.AI

namespace Go.AI
open Go Go.RowKit
set_option linter.unusedVariables false
set_option linter.unusedSimpArgs false
theorem St.IJ (σ:St) (d:Option Tmp) (v:AV):(σ.put d v).tmps.length=σ.tmps.length:=by cases d<;>simp [St.put]
theorem St.WA (σ:St) (d:Option Tmp) (e:Eff):(σ.apply d e).tmps.length=σ.tmps.length:=by simp [St.apply,St.IJ]
section
variable {P:Program} {Inv:World→Prop} {na nt:Nat} {β0:Nat→Nat→Prop} {w0:World} {Φ:Nat→List AV→Option Spec} {Λ:Nat→Option LoopAnn} {ops:Array Oper}
theorem C53 {p:Option Prop} {q q':Prop} (h:q→q') (k:C6 p q):C6 p q':=by
 cases p with
 |none=>exact h k
 |some p=>exact ⟨k.1,h k.2⟩
theorem XL {v:AV} {k k':AV→Prop} (h:∀v,k v→k' v) (hs:LQ v k):LQ v k':=by
 unfold LQ at hs ⊢
 split
 ·exact fun l e=>h _ (hs l e)
 ·exact fun l e=>h _ (hs l e)
 ·exact fun l e=>h _ (hs l e)
 ·rename_i n1 n2 n3
  split at hs
  ·exact absurd rfl (n1 _ _)
  ·exact absurd rfl (n2 _ _)
  ·exact absurd rfl (n3 _)
  ·exact h _ hs
theorem LV:∀{l:List AV} {k k':List AV→Prop},(∀v,k v→k' v)→LS l k→LS l k'
 |[],_,_,h,hs=>h _ hs
 |_::_,_,_,h,hs=>XL (fun _ h'=>LV (fun _ h''=>h _ h'') h') hs
theorem B5t {v:AV} {k k':AV→Prop} (h:∀v,k v→k' v) (hs:A2a v k):A2a v k':=by
 cases v with
 |agg cs=>exact LV (fun _ h'=>h _ h') hs
 |dig p l=>exact fun l e=>h _ (hs l e)
 |num kd n=>exact fun l e=>h _ (hs l e)
 |bool b=>exact fun l e=>h _ (hs l e)
 |_=>exact h _ hs
theorem UN:∀{l:List AV} {k k':List AV→Prop},(∀v,k v→k' v)→PN l k→PN l k'
 |[],_,_,h,hs=>h _ hs
 |_::_,_,_,h,hs=>B5t (fun _ h'=>UN (fun _ h''=>h _ h'') h') hs
theorem C1x {v:AV} {k k':AV→Prop} (h:∀v,k v→k' v) (hs:A6v v k):A6v v k':=by
 cases v with
 |agg cs=>exact LV (fun _ h'=>h _ h') hs
 |tup cs=>exact UN (fun _ h'=>h _ h') hs
 |_=>exact h _ hs
theorem B5r {v:AV} {k:AV→Prop} (h:C1v v k):k v:=by
 unfold C1v at h
 split at h
 ·exact h _ rfl
 ·exact IQ h
theorem UL:∀{l:List AV} {k:List AV→Prop},ZO l k→k l
 |[],_,h=>h
 |v::l,k,h=>UL (l:=l) (k:=fun l'=>k (v::l')) (B5r (v:=v) (k:=fun v'=>ZO l fun l'=>k (v'::l')) h)
theorem XK {l:List AV} {k:List AV→Prop} (h:A29 l k):k l:=by
 unfold A29 at h
 cases hb:l.any C46 with
 |false=>rw [hb] at h;exact h
 |true=>rw [hb] at h;exact UL h
theorem XC:∀{l:List Nat} {k:List Nat→Prop},A84 l k→k l
 |[],_,h=>h
 |x::l,k,h=>XC (l:=l) (k:=fun r=>k (x::r)) h
theorem A7x {dr:Bool} {ban:Option (List Nat)} {lim:Nat} {K:St→Prop}:∀(L:List (Nat×Oper)) (σ:St),evR P Φ na dr ban lim ops L σ K→evR P Φ na dr ban lim ops L σ (fun σ'=>σ'.tmps.length=σ.tmps.length∧K σ')
 |[],σ,h=>⟨rfl,h⟩
 |x::L,σ,h=>by
  have stepMono:∀{s:St} {k k':St→Prop},(∀s',s'.tmps.length=s.tmps.length→k s'→k' s')→MF P Φ na dr (PW ban lim ops x.2) s x k→MF P Φ na dr (PW ban lim ops x.2) s x k':=by
   intro s k k' hk hs
   unfold MF at hs ⊢
   split at hs
   ·rename_i e he
    refine C53 (fun hc=> ?_) hs
    cases hcall:C8d x.2.op<;>rw [hcall] at hc
    ·cases hbig:D3y x.2.op<;>rw [hbig] at hc
     ·exact hk _ (St.WA _ _ _) hc
     ·exact XL (fun v h=>hk _ (St.WA _ _ _) h) hc
    ·exact C1x (fun v h=>hk _ (St.WA _ _ _) h) hc
   ·exact hs.elim
  have go:∀{s:St},s.tmps.length=σ.tmps.length→evR P Φ na dr ban lim ops L s K→evR P Φ na dr ban lim ops L s (fun σ'=>σ'.tmps.length=σ.tmps.length∧K σ'):=by
   intro s hs hr
   have:=A7x L s hr
   rw [hs] at this
   exact this
  simp only [evR] at h ⊢
  split at h
  ·exact stepMono (fun s' h1 h2=>go h1 h2) h
  ·rename_i j want hg
   split at h
   ·exact h.elim
   ·rename_i d hj
    split at h
    ·rename_i b hd
     cases b<;>cases want<;>simp only [cond_true,cond_false] at h ⊢
     ·exact stepMono (fun s' h1 h2=>go (by rw [h1,St.IJ]) h2) h
     ·exact go (by rw [St.IJ,St.IJ]) h
     ·exact go (by rw [St.IJ,St.IJ]) h
     ·exact stepMono (fun s' h1 h2=>go (by rw [h1,St.IJ]) h2) h
    ·exact go (by rw [St.IJ]) h
    ·exact h.elim
theorem YA {c:Code} {Q:Exit→Act→World→Prop} (J:Nat→Act→World→Prop)
  (h:∀n a w,J n a w→c.wp P (Exit.then (fun a' w'=>∃m,m<n∧J m a' w') Q) a w) {n:Nat} {a:Act} {w:World} (h0:J n a w):(Code.loop c).wp P Q a w:=by
 have least:∀{p:Nat→Prop},(∃n,p n)→∃n,p n∧∀m,p m→n≤m:=by
  intro p ⟨n,hn⟩
  induction n using Nat.strongRecOn with
  |_ n ih=>
   by_cases hm:∃m,m<n∧p m
   ·obtain ⟨m,h1,h2⟩:=hm;exact ih m h1 h2
   ·exact ⟨n,hn,fun m hp=>by
     rcases L4 m n with h'|h'
     ·exact absurd ⟨m,h',hp⟩ hm
     ·exact h'⟩
 classical
 refine wp_loop (fun a w=>∃n,J n a w) (fun a w=>if hx:∃n,J n a w then Classical.choose (least hx) else 0) ⟨n,h0⟩ fun a w hI=> ?_
 have hx:=Classical.choose_spec (least hI)
 refine wp_mono (h _ a w hx.1) fun e a' w' hq=> ?_
 cases e with
 |normal=>
  obtain ⟨m,hm,hJ⟩:=hq
  refine ⟨⟨m,hJ⟩,?_⟩
  have hex:∃n,J n a' w':=⟨m,hJ⟩
  have:=(Classical.choose_spec (least hex)).2 m hJ
  rw [dif_pos hex,dif_pos hI]
  omega
 |_=>exact hq
def P4 (P:Program) (Φ:Nat→List AV→Option Spec) (Λ:Nat→Option LoopAnn) (na nt:Nat) (keep:List (Nat×Keep)) (body:Code):Nat→List AV→(Exit→List AV→Prop)→Prop
 |0,_,_=>False
 |n+1,vals,K=>M7 P Φ Λ na nt keep body vals fun e vals'=>match e with
  | .normal=>P4 P Φ Λ na nt keep body n vals' K
  |e=>K e vals'
def L6 (P:Program) (Φ:Nat→List AV→Option Spec) (Λ:Nat→Option LoopAnn) (na nt:Nat) (keep:List (Nat×Keep)) (body:Code) (ls:List AV→Option LR):Prop:=
 ∀vals r,ls vals=some r→∀K,j0 r K→∃n,P4 P Φ Λ na nt keep body n vals K
def Rel (na nt:Nat) (β0:Nat→Nat→Prop) (w0:World) (σ:St) (a:Act) (w:World):Prop:=σ.tmps.length=nt∧∃β,R na β0 w0 σ β a w
def D3u (P:Program) (na nt:Nat) (body:Code) (g:St→Option (Exit×St)):Prop:=
 ∀(β0:Nat→Nat→Prop) (w0:World) (σ:St) (r:Exit×St) (a:Act) (w:World) (Q:Exit→Act→World→Prop),g σ=some r→Rel na nt β0 w0 σ a w→
  (∀a' w',Rel na nt β0 w0 r.2 a' w'→Q r.1 a' w')→(Code.loop body).wp P Q a w
def CO (P:Program) (Φ:Nat→List AV→Option Spec) (Λ:Nat→Option LoopAnn) (na nt:Nat):Code→Prop
 | .seq a b=>CO P Φ Λ na nt a∧CO P Φ Λ na nt b
 | .cond _ a b=>CO P Φ Λ na nt a∧CO P Φ Λ na nt b
 | .block _ a=>CO P Φ Λ na nt a
 | .loop a=>CO P Φ Λ na nt a∧(∀keep ls,Λ (P3 a)=some (.spec keep ls)→(L6 P Φ Λ na nt keep a ls))∧∀g,Λ (P3 a)=some (.raw g)→D3u P na nt a g
 |_=>True
theorem XD {bx:Nat→Box}:∀(p:List Nat),(∀i ∈ p,∃T l,bx i= .D1 T l)→freeze bx false p=some (p.map fun i=>(i,Box.dead))
 |[],_=>rfl
 |i::p,h=>by
  obtain ⟨T,l,hi⟩:=h i (by simp)
  unfold freeze
  rw [hi]
  simp only [XD p (fun j hj=>h j (by simp [hj])),W9]
  rfl
theorem A0a {b:Box}:B96 b=true ↔ ∃T l,b= .D1 T l:=by
 cases b<;>simp [B96]
theorem Rel.C6h {σ:St} {a:Act} {w:World} (h:Rel na nt β0 w0 σ a w):Rel na nt β0 w0 (AI.C6h σ) a w:=by
 obtain ⟨hnt,β,hR⟩:=h
 have hna:na<σ.boxes.length:=hR.len (i:=na) (by rw [hR.args na (I6 _)];simp)
 let σ0:St:={σ with boxes:=σ.boxes++[.unborn]}
 have hbox0:∀i,σ0.box i=σ.box i:=by
  intro i
  show M6 _ _ _=M6 _ _ _
  simp only [σ0,M6,CB]
  split
  ·rfl
  ·rename_i hi
   rw [M1 (by omega:σ.boxes.length≤i)]
   cases hc:i-σ.boxes.length with
   |zero=>rfl
   |succ k=>rfl
 have hbx0:σ0.box=σ.box:=funext hbox0
 have hR0:R na β0 w0 σ0 β a w:=by
  refine ⟨by rw [hbx0];exact hR.tmps,hR.defers,fun i=>by rw [hbx0];exact hR.boxes i,fun i hi=>by rw [hbx0];exact hR.args i hi,hR.old,hR.new,hR.disj,fun i x hi=>by rw [hbx0] at hi;exact hR.unborn i x hi,hR.grow,hR.arg0⟩
 have hun:σ0.box σ.boxes.length= .unborn:=by
  rw [hbox0]
  show M6 _ _ _=_
  simp [M6]
 have hlen0:σ.boxes.length<σ0.boxes.length:=by simp [σ0]
 have hR1:=hR0.JW (w':=w) hna hlen0 hun .G4 (fun _=>False) (Grow.refl w) (by simp) (fun x hx=>hx.elim) trivial
 have hset:σ0.boxes.set σ.boxes.length .G4=σ.boxes++[.G4]:=by simp [σ0]
 rw [hset] at hR1
 have hbox1:∀i,St.box {σ0 with boxes:=σ.boxes++[.G4]} i=if i=σ.boxes.length then .G4 else σ.box i:=by
  intro i
  rw [←hset,St.J8 _ _ _ _ hlen0,hbx0]
 have hids:∀i ∈ FZ σ,i<σ.boxes.length∧∃T l,σ.box i= .D1 T l:=fun i hi=>by
  unfold FZ at hi
  rw [List.mem_filter] at hi
  exact ⟨by simpa using hi.1,A0a.1 hi.2⟩
 have hnd:(FZ σ).Nodup:=List.Pairwise.filter _ List.nodup_range
 obtain ⟨β',h1,h2,h3,h4,h5⟩:=OX (bx:=σ.box) (n:=σ.boxes.length) false hna (FZ σ) _ _ _ hnd (fun hm=>absurd (hids _ hm).1 (by omega)) (XD _ fun i hi=>(hids i hi).2) (fun i hi=> .inr (by
  rw [hbox1,if_neg (by have:=(hids i hi).1;omega)])) hR1 (by rw [hbox1,if_pos rfl])
 refine ⟨by simp [AI.C6h,hnt],β',?_⟩
 have hT:Vs ⟨St.box {σ0 with boxes:=F4 (σ.boxes++[.G4]) ((FZ σ).map fun i=>(i,Box.dead))},β',w⟩ (σ.tmps.map (D1o σ.box σ.boxes.length)) a.tmps.toList:=by
  refine Vs.of (by rw [List.length_map];exact hR.tmps.length) fun i c v hc hv=> ?_
  rw [List.getElem?_map] at hc
  obtain ⟨c0,hc0,rfl⟩:=Option.map_eq_some_iff.1 hc
  unfold D1o
  split
  ·rename_i x hx
   cases ha:AV.asArg σ.box σ.boxes.length 8 c0 with
   |none=>simp only [Option.getD_none,V]
   |some c'=>
    simp only [CC]
    refine A7j hR (Sub.refl _) (C':=⟨St.box {σ0 with boxes:=F4 (σ.boxes++[.G4]) ((FZ σ).map fun i=>(i,Box.dead))},β',w⟩) rfl h2 8 c0 c' v (hR.tmps.at hc0 hv) ha fun j hj y hy=> ?_
    have hj':∃T l,σ.box j= .D1 T l:=by
     unfold RF at hx
     split at hx
     ·simp [AV.ids] at hj
      subst hj
      split at hx
      ·rename_i T l e;exact ⟨T,l,e⟩
      ·cases hx
     ·simp [AV.ids] at hj
      subst hj
      split at hx
      ·rename_i T l e;exact ⟨T,l,e⟩
      ·cases hx
     ·cases hx
    have hjl:=hR.len (i:=j) (by obtain ⟨T,l,e⟩:=hj';rw [e];simp)
    have hmem:j ∈ FZ σ:=by
     unfold FZ
     rw [List.mem_filter]
     exact ⟨by simpa using hjl,A0a.2 hj'⟩
    rcases h5 j hmem with ⟨q1,_⟩|⟨T,l,_,q2⟩
    ·obtain ⟨T,l,e⟩:=hj'
     rw [e] at q1;cases q1
    ·exact q2 y ((M3 _ _ (by omega) y).2 hy)
  ·exact h1.tmps.at hc0 hv
 exact ⟨hT,h1.defers,h1.boxes,h1.args,h1.old,h1.new,h1.disj,h1.unborn,h1.grow,h1.arg0⟩
theorem QO:∀(keep:List (Nat×Keep)) (vals:List AV) (n:Nat) (tmps:List AV),(DH n keep vals tmps).length=tmps.length
 |[],vals,n,tmps=>by simp [DH]
 |x::keep,[],n,tmps=>by simp [DH]
 |x::keep,v::vals,n,tmps=>by
  cases v<;>simp [DH,QO keep]
theorem VT (hm:P.follows .mixedOrders=true) (hΦ:G6 P Inv Φ) (hGrow:∀w',GrowS (β0 (na+1)) w0 w'→Inv w'):∀(c:Code),CO P Φ Λ na nt c→∀(σ:St) (k:Exit→St→Prop) (a:Act) (w:World) (Q:Exit→Act→World→Prop),
  Rel na nt β0 w0 σ a w→evC P Φ Λ na c σ k→(∀e σ' a' w',k e σ'→Rel na nt β0 w0 σ' a' w'→Q e a' w')→c.wp P Q a w:=by
 intro c
 induction c with
 |skip=>intro _ σ k a w Q hR h hk;exact wp_skip (hk _ _ _ _ h hR)
 |region id ops draw=>
  intro _ σ0 k a w Q hR0 h hk
  obtain ⟨σ,hσ,hR⟩:∃σ,cond (C26 Λ id) (C6h σ0) σ0=σ∧Rel na nt β0 w0 σ a w:=by
   refine ⟨_,rfl,?_⟩
   cases C26 Λ id with
   |false=>exact hR0
   |true=>exact hR0.C6h
  obtain ⟨hnt,β,hR⟩:=hR
  let σ':St:={σ with boxes:=σ.boxes++B2 (X9 ops.toList) .unborn}
  have hbox:∀i,σ'.box i=σ.box i:=by
   intro i
   show M6 _ _ _=M6 _ _ _
   simp only [σ',M6,CB]
   split
   ·rfl
   ·rename_i hi
    rw [M1 (by omega:σ.boxes.length≤i)]
    rw [j1]
    split<;>rfl
  have hbx:σ'.box=σ.box:=funext hbox
  have hR':R na β0 w0 σ' β a w:=by
   refine ⟨by rw [hbx];exact hR.tmps,hR.defers,fun i=>by rw [hbx];exact hR.boxes i,fun i hi=>by rw [hbx];exact hR.args i hi,hR.old,hR.new,hR.disj,fun i x hi=>by rw [hbx] at hi;exact hR.unborn i x hi,hR.grow,hR.arg0⟩
  have hna:na<σ.boxes.length:=by
   rcases L4 na σ.boxes.length with h'|h'
   ·exact h'
   ·have:=hR.args na (I6 _)
    simp [St.box,M6,M1 h'] at this
  have hrd:MY na σ' σ.boxes.length ops.toList:=by
   refine ⟨hna,fun i hi=> ?_,by simp [σ']⟩
   rw [hbox]
   simp [St.box,M6,M1 hi]
  cases draw with
  |false=>
   have h':evR P Φ na false none σ.boxes.length ops (number σ.boxes.length ops.toList) σ' (fun σ=>k .normal σ):=by
    simp only [evC,hσ] at h
    exact h
   refine wp_region_list (A7y hΦ hGrow (K:=fun s=>s.tmps.length=σ'.tmps.length∧k .normal s) (fun s β a w hRs hks=>hk .normal s a w hks.2 ⟨by rw [hks.1];exact hnt,β,hRs⟩) σ.boxes.length ops.toList _ σ' β a w hR' hrd (A7x _ _ h'))
  |true=>
   have go:∀ban,ED ban ops=true→evR P Φ na true ban σ.boxes.length ops (number σ.boxes.length ops.toList) σ' (fun σ=>k .normal σ)→(Code.region id ops true).wp P Q a w:=fun ban hok h'=>
    C7o hok hm hΦ hGrow (K:=fun s=>s.tmps.length=σ'.tmps.length∧k .normal s) (fun s β a w hRs hks=>hk .normal s a w hks.2 ⟨by rw [hks.1];exact hnt,β,hRs⟩) hR' hrd (A7x _ _ h') id
   have h':cond (ED none ops) (evR P Φ na true none σ.boxes.length ops (number σ.boxes.length ops.toList) σ' (fun σ=>k .normal σ)) (A84 (B88 σ.tmps ops) fun ban=>cond (ED (some ban) ops) (evR P Φ na true (some ban) σ.boxes.length ops (number σ.boxes.length ops.toList) σ' (fun σ=>k .normal σ)) False):=by
    simp only [evC,hσ] at h
    exact h
   cases hok:ED none ops with
   |true=>rw [hok] at h';exact go _ hok h'
   |false=>
    rw [hok] at h'
    replace h':=XC (k:=fun ban=>cond (ED (some ban) ops) (evR P Φ na true (some ban) σ.boxes.length ops (number σ.boxes.length ops.toList) σ' (fun σ=>k .normal σ)) False) h'
    cases hok2:ED (some (B88 σ.tmps ops)) ops with
    |false=>rw [hok2] at h';exact h'.elim
    |true=>rw [hok2] at h';exact go _ hok2 h'
 |seq x y ihx ihy=>
  intro hl σ k a w Q hR h hk
  refine wp_seq (ihx hl.1 σ _ a w _ hR h fun e σ' a' w' he hR'=> ?_)
  cases e with
  |normal=>exact ihy hl.2 σ' k a' w' Q hR' he hk
  |_=>exact hk _ _ _ _ he hR'
 |cond c x y ihx ihy=>
  intro hl σ k a w Q hR h hk
  have hR0:=hR
  obtain ⟨hnt,β,hR⟩:=hR
  have hV:=hR.O2 c
  simp only [evC] at h
  split at h
  ·rename_i t ht
   rw [ht] at hV
   refine wp_cond hV.ET ?_
   split at h
   ·rename_i d
    have hd:σ.tmps.getD d .junk= .bool t:=ht
    have hp:=B5j hd
    cases t<;>simp only [cond_true,cond_false] at h<;>rw [hp] at h
    ·exact ihy hl.2 σ k a w Q hR0 h hk
    ·exact ihx hl.1 σ k a w Q hR0 h hk
   ·cases t<;>simp only [cond_true,cond_false] at h
    ·exact ihy hl.2 σ k a w Q hR0 h hk
    ·exact ihx hl.1 σ k a w Q hR0 h hk
  ·exact h.elim
 |block id x ih=>
  intro hl σ k a w Q hR h hk
  refine wp_block (ih hl σ _ a w _ hR h fun e σ' a' w' he hR'=> ?_)
  cases e with
  |exit i=>
   simp only [D3w] at he
   simp only [Exit.inBlock]
   split at he
   ·rename_i e;rw [if_pos e];exact hk _ _ _ _ he hR'
   ·rename_i e;rw [if_neg e];exact hk _ _ _ _ he hR'
  |_=>exact hk _ _ _ _ he hR'
 |loop x ih=>
  intro hl σ k a w Q hR h hk
  simp only [evC] at h
  split at h
  ·rename_i n _
   refine YA (fun n a w=>∃σ,Rel na nt β0 w0 σ a w∧B0s (evC P Φ Λ na x) n σ k) (fun n a w ⟨σ,hR,hu⟩=> ?_) (n:=n) ⟨σ,hR,h⟩
   cases n with
   |zero=>exact hu.elim
   |succ n=>
    refine ih hl.1 σ _ a w _ hR hu fun e σ' a' w' he hR'=> ?_
    cases e with
    |normal=>exact ⟨n,by omega,σ',hR',he⟩
    |_=>exact hk _ _ _ _ he hR'
  ·rename_i g hΛ
   split at h
   ·rename_i r hg
    exact hl.2.2 g hΛ _ _ _ _ _ _ _ hg hR fun a' w' hR'=>hk _ _ _ _ h hR'
   ·exact h.elim
  ·rename_i keep ls hΛ
   have relay:∀{σ:St} {a:Act} {w:World} {k:List AV→Prop},Rel na nt β0 w0 σ a w→VH na keep σ k→∃vals,k vals∧Rel na nt β0 w0 (layOut na nt keep vals) a w:=by
    intro σ a w k ⟨hnt,β,hR⟩ hv
    unfold VH at hv
    split at hv
    ·rename_i vals hvals
     cases hn:nodup ((E0 σ keep).filterMap id) with
     |false=>rw [hn] at hv;exact hv.elim
     |true=>
      rw [hn] at hv
      have:=hR.D0d hvals hn
      rw [hnt] at this
      exact ⟨vals,hv,by simp [layOut,QO],_,this⟩
    ·exact hv.elim
   have hnt:=hR.1
   obtain ⟨vals,hv,hR1⟩:=relay hR h
   replace hv:=XK hv
   split at hv
   ·rename_i r hr
    rw [hnt] at hv
    obtain ⟨n,hit⟩:=hl.2.1 keep ls hΛ vals r hr _ hv
    refine YA (fun n a w=>∃vals,Rel na nt β0 w0 (layOut na nt keep vals) a w∧P4 P Φ Λ na nt keep x n vals (fun e vals'=>A29 vals' fun vals'=>k e (layOut na nt keep vals'))) (fun n a w ⟨vals,hR,hu⟩=> ?_) (n:=n) ⟨vals,hR1,hit⟩
    cases n with
    |zero=>exact hu.elim
    |succ n=>
     refine ih hl.1 _ _ a w _ hR hu fun e σ' a' w' he hR'=> ?_
     obtain ⟨vals',hv',hR2⟩:=relay hR' he
     cases e with
     |normal=>exact ⟨n,by omega,vals',hR2,hv'⟩
     |_=>exact hk _ _ _ _ (XK hv') hR2
   ·exact hv.elim
  ·exact h.elim
 |exit id=>intro _ σ k a w Q hR h hk;exact wp_exit (hk _ _ _ _ h hR)
 |ret=>intro _ σ k a w Q hR h hk;exact wp_ret (hk _ _ _ _ h hR)
 |rangeFunc=>intro _ σ k a w Q hR h hk;exact h.elim
 |scope=>intro _ σ k a w Q hR h hk;exact h.elim
 |label=>intro _ σ k a w Q hR h hk;exact h.elim
 |goto=>intro _ σ k a w Q hR h hk;exact h.elim
 |refuse=>intro _ σ k a w Q hR h hk;exact h.elim
end
end Go.AI
