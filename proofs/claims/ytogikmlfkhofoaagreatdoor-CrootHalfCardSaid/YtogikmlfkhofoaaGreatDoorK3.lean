/- My texts AIeff, AIreg0, AIreg, AIdraw, AIview, AIcode, in one. -/
import Derived.Test.YtogikmlfkhofoaaGreatDoorK2
namespace Go.AI
open Go Go.RowKit
set_option linter.unusedVariables false
set_option linter.unusedSimpArgs false
section
variable {P:Program} {Inv:World→Prop} {na:Nat} {β0:Nat→Nat→Prop} {w0:World} {σ:St} {β:Nat→Nat→Prop} {a:Act} {w:World} {o:Oper} {bx:Nat→Box} {Φ:Nat→List AV→Option Spec} {dr:Bool} {n:Nat} {e:Eff}
theorem sound_value (hR:R na β0 w0 σ β a w) (hb:Sub bx σ.box) (hInv:Inv w) (hΦ:PhiOk P Inv Φ) {c:Call} (ho:o.op= .call c) {f:Operand} (hc:c.callee= .value f)
  (he:eff P Φ na dr σ.eval bx n o=some e) (hp:andO e.pre True) (hn:Free na σ n):StepOk P na β0 w0 (σ.apply o.dst e) o a w:=by
 have hVf:=hR.V_eval f
 unfold eff at he
 rw [ho] at he
 simp only [hc] at he
 split at he
 ·rename_i g caps hf
  rw [hf] at hVf
  simp only [V] at hVf
  obtain ⟨vs,hfv,hvs⟩:=hVf
  have hV:=(evals_V hR c.args).append hvs
  obtain ⟨hent,hcall⟩:Enters P g∧Calls P g ((c.args.map a.eval).toList++vs).toArray w fun en w'=>∃v,en= .returned v∧∃β',R na β0 w0 {σ with boxes:=setBoxes σ.boxes e.upd} β' a w'∧V ⟨St.box {σ with boxes:=setBoxes σ.boxes e.upd},β',w'⟩ e.val v:=by
   split at he
   ·rename_i e' he'
    cases he
    exact sound_handEff hR hb hInv hΦ hV he' hp hn
   ·exact sound_callEff (dst:=o.dst) hR hb hInv hΦ hV he hp hn
  intro next Q hnext
  have hrun:(execOp a.eval o).run P w= .ok (.enter g ((c.args.map a.eval).toList++vs).toArray) w:=by
   have:execOp a.eval o=callFunc g ((c.args.map a.eval)++vs.toArray):=by
    simp only [execOp,ho,resolve,hc,hfv,Deferred.ofValue]
    simp [invoke]
   rw [this,hent]
   congr 2
   simp
  unfold Oper.wp
  rw [hrun,Oper.upon_enter]
  refine hcall.mono ?_
  rintro en w' ⟨v,rfl,β',h1,h2⟩
  exact hnext β' _ w' (h1.put o.dst h2)
 ·cases he
theorem sound_builtin (hR:R na β0 w0 σ β a w) (hb:Sub bx σ.box) {c:Call} (ho:o.op= .call c) {b:Builtin} (hc:c.callee= .builtin b)
  (he:eff P Φ na dr σ.eval bx n o=some e) (hp:andO e.pre True) (hn:b= .append→Free na σ n):StepOk P na β0 w0 (σ.apply o.dst e) o a w:=by
 have hargs:=evals_V hR c.args
 have hx:=exec_builtin ho hc a
 unfold eff at he
 rw [ho] at he
 simp only [hc] at he
 unfold builtinEff at he
 cases b<;>simp only at he<;>try cases he
 case append=>
  split at he
  ·rename_i t t' x y hty harg
   rw [harg] at hargs
   obtain ⟨u,v,huv,hu,hv⟩:=hargs.two
   split at he
   ·rename_i htt
    subst htt
    have hrun:∀{r:Value} {w':World},(Builtin.append_ #[t,t] o.type #[u,v]).run P w= .ok r w'→(execOp a.eval o).run P w= .ok (.value r) w':=by
     intro r w' h
     rw [hx,toArray_of hty,toArray_of huv]
     simp only [builtin,Sem.run_bind,h,Result.andThen_ok,Sem.run_pure]
    have hap:∃β' w' r,(Builtin.append_ #[t,t] o.type #[u,v]).run P w= .ok r w'∧R na β0 w0 {σ with boxes:=setBoxes σ.boxes e.upd} β' a w'∧V ⟨St.box {σ with boxes:=setBoxes σ.boxes e.upd},β',w'⟩ e.val r:=by
     have he':=he
     unfold appendEff at he'
     split at he'
     ·exact sound_append_nil hR hb hu hv he hp (hn rfl) o.type
     ·exact sound_append_own hR hb hu hv he hp (hn rfl) o.type
     ·cases he'
    obtain ⟨β',w',r,h1,h2,h3⟩:=hap
    exact StepOk.value (hrun h1) h2 h3
   ·cases he
  ·cases he
 case len=>
  split at he
  ·rename_i t x hty harg
   rw [harg] at hargs
   obtain ⟨v,hv,hV⟩:=hargs.one
   obtain ⟨p,r,c',rfl,h1,h2⟩:=lenEff_ok hR hb hV he o.type
   refine StepOk.pure' hR (v:=r) ?_ h2
   rw [hx,toArray_of hty,toArray_of hv]
   simp only [builtin,Sem.run_bind,h1,Result.andThen_ok,Sem.run_pure]
  ·cases he
 case max=>
  split at he
  ·rename_i x y harg
   rw [harg] at hargs
   obtain ⟨u,v,huv,hu,hv⟩:=hargs.two
   unfold maxEff at he
   split at he
   ·split at he
    ·rename_i e';subst e'
     cases he
     obtain ⟨h1,h2,_,_⟩:=max2_V (P:=P) (w:=w) hu hv
     refine StepOk.pure' hR ?_ h2
     rw [hx,toArray_of huv]
     have h1':∀tys ty,(Builtin.max_ tys ty #[u,v]).run P w=_:=fun tys ty=>h1
     simp only [builtin,Sem.run_bind,h1',Result.andThen_ok,Sem.run_pure]
    ·cases he
   ·cases he
  ·cases he
 case min=>
  split at he
  ·rename_i x y harg
   rw [harg] at hargs
   obtain ⟨u,v,huv,hu,hv⟩:=hargs.two
   unfold minEff at he
   split at he
   ·split at he
    ·rename_i e';subst e'
     cases he
     obtain ⟨_,_,h1,h2⟩:=max2_V (P:=P) (w:=w) hu hv
     refine StepOk.pure' hR ?_ h2
     rw [hx,toArray_of huv]
     have h1':∀tys ty,(Builtin.min_ tys ty #[u,v]).run P w=_:=fun tys ty=>h1
     simp only [builtin,Sem.run_bind,h1',Result.andThen_ok,Sem.run_pure]
    ·cases he
   ·cases he
  ·cases he
theorem eff_sound (hR:R na β0 w0 σ β a w) (hb:Sub bx σ.box) (hInv:Inv w) (hΦ:PhiOk P Inv Φ)
  (he:eff P Φ na dr σ.eval bx n o=some e) (hp:andO e.pre True) (hn:allocates o.op=true→Free na σ n):StepOk P na β0 w0 (σ.apply o.dst e) o a w:=by
 cases ho:o.op with
 |move x=>exact sound_move hR (.inl ho) he
 |assign x=>exact sound_move hR (.inr ho) he
 |pick c x y=>exact sound_pick hR ho he
 |alloc t=>exact sound_alloc hR ho he (hn (by rw [ho];rfl))
 |box t x=>exact sound_box hR ho he (hn (by rw [ho];rfl))
 |build t ps=>exact sound_build hR ho he
 |buildSlice t len ps=>exact sound_buildSlice hR ho he (hn (by rw [ho];rfl))
 |load t x=>exact sound_load hR hb ho he hp
 |store t x y=>exact sound_store hR hb ho he hp
 |binOp op t x y t'=>exact sound_binOp hR ho he hp
 |unOp op t x=>exact sound_unOp hR ho he
 |convert t t' x=>exact sound_convert hR ho he
 |makeSlice t x y=>exact sound_make hR ho he hp (hn (by rw [ho];rfl))
 |slice t x lo hi mx=>exact sound_slice hR hb ho he hp
 |fieldAddr t x f=>exact sound_fieldAddr hR hb ho he
 |field t x f=>exact sound_field hR ho he
 |indexAddr t x ix=>exact sound_indexAddr hR hb ho he hp
 |extract x i=>exact sound_extract hR ho he
 |makeFunc fn first captured=>exact sound_makeFunc hR ho he
 |call c=>
  cases hc:c.callee with
  |value f=>exact sound_value hR hb hInv hΦ ho hc he hp (hn (by rw [ho];simp [allocates,hc]))
  |builtin b=>exact sound_builtin hR hb ho hc he hp (fun e'=>hn (by rw [ho];simp [allocates,hc,e']))
  |invoke r m=>unfold eff at he;rw [ho] at he;simp only [hc] at he;cases he
 |_=>unfold eff at he;rw [ho] at he;simp at he
end
end Go.AI

namespace Go.AI
open Go Go.RowKit
set_option linter.unusedVariables false
set_option linter.unusedSimpArgs false
section
variable {na:Nat} {P:Program} {Φ:Nat→List AV→Option Spec} {dr:Bool} {n:Nat} {o:Oper} {bx bx':Nat→Box} {ρ ρ':Operand→AV} {e:Eff}
theorem eff_congr (h:∀x ∈ o.op.operands,ρ x=ρ' x):eff P Φ na dr ρ bx n o=eff P Φ na dr ρ' bx n o:=by
 unfold eff
 cases ho:o.op<;>rw [ho] at h<;>simp only [Op.operands] at h<;>(try dsimp only)
 case move x=>rw [h x (by simp)]
 case assign x=>rw [h x (by simp)]
 case pick c x y=>rw [h c (by simp),h x (by simp),h y (by simp)]
 case box t x=>rw [h x (by simp)]
 case build t ps=>
  have:(ps.toList.map fun (x:Nat×Operand)=>(x.1,ρ x.2))=ps.toList.map fun (x:Nat×Operand)=>(x.1,ρ' x.2):=List.map_congr_left fun x hx=>by rw [h x.2 (by simp;exact ⟨x.1,by simpa using hx⟩)]
  simp only [this]
 case buildSlice t len ps=>
  have:(ps.toList.map fun (x:Nat×Operand)=>(x.1,ρ x.2))=ps.toList.map fun (x:Nat×Operand)=>(x.1,ρ' x.2):=List.map_congr_left fun x hx=>by rw [h x.2 (by simp;exact ⟨x.1,by simpa using hx⟩)]
  simp only [this]
 case load t x=>rw [h x (by simp)]
 case store t x y=>simp only [h x (by simp),h y (by simp)]
 case binOp op t x y t'=>rw [h x (by simp),h y (by simp)]
 case unOp op t x=>rw [h x (by simp)]
 case convert t t' x=>rw [h x (by simp)]
 case makeSlice t x y=>rw [h x (by simp),h y (by simp)]
 case slice t x lo hi mx=>
  have h1:=h x (by simp)
  have h2:∀y,lo=some y→ρ y=ρ' y:=fun y e=>h y (by simp [e])
  have h3:∀y,hi=some y→ρ y=ρ' y:=fun y e=>h y (by simp [e])
  cases lo with
  |none=>cases hi with
   |none=>simp only [h1]
   |some v=>simp only [h1,h3 v rfl]
  |some u=>cases hi with
   |none=>simp only [h1,h2 u rfl]
   |some v=>simp only [h1,h2 u rfl,h3 v rfl]
 case fieldAddr t x f=>rw [h x (by simp)]
 case field t x f=>rw [h x (by simp)]
 case indexAddr t x ix=>rw [h x (by simp),h ix (by simp)]
 case extract x i=>rw [h x (by simp)]
 case makeFunc fn first captured=>
  have:captured.toList.map ρ=captured.toList.map ρ':=List.map_congr_left fun x hx=>h x (by simp;exact .inr (by simpa using hx))
  cases fn<;>simp only [this]
 case call c=>
  have:c.args.toList.map ρ=c.args.toList.map ρ':=List.map_congr_left fun x hx=>h x (by simp [Call.operands];exact .inr (by simpa using hx))
  cases hc:c.callee with
  |value f=>simp only [this,h f (by simp [Call.operands,hc])]
  |builtin b=>simp only [this]
  |invoke r m=>rfl
theorem eff_nomem (h:isMem o.op=false):eff P Φ na dr ρ bx n o=eff P Φ na dr ρ bx' n o:=by
 unfold eff
 cases ho:o.op<;>rw [ho] at h<;>simp [isMem] at h<;>first|rfl|(rename_i fn _ _;cases fn<;>rfl)
theorem freeze_upd:∀(p:List Nat) {u:List (Nat×Box)},freeze bx dr p=some u→∀x ∈ u,dr=false∧bx x.1≠ .unborn
 |[],u,h=>by simp [freeze] at h;subst h;simp
 |i::p,u,h=>by
  unfold freeze at h
  split at h
  ·exact freeze_upd p h
  ·rename_i T l hi
   split at h
   ·cases h
   ·rename_i hd
    split at h
    ·rename_i u' hu'
     cases h
     intro x hx
     rcases List.mem_cons.1 hx with rfl|hx
     ·exact ⟨by simpa using hd,by rw [hi];simp⟩
     ·exact freeze_upd p hu' x hx
    ·cases h
  ·cases h
theorem ownIds_arena:∀{p:List Nat},ownIds na bx p=true→∀i ∈ p,bx i= .arena
 |[],_,i,hi=>by simp at hi
 |j::p,h,i,hi=>by
  unfold ownIds at h
  simp only [Bool.and_eq_true,decide_eq_true_eq] at h
  rcases List.mem_cons.1 hi with rfl|hi
  ·have:=h.1.2
   split at this
   ·assumption
   ·cases this
  ·exact ownIds_arena h.2 i hi
theorem handOf_live {c:AV} {b:Nat} {T:TypeId} {L:List Nat} {lo len:Nat} (h:handOf bx c=some (b,T,L,lo,len)):bx b= .digs T L:=by
 unfold handOf at h
 split at h
 ·split at h
  ·rename_i e;cases h;exact e
  ·cases h
 ·split at h
  ·rename_i e;cases h;exact e
  ·cases h
 ·cases h
theorem eff_upd (he:eff P Φ na dr ρ bx n o=some e):∀x ∈ e.upd,(x.1=n∧allocates o.op=true)∨((isStore o.op=true∨dr=false)∧bx x.1≠ .unborn):=by
 unfold eff at he
 cases ho:o.op<;>rw [ho] at he<;>simp only at he
 case call c=>
  cases hc:c.callee with
  |value f=>
   simp only [hc] at he
   split at he
   ·split at he
    ·rename_i e' he'
     cases he
     unfold handEff at he'
     split at he'
     ·cases he'
     split at he'
     ·cases he'
     rename_i b T L lo len hh
     split at he'
     ·cases he'
     split at he'
     ·cases he'
     split at he'
     ·cases he'
     rename_i hdr
     simp only [Bool.or_eq_true,not_or,Bool.not_eq_true] at hdr
     have hbx:bx b≠ .unborn:=by rw [handOf_live hh];simp
     split at he'
     ·cases he'
      intro x hx
      simp at hx
      rcases hx with rfl|rfl
      ·exact .inl ⟨rfl,by simp [allocates,hc]⟩
      ·exact .inr ⟨.inr hdr.1,hbx⟩
     ·split at he'
      ·cases he'
       intro x hx
       simp at hx
       rcases hx with rfl|rfl
       ·exact .inr ⟨.inr hdr.1,hbx⟩
       ·exact .inl ⟨rfl,by simp [allocates,hc]⟩
      ·cases he'
     ·cases he'
    unfold callEff at he
    split at he
    ·cases he
    ·split at he
     ·cases he
     ·split at he
      ·split at he
       ·rename_i hown
        cases he
        simp only [Bool.and_eq_true,Bool.not_eq_true'] at hown
        intro x hx
        obtain ⟨i,hi,rfl⟩:=List.mem_map.1 hx
        exact .inr ⟨.inr hown.1,by rw [ownIds_arena hown.2 i hi];simp⟩
       ·cases he
      ·split at he
       ·cases he
        intro x hx
        simp at hx
        subst hx
        exact .inl ⟨rfl,by simp [allocates,hc]⟩
       ·cases he
       split at he
       ·cases he
       ·rename_i u hu
        cases he
        intro x hx
        rcases List.mem_cons.1 hx with rfl|hx
        ·exact .inl ⟨rfl,by simp [allocates,hc]⟩
        ·obtain ⟨h1,h2⟩:=freeze_upd _ hu x hx
         exact .inr ⟨.inr h1,h2⟩
   ·cases he
  |builtin b=>
   simp only [hc] at he
   unfold builtinEff at he
   cases b<;>simp only at he<;>try cases he
   case append=>
    split at he
    ·split at he
     ·unfold appendEff at he
      split at he
      ·split at he
       ·split at he
        ·cases he;intro x hx;simp at hx;subst hx;exact .inl ⟨rfl,by simp [allocates,hc]⟩
        ·cases he
       ·cases he
      ·split at he
       ·rename_i hb _
        split at he
        ·cases he
         intro x hx
         simp at hx
         rcases hx with rfl|rfl
         ·exact .inr ⟨.inl (by simp [isStore,hc]),by rw [hb];simp⟩
         ·exact .inl ⟨rfl,by simp [allocates,hc]⟩
        ·cases he
       ·cases he
      ·cases he
     ·cases he
    ·cases he
   case len=>
    split at he
    ·unfold lenEff at he
     (repeat' split at he)<;>cases he<;>simp
    ·cases he
   case max=>
    split at he
    ·unfold maxEff at he
     (repeat' split at he)<;>cases he<;>simp
    ·cases he
   case min=>
    split at he
    ·unfold minEff at he
     (repeat' split at he)<;>cases he<;>simp
    ·cases he
  |invoke r m=>simp only [hc] at he;cases he
 case store t x y=>
  split at he
  ·split at he
   ·rename_i hb
    split at he
    ·split at he
     ·cases he;intro x hx;simp at hx;subst hx;exact .inr ⟨.inl rfl,by rw [hb];simp⟩
     ·cases he
    ·cases he
   ·rename_i hb
    split at he
    ·cases he;intro x hx;simp at hx;subst hx;exact .inr ⟨.inl rfl,by rw [hb];simp⟩
    ·cases he
   ·cases he
  ·cases he
 case makeFunc fn first captured=>
  cases fn<;>simp only at he
  case func f=>
   split at he
   ·cases he;simp
   ·cases he
  all_goals cases he
 case binOp op t x y t'=>
  split at he
  ·cases he;simp
  ·rw [aggEff_upd he];simp
 all_goals
  (repeat' split at he)<;>cases he<;>simp [allocates]
end
end Go.AI

namespace Go.AI
open Go Go.RowKit
set_option linter.unusedVariables false
set_option linter.unusedSimpArgs false
theorem shareV_inst:∀{v:AV} {k:AV→Prop},shareV v k→k v
 | .dig p l,k,h=>h l rfl
 | .num kd n,k,h=>h n rfl
 | .bool b,k,h=>h b rfl
 | .junk,k,h=>h
 | .nilS,k,h=>h
 | .vec ..,k,h=>h
 | .agg _,k,h=>h
 | .tup _,k,h=>h
 | .addr ..,k,h=>h
 | .own _,k,h=>h
 | .cref ..,k,h=>h
 | .fn ..,k,h=>h
 | .grown ..,k,h=>h
 | .boxv _,k,h=>h
 | .hand ..,k,h=>h
 | .handv ..,k,h=>h
 | .avec ..,k,h=>h
theorem shareVs_inst:∀{l:List AV} {k:List AV→Prop},shareVs l k→k l
 |[],_,h=>h
 |v::l,k,h=>shareVs_inst (l:=l) (k:=fun l'=>k (v::l')) (shareV_inst (v:=v) (k:=fun v'=>shareVs l fun l'=>k (v'::l')) h)
theorem shareW_inst {v:AV} {k:AV→Prop} (h:shareW v k):k v:=by
 unfold shareW at h
 split at h
 ·exact shareVs_inst h
 ·exact shareV_inst h
theorem shareWs_inst:∀{l:List AV} {k:List AV→Prop},shareWs l k→k l
 |[],_,h=>h
 |v::l,k,h=>shareWs_inst (l:=l) (k:=fun l'=>k (v::l')) (shareW_inst (v:=v) (k:=fun v'=>shareWs l fun l'=>k (v'::l')) h)
theorem share_inst {v:AV} {k:AV→Prop} (h:share v k):k v:=by
 unfold share at h
 split at h
 ·exact shareVs_inst h
 ·exact shareWs_inst h
 ·exact h
theorem stepK_inst {b c:Bool} {e:Eff} {k:Eff→Prop} (h:cond b (share e.val fun v=>k ⟨e.pre,v,e.upd⟩) (cond c (shareV e.val fun v=>k ⟨e.pre,v,e.upd⟩) (k e))):k e:=by
 cases b
 ·cases c
  ·exact h
  ·exact shareV_inst (k:=fun v=>k ⟨e.pre,v,e.upd⟩) h
 ·exact share_inst (k:=fun v=>k ⟨e.pre,v,e.upd⟩) h
theorem andO_split {p:Option Prop} {q:Prop} (h:andO p q):andO p True∧q:=by
 cases p with
 |none=>exact ⟨trivial,h⟩
 |some p=>exact ⟨⟨h.1,trivial⟩,h.2⟩
theorem setBoxes_length:∀(u:List (Nat×Box)) (bs:List Box),(setBoxes bs u).length=bs.length
 |[],_=>rfl
 |(i,b)::u,bs=>by simp [setBoxes,setBoxes_length u]
theorem setBoxes_other:∀(u:List (Nat×Box)) (bs:List Box) (j:Nat),(∀x ∈ u,x.1≠j)→(setBoxes bs u).getD j .unborn=bs.getD j .unborn
 |[],_,_,_=>rfl
 |(i,b)::u,bs,j,h=>by
  simp only [setBoxes]
  rw [setBoxes_other u _ j (fun x hx=>h x (by simp [hx]))]
  have hij:i≠j:=h (i,b) (by simp)
  simp [List.getD,List.getElem?_set,hij]
theorem St.box_put (σ:St) (d:Option Tmp) (v:AV):(σ.put d v).box=σ.box:=by cases d<;>rfl
theorem St.boxes_put (σ:St) (d:Option Tmp) (v:AV):(σ.put d v).boxes=σ.boxes:=by cases d<;>rfl
theorem St.boxes_apply (σ:St) (d:Option Tmp) (e:Eff):(σ.apply d e).boxes=setBoxes σ.boxes e.upd:=by simp only [St.apply,St.boxes_put]
section
variable {P:Program} {Inv:World→Prop} {na:Nat} {β0:Nat→Nat→Prop} {w0:World} {σ:St} {β:Nat→Nat→Prop} {a:Act} {w:World} {Φ:Nat→List AV→Option Spec} {ops:Array Oper}
def Ready (na:Nat) (σ:St) (m:Nat) (L:List Oper):Prop:=na<m∧(∀i,m≤i→σ.box i= .unborn)∧m+countAllocs L≤σ.boxes.length
theorem R.put_same (h:R na β0 w0 σ β a w) {d:Nat} {b:Bool} (hd:σ.tmps.getD d .junk= .bool b):σ.put (some d) (.bool b)=σ∧a.tmps[d]? =some (.bool b):=by
 have hs:σ.tmps[d]? =some (.bool b):=by
  cases hc:σ.tmps[d]? with
  |none=>simp [List.getD,hc] at hd
  |some c=>simp [List.getD,hc] at hd;rw [hd]
 refine ⟨?_,?_⟩
 ·have hlt:d<σ.tmps.length:=(List.getElem?_eq_some_iff.1 hs).1
  have:σ.tmps.set d (.bool b)=σ.tmps:=by
   apply List.ext_getElem?
   intro j
   rw [List.getElem?_set]
   split
   ·rename_i e;subst e;simp [hlt,hs]
    have:=List.getElem?_eq_some_iff.1 hs
    exact this.2.symm
   ·rfl
  show ({σ with tmps:=σ.tmps.set d (.bool b)}:St)=σ
  rw [this]
 ·obtain ⟨v,h1,h2⟩:=h.tmps.get hs
  have:=h2.bool_inv
  subst this
  simpa using h1
theorem wanted_of (h:R na β0 w0 σ β a w) {j d:Nat} {b want:Bool} {o:Oper} (hg:o.guard=some (j,want)) (hj:(ops[j]?).bind (·.dst)=some d) (hd:σ.tmps.getD d .junk= .bool b):
  Region.wanted o (yielded ops a.tmps)=(b==want):=by
 obtain ⟨_,h2⟩:=h.put_same hd
 simp only [Region.wanted,hg,yielded,hj,Option.bind_some,h2]
 cases b<;>cases want<;>rfl
theorem V_undef {C:Ctx}:V C (.tup []) undef:=by simp only [V];exact ⟨[],rfl,by simp only [Vs]⟩
theorem unwanted_of (h:R na β0 w0 σ β a w) {j d:Nat} {want:Bool} {o:Oper} (hg:o.guard=some (j,want)) (hj:(ops[j]?).bind (·.dst)=some d) (hd:σ.tmps.getD d .junk= .tup []):
  Region.wanted o (yielded ops a.tmps)=false:=by
 have hs:σ.tmps[d]? =some (.tup []):=by
  cases hc:σ.tmps[d]? with
  |none=>simp [List.getD,hc] at hd
  |some c=>simp [List.getD,hc] at hd;rw [hd]
 obtain ⟨v,h1,h2⟩:=h.tmps.get hs
 simp only [V] at h2
 obtain ⟨vs,rfl, -⟩:=h2
 have h1':a.tmps[d]? =some (.tuple vs.toArray):=by simpa using h1
 simp only [Region.wanted,hg,yielded,hj,Option.bind_some,h1']
 rfl
theorem step_sound (hR:R na β0 w0 σ β a w) (hInv:Inv w) (hΦ:PhiOk P Inv Φ) {F:(Nat→Box)→Nat→Box} {x:Nat×Oper} {k:St→Prop} (h:stepK P Φ na false F σ x k) (hn:allocates x.2.op=true→Free na σ x.1):
  ∃e,eff P Φ na false σ.eval σ.box x.1 x.2=some e∧andO e.pre True∧k (σ.apply x.2.dst e)∧StepOk P na β0 w0 (σ.apply x.2.dst e) x.2 a w:=by
 unfold stepK at h
 split at h
 ·rename_i e he
  obtain ⟨h1,h2⟩:=andO_split h
  refine ⟨e,he,h1,stepK_inst (k:=fun e=>k (σ.apply x.2.dst e)) h2,?_⟩
  exact eff_sound hR (Sub.refl _) hInv hΦ he h1 hn
 ·exact h.elim
theorem Ready.step {m:Nat} {o:Oper} {L:List Oper} (h:Ready na σ m (o::L)) {bx:Nat→Box} (hb:Sub bx σ.box) {dr:Bool} {e:Eff} (he:eff P Φ na dr σ.eval bx m o=some e):
  Ready na (σ.apply o.dst e) (if allocates o.op then m+1 else m) L:=by
 obtain ⟨h1,h2,h3⟩:=h
 have hu:=eff_upd he
 have hlen:(σ.apply o.dst e).boxes.length=σ.boxes.length:=by rw [St.boxes_apply,setBoxes_length]
 refine ⟨by split<;>omega,fun i hi=> ?_,?_⟩
 ·have hmi:m≤i:=by split at hi<;>omega
  show List.getD _ _ _=_
  rw [St.boxes_apply,setBoxes_other]
  ·exact h2 i hmi
  ·intro x hx e'
   rcases hu x hx with ⟨q1,q2⟩|⟨_,q2⟩
   ·rw [q2] at hi;simp at hi;omega
   ·rcases hb x.1 with h'|h'
    ·exact q2 h'
    ·rw [e'] at h';rw [h2 i hmi] at h';exact q2 (e' ▸ h')
 ·rw [hlen]
  simp only [countAllocs] at h3
  split<;>rename_i ha<;>simp [ha] at h3<;>omega
theorem Ready.free {m:Nat} {o:Oper} {L:List Oper} (h:Ready na σ m (o::L)) (ha:allocates o.op=true):Free na σ m:=
 ⟨h.1,by have:=h.2.2;simp [countAllocs,ha] at this;omega,h.2.1 m (Nat.le_refl _)⟩
theorem Ready.put {m:Nat} {o:Oper} {L:List Oper} (h:Ready na σ m (o::L)) (d:Option Tmp) (v:AV):Ready na (σ.put d v) (if allocates o.op then m+1 else m) L:=by
 obtain ⟨h1,h2,h3⟩:=h
 refine ⟨by split<;>omega,fun i hi=> ?_,?_⟩
 ·rw [St.box_put];exact h2 i (by split at hi<;>omega)
 ·rw [St.boxes_put]
  simp only [countAllocs] at h3
  split<;>rename_i ha<;>simp [ha] at h3<;>omega
theorem evR_seq (hΦ:PhiOk P Inv Φ) (hGrow:∀w',GrowS (β0 (na+1)) w0 w'→Inv w') {Q:Exit→Act→World→Prop} {K:St→Prop}
  (hK:∀σ β a w,R na β0 w0 σ β a w→K σ→Q .normal a w) (lim:Nat):∀(L:List Oper) (m:Nat) (σ:St) (β:Nat→Nat→Prop) (a:Act) (w:World),R na β0 w0 σ β a w→Ready na σ m L→
  evR P Φ na false none lim ops (number m L) σ K→wpList P ops Q L a w
 |[],m,σ,β,a,w,hR,_,h=>hK σ β a w hR h
 |o::L,m,σ,β,a,w,hR,hrd,h=>by
  have hInv:Inv w:=hGrow _ hR.grow
  simp only [number,evR] at h
  have take:∀{k},stepK P Φ na false (eyes none lim ops o) σ (m,o) k→(∀σ',k σ'→evR P Φ na false none lim ops (number (if allocates o.op then m+1 else m) L) σ' K)→Region.wanted o (yielded ops a.tmps)=true→wpList P ops Q (o::L) a w:=by
   intro k hs hk hw
   obtain ⟨e,he,_,h2,h3⟩:=step_sound hR hInv hΦ hs (fun ha=>hrd.free ha)
   unfold wpList
   rw [if_pos hw]
   refine .inl (h3 _ _ fun β' a' w' hR'=> ?_)
   exact evR_seq hΦ hGrow hK lim L _ _ β' a' w' hR' (hrd.step (Sub.refl _) he) (hk _ h2)
  have pass:evR P Φ na false none lim ops (number (if allocates o.op then m+1 else m) L) (σ.put o.dst (.tup [])) K→Region.wanted o (yielded ops a.tmps)=false→wpList P ops Q (o::L) a w:=by
   intro hs hw
   unfold wpList
   rw [if_neg (by simp [hw])]
   exact evR_seq hΦ hGrow hK lim L _ _ β _ w (hR.put o.dst V_undef) (hrd.put _ _) hs
  split at h
  ·rename_i hg
   exact take h (fun _ h=>h) (by simp [Region.wanted,hg])
  ·rename_i j want hg
   split at h
   ·exact h.elim
   ·rename_i d hj
    split at h
    ·rename_i b hd
     have hw:=wanted_of (ops:=ops) hR hg hj hd
     obtain ⟨hput,_⟩:=hR.put_same hd
     cases b<;>simp only [cond_true,cond_false] at h<;>rw [hput] at h<;>cases want<;>simp only [cond_true,cond_false] at h
     ·exact take h (fun _ h=>h) hw
     ·exact pass h hw
     ·exact pass h hw
     ·exact take h (fun _ h=>h) hw
    ·rename_i hd
     exact pass h (unwanted_of hR hg hj hd)
    ·exact h.elim
end
end Go.AI

namespace Go.AI
open Go Go.RowKit
set_option linter.unusedVariables false
set_option linter.unusedSimpArgs false
section
variable {P:Program} {Inv:World→Prop} {na:Nat} {β0:Nat→Nat→Prop} {w0:World} {σ:St} {β:Nat→Nat→Prop} {a:Act} {w:World} {Φ:Nat→List AV→Option Spec} {ops:Array Oper} {ban:Option (List Nat)}
def lookBox (ban:Option (List Nat)) (ops:Array Oper) (lim:Nat) (σ:St) (o:Oper):Nat→Box:=eyes ban lim ops o σ.box
def Does (P:Program) (Φ:Nat→List AV→Option Spec) (na:Nat) (ban:Option (List Nat)) (ops:Array Oper) (lim:Nat) (σ:St) (x:Nat×Oper) (σ':St):Prop:=
 ∃e,eff P Φ na true σ.eval (lookBox ban ops lim σ x.2) x.1 x.2=some e∧andO e.pre True∧σ'=σ.apply x.2.dst e
def Goes (v:AV) (want go:Bool):Prop:=(∃b,v= .bool b∧go=(b==want))∨(v= .tup []∧go=false)
def StepR (P:Program) (Φ:Nat→List AV→Option Spec) (na:Nat) (ban:Option (List Nat)) (ops:Array Oper) (lim:Nat) (σ:St) (x:Nat×Oper) (σ':St):Prop:=
 match x.2.guard with
 |none=>Does P Φ na ban ops lim σ x σ'
 |some (j,want)=>∃d b,(ops[j]?).bind (·.dst)=some d∧Goes (σ.tmps.getD d .junk) want b∧(if b=true then Does P Φ na ban ops lim σ x σ' else σ'=σ.put x.2.dst (.tup []))
def Runs (P:Program) (Φ:Nat→List AV→Option Spec) (na:Nat) (ban:Option (List Nat)) (ops:Array Oper) (lim:Nat):List (Nat×Oper)→St→St→Prop
 |[],σ,σ'=>σ'=σ
 |x::L,σ,σ'=>∃σ1,StepR P Φ na ban ops lim σ x σ1∧Runs P Φ na ban ops lim L σ1 σ'
theorem put_self {σ:St} {d:Nat} {b:Bool} (hd:σ.tmps.getD d .junk= .bool b):σ.put (some d) (.bool b)=σ:=by
 have hs:σ.tmps[d]? =some (.bool b):=by
  cases hc:σ.tmps[d]? with
  |none=>simp [List.getD,hc] at hd
  |some c=>simp [List.getD,hc] at hd;rw [hd]
 have hlt:d<σ.tmps.length:=(List.getElem?_eq_some_iff.1 hs).1
 have:σ.tmps.set d (.bool b)=σ.tmps:=by
  apply List.ext_getElem?
  intro j
  rw [List.getElem?_set]
  split
  ·rename_i e;subst e;simp [hlt]
   have:=List.getElem?_eq_some_iff.1 hs
   exact this.2.symm
  ·rfl
 show ({σ with tmps:=σ.tmps.set d (.bool b)}:St)=σ
 rw [this]
theorem does_of_stepK {lim:Nat} {x:Nat×Oper} {k:St→Prop} (h:stepK P Φ na true (eyes ban lim ops x.2) σ x k):∃σ',Does P Φ na ban ops lim σ x σ'∧k σ':=by
 unfold stepK at h
 split at h
 ·rename_i e he
  obtain ⟨h1,h2⟩:=andO_split h
  refine ⟨_,⟨e,?_,h1,rfl⟩,stepK_inst (k:=fun e=>k (σ.apply x.2.dst e)) h2⟩
  exact he
 ·exact h.elim
theorem runs_of_evR {lim:Nat} {K:St→Prop}:∀(L:List (Nat×Oper)) (σ:St),evR P Φ na true ban lim ops L σ K→∃σ',Runs P Φ na ban ops lim L σ σ'∧K σ'
 |[],σ,h=>⟨σ,rfl,h⟩
 |x::L,σ,h=>by
  simp only [evR] at h
  split at h
  ·rename_i hg
   obtain ⟨σ1,h1,h2⟩:=does_of_stepK h
   obtain ⟨σ2,h3,h4⟩:=runs_of_evR L σ1 h2
   exact ⟨σ2,⟨σ1,by unfold StepR;rw [hg];exact h1,h3⟩,h4⟩
  ·rename_i j want hg
   split at h
   ·exact h.elim
   ·rename_i d hj
    split at h
    ·rename_i b hd
     have hput:=put_self hd
     have take:stepK P Φ na true (eyes ban lim ops x.2) σ x (fun σ'=>evR P Φ na true ban lim ops L σ' K)→b=want→∃σ',Runs P Φ na ban ops lim (x::L) σ σ'∧K σ':=by
      intro hs hb
      obtain ⟨σ1,h1,h2⟩:=does_of_stepK hs
      obtain ⟨σ2,h3,h4⟩:=runs_of_evR L σ1 h2
      refine ⟨σ2,⟨σ1,?_,h3⟩,h4⟩
      unfold StepR
      rw [hg]
      exact ⟨d,true,hj,.inl ⟨b,hd,by simp [hb]⟩,by rw [if_pos rfl];exact h1⟩
     have pass:evR P Φ na true ban lim ops L (σ.put x.2.dst (.tup [])) K→b≠want→∃σ',Runs P Φ na ban ops lim (x::L) σ σ'∧K σ':=by
      intro hs hb
      obtain ⟨σ2,h3,h4⟩:=runs_of_evR L _ hs
      refine ⟨σ2,⟨_,?_,h3⟩,h4⟩
      unfold StepR
      rw [hg]
      exact ⟨d,false,hj,.inl ⟨b,hd,by simp [hb]⟩,by rw [if_neg (by simp)]⟩
     cases b<;>simp only [cond_true,cond_false] at h<;>rw [hput] at h<;>cases want<;>simp only [cond_true,cond_false] at h
     ·exact take h rfl
     ·exact pass h (by simp)
     ·exact pass h (by simp)
     ·exact take h rfl
    ·rename_i hd
     obtain ⟨σ2,h3,h4⟩:=runs_of_evR L _ h
     refine ⟨σ2,⟨_,?_,h3⟩,h4⟩
     unfold StepR
     rw [hg]
     exact ⟨d,false,hj,.inr ⟨hd,rfl⟩,by rw [if_neg (by simp)]⟩
    ·exact h.elim
theorem eval_put {σ:St} {dst:Option Tmp} {v:AV} {x:Operand} (h:∀d,dst=some d→x≠ .tmp d):(σ.put dst v).eval x=σ.eval x:=by
 cases dst with
 |none=>rfl
 |some d=>
  cases x with
  |tmp t=>
   have hne:d≠t:=fun e=>h d rfl (e ▸ rfl)
   show (σ.tmps.set d v).getD t .junk=σ.tmps.getD t .junk
   simp [List.getD,List.getElem?_set,hne]
  |_=>rfl
theorem eval_boxes (σ:St) (bs:List Box) (x:Operand):St.eval {σ with boxes:=bs} x=σ.eval x:=by cases x<;>rfl
theorem eval_apply {σ:St} {dst:Option Tmp} {e:Eff} {x:Operand} (h:∀d,dst=some d→x≠ .tmp d):(σ.apply dst e).eval x=σ.eval x:=by
 unfold St.apply
 rw [eval_put h,eval_boxes]
theorem tmp_put {σ:St} {dst:Option Tmp} {v:AV} {d:Nat} (h:dst≠some d):(σ.put dst v).tmps.getD d .junk=σ.tmps.getD d .junk:=by
 cases dst with
 |none=>rfl
 |some t=>
  have hne:t≠d:=fun e=>h (e ▸ rfl)
  show (σ.tmps.set t v).getD d .junk=σ.tmps.getD d .junk
  simp [List.getD,List.getElem?_set,hne]
theorem tmp_apply {σ:St} {dst:Option Tmp} {e:Eff} {d:Nat} (h:dst≠some d):(σ.apply dst e).tmps.getD d .junk=σ.tmps.getD d .junk:=by
 unfold St.apply
 rw [tmp_put h]
theorem put_comm {σ:St} {x y:Option Tmp} (u v:AV) (h:∀d,x=some d→y≠some d):(σ.put x u).put y v=(σ.put y v).put x u:=by
 cases x with
 |none=>cases y<;>rfl
 |some d=>
  cases y with
  |none=>rfl
  |some t=>
   have hne:d≠t:=fun e=>h d rfl (e ▸ rfl)
   show ({σ with tmps:=(σ.tmps.set d u).set t v}:St)={σ with tmps:=(σ.tmps.set t v).set d u}
   rw [List.set_comm _ _ hne]
theorem put_boxes (σ:St) (x:Option Tmp) (u:AV) (bs:List Box):St.put {σ with boxes:=bs} x u={σ.put x u with boxes:=bs}:=by cases x<;>rfl
theorem setBoxes_comm:∀(u v:List (Nat×Box)) (bs:List Box),(∀x ∈ u,∀y ∈ v,x.1≠y.1)→setBoxes (setBoxes bs u) v=setBoxes (setBoxes bs v) u
 |[],v,bs,_=>rfl
 |(i,b)::u,v,bs,h=>by
  have one:∀(v:List (Nat×Box)) (bs:List Box),(∀y ∈ v,i≠y.1)→setBoxes (bs.set i b) v=(setBoxes bs v).set i b:=by
   intro v
   induction v with
   |nil=>intro bs _;rfl
   |cons y v ih=>
    intro bs hv
    obtain ⟨j,c⟩:=y
    simp only [setBoxes]
    have hij:i≠j:=hv (j,c) (by simp)
    rw [List.set_comm _ _ hij,ih _ (fun y hy=>hv y (by simp [hy]))]
  simp only [setBoxes]
  rw [setBoxes_comm u v _ (fun x hx y hy=>h x (by simp [hx]) y hy),one v bs (fun y hy=>h (i,b) (by simp) y hy)]
theorem apply_comm {σ:St} {x y:Option Tmp} {e f:Eff} (h:∀d,x=some d→y≠some d) (hu:∀p ∈ e.upd,∀q ∈ f.upd,p.1≠q.1):(σ.apply x e).apply y f=(σ.apply y f).apply x e:=by
 simp only [St.apply,put_boxes,St.boxes_put]
 have:=put_comm (σ:=σ) e.val f.val h
 rw [setBoxes_comm _ _ _ hu]
 cases x<;>cases y<;>simp_all [St.put]
def sights (ban:Option (List Nat)) (lim:Nat) (ops:Array Oper) (o:Oper) (i:Nat):Bool:=bif tame ban o then decide (i<lim)||(vis lim ops o).contains i else sees ban lim ops o i
theorem eyes_congr {lim:Nat} {o:Oper} {f g:Nat→Box} (h:∀i,sights ban lim ops o i=true→f i=g i):eyes ban lim ops o f=eyes ban lim ops o g:=by
 funext i
 have hi:=h i
 unfold sights at hi
 unfold eyes
 cases ht:tame ban o with
 |true=>
  rw [ht] at hi
  simp only [cond_true] at hi ⊢
  cases hl:decide (i<lim) with
  |true=>rw [hl] at hi;rw [hi rfl]
  |false=>
   rw [hl] at hi
   cases hv:(vis lim ops o).contains i with
   |true=>rw [hv] at hi;simp only [cond_false,cond_true];exact hi rfl
   |false=>rfl
 |false=>
  rw [ht] at hi
  simp only [cond_false] at hi ⊢
  unfold mask
  split
  ·rename_i hs;exact hi hs
  ·rfl
theorem eyes_sub {lim:Nat} {o:Oper} {f:Nat→Box}:Sub (eyes ban lim ops o f) f:=by
 intro i
 unfold eyes
 cases ht:tame ban o with
 |true=>
  simp only [cond_true]
  cases hl:decide (i<lim) with
  |true=>
   simp only [cond_true]
   split
   ·rename_i e;exact .inr e.symm
   ·exact .inl rfl
  |false=>
   simp only [cond_false]
   cases hv:(vis lim ops o).contains i with
   |true=>exact .inr rfl
   |false=>exact .inl rfl
 |false=>exact Sub.mask _ _ i
theorem box_apply {σ:St} {dst:Option Tmp} {e:Eff} {j:Nat} (h:∀x ∈ e.upd,x.1≠j):(σ.apply dst e).box j=σ.box j:=by
 show List.getD _ _ _=List.getD _ _ _
 rw [St.boxes_apply,setBoxes_other _ _ _ h]
def hits (ban:Option (List Nat)) (lim:Nat) (ops:Array Oper) (s:Oper) (i:Nat):Prop:=if tame ban s=true then i ∈ vis lim ops s else sees ban lim ops s i=true
def Skips (ban:Option (List Nat)) (ops:Array Oper) (lim:Nat) (s m:Oper):Prop:=(loose ops s=true∨sharp ban ops s=true∨tame ban s=true)∧isStore m.op=false∧∀i,hits ban lim ops s i→sights ban lim ops m i=false
structure Indep (ban:Option (List Nat)) (ops:Array Oper) (lim:Nat) (x y:Nat×Oper):Prop where
 apart:x.2.apart ops y.2=true
 mem:(isStore x.2.op=true→isMem y.2.op=true→Skips ban ops lim x.2 y.2)∧(isStore y.2.op=true→isMem x.2.op=true→Skips ban ops lim y.2 x.2)
 lx:lim≤x.1
 ly:lim≤y.1
 ne:allocates x.2.op=true→allocates y.2.op=true→x.1≠y.1
 seen:(allocates x.2.op=true→x.1 ∉ vis lim ops y.2)∧(allocates y.2.op=true→y.1 ∉ vis lim ops x.2)
theorem Indep.symm {lim:Nat} {x y:Nat×Oper} (h:Indep ban ops lim x y):Indep ban ops lim y x:=by
 refine ⟨?_,⟨h.mem.2,h.mem.1⟩,h.ly,h.lx,fun a b e=>h.ne b a e.symm,h.seen.2,h.seen.1⟩
 obtain ⟨h1,h2,h3⟩:=Oper.apart_spec h.apart
 unfold Oper.apart
 simp only [Bool.and_eq_true]
 refine ⟨?_,?_⟩
 ·cases hd:y.2.dst with
  |none=>rfl
  |some d=>
   simp only [Bool.and_eq_true,Bool.not_eq_true',bne_iff_ne,ne_eq]
   exact ⟨by simpa using h3 d hd,fun e=>h2 d e hd⟩
 ·cases hd:x.2.dst with
  |none=>rfl
  |some d=>simpa using h1 d hd
theorem isStore_isMem {op:Op} (h:isStore op=true):isMem op=true:=by
 cases op<;>simp [isStore] at h<;>rfl
theorem alloc_isMem {op:Op} (h:allocates op=true):isMem op=true:=by
 cases op<;>simp [allocates] at h<;>rfl
theorem operand_look {o:Oper} {t:Nat} (h:Operand.tmp t ∈ o.op.operands):t ∈ o.looksAt ops:=by
 simp only [Oper.looksAt,List.mem_append,List.mem_filterMap]
 exact .inl ⟨.tmp t,by simpa using h,rfl⟩
theorem number_get:∀(l:List Oper) (m i:Nat) (x:Nat×Oper),(number m l)[i]? =some x→l[i]? =some x.2∧m≤x.1
 |[],m,i,x,h=>by simp [number] at h
 |o::l,m,0,x,h=>by simp [number] at h;subst h;simp
 |o::l,m,i+1,x,h=>by
  simp only [number,List.getElem?_cons_succ] at h
  obtain ⟨h1,h2⟩:=number_get l _ i x h
  refine ⟨by simpa using h1,?_⟩
  split at h2<;>omega
theorem number_lt:∀(l:List Oper) (m:Nat) (i j:Nat) (x y:Nat×Oper),i<j→(number m l)[i]? =some x→(number m l)[j]? =some y→allocates x.2.op=true→x.1<y.1:=by
 intro l
 induction l with
 |nil=>intro m i j x y _ h;simp [number] at h
 |cons o l ih=>
  intro m i j x y hij hx hy ha
  obtain ⟨j,rfl⟩:∃j',j=j'+1:=⟨j-1,by omega⟩
  simp only [number,List.getElem?_cons_succ] at hy
  cases i with
  |zero=>
   simp only [number,List.getElem?_cons_zero,Option.some.injEq] at hx
   subst hx
   have:=(number_get l _ j y hy).2
   rw [if_pos ha] at this
   simp only at this ⊢
   omega
  |succ i=>
   simp only [number,List.getElem?_cons_succ] at hx
   exact ih _ i j x y (by omega) hx hy ha
theorem vis_num {lim n:Nat} {o:Oper} (h:n ∈ vis lim ops o):∃i z,i ∈ reach ops 12 o∧(number lim ops.toList)[i]? =some z∧allocates z.2.op=true∧z.1=n:=by
 unfold vis at h
 rw [List.mem_filterMap] at h
 obtain ⟨i,hi,hz⟩:=h
 split at hz
 ·rename_i z hz'
  split at hz
  ·rename_i ha
   cases hz
   exact ⟨i,z,hi,hz',ha,rfl⟩
  ·cases hz
 ·cases hz
theorem vis_at {lim:Nat} {o:Oper} {y:Nat×Oper} {j:Nat} (hy:(number lim ops.toList)[j]? =some y) (ha:allocates y.2.op=true) (h:y.1 ∈ vis lim ops o):j ∈ reach ops 12 o:=by
 obtain ⟨i,z,hi,hz,haz,hn⟩:=vis_num h
 by_cases c:i=j
 ·rw [←c];exact hi
 ·by_cases d:i<j
  ·have:=number_lt _ _ _ _ _ _ d hz hy haz;omega
  ·have:=number_lt _ _ _ _ _ _ (show j<i by omega) hy hz ha;omega
theorem tame_append {o:Oper} (h:tame ban o=true):∃c,o.op= .call c∧c.callee= .builtin .append:=by
 unfold tame at h
 simp only [Bool.and_eq_true] at h
 have h2:=h.2
 split at h2
 ·rename_i c ho
  split at h2
  ·rename_i hc
   exact ⟨c,ho,hc⟩
  ·cases h2
 ·cases h2
theorem tame_store {o:Oper} (h:tame ban o=true):isStore o.op=true:=by
 obtain ⟨c,h1,h2⟩:=tame_append h
 rw [h1]
 simp only [isStore,h2]
theorem tame_other {o:Oper} (h:isStore o.op=false):tame ban o=false:=by
 cases c:tame ban o with
 |false=>rfl
 |true=>rw [tame_store c] at h;cases h
theorem sees_other {lim i:Nat} {o:Oper} (h:isStore o.op=false):sees ban lim ops o i=true ↔ (i<lim∧i ∉ ban.getD [])∨i ∈ vis lim ops o:=by
 unfold sees
 rw [h]
 simp [List.contains_iff_mem]
theorem sees_loose {lim i:Nat} {o:Oper} (h:isStore o.op=true) (hl:loose ops o=true):(sees ban lim ops o i=true)=(i ∈ vis lim ops o):=by
 unfold sees
 rw [h,hl]
 simp [List.contains_iff_mem]
theorem sees_sharp {lim i:Nat} {o:Oper} (h:isStore o.op=true) (hl:loose ops o=false) (hs:sharp ban ops o=true):sees ban lim ops o i=true ↔ i<lim∧i ∈ ban.getD []:=by
 unfold sees
 rw [h,hl,hs]
 simp [List.contains_iff_mem]
theorem sights_of {lim i:Nat} {o:Oper} (hl:isStore o.op=true→loose ops o=true∨sharp ban ops o=true∨tame ban o=true) (hs:sights ban lim ops o i=true):i<lim∨i ∈ vis lim ops o:=by
 unfold sights at hs
 cases ht:tame ban o with
 |true=>
  rw [ht] at hs
  simpa [List.contains_iff_mem] using hs
 |false=>
  rw [ht] at hs
  replace hs:sees ban lim ops o i=true:=hs
  cases hst:isStore o.op with
  |false=>
   rcases (sees_other hst).1 hs with h|h
   ·exact .inl h.1
   ·exact .inr h
  |true=>
   cases c:loose ops o with
   |true=>rw [sees_loose hst c] at hs;exact .inr hs
   |false=>
    rcases hl hst with hl|hl|hl
    ·rw [c] at hl;cases hl
    ·exact .inl ((sees_sharp hst c hl).1 hs).1
    ·rw [ht] at hl;cases hl
theorem hits_of {lim i:Nat} {o:Oper} (hst:isStore o.op=true) (hl:loose ops o=true∨sharp ban ops o=true∨tame ban o=true) (hs:hits ban lim ops o i):i<lim∨i ∈ vis lim ops o:=by
 unfold hits at hs
 split at hs
 ·exact .inr hs
 ·rename_i ht
  refine sights_of (ban:=ban) (fun _=>hl) ?_
  unfold sights
  simp only [Bool.not_eq_true] at ht
  rw [ht]
  exact hs
theorem append_upd {n:Nat} {o:Oper} {c:Call} {dr:Bool} {ρ:Operand→AV} {bx:Nat→Box} {e:Eff} (h1:o.op= .call c) (h2:c.callee= .builtin .append) (he:eff P Φ na dr ρ bx n o=some e):∀x ∈ e.upd,x.1=n∨∃T l,bx x.1= .digs T l:=by
 unfold eff at he
 rw [h1] at he
 simp only [h2,builtinEff] at he
 split at he
 ·split at he
  ·unfold appendEff at he
   split at he
   ·split at he
    ·split at he
     ·cases he
      intro x hx
      simp at hx
      subst hx
      exact .inl rfl
     ·cases he
    ·cases he
   ·split at he
    ·rename_i T l e' hb _
     split at he
     ·cases he
      intro x hx
      simp at hx
      rcases hx with rfl|rfl
      ·exact .inr ⟨_,_,hb⟩
      ·exact .inl rfl
     ·cases he
    ·cases he
   ·cases he
  ·cases he
 ·cases he
theorem hit {lim:Nat} {σ:St} {x:Nat×Oper} {e:Eff} (he:eff P Φ na true σ.eval (lookBox ban ops lim σ x.2) x.1 x.2=some e):∀p ∈ e.upd,(p.1=x.1∧allocates x.2.op=true)∨(isStore x.2.op=true∧hits ban lim ops x.2 p.1):=by
 intro p hp
 rcases eff_upd he p hp with h|⟨u1|u1,u2⟩
 ·exact .inl h
 ·unfold hits
  cases ht:tame ban x.2 with
  |true=>
   obtain ⟨c,h1,h2⟩:=tame_append ht
   rcases append_upd h1 h2 he p hp with h3|⟨T,l,h3⟩
   ·refine .inl ⟨h3,?_⟩
    rw [h1]
    simp only [allocates,h2]
   ·refine .inr ⟨u1,?_⟩
    simp only [if_true]
    unfold lookBox eyes at h3
    rw [ht] at h3
    simp only [cond_true] at h3
    cases hl:decide (p.1<lim) with
    |true=>
     rw [hl] at h3
     simp only [cond_true] at h3
     split at h3<;>cases h3
    |false=>
     rw [hl] at h3
     simp only [cond_false] at h3
     cases hv:(vis lim ops x.2).contains p.1 with
     |true=>simpa [List.contains_iff_mem] using hv
     |false=>rw [hv] at h3;cases h3
  |false=>
   refine .inr ⟨u1,?_⟩
   simp only [Bool.false_eq_true,if_false]
   cases c:sees ban lim ops x.2 p.1 with
   |true=>rfl
   |false=>
    exfalso
    apply u2
    unfold lookBox eyes mask
    rw [ht]
    simp only [cond_false]
    rw [c]
    rfl
 ·cases u1
theorem Does.behind {lim:Nat} {x y:Nat×Oper} (hi:Indep ban ops lim x y) {σ:St} {e:Eff} (he:eff P Φ na true σ.eval (lookBox ban ops lim σ x.2) x.1 x.2=some e) (σ1:St) (hσ1:σ1=σ.apply x.2.dst e):
  eff P Φ na true σ1.eval (lookBox ban ops lim σ1 y.2) y.1 y.2=eff P Φ na true σ.eval (lookBox ban ops lim σ y.2) y.1 y.2:=by
 obtain ⟨h1,h2,h3⟩:=Oper.apart_spec hi.apart
 subst hσ1
 rw [eff_congr (ρ':=σ.eval) fun z hz=>eval_apply fun d hd e'=>by subst e';exact h1 d hd (operand_look hz)]
 by_cases hm:isMem y.2.op=true
 ·unfold lookBox
  rw [eyes_congr (g:=σ.box) fun i hil=>box_apply fun p hp e'=> ?_]
  rcases hit he p hp with ⟨u1,u2⟩|⟨u1,u2⟩
  ·have hlx:=hi.lx
   rw [u1] at e'
   rw [←e'] at hil
   rcases sights_of (fun hys=>(hi.mem.2 hys (alloc_isMem u2)).1) hil with h|h
   ·omega
   ·exact hi.seen.1 u2 h
  ·have h4:=(hi.mem.1 u1 hm).2.2 _ u2
   rw [e',hil] at h4
   cases h4
 ·exact eff_nomem (by simpa using hm)
theorem StepR.comm {lim:Nat} {x y:Nat×Oper} (hi:Indep ban ops lim x y) {σ σ1 σ2:St} (h1:StepR P Φ na ban ops lim σ x σ1) (h2:StepR P Φ na ban ops lim σ1 y σ2):
  ∃σ1',StepR P Φ na ban ops lim σ y σ1'∧StepR P Φ na ban ops lim σ1' x σ2:=by
 obtain ⟨q1,q2,q3⟩:=Oper.apart_spec hi.apart
 obtain ⟨p1,p2,p3⟩:=Oper.apart_spec hi.symm.apart
 have form:∀{z:Nat×Oper} {s s':St},StepR P Φ na ban ops lim s z s'→(∃e,eff P Φ na true s.eval (lookBox ban ops lim s z.2) z.1 z.2=some e∧andO e.pre True∧s'=s.apply z.2.dst e∧
    (∀t,(∀d,d ∈ z.2.looksAt ops→t.tmps.getD d .junk=s.tmps.getD d .junk)→∀t',Does P Φ na ban ops lim t z t'→StepR P Φ na ban ops lim t z t'))∨
   (s'=s.put z.2.dst (.tup [])∧∀t,(∀d,d ∈ z.2.looksAt ops→t.tmps.getD d .junk=s.tmps.getD d .junk)→StepR P Φ na ban ops lim t z (t.put z.2.dst (.tup []))):=by
  intro z s s' h
  unfold StepR at h
  split at h
  ·rename_i hg
   obtain ⟨e,he,hp,hs⟩:=h
   refine .inl ⟨e,he,hp,hs,fun t _ t' hd=> ?_⟩
   unfold StepR
   rw [hg]
   exact hd
  ·rename_i j want hg
   obtain ⟨d,b,hj,hd,hif⟩:=h
   have hlook:d ∈ z.2.looksAt ops:=by
    simp only [Oper.looksAt,List.mem_append,hg,hj]
    exact .inr (by simp)
   by_cases hb:b=true
   ·rw [if_pos hb] at hif
    obtain ⟨e,he,hp,hs⟩:=hif
    refine .inl ⟨e,he,hp,hs,fun t ht t' hdo=> ?_⟩
    unfold StepR
    rw [hg]
    exact ⟨d,b,hj,by rw [ht d hlook];exact hd,by rw [if_pos hb];exact hdo⟩
   ·rw [if_neg hb] at hif
    refine .inr ⟨hif,fun t ht=> ?_⟩
    unfold StepR
    rw [hg]
    exact ⟨d,b,hj,by rw [ht d hlook];exact hd,by rw [if_neg hb]⟩
 have lookX:∀(v:AV) (s:St),∀d,d ∈ x.2.looksAt ops→(s.put y.2.dst v).tmps.getD d .junk=s.tmps.getD d .junk:=fun v s d hd=>tmp_put fun e=>q3 d e hd
 have lookX':∀(e:Eff) (s:St),∀d,d ∈ x.2.looksAt ops→(s.apply y.2.dst e).tmps.getD d .junk=s.tmps.getD d .junk:=fun v s d hd=>tmp_apply fun e=>q3 d e hd
 have lookY:∀(v:AV) (s:St),∀d,d ∈ y.2.looksAt ops→s.tmps.getD d .junk=(s.put x.2.dst v).tmps.getD d .junk:=fun v s d hd=>(tmp_put fun e=>q1 d e hd).symm
 have lookY':∀(e:Eff) (s:St),∀d,d ∈ y.2.looksAt ops→s.tmps.getD d .junk=(s.apply x.2.dst e).tmps.getD d .junk:=fun v s d hd=>(tmp_apply fun e=>q1 d e hd).symm
 have putApply:∀{z:Nat×Oper} {d:Option Tmp} {s:St},(∀t,z.2.dst=some t→d≠some t)→∀e:Eff,(s.apply z.2.dst e).put d (.tup [])=(s.put d (.tup [])).apply z.2.dst e:=by
  intro z d s hne e
  have h2:St.put {s with boxes:=setBoxes s.boxes e.upd} d (.tup [])={s.put d (.tup []) with boxes:=setBoxes (s.put d (.tup [])).boxes e.upd}:=by cases d<;>rfl
  simp only [St.apply]
  rw [put_comm _ _ hne,h2]
 have effPut:∀{z z':Nat×Oper} {s:St},(∀t,z'.2.dst=some t→t ∉ z.2.looksAt ops)→eff P Φ na true (s.put z'.2.dst (.tup [])).eval (lookBox ban ops lim (s.put z'.2.dst (.tup [])) z.2) z.1 z.2=eff P Φ na true s.eval (lookBox ban ops lim s z.2) z.1 z.2:=by
  intro z z' s hz
  rw [eff_congr (ρ':=s.eval) fun u hu=>eval_put fun d hd e'=>by subst e';exact hz d hd (operand_look hu)]
  unfold lookBox
  rw [St.box_put]
 rcases form h1 with ⟨e,he,hp,hs,hk⟩|⟨hs,hk⟩
 ·rcases form h2 with ⟨f,hf,hfp,hfs,hfk⟩|⟨hfs,hfk⟩
  ·have hf':eff P Φ na true σ.eval (lookBox ban ops lim σ y.2) y.1 y.2=some f:=by rw [←Does.behind hi he σ1 hs];exact hf
   refine ⟨σ.apply y.2.dst f,hfk σ (by rw [hs];exact lookY' e σ) _ ⟨f,hf',hfp,rfl⟩,hk _ (lookX' f σ) _ ⟨e,?_,hp,?_⟩⟩
   ·rw [Does.behind hi.symm hf' _ rfl];exact he
   ·rw [hfs,hs]
    refine apply_comm q2 fun p hpm q hqm e'=> ?_
    rcases hit he p hpm with ⟨r1,r2⟩|⟨r1,r2⟩
    ·rcases hit hf' q hqm with ⟨t1,t2⟩|⟨t1,t2⟩
     ·exact hi.ne r2 t2 (by omega)
     ·have k1:=(hi.mem.2 t1 (alloc_isMem r2)).1
      have h4:=hits_of t1 k1 t2
      rw [←e',r1] at h4
      have hlx:=hi.lx
      rcases h4 with h4|h4
      ·omega
      ·exact hi.seen.1 r2 h4
    ·rcases hit hf' q hqm with ⟨t1,t2⟩|⟨t1,t2⟩
     ·have k1:=(hi.mem.1 r1 (alloc_isMem t2)).1
      have h4:=hits_of r1 k1 r2
      rw [e',t1] at h4
      have hly:=hi.ly
      rcases h4 with h4|h4
      ·omega
      ·exact hi.seen.2 t2 h4
     ·have k2:=(hi.mem.1 r1 (isStore_isMem t1)).2.1
      rw [t1] at k2;cases k2
  ·refine ⟨σ.put y.2.dst (.tup []),hfk σ (by rw [hs];exact lookY' e σ),hk _ (lookX (.tup []) σ) _ ⟨e,?_,hp,?_⟩⟩
   ·rw [effPut q3];exact he
   ·rw [hfs,hs]
    exact putApply q2 e
 ·rcases form h2 with ⟨f,hf,hfp,hfs,hfk⟩|⟨hfs,hfk⟩
  ·have hf':eff P Φ na true σ.eval (lookBox ban ops lim σ y.2) y.1 y.2=some f:=by rw [hs,effPut q1] at hf;exact hf
   refine ⟨σ.apply y.2.dst f,hfk σ (by rw [hs];exact lookY (.tup []) σ) _ ⟨f,hf',hfp,rfl⟩,?_⟩
   have:=hk (σ.apply y.2.dst f) (lookX' f σ)
   rw [putApply p2 f] at this
   rw [hfs,hs]
   exact this
  ·refine ⟨σ.put y.2.dst (.tup []),hfk σ (by rw [hs];exact lookY (.tup []) σ),?_⟩
   have:=hk (σ.put y.2.dst (.tup [])) (lookX (.tup []) σ)
   rw [put_comm _ _ p2] at this
   rw [hfs,hs]
   exact this
theorem Runs.first {lim:Nat} {x:Nat×Oper} {B:List (Nat×Oper)}:∀(A:List (Nat×Oper)) (σ σ':St),(∀y ∈ A,Indep ban ops lim y x)→Runs P Φ na ban ops lim (A++x::B) σ σ'→Runs P Φ na ban ops lim (x::(A++B)) σ σ'
 |[],σ,σ',_,h=>h
 |y::A,σ,σ',hi,⟨σ1,h1,h2⟩=>by
  obtain ⟨σ2,h3,h4⟩:=Runs.first A σ1 σ' (fun z hz=>hi z (by simp [hz])) h2
  obtain ⟨σ1',h5,h6⟩:=StepR.comm (hi y (by simp)) h1 h3
  exact ⟨σ1',h5,σ2,h6,h4⟩
structure Todo (ops:Array Oper) (na lim:Nat) (σ:St) (listed:Array Bool) (L:List ((Nat×Oper)×Nat)):Prop where
 full:∀x ∈ L,ops[x.2]? =some x.1.2
 open_:∀i,i<ops.size→(listed.getD i true=false ↔ ∃x ∈ L,x.2=i)
 size:listed.size=ops.size
 sorted:L.Pairwise fun x y=>x.2<y.2∧(allocates x.1.2.op=true→allocates y.1.2.op=true→x.1.1≠y.1.1)
 num:∀x ∈ L,(number lim ops.toList)[x.2]? =some x.1
 lim:∀x ∈ L,lim≤x.1.1
 free:∀x ∈ L,allocates x.1.2.op=true→Free na σ x.1.1
 shut:∀(i:Nat) (o:Oper),ops[i]? =some o→listed.getD i false=true→∀e ∈ o.after,Region.binds .any e=true→listed.getD e.on false=true
theorem mem_reach {f i:Nat} {o:Oper} (h:i ∈ reach ops (f+1) o):∃e ∈ o.after,Region.binds .any e=true∧∃z,ops[e.on]? =some z∧(i=e.on∨i ∈ reach ops f z):=by
 simp only [reach,List.mem_flatMap] at h
 obtain ⟨e,he,hi⟩:=h
 split at hi
 ·rename_i hb
  split at hi
  ·rename_i z hz
   split at hi
   ·exact ⟨e,by simpa using he,hb,z,hz,by simpa using hi⟩
   ·simp at hi
  ·simp at hi
 ·simp at hi
theorem reach_listed {listed:Array Bool} (hs:∀(i:Nat) (o:Oper),ops[i]? =some o→listed.getD i false=true→∀e ∈ o.after,Region.binds .any e=true→listed.getD e.on false=true):
  ∀(f i:Nat) (o:Oper),(∀e ∈ o.after,Region.binds .any e=true→listed.getD e.on false=true)→i ∈ reach ops f o→listed.getD i false=true
 |0,i,o,_,h=>by simp [reach] at h
 |f+1,i,o,ho,h=>by
  obtain ⟨e,he,hb,z,hz,hi⟩:=mem_reach h
  rcases hi with rfl|hi
  ·exact ho e he hb
  ·exact reach_listed hs f i z (hs e.on z hz (ho e he hb)) hi
theorem drawOk_spec (h:drawOk ban ops=true) {j:Nat} {y:Oper} (hj:ops[j]? =some y):
  (∀e ∈ y.after,Region.binds .any e=true→e.on<j)∧∀i x,i<j→ops[i]? =some x→dependent ban ops x y=true→∃e ∈ y.after,Region.binds .any e=true∧(e.on=i∨∃z,ops[e.on]? =some z∧∃e' ∈ z.after,Region.binds .any e'=true∧e'.on=i):=by
 unfold drawOk at h
 rw [List.all_eq_true] at h
 have hm:∀{i:Nat} {x:Oper},ops[i]? =some x→(x,i) ∈ ops.toList.zipIdx:=by
  intro i x hx
  rw [List.mk_mem_zipIdx_iff_getElem?]
  simpa using hx
 have h1:=h (y,j) (hm hj)
 simp only [Bool.and_eq_true] at h1
 refine ⟨fun e he hb=> ?_,fun i x hi hx hd=> ?_⟩
 ·have:=Array.all_eq_true_iff_forall_mem.1 h1.1 e he
  simpa [hb] using this
 ·have:=List.all_eq_true.1 h1.2 (x,i) (hm hx)
  simp only [hi,hd,decide_true,Bool.not_true,Bool.false_or,Bool.or_eq_true] at this
  rcases this with this|this
  ·obtain ⟨e,he1,he2⟩:=Array.any_eq_true'.1 this
   simp only [Bool.and_eq_true,decide_eq_true_eq] at he2
   exact ⟨e,he1,he2.1,.inl he2.2⟩
  ·obtain ⟨e,he1,he2⟩:=Array.any_eq_true'.1 this
   simp only [Bool.and_eq_true] at he2
   obtain ⟨he2,he3⟩:=he2
   split at he3
   ·rename_i z hz
    obtain ⟨e',he4,he5⟩:=Array.any_eq_true'.1 he3
    simp only [Bool.and_eq_true,decide_eq_true_eq] at he5
    exact ⟨e,he1,he2,.inr ⟨z,hz,e',he4,he5.1,he5.2⟩⟩
   ·cases he3
theorem reach_lt (hok:drawOk ban ops=true):∀(f i j:Nat) (o:Oper),ops[j]? =some o→i ∈ reach ops f o→i<j
 |0,i,j,o,_,h=>by simp [reach] at h
 |f+1,i,j,o,ho,h=>by
  obtain ⟨e,he,hb,z,hz,hi⟩:=mem_reach h
  have:=(drawOk_spec hok ho).1 e he hb
  rcases hi with rfl|hi
  ·exact this
  ·exact Nat.lt_trans (reach_lt hok f i e.on z hz hi) this
theorem indep_of {lim:Nat} {x y:Nat×Oper} (h:dependent ban ops x.2 y.2=false) (hx:lim≤x.1) (hy:lim≤y.1) (hne:allocates x.2.op=true→allocates y.2.op=true→x.1≠y.1)
  (hse:(allocates x.2.op=true→x.1 ∉ vis lim ops y.2)∧(allocates y.2.op=true→y.1 ∉ vis lim ops x.2)):Indep ban ops lim x y:=by
 unfold dependent at h
 simp only [Bool.or_eq_false_iff,Bool.not_eq_false',Bool.and_eq_false_iff] at h
 obtain ⟨⟨h1,h2⟩,h3⟩:=h
 have spec:∀{s m:Oper},isStore s.op=true→skips ban ops s m=true→Skips ban ops lim s m:=by
  intro s m hst hs
  unfold skips at hs
  simp only [Bool.and_eq_true,Bool.not_eq_true'] at hs
  obtain ⟨hm,hs⟩:=hs
  have hmt:∀i,sights ban lim ops m i=sees ban lim ops m i:=fun i=>by unfold sights;rw [tame_other hm];rfl
  cases c:(loose ops s||tame ban s) with
  |true=>
   rw [c] at hs
   have hv:∀i,hits ban lim ops s i→i ∈ vis lim ops s:=by
    intro i h4
    unfold hits at h4
    split at h4
    ·exact h4
    ·rename_i ht
     simp only [Bool.or_eq_true] at c
     rw [sees_loose hst (c.resolve_right ht)] at h4
     exact h4
   refine ⟨?_,hm,fun i h4=> ?_⟩
   ·simp only [Bool.or_eq_true] at c
    exact c.elim .inl fun h=> .inr (.inr h)
   rw [hmt]
   cases d:sees ban lim ops m i with
   |false=>rfl
   |true=>
    exfalso
    obtain ⟨j,z,hj,hz,ha,hzn⟩:=vis_num (hv i h4)
    rcases (sees_other hm).1 d with h5|h5
    ·have:=(number_get _ _ _ _ hz).2
     omega
    ·have h6:=vis_at hz ha (by rw [hzn];exact h5)
     have h7:=List.all_eq_true.1 hs j hj
     have h8:=(number_get _ _ _ _ hz).1
     simp only [Array.getElem?_toList] at h8
     simp only [h8,ha,Bool.not_true,Bool.or_false,Bool.not_eq_true',List.contains_iff_mem,decide_eq_false_iff_not,Bool.eq_false_iff,ne_eq] at h7
     exact h7 h6
  |false=>
   rw [c] at hs
   replace hs:sharp ban ops s=true:=hs
   simp only [Bool.or_eq_false_iff] at c
   refine ⟨.inr (.inl hs),hm,fun i h4=> ?_⟩
   unfold hits at h4
   rw [c.2] at h4
   simp only [Bool.false_eq_true,if_false] at h4
   have h4:=(sees_sharp hst c.1 hs).1 h4
   rw [hmt]
   cases d:sees ban lim ops m i with
   |false=>rfl
   |true=>
    exfalso
    rcases (sees_other hm).1 d with h5|h5
    ·exact h5.2 h4.2
    ·obtain ⟨j,z,hj,hz,ha,hzn⟩:=vis_num h5
     have:=(number_get _ _ _ _ hz).2
     omega
 refine ⟨h1,⟨fun e f=> ?_,fun e f=> ?_⟩,hx,hy,hne,hse⟩
 ·rcases h2 with (h|h)|h
  ·rw [e] at h;cases h
  ·rw [f] at h;cases h
  ·exact spec e h
 ·rcases h3 with (h|h)|h
  ·rw [f] at h;cases h
  ·rw [e] at h;cases h
  ·exact spec e h
theorem draw_any (hok:drawOk ban ops=true) (hΦ:PhiOk P Inv Φ) (hGrow:∀w',GrowS (β0 (na+1)) w0 w'→Inv w') {Q:Exit→Act→World→Prop} {K:St→Prop}
  (hK:∀σ β a w,R na β0 w0 σ β a w→K σ→Q .normal a w) (lim:Nat):∀(fuel:Nat) (L:List ((Nat×Oper)×Nat)) (listed:Array Bool) (σ σf:St) (β:Nat→Nat→Prop) (a:Act) (w:World),L.length≤fuel→
  Todo ops na lim σ listed L→R na β0 w0 σ β a w→Runs P Φ na ban ops lim (L.map (·.1)) σ σf→K σf→wpAny P .any ops Q fuel listed a w:=by
 have noneReady:∀(L:List ((Nat×Oper)×Nat)) (listed:Array Bool) (σ:St),Todo ops na lim σ listed L→Region.ready .any ops listed=[]→L=[]:=by
  intro L listed σ ht hr
  cases L with
  |nil=>rfl
  |cons x L=>
   exfalso
   have hx:=ht.full x (by simp)
   have hlt:x.2<ops.size:=(Array.getElem?_eq_some_iff.1 hx).1
   have hmem:x.2 ∈ Region.ready .any ops listed:=by
    unfold Region.ready
    rw [List.mem_filter]
    refine ⟨by simpa using hlt,?_⟩
    rw [(ht.open_ x.2 hlt).2 ⟨x,by simp,rfl⟩,hx]
    simp only [Bool.not_false,Bool.true_and,Option.map_some,Option.getD_some]
    rw [Array.all_eq_true_iff_forall_mem]
    intro e he
    cases hb:Region.binds .any e with
    |false=>rfl
    |true=>
     have hon:=(drawOk_spec hok hx).1 e he hb
     cases hl:listed.getD e.on false with
     |true=>rfl
     |false=>
      exfalso
      have hon':e.on<ops.size:=by omega
      have hlt':listed.getD e.on true=false:=by
       have:e.on<listed.size:=by rw [ht.size];exact hon'
       simp [Array.getD,this] at hl ⊢
       exact hl
      obtain ⟨z,hz,hze⟩:=(ht.open_ e.on hon').1 hlt'
      rcases List.mem_cons.1 hz with rfl|hz
      ·omega
      ·have:=(List.pairwise_cons.1 ht.sorted).1 z hz
       omega
   rw [hr] at hmem
   simp at hmem
 intro fuel
 induction fuel with
 |zero=>
  intro L listed σ σf β a w hL ht hR hrun hk
  have:L=[]:=List.eq_nil_of_length_eq_zero (by omega)
  subst this
  have hs:σf=σ:=hrun
  subst hs
  refine ⟨?_,hK _ _ _ _ hR hk⟩
  unfold Region.ready
  rw [List.filter_eq_nil_iff]
  intro i hi
  have hi':i<ops.size:=by simpa using hi
  have:=ht.open_ i hi'
  cases hl:listed.getD i true with
  |true=>simp
  |false=>rw [hl] at this;obtain ⟨x,hx,_⟩:=this.1 rfl;simp at hx
 |succ fuel ih=>
  intro L listed σ σf β a w hL ht hR hrun hk
  refine ⟨fun hr=> ?_,fun i hi=> ?_⟩
  ·have:=noneReady L listed σ ht hr
   subst this
   have hs:σf=σ:=hrun
   subst hs
   exact hK _ _ _ _ hR hk
  ·unfold Region.ready at hi
   rw [List.mem_filter] at hi
   obtain ⟨hi1,hi2⟩:=hi
   have hlt:i<ops.size:=by simpa using hi1
   simp only [Bool.and_eq_true,Bool.not_eq_true'] at hi2
   obtain ⟨x,hx,hxi⟩:=(ht.open_ i hlt).1 hi2.1
   subst hxi
   have hxo:=ht.full x hx
   obtain ⟨A,B,rfl⟩:=List.append_of_mem hx
   have hsrt:=List.pairwise_append.1 ht.sorted
   have hedges:∀e ∈ x.1.2.after,Region.binds .any e=true→listed.getD e.on false=true:=by
    have h2:=hi2.2
    rw [hxo] at h2
    simp only [Option.map_some,Option.getD_some] at h2
    rw [Array.all_eq_true_iff_forall_mem] at h2
    intro e he hb
    have:=h2 e he
    simpa [hb] using this
   have hind:∀y ∈ A.map (·.1),Indep ban ops lim y x.1:=by
    intro y hy
    obtain ⟨z,hz,rfl⟩:=List.mem_map.1 hy
    have hzx:=hsrt.2.2 z hz x (by simp)
    have hzo:=ht.full z (by simp [hz])
    have hzun:listed.getD z.2 false=false:=by
     have hzlt:z.2<ops.size:=(Array.getElem?_eq_some_iff.1 hzo).1
     have h2:=(ht.open_ z.2 hzlt).2 ⟨z,by simp [hz],rfl⟩
     have hs:z.2<listed.size:=by rw [ht.size];exact hzlt
     simp [Array.getD,hs] at h2 ⊢
     exact h2
    refine indep_of ?_ (ht.lim z (by simp [hz])) (ht.lim x (by simp)) hzx.2 ⟨fun ha hm=> ?_,fun ha hm=> ?_⟩
    rotate_left
    ·have h1:=vis_at (ht.num z (by simp [hz])) ha hm
     have h2:=reach_listed ht.shut 12 z.2 x.1.2 hedges h1
     rw [hzun] at h2
     cases h2
    ·have h1:=vis_at (ht.num x (by simp)) ha hm
     have h2:=reach_lt hok 12 x.2 z.2 z.1.2 hzo h1
     have h3:=hzx.1
     omega
    cases hd:dependent ban ops z.1.2 x.1.2 with
    |false=>rfl
    |true=>
     exfalso
     obtain ⟨e,he,hb,hon⟩:=(drawOk_spec hok hxo).2 z.2 z.1.2 hzx.1 hzo hd
     have h1:=hedges e he hb
     have h1:listed.getD z.2 false=true:=by
      rcases hon with hon|⟨y,hy,e',he',hb',hon⟩
      ·rw [←hon];exact h1
      ·rw [←hon];exact ht.shut e.on y hy h1 e' he' hb'
     have hzlt:z.2<ops.size:=(Array.getElem?_eq_some_iff.1 hzo).1
     have h2:=(ht.open_ z.2 hzlt).2 ⟨z,by simp [hz],rfl⟩
     have hs:z.2<listed.size:=by rw [ht.size];exact hzlt
     simp [Array.getD,hs] at h1 h2
     rw [h1] at h2
     cases h2
   have hrun':Runs P Φ na ban ops lim (x.1::((A++B).map (·.1))) σ σf:=by
    have:(A++x::B).map (·.1)=A.map (·.1)++x.1::B.map (·.1):=by simp
    rw [this] at hrun
    have:=Runs.first _ _ _ hind hrun
    simpa using this
   obtain ⟨σ1,hstep,hrest⟩:=hrun'
   have hInv:Inv w:=hGrow _ hR.grow
   have hnext:∀σ',(∀j,σ.box j= .unborn→j≠x.1.1∨allocates x.1.2.op=false→σ'.box j= .unborn)→σ'.boxes.length=σ.boxes.length→Todo ops na lim σ' (listed.setIfInBounds x.2 true) (A++B):=by
    intro σ' hun hlen
    have hmem:∀y ∈ A++B,y ∈ A++x::B:=fun y hy=>by
     rcases List.mem_append.1 hy with h|h
     ·simp [h]
     ·simp [h]
    have hne:∀y ∈ A++B,y.2≠x.2∧(allocates x.1.2.op=true→allocates y.1.2.op=true→y.1.1≠x.1.1):=fun y hy=>by
     rcases List.mem_append.1 hy with h|h
     ·have:=hsrt.2.2 y h x (by simp)
      exact ⟨by omega,fun a b=>this.2 b a⟩
     ·have:=(List.pairwise_cons.1 hsrt.2.1).1 y h
      exact ⟨by omega,fun a b e=>this.2 a b e.symm⟩
    refine ⟨fun y hy=>ht.full y (hmem y hy),fun j hj=> ?_,by simp [ht.size],?_,fun y hy=>ht.num y (hmem y hy),fun y hy=>ht.lim y (hmem y hy),fun y hy hay=> ?_,fun j o ho hj e he hb=> ?_⟩
    rotate_right
    ·have hmono:∀m,listed.getD m false=true→(listed.setIfInBounds x.2 true).getD m false=true:=by
      intro m hm
      have hml:m<listed.size:=by
       by_cases c:m<listed.size
       ·exact c
       ·simp [Array.getD,c] at hm
      simp [Array.getD,hml] at hm
      simp [Array.getD,hml,Array.getElem_setIfInBounds,hm]
     refine hmono _ ?_
     by_cases e':j=x.2
     ·subst e'
      rw [hxo] at ho
      cases ho
      exact hedges e he hb
     ·refine ht.shut j o ho ?_ e he hb
      have hjs:j<listed.size:=by
       have:=(Array.getElem?_eq_some_iff.1 ho).1
       rw [ht.size];exact this
      have e'':x.2≠j:=fun h=>e' h.symm
      simp [Array.getD,hjs,Array.getElem_setIfInBounds,e''] at hj
      simp [Array.getD,hjs,hj]
    ·have hjs:j<listed.size:=by rw [ht.size];exact hj
     by_cases e:j=x.2
     ·subst e
      constructor
      ·intro h;simp [Array.getD,hjs] at h
      ·rintro ⟨y,hy,hyx⟩;exact absurd hyx (hne y hy).1
     ·have e':x.2≠j:=fun h=>e h.symm
      have hg:(listed.setIfInBounds x.2 true).getD j true=listed.getD j true:=by
       simp [Array.getD,hjs,Array.getElem_setIfInBounds,e']
      rw [hg,ht.open_ j hj]
      constructor
      ·rintro ⟨y,hy,hyj⟩
       rcases List.mem_append.1 hy with h|h
       ·exact ⟨y,by simp [h],hyj⟩
       ·rcases List.mem_cons.1 h with rfl|h
        ·omega
        ·exact ⟨y,by simp [h],hyj⟩
      ·rintro ⟨y,hy,hyj⟩;exact ⟨y,hmem y hy,hyj⟩
    ·rw [List.pairwise_append]
     exact ⟨hsrt.1,(List.pairwise_cons.1 hsrt.2.1).2,fun y hy z hz=>hsrt.2.2 y hy z (by simp [hz])⟩
    ·have hf:=ht.free y (hmem y hy) hay
     refine ⟨hf.na,by rw [hlen];exact hf.len,hun _ hf.un ?_⟩
     cases hax:allocates x.1.2.op with
     |false=>exact .inr rfl
     |true=>exact .inl ((hne y hy).2 hax hay)
   have hlenAB:(A++B).length≤fuel:=by simp at hL ⊢;omega
   have take:∀{σ'},Does P Φ na ban ops lim σ x.1 σ'→Runs P Φ na ban ops lim ((A++B).map (·.1)) σ' σf→Region.wanted x.1.2 (yielded ops a.tmps)=true→wpOp P ops Q x.2 (wpAny P .any ops Q fuel (listed.setIfInBounds x.2 true)) a w:=by
    rintro σ' ⟨e,he,hp,rfl⟩ hr hw
    have hb:Sub (lookBox ban ops lim σ x.1.2) σ.box:=by
     exact eyes_sub
    have hs:=eff_sound hR hb hInv hΦ he hp (fun ha=>ht.free x (by simp) ha)
    unfold wpOp
    rw [hxo]
    simp only
    rw [if_pos hw]
    refine .inl (hs _ _ fun β' a' w' hR'=>ih _ _ _ _ β' a' w' hlenAB (hnext _ (fun j hj hor=> ?_) (by rw [St.boxes_apply,setBoxes_length])) hR' hr hk)
    rw [box_apply]
    ·exact hj
    ·intro p hpm e'
     rcases eff_upd he p hpm with ⟨q1,q2⟩|⟨_,q2⟩
     ·rcases hor with h|h
      ·exact h (by rw [←e',q1])
      ·rw [h] at q2;cases q2
     ·rcases hb p.1 with h|h
      ·exact q2 h
      ·rw [e',hj] at h;exact q2 (e' ▸ h)
   have pass:Runs P Φ na ban ops lim ((A++B).map (·.1)) (σ.put x.1.2.dst (.tup [])) σf→Region.wanted x.1.2 (yielded ops a.tmps)=false→wpOp P ops Q x.2 (wpAny P .any ops Q fuel (listed.setIfInBounds x.2 true)) a w:=by
    intro hr hw
    unfold wpOp
    rw [hxo]
    simp only
    rw [if_neg (by simp [hw])]
    exact ih _ _ _ _ β _ w hlenAB (hnext _ (fun j hj _=>by rw [St.box_put];exact hj) (by rw [St.boxes_put])) (hR.put _ V_undef) hr hk
   unfold StepR at hstep
   split at hstep
   ·rename_i hg
    exact take hstep hrest (by simp [Region.wanted,hg])
   ·rename_i j want hg
    obtain ⟨d,b,hj,hd,hif⟩:=hstep
    have hw:Region.wanted x.1.2 (yielded ops a.tmps)=b:=by
     rcases hd with ⟨b',hd,rfl⟩|⟨hd,rfl⟩
     ·exact wanted_of (ops:=ops) hR hg hj hd
     ·exact unwanted_of (ops:=ops) hR hg hj hd
    by_cases hb:b=true
    ·rw [if_pos hb] at hif
     exact take hif hrest (by rw [hw,hb])
    ·rw [if_neg hb] at hif
     rw [hif] at hrest
     exact pass hrest (by rw [hw];simpa using hb)
theorem number_length:∀(l:List Oper) (m:Nat),(number m l).length=l.length
 |[],_=>rfl
 |o::l,m=>by simp [number,number_length l]
theorem number_top:∀(l:List Oper) (m i:Nat) (x:Nat×Oper),(number m l)[i]? =some x→allocates x.2.op=true→x.1<m+countAllocs l
 |[],m,i,x,h,_=>by simp [number] at h
 |o::l,m,0,x,h,ha=>by simp [number] at h;subst h;simp [countAllocs,ha];omega
 |o::l,m,i+1,x,h,ha=>by
  simp only [number,List.getElem?_cons_succ] at h
  have:=number_top l _ i x h ha
  simp only [countAllocs]
  split at this<;>rename_i hao<;>simp [hao]<;>omega
theorem evR_draw (hok:drawOk ban ops=true) (hm:P.follows .mixedOrders=true) (hΦ:PhiOk P Inv Φ) (hGrow:∀w',GrowS (β0 (na+1)) w0 w'→Inv w') {Q:Exit→Act→World→Prop} {K:St→Prop}
  (hK:∀σ β a w,R na β0 w0 σ β a w→K σ→Q .normal a w) {lim:Nat} (hR:R na β0 w0 σ β a w) (hrd:Ready na σ lim ops.toList) (h:evR P Φ na true ban lim ops (number lim ops.toList) σ K) (id:Nat):
  (Code.region id ops true).wp P Q a w:=by
 obtain ⟨σf,hrun,hk⟩:=runs_of_evR _ _ h
 have hR':R na β0 w0 σ β a {w with drawn:=w.drawn+1}:=hR.grown (w':=w.drew) ((Grow.refl w).drew)
 refine wp_region_any hm (draw_any hok hΦ hGrow hK lim ops.size (number lim ops.toList).zipIdx _ σ σf β a _ (by simp [number_length]) ⟨fun x hx=> ?_,fun i hi=> ?_,by simp,?_,fun x hx=>by rw [List.mem_zipIdx_iff_getElem?] at hx;exact hx,fun x hx=> ?_,fun x hx ha=> ?_,fun i o ho hi=> ?_⟩ hR' (by simpa using hrun) hk)
 ·rw [List.mem_zipIdx_iff_getElem?] at hx
  have:=(number_get _ _ _ _ hx).1
  simpa using this
 ·constructor
  ·intro _
   have hlt:i<(number lim ops.toList).length:=by rw [number_length];simpa using hi
   exact ⟨((number lim ops.toList)[i],i),by rw [List.mem_zipIdx_iff_getElem?];simp [hlt],rfl⟩
  ·intro _
   simp [Array.getD,hi]
 ·rw [List.pairwise_iff_getElem]
  intro i j hi hj hij
  simp only [List.getElem_zipIdx]
  refine ⟨by omega,fun ha _ e=> ?_⟩
  have:=number_lt ops.toList lim i j _ _ hij (List.getElem?_eq_getElem (by simpa using hi)) (List.getElem?_eq_getElem (by simpa using hj)) ha
  omega
 ·rw [List.mem_zipIdx_iff_getElem?] at hx
  exact (number_get _ _ _ _ hx).2
 ·rw [List.mem_zipIdx_iff_getElem?] at hx
  have h1:=(number_get _ _ _ _ hx).2
  have h2:=number_top _ _ _ _ hx ha
  exact ⟨by have:=hrd.1;omega,by have:=hrd.2.2;omega,hrd.2.1 _ h1⟩
 ·exfalso
  have hlt:=(Array.getElem?_eq_some_iff.1 ho).1
  simp [Array.getD,hlt] at hi
end
end Go.AI

namespace Go.AI
open Go Go.RowKit
set_option linter.unusedVariables false
set_option linter.unusedSimpArgs false
section
variable {na:Nat} {β0:Nat→Nat→Prop} {w0:World} {σ:St} {β:Nat→Nat→Prop} {a:Act} {w:World} {kb:List (Option Nat)}
def viewβ (na:Nat) (β:Nat→Nat→Prop) (kb:List (Option Nat)):Nat→Nat→Prop:=fun i x=>
 if i≤na then β i x
 else if i=na+1 then∃j,na<j∧some j ∉ kb∧β j x
 else∃j,kb[i-(na+2)]? =some (some j)∧β j x
def layBs (na:Nat) (bs:List Box):Nat→Box:=fun i=>(List.replicate (na+2) Box.arena++bs).getD i .unborn
theorem layBs_low {na:Nat} {bs:List Box} {i:Nat} (h:i<na+2):layBs na bs i= .arena:=by
 unfold layBs
 simp [List.getD,List.getElem?_append,h,List.getElem?_replicate]
theorem layBs_high {na:Nat} {bs:List Box} {i:Nat} (h:na+2≤i):layBs na bs i=bs.getD (i-(na+2)) .unborn:=by
 unfold layBs
 simp only [List.getD,List.getElem?_append,List.length_replicate]
 rw [if_neg (by omega)]
theorem view_inP (hkb:∀i,some i ∈ kb→σ.box i≠ .arena) {p p':List Nat} (hal:∀i ∈ p,σ.box i= .arena) (hp:(∀i ∈ p,na<i)∨((∀i ∈ p,0<i)∧p'=wideA na)) (hp':na+1 ∈ p') {bs:List Box} {b:Nat}
  (h:Ctx.inP ⟨σ.box,β,w⟩ p b):Ctx.inP ⟨layBs na bs,viewβ na β kb,w⟩ p' b:=by
 obtain ⟨i,hi,hx⟩:=h
 by_cases hna:na<i
 ·refine ⟨na+1,hp',?_⟩
  show viewβ na β kb (na+1) b
  unfold viewβ
  rw [if_neg (by omega),if_pos rfl]
  exact ⟨i,hna,fun hm=>hkb i hm (hal i hi),hx⟩
 ·rcases hp with hp|⟨h0,rfl⟩
  ·exact absurd (hp i hi) hna
  ·have:=h0 i hi
   refine ⟨i,by simp [wideA];exact ⟨i-1,by omega,by omega⟩,?_⟩
   show viewβ na β kb i b
   unfold viewβ
   rw [if_pos (by omega)]
   exact hx
mutual
theorem merge_V (hkb:∀i,some i ∈ kb→σ.box i≠ .arena) (bs:List Box) (any:Bool):∀(c c':AV) (v:Value),V ⟨σ.box,β,w⟩ c v→AV.merge σ.box na any c=some c'→V ⟨layBs na bs,viewβ na β kb,w⟩ c' v
 | .junk,c',v,hV,h=>by simp [AV.merge] at h;subst h;simp only [V]
 | .num ..,c',v,hV,h=>by simp [AV.merge] at h;subst h;simp only [V] at hV ⊢;exact hV
 | .bool _,c',v,hV,h=>by simp [AV.merge] at h;subst h;simp only [V] at hV ⊢;exact hV
 | .nilS,c',v,hV,h=>by
  simp [AV.merge] at h
  subst h
  simp only [V] at hV ⊢
  subst hV
  refine ⟨fun i hi=> ?_,⟨by simp,by simp⟩,none,0,by simp,fun _=> .inl ⟨rfl,rfl⟩⟩
  have:i<na+2:=by split at hi<;>simp [wideA] at hi<;>omega
  show layBs na bs i≠_
  rw [layBs_low this];simp
 | .dig p l,c',v,hV,h=>by
  simp only [AV.merge] at h
  split at h
  ·rename_i har
   have h0:∀i ∈ p,0<i:=by simpa [notZero] using (Bool.and_eq_true_iff.1 har).2
   replace har:=(Bool.and_eq_true_iff.1 har).1
   simp only [V] at hV
   obtain ⟨_,hok,base,cap,rfl,hd⟩:=hV
   have hal:=alive_of (Sub.refl σ.box) β w har
   have key:∀p',((∀i ∈ p,na<i)∨p'=wideA na)→na+1 ∈ p'→(∀i ∈ p',i<na+2)→V ⟨layBs na bs,viewβ na β kb,w⟩ (.dig p' l) (.slice base l.length cap):=by
    intro p' h1 h2 h3
    simp only [V]
    refine ⟨fun i hi=> ?_,hok,base,cap,rfl,fun _=>(hd hal).mono fun b hb=>⟨view_inP hkb hal (h1.imp id fun e=>⟨h0,e⟩) h2 hb,rfl⟩⟩
    show layBs na bs i≠_
    rw [layBs_low (h3 i hi)];simp
   split at h
   ·cases h
    exact key _ (.inr rfl) (by simp [wideA]) (by simp [wideA])
   ·split at h
    ·rename_i hall
     cases h
     exact key _ (.inl (by simpa using hall)) (by simp) (by simp)
    ·cases h
     exact key _ (.inr rfl) (by simp [wideA]) (by simp [wideA])
  ·cases h
 | .vec p n l,c',v,hV,h=>by
  simp only [AV.merge] at h
  split at h
  ·rename_i har
   have h0:∀i ∈ p,0<i:=by simpa [notZero] using (Bool.and_eq_true_iff.1 har).2
   replace har:=(Bool.and_eq_true_iff.1 har).1
   split at h
   ·rename_i l' hl
    cases h
    simp only [V] at hV
    obtain ⟨_,hlen,hn,base,cap,us,rfl,hus,hsz,hd⟩:=hV
    have hal:=alive_of (Sub.refl σ.box) β w har
    have hm:=merges_V hkb bs any l l' us hus hl
    have hll:l'.length=l.length:=by rw [hm.length,hus.length]
    have key:∀p',((∀i ∈ p,na<i)∨p'=wideA na)→na+1 ∈ p'→(∀i ∈ p',i<na+2)→V ⟨layBs na bs,viewβ na β kb,w⟩ (.vec p' n l') (.slice base l.length cap):=by
     intro p' h1 h2 h3
     simp only [V]
     refine ⟨fun i hi=> ?_,by omega,hn,base,cap,us,by rw [hll],hm,hsz,fun _=>(hd hal).mono fun b hb=>⟨view_inP hkb hal (h1.imp id fun e=>⟨h0,e⟩) h2 hb,rfl⟩⟩
     show layBs na bs i≠_
     rw [layBs_low (h3 i hi)];simp
    split
    ·exact key _ (.inr rfl) (by simp [wideA]) (by simp [wideA])
    ·split
     ·rename_i hall
      exact key _ (.inl (by simpa using hall)) (by simp) (by simp)
     ·exact key _ (.inr rfl) (by simp [wideA]) (by simp [wideA])
   ·cases h
  ·cases h
 | .agg cs,c',v,hV,h=>by
  simp only [AV.merge] at h
  split at h
  ·rename_i cs' hcs
   cases h
   simp only [V] at hV ⊢
   obtain ⟨vs,rfl,hvs⟩:=hV
   exact ⟨vs,rfl,merges_V hkb bs any cs cs' vs hvs hcs⟩
  ·cases h
 | .tup cs,c',v,hV,h=>by
  simp only [AV.merge] at h
  split at h
  ·rename_i cs' hcs
   cases h
   simp only [V] at hV ⊢
   obtain ⟨vs,rfl,hvs⟩:=hV
   exact ⟨vs,rfl,merges_V hkb bs any cs cs' vs hvs hcs⟩
  ·cases h
 | .fn f cs,c',v,hV,h=>by
  simp only [AV.merge] at h
  split at h
  ·rename_i cs' hcs
   cases h
   simp only [V] at hV ⊢
   obtain ⟨vs,rfl,hvs⟩:=hV
   exact ⟨vs,rfl,merges_V hkb bs any cs cs' vs hvs hcs⟩
  ·cases h
 | .cref p cs,c',v,hV,h=>by
  simp only [AV.merge] at h
  split at h
  ·rename_i har
   have h0:∀i ∈ p,0<i:=by simpa [notZero] using (Bool.and_eq_true_iff.1 har).2
   replace har:=(Bool.and_eq_true_iff.1 har).1
   split at h
   ·rename_i l' hl
    cases h
    simp only [V] at hV ⊢
    obtain ⟨_,vs,hvs,b,off,rfl,hd⟩:=hV
    have hal:=alive_of (Sub.refl σ.box) β w har
    refine ⟨fun i hi=> ?_,vs,merges_V hkb bs any cs l' vs hvs hl,b,off,rfl,fun _=>⟨view_inP hkb hal (.inr ⟨h0,rfl⟩) (by simp [wideA]) (hd hal).1,(hd hal).2⟩⟩
    simp [wideA] at hi
    show layBs na bs i≠_
    rw [layBs_low (by omega)];simp
   ·cases h
  ·cases h
 | .own _,c',v,hV,h=>by simp [AV.merge] at h
 | .addr ..,c',v,hV,h=>by simp [AV.merge] at h
 | .grown ..,c',v,hV,h=>by simp [AV.merge] at h
 | .boxv _,c',v,hV,h=>by simp [AV.merge] at h
 | .hand ..,c',v,hV,h=>by simp [AV.merge] at h
 | .handv ..,c',v,hV,h=>by simp [AV.merge] at h
 | .avec ..,c',v,hV,h=>by simp [AV.merge] at h
theorem merges_V (hkb:∀i,some i ∈ kb→σ.box i≠ .arena) (bs:List Box) (any:Bool):∀(cs cs':List AV) (vs:List Value),Vs ⟨σ.box,β,w⟩ cs vs→AV.merges σ.box na any cs=some cs'→Vs ⟨layBs na bs,viewβ na β kb,w⟩ cs' vs
 |[],cs',[],hV,h=>by simp [AV.merges] at h;subst h;simp only [Vs]
 |c::cs,cs',v::vs,hV,h=>by
  simp only [AV.merges] at h
  split at h
  ·cases h
  ·rename_i c' hc
   split at h
   ·cases h
   ·rename_i cs'' hcs
    cases h
    simp only [Vs] at hV ⊢
    exact ⟨merge_V hkb bs any c c' v hV.1 hc,merges_V hkb bs any cs cs'' vs hV.2 hcs⟩
 |[],_,_::_,hV,_=>by simp only [Vs] at hV
 |_::_,_,[],hV,_=>by simp only [Vs] at hV
end
def KeptOk (na:Nat) (σ:St) (β:Nat→Nat→Prop) (kb:List (Option Nat)) (bs:List Box) (w:World) (s:Option Nat) (b:Box):Prop:=
 match s with
 |none=>∃T,b= .digs T []
 |some i=>(∃T l,σ.box i= .digs T l∧b= .digs T l)∨∃cs cs',σ.box i= .cells cs∧b= .cells cs'∧∀vs,Vs ⟨σ.box,β,w⟩ cs vs→Vs ⟨layBs na bs,viewβ na β kb,w⟩ cs' vs
theorem view_kept (hR:R na β0 w0 σ β a w) (hkb:∀i,some i ∈ kb→σ.box i≠ .arena) (bs:List Box):∀(keep:List (Nat×Keep)) (vals:List AV),view na σ keep=some vals→
  (keptBoxes σ keep).length=(boxesOf vals).length∧∀(j:Nat) (s:Option Nat) (b:Box),(keptBoxes σ keep)[j]? =some s→(boxesOf vals)[j]? =some b→KeptOk na σ β kb bs w s b
 |[],vals,h=>by simp [view] at h;subst h;simp [keptBoxes,srcs,boxesOf]
 |(t,kp)::keep,vals,h=>by
  simp only [view] at h
  split at h
  ·cases h
  ·rename_i v hv
   split at h
   ·cases h
   ·rename_i vs hvs
    cases h
    obtain ⟨h1,h2⟩:=view_kept hR hkb bs keep vs hvs
    have cons:∀{s b},KeptOk na σ β kb bs w s b→keptBoxes σ ((t,kp)::keep)=s::keptBoxes σ keep→boxesOf (v::vs)=b::boxesOf vs→
      (keptBoxes σ ((t,kp)::keep)).length=(boxesOf (v::vs)).length∧∀(j:Nat) (s:Option Nat) (b:Box),(keptBoxes σ ((t,kp)::keep))[j]? =some s→(boxesOf (v::vs))[j]? =some b→KeptOk na σ β kb bs w s b:=by
     intro s b hk e1 e2
     rw [e1,e2]
     refine ⟨by simp [h1],fun j s' b' hs hb=> ?_⟩
     cases j with
     |zero=>simp at hs hb;subst hs;subst hb;exact hk
     |succ j=>exact h2 j s' b' (by simpa using hs) (by simpa using hb)
    have same:keptBoxes σ ((t,kp)::keep)=keptBoxes σ keep→boxesOf (v::vs)=boxesOf vs→
      (keptBoxes σ ((t,kp)::keep)).length=(boxesOf (v::vs)).length∧∀(j:Nat) (s:Option Nat) (b:Box),(keptBoxes σ ((t,kp)::keep))[j]? =some s→(boxesOf (v::vs))[j]? =some b→KeptOk na σ β kb bs w s b:=by
     intro e1 e2
     rw [e1,e2]
     exact ⟨h1,h2⟩
    have noBox:∀{c c':AV} {any:Bool},AV.merge σ.box na any c=some c'→boxesOf (c'::vs)=boxesOf vs:=by
     intro c c' any hm
     cases c<;>simp only [AV.merge] at hm<;>first|(cases hm;done)|skip
     all_goals
      (repeat' split at hm)<;>first|(cases hm;rfl)|(cases hm;done)
    cases hc:σ.tmps.getD t .junk with
    |own b=>
     rw [hc] at hv
     simp only [viewAV] at hv
     split at hv
     ·rename_i T l hb
      cases hv
      exact cons (s:=some b) (b:= .digs T l) (.inl ⟨T,l,hb,rfl⟩) (by unfold keptBoxes;simp only [List.map_cons,srcs,hc]) rfl
     ·cases hv
    |hand b gc lo len=>
     rw [hc] at hv
     simp only [viewAV] at hv
     split at hv
     ·rename_i T l hb
      cases hv
      exact cons (s:=some b) (b:= .digs T l) (.inl ⟨T,l,hb,rfl⟩) (by unfold keptBoxes;simp only [List.map_cons,srcs,hc]) rfl
     ·cases hv
    |addr b off=>
     rw [hc] at hv
     simp only [viewAV] at hv
     split at hv
     ·split at hv
      ·rename_i cs hb
       split at hv
       ·rename_i cs' hcs
        cases hv
        exact cons (s:=some b) (b:= .cells cs') (.inr ⟨cs,cs',hb,rfl,fun us hus=>merges_V hkb bs _ cs cs' us hus hcs⟩) (by unfold keptBoxes;simp only [List.map_cons,srcs,hc]) rfl
       ·cases hv
      ·cases hv
     ·cases hv
    |nilS=>
     rw [hc] at hv
     simp only [viewAV] at hv
     cases kp with
     |grow T=>
      simp only at hv
      cases hv
      exact cons (s:=none) (b:= .digs T []) ⟨T,rfl⟩ (by unfold keptBoxes;simp only [List.map_cons,srcs,hc]) rfl
     |same=>exact same (by unfold keptBoxes;simp only [List.map_cons,srcs,hc]) (noBox hv)
     |any=>exact same (by unfold keptBoxes;simp only [List.map_cons,srcs,hc]) (noBox hv)
    |_=>
     rw [hc] at hv
     simp only [viewAV] at hv
     exact same (by unfold keptBoxes;simp only [List.map_cons,srcs,hc]) (noBox hv)
theorem unview_tmps (hR:R na β0 w0 σ β a w) (hkb:∀i,some i ∈ kb→σ.box i≠ .arena) (bs:List Box):∀(keep:List (Nat×Keep)) (vals:List AV) (n:Nat) (tmps:List AV),view na σ keep=some vals→na+2≤n→
  Vs ⟨layBs na bs,viewβ na β kb,w⟩ tmps a.tmps.toList→(∀(j:Nat) (s:Option Nat),(keptBoxes σ keep)[j]? =some s→kb[n+j-(na+2)]? =some s)→(∀(j:Nat) (b:Box),(boxesOf vals)[j]? =some b→layBs na bs (n+j)=b)→
  Vs ⟨layBs na bs,viewβ na β kb,w⟩ (unview n keep vals tmps) a.tmps.toList
 |[],vals,n,tmps,h,hn,hV,_,_=>by simp [view] at h;subst h;simpa [unview] using hV
 |(t,kp)::keep,vals,n,tmps,h,hn,hV,hk,hb=>by
  simp only [view] at h
  split at h
  ·cases h
  ·rename_i v hv
   split at h
   ·cases h
   ·rename_i vs hvs
    cases h
    have put:∀{c:AV},(∀u,a.tmps.toList[t]? =some u→V ⟨layBs na bs,viewβ na β kb,w⟩ c u)→Vs ⟨layBs na bs,viewβ na β kb,w⟩ (tmps.set t c) a.tmps.toList:=by
     intro c hc
     refine Vs.of (by rw [List.length_set];exact hV.length) fun i c' u h1 h2=> ?_
     rw [List.getElem?_set] at h1
     split at h1
     ·rename_i e
      subst e
      split at h1
      ·cases h1;exact hc u h2
      ·cases h1
     ·exact hV.at h1 h2
    have old:∀u,a.tmps.toList[t]? =some u→V ⟨σ.box,β,w⟩ (σ.tmps.getD t .junk) u:=by
     intro u hu
     cases hc:σ.tmps[t]? with
     |none=>simp [List.getD,hc,V]
     |some c=>simp only [List.getD,hc,Option.getD_some];exact hR.tmps.at hc hu
    have plain:∀{any:Bool} {c:AV},σ.tmps.getD t .junk=c→AV.merge σ.box na any c=some v→keptBoxes σ ((t,kp)::keep)=keptBoxes σ keep→
      Vs ⟨layBs na bs,viewβ na β kb,w⟩ (unview n ((t,kp)::keep) (v::vs) tmps) a.tmps.toList:=by
     intro any c hc hm e1
     have hun:unview n ((t,kp)::keep) (v::vs) tmps=unview n keep vs (tmps.set t v)∧boxesOf (v::vs)=boxesOf vs:=by
      cases c<;>simp only [AV.merge] at hm<;>first|(cases hm;done)|skip
      all_goals
       (repeat' split at hm)<;>first|(cases hm;exact ⟨rfl,rfl⟩)|(cases hm;done)
     rw [hun.1]
     refine unview_tmps hR hkb bs keep vs n _ hvs hn (put fun u hu=> ?_) (by rw [←e1];exact hk) (by rw [←hun.2];exact hb)
     have:=old u hu
     rw [hc] at this
     exact merge_V hkb bs _ c v u this hm
    cases hc:σ.tmps.getD t .junk with
    |own b=>
     rw [hc] at hv
     simp only [viewAV] at hv
     split at hv
     ·rename_i T l hbx
      cases hv
      have e1:keptBoxes σ ((t,kp)::keep)=some b::keptBoxes σ keep:=by unfold keptBoxes;simp only [List.map_cons,srcs,hc]
      have hkn:=hk 0 (some b) (by rw [e1];rfl)
      have hbn:=hb 0 (.digs T l) rfl
      simp only [Nat.add_zero] at hkn hbn
      refine unview_tmps hR hkb bs keep vs (n+1) _ hvs (by omega) (put fun u hu=> ?_) (fun j s hs=> ?_) (fun j b' hb'=> ?_)
      ·have:=old u hu
       rw [hc] at this
       simp only [V] at this ⊢
       rw [hbn]
       refine ⟨by simp,this.2.1,fun T' l' hl=> ?_⟩
       cases hl
       rcases this.2.2 T l hbx with h|⟨blk,cap,q1,q2,q3,q4,q5⟩
       ·exact .inl h
       ·refine .inr ⟨blk,cap,?_,q2,q3,q4,q5⟩
        show viewβ na β kb n blk
        unfold viewβ
        rw [if_neg (by omega),if_neg (by omega)]
        exact ⟨b,hkn,q1⟩
      ·have:=hk (j+1) s (by rw [e1];simpa using hs)
       rwa [show n+(j+1)=n+1+j by omega] at this
      ·have:=hb (j+1) b' (by show (Box.digs T l::boxesOf vs)[j+1]? =_;simpa using hb')
       rwa [show n+(j+1)=n+1+j by omega] at this
     ·cases hv
    |hand b gc lo len=>
     rw [hc] at hv
     simp only [viewAV] at hv
     split at hv
     ·rename_i T l hbx
      cases hv
      have e1:keptBoxes σ ((t,kp)::keep)=some b::keptBoxes σ keep:=by unfold keptBoxes;simp only [List.map_cons,srcs,hc]
      have hkn:=hk 0 (some b) (by rw [e1];rfl)
      have hbn:=hb 0 (.digs T l) rfl
      simp only [Nat.add_zero] at hkn hbn
      refine unview_tmps hR hkb bs keep vs (n+1) _ hvs (by omega) (put fun u hu=> ?_) (fun j s hs=> ?_) (fun j b' hb'=> ?_)
      ·have:=old u hu
       rw [hc] at this
       simp only [V] at this ⊢
       rw [hbn]
       obtain ⟨_,g,cap,q1,q2,q3,q4⟩:=this
       refine ⟨by simp,g,cap,q1,q2,q3,fun T' l' hl=> ?_⟩
       cases hl
       obtain ⟨q5,q6,q7⟩:=q4 T l hbx
       refine ⟨?_,q6,q7⟩
       show viewβ na β kb n g
       unfold viewβ
       rw [if_neg (by omega),if_neg (by omega)]
       exact ⟨b,hkn,q5⟩
      ·have:=hk (j+1) s (by rw [e1];simpa using hs)
       rwa [show n+(j+1)=n+1+j by omega] at this
      ·have:=hb (j+1) b' (by show (Box.digs T l::boxesOf vs)[j+1]? =_;simpa using hb')
       rwa [show n+(j+1)=n+1+j by omega] at this
     ·cases hv
    |addr b off=>
     rw [hc] at hv
     simp only [viewAV] at hv
     split at hv
     ·rename_i hoff
      split at hv
      ·rename_i cs hbx
       split at hv
       ·rename_i cs' hcs
        cases hv
        have e1:keptBoxes σ ((t,kp)::keep)=some b::keptBoxes σ keep:=by unfold keptBoxes;simp only [List.map_cons,srcs,hc]
        have hkn:=hk 0 (some b) (by rw [e1];rfl)
        have hbn:=hb 0 (.cells cs') rfl
        simp only [Nat.add_zero] at hkn hbn
        refine unview_tmps hR hkb bs keep vs (n+1) _ hvs (by omega) (put fun u hu=> ?_) (fun j s hs=> ?_) (fun j b' hb'=> ?_)
        ·have:=old u hu
         rw [hc] at this
         simp only [V] at this ⊢
         rw [hbn]
         refine ⟨by simp,fun _=> ?_⟩
         obtain ⟨blk,q1,q2⟩:=this.2 (by rw [hbx];trivial)
         refine ⟨blk,?_,by rw [q2,hoff]⟩
         show viewβ na β kb n blk
         unfold viewβ
         rw [if_neg (by omega),if_neg (by omega)]
         exact ⟨b,hkn,q1⟩
        ·have:=hk (j+1) s (by rw [e1];simpa using hs)
         rwa [show n+(j+1)=n+1+j by omega] at this
        ·have:=hb (j+1) b' (by show (Box.cells cs'::boxesOf vs)[j+1]? =_;simpa using hb')
         rwa [show n+(j+1)=n+1+j by omega] at this
       ·cases hv
      ·cases hv
     ·cases hv
    |nilS=>
     rw [hc] at hv
     simp only [viewAV] at hv
     cases kp with
     |grow T=>
      simp only at hv
      cases hv
      have e1:keptBoxes σ ((t,.grow T)::keep)=none::keptBoxes σ keep:=by unfold keptBoxes;simp only [List.map_cons,srcs,hc]
      have hbn:=hb 0 (.digs T []) rfl
      simp only [Nat.add_zero] at hbn
      refine unview_tmps hR hkb bs keep vs (n+1) _ hvs (by omega) (put fun u hu=> ?_) (fun j s hs=> ?_) (fun j b' hb'=> ?_)
      ·have:=old u hu
       rw [hc] at this
       simp only [V] at this ⊢
       rw [hbn]
       refine ⟨by simp,⟨_,_,_,this⟩,fun T' l' hl=> ?_⟩
       cases hl
       exact .inl ⟨this,rfl⟩
      ·have:=hk (j+1) s (by rw [e1];simpa using hs)
       rwa [show n+(j+1)=n+1+j by omega] at this
      ·have:=hb (j+1) b' (by show (Box.digs T []::boxesOf vs)[j+1]? =_;simpa using hb')
       rwa [show n+(j+1)=n+1+j by omega] at this
     |same=>exact plain hc hv (by unfold keptBoxes;simp only [List.map_cons,srcs,hc])
     |any=>exact plain hc hv (by unfold keptBoxes;simp only [List.map_cons,srcs,hc])
    |_=>
     rw [hc] at hv
     simp only [viewAV] at hv
     exact plain hc hv (by unfold keptBoxes;simp only [List.map_cons,srcs,hc])
theorem nodup_spec {l:List Nat} (h:nodup l=true):l.Nodup:=by
 have key:∀l:List Nat,(dedup l).length≤l.length∧((dedup l).length=l.length→l.Nodup):=by
  intro l
  induction l with
  |nil=>simp [dedup]
  |cons x l ih=>
   unfold dedup
   split
   ·refine ⟨by simp;omega,fun e=> ?_⟩
    simp at e;omega
   ·rename_i hx
    refine ⟨by simp;exact ih.1,fun e=> ?_⟩
    rw [List.nodup_cons]
    exact ⟨by simpa using hx,ih.2 (by simpa using e)⟩
 exact (key l).2 (by unfold nodup at h;simpa using h)
theorem nodup_opt:∀{l:List (Option Nat)},(l.filterMap id).Nodup→∀(i j x:Nat),l[i]? =some (some x)→l[j]? =some (some x)→i=j
 |[],_,i,j,x,h,_=>by simp at h
 |s::l,hn,i,j,x,hi,hj=>by
  have hn':(l.filterMap id).Nodup:=by
   cases s with
   |none=>simpa using hn
   |some y=>simp at hn;exact hn.2
  have hmem:∀k,l[k]? =some (some x)→x ∈ l.filterMap id:=fun k hk=>by
   rw [List.mem_filterMap]
   exact ⟨some x,List.mem_of_getElem? hk,rfl⟩
  cases i with
  |zero=>
   simp at hi
   subst hi
   cases j with
   |zero=>rfl
   |succ j=>
    exfalso
    simp at hn hj
    exact absurd (hmem j hj) (by simpa using hn.1)
  |succ i=>
   cases j with
   |zero=>
    exfalso
    simp at hj
    subst hj
    simp at hn hi
    exact absurd (hmem i hi) (by simpa using hn.1)
   |succ j=>have:=nodup_opt hn' i j x (by simpa using hi) (by simpa using hj);omega
theorem kept_live:∀(keep:List (Nat×Keep)) (vals:List AV),view na σ keep=some vals→∀i,some i ∈ keptBoxes σ keep→(∃T l,σ.box i= .digs T l)∨∃cs,σ.box i= .cells cs
 |[],vals,h,i,hi=>by simp [keptBoxes,srcs] at hi
 |(t,kp)::keep,vals,h,i,hi=>by
  simp only [view] at h
  split at h
  ·cases h
  ·rename_i v hv
   split at h
   ·cases h
   ·rename_i vs hvs
    have ih:=kept_live keep vs hvs i
    unfold keptBoxes at hi ih
    simp only [List.map_cons] at hi
    cases hc:σ.tmps.getD t .junk with
    |own b=>
     rw [hc] at hv
     simp only [viewAV] at hv
     simp only [srcs,hc] at hi
     rcases List.mem_cons.1 hi with h'|h'
     ·cases h'
      split at hv
      ·rename_i T l hb;exact .inl ⟨T,l,hb⟩
      ·cases hv
     ·exact ih h'
    |hand b gc lo len=>
     rw [hc] at hv
     simp only [viewAV] at hv
     simp only [srcs,hc] at hi
     rcases List.mem_cons.1 hi with h'|h'
     ·cases h'
      split at hv
      ·rename_i T l hb;exact .inl ⟨T,l,hb⟩
      ·cases hv
     ·exact ih h'
    |addr b off=>
     rw [hc] at hv
     simp only [viewAV] at hv
     simp only [srcs,hc] at hi
     rcases List.mem_cons.1 hi with h'|h'
     ·cases h'
      split at hv
      ·split at hv
       ·rename_i cs hb;exact .inr ⟨cs,hb⟩
       ·cases hv
      ·cases hv
     ·exact ih h'
    |nilS=>
     simp only [srcs,hc] at hi
     cases kp with
     |grow T=>simp at hi;exact ih hi
     |same=>exact ih hi
     |any=>exact ih hi
    |_=>simp only [srcs,hc] at hi;exact ih hi
theorem R.relayout (hR:R na β0 w0 σ β a w) {keep:List (Nat×Keep)} {vals:List AV} (hv:view na σ keep=some vals) (hn:nodup ((keptBoxes σ keep).filterMap id)=true):
  R na β0 w0 (layOut na σ.tmps.length keep vals) (viewβ na β (keptBoxes σ keep)) a w:=by
 have hlive:=kept_live keep vals hv
 have hkb:∀i,some i ∈ keptBoxes σ keep→σ.box i≠ .arena:=fun i hi=>by
  rcases hlive i hi with ⟨T,l,h⟩|⟨cs,h⟩<;>rw [h]<;>simp
 have hnd:=nodup_opt (nodup_spec hn)
 obtain ⟨hlen,hkept⟩:=view_kept hR hkb (boxesOf vals) keep vals hv
 have hbox:(layOut na σ.tmps.length keep vals).box=layBs na (boxesOf vals):=rfl
 have hid:∀i x,na<i→viewβ na β (keptBoxes σ keep) i x→∃j,na<j∧β j x∧((i=na+1∧some j ∉ keptBoxes σ keep)∨(na+2≤i∧(keptBoxes σ keep)[i-(na+2)]? =some (some j))):=by
  intro i x hi hx
  unfold viewβ at hx
  rw [if_neg (by omega)] at hx
  split at hx
  ·rename_i e
   obtain ⟨j,h1,h2,h3⟩:=hx
   exact ⟨j,h1,h3,.inl ⟨e,h2⟩⟩
  ·obtain ⟨j,h1,h2⟩:=hx
   exact ⟨j,hR.na_lt (hkb j (List.mem_of_getElem? h1)),h2,.inr ⟨by omega,h1⟩⟩
 refine ⟨?_,hR.defers,fun i=> ?_,fun i hi=> ?_,fun i x hi hx=> ?_,fun i x hi hx=> ?_,fun i j x hi hj hx hy=> ?_,fun i x hi hx=> ?_,hR.grow,fun i x hi hx=>by
  unfold viewβ at hx
  rw [if_pos hi] at hx
  exact hR.arg0 i x hi hx⟩
 ·rw [hbox]
  refine unview_tmps hR hkb (boxesOf vals) keep vals (na+2) _ hv (Nat.le_refl _) (Vs.of (by rw [List.length_replicate];exact hR.tmps.length) fun i c v h1 h2=> ?_) (fun j s hs=> ?_) (fun j b hb=> ?_)
  ·rw [List.getElem?_replicate] at h1
   split at h1
   ·cases h1;simp only [V]
   ·cases h1
  ·rwa [show na+2+j-(na+2)=j by omega]
  ·rw [layBs_high (by omega),show na+2+j-(na+2)=j by omega]
   simp [List.getD,hb]
 ·rw [hbox]
  by_cases hi:i<na+2
  ·rw [layBs_low hi];trivial
  ·rw [layBs_high (by omega)]
   cases hb:(boxesOf vals)[i-(na+2)]? with
   |none=>simp only [List.getD,hb];trivial
   |some b=>
    have hlt:i-(na+2)<(keptBoxes σ keep).length:=by rw [hlen];exact (List.getElem?_eq_some_iff.1 hb).1
    have hs:(keptBoxes σ keep)[i-(na+2)]? =some ((keptBoxes σ keep)[i-(na+2)]):=List.getElem?_eq_getElem hlt
    have hk:=hkept _ _ b hs hb
    have hβ:∀x,viewβ na β (keptBoxes σ keep) i x ↔ ∃j,(keptBoxes σ keep)[i-(na+2)]=some j∧β j x:=by
     intro x
     unfold viewβ
     rw [if_neg (by omega),if_neg (by omega),hs]
     constructor
     ·rintro ⟨j,h1,h2⟩;exact ⟨j,Option.some.inj h1,h2⟩
     ·rintro ⟨j,h1,h2⟩;exact ⟨j,by rw [h1],h2⟩
    simp only [List.getD,hb,Option.getD_some]
    generalize (keptBoxes σ keep)[i-(na+2)]=s at hk hβ
    cases s with
    |none=>
     obtain ⟨T,rfl⟩:=hk
     have hno:∀x,¬viewβ na β (keptBoxes σ keep) i x:=fun x hx=>by
      obtain ⟨j,h,_⟩:=(hβ x).1 hx
      cases h
     exact ⟨fun x y hx _=>absurd hx (hno x),⟨by simp,by simp⟩,fun x hx=>absurd hx (hno x)⟩
    |some j=>
     have hβ':∀x,viewβ na β (keptBoxes σ keep) i x ↔ β j x:=fun x=>by
      rw [hβ x]
      constructor
      ·rintro ⟨j',h1,h2⟩;cases h1;exact h2
      ·intro h;exact ⟨j,rfl,h⟩
     have hok:=hR.boxes j
     rcases hk with ⟨T,l,h1,rfl⟩|⟨cs,cs',h1,rfl,h2⟩
     ·rw [h1] at hok
      obtain ⟨q1,q2,q3⟩:=hok
      exact ⟨fun x y hx hy=>q1 x y ((hβ' x).1 hx) ((hβ' y).1 hy),q2,fun x hx=>q3 x ((hβ' x).1 hx)⟩
     ·rw [h1] at hok
      obtain ⟨blk,q1,vs,T,q2,q3⟩:=hok
      exact ⟨blk,fun x=>(hβ' x).trans (q1 x),vs,T,q2,h2 _ q3⟩
 ·rw [hbox,layBs_low (by omega)]
 ·unfold viewβ at hx
  rw [if_pos hi] at hx
  exact hR.old i x hi hx
 ·obtain ⟨j,h1,h2,_⟩:=hid i x hi hx
  exact hR.new j x h1 h2
 ·obtain ⟨i',h1,h2,h3⟩:=hid i x hi hx
  obtain ⟨j',k1,k2,k3⟩:=hid j x hj hy
  have e:=hR.disj i' j' x h1 k1 h2 k2
  subst e
  rcases h3 with ⟨e1,n1⟩|⟨e1,n1⟩<;>rcases k3 with ⟨e2,n2⟩|⟨e2,n2⟩
  ·omega
  ·exact absurd (List.mem_of_getElem? n2) n1
  ·exact absurd (List.mem_of_getElem? n1) n2
  ·have:=hnd _ _ _ n1 n2
   omega
 ·rw [hbox] at hi
  have hi':na+2≤i:=by
   rcases Nat.lt_or_ge i (na+2) with h|h
   ·rw [layBs_low h] at hi;cases hi
   ·exact h
  rw [layBs_high hi'] at hi
  obtain ⟨j,h1,h2,h3⟩:=hid i x (by omega) hx
  rcases h3 with ⟨e1,_⟩|⟨_,n1⟩
  ·omega
  ·have hlt:i-(na+2)<(boxesOf vals).length:=by rw [←hlen];exact (List.getElem?_eq_some_iff.1 n1).1
   have hb:(boxesOf vals)[i-(na+2)]? =some (boxesOf vals)[i-(na+2)]:=List.getElem?_eq_getElem hlt
   have hk:=hkept _ _ _ n1 hb
   simp only [List.getD,hb,Option.getD_some] at hi
   rcases hk with ⟨T,l,_,e⟩|⟨cs,cs',_,e,_⟩<;>rw [e] at hi<;>cases hi
end
end Go.AI

namespace Go.AI
open Go Go.RowKit
set_option linter.unusedVariables false
set_option linter.unusedSimpArgs false
theorem St.len_put (σ:St) (d:Option Tmp) (v:AV):(σ.put d v).tmps.length=σ.tmps.length:=by cases d<;>simp [St.put]
theorem St.len_apply (σ:St) (d:Option Tmp) (e:Eff):(σ.apply d e).tmps.length=σ.tmps.length:=by simp [St.apply,St.len_put]
section
variable {P:Program} {Inv:World→Prop} {na nt:Nat} {β0:Nat→Nat→Prop} {w0:World} {Φ:Nat→List AV→Option Spec} {Λ:Nat→Option LoopAnn} {ops:Array Oper}
theorem andO_mono {p:Option Prop} {q q':Prop} (h:q→q') (k:andO p q):andO p q':=by
 cases p with
 |none=>exact h k
 |some p=>exact ⟨k.1,h k.2⟩
theorem shareV_mono {v:AV} {k k':AV→Prop} (h:∀v,k v→k' v) (hs:shareV v k):shareV v k':=by
 unfold shareV at hs ⊢
 split
 ·exact fun l e=>h _ (hs l e)
 ·exact fun l e=>h _ (hs l e)
 ·exact fun l e=>h _ (hs l e)
 ·rename_i n1 n2 n3
  split at hs
  ·exact absurd rfl (n1 _ _)
  ·exact absurd rfl (n2 _ _)
  ·exact absurd rfl (n3 _)
  ·exact h _ hs
theorem shareVs_mono:∀{l:List AV} {k k':List AV→Prop},(∀v,k v→k' v)→shareVs l k→shareVs l k'
 |[],_,_,h,hs=>h _ hs
 |_::_,_,_,h,hs=>shareV_mono (fun _ h'=>shareVs_mono (fun _ h''=>h _ h'') h') hs
theorem shareW_mono {v:AV} {k k':AV→Prop} (h:∀v,k v→k' v) (hs:shareW v k):shareW v k':=by
 cases v with
 |agg cs=>exact shareVs_mono (fun _ h'=>h _ h') hs
 |dig p l=>exact fun l e=>h _ (hs l e)
 |num kd n=>exact fun l e=>h _ (hs l e)
 |bool b=>exact fun l e=>h _ (hs l e)
 |_=>exact h _ hs
theorem shareWs_mono:∀{l:List AV} {k k':List AV→Prop},(∀v,k v→k' v)→shareWs l k→shareWs l k'
 |[],_,_,h,hs=>h _ hs
 |_::_,_,_,h,hs=>shareW_mono (fun _ h'=>shareWs_mono (fun _ h''=>h _ h'') h') hs
theorem share_mono {v:AV} {k k':AV→Prop} (h:∀v,k v→k' v) (hs:share v k):share v k':=by
 cases v with
 |agg cs=>exact shareVs_mono (fun _ h'=>h _ h') hs
 |tup cs=>exact shareWs_mono (fun _ h'=>h _ h') hs
 |_=>exact h _ hs
theorem shareH_inst {v:AV} {k:AV→Prop} (h:shareH v k):k v:=by
 unfold shareH at h
 split at h
 ·exact h _ rfl
 ·exact shareV_inst h
theorem shareHs_inst:∀{l:List AV} {k:List AV→Prop},shareHs l k→k l
 |[],_,h=>h
 |v::l,k,h=>shareHs_inst (l:=l) (k:=fun l'=>k (v::l')) (shareH_inst (v:=v) (k:=fun v'=>shareHs l fun l'=>k (v'::l')) h)
theorem shareC_inst {l:List AV} {k:List AV→Prop} (h:shareC l k):k l:=by
 unfold shareC at h
 cases hb:l.any isHandv with
 |false=>rw [hb] at h;exact h
 |true=>rw [hb] at h;exact shareHs_inst h
theorem forceL_inst:∀{l:List Nat} {k:List Nat→Prop},forceL l k→k l
 |[],_,h=>h
 |x::l,k,h=>forceL_inst (l:=l) (k:=fun r=>k (x::r)) h
theorem evR_len {dr:Bool} {ban:Option (List Nat)} {lim:Nat} {K:St→Prop}:∀(L:List (Nat×Oper)) (σ:St),evR P Φ na dr ban lim ops L σ K→evR P Φ na dr ban lim ops L σ (fun σ'=>σ'.tmps.length=σ.tmps.length∧K σ')
 |[],σ,h=>⟨rfl,h⟩
 |x::L,σ,h=>by
  have stepMono:∀{s:St} {k k':St→Prop},(∀s',s'.tmps.length=s.tmps.length→k s'→k' s')→stepK P Φ na dr (eyes ban lim ops x.2) s x k→stepK P Φ na dr (eyes ban lim ops x.2) s x k':=by
   intro s k k' hk hs
   unfold stepK at hs ⊢
   split at hs
   ·rename_i e he
    refine andO_mono (fun hc=> ?_) hs
    cases hcall:isCall x.2.op<;>rw [hcall] at hc
    ·cases hbig:isBig x.2.op<;>rw [hbig] at hc
     ·exact hk _ (St.len_apply _ _ _) hc
     ·exact shareV_mono (fun v h=>hk _ (St.len_apply _ _ _) h) hc
    ·exact share_mono (fun v h=>hk _ (St.len_apply _ _ _) h) hc
   ·exact hs.elim
  have go:∀{s:St},s.tmps.length=σ.tmps.length→evR P Φ na dr ban lim ops L s K→evR P Φ na dr ban lim ops L s (fun σ'=>σ'.tmps.length=σ.tmps.length∧K σ'):=by
   intro s hs hr
   have:=evR_len L s hr
   rw [hs] at this
   exact this
  simp only [evR] at h ⊢
  split at h
  ·exact stepMono (fun s' h1 h2=>go h1 h2) h
  ·rename_i j want hg
   split at h
   ·exact h.elim
   ·rename_i d hj
    split at h
    ·rename_i b hd
     cases b<;>cases want<;>simp only [cond_true,cond_false] at h ⊢
     ·exact stepMono (fun s' h1 h2=>go (by rw [h1,St.len_put]) h2) h
     ·exact go (by rw [St.len_put,St.len_put]) h
     ·exact go (by rw [St.len_put,St.len_put]) h
     ·exact stepMono (fun s' h1 h2=>go (by rw [h1,St.len_put]) h2) h
    ·exact go (by rw [St.len_put]) h
    ·exact h.elim
theorem wp_loop_nat {c:Code} {Q:Exit→Act→World→Prop} (J:Nat→Act→World→Prop)
  (h:∀n a w,J n a w→c.wp P (Exit.then (fun a' w'=>∃m,m<n∧J m a' w') Q) a w) {n:Nat} {a:Act} {w:World} (h0:J n a w):(Code.loop c).wp P Q a w:=by
 have least:∀{p:Nat→Prop},(∃n,p n)→∃n,p n∧∀m,p m→n≤m:=by
  intro p ⟨n,hn⟩
  induction n using Nat.strongRecOn with
  |_ n ih=>
   by_cases hm:∃m,m<n∧p m
   ·obtain ⟨m,h1,h2⟩:=hm;exact ih m h1 h2
   ·exact ⟨n,hn,fun m hp=>by
     rcases Nat.lt_or_ge m n with h'|h'
     ·exact absurd ⟨m,h',hp⟩ hm
     ·exact h'⟩
 classical
 refine wp_loop (fun a w=>∃n,J n a w) (fun a w=>if hx:∃n,J n a w then Classical.choose (least hx) else 0) ⟨n,h0⟩ fun a w hI=> ?_
 have hx:=Classical.choose_spec (least hI)
 refine wp_mono (h _ a w hx.1) fun e a' w' hq=> ?_
 cases e with
 |normal=>
  obtain ⟨m,hm,hJ⟩:=hq
  refine ⟨⟨m,hJ⟩,?_⟩
  have hex:∃n,J n a' w':=⟨m,hJ⟩
  have:=(Classical.choose_spec (least hex)).2 m hJ
  rw [dif_pos hex,dif_pos hI]
  omega
 |_=>exact hq
def iterN (P:Program) (Φ:Nat→List AV→Option Spec) (Λ:Nat→Option LoopAnn) (na nt:Nat) (keep:List (Nat×Keep)) (body:Code):Nat→List AV→(Exit→List AV→Prop)→Prop
 |0,_,_=>False
 |n+1,vals,K=>evIter P Φ Λ na nt keep body vals fun e vals'=>match e with
  | .normal=>iterN P Φ Λ na nt keep body n vals' K
  |e=>K e vals'
def LoopOk (P:Program) (Φ:Nat→List AV→Option Spec) (Λ:Nat→Option LoopAnn) (na nt:Nat) (keep:List (Nat×Keep)) (body:Code) (ls:List AV→Option LR):Prop:=
 ∀vals r,ls vals=some r→∀K,evLR r K→∃n,iterN P Φ Λ na nt keep body n vals K
def Rel (na nt:Nat) (β0:Nat→Nat→Prop) (w0:World) (σ:St) (a:Act) (w:World):Prop:=σ.tmps.length=nt∧∃β,R na β0 w0 σ β a w
def RawOk (P:Program) (na nt:Nat) (body:Code) (g:St→Option (Exit×St)):Prop:=
 ∀(β0:Nat→Nat→Prop) (w0:World) (σ:St) (r:Exit×St) (a:Act) (w:World) (Q:Exit→Act→World→Prop),g σ=some r→Rel na nt β0 w0 σ a w→
  (∀a' w',Rel na nt β0 w0 r.2 a' w'→Q r.1 a' w')→(Code.loop body).wp P Q a w
def LoopsOk (P:Program) (Φ:Nat→List AV→Option Spec) (Λ:Nat→Option LoopAnn) (na nt:Nat):Code→Prop
 | .seq a b=>LoopsOk P Φ Λ na nt a∧LoopsOk P Φ Λ na nt b
 | .cond _ a b=>LoopsOk P Φ Λ na nt a∧LoopsOk P Φ Λ na nt b
 | .block _ a=>LoopsOk P Φ Λ na nt a
 | .loop a=>LoopsOk P Φ Λ na nt a∧(∀keep ls,Λ (firstRegion a)=some (.spec keep ls)→(LoopOk P Φ Λ na nt keep a ls))∧∀g,Λ (firstRegion a)=some (.raw g)→RawOk P na nt a g
 |_=>True
theorem freeze_digs {bx:Nat→Box}:∀(p:List Nat),(∀i ∈ p,∃T l,bx i= .digs T l)→freeze bx false p=some (p.map fun i=>(i,Box.dead))
 |[],_=>rfl
 |i::p,h=>by
  obtain ⟨T,l,hi⟩:=h i (by simp)
  unfold freeze
  rw [hi]
  simp only [freeze_digs p (fun j hj=>h j (by simp [hj])),List.map_cons]
  rfl
theorem isDigs_iff {b:Box}:isDigs b=true ↔ ∃T l,b= .digs T l:=by
 cases b<;>simp [isDigs]
theorem Rel.thaw {σ:St} {a:Act} {w:World} (h:Rel na nt β0 w0 σ a w):Rel na nt β0 w0 (AI.thaw σ) a w:=by
 obtain ⟨hnt,β,hR⟩:=h
 have hna:na<σ.boxes.length:=hR.len (i:=na) (by rw [hR.args na (Nat.le_refl _)];simp)
 let σ0:St:={σ with boxes:=σ.boxes++[.unborn]}
 have hbox0:∀i,σ0.box i=σ.box i:=by
  intro i
  show List.getD _ _ _=List.getD _ _ _
  simp only [σ0,List.getD,List.getElem?_append]
  split
  ·rfl
  ·rename_i hi
   rw [List.getElem?_eq_none (by omega:σ.boxes.length≤i)]
   cases hc:i-σ.boxes.length with
   |zero=>rfl
   |succ k=>rfl
 have hbx0:σ0.box=σ.box:=funext hbox0
 have hR0:R na β0 w0 σ0 β a w:=by
  refine ⟨by rw [hbx0];exact hR.tmps,hR.defers,fun i=>by rw [hbx0];exact hR.boxes i,fun i hi=>by rw [hbx0];exact hR.args i hi,hR.old,hR.new,hR.disj,fun i x hi=>by rw [hbx0] at hi;exact hR.unborn i x hi,hR.grow,hR.arg0⟩
 have hun:σ0.box σ.boxes.length= .unborn:=by
  rw [hbox0]
  show List.getD _ _ _=_
  simp [List.getD]
 have hlen0:σ.boxes.length<σ0.boxes.length:=by simp [σ0]
 have hR1:=hR0.newId (w':=w) hna hlen0 hun .arena (fun _=>False) (Grow.refl w) (by simp) (fun x hx=>hx.elim) trivial
 have hset:σ0.boxes.set σ.boxes.length .arena=σ.boxes++[.arena]:=by simp [σ0]
 rw [hset] at hR1
 have hbox1:∀i,St.box {σ0 with boxes:=σ.boxes++[.arena]} i=if i=σ.boxes.length then .arena else σ.box i:=by
  intro i
  rw [←hset,St.box_set _ _ _ _ hlen0,hbx0]
 have hids:∀i ∈ digsIds σ,i<σ.boxes.length∧∃T l,σ.box i= .digs T l:=fun i hi=>by
  unfold digsIds at hi
  rw [List.mem_filter] at hi
  exact ⟨by simpa using hi.1,isDigs_iff.1 hi.2⟩
 have hnd:(digsIds σ).Nodup:=List.Pairwise.filter _ List.nodup_range
 obtain ⟨β',h1,h2,h3,h4,h5⟩:=freeze_ok (bx:=σ.box) (n:=σ.boxes.length) false hna (digsIds σ) _ _ _ hnd (fun hm=>absurd (hids _ hm).1 (by omega)) (freeze_digs _ fun i hi=>(hids i hi).2) (fun i hi=> .inr (by
  rw [hbox1,if_neg (by have:=(hids i hi).1;omega)])) hR1 (by rw [hbox1,if_pos rfl])
 refine ⟨by simp [AI.thaw,hnt],β',?_⟩
 have hT:Vs ⟨St.box {σ0 with boxes:=setBoxes (σ.boxes++[.arena]) ((digsIds σ).map fun i=>(i,Box.dead))},β',w⟩ (σ.tmps.map (thawV σ.box σ.boxes.length)) a.tmps.toList:=by
  refine Vs.of (by rw [List.length_map];exact hR.tmps.length) fun i c v hc hv=> ?_
  rw [List.getElem?_map] at hc
  obtain ⟨c0,hc0,rfl⟩:=Option.map_eq_some_iff.1 hc
  unfold thawV
  split
  ·rename_i x hx
   cases ha:AV.asArg σ.box σ.boxes.length 8 c0 with
   |none=>simp only [Option.getD_none,V]
   |some c'=>
    simp only [Option.getD_some]
    refine asArg_V hR (Sub.refl _) (C':=⟨St.box {σ0 with boxes:=setBoxes (σ.boxes++[.arena]) ((digsIds σ).map fun i=>(i,Box.dead))},β',w⟩) rfl h2 8 c0 c' v (hR.tmps.at hc0 hv) ha fun j hj y hy=> ?_
    have hj':∃T l,σ.box j= .digs T l:=by
     unfold handOf at hx
     split at hx
     ·simp [AV.ids] at hj
      subst hj
      split at hx
      ·rename_i T l e;exact ⟨T,l,e⟩
      ·cases hx
     ·simp [AV.ids] at hj
      subst hj
      split at hx
      ·rename_i T l e;exact ⟨T,l,e⟩
      ·cases hx
     ·cases hx
    have hjl:=hR.len (i:=j) (by obtain ⟨T,l,e⟩:=hj';rw [e];simp)
    have hmem:j ∈ digsIds σ:=by
     unfold digsIds
     rw [List.mem_filter]
     exact ⟨by simpa using hjl,isDigs_iff.2 hj'⟩
    rcases h5 j hmem with ⟨q1,_⟩|⟨T,l,_,q2⟩
    ·obtain ⟨T,l,e⟩:=hj'
     rw [e] at q1;cases q1
    ·exact q2 y ((setβ_other _ _ (by omega) y).2 hy)
  ·exact h1.tmps.at hc0 hv
 exact ⟨hT,h1.defers,h1.boxes,h1.args,h1.old,h1.new,h1.disj,h1.unborn,h1.grow,h1.arg0⟩
theorem unview_length:∀(keep:List (Nat×Keep)) (vals:List AV) (n:Nat) (tmps:List AV),(unview n keep vals tmps).length=tmps.length
 |[],vals,n,tmps=>by simp [unview]
 |x::keep,[],n,tmps=>by simp [unview]
 |x::keep,v::vals,n,tmps=>by
  cases v<;>simp [unview,unview_length keep]
theorem evC_sound (hm:P.follows .mixedOrders=true) (hΦ:PhiOk P Inv Φ) (hGrow:∀w',GrowS (β0 (na+1)) w0 w'→Inv w'):∀(c:Code),LoopsOk P Φ Λ na nt c→∀(σ:St) (k:Exit→St→Prop) (a:Act) (w:World) (Q:Exit→Act→World→Prop),
  Rel na nt β0 w0 σ a w→evC P Φ Λ na c σ k→(∀e σ' a' w',k e σ'→Rel na nt β0 w0 σ' a' w'→Q e a' w')→c.wp P Q a w:=by
 intro c
 induction c with
 |skip=>intro _ σ k a w Q hR h hk;exact wp_skip (hk _ _ _ _ h hR)
 |region id ops draw=>
  intro _ σ0 k a w Q hR0 h hk
  obtain ⟨σ,hσ,hR⟩:∃σ,cond (thawAt Λ id) (thaw σ0) σ0=σ∧Rel na nt β0 w0 σ a w:=by
   refine ⟨_,rfl,?_⟩
   cases thawAt Λ id with
   |false=>exact hR0
   |true=>exact hR0.thaw
  obtain ⟨hnt,β,hR⟩:=hR
  let σ':St:={σ with boxes:=σ.boxes++List.replicate (countAllocs ops.toList) .unborn}
  have hbox:∀i,σ'.box i=σ.box i:=by
   intro i
   show List.getD _ _ _=List.getD _ _ _
   simp only [σ',List.getD,List.getElem?_append]
   split
   ·rfl
   ·rename_i hi
    rw [List.getElem?_eq_none (by omega:σ.boxes.length≤i)]
    rw [List.getElem?_replicate]
    split<;>rfl
  have hbx:σ'.box=σ.box:=funext hbox
  have hR':R na β0 w0 σ' β a w:=by
   refine ⟨by rw [hbx];exact hR.tmps,hR.defers,fun i=>by rw [hbx];exact hR.boxes i,fun i hi=>by rw [hbx];exact hR.args i hi,hR.old,hR.new,hR.disj,fun i x hi=>by rw [hbx] at hi;exact hR.unborn i x hi,hR.grow,hR.arg0⟩
  have hna:na<σ.boxes.length:=by
   rcases Nat.lt_or_ge na σ.boxes.length with h'|h'
   ·exact h'
   ·have:=hR.args na (Nat.le_refl _)
    simp [St.box,List.getD,List.getElem?_eq_none h'] at this
  have hrd:Ready na σ' σ.boxes.length ops.toList:=by
   refine ⟨hna,fun i hi=> ?_,by simp [σ']⟩
   rw [hbox]
   simp [St.box,List.getD,List.getElem?_eq_none hi]
  cases draw with
  |false=>
   have h':evR P Φ na false none σ.boxes.length ops (number σ.boxes.length ops.toList) σ' (fun σ=>k .normal σ):=by
    simp only [evC,hσ] at h
    exact h
   refine wp_region_list (evR_seq hΦ hGrow (K:=fun s=>s.tmps.length=σ'.tmps.length∧k .normal s) (fun s β a w hRs hks=>hk .normal s a w hks.2 ⟨by rw [hks.1];exact hnt,β,hRs⟩) σ.boxes.length ops.toList _ σ' β a w hR' hrd (evR_len _ _ h'))
  |true=>
   have go:∀ban,drawOk ban ops=true→evR P Φ na true ban σ.boxes.length ops (number σ.boxes.length ops.toList) σ' (fun σ=>k .normal σ)→(Code.region id ops true).wp P Q a w:=fun ban hok h'=>
    evR_draw hok hm hΦ hGrow (K:=fun s=>s.tmps.length=σ'.tmps.length∧k .normal s) (fun s β a w hRs hks=>hk .normal s a w hks.2 ⟨by rw [hks.1];exact hnt,β,hRs⟩) hR' hrd (evR_len _ _ h') id
   have h':cond (drawOk none ops) (evR P Φ na true none σ.boxes.length ops (number σ.boxes.length ops.toList) σ' (fun σ=>k .normal σ)) (forceL (bansOf σ.tmps ops) fun ban=>cond (drawOk (some ban) ops) (evR P Φ na true (some ban) σ.boxes.length ops (number σ.boxes.length ops.toList) σ' (fun σ=>k .normal σ)) False):=by
    simp only [evC,hσ] at h
    exact h
   cases hok:drawOk none ops with
   |true=>rw [hok] at h';exact go _ hok h'
   |false=>
    rw [hok] at h'
    replace h':=forceL_inst (k:=fun ban=>cond (drawOk (some ban) ops) (evR P Φ na true (some ban) σ.boxes.length ops (number σ.boxes.length ops.toList) σ' (fun σ=>k .normal σ)) False) h'
    cases hok2:drawOk (some (bansOf σ.tmps ops)) ops with
    |false=>rw [hok2] at h';exact h'.elim
    |true=>rw [hok2] at h';exact go _ hok2 h'
 |seq x y ihx ihy=>
  intro hl σ k a w Q hR h hk
  refine wp_seq (ihx hl.1 σ _ a w _ hR h fun e σ' a' w' he hR'=> ?_)
  cases e with
  |normal=>exact ihy hl.2 σ' k a' w' Q hR' he hk
  |_=>exact hk _ _ _ _ he hR'
 |cond c x y ihx ihy=>
  intro hl σ k a w Q hR h hk
  have hR0:=hR
  obtain ⟨hnt,β,hR⟩:=hR
  have hV:=hR.V_eval c
  simp only [evC] at h
  split at h
  ·rename_i t ht
   rw [ht] at hV
   refine wp_cond hV.bool_inv ?_
   split at h
   ·rename_i d
    have hd:σ.tmps.getD d .junk= .bool t:=ht
    have hp:=put_self hd
    cases t<;>simp only [cond_true,cond_false] at h<;>rw [hp] at h
    ·exact ihy hl.2 σ k a w Q hR0 h hk
    ·exact ihx hl.1 σ k a w Q hR0 h hk
   ·cases t<;>simp only [cond_true,cond_false] at h
    ·exact ihy hl.2 σ k a w Q hR0 h hk
    ·exact ihx hl.1 σ k a w Q hR0 h hk
  ·exact h.elim
 |block id x ih=>
  intro hl σ k a w Q hR h hk
  refine wp_block (ih hl σ _ a w _ hR h fun e σ' a' w' he hR'=> ?_)
  cases e with
  |exit i=>
   simp only [exitK] at he
   simp only [Exit.inBlock]
   split at he
   ·rename_i e;rw [if_pos e];exact hk _ _ _ _ he hR'
   ·rename_i e;rw [if_neg e];exact hk _ _ _ _ he hR'
  |_=>exact hk _ _ _ _ he hR'
 |loop x ih=>
  intro hl σ k a w Q hR h hk
  simp only [evC] at h
  split at h
  ·rename_i n _
   refine wp_loop_nat (fun n a w=>∃σ,Rel na nt β0 w0 σ a w∧unrollN (evC P Φ Λ na x) n σ k) (fun n a w ⟨σ,hR,hu⟩=> ?_) (n:=n) ⟨σ,hR,h⟩
   cases n with
   |zero=>exact hu.elim
   |succ n=>
    refine ih hl.1 σ _ a w _ hR hu fun e σ' a' w' he hR'=> ?_
    cases e with
    |normal=>exact ⟨n,by omega,σ',hR',he⟩
    |_=>exact hk _ _ _ _ he hR'
  ·rename_i g hΛ
   split at h
   ·rename_i r hg
    exact hl.2.2 g hΛ _ _ _ _ _ _ _ hg hR fun a' w' hR'=>hk _ _ _ _ h hR'
   ·exact h.elim
  ·rename_i keep ls hΛ
   have relay:∀{σ:St} {a:Act} {w:World} {k:List AV→Prop},Rel na nt β0 w0 σ a w→withView na keep σ k→∃vals,k vals∧Rel na nt β0 w0 (layOut na nt keep vals) a w:=by
    intro σ a w k ⟨hnt,β,hR⟩ hv
    unfold withView at hv
    split at hv
    ·rename_i vals hvals
     cases hn:nodup ((keptBoxes σ keep).filterMap id) with
     |false=>rw [hn] at hv;exact hv.elim
     |true=>
      rw [hn] at hv
      have:=hR.relayout hvals hn
      rw [hnt] at this
      exact ⟨vals,hv,by simp [layOut,unview_length],_,this⟩
    ·exact hv.elim
   have hnt:=hR.1
   obtain ⟨vals,hv,hR1⟩:=relay hR h
   replace hv:=shareC_inst hv
   split at hv
   ·rename_i r hr
    rw [hnt] at hv
    obtain ⟨n,hit⟩:=hl.2.1 keep ls hΛ vals r hr _ hv
    refine wp_loop_nat (fun n a w=>∃vals,Rel na nt β0 w0 (layOut na nt keep vals) a w∧iterN P Φ Λ na nt keep x n vals (fun e vals'=>shareC vals' fun vals'=>k e (layOut na nt keep vals'))) (fun n a w ⟨vals,hR,hu⟩=> ?_) (n:=n) ⟨vals,hR1,hit⟩
    cases n with
    |zero=>exact hu.elim
    |succ n=>
     refine ih hl.1 _ _ a w _ hR hu fun e σ' a' w' he hR'=> ?_
     obtain ⟨vals',hv',hR2⟩:=relay hR' he
     cases e with
     |normal=>exact ⟨n,by omega,vals',hR2,hv'⟩
     |_=>exact hk _ _ _ _ (shareC_inst hv') hR2
   ·exact hv.elim
  ·exact h.elim
 |exit id=>intro _ σ k a w Q hR h hk;exact wp_exit (hk _ _ _ _ h hR)
 |ret=>intro _ σ k a w Q hR h hk;exact wp_ret (hk _ _ _ _ h hR)
 |rangeFunc=>intro _ σ k a w Q hR h hk;exact h.elim
 |scope=>intro _ σ k a w Q hR h hk;exact h.elim
 |label=>intro _ σ k a w Q hR h hk;exact h.elim
 |goto=>intro _ σ k a w Q hR h hk;exact h.elim
 |refuse=>intro _ σ k a w Q hR h hk;exact h.elim
end
end Go.AI
