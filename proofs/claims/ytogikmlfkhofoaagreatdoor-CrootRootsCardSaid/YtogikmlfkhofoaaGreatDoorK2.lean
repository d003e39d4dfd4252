/- My texts AIop5, AIop6, AIop7, AIop8, AIcall, AIcall2, in one. -/
import Derived.Test.YtogikmlfkhofoaaGreatDoorK1
open Array renaming getElem?_eq_some_iff→Q8
open BitVec renaming ofInt→A7
open Bool renaming and_eq_true→K9,false_eq_true→J7
open List renaming append_assoc→U8,getD→M6,getElem?_append_left→DU,getElem?_append_right→AJ,getElem?_drop→Y5,getElem?_eq_some_iff→X3,getElem?_take→AK,getElem?_toArray→MH,length_append→g7,map_cons→W9,mem_append→DO,mem_cons→Q5,mem_flatMap→p9,mem_of_getElem?→X7
open Nat renaming add_assoc→GI,add_mul→H2,add_zero→I4,le_refl→I6,mul_one→M0,zero_add→N9,zero_mul→R2
open Option renaming isSome_iff_exists→q8,map_none→FN,map_some→AW
namespace Go.AI
open Go Go.RowKit
set_option linter.unusedVariables false
set_option linter.unusedSimpArgs false
section
variable {P:Program} {na:Nat} {β0:Nat→Nat→Prop} {w0:World} {σ:St} {β:Nat→Nat→Prop} {a:Act} {w:World} {o:Oper} {bx:Nat→Box} {Φ:Nat→List AV→Option Spec} {dr:Bool} {n:Nat} {e:Eff}
theorem F8.pure' {v:Value} {c:AV} {p:Option Prop} (hR:R na β0 w0 σ β a w) (hrun:(execOp a.eval o).run P w= .ok (.value v) w) (hV:V ⟨σ.box,β,w⟩ c v):
  F8 P na β0 w0 (σ.apply o.dst ⟨p,c,[]⟩) o a w:=F8.value hrun hR hV
theorem C22 (hR:R na β0 w0 σ β a w) {op:UnOp} {t:TypeId} {x:Operand} (ho:o.op= .unOp op t x)
  (he:eff P Φ na dr σ.eval bx n o=some e):F8 P na β0 w0 (σ.apply o.dst e) o a w:=by
 have hV:=hR.O2 x
 unfold eff at he
 rw [ho] at he
 simp only at he
 split at he
 ·rename_i v h
  cases he
  unfold D47 at h
  split at h
  ·rename_i k m hx
   rw [hx] at hV
   have ex:=hV.num_inv
   split at h
   ·cases h
    exact F8.pure' hR (v:= .int k (k.wrap (0-m))) (by simp only [execOp,ho,ex,Op.unary,Op.intArith,Sem.run_bind,Sem.run_pure,Result.andThen_ok]) (by simp only [V];exact ⟨trivial,RW _ _⟩)
   ·simp only [C3v] at h
    cases h
    exact F8.pure' hR (v:= .int k (k.wrap (A7 k.bits (if k.signed then -1 else k.max)^^^A7 k.bits m).toNat)) (by simp only [execOp,ho,ex,Op.unary,Op.intBits,Sem.run_bind,Sem.run_pure,Result.andThen_ok]) (by simp only [V];exact ⟨trivial,RW _ _⟩)
   ·cases h
  ·rename_i b hx
   rw [hx] at hV
   have ex:=hV.ET
   split at h
   ·cases h
    exact F8.pure' hR (v:= .bool !b) (by simp only [execOp,ho,ex,Op.unary,Sem.run_bind,Sem.run_pure,Result.andThen_ok]) (by simp only [V])
   ·cases h
  ·cases h
 ·cases he
theorem A4q (hR:R na β0 w0 σ β a w) {t t':TypeId} {x:Operand} (ho:o.op= .convert t t' x)
  (he:eff P Φ na dr σ.eval bx n o=some e):F8 P na β0 w0 (σ.apply o.dst e) o a w:=by
 have hV:=hR.O2 x
 unfold eff at he
 rw [ho] at he
 simp only at he
 split at he
 ·rename_i k1 k2 k3 m h1 h2 hx
  cases he
  rw [hx] at hV
  have ex:=hV.num_inv
  have u1:∃k,P.underlying t=some (.int k):=by
   unfold A87 at h1;split at h1
   ·rename_i k hk;exact ⟨k,hk⟩
   ·cases h1
  have u2:P.underlying t'=some (.int k2):=by
   unfold A87 at h2;split at h2
   ·rename_i k hk;cases h2;exact hk
   ·cases h2
  obtain ⟨k,u1⟩:=u1
  have hrun:(convert t t' (.int k3 m)).run P w= .ok (.int k2 (k2.wrap m)) w:=by
   simp [convert,run_underlying u1,run_underlying u2,Conv.intToInt]
  refine F8.pure' hR (v:= .int k2 (k2.wrap m)) ?_ (by simp only [V];exact ⟨trivial,RW _ _⟩)
  simp only [execOp,ho,ex,Sem.run_bind,Result.andThen_ok,hrun,Sem.run_pure]
 ·cases he
theorem a8 {t el:TypeId} (h:P.underlying t=some (.slice el)):P.elem t=el:=by simp [Program.elem,h]
theorem JI.drop {f:Nat→Prop} {base:Option Addr} {cap:Nat} {l:List Nat} (h:JI w f base cap l) {k:Nat} (hk:k≤l.length):
  JI w f (if cap=k then base else base.map (·.add (k*1))) (cap-k) (l.drop k):=by
 rcases h with ⟨h1,h2⟩|⟨b,off,cells,T,fr,h1,h2,h3,h4,h6,h5⟩
 ·subst h1;subst h2
  exact .inl ⟨by split<;>rfl,by simp⟩
 ·subst h1
  by_cases hc:cap=k
  ·rw [if_pos hc]
   exact .inr ⟨b,off,cells,T,fr,rfl,h2,h3,by simp;omega,fun j hj=>by omega,fun j x hj=>by rw [List.drop_eq_nil_of_le (by omega)] at hj;simp at hj⟩
  ·rw [if_neg hc]
   refine .inr ⟨b,off+k,cells,T,fr,by simp [Z9],h2,h3,by simp;omega,fun j hj=>by have:=h6 (k+j) (by omega);omega,fun j x hj=> ?_⟩
   rw [Y5] at hj
   have:=h5 (k+j) x hj
   rwa [←GI] at this
theorem JI.take {f:Nat→Prop} {base:Option Addr} {cap:Nat} {l:List Nat} (h:JI w f base cap l) (k:Nat):JI w f base cap (l.take k):=by
 rcases h with ⟨h1,h2⟩|⟨b,off,cells,T,fr,h1,h2,h3,h4,h6,h5⟩
 ·subst h2;exact .inl ⟨h1,by simp⟩
 ·refine .inr ⟨b,off,cells,T,fr,h1,h2,h3,by simp;omega,h6,fun j x hj=> ?_⟩
  rw [AK] at hj
  split at hj
  ·exact h5 j x hj
  ·cases hj
theorem BC.take {l:List Nat} (h:BC l) (k:Nat):BC (l.take k):=⟨by have:=h.1;simp;omega,fun x hx=>h.2 x (List.mem_of_mem_take hx)⟩
theorem BC.drop {l:List Nat} (h:BC l) (k:Nat):BC (l.drop k):=⟨by have:=h.1;simp;omega,fun x hx=>h.2 x (List.mem_of_mem_drop hx)⟩
theorem JI.cap {f:Nat→Prop} {base:Option Addr} {cap:Nat} {l:List Nat} (h:JI w f base cap l):l.length≤cap:=by
 rcases h with ⟨h1,h2⟩|⟨b,off,cells,T,fr,h1,h2,h3,h4,h5⟩
 ·subst h2;simp
 ·exact h4
theorem ZW {t m s:Nat} (h:C3p P t=some (m,s)):∃el,P.underlying t=some (.array m el)∧BE P el=some s∧m≤64:=by
 unfold C3p at h
 split at h
 ·rename_i n el hu
  split at h
  ·rename_i s' hs
   split at h
   ·rename_i hn
    cases h
    exact ⟨el,hu,hs,hn⟩
   ·cases h
  ·cases h
 ·cases h
theorem B61 (hR:R na β0 w0 σ β a w) (hb:Sub bx σ.box) {t:TypeId} {x:Operand} {lo hi mx:Option Operand} (ho:o.op= .slice t x lo hi mx)
  (he:eff P Φ na dr σ.eval bx n o=some e) (hp:C6 e.pre True):F8 P na β0 w0 (σ.apply o.dst e) o a w:=by
 have hV:=hR.O2 x
 unfold eff at he
 rw [ho] at he
 simp only at he
 split at he
 ·rename_i p l hel hx
  rw [hx] at hV
  simp only [V] at hV
  obtain ⟨hbn,hok,base,cap,hxv,hd⟩:=hV
  split at he
  ·rename_i har
   have hdig:=hd (Y6 hb β w har)
   have hcap:=hdig.cap
   obtain ⟨el,hu⟩:∃el,y6 P t=some el:=by
    unfold CG at hel;exact q8.1 hel
   obtain ⟨u1,u2,i,u3,u4,u5,u6⟩:=V8 hu
   have ht:P.underlying t=some (.slice (P.elem t)):=by rw [a8 u1];exact u1
   have hsz:(sizeOf (P.elem t)).run P w= .ok 1 w:=by rw [a8 u1];exact run_sizeOf (by simp [BE,u3,u4]) w
   split at he
   ·rename_i lo'
    have hVl:=hR.O2 lo'
    split at he
    ·rename_i k m hlo
     cases he
     rw [hlo] at hVl
     have el':=hVl.num_inv
     obtain ⟨⟨p1,p2⟩,_⟩:=hp
     refine F8.pure' hR (v:= .slice (if cap=m.toNat then base else base.map (·.add (m.toNat*1))) (l.drop m.toNat).length (cap-m.toNat)) ?_ ?_
     ·have hr:=run_slice_l (P:=P) w t base l.length cap ht k m p1 (by omega)
      simp only [execOp,ho,hxv,AW,FN,el',Sem.run_bind,run_sliceAt_slice w t _ _ _ _ ht,hr,hsz,Result.andThen_ok,Sem.run_pure,sliced,List.length_drop]
     ·simp only [V]
      exact ⟨hbn,hok.drop _,_,_,rfl,fun _=>hdig.drop (by omega)⟩
    ·cases he
   ·rename_i hi'
    have hVh:=hR.O2 hi'
    split at he
    ·rename_i k m hhi
     cases he
     rw [hhi] at hVh
     have eh:=hVh.num_inv
     obtain ⟨⟨p1,p2⟩,_⟩:=hp
     have hlen:(l.take m.toNat).length=m.toNat:=by simp;omega
     refine F8.pure' hR (v:= .slice base (l.take m.toNat).length cap) ?_ ?_
     ·have hr:=run_slice_h (P:=P) w t base l.length cap ht k m p1 (by omega)
      simp only [execOp,ho,hxv,AW,FN,eh,Sem.run_bind,run_sliceAt_slice w t _ _ _ _ ht,hr,hsz,Result.andThen_ok,Sem.run_pure,sliced,hlen,R2,Nat.sub_zero,Addr.add_zero']
      congr 2
      split<;>cases base<;>simp
     ·simp only [V]
      exact ⟨hbn,hok.take _,_,_,rfl,fun _=>hdig.take _⟩
    ·cases he
   ·rename_i lo' hi'
    have hVl:=hR.O2 lo'
    have hVh:=hR.O2 hi'
    split at he
    ·rename_i k m k' m' hlo hhi
     cases he
     rw [hlo] at hVl
     rw [hhi] at hVh
     have el':=hVl.num_inv
     have eh:=hVh.num_inv
     obtain ⟨⟨p1,p2,p3⟩,_⟩:=hp
     have hlen:((l.take m'.toNat).drop m.toNat).length=m'.toNat-m.toNat:=by simp;omega
     refine F8.pure' hR (v:= .slice (if cap=m.toNat then base else base.map (·.add (m.toNat*1))) ((l.take m'.toNat).drop m.toNat).length (cap-m.toNat)) ?_ ?_
     ·have hr:=run_slice_lh (P:=P) w t base l.length cap ht k k' m m' p1 p2 (by omega)
      simp only [execOp,ho,hxv,AW,FN,el',eh,Sem.run_bind,run_sliceAt_slice w t _ _ _ _ ht,hr,hsz,Result.andThen_ok,Sem.run_pure,sliced,hlen]
     ·simp only [V]
      exact ⟨hbn,(hok.take _).drop _,_,_,rfl,fun _=>(hdig.take _).drop (by simp;omega)⟩
    ·cases he
   ·cases he
    refine F8.pure' hR (v:= .slice base l.length cap) ?_ ?_
    ·have hr:=run_slice_all (P:=P) w t base l.length cap ht
     simp only [execOp,ho,hxv,AW,FN,Sem.run_bind,run_sliceAt_slice w t _ _ _ _ ht,hr,hsz,Result.andThen_ok,Sem.run_pure,sliced,R2,Nat.sub_zero,Addr.add_zero']
     congr 2
     split<;>cases base<;>simp
    ·simp only [V]
     exact ⟨hbn,hok,_,_,rfl,fun _=>hdig⟩
  ·cases he
 ·rename_i b hel hx
  rw [hx] at hV
  simp only [V] at hV
  obtain ⟨hbn,_,hd⟩:=hV
  obtain ⟨el,hu⟩:∃el,y6 P t=some el:=by
   unfold CG at hel;exact q8.1 hel
  obtain ⟨u1,u2,i,u3,u4,u5,u6⟩:=V8 hu
  have ht:P.underlying t=some (.slice (P.elem t)):=by rw [a8 u1];exact u1
  have hsz:(sizeOf (P.elem t)).run P w= .ok 1 w:=by rw [a8 u1];exact run_sizeOf (by simp [BE,u3,u4]) w
  split at he
  ·rename_i T l hbx
   have hσ:=hb.D1 hbx
   split at he
   ·rename_i hi'
    have hVh:=hR.O2 hi'
    split at he
    ·rename_i k m hhi
     cases he
     rw [hhi] at hVh
     have eh:=hVh.num_inv
     obtain ⟨⟨p0,p1,p2⟩,_⟩:=hp
     rcases hd T l hσ with ⟨_,h2⟩|⟨blk,cap,h1,hxv,h3,h4,cs,h5,h6⟩
     ·subst h2;simp at p0
     refine F8.pure' hR (v:= .slice (some ⟨blk,0,none⟩) m.toNat cap) ?_ ?_
     ·have hr:=run_slice_h (P:=P) w t (some ⟨blk,0,none⟩) l.length cap ht k m p1 (by omega)
      simp only [execOp,ho,hxv,AW,FN,eh,Sem.run_bind,run_sliceAt_slice w t _ _ _ _ ht,hr,hsz,Result.andThen_ok,Sem.run_pure,sliced,R2,Nat.sub_zero,Addr.add_zero']
      congr 2
      split<;>simp
     ·simp only [V]
      refine ⟨hbn,blk,cap,.inl trivial,rfl,by omega,fun T' l' hl=> ?_⟩
      rw [hσ] at hl
      cases hl
      exact ⟨h1,by omega,cs,h5,by omega⟩
    ·cases he
   ·rename_i lo' hi'
    have hVl:=hR.O2 lo'
    have hVh:=hR.O2 hi'
    split at he
    ·rename_i k m k' m' hlo hhi
     cases he
     rw [hlo] at hVl
     rw [hhi] at hVh
     have el':=hVl.num_inv
     have eh:=hVh.num_inv
     obtain ⟨⟨p1,p2,p3⟩,_⟩:=hp
     rcases hd T l hσ with ⟨_,h2⟩|⟨blk,cap,h1,hxv,h3,h4,cs,h5,h6⟩
     ·subst h2;simp at p3;omega
     refine F8.pure' hR (v:= .slice (some ⟨blk,m.toNat,none⟩) (m'.toNat-m.toNat) (cap-m.toNat)) ?_ ?_
     ·have hr:=run_slice_lh (P:=P) w t (some ⟨blk,0,none⟩) l.length cap ht k k' m m' p1 (by omega) (by omega)
      simp only [execOp,ho,hxv,AW,FN,el',eh,Sem.run_bind,run_sliceAt_slice w t _ _ _ _ ht,hr,hsz,Result.andThen_ok,Sem.run_pure,sliced]
      rw [if_neg (by omega)]
      simp [Z9]
     ·simp only [V]
      refine ⟨hbn,blk,cap-m.toNat,.inl trivial,rfl,by omega,fun T' l' hl=> ?_⟩
      rw [hσ] at hl
      cases hl
      exact ⟨h1,by omega,cs,h5,by omega⟩
    ·cases he
   ·cases he
  ·cases he
 ·rename_i b gc off len hel hx
  rw [hx] at hV
  simp only [V] at hV
  obtain ⟨hbn,g,cap,hgc,hxv,hlc,hd⟩:=hV
  obtain ⟨el,hu⟩:∃el,y6 P t=some el:=by
   unfold CG at hel;exact q8.1 hel
  obtain ⟨u1,u2,i,u3,u4,u5,u6⟩:=V8 hu
  have ht:P.underlying t=some (.slice (P.elem t)):=by rw [a8 u1];exact u1
  have hsz:(sizeOf (P.elem t)).run P w= .ok 1 w:=by rw [a8 u1];exact run_sizeOf (by simp [BE,u3,u4]) w
  split at he
  ·rename_i T l hbx
   split at he
   ·rename_i hi'
    have hVh:=hR.O2 hi'
    split at he
    ·rename_i k m hhi
     cases he
     rw [hhi] at hVh
     have eh:=hVh.num_inv
     obtain ⟨⟨p1,p2⟩,_⟩:=hp
     refine F8.pure' hR (v:= .slice (some ⟨g,off,none⟩) m.toNat cap) ?_ ?_
     ·have hr:=run_slice_h (P:=P) w t (some ⟨g,off,none⟩) len cap ht k m p1 (by omega)
      simp only [execOp,ho,hxv,AW,FN,eh,Sem.run_bind,run_sliceAt_slice w t _ _ _ _ ht,hr,hsz,Result.andThen_ok,Sem.run_pure,sliced,R2,Nat.sub_zero,Addr.add_zero']
      congr 2
      split<;>simp
     ·simp only [V]
      refine ⟨hbn,g,cap,hgc,rfl,by omega,fun T' l' hl=> ?_⟩
      obtain ⟨h1,h2,h3⟩:=hd T' l' hl
      exact ⟨h1,by omega,h3⟩
    ·cases he
   ·cases he
  ·cases he
 ·rename_i b off hel hx
  rw [hx] at hV
  simp only [V] at hV
  split at he
  ·rename_i lo'
   have hVl:=hR.O2 lo'
   split at he
   ·rename_i k l hlo
    split at he
    ·rename_i cs m s hbx har
     split at he
     ·rename_i hc
      cases he
      rw [hlo] at hVl
      have el':=hVl.num_inv
      obtain ⟨el,u1,u2,u3⟩:=ZW har
      obtain ⟨blk,hβ,hxv⟩:=hV.2 (by rw [hb.cells hbx];trivial)
      refine F8.pure' hR (v:= .slice (some ⟨blk,off+l.toNat*s,none⟩) (m-l.toNat) (m-l.toNat)) ?_ ?_
      ·have hsz:=run_sizeOf u2 w
       have hbd:=run_sliceBound (P:=P) w k l m .sliceB hc.1 (by omega)
       simp only [execOp,ho,hxv,AW,FN,el',Instr.sliceAt,Sem.run_bind,run_underlying u1,Result.andThen_ok,Instr.sureAddr,Sem.run_pure,Instr.sliceBounds,hbd,hsz,Option.isSome_none,J7,if_false]
       rw [if_neg (by omega),Z9]
      ·simp only [V]
       exact ⟨hV.1,by omega,fun _=>⟨blk,hβ,rfl⟩⟩
     ·cases he
    ·cases he
   ·cases he
  ·cases he
 ·cases he
theorem KU {t:TypeId} {f off s:Nat} {ty:TypeId} (h:YW P t f=some (off,s,ty)):∃fs fd,P.underlying t=some (.struct fs)∧fs[f]? =some fd∧fd.offset=off∧fd.type=ty∧BE P fd.type=some s:=by
 unfold YW at h
 split at h
 ·rename_i fs hu
  split at h
  ·rename_i fd hf
   split at h
   ·rename_i s' hs
    cases h
    exact ⟨fs,fd,hu,hf,rfl,rfl,hs⟩
   ·cases h
  ·cases h
 ·cases h
theorem YI (hR:R na β0 w0 σ β a w) (hb:Sub bx σ.box) {t:TypeId} {x:Operand} {f:Nat} (ho:o.op= .fieldAddr t x f)
  (he:eff P Φ na dr σ.eval bx n o=some e):F8 P na β0 w0 (σ.apply o.dst e) o a w:=by
 have hV:=hR.O2 x
 unfold eff at he
 rw [ho] at he
 simp only at he
 split at he
 ·rename_i off s ty b o' hf hx
  split at he
  ·cases he
  rename_i hs0
  split at he
  ·rename_i cs hbx
   cases he
   obtain ⟨fs,fd,u1,u2,u3,u4,u5⟩:=KU hf
   rw [hx] at hV
   simp only [V] at hV
   obtain ⟨blk,hβ,hxv⟩:=hV.2 (by rw [hb.cells hbx];trivial)
   refine F8.pure' hR (v:= .pointer (some ⟨blk,o'+off,none⟩)) ?_ (by simp only [V];exact ⟨hV.1,fun _=>⟨blk,hβ,rfl⟩⟩)
   simp only [execOp,ho,hxv,Instr.fieldAt,Sem.run_bind,run_underlying u1,Result.andThen_ok,u2,Instr.sureAddr,Sem.run_pure,fieldPlace,run_sizeOf u5,if_neg hs0,Z9,u3]
  ·cases he
 ·rename_i off s ty p cs hf hx
  split at he
  ·cases he
  ·rename_i hs0
   cases he
   obtain ⟨fs,fd,u1,u2,u3,u4,u5⟩:=KU hf
   rw [hx] at hV
   simp only [V] at hV
   obtain ⟨hbn,vs,hvs,b,o',hxv,hc⟩:=hV
   refine F8.pure' hR (v:= .pointer (some ⟨b,o'+off,none⟩)) ?_ ?_
   ·simp only [execOp,ho,hxv,Instr.fieldAt,Sem.run_bind,run_underlying u1,Result.andThen_ok,u2,Instr.sureAddr,Sem.run_pure,fieldPlace,run_sizeOf u5,if_neg hs0,Z9,u3]
   ·simp only [V]
    refine ⟨hbn,_,hvs.drop off,b,o'+off,rfl,fun ha=>⟨(hc ha).1,fun j u hj=> ?_⟩⟩
    rw [Y5] at hj
    have:=(hc ha).2 (off+j) u hj
    rwa [←GI] at this
 ·cases he
theorem A23 {C:Ctx} {t:TypeId} {cs:List AV} {c:AV} {off:Nat} (hp:JC P t (cs.drop off)=some c) {vs:List Value} (hvs:Vs C cs vs) (w:World):
  ∃v,(part t vs.toArray off).run P w= .ok v w∧V C c v:=by
 unfold JC at hp
 split at hp
 ·rename_i s h1 h2
  split at hp
  ·cases hp
   refine ⟨.agg (vs.toArray.extract off (off+s)),?_,?_⟩
   ·simp only [part,Sem.run_bind,JZ h1,Result.andThen_ok,if_true,run_sizeOf h2,Sem.run_pure]
   ·simp only [V]
    refine ⟨(vs.drop off).take s,?_,(hvs.drop off).take s⟩
    simp [List.take_drop]
  ·cases hp
 ·rename_i h1
  cases hd:cs.drop off with
  |nil=>rw [hd] at hp;simp at hp
  |cons c' cs'=>
   rw [hd] at hp
   simp at hp
   subst hp
   have hc:cs[off]? =some c':=by
    have:(cs.drop off)[0]? =some c':=by rw [hd];rfl
    rw [Y5] at this
    simpa using this
   obtain ⟨v,hv1,hv2⟩:=hvs.get hc
   refine ⟨v,?_,hv2⟩
   simp only [part,Sem.run_bind,JZ h1,Result.andThen_ok,J7,if_false,MH,hv1,Sem.run_pure]
 ·cases hp
theorem B5p {C:Ctx} {d:Nat} {g:TypeId→AV→AV→Option Bool} {xs ys:List AV} {us vs:List Value} (hx:Vs C xs us) (hy:Vs C ys vs) (w:World)
  (ih:∀(t:TypeId) (x y:AV) (b:Bool) (u v:Value),g t x y=some b→V C x u→V C y v→(Op.equalIn d t u v).run P w= .ok b w):
  ∀(fs:List Field) (b:Bool),D2o P g xs ys fs=some b→(Op.eqFields d us.toArray vs.toArray fs).run P w= .ok b w
 |[],b,h=>by
  cases h
  simp [Op.eqFields]
 |f::fs,b,h=>by
  unfold D2o at h
  split at h
  ·cases h
  ·rename_i hn
   split at h
   ·rename_i a c ha hc
    split at h
    ·rename_i r s hr hs
     cases h
     obtain ⟨u,p1,v1⟩:=A23 (P:=P) ha hx w
     obtain ⟨v,p2,v2⟩:=A23 (P:=P) hc hy w
     have p3:=ih _ _ _ _ _ _ hr v1 v2
     have p4:=B5p hx hy w ih fs s hs
     simp only [Op.eqFields,hn,ne_eq,not_false_eq_true,if_true,Sem.run_bind,p1,p2,p3,Result.andThen_ok]
     cases r
     ·simp
     ·simpa using p4
    ·cases h
   ·cases h
theorem B0c {C:Ctx} (w:World):∀(n d:Nat) (t:TypeId) (x y:AV) (b:Bool) (u v:Value),eqA P n t x y=some b→V C x u→V C y v→(Op.equalIn (d+n) t u v).run P w= .ok b w
 |0,_,_,_,_,_,_,_,h,_,_=>by cases h
 |n+1,d,t,x,y,b,u,v,h,hx,hy=>by
  unfold eqA at h
  split at h
  ·rename_i hu
   split at h
   ·cases h
    rw [hx.ET,hy.ET]
    exact run_equalIn_bool w (d+n) t _ _ hu
   ·cases h
  ·rename_i k0 hu
   split at h
   ·rename_i k a k' b'
    split at h
    ·rename_i e
     subst e
     cases h
     rw [hx.num_inv,hy.num_inv]
     exact run_equalIn_int w (d+n) t _ _ _ _ hu
    ·cases h
   ·cases h
  ·rename_i fs hu
   split at h
   ·rename_i xs ys
    split at h
    ·cases h
    ·rename_i hst
     simp only [V] at hx hy
     obtain ⟨us,rfl,hus⟩:=hx
     obtain ⟨vs,rfl,hvs⟩:=hy
     have hfs:P.fieldsOf t=fs:=by simp [Program.fieldsOf,hu]
     rw [show d+(n+1)=(d+n)+1 from rfl,run_equalIn_struct w (d+n) t _ _ (by rw [hfs];exact hu) (by simpa using hst),hfs]
     exact B5p hus hvs w (fun t x y b u v h h1 h2=>B0c w n d t x y b u v h h1 h2) fs.toList b h
   ·cases h
  ·cases h
theorem B85 {op:BinOp} {t:TypeId} {x y:AV} {e:Eff} (he:ZR P op t x y=some e):e.upd=[]:=by
 unfold ZR at he
 (repeat' split at he)<;>cases he<;>rfl
theorem C1e {C:Ctx} {op:BinOp} {t:TypeId} {xo yo:Operand} {x y:AV} {u v:Value} {e:Eff} (he:ZR P op t x y=some e) (hx:V C x u) (hy:V C y v) (w:World):
  e.upd=[]∧∃r,((do eqGuard op t xo yo u v;binOp op t u v:Sem Value)).run P w= .ok r w∧V C e.val r:=by
 unfold ZR at he
 split at he
 ·rename_i xs ys
  split at he
  ·cases he
  ·rename_i hg
   have hg:P.eqGuardType P.depth t=false:=by simpa using hg
   have hx':=hx
   have hy':=hy
   simp only [V] at hx' hy'
   obtain ⟨us,rfl,hus⟩:=hx'
   obtain ⟨vs,rfl,hvs⟩:=hy'
   split at he
   ·split at he
    ·rename_i b hb
     cases he
     refine ⟨rfl,.bool b,?_,by simp only [V]⟩
     simp only [Sem.run_bind,run_eqGuard_agg w _ t xo yo _ _ hg,Result.andThen_ok,run_eql_struct,B0c w 8 9992 t _ _ b _ _ hb hx hy]
    ·cases he
   ·split at he
    ·rename_i b hb
     cases he
     refine ⟨rfl,.bool (!b),?_,by simp only [V]⟩
     simp only [Sem.run_bind,run_eqGuard_agg w _ t xo yo _ _ hg,Result.andThen_ok,run_neq_struct,B0c w 8 9992 t _ _ b _ _ hb hx hy]
    ·cases he
   ·cases he
 ·cases he
theorem B5y (hR:R na β0 w0 σ β a w) {op:BinOp} {t t':TypeId} {x y:Operand} (ho:o.op= .binOp op t x y t')
  (he:eff P Φ na dr σ.eval bx n o=some e) (hp:C6 e.pre True):F8 P na β0 w0 (σ.apply o.dst e) o a w:=by
 unfold eff at he
 rw [ho] at he
 simp only at he
 split at he
 ·rename_i p v h
  cases he
  obtain ⟨r,h1,h2⟩:=C6x (t:=t) (xo:=x) (hR.O2 x) (hR.O2 y) (fun k n e=>by subst e;rfl) h hp w
  refine F8.pure' hR (v:=r) ?_ h2
  simp only [execOp,ho,Sem.run_bind,Result.andThen_ok,Sem.run_pure] at h1 ⊢
  rw [h1]
  rfl
 ·obtain ⟨hu,r,hr,hv⟩:=C1e (xo:=x) (yo:=y) he (hR.O2 x) (hR.O2 y) w
  obtain ⟨p,c,u⟩:=e
  simp only at hu hv
  subst hu
  refine F8.pure' hR (v:=r) ?_ hv
  simp only [execOp,ho,Sem.run_bind,Result.andThen_ok,Sem.run_pure] at hr ⊢
  rw [hr]
  rfl
theorem B60 (hR:R na β0 w0 σ β a w) {t:TypeId} {x:Operand} {f:Nat} (ho:o.op= .field t x f)
  (he:eff P Φ na dr σ.eval bx n o=some e):F8 P na β0 w0 (σ.apply o.dst e) o a w:=by
 have hV:=hR.O2 x
 unfold eff at he
 rw [ho] at he
 simp only at he
 split at he
 ·rename_i off s ty cs hf hx
  split at he
  ·rename_i v hpk
   cases he
   obtain ⟨fs,fd,u1,u2,u3,u4,u5⟩:=KU hf
   rw [hx] at hV
   simp only [V] at hV
   obtain ⟨vs,hxv,hvs⟩:=hV
   obtain ⟨r,hr1,hr2⟩:=A23 (P:=P) hpk hvs w
   refine F8.pure' hR (v:=r) ?_ hr2
   simp only [execOp,ho,hxv,Instr.field,Sem.run_bind,run_underlying u1,Result.andThen_ok,u2,asAgg,Sem.run_pure,u3,u4,hr1]
  ·cases he
 ·cases he
theorem A4r (hR:R na β0 w0 σ β a w) {x:Operand} {i:Nat} (ho:o.op= .extract x i)
  (he:eff P Φ na dr σ.eval bx n o=some e):F8 P na β0 w0 (σ.apply o.dst e) o a w:=by
 have hV:=hR.O2 x
 unfold eff at he
 rw [ho] at he
 simp only at he
 split at he
 ·rename_i vs hx
  split at he
  ·rename_i v hv
   cases he
   rw [hx] at hV
   simp only [V] at hV
   obtain ⟨us,hxv,hus⟩:=hV
   obtain ⟨u,hu1,hu2⟩:=hus.get hv
   refine F8.pure' hR (v:=u) ?_ hu2
   simp only [execOp,ho,hxv,Instr.extract,Sem.run_bind,MH,hu1,Sem.run_pure,Result.andThen_ok]
  ·cases he
 ·cases he
theorem A7z (hR:R na β0 w0 σ β a w) (xs:Array Operand):Vs ⟨σ.box,β,w⟩ (xs.toList.map σ.eval) (xs.map a.eval).toList:=by
 refine Vs.of (by simp) fun i c v h1 h2=> ?_
 simp at h1 h2
 obtain ⟨x,hx,rfl⟩:=h1
 obtain ⟨y,hy,rfl⟩:=h2
 rw [hx] at hy
 cases hy
 exact hR.O2 x
theorem A2c (hR:R na β0 w0 σ β a w) {fn:Fn} {first captured:Array Operand} (ho:o.op= .makeFunc fn first captured)
  (he:eff P Φ na dr σ.eval bx n o=some e):F8 P na β0 w0 (σ.apply o.dst e) o a w:=by
 unfold eff at he
 rw [ho] at he
 cases fn<;>simp only at he
 case func f=>
  split at he
  ·rename_i h0
   cases he
   have hf:first= #[]:=Array.eq_empty_of_size_eq_zero h0
   refine F8.pure' hR (v:= .func (.func f) #[] (captured.map a.eval)) ?_ ?_
   ·simp only [execOp,ho,hf,Instr.makeFunc,Sem.run_bind,Sem.run_pure,Result.andThen_ok,Array.map_empty]
   ·simp only [V]
    exact ⟨(captured.map a.eval).toList,by rw [Array.toArray_toList],A7z hR captured⟩
  ·cases he
 all_goals cases he
end
end Go.AI

namespace Go.AI
open Go Go.RowKit
set_option linter.unusedVariables false
set_option linter.unusedSimpArgs false
section
variable {P:Program} {na:Nat} {β0:Nat→Nat→Prop} {w0:World} {σ:St} {β:Nat→Nat→Prop} {a:Act} {w:World} {o:Oper} {bx:Nat→Box} {Φ:Nat→List AV→Option Spec} {dr:Bool} {n:Nat} {e:Eff}
theorem IY {t s:TypeId} (h:NJ P t=some s):∃el i z,P.underlying t=some (.slice el)∧P.info? el=some i∧i.size=s∧i.zero=some z:=by
 unfold NJ at h
 split at h
 ·rename_i el hu
  split at h
  ·rename_i i hi
   split at h
   ·rename_i z hz
    cases h
    exact ⟨el,i,z,hu,hi,rfl,hz⟩
   ·cases h
  ·cases h
 ·cases h
theorem YJ (hR:R na β0 w0 σ β a w) (hb:Sub bx σ.box) {t:TypeId} {x ix:Operand} (ho:o.op= .indexAddr t x ix)
  (he:eff P Φ na dr σ.eval bx n o=some e) (hp:C6 e.pre True):F8 P na β0 w0 (σ.apply o.dst e) o a w:=by
 have hV:=hR.O2 x
 have hVi:=hR.O2 ix
 unfold eff at he
 rw [ho] at he
 simp only at he
 split at he
 ·rename_i p l k i hx hi
  split at he
  ·rename_i hc
   cases he
   obtain ⟨⟨p1,p2⟩,_⟩:=hp
   simp only [K9] at hc
   obtain ⟨el,hu⟩:∃el,y6 P t=some el:=q8.1 hc.1
   obtain ⟨u1,u2,inf,u3,u4,u5,u6⟩:=V8 hu
   have ht:P.underlying t=some (.slice (P.elem t)):=by rw [a8 u1];exact u1
   have hsz:(sizeOf (P.elem t)).run P w= .ok 1 w:=by rw [a8 u1];exact run_sizeOf (by simp [BE,u3,u4]) w
   rw [hx] at hV
   rw [hi] at hVi
   have ei:=hVi.num_inv
   simp only [V] at hV
   obtain ⟨hbn,hok,base,cap,hxv,hd⟩:=hV
   have hal:=Y6 hb β w hc.2
   rcases hd hal with ⟨h1,h2⟩|⟨b,off,cells,T,fr,h1,h2,h3,h4,h5⟩
   ·subst h2;simp at p2;omega
   ·subst h1
    have hlt:i.toNat<l.length:=by omega
    refine F8.pure' hR (v:= .pointer (some ⟨b,off+i.toNat,none⟩)) ?_ ?_
    ·have hr:=run_indexAt_slice (P:=P) w t ⟨b,off,none⟩ l.length cap k i ht
     rw [if_pos ⟨p1,p2⟩,hsz] at hr
     simp only [execOp,ho,hxv,ei,Sem.run_bind,hr,Result.andThen_ok,Sem.run_pure,M0,Z9]
    ·simp only [V]
     refine ⟨hbn,[.int .u32 (l.getD i.toNat 0:Nat)],?_,b,off+i.toNat,rfl,fun _=>⟨h2,fun j u hj=> ?_⟩⟩
     ·simp only [Vs];exact ⟨D3v _ (A6n hok _),trivial⟩
     ·cases j with
      |succ j=>simp at hj
      |zero=>
       simp at hj
       subst hj
       have:=h5.2 i.toNat l[i.toNat] (by simp [hlt])
       rw [I4,cell?_of_block h3,this]
       simp [M6,hlt]
  ·cases he
 ·rename_i b k i hx hi
  split at he
  ·rename_i T l hbx
   split at he
   ·rename_i hc
    cases he
    obtain ⟨⟨p1,p2⟩,_⟩:=hp
    obtain ⟨el,hu⟩:∃el,y6 P t=some el:=q8.1 hc
    obtain ⟨u1,u2,inf,u3,u4,u5,u6⟩:=V8 hu
    have ht:P.underlying t=some (.slice (P.elem t)):=by rw [a8 u1];exact u1
    have hsz:(sizeOf (P.elem t)).run P w= .ok 1 w:=by rw [a8 u1];exact run_sizeOf (by simp [BE,u3,u4]) w
    rw [hx] at hV
    rw [hi] at hVi
    have ei:=hVi.num_inv
    simp only [V] at hV
    have hσ:=hb.D1 hbx
    rcases hV.2.2 T l hσ with ⟨_,h2⟩|⟨blk,cap,h1,h2,h3,_⟩
    ·subst h2;simp at p2;omega
    ·refine F8.pure' hR (v:= .pointer (some ⟨blk,i.toNat,none⟩)) ?_ ?_
     ·have hr:=run_indexAt_slice (P:=P) w t ⟨blk,0,none⟩ l.length cap k i ht
      rw [if_pos ⟨p1,p2⟩,hsz] at hr
      simp only [execOp,ho,h2,ei,Sem.run_bind,hr,Result.andThen_ok,Sem.run_pure,M0,Z9,N9]
     ·simp only [V]
      exact ⟨hV.1,fun _=>⟨blk,h1,rfl⟩⟩
   ·cases he
  ·cases he
 ·rename_i b gc lo len k i hx hi
  split at he
  ·rename_i T l hbx
   split at he
   ·rename_i hc
    cases he
    obtain ⟨⟨p1,p2⟩,_⟩:=hp
    obtain ⟨el,hu⟩:∃el,y6 P t=some el:=q8.1 hc
    obtain ⟨u1,u2,inf,u3,u4,u5,u6⟩:=V8 hu
    have ht:P.underlying t=some (.slice (P.elem t)):=by rw [a8 u1];exact u1
    have hsz:(sizeOf (P.elem t)).run P w= .ok 1 w:=by rw [a8 u1];exact run_sizeOf (by simp [BE,u3,u4]) w
    rw [hx] at hV
    rw [hi] at hVi
    have ei:=hVi.num_inv
    simp only [V] at hV
    obtain ⟨hbn,g,cap,hgc,hxv,hlc,hd⟩:=hV
    have hσ:=hb.D1 hbx
    refine F8.pure' hR (v:= .pointer (some ⟨g,lo+i.toNat,none⟩)) ?_ ?_
    ·have hr:=run_indexAt_slice (P:=P) w t ⟨g,lo,none⟩ len cap k i ht
     rw [if_pos ⟨p1,p2⟩,hsz] at hr
     simp only [execOp,ho,hxv,ei,Sem.run_bind,hr,Result.andThen_ok,Sem.run_pure,M0,Z9]
    ·simp only [V]
     exact ⟨hbn,fun _=>⟨g,(hd T l hσ).1,rfl⟩⟩
   ·cases he
  ·cases he
 ·rename_i p s l k i hx hi
  split at he
  ·rename_i hc
   simp only [K9,decide_eq_true_eq] at hc
   split at he
   ·rename_i cs hcs
    cases he
    obtain ⟨⟨p1,p2⟩,_⟩:=hp
    obtain ⟨el,inf,z,u1,u3,u4,u6⟩:=IY hc.1
    have ht:P.underlying t=some (.slice (P.elem t)):=by rw [a8 u1];exact u1
    have hsz:(sizeOf (P.elem t)).run P w= .ok s w:=by rw [a8 u1];exact run_sizeOf (by simp [BE,u3,u4]) w
    rw [hx] at hV
    rw [hi] at hVi
    have ei:=hVi.num_inv
    simp only [V] at hV
    obtain ⟨hbn,_,hs0,base,cap,us,hxv,hus,hsu,hd⟩:=hV
    have hal:=Y6 hb β w hc.2
    have hlt:i.toNat<l.length:=by omega
    have hul:=hus.length
    rcases hd hal with h2|⟨b,off,h1,h2,h3,h4⟩
    ·have:l.length=0:=by rw [hul,h2];rfl
     omega
    ·subst h1
     have hel:l[i.toNat]? =some (l.getD i.toNat .junk):=by simp [M6,hlt]
     obtain ⟨u,hu1,hu2⟩:=hus.get hel
     refine F8.pure' hR (v:= .pointer (some ⟨b,off+i.toNat*s,none⟩)) ?_ ?_
     ·have hr:=run_indexAt_slice (P:=P) w t ⟨b,off,none⟩ l.length cap k i ht
      rw [if_pos ⟨p1,p2⟩,hsz] at hr
      simp only [execOp,ho,hxv,ei,Sem.run_bind,hr,Result.andThen_ok,Sem.run_pure,Z9]
     ·simp only [V]
      refine ⟨hbn,u.cells.toList,JP hu2 hcs,b,off+i.toNat*s,rfl,fun _=>⟨h2,fun j y hj=> ?_⟩⟩
      exact h4 i.toNat u j y hu1 (by simpa using hj)
   ·cases he
  ·cases he
 ·rename_i b off k i hx hi
  split at he
  ·rename_i cs m s hbx har
   split at he
   ·rename_i hc
    cases he
    rw [hx] at hV
    rw [hi] at hVi
    have ei:=hVi.num_inv
    simp only [V] at hV
    obtain ⟨el,u1,u2,u3⟩:=ZW har
    obtain ⟨blk,hβ,hxv⟩:=hV.2 (by rw [hb.cells hbx];trivial)
    refine F8.pure' hR (v:= .pointer (some ⟨blk,off+i.toNat*s,none⟩)) ?_ (by simp only [V];exact ⟨hV.1,fun _=>⟨blk,hβ,rfl⟩⟩)
    have hsz:=run_sizeOf u2 w
    simp only [execOp,ho,hxv,ei,Instr.indexAt,asIntOf,Sem.run_bind,run_underlying u1,Result.andThen_ok,Instr.sureAddr,Sem.run_pure,hsz,if_pos hc,Z9]
   ·cases he
  ·cases he
 ·rename_i b off s m k i hx hi
  split at he
  ·rename_i cs hbx
   split at he
   ·rename_i hc
    cases he
    obtain ⟨hc1,hc2,hc3⟩:=hc
    rw [hx] at hV
    rw [hi] at hVi
    have ei:=hVi.num_inv
    simp only [V] at hV
    obtain ⟨el,inf,z,u1,u3,u4,u6⟩:=IY hc1
    have ht:P.underlying t=some (.slice (P.elem t)):=by rw [a8 u1];exact u1
    have hsz:(sizeOf (P.elem t)).run P w= .ok s w:=by rw [a8 u1];exact run_sizeOf (by simp [BE,u3,u4]) w
    obtain ⟨blk,hβ,hxv⟩:=hV.2.2 (by rw [hb.cells hbx];trivial)
    refine F8.pure' hR (v:= .pointer (some ⟨blk,off+i.toNat*s,none⟩)) ?_ (by simp only [V];exact ⟨hV.1,fun _=>⟨blk,hβ,rfl⟩⟩)
    have hr:=run_indexAt_slice (P:=P) w t ⟨blk,off,none⟩ m m k i ht
    rw [if_pos ⟨hc2,hc3⟩,hsz] at hr
    simp only [execOp,ho,hxv,ei,Sem.run_bind,hr,Result.andThen_ok,Sem.run_pure,Z9]
   ·cases he
  ·cases he
 ·cases he
theorem B2l (s:Nat):∀(us:List Value) (k:Nat) (cells:Array Value),(k+us.length)*s≤cells.size→(∀u ∈ us,u.cells.size=s)→
  ∃cells':Array Value,Instr.fill (fun i=>some (i*s,s)) cells ((us.zipIdx k).map fun x=>(x.2,x.1))=some cells'∧cells'.size=cells.size∧
   (∀m,m<k*s→cells'[m]? =cells[m]?)∧∀(i:Nat) (u:Value) (j:Nat) (x:Value),us[i]? =some u→u.cells[j]? =some x→cells'[(k+i)*s+j]? =some x
 |[],k,cells,_,_=>⟨cells,rfl,rfl,fun _ _=>rfl,fun i u j x h=>by simp at h⟩
 |u::us,k,cells,hsz,hu=>by
  have hus:u.cells.size=s:=hu u (by simp)
  have hle:k*s+s≤cells.size:=by
   have:(k+1)*s≤(k+(u::us).length)*s:=Nat.mul_le_mul_right _ (by simp)
   rw [H2,Nat.one_mul] at this
   omega
  have hz:u.cells.zipIdx.foldl (fun cs (x:Value×Nat)=>cs.setIfInBounds (k*s+x.2) x.1) cells=u.cells.toList.zipIdx.foldl (fun cs (x:Value×Nat)=>cs.setIfInBounds (k*s+x.2) x.1) cells:=by
   rw [←Array.foldl_toList,Array.toList_zipIdx]
  have hfo:=VW (k*s) u.cells.toList 0 cells (by simp;omega)
  simp only [I4] at hfo
  generalize hc1:u.cells.toList.zipIdx.foldl (fun cs (x:Value×Nat)=>cs.setIfInBounds (k*s+x.2) x.1) cells=c1 at hfo hz
  have hs1:c1.size=cells.size:=by
   have:=congrArg List.length hfo
   simp at this
   omega
  obtain ⟨c2,h1,h2,h3,h4⟩:=B2l s us (k+1) c1 (by rw [hs1];simp at hsz;rw [show k+1+us.length=k+(us.length+1) by omega];exact hsz) (fun v hv=>hu v (by simp [hv]))
  have hget:∀m,c1[m]? =(cells.toList.take (k*s)++u.cells.toList++cells.toList.drop (k*s+u.cells.toList.length))[m]? :=fun m=>by
   rw [←hfo];exact Array.getElem?_toList.symm
  refine ⟨c2,?_,by omega,fun m hm=> ?_,fun i v j x hi hj=> ?_⟩
  ·rw [List.zipIdx_cons,W9]
   unfold Instr.fill
   have hc:¬((decide (u.cells.size≠s)||decide (k*s+u.cells.size>cells.size))=true):=by simp;omega
   dsimp only
   rw [if_neg hc,hz]
   exact h1
  ·rw [h3 m (by rw [H2];omega),hget,U8,DU (by simp;omega),AK,if_pos hm]
   simp
  ·cases i with
   |zero=>
    simp at hi
    subst hi
    have hjs:j<s:=by
     have:=(Q8.1 hj).1
     omega
    rw [I4,h3 (k*s+j) (by rw [H2];omega),hget,U8,AJ (by simp;omega),DU (by simp;omega)]
    simp [Nat.min_eq_left (show k*s≤cells.size by omega),hj]
   |succ i=>
    have:=h4 i v j x (by simpa using hi) hj
    rwa [show k+1+i=k+(i+1) by omega] at this
theorem XG:∀(l:List (Nat×AV)) (k:Nat) {els:List AV},SQ k l=some els→l=(els.zipIdx k).map fun x=>(x.2,x.1)
 |[],k,els,h=>by simp [SQ] at h;subst h;rfl
 |(j,v)::l,k,els,h=>by
  unfold SQ at h
  split at h
  ·rename_i e
   split at h
   ·rename_i r hr
    cases h
    subst e
    rw [List.zipIdx_cons,W9,←XG l (k+1) hr]
   ·cases h
  ·cases h
theorem SB {C:Ctx}:∀{els:List AV} {us:List Value} {l:List Nat},Vs C els us→V7 els=some l→l.length=us.length∧(∀x ∈ l,x<2^32)∧∀(j x:Nat),l[j]? =some x→us[j]? =some (.int .u32 (x:Int))
 |[],[],l,_,h=>by simp [V7] at h;subst h;simp
 | .num k m::els,u::us,l,hv,h=>by
  simp only [Vs] at hv
  cases k<;>simp only [V7] at h<;>try cases h
  split at h
  ·rename_i r hr
   cases h
   obtain ⟨h1,h2,h3⟩:=SB hv.2 hr
   have hn:=hv.1
   simp only [V] at hn
   obtain ⟨e,r1,r2⟩:=hn
   obtain ⟨q1,q2⟩:=D1t r1 r2
   refine ⟨by simp [h1],fun x hx=> ?_,fun j x hj=> ?_⟩
   ·rcases Q5.1 hx with rfl|hx
    ·exact q2
    ·exact h2 x hx
   ·cases j with
    |zero=>simp at hj;subst hj;simp [e,q1]
    |succ j=>simpa using h3 j x (by simpa using hj)
  ·cases h
 |[],_::_,_,hv,_=>by simp only [Vs] at hv
 |_::_,[],_,hv,_=>by simp only [Vs] at hv
 | .junk::_,_::_,_,_,h=>by simp [V7] at h
 | .bool _::_,_::_,_,_,h=>by simp [V7] at h
 | .nilS::_,_::_,_,_,h=>by simp [V7] at h
 | .dig .. ::_,_::_,_,_,h=>by simp [V7] at h
 | .vec .. ::_,_::_,_,_,h=>by simp [V7] at h
 | .agg _::_,_::_,_,_,h=>by simp [V7] at h
 | .tup _::_,_::_,_,_,h=>by simp [V7] at h
 | .addr .. ::_,_::_,_,_,h=>by simp [V7] at h
 | .own _::_,_::_,_,_,h=>by simp [V7] at h
 | .hand .. ::_,_::_,_,_,h=>by simp [V7] at h
 | .handv .. ::_,_::_,_,_,h=>by simp [V7] at h
 | .avec .. ::_,_::_,_,_,h=>by simp [V7] at h
 | .cref .. ::_,_::_,_,_,h=>by simp [V7] at h
 | .fn .. ::_,_::_,_,_,h=>by simp [V7] at h
 | .grown .. ::_,_::_,_,_,h=>by simp [V7] at h
 | .boxv _::_,_::_,_,_,h=>by simp [V7] at h
theorem SC {C:Ctx} {s:Nat}:∀{els:List AV} {us:List Value},Vs C els us→YR s els=true→∀u ∈ us,u.cells.size=s
 |[],[],_,_=>by simp
 |c::els,u::us,hv,h=>by
  simp only [Vs] at hv
  simp only [YR,K9] at h
  intro v hm
  rcases Q5.1 hm with rfl|hm
  ·have h1:=h.1
   split at h1
   ·rename_i cs hcs
    have:=(JP hv.1 hcs).length
    simp at this h1
    omega
   ·cases h1
  ·exact SC hv.2 h.2 v hm
 |[],_::_,hv,_=>by simp only [Vs] at hv
 |_::_,[],hv,_=>by simp only [Vs] at hv
theorem NZ {t el s len:Nat} {i:TypeInfo} {z:Value} (hu:P.underlying t=some (.slice el)) (hi:P.info? el=some i) (hs:i.size=s) (hz:i.zero=some z) (hlen:len≤64) (hs64:s≤64)
  (parts:Array (Nat×Value)) (us:List Value) (hparts:parts.toList=(us.zipIdx 0).map fun x=>(x.2,x.1)) (hus:us.length=len) (hsu:∀u ∈ us,u.cells.size=s) (w:World):
  ∃cells:Array Value,(Instr.buildSlice t len parts).run P w= .ok (.slice (some ⟨w.heap.size,0,none⟩) len len) (w.alloc (.cells cells el))∧
   cells.size=len*s∧∀(i:Nat) (u:Value) (j:Nat) (x:Value),us[i]? =some u→u.cells[j]? =some x→cells[i*s+j]? =some x:=by
 have hbig:¬(len*s>2^24):=by
  have:len*s≤64*64:=Nat.mul_le_mul hlen hs64
  omega
 have hsz:(sizeOf el).run P w= .ok s w:=run_sizeOf (by simp [BE,hi,hs]) w
 have key:∀zero:Array Value,∃cells:Array Value,Instr.fill (fun i=>some (i*s,s)) ((Array.range (len*s)).map (zero[·%zero.size]!)) parts.toList=some cells∧cells.size=len*s∧
   ∀(i:Nat) (u:Value) (j:Nat) (x:Value),us[i]? =some u→u.cells[j]? =some x→cells[i*s+j]? =some x:=by
  intro zero
  obtain ⟨c,h1,h2,_,h4⟩:=B2l s us 0 ((Array.range (len*s)).map (zero[·%zero.size]!)) (by simp [hus]) hsu
  rw [hparts]
  refine ⟨c,h1,by simpa using h2,fun i u j x hi hj=> ?_⟩
  have:=h4 i u j x hi hj
  rwa [N9] at this
 by_cases h0:len*s=0
 ·obtain ⟨c,h1,h2,h3⟩:=key #[]
  refine ⟨c,?_,h2,h3⟩
  unfold Instr.buildSlice
  simp only [Sem.run_bind,run_underlying hu,Result.andThen_ok,hsz,if_neg hbig,if_pos h0,Sem.run_pure]
  simp only [h1,newRow,Sem.run_bind,run_newObj,Result.andThen_ok,Sem.run_pure,World.alloc_eq]
 ·obtain ⟨c,h1,h2,h3⟩:=key z.cells
  refine ⟨c,?_,h2,h3⟩
  unfold Instr.buildSlice
  simp only [Sem.run_bind,run_underlying hu,Result.andThen_ok,hsz,if_neg hbig,if_neg h0,Sem.run_pure,zeroValue,typeInfo,run_program,hi,hz]
  simp only [h1,newRow,Sem.run_bind,run_newObj,Result.andThen_ok,Sem.run_pure,World.alloc_eq]
end
end Go.AI

namespace Go.AI
open Go Go.RowKit
set_option linter.unusedVariables false
set_option linter.unusedSimpArgs false
section
variable {P:Program} {na:Nat} {β0:Nat→Nat→Prop} {w0:World} {σ:St} {β:Nat→Nat→Prop} {a:Act} {w:World} {o:Oper} {bx:Nat→Box} {Φ:Nat→List AV→Option Spec} {dr:Bool} {n:Nat} {e:Eff}
theorem R.A0q (h:R na β0 w0 σ β a w) (hn:Free na σ n) (cs:Array Value) (T:TypeId) {w':World} (hw':w'=w.alloc (.cells cs T)∨w'=w.drew.alloc (.cells cs T)):
  R na β0 w0 {σ with boxes:=σ.boxes.set n .G4} (T2 β n (·=w.heap.size)) a w'∧Le ⟨σ.box,β,w⟩ ⟨St.box {σ with boxes:=σ.boxes.set n .G4},T2 β n (·=w.heap.size),w'⟩∧
  Ctx.born ⟨St.box {σ with boxes:=σ.boxes.set n .G4},T2 β n (·=w.heap.size),w'⟩ [n]∧
  Ctx.inP ⟨St.box {σ with boxes:=σ.boxes.set n .G4},T2 β n (·=w.heap.size),w'⟩ [n] w.heap.size∧w'.heap[w.heap.size]? =some (.cells cs T (0,0)):=by
 have hg:Grow w w':=by
  rcases hw' with rfl|rfl
  ·exact Grow.ZS w cs T
  ·exact ((Grow.refl w).drew).alloc cs T
 have hsz:w'.heap.size=w.heap.size+1:=by rcases hw' with rfl|rfl<;>simp
 have hh:w'.heap[w.heap.size]? =some (.cells cs T (0,0)):=by
  rcases hw' with rfl|rfl
  ·exact heap_alloc_new w _
  ·exact heap_alloc_new w.drew _
 refine ⟨h.JW hn.na hn.len hn.un .G4 (·=w.heap.size) hg (by simp) (fun x hx=>by subst hx;omega) trivial,Le.JW h hn.len hn.un .G4 _ hg (by simp),fun i hi=> ?_,⟨n,by simp,(Z0 _ _ _ _).2 rfl⟩,hh⟩
 simp at hi
 subst hi
 show St.box _ i≠_
 rw [St.J8 _ _ _ _ hn.len,if_pos rfl]
 simp
theorem WM (hR:R na β0 w0 σ β a w) {t:TypeId} {len:Nat} {parts:Array (Nat×Operand)} (ho:o.op= .buildSlice t len parts)
  (he:eff P Φ na dr σ.eval bx n o=some e) (hn:Free na σ n):F8 P na β0 w0 (σ.apply o.dst e) o a w:=by
 unfold eff at he
 rw [ho] at he
 simp only at he
 split at he
 ·cases he
 ·rename_i els hels
  split at he
  ·rename_i hc
   obtain ⟨hc1,hc2⟩:=hc
   have hz:=XG _ 0 hels
   have hvs:Vs ⟨σ.box,β,w⟩ els (parts.toList.map fun x=>a.eval x.2):=by
    have h1:els=parts.toList.map fun x=>σ.eval x.2:=by
     have:=congrArg (List.map (·.2)) hz
     simp [Function.comp_def] at this
     exact this.symm
    rw [h1]
    refine Vs.of (by simp) fun i c v h1 h2=> ?_
    simp at h1 h2
    obtain ⟨x,y,hx,rfl⟩:=h1
    obtain ⟨x',y',hy,rfl⟩:=h2
    rw [hx] at hy
    cases hy
    exact hR.O2 y
   have hparts:(parts.map fun (x:Nat×Operand)=>(x.1,a.eval x.2)).toList=((parts.toList.map fun x=>a.eval x.2).zipIdx 0).map fun x=>(x.2,x.1):=by
    apply List.ext_getElem?
    intro i
    have h2:=congrArg (fun l=>(l[i]?).map (·.1)) hz
    simp at h2
    simp
    cases hp:parts[i]? with
    |none=>simp [hp]
    |some x=>
     simp [hp] at h2 ⊢
     cases hel:els[i]? with
     |none=>rw [hel] at h2;simp at h2
     |some y=>rw [hel] at h2;simp at h2;exact h2
   have hlen:(parts.toList.map fun x=>a.eval x.2).length=len:=by rw [←hvs.length];exact hc1
   split at he
   ·rename_i hel
    obtain ⟨el,hu⟩:∃el,y6 P t=some el:=q8.1 hel
    obtain ⟨u1,u2,i,u3,u4,u5,u6⟩:=V8 hu
    split at he
    ·rename_i l hl
     obtain ⟨k1,k2,k3⟩:=SB hvs hl
     have hone:∀u ∈ (parts.toList.map fun x=>a.eval x.2),u.cells.size=1:=by
      intro u hu'
      obtain ⟨j,hj⟩:=List.getElem?_of_mem hu'
      have hjl:j<l.length:=by rw [k1];exact (X3.1 hj).1
      have:=k3 j l[j] (by simp [hjl])
      rw [hj] at this
      cases this
      rfl
     obtain ⟨cells,r1,r2,r3⟩:=NZ u1 u3 u4 u6 hc2 (by omega) _ _ hparts hlen hone w
     have hbase:(execOp a.eval o).run P w= .ok (.value (.slice (some ⟨w.heap.size,0,none⟩) l.length len)) (w.alloc (.cells cells el)):=by
      simp only [execOp,ho,Sem.run_bind,r1,Result.andThen_ok,Sem.run_pure]
      rw [k1,hlen]
     split at he
     ·rename_i hemp
      rw [hu] at he
      cases he
      have hl0:l=[]:=by simpa using hemp
      subst hl0
      have hlen0:len=0:=by rw [←hlen,←k1];rfl
      subst hlen0
      refine F8.value (v:= .slice (some ⟨w.heap.size,0,none⟩) ([]:List Nat).length 0) (σ':={σ with boxes:=σ.boxes.set n (.D1 el [])}) (β':=T2 β n (·=w.heap.size)) (w':=w.alloc (.cells cells el)) hbase ?_ ?_
      ·refine hR.JW hn.na hn.len hn.un _ _ (Grow.ZS w _ _) (by simp) (fun x hx=>by subst hx;simp) ⟨fun x y hx hy=> ?_,⟨by simp,fun x hx=>by simp at hx⟩,fun x hx=> ?_⟩
       ·rw [(Z0 _ _ _ _).1 hx,(Z0 _ _ _ _).1 hy]
       ·have:=(Z0 _ _ _ _).1 hx
        subst this
        exact ⟨_,heap_alloc_new w _,by simp,fun j y hj=>by simp at hj⟩
      ·simp only [V]
       rw [St.J8 _ _ _ _ hn.len,if_pos rfl]
       refine ⟨by simp,⟨_,_,_,rfl⟩,fun T l' hl=> .inr ⟨w.heap.size,0,(Z0 _ _ _ _).2 rfl,?_,?_,?_,?_⟩⟩
       ·cases hl;rfl
       ·cases hl;simp
       ·simp [maxLen]
       ·cases hl;exact ⟨_,heap_alloc_new w _,by rw [r2,R2]⟩
     cases he
     obtain ⟨q1,q2,q3,q4,q5⟩:=hR.A0q hn cells el (.inl rfl)
     refine F8.value (v:= .slice (some ⟨w.heap.size,0,none⟩) l.length len) ?_ q1 ?_
     ·exact hbase
     ·simp only [V]
      refine ⟨q3,⟨by omega,k2⟩,_,_,rfl,fun _=> .inr ⟨w.heap.size,0,cells,el,(0,0),rfl,q4,q5,by omega,fun j hj=> ?_,fun j x hj=> ?_⟩⟩
      ·omega
      have:=r3 j _ 0 (.int .u32 (x:Int)) (k3 j x hj) rfl
      simpa using this
    ·cases he
   ·split at he
    ·rename_i s hs
     split at he
     ·rename_i hcond
      cases he
      obtain ⟨d1,d2,d3⟩:=hcond
      obtain ⟨el,i,z,u1,u3,u4,u6⟩:=IY hs
      have hsz:=SC hvs d3
      obtain ⟨cells,r1,r2,r3⟩:=NZ u1 u3 u4 u6 hc2 d2 _ _ hparts hlen hsz w
      obtain ⟨q1,q2,q3,q4,q5⟩:=hR.A0q hn cells el (.inl rfl)
      refine F8.value (v:= .slice (some ⟨w.heap.size,0,none⟩) els.length len) ?_ q1 ?_
      ·simp only [execOp,ho,Sem.run_bind,r1,Result.andThen_ok,Sem.run_pure]
       rw [hc1]
      ·simp only [V]
       refine ⟨q3,by omega,d1,_,_,_,rfl,Vs.mono q2 _ _ hvs,hsz,fun _=> .inr ⟨w.heap.size,0,rfl,q4,by omega,fun i u j x hi hj=> ?_⟩⟩
       rw [cell?_of_block q5,N9]
       exact r3 i u j x hi hj
     ·cases he
    ·cases he
  ·cases he
theorem C1y {t:TypeId} {el:TypeId} (h:P.underlying t=some (.slice el)):P.underlying t=some (.slice (P.elem t)):=by rw [a8 h];exact h
theorem A80 {b:Builtin} {c:Call} (ho:o.op= .call c) (hc:c.callee= .builtin b) (a:Act):execOp a.eval o=builtin b c.argTypes o.type (c.args.map fun| .const _=>true|_=>false) (c.args.map a.eval):=by
 simp only [execOp,ho,resolve,hc,invoke]
 rfl
theorem getD_some {xs:Array TypeId} {d:TypeDesc} (h:P.underlying (xs.getD 0 0)=some d) (hs:0<xs.size):xs[0]? =some (xs.getD 0 0):=by
 simp [Array.getD,hs]
theorem KZ {t:TypeId} {el:TypeId} (hu:P.underlying t=some (.slice el)) (base:Option Addr) (m c:Nat) (ty:TypeId) (w:World):
  (Builtin.len_ #[t] ty #[.slice base m c]).run P w= .ok (.int .i64 m) w:=run_len_slice w t ty base m c (C1y hu)
theorem RN {m:Nat} (h:m≤2^45) (C:Ctx):V C (.num .i64 (m:Int)) (.int .i64 (m:Int)):=by
 simp only [V]
 refine ⟨trivial,?_,?_⟩<;>simp [IntKind.min,IntKind.max,IntKind.signed,IntKind.bits]<;>omega
theorem s7 {t:TypeId} (h:FA P t=true):∃el,P.underlying t=some (.slice el):=by
 unfold FA at h
 split at h
 ·rename_i el hu;exact ⟨el,hu⟩
 ·cases h
theorem EH {α:Type} {xs:Array α} {l:List α} (h:xs.toList=l):xs=l.toArray:=by rw [←h]
theorem Vs.one {C:Ctx} {x:AV} {vs:List Value} (h:Vs C [x] vs):∃v,vs=[v]∧V C x v:=by
 cases vs with
 |nil=>simp only [Vs] at h
 |cons v vs=>
  cases vs with
  |nil=>simp only [Vs] at h;exact ⟨v,rfl,h.1⟩
  |cons u us=>simp only [Vs] at h;exact h.2.elim
theorem Vs.two {C:Ctx} {x y:AV} {vs:List Value} (h:Vs C [x,y] vs):∃u v,vs=[u,v]∧V C x u∧V C y v:=by
 cases vs with
 |nil=>simp only [Vs] at h
 |cons v vs=>
  simp only [Vs] at h
  obtain ⟨u,rfl,hu⟩:=Vs.one (show Vs C [y] vs from h.2)
  exact ⟨v,u,rfl,h.1,hu⟩
theorem C5o (hR:R na β0 w0 σ β a w) (hb:Sub bx σ.box) {t:TypeId} {x:AV} {v:Value} (hV:V ⟨σ.box,β,w⟩ x v) (he:A8h P bx t x=some e) (ty:TypeId):
  ∃p r c,e=⟨p,c,[]⟩∧(Builtin.len_ #[t] ty #[v]).run P w= .ok r w∧V ⟨σ.box,β,w⟩ c r:=by
 unfold A8h at he
 split at he
 ·rename_i p l
  split at he
  ·rename_i h
   simp only [K9] at h
   cases he
   obtain ⟨el,hu⟩:=s7 h.1
   simp only [V] at hV
   obtain ⟨_,hok,base,cap,rfl,_⟩:=hV
   exact ⟨_,_,_,rfl,KZ hu base _ cap ty w,RN hok.1 _⟩
  ·cases he
 ·rename_i b
  split at he
  ·rename_i T l hbx
   split at he
   ·rename_i h
    cases he
    obtain ⟨el,hu⟩:=s7 h
    have hσ:=hb.D1 hbx
    have hok:=hR.boxes b
    rw [hσ] at hok
    simp only [V] at hV
    rcases hV.2.2 T l hσ with ⟨rfl,rfl⟩|⟨blk,cap,_,rfl,_⟩
    ·exact ⟨_,_,_,rfl,KZ hu none 0 0 ty w,RN (m:=0) (by omega) _⟩
    ·exact ⟨_,_,_,rfl,KZ hu _ _ cap ty w,RN hok.2.1.1 _⟩
   ·cases he
  ·cases he
 ·split at he
  ·rename_i h
   cases he
   obtain ⟨el,hu⟩:=s7 h
   simp only [V] at hV
   subst hV
   exact ⟨_,_,_,rfl,KZ hu none 0 0 ty w,RN (m:=0) (by omega) _⟩
  ·cases he
 ·rename_i p s l
  split at he
  ·rename_i h
   simp only [K9] at h
   cases he
   obtain ⟨el,hu⟩:=s7 h.1
   simp only [V] at hV
   obtain ⟨_,hlen,_,base,cap,us,rfl,_⟩:=hV
   exact ⟨_,_,_,rfl,KZ hu base _ cap ty w,RN hlen _⟩
  ·cases he
 ·rename_i b gc lo len
  split at he
  ·rename_i T l hbx
   split at he
   ·rename_i h
    cases he
    obtain ⟨el,hu⟩:=s7 h
    have hσ:=hb.D1 hbx
    have hok:=hR.boxes b
    rw [hσ] at hok
    simp only [V] at hV
    obtain ⟨_,g,cap,_,rfl,_,hd⟩:=hV
    have h2:=(hd T l hσ).2.1
    have h3:=hok.2.1.1
    exact ⟨_,_,_,rfl,KZ hu _ _ cap ty w,RN (by omega) _⟩
   ·cases he
  ·cases he
 ·rename_i b off s m
  split at he
  ·rename_i cs hbx
   split at he
   ·rename_i h
    cases he
    obtain ⟨el,hu⟩:=s7 h
    simp only [V] at hV
    obtain ⟨blk,_,rfl⟩:=hV.2.2 (by rw [hb.cells hbx];trivial)
    exact ⟨_,_,_,rfl,KZ hu _ _ m ty w,RN (by omega) _⟩
   ·cases he
  ·cases he
 ·cases he
theorem C98 {C:Ctx} {k:IntKind} {x y:Int} {u v:Value} (hx:V C (.num k x) u) (hy:V C (.num k y) v):
  (Builtin.max_ #[] 0 #[u,v]).run P w= .ok (.int k (if y>x then y else x)) w∧V C (.num k (if y>x then y else x)) (.int k (if y>x then y else x))∧
  (Builtin.min_ #[] 0 #[u,v]).run P w= .ok (.int k (if y<x then y else x)) w∧V C (.num k (if y<x then y else x)) (.int k (if y<x then y else x)):=by
 simp only [V] at hx hy
 obtain ⟨rfl,h1,h2⟩:=hx
 obtain ⟨rfl,h3,h4⟩:=hy
 refine ⟨by simp [Builtin.max_,Builtin.max2],?_,by simp [Builtin.min_,Builtin.min2],?_⟩
 ·simp only [V];refine ⟨trivial,?_,?_⟩<;>split<;>assumption
 ·simp only [V];refine ⟨trivial,?_,?_⟩<;>split<;>assumption
end
end Go.AI

namespace Go.AI
open Go Go.RowKit
set_option linter.unusedVariables false
set_option linter.unusedSimpArgs false
section
variable {P:Program} {na:Nat} {β0:Nat→Nat→Prop} {w0:World} {σ:St} {β:Nat→Nat→Prop} {a:Act} {w:World} {o:Oper} {bx:Nat→Box} {Φ:Nat→List AV→Option Spec} {dr:Bool} {n:Nat} {e:Eff}
theorem R.move (h:R na β0 w0 σ β a w) {b:Nat} {T:TypeId} {l:List Nat} (hb:σ.box b= .D1 T l) (hn:Free na σ n) (nb:Box) (hnb:nb≠ .unborn) (s:Nat→Prop) {w':World}
  (hs:∀x,s x→β b x∨(w.heap.size≤x∧x<w'.heap.size))
  (hoth:∀x,x<w.heap.size→¬β b x→w'.heap[x]? =w.heap[x]?) (hg:GrowS (β0 (na+1)) w0 w') (hsz:w.heap.size≤w'.heap.size)
  (hok:QA ⟨St.box {σ with boxes:=(σ.boxes.set b .dead).set n nb},T2 (T2 β b fun _=>False) n s,w'⟩ n nb):
  R na β0 w0 {σ with boxes:=(σ.boxes.set b .dead).set n nb} (T2 (T2 β b fun _=>False) n s) a w':=by
 have hna:=h.QF (i:=b) (by rw [hb];simp)
 have hlb:=h.len (i:=b) (by rw [hb];simp)
 have hbn:b≠n:=fun e=>by have:=hn.un;rw [←e,hb] at this;simp at this
 have hlen:n<(σ.boxes.set b .dead).length:=by simpa using hn.len
 have hbox:∀i,St.box {σ with boxes:=(σ.boxes.set b .dead).set n nb} i=if i=n then nb else if i=b then .dead else σ.box i:=by
  intro i
  have h1:=J8 (σ.boxes.set b .dead) n i nb hlen
  have h2:=J8 σ.boxes b i .dead hlb
  show M6 _ _ _=_
  rw [h1,h2]
  rfl
 have hβ:∀i x,i≠n→i≠b→(T2 (T2 β b fun _=>False) n s i x ↔ β i x):=by
  intro i x h1 h2
  rw [M3 _ _ h1,M3 _ _ h2]
 have hβb:∀x,¬T2 (T2 β b fun _=>False) n s b x:=by
  intro x
  rw [M3 _ _ hbn,P5]
  exact fun h=>h
 have dis:∀i x,i≠b→β i x→¬β b x:=by
  intro i x hi hx hy
  by_cases h':i≤na
  ·exact h.apart h' hna hx hy
  ·exact hi (h.disj i b x (by omega) hna hx hy)
 have hle:Le ⟨σ.box,β,w⟩ ⟨St.box {σ with boxes:=(σ.boxes.set b .dead).set n nb},T2 (T2 β b fun _=>False) n s,w'⟩:=by
  have ne:∀i,σ.box i≠ .unborn→i≠n:=fun i hi e=>hi (e ▸ hn.un)
  refine ⟨fun i hi=> ?_,fun i hi ha=> ?_,fun i T' l' hi hd=> ?_,fun i c' hi hc=> ?_⟩
  ·show St.box _ i≠_
   rw [hbox,if_neg (ne i hi)]
   split
   ·simp
   ·exact hi
  ·change St.box _ i=_ at ha
   rw [hbox,if_neg (ne i hi)] at ha
   split at ha
   ·simp at ha
   ·rename_i e
    exact ⟨ha,fun x hx=>⟨(hβ i x (ne i hi) e).2 hx,hoth x (h.lt hx) (dis i x e hx)⟩⟩
  ·change St.box _ i=_ at hd
   rw [hbox,if_neg (ne i hi)] at hd
   split at hd
   ·simp at hd
   ·rename_i e
    exact ⟨l',hd,rfl,fun x hx=>⟨(hβ i x (ne i hi) e).2 hx,fun cs hc=>⟨cs,(hoth x (h.lt hx) (dis i x e hx)).trans hc,rfl⟩⟩⟩
  ·change St.box _ i=_ at hc
   rw [hbox,if_neg (ne i hi)] at hc
   split at hc
   ·simp at hc
   ·rename_i e
    exact ⟨c',hc,fun x hx=>(hβ i x (ne i hi) e).2 hx⟩
 have hns:∀x,s x→(w0.heap.size≤x∨β0 (na+1) x)∧x<w'.heap.size:=by
  intro x hx
  have:=h.grow.meta0.size
  rcases hs x hx with hx|hx
  ·have:=h.new b x hna hx;exact ⟨this.1,by omega⟩
  ·exact ⟨.inl (by omega),by omega⟩
 refine ⟨Vs.mono hle _ _ h.tmps,h.defers,fun i=> ?_,fun i hi=> ?_,fun i x hi hx=> ?_,fun i x hi hx=> ?_,fun i j x hi hj hx hy=> ?_,fun i x hi hx=> ?_,hg,fun i x hi hx=>h.arg0 i x hi (by have:=hn.na;rwa [hβ i x (by omega) (by omega)] at hx)⟩
 ·rw [hbox]
  split
  ·rename_i e;subst e;exact hok
  ·rename_i e
   split
   ·trivial
   ·rename_i f
    exact (h.boxes i).mono hle (fun x=>hβ i x e f) (fun x hx=>hoth x (h.lt hx) (dis i x f hx))
 ·have:=hn.na
  rw [hbox,if_neg (by omega),if_neg (by omega)];exact h.args i hi
 ·have:=hn.na
  rw [hβ i x (by omega) (by omega)] at hx;exact h.old i x hi hx
 ·by_cases e:i=n
  ·subst e
   rw [P5] at hx
   exact hns x hx
  ·by_cases f:i=b
   ·subst f;exact absurd hx (hβb x)
   ·rw [hβ i x e f] at hx
    have:=h.new i x hi hx
    exact ⟨this.1,by omega⟩
 ·have hnb:∀j,na<j→T2 (T2 β b fun _=>False) n s j x→(j=n∧s x)∨(j≠n∧j≠b∧β j x):=by
   intro j hj hx
   by_cases e:j=n
   ·subst e;rw [P5] at hx;exact .inl ⟨rfl,hx⟩
   ·by_cases f:j=b
    ·subst f;exact absurd hx (hβb x)
    ·rw [hβ j x e f] at hx;exact .inr ⟨e,f,hx⟩
  have key:∀j,na<j→j≠b→β j x→s x→False:=by
   intro j hj hjb hx hy
   rcases hs x hy with hy|hy
   ·exact dis j x hjb hx hy
   ·have:=h.lt hx;omega
  rcases hnb i hi hx with ⟨e1,s1⟩|⟨e1,f1,x1⟩<;>rcases hnb j hj hy with ⟨e2,s2⟩|⟨e2,f2,x2⟩
  ·omega
  ·exact (key j hj f2 x2 s1).elim
  ·exact (key i hi f1 x1 s2).elim
  ·exact h.disj i j x hi hj x1 x2
 ·rw [hbox] at hi
  split at hi
  ·exact hnb hi
  ·rename_i e
   split at hi
   ·simp at hi
   ·rename_i f
    rw [hβ i x e f] at hx
    exact h.unborn i x hi hx
theorem B2g {f:Nat→Prop} {base:Option Addr} {cap:Nat} {l:List Nat} (h:JI w f base cap l) (h0:0<l.length):
  ∃b off,base=some ⟨b,off,none⟩∧f b∧b<w.heap.size∧∀(j:Nat) (u:Value),(l.map fun (x:Nat)=>Value.int .u32 (x:Int))[j]? =some u→w.cell? ((⟨b,off,none⟩:Addr).add j)=some u:=by
 rcases h with ⟨_,h2⟩|⟨b,off,cells,T,fr,h1,h2,h3,h4,h6,h5⟩
 ·subst h2;simp at h0
 ·refine ⟨b,off,h1,h2,lt_of_block h3,fun j u hj=> ?_⟩
  rw [Z9,cell?_of_block h3]
  simp at hj
  obtain ⟨x,hx,rfl⟩:=hj
  exact h5 j x hx
theorem RX (n:Nat):(Builtin.zeroCells (Value.int .u32 0).cells n).size=n:=by simp [Builtin.zeroCells,Value.cells]
theorem VY (l:List Nat) (rest:Array Value) (j x:Nat) (h:l[j]? =some x):((l.map fun (x:Nat)=>Value.int .u32 (x:Int)).toArray++rest)[j]? =some (.int .u32 (x:Int)):=by
 have hj:j<l.length:=(X3.1 h).1
 rw [Array.getElem?_append_left (by simpa using hj)]
 simp [h]
theorem WK (hR:R na β0 w0 σ β a w) (hb:Sub bx σ.box) {t:TypeId} {p:List Nat} {l:List Nat} {u v:Value} (hu:V ⟨σ.box,β,w⟩ .nilS u) (hv:V ⟨σ.box,β,w⟩ (.dig p l) v)
  (he:CD P bx n t .nilS (.dig p l)=some e) (hp:C6 e.pre True) (hn:Free na σ n) (ty:TypeId):
  ∃β' w' r,(Builtin.append_ #[t,t] ty #[u,v]).run P w= .ok r w'∧R na β0 w0 {σ with boxes:=F4 σ.boxes e.upd} β' a w'∧V ⟨St.box {σ with boxes:=F4 σ.boxes e.upd},β',w'⟩ e.val r:=by
 simp only [CD] at he
 split at he
 ·rename_i el hu32
  split at he
  ·rename_i har
   cases he
   obtain ⟨u1,u2,i,u3,u4,u5,u6⟩:=V8 hu32
   simp only [V] at hu hv
   obtain ⟨hbn,hok,base,cap,rfl,hd⟩:=hv
   subst hu
   have hdig:=hd (Y6 hb β w har)
   have hlen:l.length≤2^40:=hp.1
   by_cases h0:0<l.length
   ·obtain ⟨b,off,rfl,hin,hblt,hcells⟩:=B2g hdig h0
    have hrun:=run_append_nil (P:=P) w t ty el i _ u1 u3 u6 ⟨b,off,none⟩ l.length cap (l.map fun (x:Nat)=>Value.int .u32 (x:Int)) (by simp [u4]) hcells h0 (by omega) (by rw [u5];omega)
    obtain ⟨q1,q2,q3,q4,q5⟩:=hR.A0q hn _ el (.inr rfl)
    refine ⟨_,_,_,hrun,q1,?_⟩
    simp only [V]
    exact ⟨q3,hok,_,_,rfl,fun _=> .inr ⟨w.heap.size,0,_,el,(0,0),rfl,q4,q5,grownCap_ge _ _ _ _,fun j hj=>by rw [Array.size_append,RX];have:=grownCap_ge w l.length 0 el;simp;omega,fun j x hj=>by rw [N9];exact VY l _ j x hj⟩⟩
   ·have hl:l=[]:=List.eq_nil_of_length_eq_zero (by omega)
    subst hl
    have hrun:(Builtin.append_ #[t,t] ty #[.slice none 0 0,.slice base ([]:List Nat).length cap]).run P w= .ok (.slice none 0 0) w:=by
     cases base<;>simp [Builtin.append_,run_underlying u1,sizeOf,typeInfo,u3,Builtin.lenOf,Builtin.firstCells,loadCells,loadCellsFrom]
    have hq:=hR.JW hn.na hn.len hn.un .G4 (fun _=>False) (Grow.refl w) (by simp) (fun x hx=>hx.elim) trivial
    refine ⟨_,_,_,hrun,hq,?_⟩
    simp only [V]
    refine ⟨fun j hj=> ?_,hok,none,0,by simp,fun _=> .inl ⟨rfl,rfl⟩⟩
    simp at hj
    subst hj
    show St.box _ j≠_
    rw [show F4 σ.boxes [(j,Box.G4)]=σ.boxes.set j .G4 from rfl,St.J8 _ _ _ _ hn.len,if_pos rfl]
    simp
  ·cases he
 ·cases he
theorem WL (hR:R na β0 w0 σ β a w) (hb:Sub bx σ.box) {t:TypeId} {p:List Nat} {xs:List Nat} {b:Nat} {u v:Value} (hu:V ⟨σ.box,β,w⟩ (.own b) u) (hv:V ⟨σ.box,β,w⟩ (.dig p xs) v)
  (he:CD P bx n t (.own b) (.dig p xs)=some e) (hp:C6 e.pre True) (hn:Free na σ n) (ty:TypeId):
  ∃β' w' r,(Builtin.append_ #[t,t] ty #[u,v]).run P w= .ok r w'∧R na β0 w0 {σ with boxes:=F4 σ.boxes e.upd} β' a w'∧V ⟨St.box {σ with boxes:=F4 σ.boxes e.upd},β',w'⟩ e.val r:=by
 simp only [CD] at he
 split at he
 ·rename_i T l el hbx hu32
  split at he
  ·rename_i hc
   simp only [K9,decide_eq_true_eq] at hc
   obtain ⟨rfl,har⟩:=hc
   cases he
   obtain ⟨u1,u2,i,u3,u4,u5,u6⟩:=V8 hu32
   have hσ:=hb.D1 hbx
   have hna:=hR.QF (i:=b) (by rw [hσ];simp)
   have hlb:=hR.len (i:=b) (by rw [hσ];simp)
   have hbok:=hR.boxes b
   rw [hσ] at hbok
   obtain ⟨hb1,hb2,hb3⟩:=hbok
   simp only [V] at hu hv
   obtain ⟨hbn,hok,base,cap,rfl,hd⟩:=hv
   have hdig:=hd (Y6 hb β w har)
   obtain ⟨⟨-,hlen⟩,_⟩:=hp
   have hokl:BC (l++xs):=⟨by simp;omega,fun x hx=>(DO.1 hx).elim (hb2.2 x) (hok.2 x)⟩
   have hbn':b≠n:=fun e=>by have:=hn.un;rw [←e,hσ] at this;simp at this
   have hlen':n<(σ.boxes.set b .dead).length:=by simpa using hn.len
   have hboxn:∀nb,St.box {σ with boxes:=(σ.boxes.set b .dead).set n nb} n=nb:=fun nb=>by
    show M6 _ _ _=_
    rw [J8 _ _ _ _ hlen',if_pos rfl]
   have fin:∀(w':World) (g cp:Nat) (cs:Array Value) (s:Nat→Prop) (hs:∀x,s x ↔ x=g) (hsb:β b g∨(w.heap.size≤g∧g<w'.heap.size)) (hoth:∀x,x<w.heap.size→¬β b x→w'.heap[x]? =w.heap[x]?)
     (hg:GrowS (β0 (na+1)) w0 w') (hsz:w.heap.size≤w'.heap.size) (hcs:w'.heap[g]? =some (.cells cs T (0,0))) (hcap:cp=cs.size) (hle:l.length+xs.length≤cp) (hmax:cp≤maxLen)
     (hget:∀(j x:Nat),(l++xs)[j]? =some x→cs[j]? =some (.int .u32 (x:Int))),
     R na β0 w0 {σ with boxes:=(σ.boxes.set b .dead).set n (.D1 T (l++xs))} (T2 (T2 β b fun _=>False) n s) a w'∧
     V ⟨St.box {σ with boxes:=(σ.boxes.set b .dead).set n (.D1 T (l++xs))},T2 (T2 β b fun _=>False) n s,w'⟩ (.own n) (.slice (some ⟨g,0,none⟩) (l++xs).length cp):=by
    intro w' g cp cs s hs hsb hoth hg hsz hcs hcap hle hmax hget
    refine ⟨hR.move hσ hn _ (by simp) s (fun x hx=>by rw [(hs x).1 hx];exact hsb) hoth hg hsz ⟨fun x y hx hy=> ?_,hokl,fun x hx=> ?_⟩,?_⟩
    ·have h1:=(P5 _ _ _ _).1 hx
     have h2:=(P5 _ _ _ _).1 hy
     rw [(hs x).1 h1,(hs y).1 h2]
    ·have h1:=(P5 _ _ _ _).1 hx
     rw [(hs x).1 h1]
     exact ⟨cs,hcs,by simp;omega,hget⟩
    ·simp only [V]
     rw [hboxn]
     refine ⟨by simp,⟨_,_,_,rfl⟩,fun T' l' hl=> ?_⟩
     cases hl
     exact .inr ⟨g,cp,(P5 _ _ _ _).2 ((hs g).2 rfl),rfl,by simp;omega,hmax,cs,hcs,hcap⟩
   have hgrow:∀cs:Array Value,Grow w (w.drew.alloc (.cells cs T)):=fun cs=>((Grow.refl w).drew).alloc cs T
   by_cases hx0:xs=[]
   ·subst hx0
    rcases hu.2.2 T l hσ with ⟨rfl,rfl⟩|⟨blk,cp,g1,rfl,g2,g3,cs,g4,g5⟩
    ·have hrun:(Builtin.append_ #[t,t] ty #[.slice none 0 0,.slice base ([]:List Nat).length cap]).run P w= .ok (.slice none 0 0) w:=by
      cases base<;>simp [Builtin.append_,run_underlying u1,sizeOf,typeInfo,u3,Builtin.lenOf,Builtin.firstCells,loadCells,loadCellsFrom]
     have hfalse:∀x,T2 (T2 β b fun _=>False) n (fun _=>False) n x→False:=fun x hx=>(P5 _ _ _ _).1 hx
     refine ⟨_,_,_,hrun,hR.move hσ hn (.D1 T ([]++[])) (by simp) (fun _=>False) (fun x hx=>hx.elim) (fun x hx _=>rfl) hR.grow (I6 _) ⟨fun x y hx _=>(hfalse x hx).elim,hokl,fun x hx=>(hfalse x hx).elim⟩,?_⟩
     simp only [V]
     rw [show F4 σ.boxes [(b,Box.dead),(n,Box.D1 T ([]++[]))]=(σ.boxes.set b .dead).set n (.D1 T ([]++[])) from rfl,hboxn]
     exact ⟨by simp,⟨_,_,_,rfl⟩,fun T' l' hl=>by cases hl;exact .inl (by simp)⟩
    ·have hrun:(Builtin.append_ #[t,t] ty #[.slice (some ⟨blk,0,none⟩) l.length cp,.slice base ([]:List Nat).length cap]).run P w= .ok (.slice (some ⟨blk,0,none⟩) (l++[]).length cp) w:=by
      cases base<;>simp [Builtin.append_,run_underlying u1,sizeOf,typeInfo,u3,Builtin.lenOf,Builtin.firstCells,loadCells,loadCellsFrom,g2,storeCells]
     obtain ⟨f1,f2⟩:=fin w blk cp cs (·=blk) (fun x=>Iff.rfl) (.inl g1) (fun _ _ _=>rfl) hR.grow (I6 _) g4 g5 (by simpa using g2) g3 (fun j x hj=>by
      obtain ⟨cs',hc',h4,h5⟩:=hb3 blk g1
      rw [g4] at hc'
      cases hc'
      exact h5 j x (by simpa using hj))
     exact ⟨_,_,_,hrun,f1,f2⟩
   have h0:0<xs.length:=List.length_pos_iff.2 hx0
   obtain ⟨xb,xoff,rfl,hin,hxlt,hcells⟩:=B2g hdig h0
   rcases hu.2.2 T l hσ with ⟨rfl,rfl⟩|⟨blk,cp,g1,rfl,g2,g3,cs,g4,g5⟩
   ·have hrun:=run_append_nil (P:=P) w t ty T i _ u1 u3 u6 ⟨xb,xoff,none⟩ xs.length cap (xs.map fun (x:Nat)=>Value.int .u32 (x:Int)) (by simp [u4]) hcells h0 (by omega) (by rw [u5];omega)
    have hge:=grownCap_ge w xs.length 0 T
    obtain ⟨C,hC⟩:∃C,C=((xs.map fun (x:Nat)=>Value.int .u32 (x:Int)).toArray++Builtin.zeroCells (Value.int .u32 0).cells (grownCap w xs.length 0 T-xs.length)):=⟨_,rfl⟩
    rw [←hC] at hrun
    obtain ⟨f1,f2⟩:=fin (w.drew.alloc (.cells C T)) w.heap.size (grownCap w xs.length 0 T) C (·=w.heap.size) (fun x=>Iff.rfl) (.inr ⟨I6 _,by simp⟩) (fun x hx _=>(hgrow _).below.block x hx) (hR.grow.trans (hgrow _)) (by simp) (heap_alloc_new w.drew _)
     (by rw [hC];simp [RX];omega) (by simpa using hge) (grownCap_le_maxLen _ _ _ _ (by simp only [maxLen];omega)) (fun j x hj=>by rw [hC];exact VY xs _ j x hj)
    exact ⟨_,_,_,hrun,f1,f2⟩
   ·obtain ⟨cs',hc',h4,h5⟩:=hb3 blk g1
    rw [g4] at hc'
    cases hc'
    by_cases hroom:l.length+xs.length≤cp
    ·have hrun:=run_append_room (P:=P) w t ty T i u1 u3 blk l.length cp cs g4 ⟨xb,xoff,none⟩ xs.length cap (xs.map fun (x:Nat)=>Value.int .u32 (x:Int)) (by simp [u4]) hcells (fun y hy=>by simp at hy;obtain ⟨x,_,rfl⟩:=hy;rfl) hroom (by simp [u4];omega)
     rw [u4,M0] at hrun
     obtain ⟨C,hC⟩:∃C,C=(cs.toList.take l.length++(xs.map fun (x:Nat)=>Value.int .u32 (x:Int))++cs.toList.drop (l.length+(xs.map fun (x:Nat)=>Value.int .u32 (x:Int)).length)).toArray:=⟨_,rfl⟩
     rw [←hC] at hrun
     obtain ⟨f1,f2⟩:=fin (w.setRow blk C) blk cp C (·=blk) (fun x=>Iff.rfl) (.inl g1) (fun x hx hne=>setRow_other _ _ _ _ (fun e=>hne (e ▸ g1))) (OB hR.grow (hR.new b blk hna g1).1 g4 (by rw [hC];simp;omega)) (by simp) (setRow_heap w blk cs _ T (0,0) g4)
      (by rw [hC];simp;omega) hroom g3 (fun j x hj=>by
       rw [hC,MH]
       rw [List.getElem?_append] at hj
       rw [U8]
       split at hj
       ·rename_i hjl
        rw [DU (by simp;omega),AK,if_pos hjl]
        simpa using h5 j x hj
       ·rename_i hjl
        have hjx:j-l.length<xs.length:=(X3.1 hj).1
        rw [AJ (by simp;omega),DU (by simp;omega)]
        have e1:(cs.toList.take l.length).length=l.length:=by simp;omega
        rw [e1]
        simp [hj])
     rw [g7] at f2
     exact ⟨_,_,_,hrun,f1,f2⟩
    ·have holds:∀(j:Nat) (y:Value),(l.map fun (x:Nat)=>Value.int .u32 (x:Int))[j]? =some y→w.cell? ((⟨blk,0,none⟩:Addr).add j)=some y:=by
      intro j y hj
      rw [Z9,cell?_of_block g4,N9]
      simp at hj
      obtain ⟨x,hx,rfl⟩:=hj
      exact h5 j x hx
     have hfit:Builtin.nextslicecap (l.length+xs.length) cp*i.bytes≤281474976710656:=growslice_fits (by omega) (by rw [u5];omega)
     have hrun:=run_append_grow (P:=P) w t ty T i _ u1 u3 u6 ⟨blk,0,none⟩ l.length cp (l.map fun (x:Nat)=>Value.int .u32 (x:Int)) (by simp [u4]) holds ⟨xb,xoff,none⟩ xs.length cap (xs.map fun (x:Nat)=>Value.int .u32 (x:Int)) (by simp [u4]) hcells (by omega) (by omega) hfit
     have hge:=grownCap_ge w (l.length+xs.length) cp T
     obtain ⟨C,hC⟩:∃C,C=((l.map fun (x:Nat)=>Value.int .u32 (x:Int)).toArray++(xs.map fun (x:Nat)=>Value.int .u32 (x:Int)).toArray++Builtin.zeroCells (Value.int .u32 0).cells (grownCap w (l.length+xs.length) cp T-(l.length+xs.length))):=⟨_,rfl⟩
     rw [←hC] at hrun
     obtain ⟨f1,f2⟩:=fin (w.drew.alloc (.cells C T)) w.heap.size (grownCap w (l.length+xs.length) cp T) C (·=w.heap.size) (fun x=>Iff.rfl) (.inr ⟨I6 _,by simp⟩) (fun x hx _=>(hgrow _).below.block x hx) (hR.grow.trans (hgrow _)) (by simp) (heap_alloc_new w.drew _)
      (by rw [hC];simp [RX];omega) hge (grownCap_le_maxLen _ _ _ _ (by simp only [maxLen];omega)) (fun j x hj=>by
       rw [hC]
       have:=VY (l++xs) (Builtin.zeroCells (Value.int .u32 0).cells (grownCap w (l.length+xs.length) cp T-(l.length+xs.length))) j x hj
       simpa using this)
     rw [g7] at f2
     exact ⟨_,_,_,hrun,f1,f2⟩
  ·cases he
 ·cases he
end
end Go.AI

namespace Go.AI
open Go Go.RowKit
set_option linter.unusedVariables false
set_option linter.unusedSimpArgs false
def VI (P:Program) (f:Nat):Prop:=∀args w,(callFunc f args).run P w= .ok (.enter f args) w
def X8 (na:Nat):Nat→Box:=fun i=>if i≤na then .G4 else .unborn
def AQ (w w':World) (β:Nat→Nat→Prop):Nat→Nat→Prop:=fun i x=>if i=0 then w.heap.size≤x∧x<w'.heap.size else β i x
structure Turn (S:Nat→Prop) (w w':World):Prop where
 meta0:Below 0 w w'
 other:∀x,x<w.heap.size→¬S x→w'.heap[x]? =w.heap[x]?
 inS:∀x c T,S x→w.heap[x]? =some (.cells c T (0,0))→∃c':Array Value,w'.heap[x]? =some (.cells c' T (0,0))∧c'.size=c.size
 fresh:∀k,w.heap.size≤k→k<w'.heap.size→∃c T,w'.heap[k]? =some (.cells c T (0,0))
theorem Turn.mono {S S':Nat→Prop} {w w':World} (h:Turn S w w') (hS:∀x,S x→S' x):Turn S' w w':=
 ⟨h.meta0,fun x hl hx=>h.other x hl fun hs=>hx (hS x hs),fun x c T _ hc=>by
  by_cases hs:S x
  ·exact h.inS x c T hs hc
  ·exact ⟨c,(h.other x (Q8.1 hc).1 hs).trans hc,rfl⟩,h.fresh⟩
def MM (w:World) (T:TypeId) (L:List Nat) (g:Nat):Prop:=
 ∃cs:Array Value,w.heap[g]? =some (.cells cs T (0,0))∧L.length≤cs.size∧∀(j y:Nat),L[j]? =some y→cs[j]? =some (.int .u32 (y:Int))
def YQ (g cap lo len:Nat):AV→Value→Prop
 | .num k d,v=>v= .int k d∧k.min≤d∧d≤k.max
 | .addr _ k,v=>v= .slice (some ⟨g,lo,none⟩) k cap∧k≤len
 |_,_=>False
def D64 (w w':World) (T:TypeId) (l:List Nat) (v:Value):Prop:=
 (v= .slice none 0 0∧l=[])∨∃(g:Nat) (cs:Array Value),w.heap.size≤g∧g<w'.heap.size∧w'.heap[g]? =some (.cells cs T (0,0))∧v= .slice (some ⟨g,0,none⟩) l.length cs.size∧l.length≤cs.size∧cs.size≤maxLen∧
  ∀(j y:Nat),l[j]? =some y→cs[j]? =some (.int .u32 (y:Int))
def ER (args:List AV) (res:AV) (w w':World) (β:Nat→Nat→Prop) (cargs:List Value) (v:Value):Prop:=match kindOf res with
 |0=>Grow w w'∧V ⟨fun _=> .G4,AQ w w' β,w'⟩ res v
 |1=>v= .tuple #[]∧Turn (fun x=>∃i,β i x) w w'
 |2=>match args,res with
  | .handv T L _ lo len::_,.boxv [.dig _ L',r]=>∃g cap tl,cargs= .slice (some ⟨g,lo,none⟩) len cap::tl∧GrowS (·=g) w w'∧L'.length=L.length∧BC L'∧MM w' T L' g∧YQ g cap lo len r v
  |_,_=>False
 |_=>match res with
  | .grown T l=>Grow w w'∧BC l∧D64 w w' T l v
  |_=>False
def A7g (args:List AV) (res:AV) (w:World) (β:Nat→Nat→Prop) (cargs:List Value):Prop:=match kindOf res with
 |1=>∀i x,β i x→∃c T,w.heap[x]? =some (.cells c T (0,0))
 |2=>match args with
  | .handv T L _ lo len::_=>∃g cap tl,cargs= .slice (some ⟨g,lo,none⟩) len cap::tl∧len≤cap∧BC L∧lo+len≤L.length∧MM w T L g∧(∃cs,w.heap[g]? =some (.cells cs T (0,0))∧lo+cap≤cs.size)∧∀i x,β i x→x≠g
  |_=>False
 |_=>True
theorem C5n {C:Ctx} {res:AV} {v:Value} (hV:V C res v):kindOf res=0:=by
 cases res with
 |boxv _=>simp only [V] at hV
 |grown _ _=>simp only [V] at hV
 |_=>rfl
theorem ER.of {args:List AV} {cargs:List Value} {res:AV} {w w':World} {β:Nat→Nat→Prop} {v:Value} (hg:Grow w w') (hV:V ⟨fun _=> .G4,AQ w w' β,w'⟩ res v):ER args res w w' β cargs v:=by
 unfold ER
 rw [C5n hV]
 exact ⟨hg,hV⟩
structure Contract (P:Program) (Inv:World→Prop) (f:Nat) (args:List AV) (res:AV):Prop where
 enters:VI P f
 calls:∀(w:World) (cargs:List Value) (β:Nat→Nat→Prop),Inv w→(∀i x,β i x→x<w.heap.size)→Vs ⟨X8 args.length,β,w⟩ args cargs→A7g args res w β cargs→
  Calls P f cargs.toArray w fun e w'=>∃v,e= .returned v∧ER args res w w' β cargs v
def G6 (P:Program) (Inv:World→Prop) (Φ:Nat→List AV→Option Spec):Prop:=∀f args s,Φ f args=some s→C6 s.pre True→Contract P Inv f args s.res
theorem WD {α β:Type} {f:α→Option β}:∀{l:List α} {r:List β},WC f l=some r→r.length=l.length∧∀(i:Nat) (x:α),l[i]? =some x→∃y,f x=some y∧r[i]? =some y
 |[],r,h=>by simp [WC] at h;subst h;simp
 |x::l,r,h=>by
  unfold WC at h
  split at h
  ·cases h
  ·rename_i y hy
   split at h
   ·cases h
   ·rename_i r' hr
    cases h
    obtain ⟨h1,h2⟩:=WD hr
    refine ⟨by simp [h1],fun i z hi=> ?_⟩
    cases i with
    |zero=>simp at hi;subst hi;exact ⟨y,hy,by simp⟩
    |succ i=>obtain ⟨u,hu1,hu2⟩:=h2 i z (by simpa using hi);exact ⟨u,hu1,by simpa using hu2⟩
theorem Vs.WC {C C':Ctx} {f:AV→Option AV} {cs cs':List AV} {vs:List Value} (h:Vs C cs vs) (hf:WC f cs=some cs') (k:∀c ∈ cs,∀c',f c=some c'→∀v,V C c v→V C' c' v):Vs C' cs' vs:=by
 obtain ⟨h1,h2⟩:=WD hf
 refine Vs.of (by rw [h1];exact h.length) fun i c' v hc hv=> ?_
 obtain ⟨c,hc1,hc2⟩:=h.D4o hv
 obtain ⟨c'',hy1,hy2⟩:=h2 i c hc1
 rw [hc] at hy2
 cases hy2
 exact k c (X7 hc1) _ hy1 v hc2
theorem s8 {x:Nat}:∀{l:List Nat},x ∈ AN l ↔ x ∈ l
 |[]=>by simp [AN]
 |y::l=>by
  unfold AN
  split
  ·rename_i h
   rw [s8,Q5]
   refine ⟨.inr,fun hx=> ?_⟩
   rcases hx with rfl|hx
   ·simpa using h
   ·exact hx
  ·rw [Q5,Q5,s8]
theorem NR:∀(l:List Nat),(AN l).Nodup
 |[]=>by simp [AN]
 |y::l=>by
  unfold AN
  split
  ·exact NR l
  ·rename_i h
   rw [List.nodup_cons]
   refine ⟨fun hm=>h ?_,NR l⟩
   simpa using s8.1 hm
section
variable {P:Program} {na:Nat} {β0:Nat→Nat→Prop} {w0:World} {σ:St} {β:Nat→Nat→Prop} {a:Act} {w:World} {o:Oper} {bx:Nat→Box} {Φ:Nat→List AV→Option Spec} {dr:Bool} {n:Nat} {e:Eff}
theorem A7j (hR:R na β0 w0 σ β a w) (hb:Sub bx σ.box) {i:Nat} {C':Ctx} (hw:C'.w=w) (hbi:C'.bs i= .G4):∀(k:Nat) (c c':AV) (v:Value),V ⟨σ.box,β,w⟩ c v→AV.asArg bx i k c=some c'→
  (∀j ∈ AV.ids bx k c,∀x,β j x→C'.β i x)→V C' c' v
 |0,c,c',v,_,h,_=>by simp [AV.asArg] at h
 |k+1,c,c',v,hV,h,hβ=>by
  have hborn:C'.born [i]:=fun j hj=>by simp at hj;subst hj;rw [hbi];simp
  have hin:∀(p:List Nat) (hp:∀j ∈ p,j ∈ AV.ids bx (k+1) c) (b:Nat),Ctx.inP ⟨σ.box,β,w⟩ p b→C'.inP [i] b∧C'.w.heap[b]? =w.heap[b]? :=by
   intro p hp b ⟨j,hj,hx⟩
   exact ⟨⟨i,by simp,hβ j (hp j hj) b hx⟩,by rw [hw]⟩
  have sub:∀(cs cs':List AV) (vs:List Value),Vs ⟨σ.box,β,w⟩ cs vs→WC (AV.asArg bx i k) cs=some cs'→(∀d ∈ cs,∀j ∈ AV.ids bx k d,j ∈ AV.ids bx (k+1) c)→Vs C' cs' vs:=by
   intro cs cs' vs hvs hm hids
   exact hvs.WC hm fun d hd d' hd' u hu=>A7j hR hb hw hbi k d d' u hu hd' fun j hj x hx=>hβ j (hids d hd j hj) x hx
  simp only [AV.asArg] at h
  split at h
  ·cases h;simp only [V]
  ·cases h;simp only [V] at hV ⊢;exact hV
  ·cases h;simp only [V] at hV ⊢;exact hV
  ·cases h
   simp only [V] at hV ⊢
   subst hV
   exact ⟨hborn,⟨by simp,by simp⟩,none,0,by simp,fun _=> .inl ⟨rfl,rfl⟩⟩
  ·rename_i p l
   split at h
   ·rename_i har
    cases h
    simp only [V] at hV ⊢
    obtain ⟨_,hok,base,cap,rfl,hd⟩:=hV
    exact ⟨hborn,hok,base,cap,rfl,fun _=>(hd (Y6 hb β w har)).mono (hin p (fun j hj=>by simpa [AV.ids] using hj))⟩
   ·cases h
  ·rename_i b
   split at h
   ·rename_i T l hbx
    cases h
    have hσ:=hb.D1 hbx
    have hbok:=hR.boxes b
    rw [hσ] at hbok
    simp only [V] at hV ⊢
    rcases hV.2.2 T l hσ with ⟨rfl,rfl⟩|⟨blk,cap,g1,rfl,g2,g3,cs,g4,g5⟩
    ·exact ⟨hborn,hbok.2.1,none,0,by simp,fun _=> .inl ⟨rfl,rfl⟩⟩
    ·obtain ⟨cs',hc',h4,h5⟩:=hbok.2.2 blk g1
     have hc'':w.heap[blk]? =some (.cells cs' T (0,0)):=hc'
     refine ⟨hborn,hbok.2.1,_,_,rfl,fun _=> .inr ⟨blk,0,cs',T,(0,0),rfl,⟨i,by simp,hβ b (by simp [AV.ids]) blk g1⟩,by rw [hw];exact hc'',g2,fun j hj=> ?_,fun j x hj=> ?_⟩⟩
     ·have g4':w.heap[blk]? =some (.cells cs T (0,0)):=g4
      rw [hc''] at g4'
      cases g4'
      omega
     rw [N9]
     exact h5 j x hj
   ·cases h
  ·rename_i b gc lo len
   split at h
   ·rename_i T l hbx
    cases h
    have hσ:=hb.D1 hbx
    have hbok:=hR.boxes b
    rw [hσ] at hbok
    simp only [V] at hV ⊢
    obtain ⟨_,g,cap,_,rfl,hlc,hd⟩:=hV
    obtain ⟨g1,g2,cs,g4,g5⟩:=hd T l hσ
    have g4:w.heap[g]? =some (.cells cs T (0,0)):=g4
    obtain ⟨cs',hc',h4,h5⟩:=hbok.2.2 g g1
    have hc'':w.heap[g]? =some (.cells cs' T (0,0)):=hc'
    rw [hc''] at g4
    cases g4
    have hlen:((l.drop lo).take len).length=len:=by simp;omega
    refine ⟨hborn,(hbok.2.1.drop lo).take len,some ⟨g,lo,none⟩,cap,by rw [hlen],fun _=> .inr ⟨g,lo,cs,T,(0,0),rfl,⟨i,by simp,hβ b (by simp [AV.ids]) g g1⟩,by rw [hw];exact hc'',by rw [hlen];exact hlc,fun j hj=>by omega,fun j x hj=> ?_⟩⟩
    rw [AK] at hj
    split at hj
    ·rw [Y5] at hj
     exact h5 _ x hj
    ·cases hj
   ·cases h
  ·rename_i p m l
   split at h
   ·rename_i har
    split at h
    ·rename_i l' hl
     cases h
     simp only [V] at hV ⊢
     obtain ⟨_,hlen,hm,base,cap,us,rfl,hus,hsz,hd⟩:=hV
     have hl':=(WD hl).1
     refine ⟨hborn,by omega,hm,base,cap,us,by rw [hl'],sub l l' us hus hl (fun d hd j hj=> ?_),hsz,fun _=>(hd (Y6 hb β w har)).mono (hin p (fun j hj=>by simp [AV.ids,hj]))⟩
     simp only [AV.ids,DO,p9]
     exact .inr ⟨d,hd,hj⟩
    ·cases h
   ·cases h
  ·rename_i cs
   split at h
   ·rename_i cs' hcs
    cases h
    simp only [V] at hV ⊢
    obtain ⟨vs,rfl,hvs⟩:=hV
    refine ⟨vs,rfl,sub cs cs' vs hvs hcs fun d hd j hj=> ?_⟩
    simp only [AV.ids,p9]
    exact ⟨d,hd,hj⟩
   ·cases h
  ·rename_i p cs
   split at h
   ·rename_i har
    split at h
    ·rename_i cs' hcs
     cases h
     simp only [V] at hV ⊢
     obtain ⟨_,vs,hvs,b,off,rfl,hd⟩:=hV
     have hd':=hd (Y6 hb β w har)
     refine ⟨hborn,vs,sub cs cs' vs hvs hcs (fun d hd j hj=> ?_),b,off,rfl,fun _=>⟨(hin p (fun j hj=>by simp [AV.ids,hj]) b hd'.1).1,by rw [hw];exact hd'.2⟩⟩
     simp only [AV.ids,DO,p9]
     exact .inr ⟨d,hd,hj⟩
    ·cases h
   ·cases h
  ·rename_i b off
   split at h
   ·rename_i cs hbx
    split at h
    ·rename_i cs' hcs
     cases h
     have hσ:=hb.cells hbx
     have hbok:=hR.boxes b
     rw [hσ] at hbok
     obtain ⟨blk',h1,vs,T,h2,h3⟩:=hbok
     simp only [V] at hV ⊢
     obtain ⟨blk,hβb,rfl⟩:=hV.2 (by rw [hσ];trivial)
     have hbb:blk=blk':=(h1 blk).1 hβb
     subst hbb
     have h2':w.heap[blk]? =some (.cells vs T (0,0)):=h2
     refine ⟨hborn,vs.toList.drop off,sub _ cs' _ (h3.drop off) hcs (fun d hd j hj=> ?_),blk,off,rfl,fun _=>⟨⟨i,by simp,hβ b (by simp [AV.ids,hbx]) blk hβb⟩,fun j u hj=> ?_⟩⟩
     ·simp only [AV.ids,hbx,Q5,p9]
      exact .inr ⟨d,hd,hj⟩
     ·rw [hw,cell?_of_block h2']
      rw [Y5] at hj
      simpa using hj
    ·cases h
   ·cases h
  ·rename_i f caps
   split at h
   ·rename_i cs' hcs
    cases h
    simp only [V] at hV ⊢
    obtain ⟨vs,rfl,hvs⟩:=hV
    refine ⟨vs,rfl,sub caps cs' vs hvs hcs fun d hd j hj=> ?_⟩
    simp only [AV.ids,p9]
    exact ⟨d,hd,hj⟩
   ·cases h
  ·cases h
theorem CR (hR:R na β0 w0 σ β a w) (hb:Sub bx σ.box) {C':Ctx} (hw:C'.w=w):∀(cs:List AV) (vs:List Value) (i:Nat) (as:List AV) (ps:List (List Nat)),Vs ⟨σ.box,β,w⟩ cs vs→
  V3 bx i cs=some (as,ps)→(∀j,i≤j→j<i+cs.length→C'.bs j= .G4)→(∀j p,ps[j]? =some p→∀m ∈ p,∀x,β m x→C'.β (i+j) x)→
  as.length=cs.length∧ps.length=cs.length∧Vs C' as vs
 |[],[],i,as,ps,_,h,_,_=>by
  simp [V3] at h
  obtain ⟨rfl,rfl⟩:=h
  simp [Vs]
 |c::cs,v::vs,i,as,ps,hV,h,hbs,hβ=>by
  unfold V3 at h
  split at h
  ·cases h
  ·rename_i c' hc
   split at h
   ·cases h
   ·rename_i cs' ps' hcs
    cases h
    simp only [Vs] at hV
    obtain ⟨h1,h2,h3⟩:=CR hR hb hw cs vs (i+1) cs' ps' hV.2 hcs (fun j hj1 hj2=>hbs j (by omega) (by simp;omega)) (fun j p hp m hm x hx=>by
     have:=hβ (j+1) p (by simpa using hp) m hm x hx
     rwa [show i+(j+1)=i+1+j by omega] at this)
    refine ⟨by simp [h1],by simp [h2],?_⟩
    simp only [Vs]
    refine ⟨A7j hR hb hw (hbs i (I6 _) (by simp)) 8 c c' v hV.1 hc fun j hj x hx=> ?_,h3⟩
    have:=hβ 0 (AN (AV.ids bx 8 c)) (by simp) j (s8.2 hj) x hx
    simpa using this
 |[],_::_,_,_,_,hV,_,_,_=>by simp only [Vs] at hV
 |_::_,[],_,_,_,hV,_,_,_=>by simp only [Vs] at hV
mutual
theorem C4h {C C':Ctx} (hC:∀i,C.bs i= .G4) (hw:C'.w=C.w) (g:Nat→List Nat):∀(c:AV) (v:Value),V C c v→
  (∀j ∈ AV.names c,(∀x,C.β j x→∃i ∈ g j,C'.β i x)∧∀i ∈ g j,C'.bs i≠ .unborn)→V C' (AV.CI g c) v
 | .junk,_,_,_=>by simp only [AV.CI,V]
 | .num ..,_,hV,_=>by simp only [AV.CI,V] at hV ⊢;exact hV
 | .bool _,_,hV,_=>by simp only [AV.CI,V] at hV ⊢;exact hV
 | .nilS,_,hV,_=>by simp only [AV.CI,V] at hV ⊢;exact hV
 | .dig p l,_,hV,h=>by
  simp only [AV.CI,V] at hV ⊢
  obtain ⟨_,hok,base,cap,rfl,hd⟩:=hV
  refine ⟨fun i hi=> ?_,hok,base,cap,rfl,fun _=>(hd (fun i _=>hC i)).mono fun b hb=> ?_⟩
  ·obtain ⟨j,hj,hi⟩:=p9.1 (s8.1 hi)
   exact (h j (by simpa [AV.names] using hj)).2 i hi
  ·obtain ⟨j,hj,hx⟩:=hb
   obtain ⟨i,hi,hxi⟩:=(h j (by simpa [AV.names] using hj)).1 b hx
   exact ⟨⟨i,s8.2 (p9.2 ⟨j,hj,hi⟩),hxi⟩,by rw [hw]⟩
 | .vec p n l,_,hV,h=>by
  simp only [AV.CI,V] at hV ⊢
  obtain ⟨_,hlen,hn,base,cap,us,rfl,hus,hsz,hd⟩:=hV
  have hll:(AV.JD g l).length=l.length:=QI g l
  refine ⟨fun i hi=> ?_,by omega,hn,base,cap,us,by rw [hll],UD hC hw g l us hus (fun j hj=>h j (by simp [AV.names,hj])),hsz,fun _=>(hd (fun i _=>hC i)).mono fun b hb=> ?_⟩
  ·obtain ⟨j,hj,hi⟩:=p9.1 (s8.1 hi)
   exact (h j (by simp [AV.names,hj])).2 i hi
  ·obtain ⟨j,hj,hx⟩:=hb
   obtain ⟨i,hi,hxi⟩:=(h j (by simp [AV.names,hj])).1 b hx
   exact ⟨⟨i,s8.2 (p9.2 ⟨j,hj,hi⟩),hxi⟩,by rw [hw]⟩
 | .agg cs,_,hV,h=>by
  simp only [AV.CI,V] at hV ⊢
  obtain ⟨vs,rfl,hvs⟩:=hV
  exact ⟨vs,rfl,UD hC hw g cs vs hvs (fun j hj=>h j (by simpa [AV.names] using hj))⟩
 | .tup cs,_,hV,h=>by
  simp only [AV.CI,V] at hV ⊢
  obtain ⟨vs,rfl,hvs⟩:=hV
  exact ⟨vs,rfl,UD hC hw g cs vs hvs (fun j hj=>h j (by simpa [AV.names] using hj))⟩
 | .addr ..,_,_,_=>by simp only [AV.CI,V]
 | .own _,_,_,_=>by simp only [AV.CI,V]
 | .cref ..,_,_,_=>by simp only [AV.CI,V]
 | .fn ..,_,_,_=>by simp only [AV.CI,V]
 | .grown ..,_,_,_=>by simp only [AV.CI,V]
 | .boxv _,_,_,_=>by simp only [AV.CI,V]
 | .hand ..,_,_,_=>by simp only [AV.CI,V]
 | .handv ..,_,_,_=>by simp only [AV.CI,V]
 | .avec ..,_,_,_=>by simp only [AV.CI,V]
theorem UD {C C':Ctx} (hC:∀i,C.bs i= .G4) (hw:C'.w=C.w) (g:Nat→List Nat):∀(cs:List AV) (vs:List Value),Vs C cs vs→
  (∀j ∈ AV.RM cs,(∀x,C.β j x→∃i ∈ g j,C'.β i x)∧∀i ∈ g j,C'.bs i≠ .unborn)→Vs C' (AV.JD g cs) vs
 |[],[],_,_=>by simp only [AV.JD,Vs]
 |c::cs,v::vs,hV,h=>by
  simp only [AV.JD,Vs] at hV ⊢
  exact ⟨C4h hC hw g c v hV.1 (fun j hj=>h j (by simp [AV.RM,hj])),UD hC hw g cs vs hV.2 (fun j hj=>h j (by simp [AV.RM,hj]))⟩
 |[],_::_,hV,_=>by simp only [Vs] at hV
 |_::_,[],hV,_=>by simp only [Vs] at hV
theorem QI (g:Nat→List Nat):∀(cs:List AV),(AV.JD g cs).length=cs.length
 |[]=>rfl
 |_::cs=>by simp [AV.JD,QI g cs]
end
end
end Go.AI

namespace Go.AI
open Go Go.RowKit
set_option linter.unusedVariables false
set_option linter.unusedSimpArgs false
section
variable {P:Program} {Inv:World→Prop} {na:Nat} {β0:Nat→Nat→Prop} {w0:World} {σ:St} {β:Nat→Nat→Prop} {a:Act} {w:World} {o:Oper} {bx:Nat→Box} {Φ:Nat→List AV→Option Spec} {dr:Bool} {n:Nat} {e:Eff}
theorem OX (dr:Bool) {n:Nat} (hn:na<n):∀(p:List Nat) (u:List (Nat×Box)) (σ:St) (β:Nat→Nat→Prop),p.Nodup→n ∉ p→freeze bx dr p=some u→(∀i ∈ p,bx i= .unborn∨bx i=σ.box i)→
  R na β0 w0 σ β a w→σ.box n= .G4→
  ∃β',R na β0 w0 {σ with boxes:=F4 σ.boxes u} β' a w∧St.box {σ with boxes:=F4 σ.boxes u} n= .G4∧(∀x,β n x→β' n x)∧
   (∀i,i≠n→σ.box i= .G4→St.box {σ with boxes:=F4 σ.boxes u} i= .G4∧∀x,β i x→β' i x)∧∀i ∈ p,(bx i= .G4∧σ.box i= .G4)∨∃T l,bx i= .D1 T l∧∀x,β i x→β' n x
 |[],u,σ,β,_,_,h,_,hR,ha=>by
  simp [freeze] at h
  subst h
  exact ⟨β,hR,ha,fun _ hx=>hx,fun i _ hi=>⟨hi,fun _ hx=>hx⟩,fun i hi=>by simp at hi⟩
 |i::p,u,σ,β,hnd,hnp,h,hbx,hR,ha=>by
  rw [List.nodup_cons] at hnd
  simp only [Q5,not_or] at hnp
  unfold freeze at h
  split at h
  ·rename_i hi
   obtain ⟨β',h1,h2,h3,h4,h5⟩:=OX dr hn p u σ β hnd.2 hnp.2 h (fun j hj=>hbx j (by simp [hj])) hR ha
   refine ⟨β',h1,h2,h3,h4,fun j hj=> ?_⟩
   rcases Q5.1 hj with rfl|hj
   ·refine .inl ⟨hi,?_⟩
    rcases hbx j (by simp) with h'|h'<;>rw [hi] at h'
    ·simp at h'
    ·exact h'.symm
   ·exact h5 j hj
  ·rename_i T l hi
   split at h
   ·cases h
   ·split at h
    ·rename_i u' hu'
     cases h
     have hσi:σ.box i= .D1 T l:=by
      rcases hbx i (by simp) with h'|h'<;>rw [hi] at h'
      ·simp at h'
      ·exact h'.symm
     have hnai:=hR.QF (i:=i) (by rw [hσi];simp)
     have hli:=hR.len (i:=i) (by rw [hσi];simp)
     have hR':=hR.D4p hnai hli (Ne.symm hnp.1) hn ha
     have hbox':∀j,St.box {σ with boxes:=σ.boxes.set i .dead} j=if j=i then .dead else σ.box j:=fun j=>St.J8 _ _ _ _ hli
     obtain ⟨β',h1,h2,h3,h4,h5⟩:=OX dr hn p u' {σ with boxes:=σ.boxes.set i .dead} (BF β i n) hnd.2 hnp.2 hu' (fun j hj=>by
      have hji:¬j=i:=fun e=>hnd.1 (e ▸ hj)
      rw [hbox',if_neg hji]
      exact hbx j (by simp [hj])) hR' (by rw [hbox',if_neg hnp.1];exact ha)
     refine ⟨β',h1,h2,fun x hx=>h3 x ?_,fun j hjn hj=> ?_,fun j hj=> ?_⟩
     ·unfold BF
      rw [if_neg hnp.1,if_pos rfl]
      exact .inl hx
     ·have hji:j≠i:=fun e=>by rw [e,hσi] at hj;simp at hj
      obtain ⟨q1,q2⟩:=h4 j hjn (by rw [hbox',if_neg hji];exact hj)
      refine ⟨q1,fun x hx=>q2 x ?_⟩
      unfold BF
      rw [if_neg hji,if_neg hjn]
      exact hx
     ·rcases Q5.1 hj with rfl|hj
      ·refine .inr ⟨T,l,hi,fun x hx=>h3 x ?_⟩
       unfold BF
       rw [if_neg hnp.1,if_pos rfl]
       exact .inr hx
      ·have hji:j≠i:=fun e=>hnd.1 (e ▸ hj)
       rcases h5 j hj with ⟨q1,q2⟩|⟨T',l',q1,q2⟩
       ·rw [hbox',if_neg hji] at q2
        exact .inl ⟨q1,q2⟩
       ·refine .inr ⟨T',l',q1,fun x hx=>q2 x ?_⟩
        unfold BF
        rw [if_neg hji,if_neg]
        ·exact hx
        ·intro e;exact hnp.2 (e ▸ hj)
    ·cases h
  ·cases h
theorem LA {n m:Nat}:∀{p:List Nat},m ∈ BI bx n p→(m=n∧∃i ∈ p,∃T l,bx i= .D1 T l)∨(m ∈ p∧∀T l,bx m≠ .D1 T l)
 |[],h=>by simp [BI] at h
 |i::p,h=>by
  unfold BI at h
  split at h
  ·rename_i T l hi
   rcases Q5.1 h with rfl|h
   ·exact .inl ⟨rfl,i,by simp,T,l,hi⟩
   ·rcases LA h with ⟨h1,j,hj,hh⟩|⟨h1,h2⟩
    ·exact .inl ⟨h1,j,by simp [hj],hh⟩
    ·exact .inr ⟨by simp [h1],h2⟩
  ·rename_i hi
   rcases Q5.1 h with rfl|h
   ·exact .inr ⟨by simp,fun T l e=>hi T l e⟩
   ·rcases LA h with ⟨h1,j,hj,hh⟩|⟨h1,h2⟩
    ·exact .inl ⟨h1,j,by simp [hj],hh⟩
    ·exact .inr ⟨by simp [h1],h2⟩
theorem KJ {n i:Nat}:∀{p:List Nat},i ∈ p→(∀T l,bx i≠ .D1 T l)→i ∈ BI bx n p
 |j::p,h,hi=>by
  unfold BI
  rcases Q5.1 h with rfl|h
  ·split
   ·rename_i T l e;exact absurd e (hi T l)
   ·simp
  ·split
   ·simp [KJ h hi]
   ·simp [KJ h hi]
theorem QB {n i:Nat} {T:TypeId} {l:List Nat} (hi:bx i= .D1 T l):∀{p:List Nat},i ∈ p→n ∈ BI bx n p
 |j::p,h=>by
  unfold BI
  rcases Q5.1 h with rfl|h
  ·split
   ·simp
   ·rename_i e;exact absurd hi (e T l)
  ·split
   ·simp
   ·simp [QB hi h]
theorem CS:∀(cs:List AV) (i:Nat) (as:List AV) (ps:List (List Nat)),V3 bx i cs=some (as,ps)→as.length=cs.length:=by
 intro cs
 induction cs with
 |nil=>intro i as ps h;simp [V3] at h;rw [←h.1]
 |cons c cs ih=>
  intro i as ps h
  unfold V3 at h
  split at h
  ·cases h
  ·split at h
   ·cases h
   ·rename_i h'
    cases h
    simp [ih _ _ _ h']
theorem XJ (hb:Sub bx σ.box):∀{p:List Nat},WI na bx p=true→∀i ∈ p,na<i∧σ.box i= .G4
 |[],_,i,hi=>by simp at hi
 |j::p,h,i,hi=>by
  unfold WI at h
  simp only [K9,decide_eq_true_eq] at h
  rcases Q5.1 hi with rfl|hi
  ·refine ⟨h.1.1,hb.G4 ?_⟩
   have:=h.1.2
   split at this
   ·assumption
   ·cases this
  ·exact XJ hb h.2 i hi
theorem QM:∀(p:List Nat) (bs:List Box) (i:Nat),(∀j ∈ p,j<bs.length)→(F4 bs (p.map fun j=>(j,Box.dead))).getD i .unborn=if i ∈ p then .dead else bs.getD i .unborn
 |[],bs,i,_=>by simp [F4]
 |j::p,bs,i,h=>by
  simp only [W9,F4]
  rw [QM p _ i (fun k hk=>by simpa using h k (by simp [hk])),J8 _ _ _ _ (h j (by simp))]
  by_cases c:i ∈ p
  ·rw [if_pos c,if_pos (by simp [c])]
  ·rw [if_neg c]
   by_cases d:i=j
   ·rw [if_pos d,if_pos (by simp [d])]
   ·rw [if_neg d,if_neg (by simp [c,d])]
theorem R.D6l (hR:R na β0 w0 σ β a w) {p:List Nat} (hp:∀i ∈ p,na<i∧σ.box i= .G4) {w':World} (ht:Turn (fun x=>∃m ∈ p,β m x) w w'):
  R na β0 w0 {σ with boxes:=F4 σ.boxes (p.map fun i=>(i,Box.dead))} β a w':=by
 have hlen:∀i ∈ p,i<σ.boxes.length:=fun i hi=>hR.len (i:=i) (by rw [(hp i hi).2];simp)
 have hbox:∀i,St.box {σ with boxes:=F4 σ.boxes (p.map fun i=>(i,Box.dead))} i=if i ∈ p then .dead else σ.box i:=fun i=>QM p σ.boxes i hlen
 have keep:∀i x,i ∉ p→β i x→w'.heap[x]? =w.heap[x]? :=fun i x hi hx=>ht.other x (hR.lt hx) fun ⟨m,hm,hmx⟩=>by
  have h1:=(hp m hm).1
  by_cases c:na<i
  ·exact hi (hR.disj i m x c h1 hx hmx ▸ hm)
  ·exact hR.apart (by omega) h1 hx hmx
 have hle:Le ⟨σ.box,β,w⟩ ⟨St.box {σ with boxes:=F4 σ.boxes (p.map fun i=>(i,Box.dead))},β,w'⟩:=by
  refine ⟨fun i hi=> ?_,fun i hi hc=> ?_,fun i T l' hi hc=> ?_,fun i c' hi hc=> ?_⟩
  ·show St.box _ i≠_
   rw [hbox]
   split
   ·simp
   ·exact hi
  ·change St.box _ i=_ at hc
   rw [hbox] at hc
   split at hc
   ·cases hc
   ·rename_i hip
    exact ⟨hc,fun x hx=>⟨hx,keep i x hip hx⟩⟩
  ·change St.box _ i=_ at hc
   rw [hbox] at hc
   split at hc
   ·cases hc
   ·rename_i hip
    exact ⟨l',hc,rfl,fun x hx=>⟨hx,fun cs hcs=>⟨cs,(keep i x hip hx).trans hcs,rfl⟩⟩⟩
  ·change St.box _ i=_ at hc
   rw [hbox] at hc
   split at hc
   ·cases hc
   ·exact ⟨c',hc,fun x hx=>hx⟩
 refine ⟨Vs.mono hle _ _ hR.tmps,hR.defers,fun i=> ?_,fun i hi=> ?_,hR.old,fun i x hi hx=> ?_,hR.disj,fun i x hi=> ?_,?_,hR.arg0⟩
 ·rw [hbox]
  split
  ·trivial
  ·rename_i hip
   exact (hR.boxes i).mono hle (fun x=>Iff.rfl) (fun x hx=>keep i x hip hx)
 ·rw [hbox,if_neg (fun h=>by have:=(hp i h).1;omega)]
  exact hR.args i hi
 ·have h1:=hR.new i x hi hx
  have:=ht.meta0.size
  exact ⟨h1.1,by omega⟩
 ·rw [hbox] at hi
  split at hi
  ·cases hi
  ·exact hR.unborn i x hi
 ·have hsz:=hR.grow.meta0.size
  have hold:∀x,x<w0.heap.size→¬β0 (na+1) x→w'.heap[x]? =w.heap[x]? :=fun x hx hs=>ht.other x (by omega) fun ⟨m,hm,hmx⟩=>by
   rcases (hR.new m x (hp m hm).1 hmx).1 with h|h
   ·omega
   ·exact hs h
  refine ⟨hR.grow.meta0.trans ht.meta0,fun x hx hs=>(hold x hx hs).trans (hR.grow.block x hx hs),fun x c T hs hc=> ?_,fun k h1 h2=> ?_,hR.grow.base⟩
  ·obtain ⟨c1,hc1,e1⟩:=hR.grow.inS x c T hs hc
   by_cases hm:∃m ∈ p,β m x
   ·obtain ⟨c2,hc2,e2⟩:=ht.inS x c1 T hm hc1
    exact ⟨c2,hc2,by omega⟩
   ·exact ⟨c1,(ht.other x (Q8.1 hc1).1 hm).trans hc1,e1⟩
  by_cases hk:k<w.heap.size
  ·obtain ⟨c,T,hc⟩:=hR.grow.fresh k h1 hk
   by_cases hs:∃m ∈ p,β m k
   ·obtain ⟨c',hc',_⟩:=ht.inS k c T hs hc
    exact ⟨c',T,hc'⟩
   ·exact ⟨c,T,(ht.other k hk hs).trans hc⟩
  ·exact ht.fresh k (by omega) h2
theorem A4p (hR:R na β0 w0 σ β a w) (hb:Sub bx σ.box) (hInv:Inv w) (hΦ:G6 P Inv Φ) {f:Nat} {args:List AV} {vs:List Value} (hV:Vs ⟨σ.box,β,w⟩ args vs)
  (he:YT na bx dr Φ n f args=some e) (hp:C6 e.pre True) (hn:Free na σ n) {dst:Option Tmp}:
  VI P f∧Calls P f vs.toArray w fun en w'=>∃v,en= .returned v∧∃β',R na β0 w0 {σ with boxes:=F4 σ.boxes e.upd} β' a w'∧V ⟨St.box {σ with boxes:=F4 σ.boxes e.upd},β',w'⟩ e.val v:=by
 unfold YT at he
 split at he
 ·cases he
 ·rename_i as ps has
  split at he
  ·cases he
  ·rename_i s hs
   split at he
   ·rename_i hsm
    split at he
    ·rename_i hown
     cases he
     simp only [K9] at hown
     have hC:=hΦ f as s hs hp
     refine ⟨hC.enters,?_⟩
     let βc:Nat→Nat→Prop:=fun i x=>∃p,1≤i∧ps[i-1]? =some p∧∃m ∈ p,β m x
     have hlt:∀i x,βc i x→x<w.heap.size:=fun i x ⟨p,_,_,m,_,hm⟩=>hR.lt hm
     have hin:∀i x,βc i x→∃m ∈ AN ps.flatten,β m x:=fun i x ⟨p,_,hp,m,hm,hx⟩=>⟨m,s8.2 (List.mem_flatten.2 ⟨p,X7 hp,hm⟩),hx⟩
     have hlen:=CS args 1 as ps has
     have hargs:=CR (C':=⟨X8 as.length,βc,w⟩) hR hb rfl args vs 1 as ps hV has (fun j h1 h2=>by
      show X8 _ j=_
      unfold X8
      rw [if_pos (by rw [hlen];omega)]) (fun j p hp' m hm x hx=>⟨p,by omega,by rw [show 1+j-1=j by omega];exact hp',m,hm,hx⟩)
     have hids:=XJ hb hown.2
     have hk:kindOf s.res=1:=by
      cases hr:s.res with
      |boxv l=>cases l with
       |nil=>rfl
       |cons _ _=>rw [hr] at hsm;cases hsm
      |_=>rw [hr] at hsm;cases hsm
     have hasks:A7g as s.res w βc vs:=by
      unfold A7g
      rw [hk]
      intro i x hx
      obtain ⟨m,hm,hmx⟩:=hin i x hx
      obtain ⟨h1,h2⟩:=hids m hm
      obtain ⟨h3,h4⟩:=hR.new m x h1 hmx
      by_cases h5:w0.heap.size≤x
      ·exact hR.grow.fresh x h5 h4
      ·obtain ⟨c,T,hc⟩:=hR.grow.base x (h3.resolve_left h5)
       obtain ⟨c',hc',_⟩:=hR.grow.inS x c T (h3.resolve_left h5) hc
       exact ⟨c',T,hc'⟩
     refine (hC.calls w vs βc hInv hlt hargs.2.2 hasks).mono ?_
     rintro en w' ⟨v,rfl,haf⟩
     unfold ER at haf
     rw [hk] at haf
     obtain ⟨rfl,hturn⟩:=haf
     refine ⟨_,rfl,β,hR.D6l hids (hturn.mono fun x ⟨i,hx⟩=>hin i x hx),?_⟩
     simp only [V]
     exact ⟨[],by simp,by simp only [Vs]⟩
    ·cases he
   ·rename_i hsm
    have hsm:D3z s.res=false:=by simpa using hsm
    split at he
    ·rename_i T l hres
     cases he
     have hC:=hΦ f as s hs hp
     refine ⟨hC.enters,?_⟩
     let βc:Nat→Nat→Prop:=fun i x=>∃p,1≤i∧ps[i-1]? =some p∧∃m ∈ p,β m x
     have hlt:∀i x,βc i x→x<w.heap.size:=fun i x ⟨p,_,_,m,_,hm⟩=>hR.lt hm
     have hlen:=CS args 1 as ps has
     have hargs:=CR (C':=⟨X8 as.length,βc,w⟩) hR hb rfl args vs 1 as ps hV has (fun j h1 h2=>by
      show X8 _ j=_
      unfold X8
      rw [if_pos (by rw [hlen];omega)]) (fun j p hp' m hm x hx=>⟨p,by omega,by rw [show 1+j-1=j by omega];exact hp',m,hm,hx⟩)
     refine (hC.calls w vs βc hInv hlt hargs.2.2 (by unfold A7g;rw [hres];trivial)).mono ?_
     rintro en w' ⟨v,rfl,haf⟩
     unfold ER at haf
     rw [hres] at haf
     obtain ⟨hg,hok,hown⟩:=haf
     refine ⟨v,rfl,?_⟩
     have hnew:∃s:Nat→Prop,(∀x,s x→w.heap.size≤x∧x<w'.heap.size)∧QA ⟨St.box {σ with boxes:=σ.boxes.set n (.D1 T l)},T2 β n s,w'⟩ n (.D1 T l)∧V ⟨St.box {σ with boxes:=σ.boxes.set n (.D1 T l)},T2 β n s,w'⟩ (.own n) v:=by
      have hbox1:St.box {σ with boxes:=σ.boxes.set n (.D1 T l)} n= .D1 T l:=(St.J8 _ _ _ _ hn.len).trans (if_pos rfl)
      rcases hown with ⟨rfl,rfl⟩|⟨g,cs,g1,g2,g3,rfl,g4,g5,g6⟩
      ·have hno:∀x,¬T2 β n (fun _=>False) n x:=fun x hx=>(P5 β n (fun _=>False) x).1 hx
       refine ⟨fun _=>False,fun x hx=>hx.elim,⟨fun x y hx=>absurd hx (hno x),hok,fun x hx=>absurd hx (hno x)⟩,?_⟩
       simp only [V]
       rw [hbox1]
       exact ⟨by simp,⟨_,_,_,rfl⟩,fun T' l' hl=>by cases hl;exact .inl ⟨trivial,rfl⟩⟩
      ·refine ⟨(·=g),fun x hx=>by subst hx;exact ⟨g1,g2⟩,⟨fun x y hx hy=>by rw [(Z0 _ _ _ _).1 hx,(Z0 _ _ _ _).1 hy],hok,fun x hx=> ?_⟩,?_⟩
       ·have:=(Z0 _ _ _ _).1 hx
        subst this
        exact ⟨cs,g3,g4,g6⟩
       ·simp only [V]
        rw [hbox1]
        refine ⟨by simp,⟨_,_,_,rfl⟩,fun T' l' hl=> ?_⟩
        cases hl
        exact .inr ⟨g,cs.size,(Z0 _ _ _ _).2 rfl,rfl,g4,g5,cs,g3,rfl⟩
     obtain ⟨s',q1,q2,q3⟩:=hnew
     exact ⟨_,hR.JW (w':=w') hn.na hn.len hn.un (.D1 T l) s' hg (by simp) q1 q2,q3⟩
    ·cases he
    rename_i hng hnb
    split at he
    ·cases he
    ·rename_i u hu
     cases he
     have hk:kindOf s.res=0:=by
      cases hr:s.res with
      |boxv l=>exact absurd hr (hnb l)
      |grown T l=>exact absurd hr (hng T l)
      |_=>rfl
     have hC:=hΦ f as s hs hp
     refine ⟨hC.enters,?_⟩
     let βc:Nat→Nat→Prop:=fun i x=>∃p,1≤i∧ps[i-1]? =some p∧∃m ∈ p,β m x
     have hlt:∀i x,βc i x→x<w.heap.size:=fun i x ⟨p,_,_,m,_,hm⟩=>hR.lt hm
     have hlen:∀as ps,V3 bx 1 args=some (as,ps)→as.length=args.length:=fun as ps h=>by
      have:∀(cs:List AV) (i:Nat) (as:List AV) (ps:List (List Nat)),V3 bx i cs=some (as,ps)→as.length=cs.length:=by
       intro cs
       induction cs with
       |nil=>intro i as ps h;simp [V3] at h;rw [←h.1]
       |cons c cs ih=>
        intro i as ps h
        unfold V3 at h
        split at h
        ·cases h
        ·split at h
         ·cases h
         ·rename_i h'
          cases h
          simp [ih _ _ _ h']
      exact this args 1 as ps h
     have hargs:=CR (C':=⟨X8 as.length,βc,w⟩) hR hb rfl args vs 1 as ps hV has (fun j h1 h2=>by
      show X8 _ j=_
      unfold X8
      rw [if_pos (by rw [hlen as ps has];omega)]) (fun j p hp' m hm x hx=>⟨p,by omega,by rw [show 1+j-1=j by omega];exact hp',m,hm,hx⟩)
     refine (hC.calls w vs βc hInv hlt hargs.2.2 (by unfold A7g;rw [hk];trivial)).mono ?_
     rintro en w' ⟨v,rfl,haf⟩
     unfold ER at haf
     rw [hk] at haf
     obtain ⟨hg,hv⟩:=haf
     refine ⟨v,rfl,?_⟩
     have hnew:=(hR.JW (w':=w') hn.na hn.len hn.un .G4 (fun x=>w.heap.size≤x∧x<w'.heap.size) hg (by simp) (fun x hx=>hx) trivial)
     have hbox1:∀j,St.box {σ with boxes:=σ.boxes.set n .G4} j=if j=n then .G4 else σ.box j:=fun j=>St.J8 _ _ _ _ hn.len
     have hnin:n ∉ AN (s.res.names.flatMap fun j=>if j=0 then [] else ps.getD (j-1) []):=by
      intro hm
      have:∀(p:List Nat) (u:List (Nat×Box)),freeze bx dr p=some u→n ∈ p→False:=by
       intro p
       induction p with
       |nil=>intro u _ h;simp at h
       |cons i p ih=>
        intro u h hm
        unfold freeze at h
        rcases Q5.1 hm with rfl|hm
        ·rcases hb n with h'|h'
         ·simp [h'] at h
         ·rw [hn.un] at h';simp [h'] at h
        ·split at h
         ·exact ih u h hm
         ·split at h
          ·cases h
          ·split at h
           ·rename_i h';exact ih _ h' hm
           ·cases h
         ·cases h
      exact this _ u hu hm
     obtain ⟨β2,r1,r2,r3,r4,r5⟩:=OX (bx:=bx) dr hn.na _ u _ _ (NR _) hnin hu (fun i hi=>by
      have hin':¬i=n:=fun e=>hnin (e ▸ hi)
      rw [hbox1,if_neg hin']
      exact hb i) hnew (by rw [hbox1,if_pos rfl])
     refine ⟨β2,r1,?_⟩
     refine C4h (C:=⟨fun _=> .G4,AQ w w' βc,w'⟩) (C':=⟨St.box {σ with boxes:=F4 σ.boxes ((n,Box.G4)::u)},β2,w'⟩) (fun _=>rfl) rfl _ _ _ hv fun j hj=> ?_
     by_cases h0:j=0
     ·subst h0
      refine ⟨fun x hx=>⟨n,by simp,r3 x ((P5 _ _ _ _).2 (by simpa [AQ] using hx))⟩,fun i hi=> ?_⟩
      simp at hi
      subst hi
      show St.box _ i≠_
      rw [show F4 σ.boxes ((i,Box.G4)::u)=F4 (σ.boxes.set i .G4) u from rfl,r2]
      simp
     ·have hin:∀m ∈ ps.getD (j-1) [],m ∈ AN (s.res.names.flatMap fun j=>if j=0 then [] else ps.getD (j-1) []):=fun m hm=>
       s8.2 (p9.2 ⟨j,hj,by rw [if_neg h0];exact hm⟩)
      refine ⟨fun x hx=> ?_,fun i hi=> ?_⟩
      ·simp only [AQ,if_neg h0] at hx
       obtain ⟨p,_,hpj,m,hm,hmx⟩:=hx
       have hpd:ps.getD (j-1) []=p:=by simp [M6,hpj]
       have hmn:m≠n:=fun e=>hnin (e ▸ hin m (by rw [hpd];exact hm))
       rcases r5 m (hin m (by rw [hpd];exact hm)) with ⟨q1,q2⟩|⟨T,l,q1,q2⟩
       ·refine ⟨m,?_,(r4 m hmn q2).2 x ((M3 _ _ hmn x).2 hmx)⟩
        simp only [if_neg h0,hpd]
        exact KJ hm (fun T l e=>by rw [q1] at e;simp at e)
       ·refine ⟨n,?_,q2 x ((M3 _ _ hmn x).2 hmx)⟩
        simp only [if_neg h0,hpd]
        exact QB q1 hm
      ·simp only [if_neg h0] at hi
       show St.box _ i≠_
       rw [show F4 σ.boxes ((n,Box.G4)::u)=F4 (σ.boxes.set n .G4) u from rfl]
       rcases LA hi with ⟨rfl,_⟩|⟨hip,hid⟩
       ·rw [r2];simp
       ·have hinn:i≠n:=fun e=>hnin (e ▸ hin i hip)
        rcases r5 i (hin i hip) with ⟨q1,q2⟩|⟨T,l,q1,q2⟩
        ·rw [(r4 i hinn q2).1];simp
        ·exact absurd q1 (hid T l)
theorem C54 {p:Option Prop} {q:Prop} (h:C6 p q):C6 p True:=by
 cases p with
 |none=>trivial
 |some p=>exact ⟨h.1,trivial⟩
theorem B2p (hR:R na β0 w0 σ β a w) (hb:Sub bx σ.box) {c:AV} {v:Value} (hV:V ⟨σ.box,β,w⟩ c v) {b:Nat} {T:TypeId} {L:List Nat} {lo len:Nat} (h:RF bx c=some (b,T,L,lo,len)) (h0:0<L.length):
  bx b= .D1 T L∧σ.box b= .D1 T L∧b ∈ AV.ids bx 8 c∧∃g cap cs,β b g∧v= .slice (some ⟨g,lo,none⟩) len cap∧len≤cap∧lo+len≤L.length∧w.heap[g]? =some (.cells cs T (0,0))∧lo+cap≤cs.size∧
   (C8e c=true→lo=0∧len=L.length∧cap=cs.size∧cap≤maxLen):=by
 unfold RF at h
 split at h
 ·rename_i b'
  split at h
  ·rename_i T' L' hbx
   cases h
   have hσ:=hb.D1 hbx
   simp only [V] at hV
   rcases hV.2.2 T L hσ with ⟨_,h2⟩|⟨g,cap,h1,h2,h3,h4,cs,h5,h6⟩
   ·subst h2;simp at h0
   ·exact ⟨hbx,hσ,by simp [AV.ids],g,cap,cs,h1,h2,h3,by omega,h5,by omega,fun _=>⟨rfl,rfl,h6,h4⟩⟩
  ·cases h
 ·rename_i b' gc lo' len'
  split at h
  ·rename_i T' L' hbx
   cases h
   have hσ:=hb.D1 hbx
   simp only [V] at hV
   obtain ⟨_,g,cap,_,h1,h2,h3⟩:=hV
   obtain ⟨h4,h5,cs,h6,h7⟩:=h3 T L hσ
   exact ⟨hbx,hσ,by simp [AV.ids],g,cap,cs,h4,h1,h2,h5,h6,h7,fun h=>by cases h⟩
  ·cases h
 ·cases h
theorem A4s (hR:R na β0 w0 σ β a w) (hb:Sub bx σ.box) (hInv:Inv w) (hΦ:G6 P Inv Φ) {f:Nat} {args:List AV} {vs:List Value} (hV:Vs ⟨σ.box,β,w⟩ args vs)
  (he:YZ na bx dr Φ n f args=some e) (hp:C6 e.pre True) (hn:Free na σ n):
  VI P f∧Calls P f vs.toArray w fun en w'=>∃v,en= .returned v∧∃β',R na β0 w0 {σ with boxes:=F4 σ.boxes e.upd} β' a w'∧V ⟨St.box {σ with boxes:=F4 σ.boxes e.upd},β',w'⟩ e.val v:=by
 unfold YZ at he
 split at he
 ·cases he
 rename_i c cs
 split at he
 ·cases he
 rename_i b T L lo len hh
 split at he
 ·cases he
 rename_i as ps has
 split at he
 ·cases he
 rename_i s hs
 split at he
 ·cases he
 rename_i hdr
 simp only [Bool.or_eq_true,not_or,Bool.not_eq_true] at hdr
 have hnb:b ∉ ps.flatten:=by simpa using hdr.2
 match vs,hV with
 |[],hV=>simp only [Vs] at hV
 |v::vs,hV=>
 simp only [Vs] at hV
 have key:∀{L':List Nat} {r:AV},(∃q,s.res= .boxv [.dig q L',r])→C6 s.pre (0<L.length)→
   VI P f∧Calls P f (v::vs).toArray w fun en w'=>∃u g cap cs0,en= .returned u∧β b g∧σ.box b= .D1 T L∧v= .slice (some ⟨g,lo,none⟩) len cap∧w.heap[g]? =some (.cells cs0 T (0,0))∧lo+cap≤cs0.size∧len≤cap∧lo+len≤L.length∧
    (C8e c=true→lo=0∧len=L.length∧cap=cs0.size∧cap≤maxLen)∧GrowS (·=g) w w'∧L'.length=L.length∧BC L'∧MM w' T L' g∧YQ g cap lo len r u:=by
  intro L' r hres hpre
  have h0:0<L.length:=by
   cases hq:s.pre with
   |none=>rw [hq] at hpre;exact hpre
   |some q=>rw [hq] at hpre;exact hpre.2
  have hpr:C6 s.pre True:=C54 hpre
  obtain ⟨k1,k2,k3,g,cap,cs0,k4,k5,k6,k7,k8,k9,k10⟩:=B2p hR hb hV.1 hh h0
  have hC:=hΦ f _ s hs hpr
  refine ⟨hC.enters,?_⟩
  have hbok:=hR.boxes b
  rw [k2] at hbok
  obtain ⟨m1,m2,m3⟩:=hbok
  obtain ⟨cs1,n1,n2,n3⟩:=m3 g k4
  have n1:w.heap[g]? =some (.cells cs1 T (0,0)):=n1
  have hna:=hR.QF (i:=b) (by rw [k2];simp)
  have hlen:=CS cs 2 as ps has
  let βc:Nat→Nat→Prop:=fun i x=>∃p,2≤i∧ps[i-2]? =some p∧∃m ∈ p,β m x
  have hlt:∀i x,βc i x→x<w.heap.size:=fun i x ⟨p,_,_,m,_,hm⟩=>hR.lt hm
  have hargs:=CR (C':=⟨X8 (as.length+1),βc,w⟩) hR hb rfl cs vs 2 as ps hV.2 has (fun j h1 h2=>by
   show X8 _ j=_
   unfold X8
   rw [if_pos (by rw [hlen];omega)]) (fun j p hp' m hm x hx=>⟨p,by omega,by rw [show 2+j-2=j by omega];exact hp',m,hm,hx⟩)
  have hkind:kindOf s.res=2:=by obtain ⟨q,h⟩:=hres;rw [h];rfl
  have hasks:A7g (.handv T L none lo len::as) s.res w βc (v::vs):=by
   unfold A7g
   rw [hkind]
   refine ⟨g,cap,vs,by rw [k5],k6,m2,k7,⟨cs1,n1,n2,n3⟩,⟨cs0,k8,k9⟩,?_⟩
   rintro i x ⟨p,_,hp',m,hm,hx⟩ e
   subst e
   have hmb:m≠b:=fun e=>hnb (by rw [←e];exact List.mem_flatten.2 ⟨p,X7 hp',hm⟩)
   by_cases hm':m≤na
   ·exact hR.apart hm' hna hx k4
   ·exact hmb (hR.disj m b x (by omega) hna hx k4)
  refine (hC.calls w (v::vs) βc hInv hlt (by
   have h3:=hargs.2.2
   simp only [Vs,V,List.length_cons]
   exact ⟨⟨m2,k7⟩,h3⟩) hasks).mono ?_
  rintro en w' ⟨u,rfl,haf⟩
  unfold ER at haf
  rw [hkind] at haf
  have haf':∃g' cap' tl,(v::vs)= .slice (some ⟨g',lo,none⟩) len cap'::tl∧GrowS (·=g') w w'∧L'.length=L.length∧BC L'∧MM w' T L' g'∧YQ g' cap' lo len r u:=by
   obtain ⟨q,h⟩:=hres
   rw [h] at haf
   exact haf
  obtain ⟨g',cap',tl,q1,q2⟩:=haf'
  rw [k5] at q1
  cases q1
  exact ⟨u,g,cap,cs0,rfl,k4,k2,k5,k8,k9,k6,k7,k10,q2⟩
 have grown:∀{g:Nat} {w':World} {cs0:Array Value} {L':List Nat},β b g→σ.box b= .D1 T L→w.heap[g]? =some (.cells cs0 T (0,0))→GrowS (·=g) w w'→L'.length=L.length→BC L'→MM w' T L' g→
   R na β0 w0 {σ with boxes:=σ.boxes.set b (.D1 T L')} β a w'∧∃cs1,w'.heap[g]? =some (.cells cs1 T (0,0))∧cs1.size=cs0.size:=by
  intro g w' cs0 L' hβ hσ hc0 hg hlen hok hat
  have hna:=hR.QF (i:=b) (by rw [hσ];simp)
  have hlb:=hR.len (i:=b) (by rw [hσ];simp)
  have hbok:=hR.boxes b
  rw [hσ] at hbok
  have only:∀x,β b x→x=g:=fun x hx=>hbok.1 x g hx hβ
  obtain ⟨cs1,hc1,hsz⟩:=hg.inS g cs0 T rfl hc0
  refine ⟨?_,cs1,hc1,hsz⟩
  refine R.A2f hR hna hlb (.D1 T L') (.inr ⟨T,L,L',hσ,rfl,hlen.symm⟩) (fun x hl hx=>hg.block x hl fun e=>hx (e ▸ hβ)) (fun x hx cs T' hc=> ?_) ?_ hg.meta0.size ⟨hbok.1,hok,fun x hx=> ?_⟩
  ·rw [only x hx] at hc ⊢
   exact hg.inS g cs T' rfl hc
  ·refine ⟨hR.grow.meta0.trans hg.meta0,fun x hx hs=> ?_,fun x c T' hs hc=> ?_,fun k h1 h2=> ?_,hR.grow.base⟩
   ·refine (hg.block x (Nat.lt_of_lt_of_le hx hR.grow.meta0.size) fun e=> ?_).trans (hR.grow.block x hx hs)
    subst e
    rcases (hR.new b x hna hβ).1 with h|h
    ·omega
    ·exact hs h
   ·obtain ⟨c1,e1,e2⟩:=hR.grow.inS x c T' hs hc
    by_cases e:x=g
    ·subst e
     obtain ⟨c2,e3,e4⟩:=hg.inS x c1 T' rfl e1
     exact ⟨c2,e3,by omega⟩
    ·exact ⟨c1,(hg.block x (Q8.1 e1).1 e).trans e1,e2⟩
   ·by_cases hk:k<w.heap.size
    ·by_cases e:k=g
     ·subst e;exact ⟨cs1,T,hc1⟩
     ·obtain ⟨c,T',hc⟩:=hR.grow.fresh k h1 hk
      exact ⟨c,T',(hg.block k hk e).trans hc⟩
    ·exact hg.fresh k (by omega) h2
  ·rw [only x hx]
   exact hat
 split at he
 ·rename_i q L' k d hres
  cases he
  obtain ⟨h1,h2⟩:=key (L':=L') (r:= .num k d) ⟨_,hres⟩ hp.1
  refine ⟨h1,h2.mono ?_⟩
  rintro en w' ⟨u,g,cap,cs0,rfl,k1,k2,k3,k4,k5,k6,k7,k8,k9,k10,k11,k12,k13⟩
  obtain ⟨hR1, -⟩:=grown k1 k2 k4 k9 k10 k11 k12
  have hnbn:n≠b:=fun e=>by have:=hn.un;rw [e,k2] at this;cases this
  have hn1:Free na {σ with boxes:=σ.boxes.set b (.D1 T L')} n:=⟨hn.na,by simpa using hn.len,by
   show M6 _ _ _=_
   rw [J8 _ _ _ _ (hR.len (i:=b) (by rw [k2];simp)),if_neg hnbn]
   exact hn.un⟩
  have hR2:=hR1.JW (w':=w') hn1.na hn1.len hn1.un .G4 (fun _=>False) (Grow.refl w') (by simp) (fun x hx=>hx.elim) trivial
  refine ⟨u,rfl,T2 β n fun _=>False,?_,?_⟩
  rotate_left
  ·obtain ⟨rfl,h3⟩:=k13
   simp only [V]
   exact ⟨trivial,h3⟩
  ·have e:F4 σ.boxes [(n,.G4),(b,.D1 T L')]=(σ.boxes.set b (.D1 T L')).set n .G4:=by
    simp only [F4]
    exact List.set_comm _ _ hnbn
   rw [e]
   exact hR2
 ·rename_i q L' _ k hres
  split at he
  ·rename_i hown
   cases he
   obtain ⟨h1,h2⟩:=key (L':=L') (r:= .addr _ k) ⟨_,hres⟩ hp.1
   refine ⟨h1,h2.mono ?_⟩
   rintro en w' ⟨u,g,cap,cs0,rfl,k1,k2,k3,k4,k5,k6,k7,k8,k9,k10,k11,k12,k13⟩
   obtain ⟨hR1,cs1,hc1,hsz⟩:=grown k1 k2 k4 k9 k10 k11 k12
   have hlb:=hR.len (i:=b) (by rw [k2];simp)
   have hnbn:n≠b:=fun e=>by have:=hn.un;rw [e,k2] at this;cases this
   have hn1:Free na {σ with boxes:=σ.boxes.set b (.D1 T L')} n:=⟨hn.na,by simpa using hn.len,by
    show M6 _ _ _=_
    rw [J8 _ _ _ _ hlb,if_neg hnbn]
    exact hn.un⟩
   have hb1:St.box {σ with boxes:=σ.boxes.set b (.D1 T L')} b= .D1 T L':=(St.J8 _ _ _ _ hlb).trans (if_pos rfl)
   obtain ⟨hlo,hle,hcp,hmx⟩:=k8 hown
   obtain ⟨rfl,hk⟩:=k13
   have hlk:(L'.take k).length=k:=by simp;omega
   obtain ⟨cs2,m1,m2,m3⟩:=k12
   rw [hc1] at m1
   cases m1
   have hR2:=hR1.move (w':=w') hb1 hn1 (.D1 T (L'.take k)) (by simp) (fun x=>x=g) (fun x hx=> .inl (by rw [hx];exact k1)) (fun x _ _=>rfl) hR1.grow (I6 _)
    ⟨fun x y hx hy=>by
     have hx:x=g:=(P5 _ n (fun x=>x=g) x).1 hx
     have hy:y=g:=(P5 _ n (fun x=>x=g) y).1 hy
     rw [hx,hy],k11.take k,fun x hx=>by
     have hx:x=g:=(P5 _ n (fun x=>x=g) x).1 hx
     rw [hx]
     refine ⟨cs1,hc1,by omega,fun j y hj=>m3 j y ?_⟩
     rw [AK] at hj
     split at hj
     ·exact hj
     ·cases hj⟩
   have e:F4 σ.boxes [(b,.dead),(n,.D1 T (L'.take k))]=((σ.boxes.set b (.D1 T L')).set b .dead).set n (.D1 T (L'.take k)):=by
    simp only [F4,List.set_set]
   refine ⟨_,rfl,_,by rw [e];exact hR2,?_⟩
   rw [e]
   simp only [V]
   have hbn:St.box {σ with boxes:=((σ.boxes.set b (.D1 T L')).set b .dead).set n (.D1 T (L'.take k))} n= .D1 T (L'.take k):=by
    show M6 _ _ _=_
    rw [J8 _ _ _ _ (by simpa using hn.len),if_pos rfl]
   rw [hbn]
   refine ⟨by simp,⟨_,_,_,rfl⟩,fun T' l' hl=> ?_⟩
   cases hl
   exact .inr ⟨g,cap,(P5 _ _ _ _).2 rfl,by rw [hlk,hlo],by omega,hmx,cs1,hc1,by omega⟩
  ·cases he
 ·cases he
end
end Go.AI
