/- My texts AIref1, AIspec4, AIdyad0, AVdyad1, AIdyad1, AVdyad2, AIdyad2, AIdyad3, in one. -/
import Derived.Test.YtogikmlfkhofoaaGreatDoorK6
namespace Go.Dy
theorem take_dg {l:List Nat} (h:digs l):l.take (dg (val l)).length=dg (val l):=by
 have hle:=length_dg_val h
 refine ext_val (digs_take h _) (digs_dg _) (by simp [hle]) ?_
 rw [val_dg,val_take h,Nat.mod_eq_of_lt]
 exact length_dg_le.1 (Nat.le_refl _)
theorem bl_half {x:Nat} (h:x≠0):bl x=bl (x/2)+1:=by
 have:=bl_div_two_pow x 1
 have:=bl_pos.2 h
 rw [Nat.pow_one] at*
 omega
theorem diffU_lt:∀{a b:List Nat},a.length=b.length→a≠b→diffU a b<a.length∧a.getD (diffU a b) 0≠b.getD (diffU a b) 0
 |[],[],_,h=>absurd rfl h
 |[],_::_,h,_=>by simp at h
 |_::_,[],h,_=>by simp at h
 |x::a,y::b,h,hn=>by
  unfold diffU
  by_cases e:x=y
  ·rw [if_pos e]
   have:=diffU_lt (a:=a) (b:=b) (by simpa using h) (fun h'=>hn (by rw [e,h']))
   simpa using this
  ·rw [if_neg e]
   simpa using e
theorem diffU_eq:∀{a b:List Nat} {i:Nat},a.length=b.length→i<diffU a b→a.getD i 0=b.getD i 0
 |[],b,i,_,h=>by simp [diffU] at h
 |_::_,[],i,h,_=>by simp at h
 |x::a,y::b,i,hl,h=>by
  unfold diffU at h
  by_cases e:x=y
  ·rw [if_pos e] at h
   cases i with
   |zero=>simpa using e
   |succ i=>simpa using diffU_eq (a:=a) (b:=b) (by simpa using hl) (by omega)
  ·rw [if_neg e] at h;omega
theorem tz_bit {v n:Nat} (h:v≠0) (hn:n≤tz v):v/2^n%2=if n=tz v then 1 else 0:=by
 by_cases e:n=tz v
 ·rw [if_pos e,e];exact div_tz_odd h
 ·rw [if_neg e]
  obtain ⟨m,hm⟩:=tz_spec h
  have e1:v/2^n=2*(2^(tz v-n-1)*(2*m+1)):=by
   conv=>lhs;rw [hm]
   rw [show tz v=n+(1+(tz v-n-1)) by omega,Nat.pow_add,Nat.mul_assoc,Nat.mul_div_cancel_left _ (Nat.two_pow_pos _),Nat.pow_add,Nat.pow_one,Nat.mul_assoc]
   congr 3
   omega
  rw [e1];omega
end Go.Dy
namespace Go.AI
open Go Go.RowKit Go.Proofs
set_option linter.unusedVariables false
set_option maxRecDepth 100000
theorem loop_ref_Trim:LoopOk Tryz.prog (look tab4) lamRTrim 1 21 keepRTrim (bodyN Tryz.f113 0) lsRTrim:=by
 intro vals r h K hK
 unfold lsRTrim at h
 split at h
 ·cases h
  rename_i l n
  simp only [evLR] at hK
  obtain ⟨⟨hl,rfl⟩,hK⟩:=hK
  have hl1:=hl.1
  have key:∀n:Nat,n≤l.length→Dy.val (l.take n)=Dy.val l→∃m,iterN Tryz.prog (look tab4) lamRTrim 1 21 keepRTrim (bodyN Tryz.f113 0) m [.dig [1,2] l,.num .i64 n] K:=by
   intro n
   induction n with
   |zero=>
    intro hn hv
    refine iterN_last ?_
    rw [vc_ref_Trim_1]
    refine cond_f rfl ?_
    have:Dy.val l=0:=hv.symm
    rw [this,Dy.dg_zero] at hK
    exact hK
   |succ n ih=>
    intro hn hv
    have e0:(((n+1:Nat):Int)-1)=(n:Int):=by omega
    by_cases c:l.getD n 0=0
    ·obtain ⟨m,hm⟩:=ih (by omega) (by rw [←hv,Dy.val_take_succ (by omega),c];simp)
     refine iterN_next m ?_
     rw [vc_ref_Trim_1,e0,wrap_i64 (by omega) (by omega),Int.toNat_natCast]
     exact cond_t (decide_eq_true (by omega)) ⟨by omega,cond_t (decide_eq_true (by omega)) hm⟩
    ·refine iterN_last ?_
     rw [vc_ref_Trim_1,e0,wrap_i64 (by omega) (by omega),Int.toNat_natCast]
     refine cond_t (decide_eq_true (by omega)) ⟨by omega,cond_f (decide_eq_false (by omega)) ?_⟩
     have e1:l.take (n+1)=Dy.dg (Dy.val l):=by
      rw [←hv]
      refine ((Dy.can_iff (Dy.digs_take hl.2 _)).2 (.inr ?_)).symm
      rw [List.length_take,Nat.min_eq_left hn,Nat.add_sub_cancel,List.getD_eq_getElem?_getD,List.getElem?_take_of_lt (by omega),←List.getD_eq_getElem?_getD]
      exact c
     rw [←e1,List.length_take,Nat.min_eq_left hn] at hK
     exact hK
  exact key l.length (Nat.le_refl _) (by rw [List.take_length])
 ·cases h
theorem ok_ref_Trim (args:List AV) (s:Spec) (h:sTrim args=some s) (hp:andO s.pre True):Contract Tryz.prog Inv 113 args s.res:=by
 unfold sTrim at h
 split at h
 ·cases h
  rename_i l
  refine contract_at true 21 lamRTrim ok_tab4 Tryz.func113 (by kernel_rfl) rfl (loops1 (by kernel_rfl) (by kernel_rfl) loop_ref_Trim) fun hok=> ?_
  have h1:=(oks1_dig hok).1
  have:=Dy.length_dg_val h1.2
  rw [vc_ref_Trim,Int.toNat_natCast,Dy.take_dg h1.2]
  exact ⟨⟨h1,rfl⟩,by omega,rfl⟩
 ·cases h
theorem ok_tab5:PhiOk Tryz.prog Inv (look tab5):=look_cons (ok_tab4) ok_ref_Trim
theorem ok_ref_Of (args:List AV) (s:Spec) (h:sOf args=some s) (hp:andO s.pre True):Contract Tryz.prog Inv 55 args s.res:=by
 unfold sOf at h
 split at h
 ·cases h
  rename_i n
  refine contract0 false ok_tab5 Tryz.func55 (by kernel_rfl) (by kernel_rfl) fun hok=> ?_
  have hn:=range_u64 (oks1_num hok).1
  rw [vc_ref_Of]
  rw [fdiv_pow hn.1]
  simp only [wrap_u32,Dy.val]
  congr 2
  omega
 ·cases h
theorem loop_ref_Same:LoopOk Tryz.prog (look tab5) lamSame 2 26 keepSame (bodyN Tryz.f166 0) lsSame:=by
 intro vals r h K hK
 unfold lsSame at h
 split at h
 ·cases h
  rename_i a b r i
  simp only [evLR] at hK
  obtain ⟨⟨hl,rfl,ha⟩,hK⟩:=hK
  have ha1:=ha.1
  have key:∀u j:Nat,a.length=u+j→(a≠b→j≤Dy.diffU a b)→(∀i,i<j→a.getD i 0=b.getD i 0)→∃m,iterN Tryz.prog (look tab5) lamSame 2 26 keepSame (bodyN Tryz.f166 0) m [.dig [1,2,3] a,.dig [1,2,3] b,.bool r,.num .i64 j] K:=by
   intro u
   induction u with
   |zero=>
    intro j hj hd he
    refine iterN_last ?_
    rw [vc_ref_Same_1]
    refine cond_f (decide_eq_false (by omega)) ?_
    have e:a=b:=by
     refine List.ext_getElem hl fun i h1 h2=> ?_
     have:=he i (by omega)
     simpa [List.getD_eq_getElem?_getD,h1,h2] using this
    rw [decide_eq_true e] at hK
    have:(j:Int)=(a.length:Int):=by omega
    rw [this]
    exact hK
   |succ u ih=>
    intro j hj hd he
    by_cases c:a.getD j 0=b.getD j 0
    ·obtain ⟨m,hm⟩:=ih (j+1) (by omega) (fun hn=>by
       have h1:=hd hn
       have h2:=(Dy.diffU_lt hl hn).2
       rcases Nat.lt_or_ge j (Dy.diffU a b) with h|h
       ·exact h
       ·have:j=Dy.diffU a b:=by omega
        rw [this] at c
        exact absurd c h2) (fun i hi=>by
       rcases Nat.lt_or_ge i j with h|h
       ·exact he i h
       ·have:i=j:=by omega
        rw [this];exact c)
     refine iterN_next m ?_
     rw [vc_ref_Same_1,wrap_i64 (by omega) (by omega),Int.toNat_natCast]
     exact cond_t (decide_eq_true (by omega)) ⟨by omega,by omega,cond_f (by rw [decide_eq_true (by omega)];rfl) hm⟩
    ·refine iterN_last ?_
     rw [vc_ref_Same_1,Int.toNat_natCast]
     refine cond_t (decide_eq_true (by omega)) ⟨by omega,by omega,cond_t (by rw [decide_eq_false (by omega)];rfl) ?_⟩
     have hn:a≠b:=fun e=>c (by rw [e])
     have h1:=hd hn
     have h2:¬j<Dy.diffU a b:=fun h=>c (Dy.diffU_eq hl h)
     have:j=Dy.diffU a b:=by omega
     rw [decide_eq_false hn,←this] at hK
     exact hK
  exact key a.length 0 (by omega) (fun _=>Nat.zero_le _) (fun i h=>absurd h (Nat.not_lt_zero _))
 ·cases h
theorem ok_ref_Same (args:List AV) (s:Spec) (h:sSame args=some s) (hp:andO s.pre True):Contract Tryz.prog Inv 166 args s.res:=by
 unfold sSame at h
 split at h
 ·cases h
  rename_i a b
  refine contract_at false 26 lamSame ok_tab5 Tryz.func166 (by kernel_rfl) rfl (loops1 (by kernel_rfl) (by kernel_rfl) loop_ref_Same) fun hok=> ?_
  have ha:=(oks1_dig hok).1
  rw [vc_ref_Same]
  refine cond_i (fun h=> ?_) (fun h=>⟨?_,cond_i (fun h'=> ?_) (fun h'=> ?_)⟩)
  ·simp only [Bool.not_eq_true'] at h
   have h:=of_decide_eq_false h
   have:a≠b:=fun e=>h (by rw [e])
   simp only [decide_eq_false this]
  ·simp only [Bool.not_eq_false'] at h
   have h:=of_decide_eq_true h
   exact ⟨by omega,rfl,ha⟩
  ·rw [h']
  ·rw [h']
 ·cases h
theorem loop_ref_Cmp:LoopOk Tryz.prog (look tab5) lamRCmp 2 41 [(0,.same),(1,.same),(4,.same),(5,.same)] (bodyN Tryz.f116 0) lsRCmp:=by
 intro vals r h K hK
 unfold lsRCmp at h
 split at h
 ·cases h
  rename_i a b r i
  simp only [evLR] at hK
  obtain ⟨⟨hl,h1,h2,h3⟩,hK⟩:=hK
  generalize hn:(i+1).toNat=n at hK
  induction n generalizing i with
  |zero=>
   have:i= -1:=by omega
   subst this
   refine iterN_last ?_
   rw [vc_ref_Cmp_1]
   refine cond_f rfl ?_
   simpa [Dy.diffI] using hK
  |succ n ih=>
   have hi:i=n:=by omega
   subst hi
   by_cases c:a.getD n 0=b.getD n 0
   ·have e:Dy.diffI a b (n+1)=Dy.diffI a b n:=by rw [Dy.diffI,if_pos c]
    rw [e] at hK
    obtain ⟨m,hm⟩:=ih ((n:Int)-1) (by omega) (by omega) (by omega) hK
    refine iterN_next m ?_
    rw [vc_ref_Cmp_1,Int.toNat_natCast,wrap_i64 (by omega) (by omega)]
    exact cond_t (decide_eq_true (by omega)) ⟨by omega,by omega,cond_f (decide_eq_false (by omega)) ⟨by omega,by omega,cond_f (decide_eq_false (by omega)) hm⟩⟩
   ·have e:Dy.diffI a b (n+1)=n:=by rw [Dy.diffI,if_neg c]
    rw [e,decide_eq_true (by omega:(0:Int)≤(n:Int))] at hK
    simp only [cond_true,Int.toNat_natCast] at hK
    refine iterN_last ?_
    rw [vc_ref_Cmp_1,Int.toNat_natCast]
    refine cond_t (decide_eq_true (by omega)) ⟨by omega,by omega,cond_i (fun h=> ?_) (fun h=>⟨by omega,by omega,cond_t ?_ ?_⟩)⟩
    ·rw [if_pos (by have:=of_decide_eq_true h;omega)] at hK;exact hK
    ·exact decide_eq_true (by have:=of_decide_eq_false h;omega)
    ·rw [if_neg (by have:=of_decide_eq_false h;omega)] at hK;exact hK
 ·cases h
theorem ok_ref_Cmp (args:List AV) (s:Spec) (h:sCmp args=some s) (hp:andO s.pre True):Contract Tryz.prog Inv 116 args s.res:=by
 unfold sCmp at h
 split at h
 ·cases h
  rename_i a b
  obtain ⟨⟨ca,cb⟩, -⟩:=hp
  refine contract_at false 41 lamRCmp ok_tab5 Tryz.func116 (by kernel_rfl) rfl (loops1 (by kernel_rfl) (by kernel_rfl) loop_ref_Cmp) fun hok=> ?_
  have ha:=(oks1_dig hok).1
  have hb:=(oks1_dig (oks1_dig hok).2).1
  have ha1:=ha.1
  rw [vc_ref_Cmp]
  refine cond_i (fun h=>cond_i (fun h'=> ?_) (fun h'=> ?_)) (fun h=> ?_)
  ·have h':=of_decide_eq_true h'
   have:= @Dy.lt_of_length_lt (Dy.val a) (Dy.val b) (by rw [ca,cb];omega)
   simp only [Dy.cmpN,if_pos this]
  ·simp only [Bool.not_eq_true'] at h
   have h:=of_decide_eq_false h
   have h':=of_decide_eq_false h'
   have:= @Dy.lt_of_length_lt (Dy.val b) (Dy.val a) (by rw [ca,cb];omega)
   simp only [Dy.cmpN,if_pos this,if_neg (Nat.lt_asymm this)]
  ·simp only [Bool.not_eq_false'] at h
   have h:=of_decide_eq_true h
   have hl:a.length=b.length:=by omega
   rw [wrap_i64 (by omega) (by omega),show ((a.length:Int)-1+1).toNat=a.length by omega]
   have key:=Dy.cmp_diff ha.2 hb.2 a.length (Nat.le_refl _) (by omega)
   rw [List.take_length,hl,List.take_length] at key
   refine ⟨by omega,cond_i (fun h0=> ?_) (fun h0=> ?_)⟩
   ·have h0:=of_decide_eq_true h0
    rw [hl] at h0 ⊢
    rw [if_neg (by omega)] at key
    by_cases c:a.getD (Dy.diffI a b b.length).toNat 0<b.getD (Dy.diffI a b b.length).toNat 0
    ·rw [if_pos c]
     simp only [Dy.cmpN,if_pos (key.1.1 c)]
    ·have h1:¬Dy.val a<Dy.val b:=fun h=>c (key.1.2 h)
     rw [if_neg c]
     simp only [Dy.cmpN,if_neg h1,if_pos (by omega:Dy.val b<Dy.val a)]
   ·have h0:=of_decide_eq_false h0
    rw [hl] at h0
    rw [if_pos (by omega)] at key
    simp [Dy.cmpN,key]
 ·cases h
theorem loop_ref_Add:LoopOk Tryz.prog (look tab5) lamRAdd 2 55 keepRAdd (bodyN Tryz.f115 0) lsRAdd:=by
 intro vals r h K hK
 unfold lsRAdd at h
 split at h
 ·cases h
  rename_i a b o c i
  simp only [evLR] at hK
  obtain ⟨⟨ha,hb,ha1,hb1,rfl,rfl,rfl⟩,hK⟩:=hK
  generalize hM:max a.length b.length=M at hK
  have key:∀(u j c:Nat) (o:List Nat),M=u+j→o.length=j→Dy.digs o→c≤1→Dy.val o+2^(32*j)*(c+Dy.val (a.drop j)+Dy.val (b.drop j))=Dy.val a+Dy.val b→
    ∃m,iterN Tryz.prog (look tab5) lamRAdd 2 55 keepRAdd (bodyN Tryz.f115 0) m [.dig [1,2,3] a,.dig [1,2,3] b,.grown 152 o,.num .u64 c,.num .i64 j] K:=by
   intro u
   induction u with
   |zero=>
    intro j c o hj hol hod hc hv
    refine iterN_last ?_
    rw [vc_ref_Add_1]
    refine cond_f (decide_eq_false (by omega)) (cond_f (decide_eq_false (by omega)) ?_)
    have hja:j=M:=by omega
    subst hja
    simp only [Dy.drop_le a (show a.length≤j by omega),Dy.drop_le b (show b.length≤j by omega),Nat.add_zero] at hv
    have hq:=Dy.take_dgN hod (n:=j) (c:=c) (y:=Dy.val a+Dy.val b) (by omega) (by rw [List.take_of_length_le (by omega)];exact hv)
    rw [List.take_of_length_le (by omega)] at hq
    rw [←hq.1,←hq.2] at hK
    exact hK
   |succ u ih=>
    intro j c o hj hol hod hc hv
    have hx:=Dy.digs_getD ha.2 j
    have hy:=Dy.digs_getD hb.2 j
    rw [Dy.val_drop_step a,Dy.val_drop_step b] at hv
    have ha0:¬j<a.length→a.getD j 0=0:=fun h=>by rw [List.getD_eq_getElem?_getD,List.getElem?_eq_none (by omega)];rfl
    have hb0:¬j<b.length→b.getD j 0=0:=fun h=>by rw [List.getD_eq_getElem?_getD,List.getElem?_eq_none (by omega)];rfl
    obtain ⟨m,hm⟩:=ih (j+1) ((c+a.getD j 0+b.getD j 0)/4294967296) (o++[(c+a.getD j 0+b.getD j 0)%4294967296]) (by omega) (by simp [hol]) (Dy.digs_append.2 ⟨hod,Dy.digs_cons.2 ⟨by omega,Dy.digs_nil⟩⟩) (by omega) (by
      rw [Dy.val_snoc,hol,Dy.pow_split,Nat.mul_assoc,Nat.add_assoc,←Nat.mul_add,←hv]
      congr 2
      omega)
    refine iterN_next m ?_
    rw [vc_ref_Add_1]
    rw [Int.toNat_natCast,wrap_i64 (n:=(j:Int)+1) (by omega) (by omega)]
    generalize hxx:a.getD j 0=x at hx ha0 hm ⊢
    generalize hyy:b.getD j 0=y at hy hb0 hm ⊢
    have fin:∀X:Int,X=((c+x+y:Nat):Int)→(0≤[(IntKind.u32.wrap X).toNat].length∧o.length+[(IntKind.u32.wrap X).toNat].length≤1099511627776)∧
      iterN Tryz.prog (look tab5) lamRAdd 2 55 keepRAdd (bodyN Tryz.f115 0) m [.dig [1,2,3] a,.dig [1,2,3] b,.grown 152 (o++[(IntKind.u32.wrap X).toNat]),.num .u64 (X.fdiv (2^32)),.num .i64 ((j:Int)+1)] K:=by
     rintro _ rfl
     rw [fdiv_pow (by omega),Int.toNat_natCast,wrap_u32]
     have e1:(((c+x+y:Nat):Int)%4294967296).toNat=(c+x+y)%4294967296:=by omega
     rw [e1]
     exact ⟨⟨by simp,by simp;omega⟩,hm⟩
    refine cond_i (fun h=>cond_i (fun h1=>⟨by have:=of_decide_eq_true h;omega,cond_i (fun h2=> ?_) (fun h2=> ?_)⟩) (fun h1=> ?_)) (fun h=>cond_i (fun h0=> ?_) (fun h0=> ?_))
    ·have h2:=of_decide_eq_true h2
     exact ⟨by omega,fin _ (by simp only [wrap_u64];omega)⟩
    ·have h2:=hb0 (by have:=of_decide_eq_false h2;omega)
     exact fin _ (by simp only [wrap_u64];omega)
    ·rw [h] at h1;cases h1
    ·refine cond_f h (cond_t h0 ?_)
     have h:=ha0 (by have:=of_decide_eq_false h;omega)
     have h0:=of_decide_eq_true h0
     exact ⟨by omega,fin _ (by simp only [wrap_u64];omega)⟩
    ·have:=of_decide_eq_false h;have:=of_decide_eq_false h0;omega
  exact key M 0 0 [] (by omega) rfl Dy.digs_nil (by omega) (by simp [Dy.val])
 ·cases h
theorem ok_ref_Add (args:List AV) (s:Spec) (h:rAdd args=some s) (hp:andO s.pre True):Contract Tryz.prog Inv 115 args s.res:=by
 unfold rAdd at h
 split at h
 ·cases h
  rename_i a b
  obtain ⟨⟨ha1,hb1⟩, -⟩:=hp
  refine contract_at false 55 lamRAdd ok_tab5 Tryz.func115 (by kernel_rfl) rfl (loops1 (by kernel_rfl) (by kernel_rfl) loop_ref_Add) fun hok=> ?_
  have ha:=(oks1_dig hok).1
  have hb:=(oks1_dig (oks1_dig hok).2).1
  rw [vc_ref_Add]
  have la:=Nat.lt_of_lt_of_le (Dy.val_lt ha.2) (Nat.pow_le_pow_right (by decide) (show 32*a.length≤32*max a.length b.length by omega))
  have lb:=Nat.lt_of_lt_of_le (Dy.val_lt hb.2) (Nat.pow_le_pow_right (by decide) (show 32*b.length≤32*max a.length b.length by omega))
  have hc:(Dy.val a+Dy.val b)/2^(32*max a.length b.length)<2:=by
   rw [Nat.div_lt_iff_lt_mul (Nat.two_pow_pos _)];omega
  have e:(IntKind.u32.wrap (((Dy.val a+Dy.val b)/2^(32*max a.length b.length):Nat):Int)).toNat=(Dy.val a+Dy.val b)/2^(32*max a.length b.length):=by
   generalize (Dy.val a+Dy.val b)/2^(32*max a.length b.length)=y at hc ⊢
   rw [wrap_u32];omega
  rw [e]
  refine ⟨⟨ha,hb,ha1,hb1,rfl,rfl,rfl⟩,⟨by simp,by simp [Dy.dgN_length];omega⟩,?_⟩
  rw [Dy.val_snoc,Dy.val_dgN,Dy.dgN_length,Nat.mod_add_div]
 ·cases h
theorem loop_ref_Sub:LoopOk Tryz.prog (look tab5) lamRSub 2 47 keepRAdd (bodyN Tryz.f117 0) lsRSub:=by
 intro vals r h K hK
 unfold lsRSub at h
 split at h
 ·cases h
  rename_i a b o c i
  simp only [evLR] at hK
  obtain ⟨⟨ha,hb,ha1,hba,rfl,rfl,rfl⟩,hK⟩:=hK
  have key:∀(u j c:Nat) (o:List Nat),a.length=u+j→o.length=j→Dy.digs o→c≤1→Dy.val o+2^(32*j)*Dy.val (a.drop j)+Dy.val b=Dy.val a+2^(32*j)*(c+Dy.val (b.drop j))→
    ∃m,iterN Tryz.prog (look tab5) lamRSub 2 47 keepRAdd (bodyN Tryz.f117 0) m [.dig [1,2,3] a,.dig [1,2,3] b,.grown 152 o,.num .u64 c,.num .i64 j] K:=by
   intro u
   induction u with
   |zero=>
    intro j c o hj hol hod hc hv
    refine iterN_last ?_
    rw [vc_ref_Sub_1]
    refine cond_f (decide_eq_false (by omega)) ?_
    have hja:j=a.length:=by omega
    subst hja
    rw [List.drop_length] at hv
    have hlt:=Dy.val_lt hod
    rw [hol] at hlt
    have hvb:Dy.val (b.drop a.length)=0:=by
     rw [Dy.val_drop hb.2]
     exact Nat.div_eq_of_lt (Nat.lt_of_le_of_lt hba (Dy.val_lt ha.2))
    rw [hvb] at hv
    simp only [Dy.val,Nat.mul_zero,Nat.add_zero] at hv
    have hc0:c=0:=by
     rcases Nat.eq_zero_or_pos c with h|h
     ·exact h
     ·have:c=1:=by omega
      subst this
      omega
    subst hc0
    have ho:o=Dy.dgN a.length (Dy.val a-Dy.val b):=by
     rw [show Dy.val a-Dy.val b=Dy.val o by omega]
     exact (Dy.dgN_val' hod hol).symm
    rw [ho]
    exact hK
   |succ u ih=>
    intro j c o hj hol hod hc hv
    have hx:=Dy.digs_getD ha.2 j
    have hy:=Dy.digs_getD hb.2 j
    have hb0:¬j<b.length→b.getD j 0=0:=fun h=>by rw [List.getD_eq_getElem?_getD,List.getElem?_eq_none (by omega)];rfl
    rw [Dy.val_drop_step a,Dy.val_drop_step b] at hv
    generalize hxx:a.getD j 0=x at hx hv
    generalize hyy:b.getD j 0=y at hy hv hb0
    have hd:∃d:Nat,(((x:Int)-(y:Int)-(c:Int))%4294967296).toNat=d∧d<4294967296∧d+y+c=x+4294967296*(if x<y+c then 1 else 0):=by
     refine ⟨_,rfl,by omega,?_⟩
     split<;>omega
    obtain ⟨d,hd1,hd2,hd3⟩:=hd
    obtain ⟨m,hm⟩:=ih (j+1) (if x<y+c then 1 else 0) (o++[d]) (by omega) (by simp [hol]) (Dy.digs_append.2 ⟨hod,Dy.digs_cons.2 ⟨hd2,Dy.digs_nil⟩⟩) (by split<;>omega) (by
      rw [Dy.val_snoc,hol,Dy.pow_split]
      generalize (if x<y+c then 1 else 0)=e at hd3 ⊢
      generalize 2^(32*j)=p at hv ⊢
      have h1:p*(d+y+c)=p*(x+4294967296*e):=by rw [hd3]
      simp only [Nat.mul_add,Nat.mul_assoc] at hv h1 ⊢
      omega)
    refine iterN_next m ?_
    rw [vc_ref_Sub_1]
    rw [Int.toNat_natCast,wrap_i64 (n:=(j:Int)+1) (by omega) (by omega),hxx,hyy]
    have fin:∀(X:Int) (e:Nat),IntKind.u32.wrap X=(d:Int)→e=(if x<y+c then 1 else 0)→(0≤[(IntKind.u32.wrap X).toNat].length∧o.length+[(IntKind.u32.wrap X).toNat].length≤1099511627776)∧
      iterN Tryz.prog (look tab5) lamRSub 2 47 keepRAdd (bodyN Tryz.f117 0) m [.dig [1,2,3] a,.dig [1,2,3] b,.grown 152 (o++[(IntKind.u32.wrap X).toNat]),.num .u64 (e:Int),.num .i64 ((j:Int)+1)] K:=by
     intro X e h1 h2
     rw [h1,Int.toNat_natCast,h2]
     exact ⟨⟨by simp,by simp;omega⟩,hm⟩
    refine cond_t (decide_eq_true (by omega)) (cond_i (fun h=> ?_) (fun h=> ?_))
    ·have h:=of_decide_eq_true h
     refine ⟨by omega,by omega,cond_i (fun h1=> ?_) (fun h1=> ?_)⟩
     ·have h1:=of_decide_eq_true h1
      simp only [wrap_u64] at h1
      have h2:x<y+c:=by omega
      rw [if_pos h2] at hd3
      exact fin _ 1 (by simp only [wrap_u64,wrap_u32];omega) (by rw [if_pos h2])
     ·have h1:=of_decide_eq_false h1
      simp only [wrap_u64] at h1
      have h2:¬x<y+c:=by omega
      rw [if_neg h2] at hd3
      exact fin _ 0 (by simp only [wrap_u64,wrap_u32];omega) (by rw [if_neg h2])
    ·have hy0:=hb0 (by have:=of_decide_eq_false h;omega)
     refine ⟨by omega,cond_i (fun h1=> ?_) (fun h1=> ?_)⟩
     ·have h1:=of_decide_eq_true h1
      simp only [wrap_u64] at h1
      have h2:x<y+c:=by omega
      rw [if_pos h2] at hd3
      exact fin _ 1 (by simp only [wrap_u64,wrap_u32];omega) (by rw [if_pos h2])
     ·have h1:=of_decide_eq_false h1
      simp only [wrap_u64] at h1
      have h2:¬x<y+c:=by omega
      rw [if_neg h2] at hd3
      exact fin _ 0 (by simp only [wrap_u64,wrap_u32];omega) (by rw [if_neg h2])
  exact key a.length 0 0 [] (by omega) rfl Dy.digs_nil (by omega) (by simp [Dy.val])
 ·cases h
theorem ok_ref_Sub (args:List AV) (s:Spec) (h:sSubL args=some s) (hp:andO s.pre True):Contract Tryz.prog Inv 117 args s.res:=by
 unfold sSubL at h
 split at h
 ·cases h
  rename_i a b
  obtain ⟨⟨hba,ha1⟩, -⟩:=hp
  refine contract_at false 47 lamRSub ok_tab5 Tryz.func117 (by kernel_rfl) rfl (loops1 (by kernel_rfl) (by kernel_rfl) loop_ref_Sub) fun hok=> ?_
  have ha:=(oks1_dig hok).1
  have hb:=(oks1_dig (oks1_dig hok).2).1
  rw [vc_ref_Sub]
  refine ⟨⟨ha,hb,ha1,hba,rfl,rfl,rfl⟩,?_⟩
  rw [Dy.dg_val_dgN (Nat.lt_of_le_of_lt (Nat.sub_le _ _) (Dy.val_lt ha.2))]
 ·cases h
theorem loop_ref_Len:LoopOk Tryz.prog (look tab5) lamRLen 1 25 keepRLen (bodyN Tryz.f96 0) lsRLen:=by
 intro vals r h K hK
 unfold lsRLen at h
 split at h
 ·cases h
  rename_i n x
  simp only [evLR] at hK
  obtain ⟨⟨h0,h1,h2,h3⟩,hK⟩:=hK
  obtain ⟨x,rfl⟩:=Int.eq_ofNat_of_zero_le h2
  rw [Int.toNat_natCast] at hK
  have key:∀(x:Nat) (n:Int),0≤n→n+Dy.bl x≤1099511627776+32→x<4294967296→K (.exit 0) [.num .i64 (n+(Dy.bl x:Nat)),.num .u32 0]→
    ∃m,iterN Tryz.prog (look tab5) lamRLen 1 25 keepRLen (bodyN Tryz.f96 0) m [.num .i64 n,.num .u32 x] K:=by
   intro x
   induction x using Nat.strongRecOn with
   |_ x ih=>
    intro n h0 h1 hx hK
    by_cases c:x=0
    ·subst c
     refine iterN_last ?_
     rw [vc_ref_Len_1]
     refine cond_f rfl ?_
     simpa [Dy.bl_zero] using hK
    ·have hb:=Dy.bl_half c
     obtain ⟨m,hm⟩:=ih (x/2) (Nat.div_lt_self (by omega) (by omega)) (n+1) (by omega) (by omega) (by omega) (by rw [show n+1+(Dy.bl (x/2):Int)=n+(Dy.bl x:Int) by omega];exact hK)
     refine iterN_next m ?_
     rw [vc_ref_Len_1,wrap_i64 (by omega) (by omega),fdiv_pow (by omega),Int.toNat_natCast]
     exact cond_t (decide_eq_true (by omega)) hm
  have hb:=(Dy.bl_le (n:=x) (k:=32)).2 (by omega)
  exact key x n h0 (by omega) (by omega) hK
 ·cases h
theorem ok_ref_Len (args:List AV) (s:Spec) (h:rLen args=some s) (hp:andO s.pre True):Contract Tryz.prog Inv 96 args s.res:=by
 unfold rLen at h
 split at h
 ·cases h
  rename_i a
  obtain ⟨⟨hc,ha1⟩, -⟩:=hp
  refine contract_at false 25 lamRLen ok_tab5 Tryz.func96 (by kernel_rfl) rfl (loops1 (by kernel_rfl) (by kernel_rfl) loop_ref_Len) fun hok=> ?_
  have ha:=(oks1_dig hok).1
  rw [vc_ref_Len]
  refine cond_i (fun h=> ?_) (fun h=> ?_)
  ·have h:=of_decide_eq_true h
   have:a=[]:=List.length_eq_zero_iff.1 (by omega)
   subst this
   rfl
  ·have h:=of_decide_eq_false h
   have hne:a≠[]:=fun e=>h (by rw [e];rfl)
   have hb:=Dy.bl_digits ha.2 hne (((Dy.can_iff ha.2).1 hc).resolve_left hne)
   have hx:=Dy.digs_getD ha.2 (a.length-1)
   rw [wrap_i64 (n:=(a.length:Int)-1) (by omega) (by omega),show ((a.length:Int)-1).toNat=a.length-1 by omega,Int.toNat_natCast,wrap_i64 (by omega) (by omega),hb]
   refine ⟨by omega,by omega,?_⟩
   congr 1
   omega
 ·cases h
theorem ok_ref_Bit (args:List AV) (s:Spec) (h:rBit args=some s) (hp:andO s.pre True):Contract Tryz.prog Inv 162 args s.res:=by
 unfold rBit at h
 split at h
 ·cases h
  rename_i a i
  refine contract0 false ok_tab5 Tryz.func162 (by kernel_rfl) (by kernel_rfl) fun hok=> ?_
  have ha:=(oks1_dig hok).1
  have hr:=range_i64 (oks1_num (oks1_dig hok).2).1
  rw [vc_ref_Bit]
  refine cond_i (fun h=> ?_) (fun h=> ?_)
  ·have h:=of_decide_eq_true h
   rw [if_pos h]
   rfl
  ·have h:=of_decide_eq_false h
   rw [if_neg h]
   obtain ⟨n,rfl⟩:=Int.eq_ofNat_of_zero_le (show 0≤i by omega)
   have e1:IntKind.i64.wrap ((n:Int).tdiv 32)=((n/32:Nat):Int):=by
    rw [Int.tdiv_eq_ediv_of_nonneg (by omega),wrap_i64 (by omega) (by omega)];omega
   have e2:(n:Int).tmod 32=((n%32:Nat):Int):=by rw [Int.tmod_eq_emod_of_nonneg (by omega)];omega
   rw [e1,e2]
   simp only [Int.toNat_natCast]
   have hsp:2^n=2^(32*(n/32))*2^(n%32):=by rw [←Nat.pow_add,show 32*(n/32)+n%32=n by omega]
   refine cond_i (fun h=> ?_) (fun h=> ?_)
   ·have h:=of_decide_eq_true h
    have:Dy.val a/2^n=0:=Nat.div_eq_of_lt (Nat.lt_of_lt_of_le (Dy.val_lt ha.2) (Nat.pow_le_pow_right (by decide) (by omega)))
    rw [this]
    rfl
   ·have h:=of_decide_eq_false h
    refine ⟨by omega,by omega,?_⟩
    have hx:=Dy.digs_getD ha.2 (n/32)
    have hdiv:Dy.val a/2^n%2=a.getD (n/32) 0/2^(n%32)%2:=by
     rw [hsp,←Nat.div_div_eq_div_mul,←Dy.val_drop ha.2,Dy.val_drop_step]
     have e3:4294967296*Dy.val (a.drop (n/32+1))=2^(n%32)*(2*(2^(31-n%32)*Dy.val (a.drop (n/32+1)))):=by
      rw [←Nat.mul_assoc 2,←Nat.pow_succ',←Nat.mul_assoc,←Nat.pow_add,show n%32+(31-n%32+1)=32 by omega]
     rw [e3,Nat.add_mul_div_left _ _ (Nat.two_pow_pos _)]
     omega
    have hq:a.getD (n/32) 0/2^(n%32)≤a.getD (n/32) 0:=Nat.div_le_self _ _
    rw [hdiv,Nat.min_eq_left (by omega),fdiv_pow (by omega),Int.toNat_natCast]
    generalize a.getD (n/32) 0/2^(n%32)=w at hq ⊢
    rw [w32_and (by omega) (by omega) (by omega) (by omega),Int.toNat_natCast,show (1:Int).toNat=1 from rfl,Nat.and_one_is_mod]
 ·cases h
theorem loop_ref_Up:LoopOk Tryz.prog (look tab5) lamRUp 2 45 keepRUp (bodyN Tryz.f98 0) lsRUp:=by
 intro vals r h K hK
 unfold lsRUp at h
 split at h
 ·cases h
  rename_i a o s c i
  simp only [evLR] at hK
  obtain ⟨⟨ha,ha1,hs0,hs1,hol,rfl,rfl⟩,hK⟩:=hK
  obtain ⟨s,rfl⟩:=Int.eq_ofNat_of_zero_le hs0
  simp only [Int.toNat_natCast] at hK
  have key:∀(u j c:Nat) (q:List Nat),a.length=u+j→q.length=j→Dy.digs q→c<2^s→Dy.val q+2^(32*j)*(c+2^s*Dy.val (a.drop j))=Dy.val a*2^s→
    ∃m,iterN Tryz.prog (look tab5) lamRUp 2 45 keepRUp (bodyN Tryz.f98 0) m [.dig [1,2,3] a,.grown 152 (o++q),.num .i64 s,.num .u64 c,.num .i64 j] K:=by
   intro u
   induction u with
   |zero=>
    intro j c q hj hql hqd hc hv
    refine iterN_last ?_
    rw [vc_ref_Up_1]
    refine cond_f (decide_eq_false (by omega)) ?_
    have hja:j=a.length:=by omega
    subst hja
    simp only [List.drop_length,Dy.val,Nat.mul_zero,Nat.add_zero] at hv
    have hq:=Dy.take_dgN hqd (n:=a.length) (c:=c) (y:=Dy.val a*2^s) (by omega) (by rw [List.take_of_length_le (by omega)];exact hv)
    rw [List.take_of_length_le (by omega)] at hq
    rw [←hq.1,←hq.2] at hK
    exact hK
   |succ u ih=>
    intro j c q hj hql hqd hc hv
    have hx:=Dy.digs_getD ha.2 j
    rw [Dy.val_drop_step a] at hv
    generalize hxx:a.getD j 0=x at hx hv
    have hs:2^s*2^(32-s)=4294967296:=by rw [←Nat.pow_add,show s+(32-s)=32 by omega]
    have hs31:2^s≤2^31:=Nat.pow_le_pow_right (by decide) (by omega)
    have hxs:x*2^s≤4294967295*2^s:=Nat.mul_le_mul_right _ (by omega)
    have hcn:(x*2^s+c)/4294967296<2^s:=by
     rw [Nat.div_lt_iff_lt_mul (by decide)]
     omega
    obtain ⟨m,hm⟩:=ih (j+1) ((x*2^s+c)/4294967296) (q++[(x*2^s+c)%4294967296]) (by omega) (by simp [hql]) (Dy.digs_append.2 ⟨hqd,Dy.digs_cons.2 ⟨by omega,Dy.digs_nil⟩⟩) hcn (by
      rw [←hv,Dy.val_snoc,hql,Dy.pow_split,Nat.mul_add (2^s),Nat.mul_comm (2^s) x]
      have h1:x*2^s+c=(x*2^s+c)%4294967296+4294967296*((x*2^s+c)/4294967296):=by omega
      generalize (x*2^s+c)%4294967296=lo at h1 ⊢
      generalize (x*2^s+c)/4294967296=hi at h1 ⊢
      rw [show c+(x*2^s+2^s*(4294967296*Dy.val (a.drop (j+1))))=(lo+4294967296*hi)+2^s*(4294967296*Dy.val (a.drop (j+1))) by omega]
      rw [Nat.mul_left_comm (2^s) 4294967296]
      generalize 2^(32*j)=p
      simp only [Nat.mul_add,Nat.mul_assoc]
      omega)
    refine iterN_next m ?_
    rw [vc_ref_Up_1]
    simp only [Int.toNat_natCast,List.length_cons,List.length_nil]
    rw [hxx]
    have hmin:min s 64=s:=by omega
    have hpow:((2:Int)^s)=((2^s:Nat):Int):=by simp
    have e2:IntKind.u64.wrap (IntKind.u64.wrap (x:Int)*2^min s 64)=((x*2^s:Nat):Int):=by
     have q1:IntKind.u64.wrap (x:Int)=(x:Int):=by rw [wrap_u64];omega
     rw [hmin,hpow,q1,wrap_u64,←Int.natCast_mul]
     generalize x*2^s=y at hxs ⊢
     omega
    have e3:c|||(x*2^s)=x*2^s+c:=by rw [Nat.or_comm,or_low hc]
    rw [e2,w64_or (by omega) (by omega) (by omega) (by omega)]
    simp only [Int.toNat_natCast]
    rw [e3,fdiv_pow (by omega),Int.toNat_natCast,wrap_u32,wrap_i64 (by omega) (by omega)]
    have e5:(((x*2^s+c:Nat):Int)%4294967296).toNat=(x*2^s+c)%4294967296:=by
     generalize x*2^s+c=y
     omega
    rw [e5,List.append_assoc]
    exact cond_t (decide_eq_true (by omega)) ⟨by omega,by omega,⟨by omega,by rw [List.length_append];omega⟩,hm⟩
  have:=key a.length 0 0 [] (by omega) rfl Dy.digs_nil (Nat.two_pow_pos _) (by simp [Dy.val];exact Nat.mul_comm _ _)
  rw [List.append_nil] at this
  exact this
 ·cases h
theorem ok_ref_Up (args:List AV) (s:Spec) (h:sUp args=some s) (hp:andO s.pre True):Contract Tryz.prog Inv 98 args s.res:=by
 unfold sUp at h
 split at h
 ·cases h
  rename_i a n
  obtain ⟨⟨hn,hn1,hal⟩, -⟩:=hp
  refine contract_at false 45 lamRUp ok_tab5 Tryz.func98 (by kernel_rfl) rfl (loops1 (by kernel_rfl) (by kernel_rfl) loop_ref_Up) fun hok=> ?_
  have ha:=(oks1_dig hok).1
  obtain ⟨n,rfl⟩:=Int.eq_ofNat_of_zero_le hn
  rw [vc_ref_Up]
  refine cond_i (fun h=> ?_) (fun h=> ?_)
  ·have h:=of_decide_eq_true h
   have:a=[]:=List.length_eq_zero_iff.1 (by omega)
   subst this
   simp [Dy.val,Dy.dg_zero]
  ·have e1:IntKind.i64.wrap ((n:Int).tdiv 32)=((n/32:Nat):Int):=by
    rw [Int.tdiv_eq_ediv_of_nonneg (by omega),wrap_i64 (by omega) (by omega)];omega
   have e2:(n:Int).tmod 32=((n%32:Nat):Int):=by rw [Int.tmod_eq_emod_of_nonneg (by omega)];omega
   rw [e1,e2]
   have e3:(IntKind.u32.wrap ((Dy.val a*2^(n%32)/2^(32*a.length):Nat):Int)).toNat=Dy.val a*2^(n%32)/2^(32*a.length):=by
    have h1:Dy.val a*2^(n%32)/2^(32*a.length)<4294967296:=by
     rw [Nat.div_lt_iff_lt_mul (Nat.two_pow_pos _),Nat.mul_comm 4294967296]
     exact Nat.mul_lt_mul'' (Dy.val_lt ha.2) (Nat.pow_lt_pow_right (by decide) (by omega:n%32<32))
    generalize Dy.val a*2^(n%32)/2^(32*a.length)=y at h1 ⊢
    rw [wrap_u32];omega
   simp only [Int.toNat_natCast,List.length_replicate,List.length_append,Dy.dgN_length,List.length_cons,List.length_nil]
   rw [e3]
   refine ⟨⟨by omega,by omega,by omega⟩,⟨ha,hal,by omega,by omega,by omega,by simp,by simp⟩,⟨by omega,by omega⟩,?_⟩
   rw [Dy.val_snoc,Dy.val_append,Dy.val_replicate,Dy.val_dgN]
   simp only [List.length_append,List.length_replicate,Dy.dgN_length]
   rw [Nat.zero_add,Nat.mul_add,Nat.pow_add,Nat.mul_assoc,←Nat.mul_add,Nat.mod_add_div,Nat.mul_comm,Nat.mul_assoc,←Nat.pow_add,show n%32+32*(n/32)=n by omega]
 ·cases h
theorem ok_tab6:PhiOk Tryz.prog Inv (look tab6):=
 look_cons (look_cons (look_cons (look_cons (look_cons (look_cons (look_cons (look_cons ok_tab5 ok_ref_Up) ok_ref_Bit) ok_ref_Len) ok_ref_Sub) ok_ref_Add) ok_ref_Cmp) ok_ref_Same) ok_ref_Of
theorem loop_ref_Low:LoopOk Tryz.prog (look tab6) lamRLow 1 31 keepRLow (bodyN Tryz.f111 0) lsRLow:=by
 intro vals r h K hK
 unfold lsRLow at h
 split at h
 ·cases h
  rename_i a n
  simp only [evLR] at hK
  obtain ⟨⟨ha,hc,ha1,rfl⟩,hK⟩:=hK
  by_cases hv:Dy.val a=0
  ·have:a=[]:=by rw [←hc,hv,Dy.dg_zero]
   subst this
   refine iterN_last ?_
   rw [vc_ref_Low_1,wrap_i64 (by simp) (by simp)]
   refine cond_f rfl ?_
   rw [hv,Dy.tz_zero] at hK
   exact hK
  ·have hlt:Dy.tz (Dy.val a)<32*a.length:=Nat.lt_of_lt_of_le (Dy.tz_lt_bl hv) (Dy.bl_le.2 (Dy.val_lt ha.2))
   have key:∀u n:Nat,Dy.tz (Dy.val a)=u+n→(n%32=0∨a.getD (n/32) 0≠0)→∃m,iterN Tryz.prog (look tab6) lamRLow 1 31 keepRLow (bodyN Tryz.f111 0) m [.dig [1,2] a,.num .i64 n] K:=by
    intro u
    induction u using Nat.strongRecOn with
    |_ u ih=>
     intro n hn hd
     have hbit:=Dy.tz_bit hv (show n≤Dy.tz (Dy.val a) by omega)
     have e1:IntKind.i64.wrap ((n:Int).tdiv 32)=((n/32:Nat):Int):=by
      rw [Int.tdiv_eq_ediv_of_nonneg (by omega),wrap_i64 (by omega) (by omega)];omega
     have e2:IntKind.i64.wrap (32*(a.length:Int))=((32*a.length:Nat):Int):=by rw [wrap_i64 (by omega) (by omega)];omega
     have e3:(if (n:Int)<0 then (0:Nat) else Dy.val a/2^(n:Int).toNat%2)=if n=Dy.tz (Dy.val a) then 1 else 0:=by rw [if_neg (by omega),Int.toNat_natCast,hbit]
     by_cases c:n=Dy.tz (Dy.val a)
     ·refine iterN_last ?_
      rw [vc_ref_Low_1,e1,e2,e3,if_pos c]
      refine cond_t (decide_eq_true (by omega)) (cond_f rfl ?_)
      rw [←c] at hK
      exact hK
     ·by_cases c2:a.getD (n/32) 0=0
      ·have h32:n%32=0:=hd.resolve_right (fun h=>h c2)
       have hge:n+32≤Dy.tz (Dy.val a):=by
        refine (Dy.dvd_iff_le_tz hv _).1 ?_
        have q1:Dy.val a%2^n=0:=(Dy.dvd_iff_le_tz hv _).2 (by omega)
        have q2:=Dy.getD_val ha.2 (n/32)
        rw [show 32*(n/32)=n by omega,c2] at q2
        rw [Nat.pow_add,Nat.mod_mul,q1,←q2]
        simp
       obtain ⟨m,hm⟩:=ih (u-32) (by omega) (n+32) (by omega) (.inl (by omega))
       refine iterN_next m ?_
       rw [vc_ref_Low_1,e1,e2,e3,if_neg c]
       refine cond_t (decide_eq_true (by omega)) (cond_t rfl ⟨by omega,?_⟩)
       rw [Int.toNat_natCast,c2,wrap_i64 (by omega) (by omega)]
       exact cond_t rfl hm
      ·have hnext:(n+1)%32=0∨a.getD ((n+1)/32) 0≠0:=by
        by_cases e:(n+1)%32=0
        ·exact .inl e
        ·rw [show (n+1)/32=n/32 by omega];exact .inr c2
       obtain ⟨m,hm⟩:=ih (u-1) (by omega) (n+1) (by omega) hnext
       refine iterN_next m ?_
       rw [vc_ref_Low_1,e1,e2,e3,if_neg c]
       refine cond_t (decide_eq_true (by omega)) (cond_t rfl ⟨by omega,?_⟩)
       rw [Int.toNat_natCast,wrap_i64 (n:=(n:Int)+1) (by omega) (by omega)]
       exact cond_f (decide_eq_false (by omega)) hm
   exact key (Dy.tz (Dy.val a)) 0 (by omega) (.inl rfl)
 ·cases h
theorem ok_ref_Low (args:List AV) (s:Spec) (h:rLow args=some s) (hp:andO s.pre True):Contract Tryz.prog Inv 111 args s.res:=by
 unfold rLow at h
 split at h
 ·cases h
  rename_i a
  obtain ⟨⟨hc,ha1⟩, -⟩:=hp
  refine contract_at false 31 lamRLow ok_tab6 Tryz.func111 (by kernel_rfl) rfl (loops1 (by kernel_rfl) (by kernel_rfl) loop_ref_Low) fun hok=> ?_
  have ha:=(oks1_dig hok).1
  rw [vc_ref_Low,wrap_i64 (by omega) (by omega)]
  refine ⟨⟨ha,hc,ha1,rfl⟩,cond_i (fun h=> ?_) (fun h=>rfl)⟩
  have h:=of_decide_eq_true h
  by_cases hv:Dy.val a=0
  ·rw [hv,Dy.tz_zero];rfl
  ·have hlt:Dy.tz (Dy.val a)<32*a.length:=Nat.lt_of_lt_of_le (Dy.tz_lt_bl hv) (Dy.bl_le.2 (Dy.val_lt ha.2))
   omega
 ·cases h
theorem ok_tab7:PhiOk Tryz.prog Inv (look tab7):=look_cons ok_tab6 ok_ref_Low
theorem loop_ref_Down:LoopOk Tryz.prog (look tab7) lamRDown 2 63 keepRDown (bodyN Tryz.f112 0) lsRDown:=by
 intro vals r h K hK
 unfold lsRDown at h
 split at h
 ·cases h
  rename_i a o s i l
  simp only [evLR] at hK
  obtain ⟨⟨ha,hs0,hs1,rfl,hi0,hi1,ha1⟩,hK⟩:=hK
  obtain ⟨s,rfl⟩:=Int.eq_ofNat_of_zero_le hs0
  obtain ⟨i,rfl⟩:=Int.eq_ofNat_of_zero_le hi0
  simp only [Int.toNat_natCast] at hK
  have hs:s<32:=by omega
  have key:∀(u j:Nat),a.length=u+(i+j)→
    ∃m,iterN Tryz.prog (look tab7) lamRDown 2 63 keepRDown (bodyN Tryz.f112 0) m [.dig [1,2,3] a,.grown 152 (Dy.dgN j (Dy.val (a.drop i)/2^s)),.num .i64 s,.num .i64 ((i+j:Nat):Int),.bool l] K:=by
   intro u
   induction u with
   |zero=>
    intro j hj
    refine iterN_last ?_
    rw [vc_ref_Down_1]
    refine cond_f (decide_eq_false (by omega)) ?_
    rw [show j=a.length-i by omega,show i+(a.length-i)=a.length by omega]
    exact hK
   |succ u ih=>
    intro j hj
    have hdig:=down_digit (Dy.digs_drop ha.2 i) hs j
    rw [show∀k,(a.drop i).getD k 0=a.getD (i+k) 0 from fun k=>by simp [List.getD_eq_getElem?_getD,List.getElem?_drop],show∀k,(a.drop i).getD k 0=a.getD (i+k) 0 from fun k=>by simp [List.getD_eq_getElem?_getD,List.getElem?_drop]] at hdig
    have hx:=Dy.digs_getD ha.2 (i+j)
    have hy:=Dy.digs_getD ha.2 (i+(j+1))
    have hd:Dy.val (a.drop i)/2^s/2^(32*j)%4294967296<4294967296:=Nat.mod_lt _ (by decide)
    obtain ⟨m,hm⟩:=ih (j+1) (by omega)
    rw [Dy.dgN_succ] at hm
    refine iterN_next m ?_
    rw [vc_ref_Down_1]
    rw [hdig] at hm hd
    have hw:IntKind.i64.wrap (((i+j:Nat):Int)+1)=((i+(j+1):Nat):Int):=by rw [wrap_i64 (by omega) (by omega)];omega
    rw [hw]
    simp only [Int.toNat_natCast,List.length_cons,List.length_nil,Dy.dgN_length]
    generalize hxx:a.getD (i+j) 0=x at hx hm hd ⊢
    generalize hyy:a.getD (i+(j+1)) 0=y at hy hm hd ⊢
    have q1:∀z:Nat,z<4294967296→IntKind.u64.wrap (z:Int)=(z:Int):=fun z hz=>by rw [wrap_u64];omega
    have hxs:x/2^s≤x:=Nat.div_le_self _ _
    rw [q1 x hx,Nat.min_eq_left (by omega:s≤64),fdiv_pow (by omega)]
    simp only [Int.toNat_natCast]
    have hlo:x/2^s<2^(32-s):=by
     rw [Nat.div_lt_iff_lt_mul (Nat.two_pow_pos s),←Nat.pow_add,show 32-s+s=32 by omega];exact hx
    generalize x/2^s=w at hxs hlo hd hm ⊢
    refine cond_t (decide_eq_true (by omega)) ⟨by omega,by omega,cond_i (fun h=> ?_) (fun h=> ?_)⟩
    ·have h:=of_decide_eq_true h
     have e4:IntKind.i64.wrap ((32:Int)-(s:Int))=((32-s:Nat):Int):=by rw [wrap_i64 (by omega) (by omega)];omega
     rw [e4]
     simp only [Int.toNat_natCast]
     rw [Nat.min_eq_left (by omega:32-s≤64)]
     have hpow:((2:Int)^(32-s))=((2^(32-s):Nat):Int):=by simp
     have hp32:2^(32-s)≤2^32:=Nat.pow_le_pow_right (by decide) (by omega)
     have hy32:y*2^(32-s)≤4294967295*2^32:=Nat.mul_le_mul (by omega) hp32
     have e5:IntKind.u64.wrap (IntKind.u64.wrap (y:Int)*2^(32-s))=((y*2^(32-s):Nat):Int):=by
      rw [hpow,q1 y hy,←Int.natCast_mul,wrap_u64]
      generalize y*2^(32-s)=v at hy32 ⊢
      omega
     rw [e5,w64_or (by omega) (by omega) (by omega) (by omega)]
     simp only [Int.toNat_natCast]
     have e7:w|||y*2^(32-s)=y*2^(32-s)+w:=by rw [Nat.or_comm,or_low hlo]
     have e8:(IntKind.u32.wrap ((y*2^(32-s)+w:Nat):Int)).toNat=w+y*2^(32-s)%4294967296:=by
      rw [wrap_u32]
      generalize y*2^(32-s)=v at hy32 hd ⊢
      omega
     rw [e7,e8]
     exact ⟨by omega,by omega,⟨by omega,by omega⟩,hm⟩
    ·have h:=of_decide_eq_false h
     have hb0:y=0:=by rw [←hyy,List.getD_eq_getElem?_getD,List.getElem?_eq_none (by omega)];rfl
     subst hb0
     have e8:(IntKind.u32.wrap (w:Int)).toNat=w:=by
      rw [wrap_u32]
      omega
     rw [Nat.zero_mul,Nat.zero_mod,Nat.add_zero] at hm
     rw [e8]
     exact ⟨⟨by omega,by omega⟩,hm⟩
  exact key (a.length-i) 0 (by omega)
 ·cases h
theorem ok_ref_Down (args:List AV) (s:Spec) (h:rDown args=some s) (hp:andO s.pre True):Contract Tryz.prog Inv 112 args s.res:=by
 unfold rDown at h
 split at h
 ·cases h
  rename_i a n
  obtain ⟨⟨hc,hn,ha1⟩, -⟩:=hp
  refine contract_at false 63 lamRDown ok_tab7 Tryz.func112 (by kernel_rfl) rfl (loops1 (by kernel_rfl) (by kernel_rfl) loop_ref_Down) fun hok=> ?_
  have ha:=(oks1_dig hok).1
  have hr:=range_i64 (oks1_num (oks1_dig hok).2).1
  obtain ⟨n,rfl⟩:=Int.eq_ofNat_of_zero_le hn
  rw [vc_ref_Down]
  have e1:IntKind.i64.wrap ((n:Int).tdiv 32)=((n/32:Nat):Int):=by
   rw [Int.tdiv_eq_ediv_of_nonneg (by omega),wrap_i64 (by omega) (by omega)];omega
  have e2:(n:Int).tmod 32=((n%32:Nat):Int):=by rw [Int.tmod_eq_emod_of_nonneg (by omega)];omega
  rw [e1,e2]
  simp only [Int.toNat_natCast]
  have hpow:2^(32*(n/32))*2^(n%32)=2^n:=by rw [←Nat.pow_add,show 32*(n/32)+n%32=n by omega]
  have hbl:=(Dy.bl_le (n:=Dy.val a) (k:=32*a.length)).2 (Dy.val_lt ha.2)
  refine ⟨⟨hc,ha1⟩,cond_i (fun h=> ?_) (fun h=> ?_)⟩
  ·have h:=of_decide_eq_true h
   have h0:Dy.val a/2^n=0:=Nat.div_eq_of_lt (Dy.bl_le.1 (by omega))
   rw [h0,Dy.dg_zero]
   have e3:decide ((a.length:Int)>0)=decide (Dy.val a≠0∧(Dy.tz (Dy.val a):Int)<(n:Int)):=by
    by_cases hv:Dy.val a=0
    ·have:a=[]:=by rw [←hc,hv,Dy.dg_zero]
     subst this
     simp [Dy.val]
    ·have hz:=Dy.tz_lt_bl hv
     have hl:a≠[]:=fun e=>hv (by rw [e];rfl)
     have hl:=List.length_pos_iff.2 hl
     rw [decide_eq_true (by omega),decide_eq_true ⟨hv,by omega⟩]
   rw [e3]
  ·have h:=of_decide_eq_false h
   have hv:Dy.val a≠0:=fun e=>h (by rw [e,Dy.bl_zero];omega)
   refine ⟨⟨hc,ha1⟩,⟨ha,by omega,by omega,by simp,by omega,by omega,ha1⟩,?_⟩
   have hlt:Dy.val (a.drop (n/32))/2^(n%32)<2^(32*(a.length-n/32)):=by
    have:=Dy.val_lt (Dy.digs_drop ha.2 (n/32))
    rw [List.length_drop] at this
    exact Nat.lt_of_le_of_lt (Nat.div_le_self _ _) this
   rw [Dy.dg_val_dgN hlt,Dy.val_drop ha.2,Nat.div_div_eq_div_mul,hpow]
   have e3:decide ((n:Int)>(Dy.tz (Dy.val a):Int))=decide (Dy.val a≠0∧(Dy.tz (Dy.val a):Int)<(n:Int)):=by simp [hv]
   rw [e3]
 ·cases h
theorem ok_tab8:PhiOk Tryz.prog Inv (look tab8):=look_cons ok_tab7 ok_ref_Down
end Go.AI

namespace Go.Dy
structure Dyd where
 neg:Bool
 mag:List Nat
 exp:Int
def zeroD:Dyd:=⟨false,[],0⟩
def form (s:Bool) (n:Nat) (e:Int):Dyd:=if n=0 then zeroD else ⟨s,dg (n/2^tz n),e+tz n⟩
def formZ (z:Int) (e:Int):Dyd:=form (decide (z<0)) z.natAbs e
def Dyd.int (d:Dyd):Int:=if d.neg then -(val d.mag:Int) else val d.mag
def inside (e:Int):Bool:=decide (-16777216≤e∧e≤16777216)
def mayD (d:Dyd):Bool:=may d.mag&&(if d.mag=[] then !d.neg&&decide (d.exp=0) else decide (val d.mag%2=1)&&inside d.exp)
def boundD (d:Dyd):Dyd×Int:=if d.mag.length≤4096 then (if inside d.exp then (d,0) else (zeroD,20)) else (zeroD,3)
def makeD (s:Bool) (m:List Nat) (e:Int):Dyd×Int:=if may m then boundD (form s (val m) e) else (zeroD,2)
def unit (a b:Dyd):Int:=min a.exp b.exp
def at_ (d:Dyd) (u:Int):Int:=d.int*2^(d.exp-u).toNat
def addD (a b:Dyd):Dyd:=formZ (at_ a (unit a b)+at_ b (unit a b)) (unit a b)
def mulD (a b:Dyd):Dyd:=form (a.neg !=b.neg) (val a.mag*val b.mag) (a.exp+b.exp)
def cmpZ (a b:Int):Int:=if a<b then -1 else if b<a then 1 else 0
def cmpD (a b:Dyd):Int:=cmpZ (at_ a (unit a b)) (at_ b (unit a b))
def negD (d:Dyd):Dyd:=⟨!d.neg&&decide (d.mag≠[]),d.mag,d.exp⟩
def absD (d:Dyd):Dyd:=⟨false,d.mag,d.exp⟩
def signD (d:Dyd):Int:=if d.mag=[] then 0 else if d.neg then -1 else 1
def topD (d:Dyd):Int:=if d.mag=[] then 0 else d.exp+bl (val d.mag)
def okIf (c:Bool) (d:Dyd):Dyd×Int:=if c then (d,0) else (zeroD,2)
def boundIf (c:Bool) (d:Dyd):Dyd×Int:=if c then boundD d else (zeroD,2)
def intD (n:Int):Dyd:=formZ n 0
end Go.Dy
namespace Go.AI
open Go Go.RowKit Go.Proofs
set_option linter.unusedVariables false
def avD (p:List Nat) (d:Dy.Dyd):AV:= .agg [.bool d.neg,.dig p d.mag,.num .i64 d.exp]
def dInside:List AV→Option Spec
 |[.num .i64 e]=>some ⟨none,.bool (Dy.inside e)⟩
 |_=>none
def dMay:List AV→Option Spec
 |[.agg [.bool s,.dig [1] m,.num .i64 e]]=>some ⟨none,.bool (Dy.mayD ⟨s,m,e⟩)⟩
 |_=>none
def dBoth:List AV→Option Spec
 |[.vec [1] 3 [.agg [.bool s,.dig [1] m,.num .i64 e],.agg [.bool s',.dig [1] m',.num .i64 e']]]=>some ⟨none,.bool (Dy.mayD ⟨s,m,e⟩&&Dy.mayD ⟨s',m',e'⟩)⟩
 |_=>none
def dMake:List AV→Option Spec
 |[.bool s,.dig [2] m,.num .i64 e]=>some ⟨none,.tup [avD [0] (Dy.makeD s m e).1,.num .i64 (Dy.makeD s m e).2]⟩
 |_=>none
def dOwn:List AV→Option Spec
 |[.agg [.bool s,.dig [1] m,.num .i64 e]]=>some ⟨some (m.length≤1048576),.agg [.bool s,.dig [0] m,.num .i64 e]⟩
 |_=>none
def dSigned:List AV→Option Spec
 |[.agg [.bool s,.dig [1] m,.num .i64 e],.bool n]=>some ⟨some (m.length≤1048576),.agg [.bool (n&&decide (m≠[])),.dig [0] m,.num .i64 e]⟩
 |_=>none
def dSign:List AV→Option Spec
 |[.agg [.bool s,.dig [1] m,.num .i64 e]]=>some ⟨none,.num .i64 (if Dy.mayD ⟨s,m,e⟩ then Dy.signD ⟨s,m,e⟩ else 0)⟩
 |_=>none
def dTop:List AV→Option Spec
 |[.agg [.bool s,.dig [1] m,.num .i64 e]]=>some ⟨none,.num .i64 (if Dy.mayD ⟨s,m,e⟩ then Dy.topD ⟨s,m,e⟩ else 0)⟩
 |_=>none
def dInt:List AV→Option Spec
 |[.num .i64 n]=>some ⟨none,avD [0] (Dy.intD n)⟩
 |_=>none
def dNeg:List AV→Option Spec
 |[.agg [.bool s,.dig [1] m,.num .i64 e]]=>some ⟨none,.tup [avD [0] (Dy.okIf (Dy.mayD ⟨s,m,e⟩) (Dy.negD ⟨s,m,e⟩)).1,.num .i64 (Dy.okIf (Dy.mayD ⟨s,m,e⟩) (Dy.negD ⟨s,m,e⟩)).2]⟩
 |_=>none
def dAbs:List AV→Option Spec
 |[.agg [.bool s,.dig [1] m,.num .i64 e]]=>some ⟨none,.tup [avD [0] (Dy.okIf (Dy.mayD ⟨s,m,e⟩) (Dy.absD ⟨s,m,e⟩)).1,.num .i64 (Dy.okIf (Dy.mayD ⟨s,m,e⟩) (Dy.absD ⟨s,m,e⟩)).2]⟩
 |_=>none
def dSizes:List AV→Option Spec
 |[.agg [.bool s,.dig [1] m,.num .i64 e],.agg [.bool s',.dig [2] m',.num .i64 e']]=>
  some ⟨some (Dy.mayD ⟨s,m,e⟩=true∧Dy.mayD ⟨s',m',e'⟩=true∧(m=[] ↔ m'=[])),.num .i64 (Dy.cmpZ (Dy.val m*2^(e-min e e').toNat:Nat) (Dy.val m'*2^(e'-min e e').toNat:Nat))⟩
 |_=>none
def dCmp:List AV→Option Spec
 |[.agg [.bool s,.dig [1] m,.num .i64 e],.agg [.bool s',.dig [2] m',.num .i64 e']]=>
  some ⟨none,.tup [.num .i64 (if Dy.mayD ⟨s,m,e⟩&&Dy.mayD ⟨s',m',e'⟩ then Dy.cmpD ⟨s,m,e⟩ ⟨s',m',e'⟩ else 0),.num .i64 (if Dy.mayD ⟨s,m,e⟩&&Dy.mayD ⟨s',m',e'⟩ then 0 else 2)]⟩
 |_=>none
def dJoin:List AV→Option Spec
 |[.bool p,.dig [2] x,.bool q,.dig [4] y,.num .i64 e]=>some ⟨some (Dy.may x=true∧Dy.may y=true∧x≠[]∧y≠[]∧Dy.inside e=true),
   .tup [avD [0] (Dy.boundD (Dy.formZ (Dy.Dyd.int ⟨p,x,0⟩+Dy.Dyd.int ⟨q,y,0⟩) e)).1,.num .i64 (Dy.boundD (Dy.formZ (Dy.Dyd.int ⟨p,x,0⟩+Dy.Dyd.int ⟨q,y,0⟩) e)).2]⟩
 |_=>none
def dHalved:List AV→Option Spec
 |[.bool p,.dig [2] x,.dig [3] y,.num .i64 e]=>some ⟨some (Dy.may x=true∧Dy.may y=true∧Dy.inside e=true∧4096<(Dy.dg (Dy.val x+Dy.val y)).length),
   .tup [avD [0] (Dy.boundD (Dy.form p (Dy.val x+Dy.val y) e)).1,.num .i64 (Dy.boundD (Dy.form p (Dy.val x+Dy.val y) e)).2]⟩
 |_=>none
def dEdge:List AV→Option Spec
 |[.agg [.bool s,.dig [1] m,.num .i64 e],.agg [.bool s',.dig [2] m',.num .i64 e'],.num .i64 g]=>
  some ⟨some (Dy.mayD ⟨s,m,e⟩=true∧Dy.mayD ⟨s',m',e'⟩=true∧m≠[]∧m'≠[]∧g=e-e'∧1≤g∧g+Dy.bl (Dy.val m)=131073),
   .tup [avD [0] (Dy.boundD (Dy.addD ⟨s,m,e⟩ ⟨s',m',e'⟩)).1,.num .i64 (Dy.boundD (Dy.addD ⟨s,m,e⟩ ⟨s',m',e'⟩)).2]⟩
 |_=>none
def dAddL:List AV→Option Spec
 |[.agg [.bool s,.dig [1] m,.num .i64 e],.agg [.bool s',.dig [2] m',.num .i64 e']]=>
  some ⟨some (Dy.mayD ⟨s,m,e⟩=true∧Dy.mayD ⟨s',m',e'⟩=true),.tup [avD [0] (Dy.boundD (Dy.addD ⟨s,m,e⟩ ⟨s',m',e'⟩)).1,.num .i64 (Dy.boundD (Dy.addD ⟨s,m,e⟩ ⟨s',m',e'⟩)).2]⟩
 |_=>none
def dAdd:List AV→Option Spec
 |[.agg [.bool s,.dig [1] m,.num .i64 e],.agg [.bool s',.dig [2] m',.num .i64 e']]=>
  some ⟨none,.tup [avD [0] (Dy.boundIf (Dy.mayD ⟨s,m,e⟩&&Dy.mayD ⟨s',m',e'⟩) (Dy.addD ⟨s,m,e⟩ ⟨s',m',e'⟩)).1,.num .i64 (Dy.boundIf (Dy.mayD ⟨s,m,e⟩&&Dy.mayD ⟨s',m',e'⟩) (Dy.addD ⟨s,m,e⟩ ⟨s',m',e'⟩)).2]⟩
 |_=>none
def dSub:List AV→Option Spec
 |[.agg [.bool s,.dig [1] m,.num .i64 e],.agg [.bool s',.dig [2] m',.num .i64 e']]=>
  some ⟨none,.tup [avD [0] (Dy.boundIf (Dy.mayD ⟨s,m,e⟩&&Dy.mayD ⟨s',m',e'⟩) (Dy.addD ⟨s,m,e⟩ (Dy.negD ⟨s',m',e'⟩))).1,
   .num .i64 (Dy.boundIf (Dy.mayD ⟨s,m,e⟩&&Dy.mayD ⟨s',m',e'⟩) (Dy.addD ⟨s,m,e⟩ (Dy.negD ⟨s',m',e'⟩))).2]⟩
 |_=>none
def dMul:List AV→Option Spec
 |[.agg [.bool s,.dig [1] m,.num .i64 e],.agg [.bool s',.dig [2] m',.num .i64 e']]=>
  some ⟨none,.tup [avD [0] (Dy.boundIf (Dy.mayD ⟨s,m,e⟩&&Dy.mayD ⟨s',m',e'⟩) (Dy.mulD ⟨s,m,e⟩ ⟨s',m',e'⟩)).1,.num .i64 (Dy.boundIf (Dy.mayD ⟨s,m,e⟩&&Dy.mayD ⟨s',m',e'⟩) (Dy.mulD ⟨s,m,e⟩ ⟨s',m',e'⟩)).2]⟩
 |_=>none
def tab9:List (Nat×(List AV→Option Spec)):=(133,dInside)::tab8
def tab10:List (Nat×(List AV→Option Spec)):=(134,dOwn)::(69,dMay)::tab9
def tab11:List (Nat×(List AV→Option Spec)):=(148,dBoth)::(125,dMake)::(70,dSigned)::(25,dSign)::(152,dTop)::tab10
def tab12:List (Nat×(List AV→Option Spec)):=(150,dNeg)::(26,dAbs)::(203,dSizes)::(209,dHalved)::(187,dEdge)::(178,dMul)::tab11
def tab13:List (Nat×(List AV→Option Spec)):=(179,dCmp)::(188,dJoin)::tab12
def tab14:List (Nat×(List AV→Option Spec)):=(149,dAddL)::tab13
def tab15:List (Nat×(List AV→Option Spec)):=(77,dAdd)::(78,dSub)::tab14
end Go.AI

namespace Go.Dy
set_option maxRecDepth 100000
def sgn (s:Bool) (n:Nat):Int:=if s then -(n:Int) else n
theorem Dyd.int_eq (d:Dyd):d.int=sgn d.neg (val d.mag):=rfl
theorem int_mk (s:Bool) (m:List Nat) (e:Int):Dyd.int ⟨s,m,e⟩=sgn s (val m):=rfl
theorem may_dgn {n:Nat}:may (dg n)=true ↔ (dg n).length≤4096:=by
 rw [may_iff,val_dg];exact ⟨fun h=>h.1,fun h=>⟨h,rfl⟩⟩
theorem mayD_iff {s:Bool} {m:List Nat} {e:Int}:mayD ⟨s,m,e⟩=true ↔ may m=true∧((m=[]∧s=false∧e=0)∨(m≠[]∧val m%2=1∧inside e=true)):=by
 unfold mayD
 simp only [Bool.and_eq_true]
 by_cases h:m=[]
 ·simp [h]
 ·simp [h]
theorem inside_iff {e:Int}:inside e=true ↔ -16777216≤e∧e≤16777216:=by simp [inside]
theorem mayD_may {s:Bool} {m:List Nat} {e:Int} (h:mayD ⟨s,m,e⟩=true):may m=true:=(mayD_iff.1 h).1
theorem mayD_exp {s:Bool} {m:List Nat} {e:Int} (h:mayD ⟨s,m,e⟩=true): -16777216≤e∧e≤16777216:=by
 rcases (mayD_iff.1 h).2 with ⟨_,_,h⟩|⟨_,_,h⟩
 ·omega
 ·exact inside_iff.1 h
theorem mayD_odd {s:Bool} {m:List Nat} {e:Int} (h:mayD ⟨s,m,e⟩=true) (hm:m≠[]):val m%2=1:=by
 rcases (mayD_iff.1 h).2 with ⟨h,_⟩|⟨_,h,_⟩
 ·exact absurd h hm
 ·exact h
theorem mayD_nil {s:Bool} {e:Int} (h:mayD ⟨s,[],e⟩=true):s=false∧e=0:=by
 rcases (mayD_iff.1 h).2 with ⟨_,h⟩|⟨h,_⟩
 ·exact h
 ·exact absurd rfl h
theorem mayD_zero:mayD zeroD=true:=by decide
theorem may_bl {m:List Nat} (h:may m=true):bl (val m)≤131072:=by
 have:=(length_dg_bl (n:=val m) (k:=4096)).1 (by rw [may_dg h];exact may_len h)
 omega
theorem len_bl {n:Nat}:(dg n).length≤4096 ↔ bl n≤131072:=length_dg_bl (k:=4096)
theorem form_zero (s:Bool) (e:Int):form s 0 e=zeroD:=rfl
theorem form_pos {s:Bool} {n:Nat} {e:Int} (h:n≠0):form s n e=⟨s,dg (n/2^tz n),e+tz n⟩:=by rw [form,if_neg h]
theorem form_odd {s:Bool} {n:Nat} {e:Int} (h:n%2=1):form s n e=⟨s,dg n,e⟩:=by
 rw [form_pos (by omega),tz_odd h,Nat.pow_zero,Nat.div_one]
 simp
theorem form_mul (s:Bool) (n k:Nat) (e:Int):form s (n*2^k) e=form s n (e+k):=by
 by_cases h:n=0
 ·rw [h,Nat.zero_mul,form_zero,form_zero]
 ·have h2:n*2^k≠0:=Nat.mul_ne_zero h (Nat.pos_iff_ne_zero.1 (Nat.two_pow_pos k))
  rw [form_pos h2,form_pos h,tz_mul_two_pow h,Nat.pow_add,Nat.mul_div_mul_right _ _ (Nat.two_pow_pos k)]
  rw [show e+((tz n+k:Nat):Int)=e+(k:Int)+(tz n:Int) by omega]
theorem form_two (s:Bool) (n:Nat) (e:Int):form s (2*n) e=form s n (e+1):=by
 have:=form_mul s n 1 e
 rw [Nat.pow_one,Nat.mul_comm] at this
 exact this
theorem form_self {s:Bool} {m:List Nat} {e:Int} (h:mayD ⟨s,m,e⟩=true):form s (val m) e=⟨s,m,e⟩:=by
 by_cases hm:m=[]
 ·subst hm
  obtain ⟨rfl,rfl⟩:=mayD_nil h
  rfl
 ·rw [form_odd (mayD_odd h hm),may_dg (mayD_may h)]
theorem formZ_sgn (s:Bool) (n:Nat) (e:Int):formZ (sgn s n) e=form s n e:=by
 unfold formZ sgn
 by_cases h:n=0
 ·subst h
  cases s<;>rfl
 ·cases s
  ·simp only [Bool.false_eq_true,if_false,Int.natAbs_natCast]
   rw [decide_eq_false (by omega)]
  ·simp only [if_true,Int.natAbs_neg,Int.natAbs_natCast]
   rw [decide_eq_true (by omega)]
theorem formZ_zero (e:Int):formZ 0 e=zeroD:=rfl
theorem sgn_mul (s:Bool) (n k:Nat):sgn s n*(k:Int)=sgn s (n*k):=by
 unfold sgn
 cases s
 ·simp
 ·simp only [if_true,Int.neg_mul,Int.natCast_mul]
theorem sgn_natAbs (z:Int):z=sgn (decide (z<0)) z.natAbs:=by
 unfold sgn
 by_cases h:z<0
 ·simp only [h,decide_true,if_true];omega
 ·simp only [h,decide_false,Bool.false_eq_true,if_false];omega
theorem formZ_mul (z:Int) (k:Nat) (e:Int):formZ (z*2^k) e=formZ z (e+k):=by
 rw [sgn_natAbs z,show ((2:Int)^k)=((2^k:Nat):Int) by simp,sgn_mul,formZ_sgn,formZ_sgn,form_mul]
theorem formZ_self {s:Bool} {m:List Nat} {e:Int} (h:mayD ⟨s,m,e⟩=true):formZ (Dyd.int ⟨s,m,e⟩) e=⟨s,m,e⟩:=by
 rw [int_mk,formZ_sgn,form_self h]
theorem boundD_self {d:Dyd} (h:mayD d=true):boundD d=(d,0):=by
 obtain ⟨s,m,e⟩:=d
 unfold boundD
 rw [if_pos (may_len (mayD_may h)),if_pos (by rw [inside_iff];exact mayD_exp h)]
theorem at_mk (s:Bool) (m:List Nat) (e u:Int):at_ ⟨s,m,e⟩ u=sgn s (val m*2^(e-u).toNat):=by
 unfold at_
 rw [int_mk]
 simp only
 rw [show ((2:Int)^(e-u).toNat)=((2^(e-u).toNat:Nat):Int) by simp,sgn_mul]
theorem unit_comm (a b:Dyd):unit a b=unit b a:=by unfold unit;omega
theorem addD_comm (a b:Dyd):addD a b=addD b a:=by
 unfold addD
 rw [unit_comm a b,Int.add_comm]
theorem addD_nil {a:Dyd} {s:Bool} {e:Int} (ha:mayD a=true) (h:mayD ⟨s,[],e⟩=true):addD a ⟨s,[],e⟩=a:=by
 obtain ⟨rfl,rfl⟩:=mayD_nil h
 obtain ⟨s,m,e⟩:=a
 unfold addD
 have h0:at_ ⟨false,[],0⟩ (unit ⟨s,m,e⟩ ⟨false,[],0⟩)=0:=by rw [at_mk];simp [val,sgn]
 rw [h0,Int.add_zero]
 unfold at_
 rw [formZ_mul]
 simp only [unit]
 rw [show (min e 0+((e-min e 0).toNat:Int))=e by omega]
 exact formZ_self ha
theorem addD_gap {s s':Bool} {m m':List Nat} {e e':Int} (h:e'≤e):addD ⟨s,m,e⟩ ⟨s',m',e'⟩=formZ (sgn s (val m*2^(e-e').toNat)+sgn s' (val m')) e':=by
 unfold addD
 rw [at_mk,at_mk]
 simp only [unit]
 rw [show min e e'=e' by omega,show (e'-e').toNat=0 by omega,Nat.pow_zero,Nat.mul_one]
theorem boundD_long {s:Bool} {n:Nat} {e:Int} (ho:n%2=1) (h:131072<bl n):boundD (form s n e)=(zeroD,3):=by
 rw [form_odd ho,boundD,if_neg]
 intro c
 have:=len_bl.1 c
 omega
theorem makeD_dg {s:Bool} {n:Nat} {e:Int} (h:bl n≤131072):makeD s (dg n) e=boundD (form s n e):=by
 unfold makeD
 rw [if_pos (may_dgn.2 (len_bl.2 h)),val_dg]
theorem addR_dg {a b:List Nat} (ha:may a=true) (hb:may b=true):addR a b=(if bl (val a+val b)≤131072 then dg (val a+val b) else [],if bl (val a+val b)≤131072 then 0 else 3):=by
 unfold addR
 rw [ha,hb,Bool.and_self,bound_eq]
 simp only [len_bl]
theorem mulR_dg {a b:List Nat} (ha:may a=true) (hb:may b=true):mulR a b=(if bl (val a*val b)≤131072 then dg (val a*val b) else [],if bl (val a*val b)≤131072 then 0 else 3):=by
 unfold mulR
 rw [ha,hb,Bool.and_self,bound_eq]
 simp only [len_bl]
theorem subR_dg {a b:List Nat} (ha:may a=true) (hb:may b=true):subR a b=(if val a<val b then ([],10) else (dg (val a-val b),0)):=by
 unfold subR subN
 rw [ha,hb]
 rfl
theorem shiftN_neg {a:List Nat} (h:may a=true) (n:Nat):(shiftN a (-(n:Int))).mag=dg (val a/2^n):=by
 unfold shiftN
 rw [if_pos h]
 by_cases c:val a=0
 ·rw [if_pos c,c,Nat.zero_div,dg_zero]
 ·rw [if_neg c]
  by_cases c1: -(n:Int)<0
  ·rw [if_pos c1,show (- -(n:Int)).toNat=n by omega]
  ·have:n=0:=by omega
   subst this
   rw [if_neg c1,if_neg]
   ·simp
   ·have:=may_bl h;omega
theorem shiftN_up {a:List Nat} (h:may a=true) (n:Nat) (hn:bl (val a)+n≤131072):(shiftN a (n:Int)).mag=dg (val a*2^n):=by
 unfold shiftN
 rw [if_pos h]
 by_cases c:val a=0
 ·rw [if_pos c,c,Nat.zero_mul,dg_zero]
 ·rw [if_neg c,if_neg (by omega),if_neg (by omega),Int.toNat_natCast]
theorem bl_lt {a b:Nat} (h:bl a<bl b):a<b:=by
 rcases Nat.lt_or_ge a b with c|c
 ·exact c
 ·have:=bl_mono c;omega
theorem val_ne {m:List Nat} (h:may m=true) (hm:m≠[]):val m≠0:=fun e=>hm ((may_nil h).1 e)
theorem odd_pow_add {a b k:Nat} (hk:1≤k) (hb:b%2=1):(a*2^k+b)%2=1:=by
 obtain ⟨k,rfl⟩:∃j,k=j+1:=⟨k-1,by omega⟩
 rw [Nat.pow_succ,←Nat.mul_assoc]
 omega
theorem odd_pow_sub {a b k:Nat} (hk:1≤k) (hb:b%2=1) (h:b≤a*2^k):(a*2^k-b)%2=1:=by
 obtain ⟨k,rfl⟩:∃j,k=j+1:=⟨k-1,by omega⟩
 rw [Nat.pow_succ,←Nat.mul_assoc] at h ⊢
 omega
theorem odd_mul {a b:Nat} (ha:a%2=1) (hb:b%2=1):a*b%2=1:=by rw [Nat.mul_mod,ha,hb]
theorem sgn_add_same (s:Bool) (a b:Nat):sgn s a+sgn s b=sgn s (a+b):=by
 unfold sgn;cases s
 ·simp
 ·simp only [if_true];omega
theorem sgn_sub {s s':Bool} (h:s≠s') {a b:Nat} (hab:b≤a):sgn s a+sgn s' b=sgn s (a-b):=by
 unfold sgn;cases s<;>cases s'<;>simp at h ⊢ <;>omega
theorem sgn_sub' {s s':Bool} (h:s≠s') {a b:Nat} (hab:a≤b):sgn s a+sgn s' b=sgn s' (b-a):=by
 rw [Int.add_comm];exact sgn_sub (Ne.symm h) hab
theorem far_aux {A B K:Nat} (h1:K+1<bl A) (h2:bl B≤K):K<bl (A+B)∧K<bl (A-B)∧B≤A:=by
 have hlt:B<2^K:=bl_le.1 h2
 have hge:2^(K+1)≤A:=lt_bl.1 h1
 have hp:2^(K+1)=2^K*2:=Nat.pow_succ ..
 refine ⟨lt_bl.2 ?_,lt_bl.2 ?_,?_⟩<;>omega
theorem far_long {s s':Bool} {m m':List Nat} {e e':Int} (h:mayD ⟨s,m,e⟩=true) (h':mayD ⟨s',m',e'⟩=true) (hm:m≠[]) (hm':m'≠[]) (hg:131073<e-e'+bl (val m)):
  boundD (addD ⟨s,m,e⟩ ⟨s',m',e'⟩)=(zeroD,3):=by
 have b1:=may_bl (mayD_may h)
 have b2:=may_bl (mayD_may h')
 obtain ⟨g,hgg⟩:∃g:Nat,e-e'=g:=⟨(e-e').toNat,by omega⟩
 rw [addD_gap (by omega),hgg,Int.toNat_natCast]
 have o:=mayD_odd h' hm'
 have hv:=val_ne (mayD_may h) hm
 have hA:=bl_mul_two_pow hv g
 obtain ⟨k1,k2,k3⟩:=far_aux (A:=val m*2^g) (K:=131072) (by omega) b2
 by_cases c:s=s'
 ·subst c
  rw [sgn_add_same,formZ_sgn]
  exact boundD_long (odd_pow_add (by omega) o) k1
 ·rw [sgn_sub c k3,formZ_sgn]
  exact boundD_long (odd_pow_sub (by omega) o k3) k2
theorem cmpZ_neg (a b:Nat):cmpZ (-(a:Int)) (-(b:Int))= -cmpZ a b:=by
 unfold cmpZ
 split<;>split<;>first|omega|(split<;>omega)
end Go.Dy

namespace Go.AI
open Dy IntKind
open Go Go.RowKit Go.Proofs
set_option linter.unusedVariables false
set_option maxRecDepth 100000
set_option maxHeartbeats 0
theorem vc_dyad_inside (e:Int) (Q:AV→Prop):(evF Tryz.prog (look tab8) (lam []) false Tryz.f133 [.num .i64 e] Q)=(bif decide (-16777216≤e) then Q (.bool (decide (e≤16777216))) else Q (.bool false)):=by kernel_rfl
theorem vc_dyad_May (s:Bool) (m:List Nat) (e:Int) (Q:AV→Prop):(evF Tryz.prog (look tab9) (lam []) false Tryz.f69 [.agg [.bool s,.dig [1] m,.num .i64 e]] Q)=(bif !may m then Q (.bool false) else bif decide ((↑m.length:Int)=(0:Int)) then bif !s then Q (.bool (decide (e=(0:Int)))) else Q (.bool false) else ((0:Int)≤(0:Int)∧(0:Int)<(↑m.length:Int))∧bif decide (u32.wrap (↑(BitVec.ofInt (32:Nat) (↑(m.getD (0:Nat) (0:Nat)):Int)&&&BitVec.ofInt (32:Nat) (1:Int)).toNat:Int)=(1:Int)) then Q (.bool (inside e)) else Q (.bool false)):=by kernel_rfl
theorem vc_dyad_own (s:Bool) (m:List Nat) (e:Int) (Q:AV→Prop):(evF Tryz.prog (look tab9) (lam []) false Tryz.f134 [.agg [.bool s,.dig [1] m,.num .i64 e]] Q)=(m.length≤1099511627776∧Q (.agg [.bool s,.dig [0] m,.num .i64 e])):=by kernel_rfl
theorem vc_dyad_both (s:Bool) (s':Bool) (m:List Nat) (m':List Nat) (e:Int) (e':Int) (Q:AV→Prop):(evF Tryz.prog (look tab10) (lam [((2:Nat),LoopAnn.unroll (3:Nat))]) false Tryz.f148 [.vec [1] (3:Nat) [.agg [.bool s,.dig [1] m,.num .i64 e],.agg [.bool s',.dig [1] m',.num .i64 e']]] Q)=(((0:Int)≤(0:Int)∧(0:Int)<(↑[AV.agg [AV.bool s,AV.dig [(1:Nat)] m,AV.num i64 e],AV.agg [AV.bool s',AV.dig [(1:Nat)] m',AV.num i64 e']].length:Int))∧bif !mayD (Dyd.mk s m e) then Q (.bool false) else ((0:Int)≤i64.wrap ((0:Int)+(1:Int))∧i64.wrap ((0:Int)+(1:Int))<(↑[AV.agg [AV.bool s,AV.dig [(1:Nat)] m,AV.num i64 e],AV.agg [AV.bool s',AV.dig [(1:Nat)] m',AV.num i64 e']].length:Int))∧bif !mayD (Dyd.mk s' m' e') then Q (.bool false) else Q (.bool true)):=by kernel_rfl
theorem vc_dyad_Make (s:Bool) (m:List Nat) (e:Int) (Q:AV→Prop):(evF Tryz.prog (look tab10) (lam []) false Tryz.f125 [.bool s,.dig [2] m,.num .i64 e] Q)=(bif !may m then Q (.tup [.agg [.bool false,.dig [0] [],.num .i64 0],.num .i64 2]) else bif decide ((↑m.length:Int)=(0:Int)) then Q (.tup [.agg [.bool false,.dig [0] [],.num .i64 0],.num .i64 0]) else bif decide (e>i64.wrap ((16777216:Int)-(↑(lowN m):Int))) then Q (.tup [.agg [.bool false,.dig [0] [],.num .i64 0],.num .i64 20]) else bif decide (e<i64.wrap ((-16777216:Int)-(↑(lowN m):Int))) then Q (.tup [.agg [.bool false,.dig [0] [],.num .i64 0],.num .i64 20]) else∀(l1:List Nat),l1=(shiftN m (i64.wrap ((0:Int)-(↑(lowN m):Int)))).mag→∀(b2:Bool),b2=(shiftN m (i64.wrap ((0:Int)-(↑(lowN m):Int)))).lost→∀(n3:Int),n3=(shiftN m (i64.wrap ((0:Int)-(↑(lowN m):Int)))).err→Q (.tup [.agg [.bool s,.dig [0] l1,.num .i64 (i64.wrap (e+(↑(lowN m):Int)))],.num .i64 0])):=by kernel_rfl
theorem vc_dyad_signed (s:Bool) (n:Bool) (m:List Nat) (e:Int) (Q:AV→Prop):(evF Tryz.prog (look tab10) (lam []) false Tryz.f70 [.agg [.bool s,.dig [1] m,.num .i64 e],.bool n] Q)=(m.length≤1048576∧∀(b1:Bool),b1=s→∀(l2:List Nat),l2=m→∀(n3:Int),n3=e→bif n then Q (.agg [.bool (decide ((↑l2.length:Int)>(0:Int))),.dig [0] l2,.num .i64 n3]) else Q (.agg [.bool false,.dig [0] l2,.num .i64 n3])):=by kernel_rfl
theorem vc_dyad_Sign (s:Bool) (m:List Nat) (e:Int) (Q:AV→Prop):(evF Tryz.prog (look tab10) (lam []) false Tryz.f25 [.agg [.bool s,.dig [1] m,.num .i64 e]] Q)=(bif !mayD (Dyd.mk s m e) then Q (.num .i64 0) else bif decide ((↑m.length:Int)=(0:Int)) then Q (.num .i64 0) else bif s then Q (.num .i64 (-1)) else Q (.num .i64 1)):=by kernel_rfl
theorem vc_dyad_Top (s:Bool) (m:List Nat) (e:Int) (Q:AV→Prop):(evF Tryz.prog (look tab10) (lam []) false Tryz.f152 [.agg [.bool s,.dig [1] m,.num .i64 e]] Q)=(bif !mayD (Dyd.mk s m e) then Q (.num .i64 0) else bif decide ((↑m.length:Int)=(0:Int)) then Q (.num .i64 0) else Q (.num .i64 (i64.wrap (e+(↑(lenN m):Int))))):=by kernel_rfl
theorem vc_dyad_Neg (s:Bool) (m:List Nat) (e:Int) (Q:AV→Prop):(evF Tryz.prog (look tab11) (lam []) false Tryz.f150 [.agg [.bool s,.dig [1] m,.num .i64 e]] Q)=(bif !mayD (Dyd.mk s m e) then Q (.tup [.agg [.bool false,.dig [0] [],.num .i64 0],.num .i64 2]) else m.length≤1048576∧∀(b1:Bool),b1=(!s&&decide (m≠[]))→∀(l2:List Nat),l2=m→∀(n3:Int),n3=e→Q (.tup [.agg [.bool b1,.dig [0] l2,.num .i64 n3],.num .i64 0])):=by kernel_rfl
theorem vc_dyad_Abs (s:Bool) (m:List Nat) (e:Int) (Q:AV→Prop):(evF Tryz.prog (look tab11) (lam []) false Tryz.f26 [.agg [.bool s,.dig [1] m,.num .i64 e]] Q)=(bif !mayD (Dyd.mk s m e) then Q (.tup [.agg [.bool false,.dig [0] [],.num .i64 0],.num .i64 2]) else m.length≤1048576∧∀(b1:Bool),b1=(false&&decide (m≠[]))→∀(l2:List Nat),l2=m→∀(n3:Int),n3=e→Q (.tup [.agg [.bool b1,.dig [0] l2,.num .i64 n3],.num .i64 0])):=by kernel_rfl
theorem vc_dyad_sizes (s:Bool) (s':Bool) (m:List Nat) (m':List Nat) (e:Int) (e':Int) (Q:AV→Prop):(evF Tryz.prog (look tab11) (lam []) false Tryz.f203 [.agg [.bool s,.dig [1] m,.num .i64 e],.agg [.bool s',.dig [2] m',.num .i64 e']] Q)=(bif decide ((if mayD (Dyd.mk s m e)=true then topD (Dyd.mk s m e) else (0:Int))<if mayD (Dyd.mk s' m' e')=true then topD (Dyd.mk s' m' e') else (0:Int)) then Q (.num .i64 (-1)) else bif decide ((if mayD (Dyd.mk s m e)=true then topD (Dyd.mk s m e) else (0:Int))>if mayD (Dyd.mk s' m' e')=true then topD (Dyd.mk s' m' e') else (0:Int)) then Q (.num .i64 1) else bif decide (i64.wrap ((↑(lenN m):Int)-(↑(lenN m'):Int))>(0:Int)) then∀(l1:List Nat),l1=(shiftN m' (i64.wrap ((↑(lenN m):Int)-(↑(lenN m'):Int)))).mag→∀(b2:Bool),b2=(shiftN m' (i64.wrap ((↑(lenN m):Int)-(↑(lenN m'):Int)))).lost→∀(n3:Int),n3=(shiftN m' (i64.wrap ((↑(lenN m):Int)-(↑(lenN m'):Int)))).err→∀(n4:Int),n4=(cmpR m l1).fst→∀(n5:Int),n5=(cmpR m l1).snd→Q (.num .i64 n4) else∀(l6:List Nat),l6=(shiftN m (i64.wrap ((0:Int)-i64.wrap ((↑(lenN m):Int)-(↑(lenN m'):Int))))).mag→∀(b7:Bool),b7=(shiftN m (i64.wrap ((0:Int)-i64.wrap ((↑(lenN m):Int)-(↑(lenN m'):Int))))).lost→∀(n8:Int),n8=(shiftN m (i64.wrap ((0:Int)-i64.wrap ((↑(lenN m):Int)-(↑(lenN m'):Int))))).err→∀(n9:Int),n9=(cmpR l6 m').fst→∀(n10:Int),n10=(cmpR l6 m').snd→Q (.num .i64 n9)):=by kernel_rfl
theorem vc_dyad_Cmp (s:Bool) (s':Bool) (m:List Nat) (m':List Nat) (e:Int) (e':Int) (Q:AV→Prop):(evF Tryz.prog (look tab12) (lam []) false Tryz.f179 [.agg [.bool s,.dig [1] m,.num .i64 e],.agg [.bool s',.dig [2] m',.num .i64 e']] Q)=(bif !(mayD (Dyd.mk s m e)&&mayD (Dyd.mk s' m' e')) then Q (.tup [.num .i64 0,.num .i64 2]) else bif decide ((if mayD (Dyd.mk s m e)=true then signD (Dyd.mk s m e) else (0:Int))<if mayD (Dyd.mk s' m' e')=true then signD (Dyd.mk s' m' e') else (0:Int)) then Q (.tup [.num .i64 (-1),.num .i64 0]) else bif decide ((if mayD (Dyd.mk s m e)=true then signD (Dyd.mk s m e) else (0:Int))>if mayD (Dyd.mk s' m' e')=true then signD (Dyd.mk s' m' e') else (0:Int)) then Q (.tup [.num .i64 1,.num .i64 0]) else (mayD (Dyd.mk s m e)=true∧mayD (Dyd.mk s' m' e')=true∧(m=[] ↔ m'=[]))∧Q (.tup [.num .i64 (i64.wrap ((if mayD (Dyd.mk s m e)=true then signD (Dyd.mk s m e) else (0:Int))*cmpZ (↑(val m*(2:Nat)^(e-min e e').toNat):Int) (↑(val m'*(2:Nat)^(e'-min e e').toNat):Int))),.num .i64 0])):=by kernel_rfl
theorem vc_dyad_halved (p:Bool) (x:List Nat) (y:List Nat) (e:Int) (Q:AV→Prop):(evF Tryz.prog (look tab11) (lam []) false Tryz.f209 [.bool p,.dig [2] x,.dig [3] y,.num .i64 e] Q)=(((0:Int)≤(0:Int)∧(0:Int)<(↑x.length:Int))∧((0:Int)≤(0:Int)∧(0:Int)<(↑y.length:Int))∧bif !decide (u32.wrap (↑(BitVec.ofInt (32:Nat) (↑(x.getD (0:Nat) (0:Nat)):Int)&&&BitVec.ofInt (32:Nat) (1:Int)).toNat:Int)=u32.wrap (↑(BitVec.ofInt (32:Nat) (↑(y.getD (0:Nat) (0:Nat)):Int)&&&BitVec.ofInt (32:Nat) (1:Int)).toNat:Int)) then Q (.tup [.agg [.bool false,.dig [0] [],.num .i64 0],.num .i64 3]) else∀(l1:List Nat),l1=(shiftN x (-1:Int)).mag→∀(b2:Bool),b2=(shiftN x (-1:Int)).lost→∀(n3:Int),n3=(shiftN x (-1:Int)).err→∀(l4:List Nat),l4=(shiftN y (-1:Int)).mag→∀(b5:Bool),b5=(shiftN y (-1:Int)).lost→∀(n6:Int),n6=(shiftN y (-1:Int)).err→∀(l7:List Nat),l7=(addR l1 l4).fst→∀(n8:Int),n8=(addR l1 l4).snd→((0:Int)≤(0:Int)∧(0:Int)<(↑x.length:Int))∧bif decide (u32.wrap (↑(BitVec.ofInt (32:Nat) (↑(x.getD (0:Nat) (0:Nat)):Int)&&&BitVec.ofInt (32:Nat) (1:Int)).toNat:Int)=(1:Int)) then∀(l9:List Nat),l9=(addR l7 (dg (1:Nat))).fst→∀(n10:Int),n10=(addR l7 (dg (1:Nat))).snd→∀(b11:Bool),b11=(makeD p l9 (i64.wrap (e+(1:Int)))).1.neg→∀(l12:List Nat),l12=(makeD p l9 (i64.wrap (e+(1:Int)))).1.mag→∀(n13:Int),n13=(makeD p l9 (i64.wrap (e+(1:Int)))).1.exp→∀(n14:Int),n14=(makeD p l9 (i64.wrap (e+(1:Int)))).snd→Q (.tup [.agg [.bool b11,.dig [0] l12,.num .i64 n13],.num .i64 n14]) else∀(b15:Bool),b15=(makeD p l7 (i64.wrap (e+(1:Int)))).1.neg→∀(l16:List Nat),l16=(makeD p l7 (i64.wrap (e+(1:Int)))).1.mag→∀(n17:Int),n17=(makeD p l7 (i64.wrap (e+(1:Int)))).1.exp→∀(n18:Int),n18=(makeD p l7 (i64.wrap (e+(1:Int)))).snd→Q (.tup [.agg [.bool b15,.dig [0] l16,.num .i64 n17],.num .i64 n18])):=by kernel_rfl
theorem vc_dyad_join (p:Bool) (q:Bool) (x:List Nat) (y:List Nat) (e:Int) (Q:AV→Prop):(evF Tryz.prog (look tab12) (lam []) false Tryz.f188 [.bool p,.dig [2] x,.bool q,.dig [4] y,.num .i64 e] Q)=(bif decide (p=q) then∀(l1:List Nat),l1=(addR x y).fst→∀(n2:Int),n2=(addR x y).snd→bif !decide (n2=(0:Int)) then (may x=true∧may y=true∧inside e=true∧(4096:Nat)<(dg (val x+val y)).length)∧∀(b3:Bool),b3=(boundD (form p (val x+val y) e)).1.neg→∀(l4:List Nat),l4=(boundD (form p (val x+val y) e)).1.mag→∀(n5:Int),n5=(boundD (form p (val x+val y) e)).1.exp→∀(n6:Int),n6=(boundD (form p (val x+val y) e)).snd→Q (.tup [.agg [.bool b3,.dig [0] l4,.num .i64 n5],.num .i64 n6]) else∀(b7:Bool),b7=(makeD p l1 e).1.neg→∀(l8:List Nat),l8=(makeD p l1 e).1.mag→∀(n9:Int),n9=(makeD p l1 e).1.exp→∀(n10:Int),n10=(makeD p l1 e).snd→Q (.tup [.agg [.bool b7,.dig [0] l8,.num .i64 n9],.num .i64 n10]) else∀(n11:Int),n11=(cmpR x y).fst→∀(n12:Int),n12=(cmpR x y).snd→bif decide (n11<0) then∀(l13:List Nat),l13=(subR y x).fst→∀(n14:Int),n14=(subR y x).snd→∀(b15:Bool),b15=(makeD q l13 e).1.neg→∀(l16:List Nat),l16=(makeD q l13 e).1.mag→∀(n17:Int),n17=(makeD q l13 e).1.exp→∀(n18:Int),n18=(makeD q l13 e).snd→Q (.tup [.agg [.bool b15,.dig [0] l16,.num .i64 n17],.num .i64 n18]) else∀(l19:List Nat),l19=(subR x y).fst→∀(n20:Int),n20=(subR x y).snd→∀(b21:Bool),b21=(makeD p l19 e).1.neg→∀(l22:List Nat),l22=(makeD p l19 e).1.mag→∀(n23:Int),n23=(makeD p l19 e).1.exp→∀(n24:Int),n24=(makeD p l19 e).snd→Q (.tup [.agg [.bool b21,.dig [0] l22,.num .i64 n23],.num .i64 n24])):=by kernel_rfl
theorem vc_dyad_add (s:Bool) (s':Bool) (m:List Nat) (m':List Nat) (e:Int) (e':Int) (Q:AV→Prop):(evF Tryz.prog (look tab13) (lam []) false Tryz.f149 [.agg [.bool s,.dig [1] m,.num .i64 e],.agg [.bool s',.dig [2] m',.num .i64 e']] Q)=(bif decide ((↑m.length:Int)=(0:Int)) then m'.length≤1048576∧∀(b1:Bool),b1=s'→∀(l2:List Nat),l2=m'→∀(n3:Int),n3=e'→Q (.tup [.agg [.bool b1,.dig [0] l2,.num .i64 n3],.num .i64 0]) else bif decide ((↑m'.length:Int)=(0:Int)) then m.length≤1048576∧∀(b4:Bool),b4=s→∀(l5:List Nat),l5=m→∀(n6:Int),n6=e→Q (.tup [.agg [.bool b4,.dig [0] l5,.num .i64 n6],.num .i64 0]) else bif decide (e<e') then bif decide (i64.wrap (i64.wrap (e'-e)+(↑(lenN m'):Int))>(131073:Int)) then Q (.tup [.agg [.bool false,.dig [0] [],.num .i64 0],.num .i64 3]) else bif decide (i64.wrap (i64.wrap (e'-e)+(↑(lenN m'):Int))>(131072:Int)) then (mayD (Dyd.mk s' m' e')=true∧mayD (Dyd.mk s m e)=true∧m'≠[]∧m≠[]∧i64.wrap (e'-e)=e'-e∧(1:Int)≤i64.wrap (e'-e)∧i64.wrap (e'-e)+(↑(bl (val m')):Int)=(131073:Int))∧∀(b7:Bool),b7=(boundD (addD (Dyd.mk s' m' e') (Dyd.mk s m e))).1.neg→∀(l8:List Nat),l8=(boundD (addD (Dyd.mk s' m' e') (Dyd.mk s m e))).1.mag→∀(n9:Int),n9=(boundD (addD (Dyd.mk s' m' e') (Dyd.mk s m e))).1.exp→∀(n10:Int),n10=(boundD (addD (Dyd.mk s' m' e') (Dyd.mk s m e))).snd→Q (.tup [.agg [.bool b7,.dig [0] l8,.num .i64 n9],.num .i64 n10]) else∀(l11:List Nat),l11=(shiftN m' (i64.wrap (e'-e))).mag→∀(b12:Bool),b12=(shiftN m' (i64.wrap (e'-e))).lost→∀(n13:Int),n13=(shiftN m' (i64.wrap (e'-e))).err→(may l11=true∧may m=true∧l11≠[]∧m≠[]∧inside e=true)∧∀(b14:Bool),b14=(boundD (formZ ((Dyd.mk s' l11 (0:Int)).int+(Dyd.mk s m (0:Int)).int) e)).1.neg→∀(l15:List Nat),l15=(boundD (formZ ((Dyd.mk s' l11 (0:Int)).int+(Dyd.mk s m (0:Int)).int) e)).1.mag→∀(n16:Int),n16=(boundD (formZ ((Dyd.mk s' l11 (0:Int)).int+(Dyd.mk s m (0:Int)).int) e)).1.exp→∀(n17:Int),n17=(boundD (formZ ((Dyd.mk s' l11 (0:Int)).int+(Dyd.mk s m (0:Int)).int) e)).snd→Q (.tup [.agg [.bool b14,.dig [0] l15,.num .i64 n16],.num .i64 n17]) else bif decide (i64.wrap (i64.wrap (e-e')+(↑(lenN m):Int))>(131073:Int)) then Q (.tup [.agg [.bool false,.dig [0] [],.num .i64 0],.num .i64 3]) else bif decide (i64.wrap (i64.wrap (e-e')+(↑(lenN m):Int))>(131072:Int)) then (mayD (Dyd.mk s m e)=true∧mayD (Dyd.mk s' m' e')=true∧m≠[]∧m'≠[]∧i64.wrap (e-e')=e-e'∧(1:Int)≤i64.wrap (e-e')∧i64.wrap (e-e')+(↑(bl (val m)):Int)=(131073:Int))∧∀(b18:Bool),b18=(boundD (addD (Dyd.mk s m e) (Dyd.mk s' m' e'))).1.neg→∀(l19:List Nat),l19=(boundD (addD (Dyd.mk s m e) (Dyd.mk s' m' e'))).1.mag→∀(n20:Int),n20=(boundD (addD (Dyd.mk s m e) (Dyd.mk s' m' e'))).1.exp→∀(n21:Int),n21=(boundD (addD (Dyd.mk s m e) (Dyd.mk s' m' e'))).snd→Q (.tup [.agg [.bool b18,.dig [0] l19,.num .i64 n20],.num .i64 n21]) else∀(l22:List Nat),l22=(shiftN m (i64.wrap (e-e'))).mag→∀(b23:Bool),b23=(shiftN m (i64.wrap (e-e'))).lost→∀(n24:Int),n24=(shiftN m (i64.wrap (e-e'))).err→(may l22=true∧may m'=true∧l22≠[]∧m'≠[]∧inside e'=true)∧∀(b25:Bool),b25=(boundD (formZ ((Dyd.mk s l22 (0:Int)).int+(Dyd.mk s' m' (0:Int)).int) e')).1.neg→∀(l26:List Nat),l26=(boundD (formZ ((Dyd.mk s l22 (0:Int)).int+(Dyd.mk s' m' (0:Int)).int) e')).1.mag→∀(n27:Int),n27=(boundD (formZ ((Dyd.mk s l22 (0:Int)).int+(Dyd.mk s' m' (0:Int)).int) e')).1.exp→∀(n28:Int),n28=(boundD (formZ ((Dyd.mk s l22 (0:Int)).int+(Dyd.mk s' m' (0:Int)).int) e')).snd→Q (.tup [.agg [.bool b25,.dig [0] l26,.num .i64 n27],.num .i64 n28])):=by kernel_rfl
theorem vc_dyad_Add (s:Bool) (s':Bool) (m:List Nat) (m':List Nat) (e:Int) (e':Int) (Q:AV→Prop):(evF Tryz.prog (look tab14) (lam []) false Tryz.f77 [.agg [.bool s,.dig [1] m,.num .i64 e],.agg [.bool s',.dig [2] m',.num .i64 e']] Q)=(bif !(mayD (Dyd.mk s m e)&&mayD (Dyd.mk s' m' e')) then Q (.tup [.agg [.bool false,.dig [0] [],.num .i64 0],.num .i64 2]) else (mayD (Dyd.mk s m e)=true∧mayD (Dyd.mk s' m' e')=true)∧∀(b1:Bool),b1=(boundD (addD (Dyd.mk s m e) (Dyd.mk s' m' e'))).1.neg→∀(l2:List Nat),l2=(boundD (addD (Dyd.mk s m e) (Dyd.mk s' m' e'))).1.mag→∀(n3:Int),n3=(boundD (addD (Dyd.mk s m e) (Dyd.mk s' m' e'))).1.exp→∀(n4:Int),n4=(boundD (addD (Dyd.mk s m e) (Dyd.mk s' m' e'))).snd→Q (.tup [.agg [.bool b1,.dig [0] l2,.num .i64 n3],.num .i64 n4])):=by kernel_rfl
theorem vc_dyad_Sub (s:Bool) (s':Bool) (m:List Nat) (m':List Nat) (e:Int) (e':Int) (Q:AV→Prop):(evF Tryz.prog (look tab14) (lam []) false Tryz.f78 [.agg [.bool s,.dig [1] m,.num .i64 e],.agg [.bool s',.dig [2] m',.num .i64 e']] Q)=(bif !(mayD (Dyd.mk s m e)&&mayD (Dyd.mk s' m' e')) then Q (.tup [.agg [.bool false,.dig [0] [],.num .i64 0],.num .i64 2]) else m'.length≤1048576∧∀(b1:Bool),b1=(!s'&&decide (m'≠[]))→∀(l2:List Nat),l2=m'→∀(n3:Int),n3=e'→(mayD (Dyd.mk s m e)=true∧mayD (Dyd.mk b1 l2 n3)=true)∧∀(b4:Bool),b4=(boundD (addD (Dyd.mk s m e) (Dyd.mk b1 l2 n3))).1.neg→∀(l5:List Nat),l5=(boundD (addD (Dyd.mk s m e) (Dyd.mk b1 l2 n3))).1.mag→∀(n6:Int),n6=(boundD (addD (Dyd.mk s m e) (Dyd.mk b1 l2 n3))).1.exp→∀(n7:Int),n7=(boundD (addD (Dyd.mk s m e) (Dyd.mk b1 l2 n3))).snd→Q (.tup [.agg [.bool b4,.dig [0] l5,.num .i64 n6],.num .i64 n7])):=by kernel_rfl
theorem vc_dyad_Mul (s:Bool) (s':Bool) (m:List Nat) (m':List Nat) (e:Int) (e':Int) (Q:AV→Prop):(evF Tryz.prog (look tab11) (lam []) false Tryz.f178 [.agg [.bool s,.dig [1] m,.num .i64 e],.agg [.bool s',.dig [2] m',.num .i64 e']] Q)=(bif !(mayD (Dyd.mk s m e)&&mayD (Dyd.mk s' m' e')) then Q (.tup [.agg [.bool false,.dig [0] [],.num .i64 0],.num .i64 2]) else∀(l1:List Nat),l1=(mulR m m').fst→∀(n2:Int),n2=(mulR m m').snd→bif !decide (n2=(0:Int)) then Q (.tup [.agg [.bool false,.dig [0] [],.num .i64 0],.num .i64 n2]) else∀(b3:Bool),b3=(makeD (!s==s') l1 (i64.wrap (e+e'))).1.neg→∀(l4:List Nat),l4=(makeD (!s==s') l1 (i64.wrap (e+e'))).1.mag→∀(n5:Int),n5=(makeD (!s==s') l1 (i64.wrap (e+e'))).1.exp→∀(n6:Int),n6=(makeD (!s==s') l1 (i64.wrap (e+e'))).snd→Q (.tup [.agg [.bool b3,.dig [0] l4,.num .i64 n5],.num .i64 n6])):=by kernel_rfl
end Go.AI

namespace Go.AI
open Go Go.RowKit Go.Proofs
set_option linter.unusedVariables false
set_option maxRecDepth 100000
theorem oks1_agg {cs r:List AV} (h:AV.oks (.agg cs::r)):AV.oks cs∧AV.oks r:=by simp only [AV.oks,AV.ok] at h ⊢;exact h
theorem oks1_bool {b:Bool} {r:List AV} (h:AV.oks (.bool b::r)):AV.oks r:=by simp only [AV.oks,AV.ok] at h ⊢;exact h.2
theorem oks_d {s:Bool} {p m:List Nat} {e:Int} {r:List AV} (h:AV.oks (.agg [.bool s,.dig p m,.num .i64 e]::r)):Dy.okl m∧(-9223372036854775808≤e∧e<9223372036854775808)∧AV.oks r:=by
 obtain ⟨h1,h2⟩:=oks1_agg h
 obtain ⟨h3,h4⟩:=oks1_dig (oks1_bool h1)
 exact ⟨h3,range_i64 (oks1_num h4).1,h2⟩
theorem low_bit {l:List Nat} (h:Dy.digs l):IntKind.u32.wrap ((BitVec.ofInt 32 ((l.getD 0 0:Nat):Int)&&&BitVec.ofInt 32 1).toNat:Int)=((Dy.val l%2:Nat):Int):=by
 have:=Dy.digs_getD h 0
 rw [w32_and (by omega) (by omega) (by omega) (by omega)]
 rw [Int.toNat_natCast,show (1:Int).toNat=1 from rfl,Nat.and_one_is_mod,←Dy.val_mod h]
 have:Dy.val l%4294967296%2=Dy.val l%2:=by omega
 rw [this]
theorem ok_dyad_inside (args:List AV) (s:Spec) (h:dInside args=some s) (hp:andO s.pre True):Contract Tryz.prog Inv 133 args s.res:=by
 unfold dInside at h
 split at h
 ·cases h
  rename_i e
  refine contract0 false ok_tab8 Tryz.func133 (by kernel_rfl) (by kernel_rfl) fun hok=> ?_
  rw [vc_dyad_inside]
  unfold Dy.inside
  refine cond_i (fun h=> ?_) (fun h=> ?_)
  ·have h:=of_decide_eq_true h
   simp only [h,true_and]
  ·have h:=of_decide_eq_false h
   simp only [h,false_and,decide_false]
 ·cases h
theorem ok_tab9:PhiOk Tryz.prog Inv (look tab9):=look_cons ok_tab8 ok_dyad_inside
theorem ok_dyad_May (args:List AV) (s:Spec) (h:dMay args=some s) (hp:andO s.pre True):Contract Tryz.prog Inv 69 args s.res:=by
 unfold dMay at h
 split at h
 ·cases h
  rename_i s m e
  refine contract0 false ok_tab9 Tryz.func69 (by kernel_rfl) (by kernel_rfl) fun hok=> ?_
  obtain ⟨hm,he, -⟩:=oks_d hok
  rw [vc_dyad_May,low_bit hm.2]
  unfold Dy.mayD
  refine cond_i (fun h=> ?_) (fun h=>cond_i (fun h1=>cond_i (fun h2=> ?_) (fun h2=> ?_)) (fun h1=>⟨?_,cond_i (fun h2=> ?_) (fun h2=> ?_)⟩))
  ·simp only [Bool.not_eq_true'] at h
   simp only [h,Bool.false_and]
  ·simp only [Bool.not_eq_false'] at h
   have h1:=List.length_eq_zero_iff.1 (Int.ofNat_eq_zero.1 (of_decide_eq_true h1))
   subst h1
   simp only [h,if_true,h2,Bool.true_and]
  ·simp only [Bool.not_eq_false'] at h
   have h1:=List.length_eq_zero_iff.1 (Int.ofNat_eq_zero.1 (of_decide_eq_true h1))
   subst h1
   simp only [h,if_true,h2,Bool.true_and,Bool.false_and]
  ·have h1:=of_decide_eq_false h1
   omega
  ·simp only [Bool.not_eq_false'] at h
   have h1:=of_decide_eq_false h1
   have h2:=of_decide_eq_true h2
   have h1':m≠[]:=fun e=>h1 (by rw [e];rfl)
   simp only [h,if_neg h1',Bool.true_and]
   rw [decide_eq_true (by omega),Bool.true_and]
  ·simp only [Bool.not_eq_false'] at h
   have h1:=of_decide_eq_false h1
   have h2:=of_decide_eq_false h2
   have h1':m≠[]:=fun e=>h1 (by rw [e];rfl)
   simp only [h,if_neg h1',Bool.true_and]
   rw [decide_eq_false (by omega),Bool.false_and]
 ·cases h
theorem ok_dyad_own (args:List AV) (s:Spec) (h:dOwn args=some s) (hp:andO s.pre True):Contract Tryz.prog Inv 134 args s.res:=by
 unfold dOwn at h
 split at h
 ·cases h
  rename_i s m e
  have hp:=hp.1
  refine contract0 false ok_tab9 Tryz.func134 (by kernel_rfl) (by kernel_rfl) fun hok=> ?_
  rw [vc_dyad_own]
  exact ⟨by omega,rfl⟩
 ·cases h
theorem ok_tab10:PhiOk Tryz.prog Inv (look tab10):=look_cons (look_cons ok_tab9 ok_dyad_May) ok_dyad_own
theorem ok_dyad_both (args:List AV) (s:Spec) (h:dBoth args=some s) (hp:andO s.pre True):Contract Tryz.prog Inv 148 args s.res:=by
 unfold dBoth at h
 split at h
 ·cases h
  rename_i s m e s' m' e'
  refine contract_at false _ (lam [(2,.unroll 3)]) ok_tab10 Tryz.func148 (by kernel_rfl) rfl (loops1u (k:=3) (by kernel_rfl) (by kernel_rfl)) fun hok=> ?_
  rw [vc_dyad_both]
  refine ⟨by simp,cond_i (fun h=> ?_) (fun h=>⟨by rw [wrap_i64 (by omega) (by omega)];simp,cond_i (fun h'=> ?_) (fun h'=> ?_)⟩)⟩
  ·simp at h;rw [h];rfl
  ·simp at h h';rw [h,h'];rfl
  ·simp at h h';rw [h,h'];rfl
 ·cases h
theorem ok_dyad_Make (args:List AV) (s:Spec) (h:dMake args=some s) (hp:andO s.pre True):Contract Tryz.prog Inv 125 args s.res:=by
 unfold dMake at h
 split at h
 ·cases h
  rename_i s m e
  refine contract0 false ok_tab10 Tryz.func125 (by kernel_rfl) (by kernel_rfl) fun hok=> ?_
  obtain ⟨hm,h5⟩:=oks1_dig (oks1_bool hok)
  have he:=range_i64 (oks1_num h5).1
  rw [vc_dyad_Make]
  unfold Dy.makeD
  refine cond_i (fun h=> ?_) (fun h=> ?_)
  ·simp only [Bool.not_eq_true'] at h
   rw [h];rfl
  ·simp only [Bool.not_eq_false'] at h
   simp only [h,if_true]
   refine cond_i (fun h1=> ?_) (fun h1=> ?_)
   ·have h1:=List.length_eq_zero_iff.1 (Int.ofNat_eq_zero.1 (of_decide_eq_true h1))
    subst h1
    rfl
   ·have h1:=of_decide_eq_false h1
    have h1':m≠[]:=fun e=>h1 (by rw [e];rfl)
    have hv:=Dy.val_ne h h1'
    have hb:=Dy.may_bl h
    have ht:=Dy.tz_lt_bl hv
    have hlow:Dy.lowN m=Dy.tz (Dy.val m):=by unfold Dy.lowN;rw [if_pos h]
    have hlen:(Dy.dg (Dy.val m/2^Dy.tz (Dy.val m))).length≤4096:=by
     rw [Dy.len_bl,Dy.bl_div_two_pow];omega
    rw [hlow,wrap_i64 (by omega) (by omega),wrap_i64 (by omega) (by omega),wrap_i64 (by omega) (by omega),Dy.form_pos hv]
    unfold Dy.boundD
    simp only [if_pos hlen]
    have hz:∀c:Bool,Dy.inside (e+(Dy.tz (Dy.val m):Int))=c→(if Dy.inside (e+(Dy.tz (Dy.val m):Int))=true then ((⟨s,Dy.dg (Dy.val m/2^Dy.tz (Dy.val m)),e+(Dy.tz (Dy.val m):Int)⟩:Dy.Dyd),(0:Int)) else (Dy.zeroD,20))=if c=true then (⟨s,Dy.dg (Dy.val m/2^Dy.tz (Dy.val m)),e+(Dy.tz (Dy.val m):Int)⟩,0) else (Dy.zeroD,20):=fun c hc=>by rw [hc]
    refine cond_i (fun h2=> ?_) (fun h2=>cond_i (fun h3=> ?_) (fun h3=> ?_))
    ·have h2:=of_decide_eq_true h2
     rw [hz false (by rw [←Bool.not_eq_true,Dy.inside_iff];omega)]
     rfl
    ·have h3:=of_decide_eq_true h3
     rw [hz false (by rw [←Bool.not_eq_true,Dy.inside_iff];omega)]
     rfl
    ·have h2:=of_decide_eq_false h2
     have h3:=of_decide_eq_false h3
     rw [hz true (by rw [Dy.inside_iff];omega)]
     rw [show (0:Int)-(Dy.tz (Dy.val m):Int)= -(Dy.tz (Dy.val m):Int) by omega,Dy.shiftN_neg h]
     rintro _ rfl _-_ -
     rw [wrap_i64 (by omega) (by omega)]
     rfl
 ·cases h
theorem ok_dyad_signed (args:List AV) (s:Spec) (h:dSigned args=some s) (hp:andO s.pre True):Contract Tryz.prog Inv 70 args s.res:=by
 unfold dSigned at h
 split at h
 ·cases h
  rename_i s m e n
  have hp:=hp.1
  refine contract0 false ok_tab10 Tryz.func70 (by kernel_rfl) (by kernel_rfl) fun hok=> ?_
  rw [vc_dyad_signed]
  refine ⟨hp,?_⟩
  intro _ _ l2 hl n3 hn
  subst hl hn
  refine cond_i (fun h=> ?_) (fun h=> ?_)
  ·subst h
   have:decide ((l2.length:Int)>0)=decide (l2≠[]):=by
    rw [decide_eq_decide]
    constructor
    ·intro h e;rw [e] at h;simp at h
    ·intro h;have:=List.length_pos_iff.2 h;omega
   rw [this,Bool.true_and]
  ·subst h
   rfl
 ·cases h
theorem ok_dyad_Sign (args:List AV) (s:Spec) (h:dSign args=some s) (hp:andO s.pre True):Contract Tryz.prog Inv 25 args s.res:=by
 unfold dSign at h
 split at h
 ·cases h
  rename_i s m e
  refine contract0 false ok_tab10 Tryz.func25 (by kernel_rfl) (by kernel_rfl) fun hok=> ?_
  rw [vc_dyad_Sign]
  unfold Dy.signD
  refine cond_i (fun h=> ?_) (fun h=>cond_i (fun h1=> ?_) (fun h1=> ?_))
  ·simp only [Bool.not_eq_true'] at h
   simp only [h,Bool.false_eq_true,if_false]
  ·simp only [Bool.not_eq_false'] at h
   have h1:=List.length_eq_zero_iff.1 (Int.ofNat_eq_zero.1 (of_decide_eq_true h1))
   subst h1
   simp only [h,if_true]
  ·simp only [Bool.not_eq_false'] at h
   have h1:=of_decide_eq_false h1
   have h1':m≠[]:=fun e=>h1 (by rw [e];rfl)
   simp only [h,if_neg h1',if_true]
   cases s<;>rfl
 ·cases h
theorem ok_dyad_Top (args:List AV) (s:Spec) (h:dTop args=some s) (hp:andO s.pre True):Contract Tryz.prog Inv 152 args s.res:=by
 unfold dTop at h
 split at h
 ·cases h
  rename_i s m e
  refine contract0 false ok_tab10 Tryz.func152 (by kernel_rfl) (by kernel_rfl) fun hok=> ?_
  rw [vc_dyad_Top]
  unfold Dy.topD
  refine cond_i (fun h=> ?_) (fun h=>cond_i (fun h1=> ?_) (fun h1=> ?_))
  ·simp only [Bool.not_eq_true'] at h
   simp only [h,Bool.false_eq_true,if_false]
  ·simp only [Bool.not_eq_false'] at h
   have h1:=List.length_eq_zero_iff.1 (Int.ofNat_eq_zero.1 (of_decide_eq_true h1))
   subst h1
   simp only [h,if_true]
  ·simp only [Bool.not_eq_false'] at h
   have h1:=of_decide_eq_false h1
   have h1':m≠[]:=fun e=>h1 (by rw [e];rfl)
   have:=Dy.mayD_exp h
   have hb:=Dy.may_bl (Dy.mayD_may h)
   simp only [h,if_neg h1',if_true,Dy.lenN,if_pos (Dy.mayD_may h)]
   rw [wrap_i64 (by omega) (by omega)]
 ·cases h
theorem ok_tab11:PhiOk Tryz.prog Inv (look tab11):=look_cons (look_cons (look_cons (look_cons (look_cons ok_tab10 ok_dyad_Top) ok_dyad_Sign) ok_dyad_signed) ok_dyad_Make) ok_dyad_both
end Go.AI

namespace Go.AI
open Dy IntKind
open Go Go.RowKit Go.Proofs
set_option linter.unusedVariables false
set_option maxRecDepth 100000
set_option maxHeartbeats 0
theorem vc_dyad_edge (s:Bool) (s':Bool) (m:List Nat) (m':List Nat) (e:Int) (e':Int) (g:Int) (Q:AV→Prop):(evF Tryz.prog (look tab11) (lam []) false Tryz.f187 [.agg [.bool s,.dig [1] m,.num .i64 e],.agg [.bool s',.dig [2] m',.num .i64 e'],.num .i64 g] Q)=(bif decide (s=s') then Q (.tup [.agg [.bool false,.dig [0] [],.num .i64 0],.num .i64 3]) else∀(l1:List Nat),l1=(shiftN m (i64.wrap (g-(1:Int)))).mag→∀(b2:Bool),b2=(shiftN m (i64.wrap (g-(1:Int)))).lost→∀(n3:Int),n3=(shiftN m (i64.wrap (g-(1:Int)))).err→∀(l4:List Nat),l4=(shiftN m' (-1:Int)).mag→∀(b5:Bool),b5=(shiftN m' (-1:Int)).lost→∀(n6:Int),n6=(shiftN m' (-1:Int)).err→∀(l7:List Nat),l7=(subR l1 l4).fst→∀(n8:Int),n8=(subR l1 l4).snd→bif !decide (n8=(0:Int)) then Q (.tup [.agg [.bool false,.dig [0] [],.num .i64 0],.num .i64 3]) else∀(l9:List Nat),l9=(addR l7 l7).fst→∀(n10:Int),n10=(addR l7 l7).snd→bif decide (n10=(0:Int)) then∀(l11:List Nat),l11=(subR l9 (dg (1:Nat))).fst→∀(n12:Int),n12=(subR l9 (dg (1:Nat))).snd→∀(b13:Bool),b13=(makeD s l11 e').1.neg→∀(l14:List Nat),l14=(makeD s l11 e').1.mag→∀(n15:Int),n15=(makeD s l11 e').1.exp→∀(n16:Int),n16=(makeD s l11 e').snd→Q (.tup [.agg [.bool b13,.dig [0] l14,.num .i64 n15],.num .i64 n16]) else bif decide ((↑(lenN l7):Int)=i64.wrap ((↑(lowN l7):Int)+(1:Int))) then∀(l17:List Nat),l17=(subR l7 (dg (1:Nat))).fst→∀(n18:Int),n18=(subR l7 (dg (1:Nat))).snd→∀(l19:List Nat),l19=(addR l17 l7).fst→∀(n20:Int),n20=(addR l17 l7).snd→∀(b21:Bool),b21=(makeD s l19 e').1.neg→∀(l22:List Nat),l22=(makeD s l19 e').1.mag→∀(n23:Int),n23=(makeD s l19 e').1.exp→∀(n24:Int),n24=(makeD s l19 e').snd→Q (.tup [.agg [.bool b21,.dig [0] l22,.num .i64 n23],.num .i64 n24]) else Q (.tup [.agg [.bool false,.dig [0] [],.num .i64 0],.num .i64 3])):=by kernel_rfl
end Go.AI

namespace Go.Dy
set_option maxRecDepth 100000
theorem halved_big {x y:List Nat} (hx:may x=true) (hy:may y=true):bl (val x+val y)≤131073:=by
 have h1:=bl_le.1 (may_bl hx)
 have h2:=bl_le.1 (may_bl hy)
 have gen:∀K:Nat,val x<2^K→val y<2^K→bl (val x+val y)≤K+1:=fun K h1 h2=>bl_le.2 (by rw [Nat.pow_succ];omega)
 exact gen _ h1 h2
theorem half_bl {n:Nat} (h:bl n≤131073):bl (n/2)≤131072:=by
 have:=bl_div_two_pow n 1
 rw [Nat.pow_one] at this
 omega
theorem bl_dec {a b:Nat} (h:a≤b) {k:Nat} (hb:bl b≤k):bl a≤k:=Nat.le_trans (bl_mono h) hb
theorem edge_aux {X H K:Nat} (hX:bl X=K+1) (hH:bl H≤K):H<X∧0<2*(X-H)∧X-H<2^(K+1)∧(K+1<bl (2*(X-H))→(bl (X-H)=tz (X-H)+1→X-H=2^K)∧(X-H≠2^K→K+1<bl (2*(X-H)-1)))∧
  (X-H=2^K→bl (X-H)=tz (X-H)+1∧bl (2*(X-H)-1)≤K+1):=by
 have h1:2^K≤X:=lt_bl.1 (by omega)
 have h2:X<2^(K+1):=bl_le.1 (by omega)
 have h3:H<2^K:=bl_le.1 hH
 have h5:2^(K+1)=2^K*2:=Nat.pow_succ ..
 have h6:2^(K+1+1)=2^(K+1)*2:=Nat.pow_succ ..
 have hpos:=Nat.two_pow_pos K
 refine ⟨by omega,by omega,by omega,fun hb=>⟨fun ht=> ?_,fun hne=> ?_⟩,fun he=>⟨?_,?_⟩⟩
 ·have h7:2^(K+1)≤2*(X-H):=lt_bl.1 hb
  have hS:X-H≠0:=by omega
  obtain ⟨q,hq⟩:=tz_spec hS
  have hS1:2^K≤X-H:=by omega
  have hS2:X-H<2^(K+1):=by omega
  generalize X-H=S at*
  have h8:bl S=K+1:=bl_eq (by omega) (by omega)
  have hz:tz S=K:=by omega
  rw [hz] at hq
  by_cases c:q=0
  ·rw [c] at hq;omega
  ·exfalso
   have:2^K*2≤2^K*(2*q+1):=Nat.mul_le_mul_left _ (by omega)
   omega
 ·have h7:2^(K+1)≤2*(X-H):=lt_bl.1 hb
  refine lt_bl.2 ?_
  omega
 ·rw [he]
  have:=tz_mul K 0
  rw [Nat.mul_zero,Nat.zero_add,Nat.mul_one] at this
  rw [this]
  exact bl_eq (Nat.le_refl _) (by omega)
 ·rw [he]
  exact bl_le.2 (by omega)
theorem cmpZ_scale {a b:Nat}:cmpZ a b=if a<b then -1 else if b<a then 1 else 0:=by
 unfold cmpZ;simp only [Int.ofNat_lt]
end Go.Dy
namespace Go.AI
open Go Go.RowKit Go.Proofs
set_option linter.unusedVariables false
set_option maxRecDepth 100000
theorem makeD_small {s:Bool} {n:Nat} (h:n<18446744073709551616) (e:Int) (he: -16777100≤e∧e≤16777100):Dy.makeD s (Dy.dg n) e=(Dy.form s n e,0):=by
 have hb:Dy.bl n≤64:=Dy.bl_le.2 (by omega)
 rw [Dy.makeD_dg (by omega)]
 by_cases c:n=0
 ·subst c;rfl
 ·have ht:=Dy.tz_lt_bl c
  rw [Dy.form_pos c]
  unfold Dy.boundD
  have hl:(Dy.dg (n/2^Dy.tz n)).length≤4096:=by rw [Dy.len_bl,Dy.bl_div_two_pow];omega
  simp only [if_pos hl]
  rw [if_pos (by rw [Dy.inside_iff];omega)]
theorem ok_dyad_Neg (args:List AV) (s:Spec) (h:dNeg args=some s) (hp:andO s.pre True):Contract Tryz.prog Inv 150 args s.res:=by
 unfold dNeg at h
 split at h
 ·cases h
  rename_i s m e
  refine contract0 false ok_tab11 Tryz.func150 (by kernel_rfl) (by kernel_rfl) fun hok=> ?_
  rw [vc_dyad_Neg]
  unfold Dy.okIf
  refine cond_i (fun h=> ?_) (fun h=> ?_)
  ·simp only [Bool.not_eq_true'] at h
   rw [h];rfl
  ·simp only [Bool.not_eq_false'] at h
   have:=Dy.may_len (Dy.mayD_may h)
   refine ⟨by omega,?_⟩
   rintro _ rfl _ rfl _ rfl
   rw [h];rfl
 ·cases h
theorem ok_dyad_Abs (args:List AV) (s:Spec) (h:dAbs args=some s) (hp:andO s.pre True):Contract Tryz.prog Inv 26 args s.res:=by
 unfold dAbs at h
 split at h
 ·cases h
  rename_i s m e
  refine contract0 false ok_tab11 Tryz.func26 (by kernel_rfl) (by kernel_rfl) fun hok=> ?_
  rw [vc_dyad_Abs]
  unfold Dy.okIf
  refine cond_i (fun h=> ?_) (fun h=> ?_)
  ·simp only [Bool.not_eq_true'] at h
   rw [h];rfl
  ·simp only [Bool.not_eq_false'] at h
   have:=Dy.may_len (Dy.mayD_may h)
   refine ⟨by omega,?_⟩
   rintro _ rfl _ rfl _ rfl
   rw [h];rfl
 ·cases h
theorem ok_dyad_sizes (args:List AV) (s:Spec) (h:dSizes args=some s) (hp:andO s.pre True):Contract Tryz.prog Inv 203 args s.res:=by
 unfold dSizes at h
 split at h
 ·cases h
  rename_i s m e s' m' e'
  obtain ⟨⟨hd,hd',hnn⟩, -⟩:=hp
  refine contract0 false ok_tab11 Tryz.func203 (by kernel_rfl) (by kernel_rfl) fun hok=> ?_
  have hm:=Dy.mayD_may hd
  have hm':=Dy.mayD_may hd'
  have b1:=Dy.may_bl hm
  have b2:=Dy.may_bl hm'
  have x1:=Dy.mayD_exp hd
  have x2:=Dy.mayD_exp hd'
  rw [vc_dyad_sizes,if_pos hd,if_pos hd']
  have l1:Dy.lenN m=Dy.bl (Dy.val m):=by unfold Dy.lenN;rw [if_pos hm]
  have l2:Dy.lenN m'=Dy.bl (Dy.val m'):=by unfold Dy.lenN;rw [if_pos hm']
  rw [l1,l2,wrap_i64 (n:=(Dy.bl (Dy.val m):Int)-_) (by omega) (by omega),wrap_i64 (by omega) (by omega)]
  by_cases c:m=[]
  ·have c':=hnn.1 c
   subst c c'
   refine cond_f rfl (cond_f rfl (cond_f rfl ?_))
   rintro _ rfl _-_-_ rfl _ -
   rw [show (0:Int)-((Dy.bl (Dy.val []):Int)-(Dy.bl (Dy.val []):Int))= -((0:Nat):Int) by omega,Dy.shiftN_neg hm]
   simp [Dy.val,Dy.dg_zero,Dy.cmpZ]
   rfl
  ·have c':m'≠[]:=fun e=>c (hnn.2 e)
   have v1:=Dy.val_ne hm c
   have v2:=Dy.val_ne hm' c'
   unfold Dy.topD
   simp only [if_neg c,if_neg c']
   have k1:=Dy.bl_mul_two_pow v1 (e-min e e').toNat
   have k2:=Dy.bl_mul_two_pow v2 (e'-min e e').toNat
   rw [Dy.cmpZ_scale]
   refine cond_i (fun h=> ?_) (fun h=>cond_i (fun h1=> ?_) (fun h1=>cond_i (fun h2=> ?_) (fun h2=> ?_)))
   ·have h:=of_decide_eq_true h
    rw [if_pos (Dy.bl_lt (by omega))]
   ·have h1:=of_decide_eq_true h1
    have:=Dy.bl_lt (a:=Dy.val m'*2^(e'-min e e').toNat) (b:=Dy.val m*2^(e-min e e').toNat) (by omega)
    rw [if_neg (by omega),if_pos this]
   ·have h:=of_decide_eq_false h
    have h1:=of_decide_eq_false h1
    have h2:=of_decide_eq_true h2
    obtain ⟨n,hn⟩:∃n:Nat,(Dy.bl (Dy.val m):Int)-(Dy.bl (Dy.val m'):Int)=n:=⟨((Dy.bl (Dy.val m):Int)-(Dy.bl (Dy.val m'):Int)).toNat,by omega⟩
    rw [hn,Dy.shiftN_up hm' n (by omega)]
    rintro _ rfl _-_-_ rfl _ -
    have hmay:Dy.may (Dy.dg (Dy.val m'*2^n))=true:=Dy.may_dgn.2 (Dy.len_bl.2 (by rw [Dy.bl_mul_two_pow v2];omega))
    unfold Dy.cmpR
    rw [hm,hmay,Dy.val_dg]
    rw [show (e-min e e').toNat=0 by omega,show (e'-min e e').toNat=n by omega,Nat.pow_zero,Nat.mul_one]
    rfl
   ·have h:=of_decide_eq_false h
    have h1:=of_decide_eq_false h1
    have h2:=of_decide_eq_false h2
    obtain ⟨n,hn⟩:∃n:Nat,(0:Int)-((Dy.bl (Dy.val m):Int)-(Dy.bl (Dy.val m'):Int))=n:=⟨((Dy.bl (Dy.val m'):Int)-(Dy.bl (Dy.val m):Int)).toNat,by omega⟩
    rw [hn,Dy.shiftN_up hm n (by omega)]
    rintro _ rfl _-_-_ rfl _ -
    have hmay:Dy.may (Dy.dg (Dy.val m*2^n))=true:=Dy.may_dgn.2 (Dy.len_bl.2 (by rw [Dy.bl_mul_two_pow v1];omega))
    unfold Dy.cmpR
    rw [hm',hmay,Dy.val_dg]
    rw [show (e'-min e e').toNat=0 by omega,show (e-min e e').toNat=n by omega,Nat.pow_zero,Nat.mul_one]
    rfl
 ·cases h
end Go.AI

namespace Go.AI
open Go Go.RowKit Go.Proofs
set_option linter.unusedVariables false
set_option maxRecDepth 100000
theorem ok_dyad_halved (args:List AV) (s:Spec) (h:dHalved args=some s) (hp:andO s.pre True):Contract Tryz.prog Inv 209 args s.res:=by
 unfold dHalved at h
 split at h
 ·cases h
  rename_i p x y e
  obtain ⟨⟨hx,hy,he,hl⟩, -⟩:=hp
  refine contract0 false ok_tab11 Tryz.func209 (by kernel_rfl) (by kernel_rfl) fun hok=> ?_
  obtain ⟨ox,h5⟩:=oks1_dig (oks1_bool hok)
  obtain ⟨oy, -⟩:=oks1_dig h5
  have he:=Dy.inside_iff.1 he
  have b1:=Dy.may_bl hx
  have b2:=Dy.may_bl hy
  have hbig:131072<Dy.bl (Dy.val x+Dy.val y):=by
   have:=mt (Dy.len_bl (n:=Dy.val x+Dy.val y)).2 (by omega)
   omega
  have b3:=Dy.halved_big hx hy
  have nx:x≠[]:=fun e=>by subst e;simp only [Dy.val,Nat.zero_add] at hbig;omega
  have ny:y≠[]:=fun e=>by subst e;simp only [Dy.val,Nat.add_zero] at hbig;omega
  have lx:=List.length_pos_iff.2 nx
  have ly:=List.length_pos_iff.2 ny
  rw [vc_dyad_halved,low_bit ox.2,low_bit oy.2,wrap_i64 (by omega) (by omega)]
  refine ⟨by omega,by omega,cond_i (fun h=> ?_) (fun h=> ?_)⟩
  ·simp only [Bool.not_eq_true',decide_eq_false_iff_not] at h
   rw [Dy.boundD_long (by omega) hbig]
   rfl
  ·simp only [Bool.not_eq_false',decide_eq_true_eq] at h
   rw [show (-1:Int)= -((1:Nat):Int) from rfl,Dy.shiftN_neg hx,Dy.shiftN_neg hy,Nat.pow_one]
   intro l1 e1 _ _ _ _ l4 e4 _ _ _ _ l7 e7 _ _
   have hhx:Dy.bl (Dy.val x/2)≤131072:=Dy.bl_dec (Nat.div_le_self _ _) b1
   have hhy:Dy.bl (Dy.val y/2)≤131072:=Dy.bl_dec (Nat.div_le_self _ _) b2
   have hs:Dy.bl (Dy.val x/2+Dy.val y/2)≤131072:=Dy.bl_dec (by omega) (Dy.half_bl b3)
   have m1:Dy.may l1=true:=by rw [e1];exact Dy.may_dgn.2 (Dy.len_bl.2 hhx)
   have m4:Dy.may l4=true:=by rw [e4];exact Dy.may_dgn.2 (Dy.len_bl.2 hhy)
   have e7':l7=Dy.dg (Dy.val x/2+Dy.val y/2):=by
    rw [e7,Dy.addR_dg m1 m4,e1,e4,Dy.val_dg,Dy.val_dg]
    simp only [if_pos hs]
   have m7:Dy.may l7=true:=by rw [e7'];exact Dy.may_dgn.2 (Dy.len_bl.2 hs)
   refine ⟨by omega,cond_i (fun h1=> ?_) (fun h1=> ?_)⟩
   ·have h1:=of_decide_eq_true h1
    have mo:Dy.may (Dy.dg 1)=true:=Dy.may_dgn.2 (Dy.len_bl.2 (by decide))
    have hs2:Dy.bl (Dy.val x/2+Dy.val y/2+1)≤131072:=Dy.bl_dec (by omega) (Dy.half_bl b3)
    intro l9 e9 _ _
    have e9':l9=Dy.dg (Dy.val x/2+Dy.val y/2+1):=by
     rw [e9,Dy.addR_dg m7 mo,e7',Dy.val_dg,Dy.val_dg]
     simp only [if_pos hs2]
    have:Dy.val x+Dy.val y=2*(Dy.val x/2+Dy.val y/2+1):=by omega
    rw [e9',Dy.makeD_dg hs2,this,Dy.form_two]
    rintro _ rfl _ rfl _ rfl _ rfl
    rfl
   ·have h1:=of_decide_eq_false h1
    have:Dy.val x+Dy.val y=2*(Dy.val x/2+Dy.val y/2):=by omega
    rw [e7',Dy.makeD_dg hs,this,Dy.form_two]
    rintro _ rfl _ rfl _ rfl _ rfl
    rfl
 ·cases h
theorem ok_dyad_edge (args:List AV) (s:Spec) (h:dEdge args=some s) (hp:andO s.pre True):Contract Tryz.prog Inv 187 args s.res:=by
 unfold dEdge at h
 split at h
 ·cases h
  rename_i s m e s' m' e' g
  obtain ⟨⟨hd,hd',hm,hm',hg,hg1,hgb⟩, -⟩:=hp
  refine contract0 false ok_tab11 Tryz.func187 (by kernel_rfl) (by kernel_rfl) fun hok=> ?_
  have may1:=Dy.mayD_may hd
  have may2:=Dy.mayD_may hd'
  have b1:=Dy.may_bl may1
  have b2:=Dy.may_bl may2
  have odd:=Dy.mayD_odd hd' hm'
  have v1:=Dy.val_ne may1 hm
  obtain ⟨g,rfl⟩:=Int.eq_ofNat_of_zero_le (show 0≤g by omega)
  have hX:Dy.bl (Dy.val m*2^(g-1))=131072:=by rw [Dy.bl_mul_two_pow v1];omega
  have hA:Dy.val m*2^g=2*(Dy.val m*2^(g-1)):=by
   rw [←Nat.mul_assoc,Nat.mul_comm 2,Nat.mul_assoc,←Nat.pow_succ']
   congr 2;omega
  have hH:Dy.bl (Dy.val m'/2)≤131071:=by
   have:=Dy.bl_div_two_pow (Dy.val m') 1
   rw [Nat.pow_one] at this
   omega
  rw [Dy.addD_gap (by omega),show (e-e').toNat=g by omega,vc_dyad_edge,wrap_i64 (by omega) (by omega),show (g:Int)-1=((g-1:Nat):Int) by omega,
   Dy.shiftN_up may1 (g-1) (by omega),show (-1:Int)= -((1:Nat):Int) from rfl,Dy.shiftN_neg may2,Nat.pow_one,hA]
  have hM:Dy.val m'=2*(Dy.val m'/2)+1:=by omega
  generalize Dy.val m*2^(g-1)=X at*
  generalize Dy.val m'/2=H at*
  refine cond_i (fun h=> ?_) (fun h=> ?_)
  ·have h:=of_decide_eq_true h
   subst h
   rw [Dy.sgn_add_same,Dy.formZ_sgn]
   have hb:131072<Dy.bl (2*X+Dy.val m'):=by
    have:Dy.bl (2*X)=131073:=by
     have:=Dy.bl_mul_two_pow (n:=X) (fun e=>by subst e;simp [Dy.bl_zero] at hX) 1
     rw [Nat.pow_one,Nat.mul_comm] at this
     omega
    have:=Dy.bl_mono (show 2*X≤2*X+Dy.val m' by omega)
    omega
   rw [Dy.boundD_long (by omega) hb]
   rfl
  ·have h:=of_decide_eq_false h
   obtain ⟨k1,k2,k3,k4,k5⟩:=Dy.edge_aux (K:=131071) hX hH
   clear k3
   have hHb:Dy.bl H≤131072:=by omega
   have mX:Dy.may (Dy.dg X)=true:=Dy.may_dgn.2 (Dy.len_bl.2 (by omega))
   have mH:Dy.may (Dy.dg H)=true:=Dy.may_dgn.2 (Dy.len_bl.2 hHb)
   have mo:Dy.may (Dy.dg 1)=true:=Dy.may_dgn.2 (Dy.len_bl.2 (by decide))
   have hD:Dy.sgn s (2*X)+Dy.sgn s' (Dy.val m')=Dy.sgn s (2*(X-H)-1):=by
    rw [Dy.sgn_sub h (by omega)]
    congr 1
    omega
   rw [hD,Dy.formZ_sgn]
   intro l1 e1 _ _ _ _ l4 e4 _ _ _ _ l7 e7 n8 e8
   rw [e1,e4,Dy.subR_dg mX mH,Dy.val_dg,Dy.val_dg,if_neg (by omega)] at e7 e8
   simp only at e7 e8
   subst e7 e8
   refine cond_f (by simp) ?_
   have bS:Dy.bl (X-H)≤131072:=Dy.bl_dec (b:=X) (by omega) (by omega)
   generalize X-H=S at*
   have mS:Dy.may (Dy.dg S)=true:=Dy.may_dgn.2 (Dy.len_bl.2 bS)
   rw [Dy.addR_dg mS mS,Dy.val_dg,show S+S=2*S by omega]
   intro l9 e9 n10 e10
   by_cases c:Dy.bl (2*S)≤131072
   ·simp only [if_pos c] at e9 e10
    subst e9 e10
    refine cond_t (by simp) ?_
    rw [Dy.subR_dg (Dy.may_dgn.2 (Dy.len_bl.2 c)) mo,Dy.val_dg,Dy.val_dg,if_neg (by omega)]
    rintro _ rfl _ -
    rw [Dy.makeD_dg (Dy.bl_dec (by omega) c)]
    rintro _ rfl _ rfl _ rfl _ rfl
    rfl
   ·simp only [if_neg c] at e9 e10
    subst e9 e10
    obtain ⟨k6,k7⟩:=k4 (by omega)
    have l1:Dy.lenN (Dy.dg S)=Dy.bl S:=by unfold Dy.lenN;rw [if_pos mS,Dy.val_dg]
    have l2:Dy.lowN (Dy.dg S)=Dy.tz S:=by unfold Dy.lowN;rw [if_pos mS,Dy.val_dg]
    have hlt:=Dy.tz_lt_bl (n:=S) (by omega)
    rw [l1,l2,wrap_i64 (by omega) (by omega)]
    refine cond_f (by simp) (cond_i (fun h1=> ?_) (fun h1=> ?_))
    ·have h1:=of_decide_eq_true h1
     obtain ⟨-,k8⟩:=k5 (k6 (by omega))
     rw [Dy.subR_dg mS mo,Dy.val_dg,Dy.val_dg,if_neg (by omega)]
     rintro _ rfl _ -
     have mS1:Dy.may (Dy.dg (S-1))=true:=Dy.may_dgn.2 (Dy.len_bl.2 (Dy.bl_dec (by omega) bS))
     rw [Dy.addR_dg mS1 mS,Dy.val_dg,Dy.val_dg,show S-1+S=2*S-1 by omega]
     simp only [if_pos (show Dy.bl (2*S-1)≤131072 by omega)]
     rintro _ rfl _ -
     rw [Dy.makeD_dg (by omega)]
     rintro _ rfl _ rfl _ rfl _ rfl
     rfl
    ·have h1:=of_decide_eq_false h1
     have hne:∀P:Nat,(S=P→Dy.bl S=Dy.tz S+1∧Dy.bl (2*S-1)≤131071+1)→(S≠P→131071+1<Dy.bl (2*S-1))→131072<Dy.bl (2*S-1):=by
      intro P q1 q2
      by_cases q:S=P
      ·have:=(q1 q).1
       omega
      ·exact q2 q
     rw [Dy.boundD_long (by omega) (hne _ k5 k7)]
     rfl
 ·cases h
theorem ok_dyad_Mul (args:List AV) (s:Spec) (h:dMul args=some s) (hp:andO s.pre True):Contract Tryz.prog Inv 178 args s.res:=by
 unfold dMul at h
 split at h
 ·cases h
  rename_i s m e s' m' e'
  refine contract0 false ok_tab11 Tryz.func178 (by kernel_rfl) (by kernel_rfl) fun hok=> ?_
  rw [vc_dyad_Mul]
  unfold Dy.boundIf
  refine cond_i (fun h=> ?_) (fun h=> ?_)
  ·simp only [Bool.not_eq_true'] at h
   rw [h];rfl
  ·simp only [Bool.not_eq_false'] at h
   obtain ⟨hd,hd'⟩:=Bool.and_eq_true_iff.1 h
   have may1:=Dy.mayD_may hd
   have may2:=Dy.mayD_may hd'
   have x1:=Dy.mayD_exp hd
   have x2:=Dy.mayD_exp hd'
   rw [h,if_pos rfl,Dy.mulR_dg may1 may2,wrap_i64 (by omega) (by omega)]
   intro l1 e1 n2 e2
   unfold Dy.mulD
   simp only
   by_cases c:Dy.bl (Dy.val m*Dy.val m')≤131072
   ·simp only [if_pos c] at e1 e2
    subst e1 e2
    refine cond_f (by simp) ?_
    rw [Dy.makeD_dg c]
    rintro _ rfl _ rfl _ rfl _ rfl
    rfl
   ·simp only [if_neg c] at e1 e2
    subst e1 e2
    refine cond_t (by simp) ?_
    have n1:m≠[]:=fun e=>c (by rw [e];simp only [Dy.val,Nat.zero_mul];decide)
    have n2:m'≠[]:=fun e=>c (by rw [e];simp only [Dy.val,Nat.mul_zero];decide)
    rw [Dy.boundD_long (Dy.odd_mul (Dy.mayD_odd hd n1) (Dy.mayD_odd hd' n2)) (by omega)]
    rfl
 ·cases h
end Go.AI
