/- My texts AInat2, AIspec3, AVref1, in one. -/
import Derived.Test.YtogikmlfkhofoaaGreatDoorK5
namespace Go.Dy
theorem split_pow {n x y c:Nat} (h:x+2^n*c=y) (hx:x<2^n):x=y%2^n∧c=y/2^n:=by
 subst h
 rw [Nat.add_mul_mod_self_left,Nat.mod_eq_of_lt hx,Nat.add_mul_div_left _ _ (Nat.two_pow_pos _),Nat.div_eq_of_lt hx]
 exact ⟨rfl,by omega⟩
theorem take_dgN {o:List Nat} (ho:digs o) {n c y:Nat} (hn:n≤o.length) (h:val (o.take n)+2^(32*n)*c=y):o.take n=dgN n y∧c=y/2^(32*n):=by
 have hl:=val_lt (digs_take ho n)
 rw [List.length_take,Nat.min_eq_left hn] at hl
 obtain ⟨h1,h2⟩:=split_pow h hl
 refine ⟨ext_val (digs_take ho n) (digs_dgN _ _) (by simp [dgN_length,hn]) ?_,h2⟩
 rw [val_dgN,h1]
theorem may_len {l:List Nat} (h:may l=true):l.length≤4096:=(may_iff.1 h).1
theorem may_dg {l:List Nat} (h:may l=true):dg (val l)=l:=(may_iff.1 h).2
theorem may_nil {l:List Nat} (h:may l=true):val l=0 ↔ l=[]:=by
 constructor
 ·intro h0;rw [←may_dg h,h0,dg_zero]
 ·rintro rfl;rfl
theorem okl_drop {l:List Nat} (h:okl l) (n:Nat):okl (l.drop n):=⟨by rw [List.length_drop];have:=h.1;omega,digs_drop h.2 n⟩
theorem drop_le (l:List Nat) {n:Nat} (h:l.length≤n):val (l.drop n)=0:=by rw [List.drop_of_length_le h];rfl
theorem bound_eq {n:Nat}:boundN true n=(if (dg n).length≤4096 then dg n else [],if (dg n).length≤4096 then 0 else 3):=by
 unfold boundN;simp only [if_true];split<;>rfl
theorem long_mul {x y p q k:Nat} (h1:2^(32*p)≤x) (h2:2^(32*q)≤y) (h:k≤p+q):¬(dg (x*y)).length≤k:=fun e=>by
 have e:=length_dg_le.1 e
 have q4:2^(32*k)≤2^(32*p+32*q):=Nat.pow_le_pow_right (by decide) (by omega)
 rw [Nat.pow_add] at q4
 exact absurd e (Nat.not_lt.2 (Nat.le_trans q4 (Nat.mul_le_mul h1 h2)))
theorem cmpN_neg {a b:Nat}:cmpN a b<0 ↔ a<b:=by
 unfold cmpN
 by_cases h:a<b
 ·simp [h]
 ·rw [if_neg h]
  by_cases h':b<a<;>simp [h,h']
end Go.Dy
namespace Go.AI
open Go Go.RowKit Go.Proofs
set_option linter.unusedVariables false
set_option maxRecDepth 100000
theorem loop_nat_Add:LoopOk Tryz.prog (look tab2) lamAdd 2 63 keepAdd (bodyN Tryz.f208 0) lsAdd:=by
 intro vals r h K hK
 unfold lsAdd at h
 split at h
 ·cases h
  rename_i a b o c k i
  simp only [evLR] at hK
  obtain ⟨⟨ha,hb,hba,rfl,rfl,rfl,rfl⟩,hK⟩:=hK
  have ha1:=ha.1
  have key:∀(u j c:Nat) (o:List Nat),a.length=u+j→o.length=a.length+1→Dy.digs o→o.drop a.length=[0]→Dy.val (o.take j)+2^(32*j)*(c+Dy.val (a.drop j)+Dy.val (b.drop j))=Dy.val a+Dy.val b→
    ∃m,iterN Tryz.prog (look tab2) lamAdd 2 63 keepAdd (bodyN Tryz.f208 0) m [.dig [1,2,3] a,.dig [1,2,3] b,.grown 152 o,.num .u32 c,.num .i64 a.length,.num .i64 j] K:=by
   intro u
   induction u with
   |zero=>
    intro j c o hj hol hod hot hv
    refine iterN_last ?_
    rw [vc_nat_Add_1]
    refine cond_f (decide_eq_false (by omega)) ?_
    simp only [Dy.drop_le a (show a.length≤j by omega),Dy.drop_le b (show b.length≤j by omega),Nat.add_zero] at hv
    obtain ⟨h1,h2⟩:=Dy.take_dgN hod (by omega) hv
    have hja:j=a.length:=by omega
    subst hja
    have ho:o=Dy.dgN a.length (Dy.val a+Dy.val b)++[0]:=by
     rw [←h1,←hot,List.take_append_drop]
    rw [ho,h2]
    exact hK
   |succ u ih=>
    intro j c o hj hol hod hot hv
    rw [Dy.val_drop_step a,Dy.val_drop_step b] at hv
    have hset:=Dy.val_take_set_succ (l:=o) (i:=j) (d:=(a.getD j 0+b.getD j 0+c)%4294967296) (by omega)
    obtain ⟨m,hm⟩:=ih (j+1) ((a.getD j 0+b.getD j 0+c)/4294967296) (o.set j ((a.getD j 0+b.getD j 0+c)%4294967296)) (by omega) (by simpa using hol) (Dy.digs_set hod (by omega))
     (by rw [List.drop_set,if_pos (by omega)];exact hot) (by
      rw [hset,Dy.pow_split,Nat.mul_assoc,Nat.add_assoc,←Nat.mul_add,←hv]
      congr 2
      omega)
    refine iterN_next m ?_
    rw [vc_nat_Add_1]
    have e1:∀x y:Nat,(((x:Int)+(y:Int)+(c:Int))%4294967296).toNat=(x+y+c)%4294967296:=fun x y=>by omega
    have e2:∀x y:Nat,((x:Int)+(y:Int)+(c:Int))/4294967296=(((x+y+c)/4294967296:Nat):Int):=fun x y=>by omega
    refine cond_t (decide_eq_true (by omega)) (cond_i (fun h=> ?_) (fun h=> ?_))
    ·have h:=of_decide_eq_true h
     refine ⟨by omega,by omega,?_⟩
     rintro _ rfl _ rfl
     refine ⟨by omega,by omega,?_⟩
     rw [Int.toNat_natCast,e1,e2,wrap_i64 (by omega) (by omega)]
     exact hm
    ·have h:=of_decide_eq_false h
     refine ⟨by omega,?_⟩
     rintro _ rfl _ rfl
     refine ⟨by omega,by omega,?_⟩
     have hb0:b.getD j 0=0:=by rw [List.getD_eq_getElem?_getD,List.getElem?_eq_none (by omega)];rfl
     rw [Int.toNat_natCast,show ((0:Int))=((b.getD j 0:Nat):Int) by rw [hb0];rfl,e1,e2,wrap_i64 (by omega) (by omega)]
     exact hm
  exact key a.length 0 0 _ (by omega) (by simp) (Dy.digs_replicate _) (by simp) (by simp [Dy.val])
 ·cases h
theorem add_out (A B n:Nat) (hA:A<2^(32*n)) (hB:B<2^(32*n)):Dy.val ((Dy.dgN n (A+B)++[0]).set n ((A+B)/2^(32*n)))=A+B:=by
 rw [List.set_append_right _ _ (by simp [Dy.dgN_length])]
 simp only [Dy.dgN_length,Nat.sub_self,List.set_cons_zero]
 rw [Dy.val_snoc,Dy.val_dgN,Dy.dgN_length,Nat.mod_add_div]
theorem ok_nat_Add (args:List AV) (s:Spec) (h:sAdd args=some s) (hp:andO s.pre True):Contract Tryz.prog Inv 208 args s.res:=by
 unfold sAdd at h
 split at h
 ·cases h
  rename_i a b
  refine contract_at false 63 lamAdd ok_tab2 Tryz.func208 (by kernel_rfl) rfl (loops1 (by kernel_rfl) (by kernel_rfl) loop_nat_Add) fun hok=> ?_
  have ha:=(oks1_dig hok).1
  have hb:=(oks1_dig (oks1_dig hok).2).1
  have ha1:=ha.1
  have hb1:=hb.1
  rw [vc_nat_Add]
  refine cond_i (fun h=> ?_) (fun h=> ?_)
  ·simp only [Bool.not_eq_true'] at h
   unfold Dy.addR
   rw [h]
   rfl
  ·simp only [Bool.not_eq_false'] at h
   unfold Dy.addR
   rw [h,Dy.bound_eq]
   obtain ⟨m1,m2⟩:=(Bool.and_eq_true_iff).1 h
   have:=Dy.may_len m1
   have:=Dy.may_len m2
   have la:=Dy.val_lt ha.2
   have lb:=Dy.val_lt hb.2
   refine cond_i (fun h=> ?_) (fun h=> ?_)
   ·have h:=of_decide_eq_true h
    rw [wrap_i64 (by omega) (by omega),Int.toNat_natCast]
    refine ⟨⟨by omega,by omega,by omega⟩,⟨hb,ha,by omega,by rw [show ((b.length:Int)+1).toNat=b.length+1 by omega],rfl,rfl,rfl⟩,by simp [Dy.dgN_length];omega,by simp [Dy.dgN_length],?_⟩
    rintro _ rfl _ rfl
    rw [Int.toNat_natCast,add_out _ _ _ lb (Nat.lt_of_lt_of_le la (Nat.pow_le_pow_right (by decide) (by omega))),Nat.add_comm]
   ·have h:=of_decide_eq_false h
    rw [wrap_i64 (by omega) (by omega),Int.toNat_natCast]
    refine ⟨⟨by omega,by omega,by omega⟩,⟨ha,hb,by omega,by rw [show ((a.length:Int)+1).toNat=a.length+1 by omega],rfl,rfl,rfl⟩,by simp [Dy.dgN_length];omega,by simp [Dy.dgN_length],?_⟩
    rintro _ rfl _ rfl
    rw [Int.toNat_natCast,add_out _ _ _ la (Nat.lt_of_lt_of_le lb (Nat.pow_le_pow_right (by decide) (by omega)))]
 ·cases h
theorem loop_nat_sub:LoopOk Tryz.prog (look tab2) lamSubL 2 41 keepSubL (bodyN Tryz.f218 0) lsSubL:=by
 intro vals r h K hK
 unfold lsSubL at h
 split at h
 ·cases h
  rename_i a b o c k i
  simp only [evLR] at hK
  obtain ⟨⟨ha,hb,hba,rfl,rfl,rfl,rfl⟩,hK⟩:=hK
  have ha1:=ha.1
  have key:∀(u j c:Nat) (o:List Nat),a.length=u+j→o.length=a.length→Dy.digs o→c≤1→Dy.val (o.take j)+2^(32*j)*Dy.val (a.drop j)+Dy.val b=Dy.val a+2^(32*j)*(c+Dy.val (b.drop j))→
    ∃m,iterN Tryz.prog (look tab2) lamSubL 2 41 keepSubL (bodyN Tryz.f218 0) m [.dig [1,2,3] a,.dig [1,2,3] b,.grown 152 o,.num .u32 c,.num .i64 a.length,.num .i64 j] K:=by
   intro u
   induction u with
   |zero=>
    intro j c o hj hol hod hc hv
    refine iterN_last ?_
    rw [vc_nat_sub_1]
    refine cond_f (decide_eq_false (by omega)) ?_
    have hja:j=a.length:=by omega
    subst hja
    rw [List.take_of_length_le (by omega),List.drop_length] at hv
    have hlt:=Dy.val_lt hod
    rw [hol] at hlt
    have hvb:Dy.val (b.drop a.length)=0:=by
     rw [Dy.val_drop hb.2]
     exact Nat.div_eq_of_lt (Nat.lt_of_le_of_lt hba (Dy.val_lt ha.2))
    rw [hvb] at hv
    simp only [Dy.val,Nat.mul_zero,Nat.add_zero] at hv
    have hc0:c=0:=by
     rcases Nat.eq_zero_or_pos c with h|h
     ·exact h
     ·have:c=1:=by omega
      subst this
      omega
    subst hc0
    have ho:o=Dy.dgN a.length (Dy.val a-Dy.val b):=by
     rw [show Dy.val a-Dy.val b=Dy.val o by omega]
     exact (Dy.dgN_val' hod hol).symm
    rw [ho]
    exact hK
   |succ u ih=>
    intro j c o hj hol hod hc hv
    have hx:=Dy.digs_getD ha.2 j
    have hy:=Dy.digs_getD hb.2 j
    rw [Dy.val_drop_step a,Dy.val_drop_step b] at hv
    generalize hxx:a.getD j 0=x at hx hv
    generalize hyy:b.getD j 0=y at hy hv
    have hd:∃d:Nat,(((x:Int)-(y:Int)-(c:Int))%4294967296).toNat=d∧d<4294967296∧d+y+c=x+4294967296*(if x<y+c then 1 else 0):=by
     refine ⟨_,rfl,by omega,?_⟩
     split<;>omega
    obtain ⟨d,hd1,hd2,hd3⟩:=hd
    have hset:=Dy.val_take_set_succ (l:=o) (i:=j) (d:=d) (by omega)
    obtain ⟨m,hm⟩:=ih (j+1) (if x<y+c then 1 else 0) (o.set j d) (by omega) (by simpa using hol) (Dy.digs_set hod hd2) (by split<;>omega) (by
      rw [hset,Dy.pow_split]
      generalize (if x<y+c then 1 else 0)=e at hd3 ⊢
      generalize 2^(32*j)=p at hv ⊢
      have h1:p*(d+y+c)=p*(x+4294967296*e):=by rw [hd3]
      simp only [Nat.mul_add,Nat.mul_assoc] at hv h1 ⊢
      omega)
    refine iterN_next m ?_
    rw [vc_nat_sub_1]
    have e2:(if (x:Int)<(y:Int)+(c:Int) then (1:Int) else 0)=((if x<y+c then 1 else 0:Nat):Int):=by
     by_cases h:x<y+c
     ·rw [if_pos h,if_pos (by omega)];rfl
     ·rw [if_neg h,if_neg (by omega)];rfl
    refine cond_t (decide_eq_true (by omega)) (cond_i (fun h=> ?_) (fun h=> ?_))
    ·have h:=of_decide_eq_true h
     refine ⟨by omega,by omega,by omega,?_⟩
     rintro _ rfl _ rfl
     refine ⟨by omega,by omega,?_⟩
     rw [Int.toNat_natCast,hxx,hyy,hd1,e2,wrap_i64 (by omega) (by omega)]
     exact hm
    ·have h:=of_decide_eq_false h
     refine ⟨by omega,by omega,?_⟩
     rintro _ rfl _ rfl
     refine ⟨by omega,by omega,?_⟩
     have hb0:b.getD j 0=0:=by rw [List.getD_eq_getElem?_getD,List.getElem?_eq_none (by omega)];rfl
     have hy0:y=0:=by rw [←hyy,hb0]
     rw [Int.toNat_natCast,hxx,show ((0:Int))=((y:Nat):Int) by rw [hy0];rfl,hd1]
     rw [show ((1:Int))=((1:Nat):Int) from rfl,show (if (x:Int)<(y:Int)+(c:Int) then ((1:Nat):Int) else ((y:Nat):Int))=((if x<y+c then 1 else 0:Nat):Int) by rw [←e2,hy0];rfl,wrap_i64 (by omega) (by omega)]
     exact hm
  exact key a.length 0 0 _ (by omega) (by simp) (Dy.digs_replicate _) (by omega) (by simp [Dy.val])
 ·cases h
theorem ok_nat_sub (args:List AV) (s:Spec) (h:sSubL args=some s) (hp:andO s.pre True):Contract Tryz.prog Inv 218 args s.res:=by
 unfold sSubL at h
 split at h
 ·cases h
  rename_i a b
  obtain ⟨⟨hba,hal⟩, -⟩:=hp
  refine contract_at false 41 lamSubL ok_tab2 Tryz.func218 (by kernel_rfl) rfl (loops1 (by kernel_rfl) (by kernel_rfl) loop_nat_sub) fun hok=> ?_
  have ha:=(oks1_dig hok).1
  have hb:=(oks1_dig (oks1_dig hok).2).1
  rw [vc_nat_sub]
  refine ⟨⟨by omega,by omega,by omega⟩,⟨ha,hb,hba,by rw [Int.toNat_natCast],rfl,rfl,rfl⟩,?_⟩
  rw [Dy.dg_val_dgN (Nat.lt_of_le_of_lt (Nat.sub_le _ _) (Dy.val_lt ha.2))]
 ·cases h
theorem loop_nat_mul_row:LoopOk Tryz.prog (look tab2) lamMul 2 68 keepMulI (bodyN Tryz.f186 1) lsMulI:=by
 intro vals r h K hK
 unfold lsMulI at h
 split at h
 ·cases h
  rename_i o r x c b k i b' a ka ia
  simp only [evLR] at hK
  obtain ⟨⟨ho,hb,hb1,hr,hro,hol,hx0,hx1,rfl,rfl,rfl⟩,hK⟩:=hK
  obtain ⟨r,rfl⟩:=Int.eq_ofNat_of_zero_le hr
  obtain ⟨x,rfl⟩:=Int.eq_ofNat_of_zero_le hx0
  simp only [Int.toNat_natCast] at hro hK
  generalize hS:Dy.val (o.take (r+b.length))+2^(32*r)*(x*Dy.val b)=S at hK
  have key:∀(u j c:Nat) (q:List Nat),b.length=u+j→q.length=o.length→Dy.digs q→q.drop (r+b.length)=o.drop (r+b.length)→c<4294967296→Dy.val (q.take (r+b.length))+2^(32*(r+j))*(c+x*Dy.val (b.drop j))=S→
    ∃m,iterN Tryz.prog (look tab2) lamMul 2 68 keepMulI (bodyN Tryz.f186 1) m [.grown 152 q,.num .i64 r,.num .u32 x,.num .u64 c,.dig [1,2,3] b,.num .i64 b.length,.num .i64 j,.dig [1,2,3] b',.dig [1,2,3] a,.num .i64 ka,.num .i64 ia] K:=by
   intro u
   induction u with
   |zero=>
    intro j c q hj hql hqd hqt hc hv
    refine iterN_last ?_
    rw [vc_nat_mul_2]
    refine cond_f (decide_eq_false (by omega)) ?_
    have hja:j=b.length:=by omega
    subst hja
    simp only [List.drop_length,Dy.val,Nat.mul_zero,Nat.add_zero] at hv
    obtain ⟨h1,h2⟩:=Dy.take_dgN hqd (by omega) hv
    rw [←h1,←h2,←hqt,List.take_append_drop] at hK
    exact hK
   |succ u ih=>
    intro j c q hj hql hqd hqt hc hv
    have hy:=Dy.digs_getD hb.2 j
    have hz:=Dy.digs_getD hqd (r+j)
    rw [Dy.val_drop_step b] at hv
    have hx1':x<4294967296:=by omega
    generalize hyy:b.getD j 0=y at hy hv
    generalize hzz:q.getD (r+j) 0=z at hz
    have hxy:x*y≤4294967295*4294967295:=Nat.mul_le_mul (by omega) (by omega)
    have hset:=Dy.val_set (l:=q.take (r+b.length)) (i:=r+j) (d:=(x*y+z+c)%4294967296) (by rw [List.length_take];omega)
    have hgz:(q.take (r+b.length)).getD (r+j) 0=z:=by
     rw [←hzz,List.getD_eq_getElem?_getD,List.getElem?_take_of_lt (by omega),List.getD_eq_getElem?_getD]
    rw [hgz,←List.take_set] at hset
    obtain ⟨m,hm⟩:=ih (j+1) ((x*y+z+c)/4294967296) (q.set (r+j) ((x*y+z+c)%4294967296)) (by omega) (by simpa using hql) (Dy.digs_set hqd (by omega))
     (by rw [List.drop_set,if_pos (by omega)];exact hqt) (by omega) (by
      rw [←hv,show r+(j+1)=(r+j)+1 by omega,Dy.pow_split]
      generalize 2^(32*(r+j))=p at hset ⊢
      have h1:x*y+z+c=(x*y+z+c)%4294967296+4294967296*((x*y+z+c)/4294967296):=by omega
      generalize (x*y+z+c)%4294967296=lo at h1 hset ⊢
      generalize (x*y+z+c)/4294967296=hi at h1 ⊢
      have h2:p*(x*y+z+c)=p*(lo+4294967296*hi):=by rw [h1]
      have h3:x*(y+4294967296*Dy.val (b.drop (j+1)))=x*y+4294967296*(x*Dy.val (b.drop (j+1))):=by rw [Nat.mul_add,Nat.mul_left_comm]
      rw [h3]
      simp only [Nat.mul_add,Nat.mul_assoc] at h2 hset ⊢
      omega)
    refine iterN_next m ?_
    rw [vc_nat_mul_2]
    have hw:IntKind.i64.wrap ((r:Int)+(j:Int))=((r+j:Nat):Int):=by rw [wrap_i64 (by omega) (by omega)];omega
    rw [hw]
    simp only [Int.toNat_natCast]
    rw [hyy,hzz]
    have e1:IntKind.u64.wrap (IntKind.u64.wrap (IntKind.u64.wrap (IntKind.u64.wrap (x:Int)*IntKind.u64.wrap (y:Int))+IntKind.u64.wrap (z:Int))+(c:Int))=((x*y+z+c:Nat):Int):=by
     simp only [wrap_u64]
     have q1:(x:Int)%18446744073709551616=x:=by omega
     have q2:(y:Int)%18446744073709551616=y:=by omega
     rw [q1,q2,←Int.natCast_mul]
     generalize x*y=xy at hxy ⊢
     omega
    refine cond_t (decide_eq_true (by omega)) ⟨by omega,by omega,by omega,by omega,by omega,?_⟩
    rw [e1,fdiv_pow (by omega),Int.toNat_natCast,wrap_u32,wrap_i64 (by omega) (by omega)]
    have e2:(((x*y+z+c:Nat):Int)%4294967296).toNat=(x*y+z+c)%4294967296:=by omega
    rw [e2]
    exact hm
  exact key b.length 0 0 o (by omega) rfl ho rfl (by omega) (by rw [←hS];simp)
 ·cases h
theorem loop_nat_mul:LoopOk Tryz.prog (look tab2) lamMul 2 68 keepMulO (bodyN Tryz.f186 0) lsMulO:=by
 intro vals r h K hK
 unfold lsMulO at h
 split at h
 ·cases h
  rename_i b o a k i
  simp only [evLR] at hK
  obtain ⟨⟨ha,hb,ha1,hb1,rfl,rfl,rfl⟩,hK⟩:=hK
  have key:∀(u j:Nat) (q:List Nat),a.length=u+j→q.length=a.length+b.length→Dy.digs q→Dy.val (q.take (j+b.length))+2^(32*j)*(Dy.val (a.drop j)*Dy.val b)=Dy.val a*Dy.val b→
    ∃m,iterN Tryz.prog (look tab2) lamMul 2 68 keepMulO (bodyN Tryz.f186 0) m [.dig [1,2,3] b,.grown 152 q,.dig [1,2,3] a,.num .i64 a.length,.num .i64 j] K:=by
   intro u
   induction u with
   |zero=>
    intro j q hj hql hqd hv
    refine iterN_last ?_
    rw [vc_nat_mul_1]
    refine cond_f (decide_eq_false (by omega)) ?_
    have hja:j=a.length:=by omega
    subst hja
    rw [List.take_of_length_le (by omega),List.drop_length] at hv
    simp only [Dy.val,Nat.zero_mul,Nat.mul_zero,Nat.add_zero] at hv
    have:q=Dy.dgN (a.length+b.length) (Dy.val a*Dy.val b):=by rw [←hv];exact (Dy.dgN_val' hqd hql).symm
    rw [this]
    exact hK
   |succ u ih=>
    intro j q hj hql hqd hv
    have hx:=Dy.digs_getD ha.2 j
    rw [Dy.val_drop_step a] at hv
    generalize hxx:a.getD j 0=x at hx hv
    have lb:=Dy.val_lt hb.2
    have lq:=Dy.val_lt (Dy.digs_take hqd (j+b.length))
    rw [List.length_take,Nat.min_eq_left (by omega)] at lq
    generalize hL:Dy.val (q.take (j+b.length))+2^(32*j)*(x*Dy.val b)=L
    have hLlt:L/2^(32*(j+b.length))<4294967296:=by
     rw [Nat.div_lt_iff_lt_mul (Nat.two_pow_pos _),←hL]
     have h1:x*Dy.val b≤4294967295*2^(32*b.length):=Nat.mul_le_mul (by omega) (Nat.le_of_lt lb)
     have h2:2^(32*j)*(x*Dy.val b)≤2^(32*j)*(4294967295*2^(32*b.length)):=Nat.mul_le_mul_left _ h1
     have h3:2^(32*j)*(4294967295*2^(32*b.length))=4294967295*2^(32*(j+b.length)):=by
      rw [Nat.mul_left_comm,←Nat.pow_add,Nat.mul_add]
     rw [h3] at h2
     generalize 2^(32*(j+b.length))=p at lq h2 ⊢
     omega
    have hlen:(Dy.dgN (j+b.length) L++q.drop (j+b.length)).length=a.length+b.length:=by simp [Dy.dgN_length];omega
    have hset:=Dy.val_take_set_succ (l:=Dy.dgN (j+b.length) L++q.drop (j+b.length)) (i:=j+b.length) (d:=L/2^(32*(j+b.length))) (by omega)
    rw [List.take_left' (Dy.dgN_length _ _),Dy.val_dgN,Nat.mod_add_div] at hset
    obtain ⟨m,hm⟩:=ih (j+1) ((Dy.dgN (j+b.length) L++q.drop (j+b.length)).set (j+b.length) (L/2^(32*(j+b.length)))) (by omega) (by rw [List.length_set];exact hlen)
     (Dy.digs_set (Dy.digs_append.2 ⟨Dy.digs_dgN _ _,Dy.digs_drop hqd _⟩) hLlt) (by
      rw [show j+1+b.length=j+b.length+1 by omega,hset,←hv,←hL,Dy.pow_split,Nat.add_mul,Nat.mul_add,Nat.mul_assoc,Nat.mul_assoc,Nat.add_assoc])
    refine iterN_next m ?_
    rw [vc_nat_mul_1]
    simp only [Int.toNat_natCast]
    rw [hxx,hL]
    have hw:IntKind.i64.wrap ((j:Int)+(b.length:Int))=((j+b.length:Nat):Int):=by rw [wrap_i64 (by omega) (by omega)];omega
    rw [hw,hlen]
    simp only [Int.toNat_natCast]
    refine cond_t (decide_eq_true (by omega)) ⟨by omega,⟨hqd,hb,hb1,by omega,by omega,by omega,by omega,by omega,by simp,by simp,by simp⟩,by omega,by omega,?_⟩
    rw [wrap_u32,wrap_i64 (by omega) (by omega)]
    have e2:(((L/2^(32*(j+b.length)):Nat):Int)%4294967296).toNat=L/2^(32*(j+b.length)):=by
     generalize L/2^(32*(j+b.length))=y at hLlt ⊢
     omega
    rw [e2]
    exact hm
  exact key a.length 0 _ (by omega) (by simp) (Dy.digs_replicate _) (by rw [List.take_replicate,Dy.val_replicate];simp)
 ·cases h
theorem ok_nat_mul (args:List AV) (s:Spec) (h:sMulL args=some s) (hp:andO s.pre True):Contract Tryz.prog Inv 186 args s.res:=by
 unfold sMulL at h
 split at h
 ·cases h
  rename_i a b
  obtain ⟨⟨hal,hbl⟩, -⟩:=hp
  refine contract_at false 68 lamMul ok_tab2 Tryz.func186 (by kernel_rfl) rfl (loops2 (by kernel_rfl) (by kernel_rfl) loop_nat_mul (by kernel_rfl) loop_nat_mul_row) fun hok=> ?_
  have ha:=(oks1_dig hok).1
  have hb:=(oks1_dig (oks1_dig hok).2).1
  rw [vc_nat_mul,wrap_i64 (by omega) (by omega)]
  refine ⟨⟨by omega,by omega,by omega⟩,⟨ha,hb,hal,hbl,by rw [show ((a.length:Int)+b.length).toNat=a.length+b.length by omega],rfl,rfl⟩,?_⟩
  rw [Dy.dg_val_dgN]
  rw [Nat.mul_add,Nat.pow_add]
  exact Nat.mul_lt_mul'' (Dy.val_lt ha.2) (Dy.val_lt hb.2)
 ·cases h
theorem loop_nat_small:LoopOk Tryz.prog (look tab2) lamSmall 2 35 keepSmall (bodyN Tryz.f205 0) lsSmall:=by
 intro vals r h K hK
 unfold lsSmall at h
 split at h
 ·cases h
  rename_i a d o c i
  simp only [evLR] at hK
  obtain ⟨⟨ha,hd0,hd1,rfl,rfl,rfl⟩,hK⟩:=hK
  have ha1:=ha.1
  obtain ⟨d,rfl⟩:=Int.eq_ofNat_of_zero_le (Int.le_of_lt hd0)
  simp only [Int.toNat_natCast] at hK
  have key:∀(j c:Nat) (o:List Nat),j≤a.length→o.length=a.length→Dy.digs o→c<d→Dy.val a%d=(2^(32*j)*c+Dy.val (a.take j))%d→Dy.val a/d=2^(32*j)*Dy.val (o.drop j)+(2^(32*j)*c+Dy.val (a.take j))/d→
    ∃m,iterN Tryz.prog (look tab2) lamSmall 2 35 keepSmall (bodyN Tryz.f205 0) m [.dig [1,2,3] a,.num .u32 d,.grown 152 o,.num .u32 c,.num .i64 ((j:Int)-1)] K:=by
   intro j
   induction j with
   |zero=>
    intro c o hj hol hod hc hm hv
    refine iterN_last ?_
    rw [vc_nat_small_1]
    refine cond_f (decide_eq_false (by omega)) ?_
    simp only [Nat.mul_zero,Nat.pow_zero,Nat.one_mul,List.take_zero,Dy.val,Nat.add_zero,List.drop_zero] at hm hv
    rw [Nat.mod_eq_of_lt hc] at hm
    rw [Nat.div_eq_of_lt hc,Nat.add_zero] at hv
    rw [hm,hv,Dy.dgN_val' hod hol] at hK
    exact hK
   |succ j ih=>
    intro c o hj hol hod hc hm hv
    have hx:=Dy.digs_getD ha.2 j
    have hts:=Dy.val_take_succ (l:=a) (i:=j) (by omega)
    generalize hxx:a.getD j 0=x at hx hts
    have hdp:0<d:=by omega
    have hq:(c*4294967296+x)/d<4294967296:=by
     rw [Nat.div_lt_iff_lt_mul hdp]
     have:(c+1)*4294967296≤d*4294967296:=Nat.mul_le_mul_right _ hc
     rw [Nat.mul_comm 4294967296 d]
     omega
    have hr:(c*4294967296+x)%d<d:=Nat.mod_lt _ hdp
    have hN:2^(32*(j+1))*c+Dy.val (a.take (j+1))=d*(2^(32*j)*((c*4294967296+x)/d))+(2^(32*j)*((c*4294967296+x)%d)+Dy.val (a.take j)):=by
     have h1:=Nat.div_add_mod (c*4294967296+x) d
     generalize (c*4294967296+x)/d=q at h1 ⊢
     generalize (c*4294967296+x)%d=r at h1 ⊢
     rw [hts,Dy.pow_split,Nat.mul_left_comm d]
     have h2:2^(32*j)*(d*q+r)=2^(32*j)*(4294967296*c+x):=by rw [h1,Nat.mul_comm c]
     generalize 2^(32*j)=p at h2 ⊢
     simp only [Nat.mul_add,Nat.mul_assoc] at h2 ⊢
     omega
    have hds:=Dy.val_drop_at (l:=o.set j ((c*4294967296+x)/d)) (i:=j) (by simp;omega)
    rw [Dy.drop_set_succ] at hds
    have hgs:(o.set j ((c*4294967296+x)/d)).getD j 0=(c*4294967296+x)/d:=by simp [List.getD_eq_getElem?_getD,show j<o.length by omega]
    rw [hgs] at hds
    obtain ⟨m,hmm⟩:=ih ((c*4294967296+x)%d) (o.set j ((c*4294967296+x)/d)) (by omega) (by simpa using hol) (Dy.digs_set hod hq) hr
     (by rw [hm,hN,Nat.mul_add_mod]) (by
      rw [hv,hN,hds,Nat.mul_add_div hdp,Dy.pow_split,Nat.mul_add,Nat.mul_assoc]
      omega)
    refine iterN_next m ?_
    rw [vc_nat_small_1]
    have e0:(((j+1:Nat):Int)-1)=(j:Int):=by omega
    rw [e0,Int.toNat_natCast,hxx]
    refine cond_t (decide_eq_true (by omega)) ⟨by omega,by omega,?_⟩
    rintro _ rfl _ rfl
    have e1:(c:Int)*4294967296+(x:Int)=((c*4294967296+x:Nat):Int):=by omega
    rw [e1,←Int.natCast_ediv,←Int.natCast_emod,Int.toNat_natCast,wrap_i64 (by omega) (by omega)]
    exact ⟨by omega,by omega,hmm⟩
  exact key a.length 0 _ (Nat.le_refl _) (by simp) (Dy.digs_replicate _) (by omega) (by simp) (by simp [Dy.val])
 ·cases h
theorem ok_nat_small (args:List AV) (s:Spec) (h:sSmall args=some s) (hp:andO s.pre True):Contract Tryz.prog Inv 205 args s.res:=by
 unfold sSmall at h
 split at h
 ·cases h
  rename_i a d
  obtain ⟨⟨hd,hal⟩, -⟩:=hp
  refine contract_at false 35 lamSmall ok_tab2 Tryz.func205 (by kernel_rfl) rfl (loops1 (by kernel_rfl) (by kernel_rfl) loop_nat_small) fun hok=> ?_
  have ha:=(oks1_dig hok).1
  have hr:=range_u32 (oks1_num (oks1_dig hok).2).1
  rw [vc_nat_small]
  refine ⟨⟨by omega,by omega,by omega⟩,⟨ha,hd,hr.2,by rw [Int.toNat_natCast],rfl,by rw [wrap_i64 (by omega) (by omega)]⟩,?_⟩
  rw [Dy.dg_val_dgN (Nat.lt_of_le_of_lt (Nat.div_le_self _ _) (Dy.val_lt ha.2))]
 ·cases h
theorem loop_nat_up:LoopOk Tryz.prog (look tab2) lamUp 2 50 keepUp (bodyN Tryz.f182 0) lsUp:=by
 intro vals r h K hK
 unfold lsUp at h
 split at h
 ·cases h
  rename_i o s c a k i
  simp only [evLR] at hK
  obtain ⟨⟨ha,ha1,hs0,hs1,hol,rfl,rfl,rfl⟩,hK⟩:=hK
  obtain ⟨s,rfl⟩:=Int.eq_ofNat_of_zero_le hs0
  simp only [Int.toNat_natCast] at hK
  have key:∀(u j c:Nat) (q:List Nat),a.length=u+j→q.length=j→Dy.digs q→c<2^s→Dy.val q+2^(32*j)*(c+2^s*Dy.val (a.drop j))=Dy.val a*2^s→
    ∃m,iterN Tryz.prog (look tab2) lamUp 2 50 keepUp (bodyN Tryz.f182 0) m [.grown 152 (o++q),.num .i64 s,.num .u32 c,.dig [1,2,3] a,.num .i64 a.length,.num .i64 j] K:=by
   intro u
   induction u with
   |zero=>
    intro j c q hj hql hqd hc hv
    refine iterN_last ?_
    rw [vc_nat_up_1]
    refine cond_f (decide_eq_false (by omega)) ?_
    have hja:j=a.length:=by omega
    subst hja
    simp only [List.drop_length,Dy.val,Nat.mul_zero,Nat.add_zero] at hv
    have hq:=Dy.take_dgN hqd (n:=a.length) (c:=c) (y:=Dy.val a*2^s) (by omega) (by rw [List.take_of_length_le (by omega)];exact hv)
    rw [List.take_of_length_le (by omega)] at hq
    rw [←hq.1,←hq.2] at hK
    exact hK
   |succ u ih=>
    intro j c q hj hql hqd hc hv
    have hx:=Dy.digs_getD ha.2 j
    rw [Dy.val_drop_step a] at hv
    generalize hxx:a.getD j 0=x at hx hv
    have hs:2^s*2^(32-s)=4294967296:=by rw [←Nat.pow_add,show s+(32-s)=32 by omega]
    have hc':c<4294967296:=by
     have:2^s≤2^32:=Nat.pow_le_pow_right (by decide) (by omega)
     omega
    have hp:=Nat.two_pow_pos (32-s)
    have e0:x*2^s%4294967296=(x%2^(32-s))*2^s:=by rw [←hs,Nat.mul_comm x,Nat.mul_mod_mul_left,Nat.mul_comm]
    have e1:x*2^s%4294967296+c<4294967296:=by
     rw [e0,←hs]
     have h1:x%2^(32-s)+1≤2^(32-s):=Nat.mod_lt _ hp
     have h2:(x%2^(32-s)+1)*2^s≤2^(32-s)*2^s:=Nat.mul_le_mul_right _ h1
     rw [Nat.add_mul,Nat.one_mul,Nat.mul_comm (2^(32-s)) (2^s)] at h2
     omega
    have hcn:x/2^(32-s)<2^s:=by
     rw [Nat.div_lt_iff_lt_mul hp,hs]
     exact hx
    have hsplit:2^s*x=x*2^s%4294967296+4294967296*(x/2^(32-s)):=by
     rw [e0,←hs,Nat.mul_assoc,Nat.mul_comm (x%_),←Nat.mul_add,Nat.mod_add_div]
    obtain ⟨m,hm⟩:=ih (j+1) (x/2^(32-s)) (q++[x*2^s%4294967296+c]) (by omega) (by simp [hql]) (Dy.digs_append.2 ⟨hqd,Dy.digs_cons.2 ⟨e1,Dy.digs_nil⟩⟩) hcn (by
      rw [←hv,Dy.val_snoc,hql,Dy.pow_split,Nat.mul_add (2^s),hsplit]
      generalize x*2^s%4294967296=lo
      generalize x/2^(32-s)=hi
      generalize 2^(32*j)=p
      rw [Nat.mul_left_comm (2^s) 4294967296]
      simp only [Nat.mul_add,Nat.mul_assoc]
      omega)
    refine iterN_next m ?_
    rw [vc_nat_up_1]
    simp only [Int.toNat_natCast,List.length_cons,List.length_nil]
    rw [hxx]
    have hmin:min s 32=s:=by omega
    have hpow:((2:Int)^s)=((2^s:Nat):Int):=by simp
    have e2:IntKind.u32.wrap ((x:Int)*2^min s 32)=((x*2^s%4294967296:Nat):Int):=by
     rw [hmin,hpow,wrap_u32,←Int.natCast_mul]
     omega
    have e3:(x*2^s%4294967296)|||c=x*2^s%4294967296+c:=by rw [e0,or_low hc]
    rw [e2,w32_or (by omega) (by omega) (by omega) (by omega)]
    simp only [Int.toNat_natCast]
    rw [e3]
    have e4:IntKind.i64.wrap ((32:Int)-(s:Int))=((32-s:Nat):Int):=by rw [wrap_i64 (by omega) (by omega)];omega
    have e5:IntKind.u64.wrap (x:Int)=(x:Int):=by rw [wrap_u64];omega
    rw [e4,e5]
    simp only [Int.toNat_natCast]
    rw [Nat.min_eq_left (by omega:32-s≤64),fdiv_pow (by omega),Int.toNat_natCast]
    have e6:IntKind.u32.wrap ((x/2^(32-s):Nat):Int)=((x/2^(32-s):Nat):Int):=by
     have:x/2^(32-s)≤x:=Nat.div_le_self _ _
     generalize x/2^(32-s)=y at this ⊢
     rw [wrap_u32]
     omega
    rw [e6,wrap_i64 (by omega) (by omega),List.append_assoc]
    exact cond_t (decide_eq_true (by omega)) ⟨by omega,by omega,⟨by omega,by rw [List.length_append];omega⟩,by omega,hm⟩
  have:=key a.length 0 0 [] (by omega) rfl Dy.digs_nil (Nat.two_pow_pos _) (by simp [Dy.val];exact Nat.mul_comm _ _)
  rw [List.append_nil] at this
  exact this
 ·cases h
theorem ok_nat_up (args:List AV) (s:Spec) (h:sUp args=some s) (hp:andO s.pre True):Contract Tryz.prog Inv 182 args s.res:=by
 unfold sUp at h
 split at h
 ·cases h
  rename_i a n
  obtain ⟨⟨hn,hn1,hal⟩, -⟩:=hp
  refine contract_at false 50 lamUp ok_tab2 Tryz.func182 (by kernel_rfl) rfl (loops1 (by kernel_rfl) (by kernel_rfl) loop_nat_up) fun hok=> ?_
  have ha:=(oks1_dig hok).1
  obtain ⟨n,rfl⟩:=Int.eq_ofNat_of_zero_le hn
  rw [vc_nat_up]
  refine cond_i (fun h=> ?_) (fun h=> ?_)
  ·have h:=of_decide_eq_true h
   have:a=[]:=List.length_eq_zero_iff.1 (by omega)
   subst this
   simp [Dy.val,Dy.dg_zero]
  ·have e1:IntKind.i64.wrap ((n:Int).tdiv 32)=((n/32:Nat):Int):=by
    rw [Int.tdiv_eq_ediv_of_nonneg (by omega),wrap_i64 (by omega) (by omega)];omega
   have e2:(n:Int).tmod 32=((n%32:Nat):Int):=by rw [Int.tmod_eq_emod_of_nonneg (by omega)];omega
   rw [e1,e2]
   simp only [Int.toNat_natCast,List.length_replicate,List.length_append,Dy.dgN_length,List.length_cons,List.length_nil]
   rw [wrap_i64 (n:=((n/32:Nat):Int)+(a.length:Int)) (by omega) (by omega),wrap_i64 (by omega) (by omega)]
   refine ⟨⟨by omega,by omega,by omega⟩,⟨ha,hal,by omega,by omega,by omega,by simp,by simp,by simp⟩,⟨by omega,by omega⟩,?_⟩
   rw [Dy.val_snoc,Dy.val_append,Dy.val_replicate,Dy.val_dgN]
   simp only [List.length_append,List.length_replicate,Dy.dgN_length]
   rw [Nat.zero_add,Nat.mul_add,Nat.pow_add,Nat.mul_assoc,←Nat.mul_add,Nat.mod_add_div,Nat.mul_comm,Nat.mul_assoc,←Nat.pow_add,show n%32+32*(n/32)=n by omega]
 ·cases h
theorem down_digit {a:List Nat} (ha:Dy.digs a) {s:Nat} (hs:s<32) (j:Nat):Dy.val a/2^s/2^(32*j)%4294967296=(a.getD j 0/2^s)+(a.getD (j+1) 0*2^(32-s))%4294967296:=by
 have e1:Dy.val a/2^s/2^(32*j)=Dy.val (a.drop j)/2^s:=by
  rw [Dy.val_drop ha,Nat.div_div_eq_div_mul,Nat.div_div_eq_div_mul,Nat.mul_comm]
 rw [e1,Dy.val_drop_step,Dy.val_drop_step a (j+1)]
 have hx:=Dy.digs_getD ha j
 generalize a.getD j 0=x at hx
 generalize a.getD (j+1) 0=y
 generalize Dy.val (a.drop (j+1+1))=r
 have hsp:2^s*2^(32-s)=4294967296:=by rw [←Nat.pow_add,show s+(32-s)=32 by omega]
 have hp:=Nat.two_pow_pos s
 have hp':=Nat.two_pow_pos (32-s)
 have e2:(x+4294967296*(y+4294967296*r))/2^s=x/2^s+2^(32-s)*(y+4294967296*r):=by
  rw [←hsp,Nat.mul_assoc (2^s),Nat.add_mul_div_left _ _ hp]
 have e3:x/2^s<2^(32-s):=by rw [Nat.div_lt_iff_lt_mul hp,Nat.mul_comm,hsp];exact hx
 have e4:y*2^(32-s)%4294967296=(y%2^s)*2^(32-s):=by rw [←hsp,Nat.mul_mod_mul_right]
 have e5:y*2^(32-s)%4294967296+x/2^s<4294967296:=by
  rw [e4,←hsp]
  have h1:y%2^s+1≤2^s:=Nat.mod_lt _ hp
  have h2:(y%2^s+1)*2^(32-s)≤2^s*2^(32-s):=Nat.mul_le_mul_right _ h1
  rw [Nat.add_mul,Nat.one_mul] at h2
  omega
 rw [e2,Nat.mul_add,Nat.mul_left_comm,Nat.mul_comm (2^(32-s)) y]
 generalize x/2^s=u at e5 ⊢
 generalize y*2^(32-s)=v at e5 ⊢
 omega
theorem loop_nat_down:LoopOk Tryz.prog (look tab2) lamDown 2 60 keepDown (bodyN Tryz.f181 0) lsDown:=by
 intro vals r h K hK
 unfold lsDown at h
 split at h
 ·cases h
  rename_i a' s o a k i
  simp only [evLR] at hK
  obtain ⟨⟨rfl,ha,hs0,hs1,rfl,rfl,rfl⟩,hK⟩:=hK
  have ha1:=ha.1
  obtain ⟨s,rfl⟩:=Int.eq_ofNat_of_zero_le hs0
  simp only [Int.toNat_natCast] at hK
  have hs:s<32:=by omega
  have key:∀(u j:Nat) (o:List Nat),a.length=u+j→o.length=a.length→Dy.digs o→o.take j=Dy.dgN j (Dy.val a/2^s)→
    ∃m,iterN Tryz.prog (look tab2) lamDown 2 60 keepDown (bodyN Tryz.f181 0) m [.dig [1,2,3] a,.num .i64 s,.grown 152 o,.dig [1,2,3] a,.num .i64 a.length,.num .i64 j] K:=by
   intro u
   induction u with
   |zero=>
    intro j o hj hol hod hv
    refine iterN_last ?_
    rw [vc_nat_down_1]
    refine cond_f (decide_eq_false (by omega)) ?_
    have hja:j=a.length:=by omega
    subst hja
    rw [List.take_of_length_le (by omega)] at hv
    rw [hv]
    exact hK
   |succ u ih=>
    intro j o hj hol hod hv
    have hdig:=down_digit ha.2 hs j
    have hx:=Dy.digs_getD ha.2 j
    have hy:=Dy.digs_getD ha.2 (j+1)
    have hd:Dy.val a/2^s/2^(32*j)%4294967296<4294967296:=Nat.mod_lt _ (by decide)
    obtain ⟨m,hm⟩:=ih (j+1) (o.set j (Dy.val a/2^s/2^(32*j)%4294967296)) (by omega) (by simpa using hol) (Dy.digs_set hod hd) (by
     rw [Dy.take_set_succ (by omega),hv,Dy.dgN_succ])
    refine iterN_next m ?_
    rw [vc_nat_down_1]
    rw [hdig] at hm hd
    have hw:IntKind.i64.wrap ((j:Int)+1)=((j+1:Nat):Int):=by rw [wrap_i64 (by omega) (by omega)];omega
    rw [hw]
    simp only [Int.toNat_natCast,List.length_set]
    rw [Nat.min_eq_left (by omega:s≤32),fdiv_pow (by omega)]
    simp only [Int.toNat_natCast]
    have hxs:a.getD j 0/2^s≤a.getD j 0:=Nat.div_le_self _ _
    refine cond_t (decide_eq_true (by omega)) ⟨by omega,by omega,by omega,by omega,cond_i (fun h=> ?_) (fun h=> ?_)⟩
    ·have h:=of_decide_eq_true h
     have e4:IntKind.i64.wrap ((32:Int)-(s:Int))=((32-s:Nat):Int):=by rw [wrap_i64 (by omega) (by omega)];omega
     rw [e4]
     simp only [Int.toNat_natCast]
     have hg:(o.set j (a.getD j 0/2^s)).getD j 0=a.getD j 0/2^s:=by simp [List.getD_eq_getElem?_getD,show j<o.length by omega]
     rw [hg,List.set_set,Nat.min_eq_left (by omega:32-s≤64)]
     have hpow:((2:Int)^(32-s))=((2^(32-s):Nat):Int):=by simp
     have hp32:2^(32-s)≤2^32:=Nat.pow_le_pow_right (by decide) (by omega)
     have e5:IntKind.u32.wrap (IntKind.u64.wrap (IntKind.u64.wrap ((a.getD (j+1) 0:Nat):Int)*2^(32-s)))=((a.getD (j+1) 0*2^(32-s)%4294967296:Nat):Int):=by
      rw [hpow]
      have q1:IntKind.u64.wrap ((a.getD (j+1) 0:Nat):Int)=((a.getD (j+1) 0:Nat):Int):=by rw [wrap_u64];omega
      rw [q1,←Int.natCast_mul,wrap_u64,wrap_u32]
      generalize a.getD (j+1) 0*2^(32-s)=v
      omega
     have hlo:a.getD j 0/2^s<2^(32-s):=by
      rw [Nat.div_lt_iff_lt_mul (Nat.two_pow_pos s),←Nat.pow_add,show 32-s+s=32 by omega];exact hx
     have e6:a.getD (j+1) 0*2^(32-s)%4294967296=(a.getD (j+1) 0%2^s)*2^(32-s):=by
      rw [show (4294967296:Nat)=2^s*2^(32-s) by rw [←Nat.pow_add,show s+(32-s)=32 by omega],Nat.mul_mod_mul_right]
     rw [e5,w32_or (by omega) (by omega) (by omega) (by omega)]
     simp only [Int.toNat_natCast]
     rw [e6,Nat.or_comm,or_low hlo,Nat.add_comm (a.getD (j+1) 0%2^s*2^(32-s)),←e6]
     exact ⟨by omega,by omega,by omega,by omega,by omega,by omega,hm⟩
    ·have h:=of_decide_eq_false h
     have hb0:a.getD (j+1) 0=0:=by rw [List.getD_eq_getElem?_getD,List.getElem?_eq_none (by omega)];rfl
     rw [hb0,Nat.zero_mul,Nat.zero_mod,Nat.add_zero] at hm
     exact hm
  exact key a.length 0 _ (by omega) (by simp) (Dy.digs_replicate _) (by simp [Dy.dgN])
 ·cases h
theorem ok_nat_down (args:List AV) (s:Spec) (h:sDown args=some s) (hp:andO s.pre True):Contract Tryz.prog Inv 181 args s.res:=by
 unfold sDown at h
 split at h
 ·cases h
  rename_i a n
  obtain ⟨⟨hn,hal⟩, -⟩:=hp
  refine contract_at false 60 lamDown ok_tab2 Tryz.func181 (by kernel_rfl) rfl (loops1 (by kernel_rfl) (by kernel_rfl) loop_nat_down) fun hok=> ?_
  have ha:=(oks1_dig hok).1
  have hr:=range_i64 (oks1_num (oks1_dig hok).2).1
  obtain ⟨n,rfl⟩:=Int.eq_ofNat_of_zero_le hn
  rw [vc_nat_down]
  have e1:IntKind.i64.wrap ((n:Int).tdiv 32)=((n/32:Nat):Int):=by
   rw [Int.tdiv_eq_ediv_of_nonneg (by omega),wrap_i64 (by omega) (by omega)];omega
  have e2:(n:Int).tmod 32=((n%32:Nat):Int):=by rw [Int.tmod_eq_emod_of_nonneg (by omega)];omega
  rw [e1,e2]
  simp only [Int.toNat_natCast]
  have hpow:2^(32*(n/32))*2^(n%32)=2^n:=by rw [←Nat.pow_add,show 32*(n/32)+n%32=n by omega]
  refine cond_i (fun h=> ?_) (fun h=> ?_)
  ·have h:=of_decide_eq_true h
   have h0:Dy.val a/2^n=0:=Nat.div_eq_of_lt (Nat.lt_of_lt_of_le (Dy.val_lt ha.2) (Nat.pow_le_pow_right (by decide) (by omega)))
   rw [h0,Dy.dg_zero]
  ·have h:=of_decide_eq_false h
   have hl:(a.drop (n/32)).length≤a.length:=by simp
   refine ⟨by omega,⟨by omega,by omega,by omega⟩,⟨by simp,Dy.okl_drop ha _,by omega,by omega,by simp,by simp,by simp⟩,?_⟩
   rw [Dy.dg_val_dgN (Nat.lt_of_le_of_lt (Nat.div_le_self _ _) (Dy.val_lt (Dy.digs_drop ha.2 _))),Dy.val_drop ha.2,Nat.div_div_eq_div_mul,hpow]
 ·cases h
theorem ok_nat_Len (args:List AV) (s:Spec) (h:sLen args=some s) (hp:andO s.pre True):Contract Tryz.prog Inv 144 args s.res:=by
 unfold sLen at h
 split at h
 ·cases h
  rename_i a
  refine contract0 false ok_tab2 Tryz.func144 (by kernel_rfl) (by kernel_rfl) fun hok=> ?_
  have ha:=(oks1_dig hok).1
  have ha1:=ha.1
  rw [vc_nat_Len]
  refine cond_i (fun h=> ?_) (fun h=>cond_i (fun h'=> ?_) (fun h'=> ?_))
  ·simp at h
   unfold Dy.lenN
   rw [h]
   rfl
  ·have h':=of_decide_eq_true h'
   have:a=[]:=List.length_eq_zero_iff.1 (by omega)
   subst this
   have e:Dy.lenN []=0:=by unfold Dy.lenN;split<;>rfl
   rw [e]
   rfl
  ·have h':=of_decide_eq_false h'
   simp only [Bool.not_eq_false'] at h
   have hm:=Dy.may_len h
   have hne:a≠[]:=fun e=>h' (by rw [e];rfl)
   have hc:=(Dy.can_iff ha.2).1 (Dy.may_dg h)
   have hb:=Dy.bl_digits ha.2 hne (hc.resolve_left hne)
   have hx:=Dy.digs_getD ha.2 (a.length-1)
   rw [wrap_i64 (n:=(a.length:Int)-1) (by omega) (by omega),show ((a.length:Int)-1).toNat=a.length-1 by omega]
   refine ⟨by omega,?_⟩
   rw [Int.toNat_natCast,Dy.bitLen_eq (by omega)]
   unfold Dy.lenN
   rw [if_pos h,hb]
   have hbx:=(Dy.bl_le (n:=a.getD (a.length-1) 0) (k:=32)).2 hx
   rw [wrap_i64 (n:=32*((a.length:Int)-1)) (by omega) (by omega),wrap_i64 (by omega) (by omega)]
   congr 1
   omega
 ·cases h
theorem loop_nat_Low:LoopOk Tryz.prog (look tab2) lamLow 1 23 keepLow (bodyN Tryz.f171 0) lsLow:=by
 intro vals r h K hK
 unfold lsLow at h
 split at h
 ·cases h
  rename_i r a k i
  simp only [evLR] at hK
  obtain ⟨⟨ha,ha1,rfl,rfl⟩,hK⟩:=hK
  have key:∀(u j:Nat),a.length=u+j→Dy.val (a.take j)=0→
    ∃m,iterN Tryz.prog (look tab2) lamLow 1 23 keepLow (bodyN Tryz.f171 0) m [.num .i64 r,.dig [1,2] a,.num .i64 a.length,.num .i64 j] K:=by
   intro u
   induction u with
   |zero=>
    intro j hj hv
    refine iterN_last ?_
    rw [vc_nat_Low_1]
    refine cond_f (decide_eq_false (by omega)) ?_
    have hja:j=a.length:=by omega
    subst hja
    rw [List.take_length] at hv
    rw [decide_eq_true hv] at hK
    exact hK
   |succ u ih=>
    intro j hj hv
    have hx:=Dy.digs_getD ha.2 j
    by_cases c:a.getD j 0=0
    ·obtain ⟨m,hm⟩:=ih (j+1) (by omega) (by rw [Dy.val_take_succ (by omega),hv,c];simp)
     refine iterN_next m ?_
     rw [vc_nat_Low_1,Int.toNat_natCast,wrap_i64 (n:=(j:Int)+1) (by omega) (by omega)]
     exact cond_t (decide_eq_true (by omega)) ⟨by omega,cond_f (by rw [decide_eq_true (by omega)];rfl) hm⟩
    ·refine iterN_last ?_
     rw [vc_nat_Low_1,Int.toNat_natCast]
     have htz:=Dy.tz_digits hv (by omega) c hx
     have hne:Dy.val a≠0:=by
      rw [Dy.val_take_drop a j (by omega),hv,Nat.zero_add,Dy.val_drop_step]
      have:=Nat.two_pow_pos (32*j)
      exact Nat.mul_ne_zero (by omega) (by omega)
     rw [decide_eq_false hne] at hK
     have h32:Dy.tz (a.getD j 0)<32:=by
      have:=Dy.tz_lt_bl c
      have:=(Dy.bl_le (n:=a.getD j 0) (k:=32)).2 hx
      omega
     refine cond_t (decide_eq_true (by omega)) ⟨by omega,cond_t (by rw [decide_eq_false (by omega)];rfl) ⟨by omega,?_⟩⟩
     rw [Int.toNat_natCast,Dy.ctz_eq c hx,wrap_i64 (n:=32*(j:Int)) (by omega) (by omega),wrap_i64 (by omega) (by omega)]
     have e1:(32*(j:Int)+(Dy.tz (a.getD j 0):Int))=((Dy.tz (Dy.val a):Nat):Int):=by omega
     have e2:(j:Int)=((Dy.tz (Dy.val a)/32:Nat):Int):=by omega
     rw [e1]
     simp only [cond_false,←e2] at hK
     exact hK
  exact key a.length 0 (by omega) rfl
 ·cases h
theorem ok_nat_Low (args:List AV) (s:Spec) (h:sLow args=some s) (hp:andO s.pre True):Contract Tryz.prog Inv 171 args s.res:=by
 unfold sLow at h
 split at h
 ·cases h
  rename_i a
  refine contract_at false 23 lamLow ok_tab2 Tryz.func171 (by kernel_rfl) rfl (loops1 (by kernel_rfl) (by kernel_rfl) loop_nat_Low) fun hok=> ?_
  have ha:=(oks1_dig hok).1
  rw [vc_nat_Low]
  unfold Dy.lowN
  refine cond_i (fun h=> ?_) (fun h=> ?_)
  ·simp at h
   rw [h]
   rfl
  ·simp only [Bool.not_eq_false'] at h
   have hm:=Dy.may_len h
   refine ⟨⟨ha,by omega,rfl,rfl⟩,cond_i (fun h'=> ?_) (fun h'=> ?_)⟩
   ·rw [if_pos h,of_decide_eq_true h',Dy.tz_zero]
    rfl
   ·rw [if_pos h]
 ·cases h
theorem ok_tab3:PhiOk Tryz.prog Inv (look tab3):=
 look_cons (look_cons (look_cons (look_cons (look_cons (look_cons (look_cons (look_cons ok_tab2 ok_nat_Add) ok_nat_Low) ok_nat_Len) ok_nat_down) ok_nat_up) ok_nat_small) ok_nat_mul) ok_nat_sub
theorem ok_nat_Sub (args:List AV) (s:Spec) (h:sSub args=some s) (hp:andO s.pre True):Contract Tryz.prog Inv 207 args s.res:=by
 unfold sSub at h
 split at h
 ·cases h
  rename_i a b
  refine contract0 false ok_tab3 Tryz.func207 (by kernel_rfl) (by kernel_rfl) fun hok=> ?_
  rw [vc_nat_Sub]
  unfold Dy.subR
  refine cond_i (fun h=> ?_) (fun h=> ?_)
  ·simp only [Bool.not_eq_true'] at h
   rw [h]
   rfl
  ·simp only [Bool.not_eq_false'] at h
   obtain ⟨m1,m2⟩:=(Bool.and_eq_true_iff).1 h
   have:=Dy.may_len m1
   rw [h]
   unfold Dy.subN
   refine ⟨⟨Dy.may_dg m1,Dy.may_dg m2⟩,cond_i (fun h'=> ?_) (fun h'=> ?_)⟩
   ·have h':=Dy.cmpN_neg.1 (of_decide_eq_true h')
    simp only [if_true,if_pos h']
   ·have h':¬Dy.val a<Dy.val b:=fun e=>of_decide_eq_false h' (Dy.cmpN_neg.2 e)
    simp only [if_true,if_neg h']
    exact ⟨by omega,trivial⟩
 ·cases h
theorem ok_nat_Cmp (args:List AV) (s:Spec) (h:sCmpX args=some s) (hp:andO s.pre True):Contract Tryz.prog Inv 210 args s.res:=by
 unfold sCmpX at h
 split at h
 ·cases h
  rename_i a b
  refine contract0 false ok_tab3 Tryz.func210 (by kernel_rfl) (by kernel_rfl) fun hok=> ?_
  rw [vc_nat_Cmp]
  unfold Dy.cmpR
  refine cond_i (fun h=> ?_) (fun h=> ?_)
  ·simp only [Bool.not_eq_true'] at h
   rw [h]
   rfl
  ·simp only [Bool.not_eq_false'] at h
   obtain ⟨m1,m2⟩:=(Bool.and_eq_true_iff).1 h
   rw [h]
   exact ⟨⟨Dy.may_dg m1,Dy.may_dg m2⟩,rfl⟩
 ·cases h
theorem ok_nat_Mul (args:List AV) (s:Spec) (h:sMul args=some s) (hp:andO s.pre True):Contract Tryz.prog Inv 202 args s.res:=by
 unfold sMul at h
 split at h
 ·cases h
  rename_i a b
  refine contract0 false ok_tab3 Tryz.func202 (by kernel_rfl) (by kernel_rfl) fun hok=> ?_
  rw [vc_nat_Mul]
  unfold Dy.mulR
  refine cond_i (fun h=> ?_) (fun h=> ?_)
  ·simp only [Bool.not_eq_true'] at h
   rw [h]
   rfl
  ·simp only [Bool.not_eq_false'] at h
   obtain ⟨m1,m2⟩:=(Bool.and_eq_true_iff).1 h
   have l1:=Dy.may_len m1
   have l2:=Dy.may_len m2
   rw [h,Dy.bound_eq]
   refine cond_i (fun h1=>cond_i (fun h2=>cond_i (fun h3=> ?_) (fun h3=>⟨by omega,by rintro _ rfl _ rfl;rfl⟩)) (fun h2=>⟨by omega,by rintro _ rfl _ rfl;rfl⟩)) (fun h1=>⟨by omega,by rintro _ rfl _ rfl;rfl⟩)
   have h1:=of_decide_eq_true h1
   have h2:=of_decide_eq_true h2
   have h3:=of_decide_eq_true h3
   rw [wrap_i64 (n:=(a.length:Int)+b.length) (by omega) (by omega),wrap_i64 (by omega) (by omega)] at h3
   have n1:Dy.val a≠0:=fun e=>by have:=(Dy.may_nil m1).1 e;subst this;simp at h1
   have n2:Dy.val b≠0:=fun e=>by have:=(Dy.may_nil m2).1 e;subst this;simp at h2
   have q1:=Dy.le_of_length n1
   have q2:=Dy.le_of_length n2
   rw [Dy.may_dg m1] at q1
   rw [Dy.may_dg m2] at q2
   have q3:¬(Dy.dg (Dy.val a*Dy.val b)).length≤4096:=Dy.long_mul q1 q2 (by omega)
   rw [if_neg q3,if_neg q3]
 ·cases h
theorem ok_nat_Shift (args:List AV) (s:Spec) (h:sShift args=some s) (hp:andO s.pre True):Contract Tryz.prog Inv 145 args s.res:=by
 unfold sShift at h
 split at h
 ·cases h
  rename_i a n
  refine contract0 false ok_tab3 Tryz.func145 (by kernel_rfl) (by kernel_rfl) fun hok=> ?_
  have ha:=(oks1_dig hok).1
  have hr:=range_i64 (oks1_num (oks1_dig hok).2).1
  rw [vc_nat_Shift]
  unfold Dy.shiftN
  refine cond_i (fun h=> ?_) (fun h=>cond_i (fun h1=> ?_) (fun h1=> ?_))
  ·simp only [Bool.not_eq_true'] at h
   simp only [h]
   rfl
  ·have h1:=of_decide_eq_true h1
   have:a=[]:=List.length_eq_zero_iff.1 (by omega)
   subst this
   simp only [Bool.not_eq_false'] at h
   simp only [h,if_true,Dy.val]
  ·simp only [Bool.not_eq_false'] at h
   have h1:=of_decide_eq_false h1
   have hl:=Dy.may_len h
   have hv:Dy.val a≠0:=fun e=>h1 (by rw [(Dy.may_nil h).1 e];rfl)
   have hbl:Dy.bl (Dy.val a)≤32*a.length:=Dy.bl_le.2 (Dy.val_lt ha.2)
   have htz:=Dy.tz_lt_bl hv
   simp only [if_pos h,if_neg hv,Dy.lowN,Dy.lenN]
   refine cond_i (fun h2=> ?_) (fun h2=>cond_i (fun h3=> ?_) (fun h3=> ?_))
   ·have h2:=of_decide_eq_true h2
    have h0:Dy.val a/2^(-n).toNat=0:=Nat.div_eq_of_lt (Nat.lt_of_lt_of_le (Dy.val_lt ha.2) (Nat.pow_le_pow_right (by decide) (by omega)))
    rw [if_pos (by omega),h0,Dy.dg_zero,decide_eq_true (by omega)]
   ·have h2:=of_decide_eq_false h2
    have h3:=of_decide_eq_true h3
    rw [if_pos h3,wrap_i64 (by omega) (by omega),show (0:Int)-n= -n by omega]
    exact ⟨by omega,rfl⟩
   ·have h3:=of_decide_eq_false h3
    rw [if_neg h3,wrap_i64 (by omega) (by omega)]
    refine cond_i (fun h4=> ?_) (fun h4=> ?_)
    ·have h4:=of_decide_eq_true h4
     rw [if_pos (by omega)]
    ·have h4:=of_decide_eq_false h4
     rw [if_neg (by omega)]
     exact ⟨by omega,rfl⟩
 ·cases h
theorem ok_tab4:PhiOk Tryz.prog Inv (look tab4):=look_cons (look_cons (look_cons (look_cons ok_tab3 ok_nat_Shift) ok_nat_Cmp) ok_nat_Mul) ok_nat_Sub
end Go.AI

namespace Go.Dy
def diffU:List Nat→List Nat→Nat
 |x::a,y::b=>if x=y then diffU a b+1 else 0
 |_,_=>0
end Go.Dy
namespace Go.AI
open Go Go.RowKit Go.Proofs
set_option linter.unusedVariables false
def sSame:List AV→Option Spec
 |[.dig [1] a,.dig [2] b]=>some ⟨none,.bool (decide (a=b))⟩
 |_=>none
def rAdd:List AV→Option Spec
 |[.dig [1] a,.dig [2] b]=>some ⟨some (a.length≤1048576∧b.length≤1048576),.dig [0] (Dy.dg (Dy.val a+Dy.val b))⟩
 |_=>none
def rLen:List AV→Option Spec
 |[.dig [1] a]=>some ⟨some (Dy.dg (Dy.val a)=a∧a.length≤1048576),.num .i64 (Dy.bl (Dy.val a):Nat)⟩
 |_=>none
def rBit:List AV→Option Spec
 |[.dig [1] a,.num .i64 i]=>some ⟨none,.num .u32 (if i<0 then 0 else Dy.val a/2^i.toNat%2:Nat)⟩
 |_=>none
def rLow:List AV→Option Spec
 |[.dig [1] a]=>some ⟨some (Dy.dg (Dy.val a)=a∧a.length≤1048576),.num .i64 (Dy.tz (Dy.val a):Nat)⟩
 |_=>none
def rDown:List AV→Option Spec
 |[.dig [1] a,.num .i64 n]=>some ⟨some (Dy.dg (Dy.val a)=a∧0≤n∧a.length≤1048576),.tup [.dig [0] (Dy.dg (Dy.val a/2^n.toNat)),.bool (decide (Dy.val a≠0∧(Dy.tz (Dy.val a):Int)<n))]⟩
 |_=>none
def tab5:List (Nat×(List AV→Option Spec)):=(113,sTrim)::tab4
def tab6:List (Nat×(List AV→Option Spec)):=(55,sOf)::(166,sSame)::(116,sCmp)::(115,rAdd)::(117,sSubL)::(96,rLen)::(162,rBit)::(98,sUp)::tab5
def tab7:List (Nat×(List AV→Option Spec)):=(111,rLow)::tab6
def tab8:List (Nat×(List AV→Option Spec)):=(112,rDown)::tab7
end Go.AI

namespace Go.AI
open Dy IntKind
open Go Go.RowKit Go.Proofs
set_option linter.unusedVariables false
set_option maxRecDepth 100000
set_option maxHeartbeats 0
def lsRTrim:List AV→Option LR
 |[.dig [1,2] l,.num .i64 n]=>some (.need (Dy.okl l∧n=l.length) (.done (.exit 0) [.dig [1,2] l,.num .i64 (Dy.dg (Dy.val l)).length]))
 |_=>none
def keepRTrim:List (Nat×Keep):=[(0,.same),(3,.same)]
def lamRTrim:=lam [(2,.spec keepRTrim lsRTrim)]
theorem vc_ref_Trim (l:List Nat) (Q:AV→Prop):(evF Tryz.prog (look tab4) lamRTrim true Tryz.f113 [.dig [1] l] Q)=((okl l∧(↑l.length:Int)=(↑l.length:Int))∧((0:Int)≤(↑(dg (val l)).length:Int)∧(↑(dg (val l)).length:Int)≤(↑l.length:Int))∧Q (.dig [0,1] (List.take (↑(dg (val l)).length:Int).toNat l))):=by kernel_rfl
theorem vc_ref_Trim_1 (l:List Nat) (n:Int) (K:Exit→List AV→Prop):(evIter Tryz.prog (look tab4) lamRTrim (1:Nat) (21:Nat) keepRTrim (bodyN Tryz.f113 (0:Nat)) [.dig [1,2] l,.num .i64 n] K)=(bif decide (n>(0:Int)) then ((0:Int)≤i64.wrap (n-(1:Int))∧i64.wrap (n-(1:Int))<(↑l.length:Int))∧bif decide ((↑(l.getD (i64.wrap (n-(1:Int))).toNat (0:Nat)):Int)=(0:Int)) then K Exit.normal [.dig [1,2] l,.num .i64 (i64.wrap (n-(1:Int)))] else K (Exit.exit (0:Nat)) [.dig [1,2] l,.num .i64 n] else K (Exit.exit (0:Nat)) [.dig [1,2] l,.num .i64 n]):=by kernel_rfl
theorem vc_ref_Of (n:Int) (Q:AV→Prop):(evF Tryz.prog (look tab5) (lam []) false Tryz.f55 [.num .u64 n] Q)=(Q (.dig [0] (dg (val [(u32.wrap n).toNat,(u32.wrap (n.fdiv ((2:Int)^(32:Nat)))).toNat])))):=by kernel_rfl
def lsSame:List AV→Option LR
 |[.dig [1,2,3] a,.dig [1,2,3] b,.bool r,.num .i64 i]=>some (.need (a.length=b.length∧i=0∧Dy.okl a) (.test (decide (a=b)) (.done (.exit 0) [.dig [1,2,3] a,.dig [1,2,3] b,.bool r,.num .i64 a.length])
 (.done .ret [.dig [1,2,3] a,.dig [1,2,3] b,.bool false,.num .i64 (Dy.diffU a b:Nat)])))
 |_=>none
def keepSame:List (Nat×Keep):=[(0,.same),(1,.same),(4,.same),(5,.same)]
def lamSame:=lam [(4,.spec keepSame lsSame)]
theorem vc_ref_Same (a:List Nat) (b:List Nat) (Q:AV→Prop):(evF Tryz.prog (look tab5) lamSame false Tryz.f166 [.dig [1] a,.dig [2] b] Q)=(bif !decide ((↑a.length:Int)=(↑b.length:Int)) then Q (.bool false) else (a.length=b.length∧(0:Int)=(0:Int)∧okl a)∧bif decide (a=b) then Q (.bool true) else Q (.bool false)):=by kernel_rfl
theorem vc_ref_Same_1 (a:List Nat) (b:List Nat) (r:Bool) (i:Int) (K:Exit→List AV→Prop):(evIter Tryz.prog (look tab5) lamSame (2:Nat) (26:Nat) keepSame (bodyN Tryz.f166 (0:Nat)) [.dig [1,2,3] a,.dig [1,2,3] b,.bool r,.num .i64 i] K)=(bif decide (i<(↑a.length:Int)) then (0≤i∧i<(↑a.length:Int))∧(0≤i∧i<(↑b.length:Int))∧bif !decide ((↑(a.getD i.toNat (0:Nat)):Int)=(↑(b.getD i.toNat (0:Nat)):Int)) then K Exit.ret [.dig [1,2,3] a,.dig [1,2,3] b,.bool false,.num .i64 i] else K Exit.normal [.dig [1,2,3] a,.dig [1,2,3] b,.bool r,.num .i64 (i64.wrap (i+(1:Int)))] else K (Exit.exit (0:Nat)) [.dig [1,2,3] a,.dig [1,2,3] b,.bool r,.num .i64 i]):=by kernel_rfl
def lsRCmp:List AV→Option LR
 |[.dig [1,2,3] a,.dig [1,2,3] b,.num .i64 r,.num .i64 i]=>some (.need (a.length=b.length∧ -1≤i∧i<a.length∧a.length≤2^45) (.test (decide (0≤Dy.diffI a b (i+1).toNat))
 (.done .ret [.dig [1,2,3] a,.dig [1,2,3] b,.num .i64 (if a.getD (Dy.diffI a b (i+1).toNat).toNat 0<b.getD (Dy.diffI a b (i+1).toNat).toNat 0 then -1 else 1),.num .i64 (Dy.diffI a b (i+1).toNat)])
 (.done (.exit 0) [.dig [1,2,3] a,.dig [1,2,3] b,.num .i64 r,.num .i64 (-1)])))
 |_=>none
def lamRCmp:=lam [(6,.spec [(0,.same),(1,.same),(4,.same),(5,.same)] lsRCmp)]
theorem vc_ref_Cmp (a:List Nat) (b:List Nat) (Q:AV→Prop):(evF Tryz.prog (look tab5) lamRCmp false Tryz.f116 [.dig [1] a,.dig [2] b] Q)=(bif !decide ((↑a.length:Int)=(↑b.length:Int)) then bif decide ((↑a.length:Int)<(↑b.length:Int)) then Q (.num .i64 (-1)) else Q (.num .i64 1) else (a.length=b.length∧(-1:Int)≤i64.wrap ((↑a.length:Int)-(1:Int))∧i64.wrap ((↑a.length:Int)-(1:Int))<(↑a.length:Int)∧a.length≤35184372088832)∧bif decide (0≤diffI a b (i64.wrap ((↑a.length:Int)-(1:Int))+(1:Int)).toNat) then Q (.num .i64 (if a.getD (diffI a b (i64.wrap ((↑a.length:Int)-(1:Int))+(1:Int)).toNat).toNat (0:Nat)<b.getD (diffI a b (i64.wrap ((↑a.length:Int)-(1:Int))+(1:Int)).toNat).toNat (0:Nat) then (-1:Int) else (1:Int))) else Q (.num .i64 0)):=by kernel_rfl
theorem vc_ref_Cmp_1 (a:List Nat) (b:List Nat) (i:Int) (r:Int) (K:Exit→List AV→Prop):(evIter Tryz.prog (look tab5) lamRCmp (2:Nat) (41:Nat) [((0:Nat),Keep.same),((1:Nat),Keep.same),((4:Nat),Keep.same),((5:Nat),Keep.same)] (bodyN Tryz.f116 (0:Nat)) [.dig [1,2,3] a,.dig [1,2,3] b,.num .i64 r,.num .i64 i] K)=(bif decide (i≥(0:Int)) then (0≤i∧i<(↑a.length:Int))∧(0≤i∧i<(↑b.length:Int))∧bif decide ((↑(a.getD i.toNat (0:Nat)):Int)<(↑(b.getD i.toNat (0:Nat)):Int)) then K Exit.ret [.dig [1,2,3] a,.dig [1,2,3] b,.num .i64 (-1),.num .i64 i] else (0≤i∧i<(↑a.length:Int))∧(0≤i∧i<(↑b.length:Int))∧bif decide ((↑(a.getD i.toNat (0:Nat)):Int)>(↑(b.getD i.toNat (0:Nat)):Int)) then K Exit.ret [.dig [1,2,3] a,.dig [1,2,3] b,.num .i64 1,.num .i64 i] else K Exit.normal [.dig [1,2,3] a,.dig [1,2,3] b,.num .i64 r,.num .i64 (i64.wrap (i-(1:Int)))] else K (Exit.exit (0:Nat)) [.dig [1,2,3] a,.dig [1,2,3] b,.num .i64 r,.num .i64 i]):=by kernel_rfl
def lsRAdd:List AV→Option LR
 |[.dig [1,2,3] a,.dig [1,2,3] b,.grown 152 o,.num .u64 c,.num .i64 i]=>
 some (.need (Dy.okl a∧Dy.okl b∧a.length≤1048576∧b.length≤1048576∧o=[]∧c=0∧i=0)
 (.done (.exit 0) [.dig [1,2,3] a,.dig [1,2,3] b,.grown 152 (Dy.dgN (max a.length b.length) (Dy.val a+Dy.val b)),.num .u64 ((Dy.val a+Dy.val b)/2^(32*max a.length b.length):Nat),.num .i64 (max a.length b.length:Nat)]))
 |_=>none
def keepRAdd:List (Nat×Keep):=[(0,.same),(1,.same),(5,.grow 152),(6,.same),(7,.same)]
def lamRAdd:=lam [(4,.spec keepRAdd lsRAdd)]
theorem vc_ref_Add (a:List Nat) (b:List Nat) (Q:AV→Prop):(evF Tryz.prog (look tab5) lamRAdd false Tryz.f115 [.dig [1] a,.dig [2] b] Q)=((okl a∧okl b∧a.length≤1048576∧b.length≤1048576∧([]:List Nat)=[]∧(0:Int)=(0:Int)∧(0:Int)=(0:Int))∧((0:Nat)≤[(u32.wrap (↑((val a+val b)/(2:Nat)^((32:Nat)*max a.length b.length)):Int)).toNat].length∧(dgN (max a.length b.length) (val a+val b)).length+[(u32.wrap (↑((val a+val b)/(2:Nat)^((32:Nat)*max a.length b.length)):Int)).toNat].length≤1099511627776)∧Q (.dig [0] (dg (val (dgN (max a.length b.length) (val a+val b)++[(u32.wrap (↑((val a+val b)/(2:Nat)^((32:Nat)*max a.length b.length)):Int)).toNat]))))):=by kernel_rfl
theorem vc_ref_Add_1 (a:List Nat) (b:List Nat) (o:List Nat) (c:Int) (i:Int) (K:Exit→List AV→Prop):(evIter Tryz.prog (look tab5) lamRAdd (2:Nat) (55:Nat) keepRAdd (bodyN Tryz.f115 (0:Nat)) [.dig [1,2,3] a,.dig [1,2,3] b,.grown (152:TypeId) o,.num .u64 c,.num .i64 i] K)=(bif decide (i<(↑a.length:Int)) then bif decide (i<(↑a.length:Int)) then (0≤i∧i<(↑a.length:Int))∧bif decide (i<(↑b.length:Int)) then (0≤i∧i<(↑b.length:Int))∧((0:Nat)≤[(u32.wrap (u64.wrap (u64.wrap (c+u64.wrap (↑(a.getD i.toNat (0:Nat)):Int))+u64.wrap (↑(b.getD i.toNat (0:Nat)):Int)))).toNat].length∧o.length+[(u32.wrap (u64.wrap (u64.wrap (c+u64.wrap (↑(a.getD i.toNat (0:Nat)):Int))+u64.wrap (↑(b.getD i.toNat (0:Nat)):Int)))).toNat].length≤1099511627776)∧K Exit.normal [.dig [1,2,3] a,.dig [1,2,3] b,.grown (152:Nat) (o++[(u32.wrap (u64.wrap (u64.wrap (c+u64.wrap (↑(a.getD i.toNat (0:Nat)):Int))+u64.wrap (↑(b.getD i.toNat (0:Nat)):Int)))).toNat]),.num .u64 ((u64.wrap (u64.wrap (c+u64.wrap (↑(a.getD i.toNat (0:Nat)):Int))+u64.wrap (↑(b.getD i.toNat (0:Nat)):Int))).fdiv ((2:Int)^(32:Nat))),.num .i64 (i64.wrap (i+(1:Int)))] else ((0:Nat)≤[(u32.wrap (u64.wrap (c+u64.wrap (↑(a.getD i.toNat (0:Nat)):Int)))).toNat].length∧o.length+[(u32.wrap (u64.wrap (c+u64.wrap (↑(a.getD i.toNat (0:Nat)):Int)))).toNat].length≤1099511627776)∧K Exit.normal [.dig [1,2,3] a,.dig [1,2,3] b,.grown (152:Nat) (o++[(u32.wrap (u64.wrap (c+u64.wrap (↑(a.getD i.toNat (0:Nat)):Int)))).toNat]),.num .u64 ((u64.wrap (c+u64.wrap (↑(a.getD i.toNat (0:Nat)):Int))).fdiv ((2:Int)^(32:Nat))),.num .i64 (i64.wrap (i+(1:Int)))] else bif decide (i<(↑b.length:Int)) then (0≤i∧i<(↑b.length:Int))∧((0:Nat)≤[(u32.wrap (u64.wrap (c+u64.wrap (↑(b.getD i.toNat (0:Nat)):Int)))).toNat].length∧o.length+[(u32.wrap (u64.wrap (c+u64.wrap (↑(b.getD i.toNat (0:Nat)):Int)))).toNat].length≤1099511627776)∧K Exit.normal [.dig [1,2,3] a,.dig [1,2,3] b,.grown (152:Nat) (o++[(u32.wrap (u64.wrap (c+u64.wrap (↑(b.getD i.toNat (0:Nat)):Int)))).toNat]),.num .u64 ((u64.wrap (c+u64.wrap (↑(b.getD i.toNat (0:Nat)):Int))).fdiv ((2:Int)^(32:Nat))),.num .i64 (i64.wrap (i+(1:Int)))] else ((0:Nat)≤[(u32.wrap c).toNat].length∧o.length+[(u32.wrap c).toNat].length≤1099511627776)∧K Exit.normal [.dig [1,2,3] a,.dig [1,2,3] b,.grown (152:Nat) (o++[(u32.wrap c).toNat]),.num .u64 (c.fdiv ((2:Int)^(32:Nat))),.num .i64 (i64.wrap (i+(1:Int)))] else bif decide (i<(↑b.length:Int)) then bif decide (i<(↑a.length:Int)) then (0≤i∧i<(↑a.length:Int))∧bif decide (i<(↑b.length:Int)) then (0≤i∧i<(↑b.length:Int))∧((0:Nat)≤[(u32.wrap (u64.wrap (u64.wrap (c+u64.wrap (↑(a.getD i.toNat (0:Nat)):Int))+u64.wrap (↑(b.getD i.toNat (0:Nat)):Int)))).toNat].length∧o.length+[(u32.wrap (u64.wrap (u64.wrap (c+u64.wrap (↑(a.getD i.toNat (0:Nat)):Int))+u64.wrap (↑(b.getD i.toNat (0:Nat)):Int)))).toNat].length≤1099511627776)∧K Exit.normal [.dig [1,2,3] a,.dig [1,2,3] b,.grown (152:Nat) (o++[(u32.wrap (u64.wrap (u64.wrap (c+u64.wrap (↑(a.getD i.toNat (0:Nat)):Int))+u64.wrap (↑(b.getD i.toNat (0:Nat)):Int)))).toNat]),.num .u64 ((u64.wrap (u64.wrap (c+u64.wrap (↑(a.getD i.toNat (0:Nat)):Int))+u64.wrap (↑(b.getD i.toNat (0:Nat)):Int))).fdiv ((2:Int)^(32:Nat))),.num .i64 (i64.wrap (i+(1:Int)))] else ((0:Nat)≤[(u32.wrap (u64.wrap (c+u64.wrap (↑(a.getD i.toNat (0:Nat)):Int)))).toNat].length∧o.length+[(u32.wrap (u64.wrap (c+u64.wrap (↑(a.getD i.toNat (0:Nat)):Int)))).toNat].length≤1099511627776)∧K Exit.normal [.dig [1,2,3] a,.dig [1,2,3] b,.grown (152:Nat) (o++[(u32.wrap (u64.wrap (c+u64.wrap (↑(a.getD i.toNat (0:Nat)):Int)))).toNat]),.num .u64 ((u64.wrap (c+u64.wrap (↑(a.getD i.toNat (0:Nat)):Int))).fdiv ((2:Int)^(32:Nat))),.num .i64 (i64.wrap (i+(1:Int)))] else bif decide (i<(↑b.length:Int)) then (0≤i∧i<(↑b.length:Int))∧((0:Nat)≤[(u32.wrap (u64.wrap (c+u64.wrap (↑(b.getD i.toNat (0:Nat)):Int)))).toNat].length∧o.length+[(u32.wrap (u64.wrap (c+u64.wrap (↑(b.getD i.toNat (0:Nat)):Int)))).toNat].length≤1099511627776)∧K Exit.normal [.dig [1,2,3] a,.dig [1,2,3] b,.grown (152:Nat) (o++[(u32.wrap (u64.wrap (c+u64.wrap (↑(b.getD i.toNat (0:Nat)):Int)))).toNat]),.num .u64 ((u64.wrap (c+u64.wrap (↑(b.getD i.toNat (0:Nat)):Int))).fdiv ((2:Int)^(32:Nat))),.num .i64 (i64.wrap (i+(1:Int)))] else ((0:Nat)≤[(u32.wrap c).toNat].length∧o.length+[(u32.wrap c).toNat].length≤1099511627776)∧K Exit.normal [.dig [1,2,3] a,.dig [1,2,3] b,.grown (152:Nat) (o++[(u32.wrap c).toNat]),.num .u64 (c.fdiv ((2:Int)^(32:Nat))),.num .i64 (i64.wrap (i+(1:Int)))] else K (Exit.exit (0:Nat)) [.dig [1,2,3] a,.dig [1,2,3] b,.grown (152:Nat) o,.num .u64 c,.num .i64 i]):=by kernel_rfl
def lsRSub:List AV→Option LR
 |[.dig [1,2,3] a,.dig [1,2,3] b,.grown 152 o,.num .u64 c,.num .i64 i]=>
 some (.need (Dy.okl a∧Dy.okl b∧a.length≤1048576∧Dy.val b≤Dy.val a∧o=[]∧c=0∧i=0)
 (.done (.exit 0) [.dig [1,2,3] a,.dig [1,2,3] b,.grown 152 (Dy.dgN a.length (Dy.val a-Dy.val b)),.num .u64 0,.num .i64 a.length]))
 |_=>none
def lamRSub:=lam [(4,.spec keepRAdd lsRSub)]
theorem vc_ref_Sub (a:List Nat) (b:List Nat) (Q:AV→Prop):(evF Tryz.prog (look tab5) lamRSub false Tryz.f117 [.dig [1] a,.dig [2] b] Q)=((okl a∧okl b∧a.length≤1048576∧val b≤val a∧([]:List Nat)=[]∧(0:Int)=(0:Int)∧(0:Int)=(0:Int))∧Q (.dig [0] (dg (val (dgN a.length (val a-val b)))))):=by kernel_rfl
theorem vc_ref_Sub_1 (a:List Nat) (b:List Nat) (o:List Nat) (c:Int) (i:Int) (K:Exit→List AV→Prop):(evIter Tryz.prog (look tab5) lamRSub (2:Nat) (47:Nat) keepRAdd (bodyN Tryz.f117 (0:Nat)) [.dig [1,2,3] a,.dig [1,2,3] b,.grown (152:TypeId) o,.num .u64 c,.num .i64 i] K)=(bif decide (i<(↑a.length:Int)) then bif decide (i<(↑b.length:Int)) then (0≤i∧i<(↑b.length:Int))∧(0≤i∧i<(↑a.length:Int))∧bif decide (u64.wrap (↑(a.getD i.toNat (0:Nat)):Int)<u64.wrap (c+u64.wrap (↑(b.getD i.toNat (0:Nat)):Int))) then ((0:Nat)≤[(u32.wrap (u64.wrap (u64.wrap (u64.wrap (↑(a.getD i.toNat (0:Nat)):Int)+(4294967296:Int))-u64.wrap (c+u64.wrap (↑(b.getD i.toNat (0:Nat)):Int))))).toNat].length∧o.length+[(u32.wrap (u64.wrap (u64.wrap (u64.wrap (↑(a.getD i.toNat (0:Nat)):Int)+(4294967296:Int))-u64.wrap (c+u64.wrap (↑(b.getD i.toNat (0:Nat)):Int))))).toNat].length≤1099511627776)∧K Exit.normal [.dig [1,2,3] a,.dig [1,2,3] b,.grown (152:Nat) (o++[(u32.wrap (u64.wrap (u64.wrap (u64.wrap (↑(a.getD i.toNat (0:Nat)):Int)+(4294967296:Int))-u64.wrap (c+u64.wrap (↑(b.getD i.toNat (0:Nat)):Int))))).toNat]),.num .u64 1,.num .i64 (i64.wrap (i+(1:Int)))] else ((0:Nat)≤[(u32.wrap (u64.wrap (u64.wrap (↑(a.getD i.toNat (0:Nat)):Int)-u64.wrap (c+u64.wrap (↑(b.getD i.toNat (0:Nat)):Int))))).toNat].length∧o.length+[(u32.wrap (u64.wrap (u64.wrap (↑(a.getD i.toNat (0:Nat)):Int)-u64.wrap (c+u64.wrap (↑(b.getD i.toNat (0:Nat)):Int))))).toNat].length≤1099511627776)∧K Exit.normal [.dig [1,2,3] a,.dig [1,2,3] b,.grown (152:Nat) (o++[(u32.wrap (u64.wrap (u64.wrap (↑(a.getD i.toNat (0:Nat)):Int)-u64.wrap (c+u64.wrap (↑(b.getD i.toNat (0:Nat)):Int))))).toNat]),.num .u64 0,.num .i64 (i64.wrap (i+(1:Int)))] else (0≤i∧i<(↑a.length:Int))∧bif decide (u64.wrap (↑(a.getD i.toNat (0:Nat)):Int)<c) then ((0:Nat)≤[(u32.wrap (u64.wrap (u64.wrap (u64.wrap (↑(a.getD i.toNat (0:Nat)):Int)+(4294967296:Int))-c))).toNat].length∧o.length+[(u32.wrap (u64.wrap (u64.wrap (u64.wrap (↑(a.getD i.toNat (0:Nat)):Int)+(4294967296:Int))-c))).toNat].length≤1099511627776)∧K Exit.normal [.dig [1,2,3] a,.dig [1,2,3] b,.grown (152:Nat) (o++[(u32.wrap (u64.wrap (u64.wrap (u64.wrap (↑(a.getD i.toNat (0:Nat)):Int)+(4294967296:Int))-c))).toNat]),.num .u64 1,.num .i64 (i64.wrap (i+(1:Int)))] else ((0:Nat)≤[(u32.wrap (u64.wrap (u64.wrap (↑(a.getD i.toNat (0:Nat)):Int)-c))).toNat].length∧o.length+[(u32.wrap (u64.wrap (u64.wrap (↑(a.getD i.toNat (0:Nat)):Int)-c))).toNat].length≤1099511627776)∧K Exit.normal [.dig [1,2,3] a,.dig [1,2,3] b,.grown (152:Nat) (o++[(u32.wrap (u64.wrap (u64.wrap (↑(a.getD i.toNat (0:Nat)):Int)-c))).toNat]),.num .u64 0,.num .i64 (i64.wrap (i+(1:Int)))] else K (Exit.exit (0:Nat)) [.dig [1,2,3] a,.dig [1,2,3] b,.grown (152:Nat) o,.num .u64 c,.num .i64 i]):=by kernel_rfl
def lsRLen:List AV→Option LR
 |[.num .i64 n,.num .u32 x]=>some (.need (0≤n∧n≤1099511627776∧0≤x∧x<4294967296) (.done (.exit 0) [.num .i64 (n+(Dy.bl x.toNat:Nat)),.num .u32 0]))
 |_=>none
def keepRLen:List (Nat×Keep):=[(3,.same),(4,.same)]
def lamRLen:=lam [(5,.spec keepRLen lsRLen)]
theorem vc_ref_Len (a:List Nat) (Q:AV→Prop):(evF Tryz.prog (look tab5) lamRLen false Tryz.f96 [.dig [1] a] Q)=(bif decide ((↑a.length:Int)=(0:Int)) then Q (.num .i64 0) else ((0:Int)≤i64.wrap ((↑a.length:Int)-(1:Int))∧i64.wrap ((↑a.length:Int)-(1:Int))<(↑a.length:Int))∧((0:Int)≤i64.wrap ((32:Int)*i64.wrap ((↑a.length:Int)-(1:Int)))∧i64.wrap ((32:Int)*i64.wrap ((↑a.length:Int)-(1:Int)))≤(1099511627776:Int)∧(0:Int)≤(↑(a.getD (i64.wrap ((↑a.length:Int)-(1:Int))).toNat (0:Nat)):Int)∧(↑(a.getD (i64.wrap ((↑a.length:Int)-(1:Int))).toNat (0:Nat)):Int)<(4294967296:Int))∧Q (.num .i64 (i64.wrap ((32:Int)*i64.wrap ((↑a.length:Int)-(1:Int)))+(↑(bl (↑(a.getD (i64.wrap ((↑a.length:Int)-(1:Int))).toNat (0:Nat)):Int).toNat):Int)))):=by kernel_rfl
theorem vc_ref_Len_1 (n:Int) (x:Int) (K:Exit→List AV→Prop):(evIter Tryz.prog (look tab5) lamRLen (1:Nat) (25:Nat) keepRLen (bodyN Tryz.f96 (0:Nat)) [.num .i64 n,.num .u32 x] K)=(bif decide (x>(0:Int)) then K Exit.normal [.num .i64 (i64.wrap (n+(1:Int))),.num .u32 (x.fdiv ((2:Int)^(1:Nat)))] else K (Exit.exit (0:Nat)) [.num .i64 n,.num .u32 x]):=by kernel_rfl
theorem vc_ref_Bit (a:List Nat) (i:Int) (Q:AV→Prop):(evF Tryz.prog (look tab5) (lam []) false Tryz.f162 [.dig [1] a,.num .i64 i] Q)=(bif decide (i<0) then Q (.num .u32 0) else bif decide (i64.wrap (i.tdiv (32:Int))≥(↑a.length:Int)) then Q (.num .u32 0) else ((0:Int)≤i64.wrap (i.tdiv (32:Int))∧i64.wrap (i.tdiv (32:Int))<(↑a.length:Int))∧0≤i.tmod (32:Int)∧Q (.num .u32 (u32.wrap (↑(BitVec.ofInt (32:Nat) ((↑(a.getD (i64.wrap (i.tdiv (32:Int))).toNat (0:Nat)):Int).fdiv ((2:Int)^min (i.tmod (32:Int)).toNat (32:Nat)))&&&BitVec.ofInt (32:Nat) (1:Int)).toNat:Int)))):=by kernel_rfl
def lsRUp:List AV→Option LR
 |[.dig [1,2,3] a,.grown 152 o,.num .i64 s,.num .u64 c,.num .i64 i]=>
 some (.need (Dy.okl a∧a.length≤1048576∧0≤s∧s<32∧o.length≤1048576∧c=0∧i=0)
 (.done (.exit 0) [.dig [1,2,3] a,.grown 152 (o++Dy.dgN a.length (Dy.val a*2^s.toNat)),.num .i64 s,.num .u64 (Dy.val a*2^s.toNat/2^(32*a.length):Nat),.num .i64 a.length]))
 |_=>none
def keepRUp:List (Nat×Keep):=[(0,.same),(5,.same),(6,.same),(7,.same),(8,.same)]
def lamRUp:=lam [(7,.spec keepRUp lsRUp)]
theorem vc_ref_Up (a:List Nat) (n:Int) (Q:AV→Prop):(evF Tryz.prog (look tab5) lamRUp false Tryz.f98 [.dig [1] a,.num .i64 n] Q)=(bif decide ((↑a.length:Int)=(0:Int)) then Q (.dig [0] []) else ((0:Int)≤i64.wrap (n.tdiv (32:Int))∧i64.wrap (n.tdiv (32:Int))≤i64.wrap (n.tdiv (32:Int))∧i64.wrap (n.tdiv (32:Int))≤(2:Int)^(40:Nat))∧(okl a∧a.length≤1048576∧0≤n.tmod (32:Int)∧n.tmod (32:Int)<(32:Int)∧(List.replicate (i64.wrap (n.tdiv (32:Int))).toNat (0:Nat)).length≤1048576∧(0:Int)=(0:Int)∧(0:Int)=(0:Int))∧((0:Nat)≤[(u32.wrap (↑(val a*(2:Nat)^(n.tmod (32:Int)).toNat/(2:Nat)^((32:Nat)*a.length)):Int)).toNat].length∧(List.replicate (i64.wrap (n.tdiv (32:Int))).toNat (0:Nat)++dgN a.length (val a*(2:Nat)^(n.tmod (32:Int)).toNat)).length+[(u32.wrap (↑(val a*(2:Nat)^(n.tmod (32:Int)).toNat/(2:Nat)^((32:Nat)*a.length)):Int)).toNat].length≤1099511627776)∧Q (.dig [0] (dg (val (List.replicate (i64.wrap (n.tdiv (32:Int))).toNat (0:Nat)++dgN a.length (val a*(2:Nat)^(n.tmod (32:Int)).toNat)++[(u32.wrap (↑(val a*(2:Nat)^(n.tmod (32:Int)).toNat/(2:Nat)^((32:Nat)*a.length)):Int)).toNat]))))):=by kernel_rfl
theorem vc_ref_Up_1 (a:List Nat) (o:List Nat) (s:Int) (c:Int) (i:Int) (K:Exit→List AV→Prop):(evIter Tryz.prog (look tab5) lamRUp (2:Nat) (45:Nat) keepRUp (bodyN Tryz.f98 (0:Nat)) [.dig [1,2,3] a,.grown (152:TypeId) o,.num .i64 s,.num .u64 c,.num .i64 i] K)=(bif decide (i<(↑a.length:Int)) then (0≤i∧i<(↑a.length:Int))∧0≤s∧((0:Nat)≤[(u32.wrap (u64.wrap (↑(BitVec.ofInt (64:Nat) c|||BitVec.ofInt (64:Nat) (u64.wrap (u64.wrap (↑(a.getD i.toNat (0:Nat)):Int)*(2:Int)^min s.toNat (64:Nat)))).toNat:Int))).toNat].length∧o.length+[(u32.wrap (u64.wrap (↑(BitVec.ofInt (64:Nat) c|||BitVec.ofInt (64:Nat) (u64.wrap (u64.wrap (↑(a.getD i.toNat (0:Nat)):Int)*(2:Int)^min s.toNat (64:Nat)))).toNat:Int))).toNat].length≤1099511627776)∧K Exit.normal [.dig [1,2,3] a,.grown (152:Nat) (o++[(u32.wrap (u64.wrap (↑(BitVec.ofInt (64:Nat) c|||BitVec.ofInt (64:Nat) (u64.wrap (u64.wrap (↑(a.getD i.toNat (0:Nat)):Int)*(2:Int)^min s.toNat (64:Nat)))).toNat:Int))).toNat]),.num .i64 s,.num .u64 ((u64.wrap (↑(BitVec.ofInt (64:Nat) c|||BitVec.ofInt (64:Nat) (u64.wrap (u64.wrap (↑(a.getD i.toNat (0:Nat)):Int)*(2:Int)^min s.toNat (64:Nat)))).toNat:Int)).fdiv ((2:Int)^(32:Nat))),.num .i64 (i64.wrap (i+(1:Int)))] else K (Exit.exit (0:Nat)) [.dig [1,2,3] a,.grown (152:Nat) o,.num .i64 s,.num .u64 c,.num .i64 i]):=by kernel_rfl
def lsRLow:List AV→Option LR
 |[.dig [1,2] a,.num .i64 n]=>some (.need (Dy.okl a∧Dy.dg (Dy.val a)=a∧a.length≤1048576∧n=0) (.done (.exit 0) [.dig [1,2] a,.num .i64 (Dy.tz (Dy.val a):Nat)]))
 |_=>none
def keepRLow:List (Nat×Keep):=[(0,.same),(3,.same)]
def lamRLow:=lam [(2,.spec keepRLow lsRLow)]
theorem vc_ref_Low (a:List Nat) (Q:AV→Prop):(evF Tryz.prog (look tab6) lamRLow false Tryz.f111 [.dig [1] a] Q)=((okl a∧dg (val a)=a∧a.length≤1048576∧(0:Int)=(0:Int))∧bif decide ((↑(tz (val a)):Int)=i64.wrap ((32:Int)*(↑a.length:Int))) then Q (.num .i64 0) else Q (.num .i64 (↑(tz (val a)):Int))):=by kernel_rfl
theorem vc_ref_Low_1 (a:List Nat) (n:Int) (K:Exit→List AV→Prop):(evIter Tryz.prog (look tab6) lamRLow (1:Nat) (31:Nat) keepRLow (bodyN Tryz.f111 (0:Nat)) [.dig [1,2] a,.num .i64 n] K)=(bif decide (n<i64.wrap ((32:Int)*(↑a.length:Int))) then bif decide ((↑(if n<0 then (0:Nat) else val a/(2:Nat)^n.toNat%(2:Nat)):Int)=(0:Int)) then ((0:Int)≤i64.wrap (n.tdiv (32:Int))∧i64.wrap (n.tdiv (32:Int))<(↑a.length:Int))∧bif decide ((↑(a.getD (i64.wrap (n.tdiv (32:Int))).toNat (0:Nat)):Int)=(0:Int)) then K Exit.normal [.dig [1,2] a,.num .i64 (i64.wrap (n+(32:Int)))] else K Exit.normal [.dig [1,2] a,.num .i64 (i64.wrap (n+(1:Int)))] else K (Exit.exit (0:Nat)) [.dig [1,2] a,.num .i64 n] else K (Exit.exit (0:Nat)) [.dig [1,2] a,.num .i64 n]):=by kernel_rfl
def lsRDown:List AV→Option LR
 |[.dig [1,2,3] a,.grown 152 o,.num .i64 s,.num .i64 i,.bool l]=>
 some (.need (Dy.okl a∧0≤s∧s<32∧o=[]∧0≤i∧i≤a.length∧a.length≤1048576)
 (.done (.exit 0) [.dig [1,2,3] a,.grown 152 (Dy.dgN (a.length-i.toNat) (Dy.val (a.drop i.toNat)/2^s.toNat)),.num .i64 s,.num .i64 a.length,.bool l]))
 |_=>none
def keepRDown:List (Nat×Keep):=[(0,.same),(7,.grow 152),(8,.same),(9,.same),(6,.same)]
def lamRDown:=lam [(7,.spec keepRDown lsRDown)]
theorem vc_ref_Down (a:List Nat) (n:Int) (Q:AV→Prop):(evF Tryz.prog (look tab7) lamRDown false Tryz.f112 [.dig [1] a,.num .i64 n] Q)=((dg (val a)=a∧a.length≤1048576)∧bif decide (n≥(↑(bl (val a)):Int)) then Q (.tup [.dig [0] [],.bool (decide ((↑a.length:Int)>(0:Int)))]) else (dg (val a)=a∧a.length≤1048576)∧(okl a∧0≤n.tmod (32:Int)∧n.tmod (32:Int)<(32:Int)∧([]:List Nat)=[]∧(0:Int)≤i64.wrap (n.tdiv (32:Int))∧i64.wrap (n.tdiv (32:Int))≤(↑a.length:Int)∧a.length≤1048576)∧Q (.tup [.dig [0] (dg (val (dgN (a.length-(i64.wrap (n.tdiv (32:Int))).toNat) (val (List.drop (i64.wrap (n.tdiv (32:Int))).toNat a)/(2:Nat)^(n.tmod (32:Int)).toNat)))),.bool (decide (n>(↑(tz (val a)):Int)))])):=by kernel_rfl
theorem vc_ref_Down_1 (a:List Nat) (o:List Nat) (s:Int) (i:Int) (l:Bool) (K:Exit→List AV→Prop):(evIter Tryz.prog (look tab7) lamRDown (2:Nat) (63:Nat) keepRDown (bodyN Tryz.f112 (0:Nat)) [.dig [1,2,3] a,.grown (152:TypeId) o,.num .i64 s,.num .i64 i,.bool l] K)=(bif decide (i<(↑a.length:Int)) then (0≤i∧i<(↑a.length:Int))∧0≤s∧bif decide (i64.wrap (i+(1:Int))<(↑a.length:Int)) then ((0:Int)≤i64.wrap (i+(1:Int))∧i64.wrap (i+(1:Int))<(↑a.length:Int))∧(0:Int)≤i64.wrap ((32:Int)-s)∧((0:Nat)≤[(u32.wrap (u64.wrap (↑(BitVec.ofInt (64:Nat) ((u64.wrap (↑(a.getD i.toNat (0:Nat)):Int)).fdiv ((2:Int)^min s.toNat (64:Nat)))|||BitVec.ofInt (64:Nat) (u64.wrap (u64.wrap (↑(a.getD (i64.wrap (i+(1:Int))).toNat (0:Nat)):Int)*(2:Int)^min (i64.wrap ((32:Int)-s)).toNat (64:Nat)))).toNat:Int))).toNat].length∧o.length+[(u32.wrap (u64.wrap (↑(BitVec.ofInt (64:Nat) ((u64.wrap (↑(a.getD i.toNat (0:Nat)):Int)).fdiv ((2:Int)^min s.toNat (64:Nat)))|||BitVec.ofInt (64:Nat) (u64.wrap (u64.wrap (↑(a.getD (i64.wrap (i+(1:Int))).toNat (0:Nat)):Int)*(2:Int)^min (i64.wrap ((32:Int)-s)).toNat (64:Nat)))).toNat:Int))).toNat].length≤1099511627776)∧K Exit.normal [.dig [1,2,3] a,.grown (152:Nat) (o++[(u32.wrap (u64.wrap (↑(BitVec.ofInt (64:Nat) ((u64.wrap (↑(a.getD i.toNat (0:Nat)):Int)).fdiv ((2:Int)^min s.toNat (64:Nat)))|||BitVec.ofInt (64:Nat) (u64.wrap (u64.wrap (↑(a.getD (i64.wrap (i+(1:Int))).toNat (0:Nat)):Int)*(2:Int)^min (i64.wrap ((32:Int)-s)).toNat (64:Nat)))).toNat:Int))).toNat]),.num .i64 s,.num .i64 (i64.wrap (i+(1:Int))),.bool l] else ((0:Nat)≤[(u32.wrap ((u64.wrap (↑(a.getD i.toNat (0:Nat)):Int)).fdiv ((2:Int)^min s.toNat (64:Nat)))).toNat].length∧o.length+[(u32.wrap ((u64.wrap (↑(a.getD i.toNat (0:Nat)):Int)).fdiv ((2:Int)^min s.toNat (64:Nat)))).toNat].length≤1099511627776)∧K Exit.normal [.dig [1,2,3] a,.grown (152:Nat) (o++[(u32.wrap ((u64.wrap (↑(a.getD i.toNat (0:Nat)):Int)).fdiv ((2:Int)^min s.toNat (64:Nat)))).toNat]),.num .i64 s,.num .i64 (i64.wrap (i+(1:Int))),.bool l] else K (Exit.exit (0:Nat)) [.dig [1,2,3] a,.grown (152:Nat) o,.num .i64 s,.num .i64 i,.bool l]):=by kernel_rfl
end Go.AI
