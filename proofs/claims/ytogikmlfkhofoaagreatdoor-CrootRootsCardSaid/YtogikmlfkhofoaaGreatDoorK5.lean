/- My texts AIbase, AIloop, AInum, AIspec1, AVnat1, AInat1, AInum2, AIspec2, AVnat2, in one. -/
import Derived.Test.YtogikmlfkhofoaaGreatDoorK4
import Derived.Test.YtogikmlfkhofoaaGreatDoorProg
import Derived.Lib.Strings
import Derived.Lib.Slices
import Derived.Lib.Small
import Derived.Lib.Walk
import Derived.Lib.BitFns
import Derived.Lib.TrailingZeros
open BitVec renaming ofInt→A7,ofInt_natCast→R7,toNat_and→JH,toNat_ofNat→U7
open Int renaming eq_ofNat_of_zero_le→C4,lt_or_le→Z3,toNat_natCast→A2
open Go.Lib renaming bitLen→D6,bitLen_le8'→o7,len8_of→ES
open List renaming drop→DL,drop_eq_getElem_cons→PT,drop_of_length_le→AX,getD_eq_getElem?_getD→D7,getElem?_eq_getElem→g0,length_cons→T5,length_pos_iff→X4,length_take→R8,replicate→B2,take→JK,take_length→JL,take_of_length_le→H7
open Nat renaming and_lt_two_pow→QV,div_eq_of_lt→L9,div_lt_iff_lt_mul→H0,div_lt_self→DP,le_div_iff_mul_le→K8,le_refl→I6,lt_of_le_of_lt→L8,lt_of_lt_of_le→G7,min_eq_left→J1,mod_eq_of_lt→F9,mod_mul→MU,mul_add→D0,mul_assoc→B9,mul_comm→B6,mul_div_cancel_left→j2,mul_le_mul_left→F2,mul_le_mul_right→C0,mul_one→M0,mul_right_comm→BX,pow_add→B8,pow_le_pow_right→B3,pow_succ→I5,strongRecOn→FM,two_pow_pos→A9,xor_lt_two_pow→QW,zero_add→N9
open Option renaming getD_some→CC
namespace Go.AI
open Go Go.RowKit Go.Proofs
set_option linter.unusedVariables false
def Inv (w:World):Prop:=∀j,j<32→w.cell? ⟨0,j,none⟩=some (.int .u8 (Lib.deBruijn32tab.getD j 0))
theorem B22 (w w':World) (h:Inv w) (hg:Grow w w'):Inv w':=fun j hj=>by
 have h1:=h j hj
 have hlt:0<w.heap.size:=by
  rcases Nat.lt_or_ge 0 w.heap.size with h2|h2
  ·exact h2
  ·simp [World.cell?,Array.getElem?_eq_none h2] at h1
 rw [←h1]
 simp only [World.cell?,hg.below.block _ hlt]
theorem B9r:Tryz.prog.follows .mixedOrders=true:=by kernel_rfl
def look:List (Nat×(List AV→Option Spec))→Nat→List AV→Option Spec
 |[],_,_=>none
 |(g,s)::t,f,args=>if f=g then s args else look t f args
theorem C8s:G6 Tryz.prog Inv (look []):=fun f args s h=>by simp [look] at h
theorem A3 {t:List (Nat×(List AV→Option Spec))} {g:Nat} {S:List AV→Option Spec} (ht:G6 Tryz.prog Inv (look t))
  (hg:∀args s,S args=some s→C6 s.pre True→Contract Tryz.prog Inv g args s.res):G6 Tryz.prog Inv (look ((g,S)::t)):=fun f args s h=>by
 simp only [look] at h
 split at h
 ·rename_i e;subst e;exact hg args s h
 ·exact ht f args s h
theorem IW {f:Nat} {k k':IntKind} {x y:Int} (he:VI Tryz.prog f)
  (hc:∀w,Inv w→k.min≤x∧x≤k.max→(k'.min≤y∧y≤k'.max)∧Calls Tryz.prog f #[.int k x] w fun e w'=>e= .returned (.int k' y)∧w'=w):
  Contract Tryz.prog Inv f [.num k x] (.num k' y):=by
 refine ⟨he,fun w cargs β hI hlt hV _=> ?_⟩
 match cargs,hV with
 |[v],hV=>
  simp only [Vs,V] at hV
  obtain ⟨⟨rfl,hr⟩,_⟩:=hV
  obtain ⟨hy,hcc⟩:=hc w hI hr
  refine hcc.mono ?_
  rintro e w' ⟨rfl,rfl⟩
  exact ⟨_,rfl,ER.of (Grow.refl _) (by simp only [V];exact ⟨trivial,hy⟩)⟩
 |[],hV=>simp only [Vs] at hV
 |_::_::_,hV=>simp [Vs] at hV
set_option maxHeartbeats 4000000 in
set_option maxRecDepth 100000 in
theorem B8c (x:Int) (w:World) (h0:0≤x) (h1:x≤4294967295):
  Calls Tryz.prog 180 #[.int .u32 x] w fun e w'=>e= .returned (.int .i64 (D6 x.toNat))∧w'=w:=by
 rcases Z3 x 65536 with c1|c1
 ·rcases Z3 x 256 with c2|c2
  ·have k1:x≤255:=by omega
   go_enter Tryz.func180,Tryz.ntmps180
   go_wp2
   go_ret
   refine ⟨congrArg Ending.returned (congrArg (Value.int IntKind.i64) ?_),rfl⟩
   rw [ES x (by omega) (by omega)]
   have l:=o7 x (by omega) (by omega)
   unfold wrap64
   omega
  ·have k1:x/256≤255:=by omega
   have k2:0≤x/256:=by omega
   go_enter Tryz.func180,Tryz.ntmps180
   go_wp2
   go_ret
   refine ⟨congrArg Ending.returned (congrArg (Value.int IntKind.i64) ?_),rfl⟩
   rw [ES (x/256) (by omega) (by omega)]
   have e:(x/256).toNat=x.toNat/256:=by omega
   have l:=o7 (x/256) (by omega) (by omega)
   have s:=Lib.bitLen_shift8 x.toNat (by omega) (by omega)
   rw [e] at l ⊢
   unfold wrap64
   omega
 ·rcases Z3 (x/65536) 256 with c2|c2
  ·have k1:x/65536≤255:=by omega
   have k2:0≤x/65536:=by omega
   go_enter Tryz.func180,Tryz.ntmps180
   go_wp2
   go_ret
   refine ⟨congrArg Ending.returned (congrArg (Value.int IntKind.i64) ?_),rfl⟩
   rw [ES (x/65536) (by omega) (by omega)]
   have e:(x/65536).toNat=x.toNat/65536:=by omega
   have l:=o7 (x/65536) (by omega) (by omega)
   have s:=Lib.bitLen_shift16 x.toNat (by omega) (by omega)
   rw [e] at l ⊢
   unfold wrap64
   omega
  ·have k1:x/65536/256≤255:=by omega
   have k2:0≤x/65536/256:=by omega
   go_enter Tryz.func180,Tryz.ntmps180
   go_wp2
   go_ret
   refine ⟨congrArg Ending.returned (congrArg (Value.int IntKind.i64) ?_),rfl⟩
   rw [ES (x/65536/256) (by omega) (by omega)]
   have e:(x/65536/256).toNat=x.toNat/16777216:=by omega
   have l:=o7 (x/65536/256) (by omega) (by omega)
   have s:=Lib.bitLen_shift24 x.toNat (by omega) (by omega)
   rw [e] at l ⊢
   unfold wrap64
   omega
theorem wrap_u32' (n:Int):IntKind.u32.wrap n=n%4294967296:=by simp [IntKind.wrap,IntKind.signed,IntKind.bits]
theorem VN (a b:Nat) (ha:a<4294967296) (hb:b<4294967296):bits .and .u32 (a:Int) (b:Int)=((a&&&b:Nat):Int):=by
 have hx:a&&&b<2^32:=QV _ (by omega)
 have h1:(A7 32 (a:Int)).toNat=a:=by
  rw [R7,U7];exact F9 (by omega)
 have h2:(A7 32 (b:Int)).toNat=b:=by
  rw [R7,U7];exact F9 (by omega)
 show IntKind.u32.wrap ((A7 32 (a:Int)&&&A7 32 (b:Int)).toNat:Int)=_
 rw [JH,h1,h2,wrap_u32']
 omega
set_option maxHeartbeats 1000000 in
theorem C6i (x k idx:Nat) (w:World) (hx0:((x:Int)==0)=false)
  (key:bits BinOp.and IntKind.u32 (x:Int) (-(x:Int)%4294967296)*125613361%4294967296/134217728=(idx:Int))
  (hi:idx<32) (hk:k<32) (hcell:w.cell? ⟨0,idx,none⟩=some (.int .u8 k)):
  Calls Tryz.prog 198 #[.int .u32 x] w fun e w'=>e= .returned (.int .i64 k)∧w'=w:=by
 go_enter Tryz.func198,Tryz.ntmps198
 go_wp2_with (simp only [key])
 go_ret
 exact ⟨rfl,rfl⟩
theorem D1r (x a:Nat) (hx:x<4294967296) (hx0:x≠0) (hlow:x&&&(4294967296-x)=a):
  bits BinOp.and IntKind.u32 (x:Int) (-(x:Int)%4294967296)*125613361%4294967296/134217728=((a*125613361%4294967296/134217728:Nat):Int):=by
 have e1: -(x:Int)%4294967296=((4294967296-x:Nat):Int):=by omega
 rw [e1,VN x _ hx (by omega),hlow]
 omega
theorem NF (x:Nat) (hx:x<4294967296) (hx0:x≠0) (w:World) (hT:Inv w):
  Calls Tryz.prog 198 #[.int .u32 x] w fun e w'=>e= .returned (.int .i64 (Lib.ctz 32 x))∧w'=w:=by
 obtain ⟨hlow,hk⟩:=Lib.lowest_bit 32 x hx0 hx
 obtain ⟨hi,htab⟩:=Lib.deBruijn32_at _ hk
 have hcell:=hT _ hi
 rw [htab] at hcell
 exact C6i x _ _ w (by simp;omega) (D1r x _ hx hx0 hlow) hi hk hcell
def C1l:List AV→Option Spec
 |[.num .u32 x]=>some ⟨none,.num .i64 (D6 x.toNat)⟩
 |_=>none
def D0y:List AV→Option Spec
 |[.num .u32 x]=>some ⟨some (0<x),.num .i64 (Lib.ctz 32 x.toNat)⟩
 |_=>none
theorem D35 (args:List AV) (s:Spec) (h:C1l args=some s) (hp:C6 s.pre True):Contract Tryz.prog Inv 180 args s.res:=by
 unfold C1l at h
 split at h
 ·cases h
  refine IW (fun cs w=>Tryz.call180 cs w) fun w hI hr=> ?_
  simp only [IntKind.min,IntKind.max,IntKind.bits,IntKind.signed] at hr
  rename_i x
  have hr':0≤x∧x≤4294967295:=by simpa using hr
  have:=Lib.bitLen_le x.toNat 32 (by omega) (by omega)
  refine ⟨?_,B8c x w hr'.1 hr'.2⟩
  simp [IntKind.min,IntKind.max,IntKind.bits,IntKind.signed]
  omega
 ·cases h
theorem D54 (args:List AV) (s:Spec) (h:D0y args=some s) (hp:C6 s.pre True):Contract Tryz.prog Inv 198 args s.res:=by
 unfold D0y at h
 split at h
 ·cases h
  rename_i x
  refine IW (fun cs w=>Tryz.call198 cs w) fun w hI hr=> ?_
  simp only [IntKind.min,IntKind.max,IntKind.bits,IntKind.signed] at hr
  have hr':0≤x∧x≤4294967295:=by simpa using hr
  have h0:0<x:=hp.1
  have ht:=NF x.toNat (by omega) (by omega) w hI
  obtain ⟨-,hk⟩:=Lib.lowest_bit 32 x.toNat (by omega) (by omega)
  rw [show ((x.toNat:Nat):Int)=x by omega] at ht
  refine ⟨?_,ht⟩
  simp [IntKind.min,IntKind.max,IntKind.bits,IntKind.signed]
  omega
 ·cases h
end Go.AI

namespace Go.AI
open Go Go.RowKit Go.Proofs
set_option linter.unusedVariables false
def Z5:Code→List Code
 | .seq a b=>Z5 a++Z5 b
 | .cond _ a b=>Z5 a++Z5 b
 | .block _ a=>Z5 a
 | .loop a=>a::Z5 a
 |_=>[]
def g8 (fn:Func):Code:=fn.body.getD .skip
def D8 (fn:Func) (i:Nat):Code:=(Z5 (g8 fn)).getD i .skip
def Q3 (P:Program) (Φ:Nat→List AV→Option Spec) (Λ:Nat→Option LoopAnn) (na nt:Nat):List Code→Prop
 |[]=>True
 |b::l=>(match Λ (P3 b) with
   |some (.spec keep ls)=>L6 P Φ Λ na nt keep b ls
   |some (.raw g)=>D3u P na nt b g
   |_=>True)∧Q3 P Φ Λ na nt l
theorem Q3.append {P:Program} {Φ:Nat→List AV→Option Spec} {Λ:Nat→Option LoopAnn} {na nt:Nat}:∀{l l':List Code},Q3 P Φ Λ na nt (l++l')→Q3 P Φ Λ na nt l∧Q3 P Φ Λ na nt l'
 |[],l',h=>⟨trivial,h⟩
 |b::l,l',h=>by
  simp only [List.cons_append,Q3] at h ⊢
  have:=Q3.append h.2
  exact ⟨⟨h.1,this.1⟩,this.2⟩
theorem RK {P:Program} {Φ:Nat→List AV→Option Spec} {Λ:Nat→Option LoopAnn} {na nt:Nat}:∀(c:Code),Q3 P Φ Λ na nt (Z5 c)→CO P Φ Λ na nt c:=by
 intro c
 induction c with
 |seq a b iha ihb=>intro h;have:=Q3.append h;exact ⟨iha this.1,ihb this.2⟩
 |cond c a b iha ihb=>intro h;have:=Q3.append h;exact ⟨iha this.1,ihb this.2⟩
 |block i a ih=>intro h;exact ih h
 |loop a ih=>
  intro h
  refine ⟨ih h.2,fun keep ls hl=> ?_,fun g hl=> ?_⟩
  ·have:=h.1
   rw [hl] at this
   exact this
  ·have:=h.1
   rw [hl] at this
   exact this
 |_=>intro _;trivial
def lam:List (Nat×LoopAnn)→Nat→Option LoopAnn
 |[],_=>none
 |(i,a)::l,j=>if i=j then some a else lam l j
def A25 (fn : Func) : Bool := fn.body.isSome && !(fn.name == "runtime.NumGoroutine")
section
variable {P:Program} {Φ:Nat→List AV→Option Spec} {Λ:Nat→Option LoopAnn} {na nt:Nat} {fn:Func}
theorem D4y (h:Z5 (g8 fn)=[]):Q3 P Φ Λ na nt (Z5 (g8 fn)):=by rw [h];trivial
theorem W4 {keep:List (Nat×Keep)} {ls:List AV→Option LR} (h:Z5 (g8 fn)=[D8 fn 0]) (hΛ:Λ (P3 (D8 fn 0))=some (.spec keep ls)) (hl:L6 P Φ Λ na nt keep (D8 fn 0) ls):
  Q3 P Φ Λ na nt (Z5 (g8 fn)):=by
 rw [h]
 simp only [Q3,hΛ]
 exact ⟨hl,trivial⟩
theorem EP {k:Nat} (h:Z5 (g8 fn)=[D8 fn 0]) (hΛ:Λ (P3 (D8 fn 0))=some (.unroll k)):Q3 P Φ Λ na nt (Z5 (g8 fn)):=by
 rw [h]
 simp only [Q3,hΛ]
 exact ⟨trivial,trivial⟩
theorem A8w {keep keep':List (Nat×Keep)} {ls ls':List AV→Option LR} (h:Z5 (g8 fn)=[D8 fn 0,D8 fn 1]) (hΛ:Λ (P3 (D8 fn 0))=some (.spec keep ls))
  (hl:L6 P Φ Λ na nt keep (D8 fn 0) ls) (hΛ':Λ (P3 (D8 fn 1))=some (.spec keep' ls')) (hl':L6 P Φ Λ na nt keep' (D8 fn 1) ls'):Q3 P Φ Λ na nt (Z5 (g8 fn)):=by
 rw [h]
 simp only [Q3,hΛ,hΛ']
 exact ⟨hl,hl',trivial⟩
end
theorem E8 {t:List (Nat×(List AV→Option Spec))} {f:Nat} {fn:Func} {args:List AV} {res:AV} (alias:Bool) (nt:Nat) (Λ:Nat→Option LoopAnn) (ht:G6 Tryz.prog Inv (look t))
  (hfn:Tryz.prog.funcs[f]? =some fn) (hs:A25 fn=true) (hnt:args.length+(fn.ntmps-args.length)=nt)
  (hl:Q3 Tryz.prog (look t) Λ args.length nt (Z5 (g8 fn)))
  (h:AV.oks args→evF Tryz.prog (look t) Λ alias fn args (fun r=>r=res)):Contract Tryz.prog Inv f args res:=by
 unfold A25 at hs
 cases hb:fn.body with
 |none=>rw [hb] at hs;cases hs
 |some c=>
  rw [hb] at hs
  have e:g8 fn=c:=by unfold g8;rw [hb];rfl
  rw [e] at hl
  exact B2a B9r ht B22 hfn hb (by simpa using hs) hnt (RK c hl) h
theorem A4 {t:List (Nat×(List AV→Option Spec))} {f:Nat} {fn:Func} {args:List AV} {res:AV} (alias:Bool) (ht:G6 Tryz.prog Inv (look t))
  (hfn:Tryz.prog.funcs[f]? =some fn) (hs:A25 fn=true) (hl:Z5 (g8 fn)=[])
  (h:AV.oks args→evF Tryz.prog (look t) (lam []) alias fn args (fun r=>r=res)):Contract Tryz.prog Inv f args res:=
 E8 alias _ (lam []) ht hfn hs rfl (D4y hl) h
theorem D4 {P:Program} {Φ:Nat→List AV→Option Spec} {Λ:Nat→Option LoopAnn} {na nt:Nat} {keep:List (Nat×Keep)} {body:Code} {vals:List AV} {K:Exit→List AV→Prop}
  (h:M7 P Φ Λ na nt keep body vals fun e vals'=>match e with
   | .normal=>False
   |e=>K e vals'):∃n,P4 P Φ Λ na nt keep body n vals K:=⟨1,h⟩
theorem E9 {P:Program} {Φ:Nat→List AV→Option Spec} {Λ:Nat→Option LoopAnn} {na nt:Nat} {keep:List (Nat×Keep)} {body:Code} {vals:List AV} {K:Exit→List AV→Prop} (n:Nat)
  (h:M7 P Φ Λ na nt keep body vals fun e vals'=>match e with
   | .normal=>P4 P Φ Λ na nt keep body n vals' K
   |e=>K e vals'):∃n,P4 P Φ Λ na nt keep body n vals K:=⟨n+1,h⟩
theorem wrap_i64 {n:Int} (h0: -9223372036854775808≤n) (h1:n<9223372036854775808):IntKind.i64.wrap n=n:=by
 simp [IntKind.wrap,IntKind.signed,IntKind.bits]
 omega
theorem wrap_u64 (n:Int):IntKind.u64.wrap n=n%18446744073709551616:=by simp [IntKind.wrap,IntKind.signed,IntKind.bits]
theorem wrap_u32 (n:Int):IntKind.u32.wrap n=n%4294967296:=by simp [IntKind.wrap,IntKind.signed,IntKind.bits]
theorem B5 {b:Bool} {p q:Prop} (h:b=true) (hp:p):cond b p q:=by subst h;exact hp
theorem B1 {b:Bool} {p q:Prop} (h:b=false) (hq:q):cond b p q:=by subst h;exact hq
theorem A8 {b:Bool} {p q:Prop} (h1:b=true→p) (h2:b=false→q):cond b p q:=by
 cases b
 ·exact h2 rfl
 ·exact h1 rfl
end Go.AI

namespace Go.Dy
def val:List Nat→Nat
 |[]=>0
 |d::l=>d+4294967296*val l
def dgF:Nat→Nat→List Nat
 |0,_=>[]
 |f+1,n=>if n=0 then [] else n%4294967296::dgF f (n/4294967296)
def dg (n:Nat):List Nat:=dgF n n
theorem C7i:∀(f g n:Nat),n≤f→n≤g→dgF f n=dgF g n
 |0,g,n,h,_=>by
  have:n=0:=by omega
  subst this
  cases g<;>simp [dgF]
 |f+1,0,n,_,h=>by
  have:n=0:=by omega
  subst this
  simp [dgF]
 |f+1,g+1,n,h,h'=>by
  simp only [dgF]
  by_cases h0:n=0
  ·rw [if_pos h0,if_pos h0]
  ·have:n/4294967296<n:=DP (by omega) (by omega)
   rw [if_neg h0,if_neg h0,C7i f g (n/4294967296) (by omega) (by omega)]
def D1 (l:List Nat):Prop:=∀x ∈ l,x<4294967296
theorem Q4:D1 []:=fun x hx=>by cases hx
theorem O9 {d:Nat} {l:List Nat}:D1 (d::l) ↔ d<4294967296∧D1 l:=by simp [D1]
theorem M2 {a b:List Nat}:D1 (a++b) ↔ D1 a∧D1 b:=by
 simp only [D1,List.mem_append]
 exact ⟨fun h=>⟨fun x hx=>h x (.inl hx),fun x hx=>h x (.inr hx)⟩,fun h x hx=>hx.elim (h.1 x) (h.2 x)⟩
theorem O0:dg 0=[]:=rfl
theorem KQ {n:Nat} (h:n≠0):dg n=n%4294967296::dg (n/4294967296):=by
 obtain ⟨f,rfl⟩:∃f,n=f+1:=⟨n-1,by omega⟩
 have:(f+1)/4294967296<f+1:=DP (by omega) (by omega)
 show dgF (f+1) (f+1)=_::dgF _ _
 rw [dgF,if_neg h,C7i f ((f+1)/4294967296) ((f+1)/4294967296) (by omega) (by omega)]
theorem E3 (n:Nat):val (dg n)=n:=by
 induction n using FM with
 |_ n ih=>
  by_cases h:n=0
  ·subst h;rw [O0];rfl
  ·rw [KQ h]
   simp only [val]
   rw [ih _ (DP (by omega) (by omega))]
   omega
theorem x8 (n:Nat):D1 (dg n):=by
 induction n using FM with
 |_ n ih=>
  by_cases h:n=0
  ·subst h;rw [O0];exact Q4
  ·rw [KQ h,O9]
   exact ⟨by omega,ih _ (DP (by omega) (by omega))⟩
theorem T6 {n:Nat}:dg n=[] ↔ n=0:=⟨fun h=>by rw [←E3 n,h];rfl,fun h=>by rw [h,O0]⟩
theorem o5 (a b:List Nat):val (a++b)=val a+2^(32*a.length)*val b:=by
 induction a with
 |nil=>simp [val]
 |cons d a ih=>
  simp only [List.cons_append,val,ih,T5]
  rw [show 32*(a.length+1)=32*a.length+32 by omega,B8,D0,B6 (2^(32*a.length)) (2^32),B9,Nat.add_assoc]
theorem u7 (n:Nat):val (B2 n 0)=0:=by
 induction n with
 |zero=>rfl
 |succ n ih=>simp [List.replicate_succ,val,ih]
theorem U6 (a:List Nat) (d:Nat):val (a++[d])=val a+2^(32*a.length)*d:=by rw [o5];simp [val]
theorem I0 {l:List Nat} (h:D1 l):val l<2^(32*l.length):=by
 induction l with
 |nil=>simp [val]
 |cons d l ih=>
  have ⟨h1,h2⟩:=O9.1 h
  have:=ih h2
  simp only [val,T5]
  rw [show 32*(l.length+1)=32+32*l.length by omega,B8]
  omega
theorem WY {d:Nat} {l:List Nat} (hd:d<4294967296) (h:dg (val l)=l) (h0:d≠0∨l≠[]):dg (val (d::l))=d::l:=by
 have hne:val (d::l)≠0:=by
  simp only [val]
  rcases h0 with h0|h0
  ·omega
  ·have:val l≠0:=fun e=>h0 (by rw [←h,e,O0])
   omega
 rw [KQ hne]
 simp only [val]
 rw [show (d+4294967296*val l)%4294967296=d by omega,show (d+4294967296*val l)/4294967296=val l by omega,h]
theorem D4n {l:List Nat} (h:D1 l) (ht:l=[]∨l.getD (l.length-1) 0≠0):dg (val l)=l:=by
 induction l with
 |nil=>exact O0
 |cons d l ih=>
  have ⟨h1,h2⟩:=O9.1 h
  rcases ht with ht|ht
  ·cases ht
  ·cases l with
   |nil=>
    have:d≠0:=by simpa using ht
    exact WY h1 (ih h2 (.inl rfl)) (.inl this)
   |cons e l=>
    refine WY h1 (ih h2 (.inr ?_)) (.inr (by simp))
    simpa using ht
theorem D2t (n:Nat):dg n=[]∨(dg n).getD ((dg n).length-1) 0≠0:=by
 induction n using FM with
 |_ n ih=>
  by_cases h:n=0
  ·subst h;exact .inl O0
  ·refine .inr ?_
   rw [KQ h]
   rcases ih _ (DP (by omega) (by omega):n/4294967296<n) with h1|h1
   ·rw [h1]
    have:n/4294967296=0:=T6.1 h1
    simp;omega
   ·cases hl:dg (n/4294967296) with
    |nil=>rw [hl] at h1;simp at h1
    |cons e l=>rw [hl] at h1;simpa using h1
theorem B8s {l:List Nat} (h:D1 l):dg (val l)=l ↔ (l=[]∨l.getD (l.length-1) 0≠0):=⟨fun e=>by have:=D2t (val l);rwa [e] at this,D4n h⟩
theorem A4t {l:List Nat} (h:l≠[]) (h0:l.getD (l.length-1) 0=0):val (l.take (l.length-1))=val l:=by
 have e:l=l.take (l.length-1)++[l.getD (l.length-1) 0]:=by
  have hl:l.length-1<l.length:=by
   have:=X4.2 h
   omega
  rw [D7,g0 hl,CC,List.take_append_getElem hl]
  rw [H7 (by omega)]
 conv=>rhs;rw [e]
 rw [U6,h0]
 simp
theorem Q7 {l:List Nat} (h:D1 l) (n:Nat):D1 (l.take n):=fun x hx=>h x (List.mem_of_mem_take hx)
theorem CF {l:List Nat} (h:D1 l) (n:Nat):D1 (l.drop n):=fun x hx=>h x (List.mem_of_mem_drop hx)
theorem P2 (n:Nat):D1 (B2 n 0):=fun x hx=>by rw [List.eq_of_mem_replicate hx];decide
theorem BJ {l:List Nat} (h:D1 l) {i d:Nat} (hd:d<4294967296):D1 (l.set i d):=fun x hx=>by
 rcases List.mem_or_eq_of_mem_set hx with h1|h1
 ·exact h x h1
 ·rw [h1];exact hd
theorem E5 {l:List Nat} (h:D1 l) (i:Nat):l.getD i 0<4294967296:=by
 rw [D7]
 cases hi:l[i]? with
 |none=>decide
 |some x=>exact h x (List.mem_of_getElem? hi)
theorem V9 (l:List Nat) (i:Nat) (hi:i≤l.length):val l=val (l.take i)+2^(32*i)*val (l.drop i):=by
 conv=>lhs;rw [←List.take_append_drop i l]
 rw [o5,R8,J1 hi]
theorem HO {l:List Nat} (h:D1 l) (i:Nat):val (l.drop i)=val l/2^(32*i):=by
 by_cases hi:i≤l.length
 ·have e:=V9 l i hi
  have hl:=I0 (Q7 h i)
  rw [R8,J1 hi] at hl
  rw [e,Nat.add_mul_div_left _ _ (A9 _),L9 hl,N9]
 ·rw [AX (by omega),L9]
  ·rfl
  ·exact G7 (I0 h) (B3 (by decide) (by omega))
theorem A2n {l:List Nat} (h:D1 l) (i:Nat):val (l.take i)=val l%2^(32*i):=by
 by_cases hi:i≤l.length
 ·have e:=V9 l i hi
  have hl:=I0 (Q7 h i)
  rw [R8,J1 hi] at hl
  rw [e,Nat.add_mul_mod_self_left,F9 hl]
 ·rw [H7 (by omega),F9]
  exact G7 (I0 h) (B3 (by decide) (by omega))
theorem A04 (l:List Nat) (i:Nat):l.getD i 0=(l.drop i).getD 0 0:=by
 simp [D7,List.getElem?_drop]
theorem val_mod {l:List Nat} (h:D1 l):val l%4294967296=l.getD 0 0:=by
 cases l with
 |nil=>rfl
 |cons d l=>
  have:=(O9.1 h).1
  simp [val];omega
theorem A05 {l:List Nat} (h:D1 l) (i:Nat):l.getD i 0=val l/2^(32*i)%4294967296:=by
 rw [A04,←val_mod (CF h i),HO h]
theorem O1 {l:List Nat} {i:Nat} (hi:i<l.length):val (l.take (i+1))=val (l.take i)+2^(32*i)*l.getD i 0:=by
 rw [←List.take_append_getElem hi,o5,R8,J1 (by omega),D7,g0 hi]
 simp [val]
theorem IS {l:List Nat} {i:Nat} (hi:i<l.length):val (l.drop i)=l.getD i 0+4294967296*val (l.drop (i+1)):=by
 rw [PT hi]
 simp [val,D7,g0 hi]
theorem C50 {l:List Nat} {i d:Nat} (hi:i<l.length):val (l.set i d)+2^(32*i)*l.getD i 0=val l+2^(32*i)*d:=by
 have e1:=V9 (l.set i d) i (by simp;omega)
 have e2:=V9 l i (by omega)
 rw [List.take_set_of_le (by omega),List.drop_set] at e1
 rw [if_neg (by omega),Nat.sub_self] at e1
 rw [e1,e2,PT hi]
 simp only [List.set_cons_zero,val,D7,g0 hi,CC]
 rw [D0,D0]
 omega
theorem M5 {n k:Nat}:(dg n).length≤k ↔ n<2^(32*k):=by
 constructor
 ·intro h
  have h1:=I0 (x8 n)
  rw [E3] at h1
  exact G7 h1 (B3 (by decide) (by omega))
 ·induction k generalizing n with
  |zero=>
   intro h;have:n=0:=by simpa using h
   subst this;rw [O0];simp
  |succ k ih=>
   intro h
   by_cases h0:n=0
   ·subst h0;rw [O0];simp
   ·rw [KQ h0]
    have:n/4294967296<2^(32*k):=by
     rw [H0 (by decide),show (4294967296:Nat)=2^32 from rfl,←B8]
     exact h
    have:=ih this
    simp;omega
theorem C5e {n:Nat} (h:n≠0):0<(dg n).length:=by rw [KQ h];simp
theorem KY {n:Nat} (h:n≠0):2^(32*((dg n).length-1))≤n:=by
 have:=C5e h
 apply Nat.le_of_not_lt
 intro h1
 have:=M5.2 h1
 omega
theorem BV {a b:Nat} (h:(dg a).length<(dg b).length):a<b:=by
 have h1:a<2^(32*(dg a).length):=M5.1 (I6 _)
 apply Nat.lt_of_not_le
 intro h2
 have:=M5.2 (L8 h2 h1)
 omega
theorem CY {a b:Nat} (h:a≤b):(dg a).length≤(dg b).length:=
 M5.2 (L8 h (M5.1 (I6 _)))
theorem EO {l:List Nat} (h:D1 l):(dg (val l)).length≤l.length:=M5.2 (I0 h)
def bl (n:Nat):Nat:=if n=0 then 0 else Nat.log2 n+1
theorem K2:bl 0=0:=rfl
theorem I8 {n k:Nat}:bl n≤k ↔ n<2^k:=by
 unfold bl
 split
 ·rename_i h;subst h;simp [A9]
 ·rename_i h
  rw [←Nat.log2_lt h]
  omega
theorem a9 {n k:Nat}:k<bl n ↔ 2^k≤n:=by
 have:= @I8 n k
 omega
theorem P9 (n:Nat):n<2^bl n:=I8.1 (I6 _)
theorem W6 {n:Nat} (h:n≠0):2^(bl n-1)≤n:=by
 refine a9.1 ?_
 have:0<bl n:=by unfold bl;rw [if_neg h];omega
 omega
theorem IV {n:Nat}:0<bl n ↔ n≠0:=by
 have:= @a9 n 0
 omega
theorem B25 {n k:Nat} (h1:2^k≤n) (h2:n<2^(k+1)):bl n=k+1:=by
 have:=a9.2 h1
 have:=I8.2 h2
 omega
theorem K1 {a b:Nat} (h:a≤b):bl a≤bl b:=I8.2 (L8 h (P9 b))
theorem E7 {n:Nat} (h:n≠0) (k:Nat):bl (n*2^k)=bl n+k:=by
 have h1:=W6 h
 have h2:=P9 n
 have h0:=IV.2 h
 have hk:=A9 k
 have e:bl n+k=(bl n-1+k)+1:=by omega
 rw [e]
 refine B25 ?_ ?_
 ·rw [B8];exact C0 _ h1
 ·rw [show bl n-1+k+1=bl n+k by omega,B8];exact Nat.mul_lt_mul_of_pos_right h2 hk
theorem C5 (n k:Nat):bl (n/2^k)=bl n-k:=by
 by_cases h:n/2^k=0
 ·rw [h,K2]
  have:n<2^k:=by
   rcases Nat.div_eq_zero_iff.1 h with h1|h1
   ·have:=A9 k;omega
   ·exact h1
  have:=I8.2 this
  omega
 ·have hk:=A9 k
  have hn:2^k≤n:=by
   apply Nat.le_of_not_lt
   intro h1
   exact h (L9 h1)
  have hn0:n≠0:=by omega
  have h1:=W6 hn0
  have h2:=P9 n
  have h3:=a9.2 hn
  rw [show bl n-k=(bl n-k-1)+1 by omega]
  refine B25 ?_ ?_
  ·rw [K8 hk,←B8,show bl n-k-1+k=bl n-1 by omega];exact h1
  ·rw [H0 hk,←B8,show bl n-k-1+1+k=bl n by omega];exact h2
theorem J3 {n k:Nat}:(dg n).length≤k ↔ bl n≤32*k:=M5.trans I8.symm
def tzF:Nat→Nat→Nat
 |0,_=>0
 |f+1,n=>if n=0 then 0 else if n%2=1 then 0 else tzF f (n/2)+1
def tz (n:Nat):Nat:=tzF n n
theorem D1s:∀(f g n:Nat),n≤f→n≤g→tzF f n=tzF g n
 |0,g,n,h,_=>by
  have:n=0:=by omega
  subst this
  cases g<;>simp [tzF]
 |f+1,0,n,_,h=>by
  have:n=0:=by omega
  subst this
  simp [tzF]
 |f+1,g+1,n,h,h'=>by
  simp only [tzF]
  by_cases h0:n=0
  ·rw [if_pos h0,if_pos h0]
  ·have:n/2<n:=DP (by omega) (by omega)
   rw [if_neg h0,if_neg h0,D1s f g (n/2) (by omega) (by omega)]
theorem B0p:tz 0=0:=rfl
theorem WQ {n:Nat} (h:n%2=1):tz n=0:=by
 obtain ⟨f,rfl⟩:∃f,n=f+1:=⟨n-1,by omega⟩
 show tzF (f+1) (f+1)=0
 rw [tzF,if_neg (by omega),if_pos h]
theorem C4y {n:Nat} (h0:n≠0) (h:n%2=0):tz n=tz (n/2)+1:=by
 obtain ⟨f,rfl⟩:∃f,n=f+1:=⟨n-1,by omega⟩
 have:(f+1)/2<f+1:=DP (by omega) (by omega)
 show tzF (f+1) (f+1)=tzF _ _+1
 rw [tzF,if_neg h0,if_neg (by omega),D1s f ((f+1)/2) ((f+1)/2) (by omega) (by omega)]
theorem LX {n:Nat} (h:n≠0):∃m,n=2^tz n*(2*m+1):=by
 induction n using FM with
 |_ n ih=>
  by_cases h1:n%2=1
  ·rw [WQ h1];exact ⟨n/2,by omega⟩
  ·rw [C4y h (by omega)]
   obtain ⟨m,hm⟩:=ih (n/2) (DP (by omega) (by omega)) (by omega)
   refine ⟨m,?_⟩
   rw [I5,BX,←hm]
   omega
theorem WO (k m:Nat):tz (2^k*(2*m+1))=k:=by
 induction k with
 |zero=>exact WQ (by omega)
 |succ k ih=>
  have h0:=A9 k
  have e:2^(k+1)*(2*m+1)=2*(2^k*(2*m+1)):=by rw [I5,B6 (2^k) 2,B9]
  have h1:0<2^k*(2*m+1):=Nat.mul_pos h0 (by omega)
  rw [e,C4y (by omega) (by omega),j2 _ (by omega),ih]
theorem A2k {n:Nat} (h:n≠0) (k:Nat):tz (n*2^k)=tz n+k:=by
 obtain ⟨m,hm⟩:=LX h
 have e:n*2^k=2^(tz n+k)*(2*m+1):=by
  conv=>lhs;rw [hm]
  rw [B8,BX]
 rw [e,WO]
theorem HN (n:Nat):2^tz n∣n:=by
 by_cases h:n=0
 ·subst h;exact Nat.dvd_zero _
 ·obtain ⟨m,hm⟩:=LX h
  exact ⟨_,hm⟩
theorem T0 {n:Nat} (h:n≠0):n/2^tz n%2=1:=by
 obtain ⟨m,hm⟩:=LX h
 have e:n/2^tz n=2*m+1:=by
  conv=>lhs;arg 1;rw [hm]
  exact j2 _ (A9 _)
 omega
theorem EN {n:Nat} (h:n≠0) (k:Nat):n%2^k=0 ↔ k≤tz n:=by
 obtain ⟨m,hm⟩:=LX h
 constructor
 ·intro h1
  apply Nat.le_of_not_lt
  intro hlt
  obtain ⟨c,hc⟩:=Nat.dvd_of_mod_eq_zero h1
  have e:2^k=2^tz n*(2*2^(k-tz n-1)):=by
   rw [←Nat.pow_succ',←B8];congr 1;omega
  rw [e,B9] at hc
  have:=Nat.eq_of_mul_eq_mul_left (A9 _) (hm.symm.trans hc)
  rw [B9] at this
  omega
 ·intro h1
  apply Nat.mod_eq_zero_of_dvd
  exact Nat.dvd_trans (Nat.pow_dvd_pow 2 h1) (HN n)
theorem Z2 {n:Nat} (h:n≠0):tz n<bl n:=by
 refine a9.2 ?_
 exact Nat.le_of_dvd (by omega) (HN n)
end Go.Dy

namespace Go.Dy
def may (l:List Nat):Bool:=decide (l.length≤4096∧dg (val l)=l)
def v8 (a b:Nat):Int:=if a<b then -1 else if b<a then 1 else 0
def U3 (a b:List Nat):Nat→Int
 |0=> -1
 |n+1=>if a.getD n 0=b.getD n 0 then U3 a b n else n
def okl (l:List Nat):Prop:=l.length≤35184372088832∧D1 l
theorem C0x {l:List Nat} (h:AI.BC l):okl l:=⟨h.1,h.2⟩
def A7m (ok:Bool) (n:Nat):List Nat×Int:=if ok then (if (dg n).length≤4096 then (dg n,0) else ([],3)) else ([],2)
end Go.Dy
namespace Go.AI
open Go Go.RowKit Go.Proofs
set_option linter.unusedVariables false
def D5n:List AV→Option Spec
 |[.dig [1] l]=>some ⟨none,.bool (Dy.may l)⟩
 |_=>none
def A24:List AV→Option Spec
 |[.dig [1] l]=>some ⟨none,.dig [0,1] (Dy.dg (Dy.val l))⟩
 |_=>none
def C69:List AV→Option Spec
 |[.dig [1] a,.dig [2] b]=>some ⟨some (Dy.dg (Dy.val a)=a∧Dy.dg (Dy.val b)=b),.num .i64 (Dy.v8 (Dy.val a) (Dy.val b))⟩
 |_=>none
def D5k:List AV→Option Spec
 |[.vec [1] 1 [.dig [1] a,.dig [1] b]]=>some ⟨none,.bool (Dy.may a&&Dy.may b)⟩
 |_=>none
def C1h:List AV→Option Spec
 |[.dig [1] l]=>some ⟨none,.tup [.dig [0,1] (if l.length≤4096 then l else []),.num .i64 (if l.length≤4096 then 0 else 3)]⟩
 |_=>none
def C1f:List AV→Option Spec
 |[.num .u32 x,.num .u32 y,.num .u32 c]=>some ⟨none,.tup [.num .u32 ((x+y+c)%4294967296),.num .u32 ((x+y+c)/4294967296)]⟩
 |_=>none
def C1s:List AV→Option Spec
 |[.num .u32 x,.num .u32 y,.num .u32 c]=>some ⟨some (c≤1),.tup [.num .u32 ((x-y-c)%4294967296),.num .u32 (if x<y+c then 1 else 0)]⟩
 |_=>none
def C1j:List AV→Option Spec
 |[.num .u32 x,.num .u32 y,.num .u32 d]=>some ⟨some (x<d),.tup [.num .u32 ((x*4294967296+y)/d),.num .u32 ((x*4294967296+y)%d)]⟩
 |_=>none
def D0p:List AV→Option Spec
 |[.num .u32 x]=>some ⟨none,.num .i64 (32-(D6 x.toNat:Int))⟩
 |_=>none
def sOf:List AV→Option Spec
 |[.num .u64 n]=>some ⟨none,.dig [0] (Dy.dg n.toNat)⟩
 |_=>none
def D5p:List AV→Option Spec
 |[.dig [1] l]=>some ⟨none,.tup [.num .u64 (if Dy.may l&&decide (l.length≤2) then Dy.val l else 0:Nat),.bool (Dy.may l&&decide (l.length≤2))]⟩
 |_=>none
def B0j:List (Nat×(List AV→Option Spec)):=[(180,C1l),(198,D0y)]
def PX:List (Nat×(List AV→Option Spec)):=(132,D5n)::(172,A24)::B0j
def AF:List (Nat×(List AV→Option Spec)):=(185,C69)::(204,D5k)::(214,C1h)::(184,C1f)::(220,C1s)::(215,C1j)::(216,D0p)::(126,sOf)::(173,D5p)::PX
end Go.AI

namespace Go.AI
open Dy IntKind
open Go Go.RowKit Go.Proofs
set_option linter.unusedVariables false
set_option maxRecDepth 100000
set_option maxHeartbeats 0
theorem C2i (l:List Nat) (Q:AV→Prop):(evF Tryz.prog (look B0j) (lam []) false Tryz.f132 [.dig [1] l] Q)=(bif decide ((↑l.length:Int)≤4096) then bif decide ((↑l.length:Int)=0) then Q (.bool true) else ((0:Int)≤i64.wrap ((↑l.length:Int)-1)∧i64.wrap ((↑l.length:Int)-1)<(↑l.length:Int))∧Q (.bool !decide ((↑(l.getD (i64.wrap ((↑l.length:Int)-1)).toNat (0:Nat)):Int)=0)) else Q (.bool false)):=by kernel_rfl
def B9n:List AV→Option LR
 |[.dig [1,2] l]=>some (.need (Dy.okl l) (.done (.exit 0) [.dig [1,2] (Dy.dg (Dy.val l))]))
 |_=>none
def ZJ:=lam [(1,.spec [(0,.same)] B9n)]
theorem B76 (l:List Nat) (Q:AV→Prop):(evF Tryz.prog (look B0j) ZJ true Tryz.f172 [.dig [1] l] Q)=(okl l∧Q (.dig [0,1] (dg (val l)))):=by kernel_rfl
theorem JE (l:List Nat) (K:Exit→List AV→Prop):(M7 Tryz.prog (look B0j) ZJ (1:Nat) (21:Nat) [((0:Nat),Keep.same)] (D8 Tryz.f172 (0:Nat)) [.dig [1,2] l] K)=(bif decide ((↑l.length:Int)>0) then ((0:Int)≤i64.wrap ((↑l.length:Int)-1)∧i64.wrap ((↑l.length:Int)-1)<(↑l.length:Int))∧bif decide ((↑(l.getD (i64.wrap ((↑l.length:Int)-1)).toNat (0:Nat)):Int)=0) then ((0:Int)≤i64.wrap ((↑l.length:Int)-1)∧i64.wrap ((↑l.length:Int)-1)≤(↑l.length:Int))∧K Exit.normal [.dig [1,2] (JK (i64.wrap ((↑l.length:Int)-1)).toNat l)] else K (Exit.exit (0:Nat)) [.dig [1,2] l] else K (Exit.exit (0:Nat)) [.dig [1,2] l]):=by kernel_rfl
def C8y:List AV→Option LR
 |[.dig [1,2,3] a,.dig [1,2,3] b,.num .i64 r,.num .i64 i]=>some (.need (a.length=b.length∧ -1≤i∧i<a.length∧a.length≤2^45) (.test (decide (0≤Dy.U3 a b (i+1).toNat))
 (.done .ret [.dig [1,2,3] a,.dig [1,2,3] b,.num .i64 (if a.getD (Dy.U3 a b (i+1).toNat).toNat 0<b.getD (Dy.U3 a b (i+1).toNat).toNat 0 then -1 else 1),.num .i64 (Dy.U3 a b (i+1).toNat)])
 (.done (.exit 1) [.dig [1,2,3] a,.dig [1,2,3] b,.num .i64 r,.num .i64 (-1)])))
 |_=>none
def A8g:=lam [(6,.spec [(0,.same),(1,.same),(4,.same),(5,.same)] C8y)]
theorem C2n (a:List Nat) (b:List Nat) (Q:AV→Prop):(evF Tryz.prog (look PX) A8g false Tryz.f185 [.dig [1] a,.dig [2] b] Q)=(bif decide ((↑a.length:Int)<(↑b.length:Int)) then Q (.num .i64 (-1)) else bif decide ((↑a.length:Int)>(↑b.length:Int)) then Q (.num .i64 1) else (a.length=b.length∧(-1:Int)≤i64.wrap ((↑a.length:Int)-1)∧i64.wrap ((↑a.length:Int)-1)<(↑a.length:Int)∧a.length≤35184372088832)∧bif decide (0≤U3 a b (i64.wrap ((↑a.length:Int)-1)+1).toNat) then Q (.num .i64 (if a.getD (U3 a b (i64.wrap ((↑a.length:Int)-1)+1).toNat).toNat (0:Nat)<b.getD (U3 a b (i64.wrap ((↑a.length:Int)-1)+1).toNat).toNat (0:Nat) then (-1:Int) else (1:Int))) else Q (.num .i64 0)):=by kernel_rfl
theorem MA (a:List Nat) (b:List Nat) (i:Int) (r:Int) (K:Exit→List AV→Prop):(M7 Tryz.prog (look PX) A8g (2:Nat) (43:Nat) [((0:Nat),Keep.same),((1:Nat),Keep.same),((4:Nat),Keep.same),((5:Nat),Keep.same)] (D8 Tryz.f185 (0:Nat)) [.dig [1,2,3] a,.dig [1,2,3] b,.num .i64 r,.num .i64 i] K)=(bif decide (i≥0) then (0≤i∧i<(↑a.length:Int))∧(0≤i∧i<(↑b.length:Int))∧bif !decide ((↑(a.getD i.toNat (0:Nat)):Int)=(↑(b.getD i.toNat (0:Nat)):Int)) then (0≤i∧i<(↑a.length:Int))∧(0≤i∧i<(↑b.length:Int))∧bif decide ((↑(a.getD i.toNat (0:Nat)):Int)<(↑(b.getD i.toNat (0:Nat)):Int)) then K Exit.ret [.dig [1,2,3] a,.dig [1,2,3] b,.num .i64 (-1),.num .i64 i] else K Exit.ret [.dig [1,2,3] a,.dig [1,2,3] b,.num .i64 1,.num .i64 i] else K Exit.normal [.dig [1,2,3] a,.dig [1,2,3] b,.num .i64 r,.num .i64 (i64.wrap (i-1))] else K (Exit.exit (1:Nat)) [.dig [1,2,3] a,.dig [1,2,3] b,.num .i64 r,.num .i64 i]):=by kernel_rfl
theorem C2m (a:List Nat) (b:List Nat) (Q:AV→Prop):(evF Tryz.prog (look PX) (lam [((2:Nat),LoopAnn.unroll (3:Nat))]) false Tryz.f204 [.vec [1] (1:Nat) [.dig [1] a,.dig [1] b]] Q)=(((0:Int)≤0∧(0:Int)<(↑[AV.dig [(1:Nat)] a,AV.dig [(1:Nat)] b].length:Int))∧bif !may a then Q (.bool false) else ((0:Int)≤i64.wrap ((0:Int)+1)∧i64.wrap ((0:Int)+1)<(↑[AV.dig [(1:Nat)] a,AV.dig [(1:Nat)] b].length:Int))∧bif !may b then Q (.bool false) else Q (.bool true)):=by kernel_rfl
theorem B15 (l:List Nat) (Q:AV→Prop):(evF Tryz.prog (look PX) (lam []) true Tryz.f214 [.dig [1] l] Q)=(bif decide ((↑l.length:Int)>4096) then Q (.tup [.dig [0,1] [],.num .i64 3]) else Q (.tup [.dig [0,1] l,.num .i64 0])):=by kernel_rfl
theorem D1x (x:Int) (y:Int) (c:Int) (Q:AV→Prop):(evF Tryz.prog (look PX) (lam []) false Tryz.f184 [.num .u32 x,.num .u32 y,.num .u32 c] Q)=(Q (.tup [.num .u32 (u32.wrap (u64.wrap (u64.wrap (u64.wrap x+u64.wrap y)+u64.wrap c))),.num .u32 (u32.wrap ((u64.wrap (u64.wrap (u64.wrap x+u64.wrap y)+u64.wrap c)).fdiv ((2:Int)^(32:Nat))))])):=by kernel_rfl
theorem D1z (x:Int) (y:Int) (c:Int) (Q:AV→Prop):(evF Tryz.prog (look PX) (lam []) false Tryz.f220 [.num .u32 x,.num .u32 y,.num .u32 c] Q)=(Q (.tup [.num .u32 (u32.wrap (u32.wrap (x-y)-c)),.num .u32 ((u32.wrap (↑(A7 (32:Nat) (u32.wrap (↑(A7 (32:Nat) (u32.wrap (↑(A7 (32:Nat) (if u32.signed=true then (-1:Int) else u32.max)^^^A7 (32:Nat) x).toNat:Int))&&&A7 (32:Nat) y).toNat:Int))|||A7 (32:Nat) (u32.wrap (↑(A7 (32:Nat) (u32.wrap (↑(A7 (32:Nat) (if u32.signed=true then (-1:Int) else u32.max)^^^A7 (32:Nat) (u32.wrap (↑(A7 (32:Nat) x^^^A7 (32:Nat) y).toNat:Int))).toNat:Int))&&&A7 (32:Nat) (u32.wrap (u32.wrap (x-y)-c))).toNat:Int))).toNat:Int)).fdiv ((2:Int)^(31:Nat)))])):=by kernel_rfl
theorem D1y (x:Int) (y:Int) (c:Int) (Q:AV→Prop):(evF Tryz.prog (look PX) (lam []) false Tryz.f215 [.num .u32 x,.num .u32 y,.num .u32 c] Q)=(bif !decide (c=0) then bif decide (c≤x) then False else u64.wrap c≠0∧u64.wrap c≠0∧Q (.tup [.num .u32 (u32.wrap (u64.wrap ((u64.wrap (↑(A7 (64:Nat) (u64.wrap (u64.wrap x*2^(32:Nat)))|||A7 (64:Nat) (u64.wrap y)).toNat:Int)).tdiv (u64.wrap c)))),.num .u32 (u32.wrap ((u64.wrap (↑(A7 (64:Nat) (u64.wrap (u64.wrap x*2^(32:Nat)))|||A7 (64:Nat) (u64.wrap y)).toNat:Int)).tmod (u64.wrap c)))]) else u64.wrap c≠0∧u64.wrap c≠0∧Q (.tup [.num .u32 (u32.wrap (u64.wrap ((u64.wrap (↑(A7 (64:Nat) (u64.wrap (u64.wrap x*2^(32:Nat)))|||A7 (64:Nat) (u64.wrap y)).toNat:Int)).tdiv (u64.wrap c)))),.num .u32 (u32.wrap ((u64.wrap (↑(A7 (64:Nat) (u64.wrap (u64.wrap x*2^(32:Nat)))|||A7 (64:Nat) (u64.wrap y)).toNat:Int)).tmod (u64.wrap c)))])):=by kernel_rfl
theorem D3q (x:Int) (Q:AV→Prop):(evF Tryz.prog (look PX) (lam []) false Tryz.f216 [.num .u32 x] Q)=(Q (.num .i64 (i64.wrap ((32:Int)-(↑(D6 x.toNat):Int))))):=by kernel_rfl
theorem C6n (n:Int) (Q:AV→Prop):(evF Tryz.prog (look PX) (lam []) false Tryz.f126 [.num .u64 n] Q)=(Q (.dig [0] (dg (val [(u32.wrap n).toNat,(u32.wrap (n.fdiv ((2:Int)^(32:Nat)))).toNat])))):=by kernel_rfl
def C91:List AV→Option LR
 |[.num .u64 n,.dig [1,2] l,.num .i64 k,.num .i64 i]=>some (.need (k=l.length∧i=0∧n=0∧l.length≤2∧Dy.okl l) (.done (.exit 0) [.num .u64 (Dy.val l),.dig [1,2] l,.num .i64 k,.num .i64 k]))
 |_=>none
def A0i:=lam [(5,.spec [(4,.same),(15,.same),(16,.same),(17,.same)] C91)]
theorem C2k (l:List Nat) (Q:AV→Prop):(evF Tryz.prog (look PX) A0i false Tryz.f173 [.dig [1] l] Q)=(bif !may l then Q (.tup [.num .u64 0,.bool false]) else bif decide ((↑l.length:Int)>2) then Q (.tup [.num .u64 0,.bool false]) else ((↑l.length:Int)=(↑l.length:Int)∧(0:Int)=0∧(0:Int)=0∧l.length≤2∧okl l)∧Q (.tup [.num .u64 (↑(val l):Int),.bool true])):=by kernel_rfl
theorem UX (l:List Nat) (n:Int) (k:Int) (i:Int) (K:Exit→List AV→Prop):(M7 Tryz.prog (look PX) A0i (1:Nat) (31:Nat) [((4:Nat),Keep.same),((15:Nat),Keep.same),((16:Nat),Keep.same),((17:Nat),Keep.same)] (D8 Tryz.f173 (0:Nat)) [.num .u64 n,.dig [1,2] l,.num .i64 k,.num .i64 i] K)=(bif decide (i<k) then (0≤i∧i<(↑l.length:Int))∧(0:Int)≤i64.wrap ((32:Int)*i)∧K Exit.normal [.num .u64 (u64.wrap (↑(A7 (64:Nat) n|||A7 (64:Nat) (u64.wrap (u64.wrap (↑(l.getD i.toNat (0:Nat)):Int)*2^min (i64.wrap ((32:Int)*i)).toNat (64:Nat)))).toNat:Int)),.dig [1,2] l,.num .i64 k,.num .i64 (i64.wrap (i+1))] else K (Exit.exit (0:Nat)) [.num .u64 n,.dig [1,2] l,.num .i64 k,.num .i64 i]):=by kernel_rfl
end Go.AI

namespace Go.Dy
theorem C9t {l:List Nat} (h:okl l) (n:Nat):okl (l.take n):=⟨by rw [R8];have:=h.1;omega,Q7 h.2 n⟩
theorem ZZ {a b:List Nat} (ha:D1 a) (hb:D1 b):∀n,n≤a.length→n≤b.length→
  if U3 a b n<0 then val (a.take n)=val (b.take n) else (a.getD (U3 a b n).toNat 0<b.getD (U3 a b n).toNat 0 ↔ val (a.take n)<val (b.take n))∧val (a.take n)≠val (b.take n)
 |0,_,_=>by simp [U3]
 |n+1,h1,h2=>by
  have ih:=ZZ ha hb n (by omega) (by omega)
  rw [O1 (by omega:n<a.length),O1 (by omega:n<b.length)]
  have la:=I0 (Q7 ha n)
  have lb:=I0 (Q7 hb n)
  rw [R8,J1 (by omega)] at la lb
  unfold U3
  by_cases e:a.getD n 0=b.getD n 0
  ·rw [if_pos e,e]
   by_cases hd:U3 a b n<0
   ·rw [if_pos hd] at ih ⊢
    rw [ih]
   ·rw [if_neg hd] at ih ⊢
    refine ⟨ih.1.trans ?_,?_⟩
    ·omega
    ·have:=ih.2;omega
  ·rw [if_neg e,if_neg (by omega)]
   simp only [A2]
   generalize a.getD n 0=x at e ⊢
   generalize b.getD n 0=y at e ⊢
   generalize val (JK n a)=u at la ⊢
   generalize val (JK n b)=v at lb ⊢
   generalize 2^(32*n)=p at la lb ⊢
   rcases Nat.lt_or_gt_of_ne e with h|h
   ·have:p*(x+1)≤p*y:=F2 _ h
    rw [D0,M0] at this
    exact ⟨⟨fun _=>by omega,fun _=>h⟩,by omega⟩
   ·have:p*(y+1)≤p*x:=F2 _ h
    rw [D0,M0] at this
    exact ⟨⟨fun _=>by omega,fun _=>by omega⟩,by omega⟩
theorem KP {l:List Nat} (h:D1 l):dg (val l)=l ↔ (l=[]∨l.getD (l.length-1) 0≠0):=B8s h
theorem TI {l:List Nat}:may l=true ↔ l.length≤4096∧dg (val l)=l:=by simp [may]
end Go.Dy
namespace Go.AI
open Go Go.RowKit Go.Proofs
set_option linter.unusedVariables false
theorem ZL:G6 Tryz.prog Inv (look B0j):=A3 (A3 C8s D54) D35
theorem E4 {p l:List Nat} {r:List AV} (h:AV.oks (.dig p l::r)):Dy.okl l∧AV.oks r:=by
 simp only [AV.oks,AV.ok] at h
 exact ⟨Dy.C0x h.1,h.2⟩
theorem J5 {k:IntKind} {n:Int} {r:List AV} (h:AV.oks (.num k n::r)):(k.min≤n∧n≤k.max)∧AV.oks r:=by
 simp only [AV.oks,AV.ok] at h
 exact h
theorem range_u32 {n:Int} (h:IntKind.u32.min≤n∧n≤IntKind.u32.max):0≤n∧n<4294967296:=by
 simp [IntKind.min,IntKind.max,IntKind.bits,IntKind.signed] at h
 omega
theorem range_u64 {n:Int} (h:IntKind.u64.min≤n∧n≤IntKind.u64.max):0≤n∧n<18446744073709551616:=by
 simp [IntKind.min,IntKind.max,IntKind.bits,IntKind.signed] at h
 omega
theorem range_i64 {n:Int} (h:IntKind.i64.min≤n∧n≤IntKind.i64.max): -9223372036854775808≤n∧n<9223372036854775808:=by
 simp [IntKind.min,IntKind.max,IntKind.bits,IntKind.signed] at h
 omega
theorem C06 (args:List AV) (s:Spec) (h:D5n args=some s) (hp:C6 s.pre True):Contract Tryz.prog Inv 132 args s.res:=by
 unfold D5n at h
 split at h
 ·cases h
  rename_i l
  refine A4 false ZL Tryz.func132 (by kernel_rfl) (by kernel_rfl) fun hok=> ?_
  have h0:=(E4 hok).1
  have h1:=h0.1
  have h2:=h0.2
  rw [C2i]
  by_cases c1:l.length≤4096
  ·refine B5 (by simp;omega) ?_
   by_cases c2:l=[]
   ·subst c2
    exact B5 rfl (by simp [Dy.may,Dy.val,Dy.O0])
   ·have hl:=X4.2 c2
    refine B1 (by simp;omega) ?_
    rw [wrap_i64 (by omega) (by omega),show ((l.length:Int)-1).toNat=l.length-1 by omega]
    refine ⟨by omega,?_⟩
    have e:Dy.may l= !decide (((l.getD (l.length-1) 0:Nat):Int)=0):=by
     rw [Bool.eq_iff_iff,Dy.TI,Dy.KP h2]
     simp only [Bool.not_eq_true',decide_eq_false_iff_not]
     constructor
     ·rintro ⟨_,h|h⟩
      ·exact absurd h c2
      ·omega
     ·intro h;exact ⟨c1,.inr (by omega)⟩
    rw [e]
  ·refine B1 (by simp;omega) ?_
   have e:Dy.may l=false:=by simp only [Dy.may,decide_eq_false_iff_not];omega
   rw [e]
 ·cases h
theorem A3l:L6 Tryz.prog (look B0j) ZJ 1 21 [(0,.same)] (D8 Tryz.f172 0) B9n:=by
 intro vals r h K hK
 unfold B9n at h
 split at h
 ·cases h
  rename_i l
  simp only [j0] at hK
  obtain ⟨hl,hK⟩:=hK
  generalize hn:l.length=n
  induction n generalizing l with
  |zero=>
   have:l=[]:=List.length_eq_zero_iff.1 hn
   subst this
   refine D4 ?_
   rw [JE]
   refine B1 rfl ?_
   rw [show Dy.dg (Dy.val [])=[] from Dy.O0] at hK
   exact hK
  |succ n ih=>
   have hb:=hl.1
   by_cases c:l.getD n 0=0
   ·have e0:((l.length:Int)-1).toNat=l.length-1:=by omega
    have hw:IntKind.i64.wrap ((l.length:Int)-1)=(l.length:Int)-1:=wrap_i64 (by omega) (by omega)
    have hv:Dy.val (l.take (l.length-1))=Dy.val l:=Dy.A4t (fun e=>by subst e;simp at hn) (by rw [hn];exact c)
    obtain ⟨m,hm⟩:=ih (l.take (l.length-1)) (Dy.C9t hl _) (by rw [hv];exact hK) (by rw [R8];omega)
    refine E9 m ?_
    rw [JE,hw,e0]
    refine B5 (by simp;omega) ⟨by omega,B5 (by rw [show l.length-1=n by omega];simp;exact c) ⟨by omega,hm⟩⟩
   ·refine D4 ?_
    have e0:((l.length:Int)-1).toNat=l.length-1:=by omega
    have hw:IntKind.i64.wrap ((l.length:Int)-1)=(l.length:Int)-1:=wrap_i64 (by omega) (by omega)
    rw [JE,hw,e0]
    refine B5 (by simp;omega) ⟨by omega,B1 (decide_eq_false (by rw [show l.length-1=n by omega];omega)) ?_⟩
    have:=(Dy.KP hl.2).2 (.inr (by rw [hn];exact c))
    rw [this] at hK
    exact hK
 ·cases h
theorem XI (args:List AV) (s:Spec) (h:A24 args=some s) (hp:C6 s.pre True):Contract Tryz.prog Inv 172 args s.res:=by
 unfold A24 at h
 split at h
 ·cases h
  rename_i l
  refine E8 true 21 ZJ ZL Tryz.func172 (by kernel_rfl) rfl (W4 (by kernel_rfl) (by kernel_rfl) A3l) fun hok=> ?_
  obtain ⟨h1, -⟩:=E4 hok
  rw [B76]
  exact ⟨h1,rfl⟩
 ·cases h
theorem EQ:G6 Tryz.prog Inv (look PX):=A3 (A3 ZL XI) C06
theorem A8m:L6 Tryz.prog (look PX) A8g 2 43 [(0,.same),(1,.same),(4,.same),(5,.same)] (D8 Tryz.f185 0) C8y:=by
 intro vals r h K hK
 unfold C8y at h
 split at h
 ·cases h
  rename_i a b r i
  simp only [j0] at hK
  obtain ⟨⟨hl,h1,h2,h3⟩,hK⟩:=hK
  generalize hn:(i+1).toNat=n at hK
  induction n generalizing i with
  |zero=>
   have:i= -1:=by omega
   subst this
   refine D4 ?_
   rw [MA]
   refine B1 rfl ?_
   simpa [Dy.U3] using hK
  |succ n ih=>
   have hi:i=n:=by omega
   subst hi
   by_cases c:a.getD n 0=b.getD n 0
   ·have e:Dy.U3 a b (n+1)=Dy.U3 a b n:=by rw [Dy.U3,if_pos c]
    rw [e] at hK
    obtain ⟨m,hm⟩:=ih ((n:Int)-1) (by omega) (by omega) (by omega) hK
    refine E9 m ?_
    rw [MA]
    refine B5 (decide_eq_true (by omega)) ⟨by omega,by omega,B1 ?_ ?_⟩
    ·rw [show ((n:Int)).toNat=n from rfl,c];simp
    ·rw [wrap_i64 (by omega) (by omega)];exact hm
   ·have e:Dy.U3 a b (n+1)=n:=by rw [Dy.U3,if_neg c]
    rw [e,decide_eq_true (by omega:(0:Int)≤(n:Int))] at hK
    simp only [cond_true,A2] at hK
    refine D4 ?_
    rw [MA]
    refine B5 (decide_eq_true (by omega)) ⟨by omega,by omega,B5 ?_ ⟨by omega,by omega,A8 (fun h=> ?_) (fun h=> ?_)⟩⟩
    ·rw [show ((n:Int)).toNat=n from rfl,decide_eq_false (by omega)];rfl
    ·rw [if_pos (by have:=A1 h;rw [show ((n:Int)).toNat=n from rfl] at this;omega)] at hK;exact hK
    ·rw [if_neg (by have:=A0 h;rw [show ((n:Int)).toNat=n from rfl] at this;omega)] at hK;exact hK
 ·cases h
theorem C0b (args:List AV) (s:Spec) (h:C69 args=some s) (hp:C6 s.pre True):Contract Tryz.prog Inv 185 args s.res:=by
 unfold C69 at h
 split at h
 ·cases h
  rename_i a b
  obtain ⟨⟨ca,cb⟩, -⟩:=hp
  refine E8 false 43 A8g EQ Tryz.func185 (by kernel_rfl) rfl (W4 (by kernel_rfl) (by kernel_rfl) A8m) fun hok=> ?_
  have ha:=(E4 hok).1
  have hb:=(E4 (E4 hok).2).1
  have ha1:=ha.1
  rw [C2n]
  refine A8 (fun h=> ?_) (fun h=>A8 (fun h'=> ?_) (fun h'=> ?_))
  ·have h:=A1 h
   have:= @Dy.BV (Dy.val a) (Dy.val b) (by rw [ca,cb];omega)
   simp only [Dy.v8,if_pos this]
  ·have h':=A1 h'
   have:= @Dy.BV (Dy.val b) (Dy.val a) (by rw [ca,cb];omega)
   simp only [Dy.v8,if_pos this,if_neg (Nat.lt_asymm this)]
  ·have h:=A0 h
   have h':=A0 h'
   have hl:a.length=b.length:=by omega
   rw [wrap_i64 (by omega) (by omega),show ((a.length:Int)-1+1).toNat=a.length by omega]
   have key:=Dy.ZZ ha.2 hb.2 a.length (I6 _) (by omega)
   rw [JL,hl,JL] at key
   refine ⟨by omega,A8 (fun h0=> ?_) (fun h0=> ?_)⟩
   ·have h0:=A1 h0
    rw [hl] at h0 ⊢
    rw [if_neg (by omega)] at key
    by_cases c:a.getD (Dy.U3 a b b.length).toNat 0<b.getD (Dy.U3 a b b.length).toNat 0
    ·rw [if_pos c]
     simp only [Dy.v8,if_pos (key.1.1 c)]
    ·have h1:¬Dy.val a<Dy.val b:=fun h=>c (key.1.2 h)
     rw [if_neg c]
     simp only [Dy.v8,if_neg h1,if_pos (by omega:Dy.val b<Dy.val a)]
   ·have h0:=A0 h0
    rw [hl] at h0
    rw [if_pos (by omega)] at key
    simp [Dy.v8,key]
 ·cases h
theorem C0a (args:List AV) (s:Spec) (h:D5k args=some s) (hp:C6 s.pre True):Contract Tryz.prog Inv 204 args s.res:=by
 unfold D5k at h
 split at h
 ·cases h
  rename_i a b
  refine E8 false 15 (lam [(2,.unroll 3)]) EQ Tryz.func204 (by kernel_rfl) rfl (EP (k:=3) (by kernel_rfl) (by kernel_rfl)) fun hok=> ?_
  rw [C2m]
  refine ⟨by simp,A8 (fun h=> ?_) (fun h=>⟨by rw [wrap_i64 (by omega) (by omega)];simp,A8 (fun h'=> ?_) (fun h'=> ?_)⟩)⟩
  ·simp at h;rw [h];rfl
  ·simp at h h';rw [h,h'];rfl
  ·simp at h h';rw [h,h'];rfl
 ·cases h
theorem A9f (args:List AV) (s:Spec) (h:C1h args=some s) (hp:C6 s.pre True):Contract Tryz.prog Inv 214 args s.res:=by
 unfold C1h at h
 split at h
 ·cases h
  rename_i l
  refine A4 true EQ Tryz.func214 (by kernel_rfl) (by kernel_rfl) fun hok=> ?_
  rw [B15]
  refine A8 (fun h=> ?_) (fun h=> ?_)
  ·have h:=A1 h
   simp only [if_neg (show¬l.length≤4096 by omega)]
  ·have h:=A0 h
   simp only [if_pos (show l.length≤4096 by omega)]
 ·cases h
theorem j7 {n:Nat} {x:Int} (h0:0≤x) (h1:x<2^n):(A7 n x).toNat=x.toNat:=by
 obtain ⟨k,rfl⟩:=C4 h0
 rw [R7,U7]
 refine F9 ?_
 rw [show ((2:Int)^n)=((2^n:Nat):Int) by simp] at h1
 exact Int.ofNat_lt.1 h1
theorem A3d {x y:Int} (h0:0≤x) (h1:x<4294967296) (h2:0≤y) (h3:y<4294967296):IntKind.u32.wrap ((A7 32 x|||A7 32 y).toNat:Int)=((x.toNat|||y.toNat:Nat):Int):=by
 rw [BitVec.toNat_or,j7 h0 h1,j7 h2 h3,wrap_u32]
 have:x.toNat|||y.toNat<2^32:=Nat.or_lt_two_pow (by omega) (by omega)
 omega
theorem ZQ {x y:Int} (h0:0≤x) (h1:x<4294967296) (h2:0≤y) (h3:y<4294967296):IntKind.u32.wrap ((A7 32 x&&&A7 32 y).toNat:Int)=((x.toNat&&&y.toNat:Nat):Int):=by
 rw [JH,j7 h0 h1,j7 h2 h3,wrap_u32]
 have:x.toNat&&&y.toNat<2^32:=QV _ (by omega)
 omega
theorem B1t {x y:Int} (h0:0≤x) (h1:x<4294967296) (h2:0≤y) (h3:y<4294967296):IntKind.u32.wrap ((A7 32 x^^^A7 32 y).toNat:Int)=((x.toNat^^^y.toNat:Nat):Int):=by
 rw [BitVec.toNat_xor,j7 h0 h1,j7 h2 h3,wrap_u32]
 have:x.toNat^^^y.toNat<2^32:=QW (by omega) (by omega)
 omega
theorem WT {x y:Int} (h0:0≤x) (h1:x<18446744073709551616) (h2:0≤y) (h3:y<18446744073709551616):IntKind.u64.wrap ((A7 64 x|||A7 64 y).toNat:Int)=((x.toNat|||y.toNat:Nat):Int):=by
 rw [BitVec.toNat_or,j7 h0 h1,j7 h2 h3,wrap_u64]
 have:x.toNat|||y.toNat<2^64:=Nat.or_lt_two_pow (by omega) (by omega)
 omega
theorem LF {a b k:Nat} (h:b<2^k):a*2^k|||b=a*2^k+b:=by
 rw [B6,←Nat.two_pow_add_eq_or_of_lt h]
theorem fdiv_pow {x:Int} (h:0≤x) (k:Nat):x.fdiv (2^k)=((x.toNat/2^k:Nat):Int):=by
 obtain ⟨m,rfl⟩:=C4 h
 rw [Int.fdiv_eq_ediv_of_nonneg _ (by exact_mod_cast Nat.zero_le (2^k))]
 simp
theorem C3u {x:Nat} (h:x<4294967296):x.testBit 31=decide (2147483648≤x):=by
 rw [Nat.testBit_eq_decide_div_mod_eq]
 rw [show (2:Nat)^31=2147483648 from rfl]
 congr 1
 apply propext
 omega
theorem D65 {x:Nat} (h:x<4294967296):x/2^31=if x.testBit 31 then 1 else 0:=by
 rw [C3u h,show (2:Nat)^31=2147483648 from rfl]
 split
 ·rename_i h1;have:=A1 h1;omega
 ·rename_i h1;simp at h1;omega
theorem C9c (args:List AV) (s:Spec) (h:C1f args=some s) (hp:C6 s.pre True):Contract Tryz.prog Inv 184 args s.res:=by
 unfold C1f at h
 split at h
 ·cases h
  rename_i x y c
  refine A4 false EQ Tryz.func184 (by kernel_rfl) (by kernel_rfl) fun hok=> ?_
  have hx:=range_u32 (J5 hok).1
  have hy:=range_u32 (J5 (J5 hok).2).1
  have hc:=range_u32 (J5 (J5 (J5 hok).2).2).1
  rw [D1x]
  rw [fdiv_pow (by rw [wrap_u64];omega)]
  simp only [wrap_u32,wrap_u64]
  congr 4
  ·omega
  ·congr 1;omega
 ·cases h
theorem C9e (args:List AV) (s:Spec) (h:C1s args=some s) (hp:C6 s.pre True):Contract Tryz.prog Inv 220 args s.res:=by
 unfold C1s at h
 split at h
 ·cases h
  rename_i x y c
  refine A4 false EQ Tryz.func220 (by kernel_rfl) (by kernel_rfl) fun hok=> ?_
  have hx:=range_u32 (J5 hok).1
  have hy:=range_u32 (J5 (J5 hok).2).1
  have hc:=range_u32 (J5 (J5 (J5 hok).2).2).1
  have hc1:c≤1:=hp.1
  rw [D1z]
  have hd:IntKind.u32.wrap (IntKind.u32.wrap (x-y)-c)=(x-y-c)%4294967296:=by simp only [wrap_u32];omega
  rw [hd]
  have hd0:0≤(x-y-c)%4294967296∧(x-y-c)%4294967296<4294967296:=by omega
  generalize hdd:(x-y-c)%4294967296=d at hd0 ⊢
  have hm:(if IntKind.u32.signed=true then (-1:Int) else IntKind.u32.max)=4294967295:=by decide
  rw [hm]
  obtain ⟨X,rfl⟩:=C4 hx.1
  obtain ⟨Y,rfl⟩:=C4 hy.1
  obtain ⟨D,rfl⟩:=C4 hd0.1
  have hX:X<4294967296:=by omega
  have hY:Y<4294967296:=by omega
  have hD:D<4294967296:=by omega
  have m0:(4294967295:Nat)<2^32:=by decide
  have l1:4294967295^^^X<2^32:=QW m0 hX
  have l2:X^^^Y<2^32:=QW hX hY
  have l3:4294967295^^^(X^^^Y)<2^32:=QW m0 l2
  have l4:(4294967295^^^X)&&&Y<2^32:=QV _ hY
  have l5:(4294967295^^^(X^^^Y))&&&D<2^32:=QV _ hD
  have l6:(4294967295^^^X)&&&Y|||(4294967295^^^(X^^^Y))&&&D<2^32:=Nat.or_lt_two_pow l4 l5
  rw [B1t (by omega) (by omega) (by omega) (by omega),B1t (x:=(X:Int)) (y:=(Y:Int)) (by omega) (by omega) (by omega) (by omega)]
  simp only [A2,show (4294967295:Int).toNat=4294967295 from rfl]
  rw [B1t (by omega) (by omega) (by omega) (by omega)]
  simp only [A2,show (4294967295:Int).toNat=4294967295 from rfl]
  rw [ZQ (by omega) (by omega) (by omega) (by omega),ZQ (by omega) (by omega) (by omega) (by omega)]
  simp only [A2]
  rw [A3d (by omega) (by omega) (by omega) (by omega)]
  simp only [A2]
  rw [fdiv_pow (by omega)]
  simp only [A2]
  rw [D65 l6]
  simp only [Nat.testBit_or,Nat.testBit_and,Nat.testBit_xor,C3u hX,C3u hY,C3u hD,show Nat.testBit 4294967295 31=true by decide]
  have key:(if (((true^^decide (2147483648≤X))&&decide (2147483648≤Y))||((true^^(decide (2147483648≤X)^^decide (2147483648≤Y)))&&decide (2147483648≤D)))=true then 1 else 0:Nat)=if (X:Int)<(Y:Int)+c then 1 else 0:=by
   by_cases a1:2147483648≤X<;>by_cases a2:2147483648≤Y<;>by_cases a3:2147483648≤D<;>simp [a1,a2,a3]<;>omega
  rw [key]
  split<;>rfl
 ·cases h
theorem C9d (args:List AV) (s:Spec) (h:C1j args=some s) (hp:C6 s.pre True):Contract Tryz.prog Inv 215 args s.res:=by
 unfold C1j at h
 split at h
 ·cases h
  rename_i x y c
  refine A4 false EQ Tryz.func215 (by kernel_rfl) (by kernel_rfl) fun hok=> ?_
  have hx:=range_u32 (J5 hok).1
  have hy:=range_u32 (J5 (J5 hok).2).1
  have hc:=range_u32 (J5 (J5 (J5 hok).2).2).1
  have hxc:x<c:=hp.1
  rw [D1y]
  refine B5 (by rw [decide_eq_false (by omega)];rfl) (B1 (decide_eq_false (by omega)) ?_)
  have e1:IntKind.u64.wrap c=c:=by rw [wrap_u64];omega
  have e2:IntKind.u64.wrap (IntKind.u64.wrap x*2^32)=x*4294967296:=by simp only [wrap_u64];omega
  have e3:IntKind.u64.wrap y=y:=by rw [wrap_u64];omega
  rw [e1,e2,e3,WT (by omega) (by omega) (by omega) (by omega)]
  refine ⟨by omega,by omega,?_⟩
  have e4:(x*4294967296).toNat|||y.toNat=x.toNat*2^32+y.toNat:=by
   rw [←LF (show y.toNat<2^32 by omega)]
   congr 1
   omega
  rw [e4]
  obtain ⟨X,rfl⟩:=C4 hx.1
  obtain ⟨Y,rfl⟩:=C4 hy.1
  obtain ⟨C,rfl⟩:=C4 hc.1
  simp only [A2]
  have e5:(X*2^32+Y)/C<4294967296:=by
   rw [H0 (by omega)]
   have:(X+1)*4294967296≤C*4294967296:=C0 _ (by omega)
   rw [B6 4294967296 C]
   omega
  have e6:(X*2^32+Y)%C<C:=Nat.mod_lt _ (by omega)
  have e7:((X:Int)*4294967296+Y)=((X*2^32+Y:Nat):Int):=by omega
  rw [←Int.ofNat_tdiv,←Int.ofNat_tmod,e7,←Int.natCast_ediv,←Int.natCast_emod]
  generalize (X*2^32+Y)/C=q at e5 ⊢
  generalize (X*2^32+Y)%C=r at e6 ⊢
  have e8:IntKind.u32.wrap (IntKind.u64.wrap (q:Int))=q:=by rw [wrap_u32,wrap_u64];omega
  have e9:IntKind.u32.wrap (r:Int)=r:=by rw [wrap_u32];omega
  rw [e8,e9]
 ·cases h
theorem D37 (args:List AV) (s:Spec) (h:D0p args=some s) (hp:C6 s.pre True):Contract Tryz.prog Inv 216 args s.res:=by
 unfold D0p at h
 split at h
 ·cases h
  rename_i x
  refine A4 false EQ Tryz.func216 (by kernel_rfl) (by kernel_rfl) fun hok=> ?_
  have hx:=range_u32 (J5 hok).1
  rw [D3q]
  have:=Lib.bitLen_le x.toNat 32 (by omega) (by omega)
  rw [wrap_i64 (by omega) (by omega)]
 ·cases h
theorem C5v (args:List AV) (s:Spec) (h:sOf args=some s) (hp:C6 s.pre True):Contract Tryz.prog Inv 126 args s.res:=by
 unfold sOf at h
 split at h
 ·cases h
  rename_i n
  refine A4 false EQ Tryz.func126 (by kernel_rfl) (by kernel_rfl) fun hok=> ?_
  have hn:=range_u64 (J5 hok).1
  rw [C6n]
  rw [fdiv_pow hn.1]
  simp only [wrap_u32,Dy.val]
  congr 2
  omega
 ·cases h
theorem A8l:L6 Tryz.prog (look PX) A0i 1 31 [(4,.same),(15,.same),(16,.same),(17,.same)] (D8 Tryz.f173 0) C91:=by
 intro vals r h K hK
 unfold C91 at h
 split at h
 ·cases h
  rename_i n l k i
  simp only [j0] at hK
  obtain ⟨⟨rfl,rfl,rfl,hl,hd⟩,hK⟩:=hK
  have key:∀u j:Nat,l.length=u+j→∃m,P4 Tryz.prog (look PX) A0i 1 31 [(4,.same),(15,.same),(16,.same),(17,.same)] (D8 Tryz.f173 0) m [.num .u64 (Dy.val (l.take j)),.dig [1,2] l,.num .i64 l.length,.num .i64 j] K:=by
   intro u
   induction u with
   |zero=>
    intro j hj
    refine D4 ?_
    rw [UX]
    refine B1 (decide_eq_false (by omega)) ?_
    rw [H7 (by omega)]
    have:(j:Int)=(l.length:Int):=by omega
    rw [this]
    exact hK
   |succ u ih=>
    intro j hj
    obtain ⟨m,hm⟩:=ih (j+1) (by omega)
    refine E9 m ?_
    rw [UX]
    have hx:=Dy.E5 hd.2 j
    have hv:=Dy.I0 (Dy.Q7 hd.2 j)
    rw [R8,J1 (by omega)] at hv
    have hj2:j=0∨j=1:=by omega
    have hs:Dy.val (l.take (j+1))=Dy.val (l.take j)+2^(32*j)*l.getD j 0:=Dy.O1 (by omega)
    have hp:2^(32*j)≤4294967296:=by rcases hj2 with h|h<;>subst h<;>decide
    refine B5 (decide_eq_true (by omega)) ⟨by omega,by rw [wrap_i64 (by omega) (by omega)];omega,?_⟩
    rw [wrap_i64 (by omega) (by omega),wrap_i64 (by omega) (by omega)]
    have e1:((32*(j:Int)).toNat)=32*j:=by omega
    have e2:IntKind.u64.wrap (IntKind.u64.wrap ((l.getD (j:Int).toNat 0:Nat):Int)*2^min (32*(j:Int)).toNat 64)=((2^(32*j)*l.getD j 0:Nat):Int):=by
     rw [e1,J1 (by omega),A2,wrap_u64,wrap_u64]
     rcases hj2 with h|h<;>subst h<;>omega
    have hm0:2^(32*j)*l.getD j 0<18446744073709551616:=by rcases hj2 with h|h<;>subst h<;>omega
    rw [e2,WT (by omega) (by omega) (by omega) (by omega),A2,A2,Nat.or_comm,B6,LF hv,B6,Nat.add_comm,←hs]
    exact hm
  exact key l.length 0 (by omega)
 ·cases h
theorem C08 (args:List AV) (s:Spec) (h:D5p args=some s) (hp:C6 s.pre True):Contract Tryz.prog Inv 173 args s.res:=by
 unfold D5p at h
 split at h
 ·cases h
  rename_i l
  refine E8 false 31 A0i EQ Tryz.func173 (by kernel_rfl) rfl (W4 (by kernel_rfl) (by kernel_rfl) A8l) fun hok=> ?_
  have hl:=(E4 hok).1
  rw [C2k]
  refine A8 (fun h=> ?_) (fun h=>A8 (fun h'=> ?_) (fun h'=>⟨?_,?_⟩))
  ·simp at h;rw [h];rfl
  ·have h':=A1 h'
   simp only [decide_eq_false (show¬l.length≤2 by omega),Bool.and_false]
   rfl
  ·have h':=A0 h'
   exact ⟨rfl,rfl,rfl,by omega,hl⟩
  ·have h':=A0 h'
   simp only [Bool.not_eq_false'] at h
   rw [h,decide_eq_true (show l.length≤2 by omega)]
   rfl
 ·cases h
theorem DA:G6 Tryz.prog Inv (look AF):=
 A3 (A3 (A3 (A3 (A3 (A3 (A3 (A3 (A3 EQ C08) C5v) D37) C9d) C9e) C9c) A9f) C0a) C0b
end Go.AI

namespace Go.Dy
def dgN:Nat→Nat→List Nat
 |0,_=>[]
 |n+1,v=>v%4294967296::dgN n (v/4294967296)
theorem H5:∀n v,(dgN n v).length=n
 |0,_=>rfl
 |n+1,v=>by simp [dgN,H5 n]
theorem o8:∀n v,D1 (dgN n v)
 |0,_=>Q4
 |n+1,v=>by unfold dgN;exact O9.2 ⟨by omega,o8 n _⟩
theorem X6:∀n v,val (dgN n v)=v%2^(32*n)
 |0,v=>by simp [dgN,val];omega
 |n+1,v=>by
  unfold dgN
  simp only [val]
  rw [X6 n,show 32*(n+1)=32+32*n by omega,B8,MU]
theorem OS:∀{l:List Nat},D1 l→dgN l.length (val l)=l
 |[],_=>rfl
 |d::l,h=>by
  have ⟨h1,h2⟩:=O9.1 h
  simp only [T5,dgN,val]
  rw [show (d+4294967296*val l)%4294967296=d by omega,show (d+4294967296*val l)/4294967296=val l by omega,OS h2]
theorem CW {l:List Nat} (h:D1 l) {n:Nat} (hn:l.length=n):dgN n (val l)=l:=by subst hn;exact OS h
theorem OU {l m:List Nat} (hl:D1 l) (hm:D1 m) (hlen:l.length=m.length) (hv:val l=val m):l=m:=by
 rw [←OS hl,←OS hm,hlen,hv]
theorem B2d (n v:Nat):dgN (n+1) v=dgN n v++[v/2^(32*n)%4294967296]:=by
 refine OU (o8 _ _) (M2.2 ⟨o8 _ _,O9.2 ⟨by omega,Q4⟩⟩) (by simp [H5]) ?_
 rw [X6,U6,X6,H5,show 32*(n+1)=32*n+32 by omega,B8,MU]
theorem m8 {n v:Nat} (h:v<2^(32*n)):dg (val (dgN n v))=dg v:=by rw [X6,F9 h]
theorem IF {a b:List Nat} {i:Nat} (h:a.length≤i):(a++b).getD i 0=b.getD (i-a.length) 0:=by
 simp [D7,List.getElem?_append_right h]
theorem QN {l:List Nat} {i d:Nat} (hi:i<l.length):(l.set i d).take (i+1)=l.take i++[d]:=by
 rw [List.take_set,List.take_succ_eq_append_getElem hi,List.set_append]
 simp [J1 (Nat.le_of_lt hi)]
theorem y7 {l:List Nat} {i d:Nat} (hi:i<l.length):val ((l.set i d).take (i+1))=val (l.take i)+2^(32*i)*d:=by
 rw [QN hi,U6,R8,J1 (by omega)]
theorem IX {l:List Nat} {i d:Nat}:(l.set i d).drop (i+1)=l.drop (i+1):=by
 rw [List.drop_set,if_pos (by omega)]
theorem J6 (i:Nat):2^(32*(i+1))=2^(32*i)*4294967296:=by
 rw [show 32*(i+1)=32*i+32 by omega,B8]
theorem I1 (l:List Nat) (i:Nat):val (l.drop i)=l.getD i 0+4294967296*val (l.drop (i+1)):=by
 by_cases h:i<l.length
 ·exact IS h
 ·rw [AX (by omega),AX (by omega),D7,List.getElem?_eq_none (by omega)]
  rfl
theorem VM {x:Nat} (h:x<2^64):D6 x=bl x:=by
 by_cases h0:x=0
 ·subst h0;rfl
 ·have hk:=IV.2 h0
  have h1:=W6 h0
  have h2:=P9 x
  have h3:=I8.2 h
  have e:=Lib.bitLen_shift (bl x-1) x h1 h
  have hone:x/2^(bl x-1)=1:=by
   have hp:=A9 (bl x-1)
   apply Nat.le_antisymm
   ·have:x/2^(bl x-1)<2:=by
     rw [H0 hp,←Nat.pow_succ',show (bl x-1).succ=bl x by omega]
     exact h2
    omega
   ·exact (K8 hp).2 (by omega)
  rw [hone,show D6 1=1 by decide+kernel] at e
  omega
theorem D4a {x:Nat} (h0:x≠0) (h:x<2^32):Lib.ctz 32 x=tz x:=by
 unfold Lib.ctz
 rw [if_neg h0]
 obtain ⟨m,hm,_⟩:=Lib.ctzFrom_spec 32 x (by omega) h
 conv=>rhs;rw [hm]
 rw [WO]
theorem VP {l:List Nat} (h:D1 l) (hne:l≠[]) (ht:l.getD (l.length-1) 0≠0):bl (val l)=32*(l.length-1)+bl (l.getD (l.length-1) 0):=by
 have hl:=X4.2 hne
 have e:=V9 l (l.length-1) (by omega)
 have e2:=I1 l (l.length-1)
 rw [show l.length-1+1=l.length by omega,List.drop_length] at e2
 have hv:=I0 (Q7 h (l.length-1))
 rw [R8,J1 (by omega)] at hv
 have hx:=E5 h (l.length-1)
 generalize l.getD (l.length-1) 0=x at ht e2 hx ⊢
 have hb:=IV.2 ht
 have h1:=W6 ht
 have h2:=P9 x
 have hp:=A9 (32*(l.length-1))
 rw [e,e2]
 simp only [val,Nat.mul_zero,Nat.add_zero]
 rw [show 32*(l.length-1)+bl x=(32*(l.length-1)+(bl x-1))+1 by omega]
 refine B25 ?_ ?_
 ·rw [B8]
  exact Nat.le_trans (F2 _ h1) (Nat.le_add_left _ _)
 ·rw [show 32*(l.length-1)+(bl x-1)+1=32*(l.length-1)+bl x by omega,B8]
  have h3:2^(32*(l.length-1))*(x+1)≤2^(32*(l.length-1))*2^bl x:=F2 _ h2
  rw [D0,M0] at h3
  omega
theorem C6j {l:List Nat} {i:Nat} (h0:val (l.take i)=0) (hi:i≤l.length) (hx:l.getD i 0≠0) (hlt:l.getD i 0<4294967296):tz (val l)=32*i+tz (l.getD i 0):=by
 have e:=V9 l i hi
 rw [h0,N9,I1] at e
 generalize l.getD i 0=x at hx hlt e ⊢
 obtain ⟨m,hm⟩:=LX hx
 have ht:tz x<32:=by
  have:=Z2 hx
  have:=(I8 (n:=x) (k:=32)).2 hlt
  omega
 generalize val (l.drop (i+1))=r at e
 have e2:x+4294967296*r=2^tz x*(2*(m+2^(31-tz x)*r)+1):=by
  have e3:4294967296*r=2^tz x*(2*(2^(31-tz x)*r)):=by
   rw [←B9 2,←Nat.pow_succ',←B9,←B8,show tz x+(31-tz x+1)=32 by omega]
  rw [e3]
  conv=>lhs;arg 1;rw [hm]
  rw [←D0]
  congr 1
  omega
 rw [e,e2,←B9,←B8,WO]
end Go.Dy

namespace Go.Dy
def D5v (ok:Bool) (a b:Nat):List Nat×Int:=if ok then (if a<b then ([],10) else (dg (a-b),0)) else ([],2)
structure Sh where
 mag:List Nat
 lost:Bool
 err:Int
def H3 (a:List Nat) (n:Int):Sh:=
 if may a then
  if val a=0 then ⟨[],false,0⟩
  else if n<0 then ⟨dg (val a/2^(-n).toNat),decide ((tz (val a):Int)< -n),0⟩
  else if 131072-(bl (val a):Int)<n then ⟨[],false,3⟩
  else ⟨dg (val a*2^n.toNat),false,0⟩
 else ⟨[],false,2⟩
def PV (a b:List Nat):List Nat×Int:=A7m (may a&&may b) (val a+val b)
def RU (a b:List Nat):List Nat×Int:=D5v (may a&&may b) (val a) (val b)
def mulR (a b:List Nat):List Nat×Int:=A7m (may a&&may b) (val a*val b)
def YB (a b:List Nat):Int×Int:=if may a&&may b then (v8 (val a) (val b),0) else (0,2)
def F3 (a:List Nat):Nat:=if may a then bl (val a) else 0
def RL (a:List Nat):Nat:=if may a then tz (val a) else 0
end Go.Dy
namespace Go.AI
open Go Go.RowKit Go.Proofs
set_option linter.unusedVariables false
def D5j:List AV→Option Spec
 |[.dig [1] a,.dig [2] b]=>some ⟨none,.tup [.dig [0] (Dy.PV a b).1,.num .i64 (Dy.PV a b).2]⟩
 |_=>none
def A6u:List AV→Option Spec
 |[.dig [1] a,.dig [2] b]=>some ⟨some (Dy.val b≤Dy.val a∧a.length≤1048576),.dig [0] (Dy.dg (Dy.val a-Dy.val b))⟩
 |_=>none
def D5r:List AV→Option Spec
 |[.dig [1] a,.dig [2] b]=>some ⟨none,.tup [.dig [0] (Dy.RU a b).1,.num .i64 (Dy.RU a b).2]⟩
 |_=>none
def D0l:List AV→Option Spec
 |[.dig [1] a,.dig [2] b]=>some ⟨none,.tup [.num .i64 (Dy.YB a b).1,.num .i64 (Dy.YB a b).2]⟩
 |_=>none
def D0q:List AV→Option Spec
 |[.dig [1] a,.dig [2] b]=>some ⟨some (a.length≤1048576∧b.length≤1048576),.dig [0] (Dy.dg (Dy.val a*Dy.val b))⟩
 |_=>none
def D5o:List AV→Option Spec
 |[.dig [1] a,.dig [2] b]=>some ⟨none,.tup [.dig [0] (Dy.mulR a b).1,.num .i64 (Dy.mulR a b).2]⟩
 |_=>none
def C1r:List AV→Option Spec
 |[.dig [1] a,.num .u32 d]=>some ⟨some (0<d∧a.length≤1048576),.tup [.dig [0] (Dy.dg (Dy.val a/d.toNat)),.num .u32 (Dy.val a%d.toNat:Nat)]⟩
 |_=>none
def sUp:List AV→Option Spec
 |[.dig [1] a,.num .i64 n]=>some ⟨some (0≤n∧n≤33554432∧a.length≤1048576),.dig [0] (Dy.dg (Dy.val a*2^n.toNat))⟩
 |_=>none
def D0m:List AV→Option Spec
 |[.dig [1] a,.num .i64 n]=>some ⟨some (0≤n∧a.length≤1048576),.dig [0] (Dy.dg (Dy.val a/2^n.toNat))⟩
 |_=>none
def D5l:List AV→Option Spec
 |[.dig [1] a]=>some ⟨none,.num .i64 (Dy.F3 a:Nat)⟩
 |_=>none
def D5m:List AV→Option Spec
 |[.dig [1] a]=>some ⟨none,.num .i64 (Dy.RL a:Nat)⟩
 |_=>none
def C1q:List AV→Option Spec
 |[.dig [1] a,.num .i64 n]=>some ⟨none,.tup [.dig [0] (Dy.H3 a n).mag,.bool (Dy.H3 a n).lost,.num .i64 (Dy.H3 a n).err]⟩
 |_=>none
def C6e:List (Nat×(List AV→Option Spec)):=(218,A6u)::(186,D0q)::(205,C1r)::(182,sUp)::(181,D0m)::(144,D5l)::(171,D5m)::(208,D5j)::AF
def B0k:List (Nat×(List AV→Option Spec)):=(207,D5r)::(202,D5o)::(210,D0l)::(145,C1q)::C6e
end Go.AI

namespace Go.AI
open Dy IntKind
open Go Go.RowKit Go.Proofs
set_option linter.unusedVariables false
set_option maxRecDepth 100000
set_option maxHeartbeats 0
def C8v:List AV→Option LR
 |[.dig [1,2,3] a,.dig [1,2,3] b,.grown 152 o,.num .u32 c,.num .i64 k,.num .i64 i]=>
 some (.need (Dy.okl a∧Dy.okl b∧b.length≤a.length∧o=B2 (a.length+1) 0∧c=0∧k=a.length∧i=0)
 (.done (.exit 0) [.dig [1,2,3] a,.dig [1,2,3] b,.grown 152 (Dy.dgN a.length (Dy.val a+Dy.val b)++[0]),.num .u32 ((Dy.val a+Dy.val b)/2^(32*a.length):Nat),.num .i64 k,.num .i64 k]))
 |_=>none
def ZC:List (Nat×Keep):=[(0,.same),(1,.same),(6,.same),(7,.same),(27,.same),(28,.same)]
def A0f:=lam [(8,.spec ZC C8v)]
theorem C2e (a:List Nat) (b:List Nat) (Q:AV→Prop):(evF Tryz.prog (look AF) A0f false Tryz.f208 [.dig [1] a,.dig [2] b] Q)=(bif !(may a&&may b) then Q (.tup [.dig [0] [],.num .i64 2]) else bif decide ((↑a.length:Int)<(↑b.length:Int)) then ((0:Int)≤i64.wrap ((↑b.length:Int)+1)∧i64.wrap ((↑b.length:Int)+1)≤i64.wrap ((↑b.length:Int)+1)∧i64.wrap ((↑b.length:Int)+1)≤2^(40:Nat))∧(okl b∧okl a∧a.length≤b.length∧B2 (i64.wrap ((↑b.length:Int)+1)).toNat (0:Nat)=B2 (b.length+1) (0:Nat)∧(0:Int)=0∧(↑b.length:Int)=(↑b.length:Int)∧(0:Int)=0)∧((0:Int)≤(↑b.length:Int)∧(↑b.length:Int)<(↑(dgN b.length (val b+val a)++[0]).length:Int))∧(↑b.length:Int).toNat<(dgN b.length (val b+val a)++[0]).length∧∀(l1:List Nat),(l1=if (dg (val ((dgN b.length (val b+val a)++[0]).set (↑b.length:Int).toNat (↑((val b+val a)/2^((32:Nat)*b.length)):Int).toNat))).length≤4096 then dg (val ((dgN b.length (val b+val a)++[0]).set (↑b.length:Int).toNat (↑((val b+val a)/2^((32:Nat)*b.length)):Int).toNat)) else [])→∀(n2:Int),(n2=if (dg (val ((dgN b.length (val b+val a)++[0]).set (↑b.length:Int).toNat (↑((val b+val a)/2^((32:Nat)*b.length)):Int).toNat))).length≤4096 then (0:Int) else (3:Int))→Q (.tup [.dig [0] l1,.num .i64 n2]) else ((0:Int)≤i64.wrap ((↑a.length:Int)+1)∧i64.wrap ((↑a.length:Int)+1)≤i64.wrap ((↑a.length:Int)+1)∧i64.wrap ((↑a.length:Int)+1)≤2^(40:Nat))∧(okl a∧okl b∧b.length≤a.length∧B2 (i64.wrap ((↑a.length:Int)+1)).toNat (0:Nat)=B2 (a.length+1) (0:Nat)∧(0:Int)=0∧(↑a.length:Int)=(↑a.length:Int)∧(0:Int)=0)∧((0:Int)≤(↑a.length:Int)∧(↑a.length:Int)<(↑(dgN a.length (val a+val b)++[0]).length:Int))∧(↑a.length:Int).toNat<(dgN a.length (val a+val b)++[0]).length∧∀(l3:List Nat),(l3=if (dg (val ((dgN a.length (val a+val b)++[0]).set (↑a.length:Int).toNat (↑((val a+val b)/2^((32:Nat)*a.length)):Int).toNat))).length≤4096 then dg (val ((dgN a.length (val a+val b)++[0]).set (↑a.length:Int).toNat (↑((val a+val b)/2^((32:Nat)*a.length)):Int).toNat)) else [])→∀(n4:Int),(n4=if (dg (val ((dgN a.length (val a+val b)++[0]).set (↑a.length:Int).toNat (↑((val a+val b)/2^((32:Nat)*a.length)):Int).toNat))).length≤4096 then (0:Int) else (3:Int))→Q (.tup [.dig [0] l3,.num .i64 n4])):=by kernel_rfl
theorem UW (a:List Nat) (b:List Nat) (o:List Nat) (c:Int) (k:Int) (i:Int) (K:Exit→List AV→Prop):(M7 Tryz.prog (look AF) A0f (2:Nat) (63:Nat) ZC (D8 Tryz.f208 (0:Nat)) [.dig [1,2,3] a,.dig [1,2,3] b,.grown (152:TypeId) o,.num .u32 c,.num .i64 k,.num .i64 i] K)=(bif decide (i<k) then bif decide (i<(↑b.length:Int)) then (0≤i∧i<(↑b.length:Int))∧(0≤i∧i<(↑a.length:Int))∧∀n1,n1=((↑(a.getD i.toNat (0:Nat)):Int)+(↑(b.getD i.toNat (0:Nat)):Int)+c)%4294967296→∀n2,n2=((↑(a.getD i.toNat (0:Nat)):Int)+(↑(b.getD i.toNat (0:Nat)):Int)+c)/4294967296→(0≤i∧i<(↑o.length:Int))∧i.toNat<o.length∧K Exit.normal [.dig [1,2,3] a,.dig [1,2,3] b,.grown (152:Nat) (o.set i.toNat n1.toNat),.num .u32 n2,.num .i64 k,.num .i64 (i64.wrap (i+1))] else (0≤i∧i<(↑a.length:Int))∧∀n3,n3=((↑(a.getD i.toNat (0:Nat)):Int)+0+c)%4294967296→∀n4,n4=((↑(a.getD i.toNat (0:Nat)):Int)+0+c)/4294967296→(0≤i∧i<(↑o.length:Int))∧i.toNat<o.length∧K Exit.normal [.dig [1,2,3] a,.dig [1,2,3] b,.grown (152:Nat) (o.set i.toNat n3.toNat),.num .u32 n4,.num .i64 k,.num .i64 (i64.wrap (i+1))] else K (Exit.exit (0:Nat)) [.dig [1,2,3] a,.dig [1,2,3] b,.grown (152:Nat) o,.num .u32 c,.num .i64 k,.num .i64 i]):=by kernel_rfl
def B9m:List AV→Option LR
 |[.dig [1,2,3] a,.dig [1,2,3] b,.grown 152 o,.num .u32 c,.num .i64 k,.num .i64 i]=>
 some (.need (Dy.okl a∧Dy.okl b∧Dy.val b≤Dy.val a∧o=B2 a.length 0∧c=0∧k=a.length∧i=0)
 (.done (.exit 0) [.dig [1,2,3] a,.dig [1,2,3] b,.grown 152 (Dy.dgN a.length (Dy.val a-Dy.val b)),.num .u32 0,.num .i64 k,.num .i64 k]))
 |_=>none
def SZ:List (Nat×Keep):=[(0,.same),(1,.same),(5,.same),(6,.same),(13,.same),(14,.same)]
def TF:=lam [(4,.spec SZ B9m)]
theorem C2p (a:List Nat) (b:List Nat) (Q:AV→Prop):(evF Tryz.prog (look AF) TF false Tryz.f218 [.dig [1] a,.dig [2] b] Q)=(((0:Int)≤(↑a.length:Int)∧(↑a.length:Int)≤(↑a.length:Int)∧(↑a.length:Int)≤2^(40:Nat))∧(okl a∧okl b∧val b≤val a∧B2 (↑a.length:Int).toNat (0:Nat)=B2 a.length (0:Nat)∧(0:Int)=0∧(↑a.length:Int)=(↑a.length:Int)∧(0:Int)=0)∧Q (.dig [0] (dg (val (dgN a.length (val a-val b)))))):=by kernel_rfl
theorem VA (a:List Nat) (b:List Nat) (o:List Nat) (c:Int) (k:Int) (i:Int) (K:Exit→List AV→Prop):(M7 Tryz.prog (look AF) TF (2:Nat) (41:Nat) SZ (D8 Tryz.f218 (0:Nat)) [.dig [1,2,3] a,.dig [1,2,3] b,.grown (152:TypeId) o,.num .u32 c,.num .i64 k,.num .i64 i] K)=(bif decide (i<k) then bif decide (i<(↑b.length:Int)) then (0≤i∧i<(↑b.length:Int))∧(0≤i∧i<(↑a.length:Int))∧c≤1∧∀n1,n1=((↑(a.getD i.toNat (0:Nat)):Int)-(↑(b.getD i.toNat (0:Nat)):Int)-c)%4294967296→∀(n2:Int),(n2=if (↑(a.getD i.toNat (0:Nat)):Int)<(↑(b.getD i.toNat (0:Nat)):Int)+c then (1:Int) else (0:Int))→(0≤i∧i<(↑o.length:Int))∧i.toNat<o.length∧K Exit.normal [.dig [1,2,3] a,.dig [1,2,3] b,.grown (152:Nat) (o.set i.toNat n1.toNat),.num .u32 n2,.num .i64 k,.num .i64 (i64.wrap (i+1))] else (0≤i∧i<(↑a.length:Int))∧c≤1∧∀n3,n3=((↑(a.getD i.toNat (0:Nat)):Int)-0-c)%4294967296→∀(n4:Int),(n4=if (↑(a.getD i.toNat (0:Nat)):Int)<0+c then (1:Int) else (0:Int))→(0≤i∧i<(↑o.length:Int))∧i.toNat<o.length∧K Exit.normal [.dig [1,2,3] a,.dig [1,2,3] b,.grown (152:Nat) (o.set i.toNat n3.toNat),.num .u32 n4,.num .i64 k,.num .i64 (i64.wrap (i+1))] else K (Exit.exit (0:Nat)) [.dig [1,2,3] a,.dig [1,2,3] b,.grown (152:Nat) o,.num .u32 c,.num .i64 k,.num .i64 i]):=by kernel_rfl
theorem C2l (a:List Nat) (b:List Nat) (Q:AV→Prop):(evF Tryz.prog (look C6e) (lam []) false Tryz.f207 [.dig [1] a,.dig [2] b] Q)=(bif !(may a&&may b) then Q (.tup [.dig [0] [],.num .i64 2]) else (dg (val a)=a∧dg (val b)=b)∧bif decide (v8 (val a) (val b)<0) then Q (.tup [.dig [0] [],.num .i64 10]) else (val b≤val a∧a.length≤1048576)∧Q (.tup [.dig [0] (dg (val a-val b)),.num .i64 0])):=by kernel_rfl
def B9e:List AV→Option LR
 |[.dig [1,2,3] b,.grown 152 o,.dig [1,2,3] a,.num .i64 k,.num .i64 i]=>
 some (.need (Dy.okl a∧Dy.okl b∧a.length≤1048576∧b.length≤1048576∧o=B2 (a.length+b.length) 0∧k=a.length∧i=0)
 (.done (.exit 0) [.dig [1,2,3] b,.grown 152 (Dy.dgN (a.length+b.length) (Dy.val a*Dy.val b)),.dig [1,2,3] a,.num .i64 k,.num .i64 k]))
 |_=>none
def SV:List (Nat×Keep):=[(1,.same),(5,.same),(18,.same),(19,.same),(20,.same)]
def B9d:List AV→Option LR
 |[.grown 152 o,.num .i64 r,.num .u32 x,.num .u64 c,.dig [1,2,3] b,.num .i64 k,.num .i64 i,.dig [1,2,3] b',.dig [1,2,3] a,.num .i64 ka,.num .i64 ia]=>
 some (.need (Dy.D1 o∧Dy.okl b∧b.length≤1048576∧0≤r∧r.toNat+b.length<o.length∧o.length≤2097152∧0≤x∧x<4294967296∧c=0∧k=b.length∧i=0)
 (.done (.exit 2) [.grown 152 (Dy.dgN (r.toNat+b.length) (Dy.val (o.take (r.toNat+b.length))+2^(32*r.toNat)*(x.toNat*Dy.val b))++o.drop (r.toNat+b.length)),.num .i64 r,.num .u32 x,
 .num .u64 ((Dy.val (o.take (r.toNat+b.length))+2^(32*r.toNat)*(x.toNat*Dy.val b))/2^(32*(r.toNat+b.length)):Nat),.dig [1,2,3] b,.num .i64 k,.num .i64 k,.dig [1,2,3] b',.dig [1,2,3] a,.num .i64 ka,.num .i64 ia]))
 |_=>none
def SU:List (Nat×Keep):=[(5,.same),(6,.same),(7,.same),(8,.same),(25,.same),(26,.same),(27,.same),(1,.same),(18,.same),(19,.same),(20,.same)]
def NL:=lam [(3,.spec SV B9e),(7,.spec SU B9d)]
theorem C2o (a:List Nat) (b:List Nat) (Q:AV→Prop):(evF Tryz.prog (look AF) NL false Tryz.f186 [.dig [1] a,.dig [2] b] Q)=(((0:Int)≤i64.wrap ((↑a.length:Int)+(↑b.length:Int))∧i64.wrap ((↑a.length:Int)+(↑b.length:Int))≤i64.wrap ((↑a.length:Int)+(↑b.length:Int))∧i64.wrap ((↑a.length:Int)+(↑b.length:Int))≤2^(40:Nat))∧(okl a∧okl b∧a.length≤1048576∧b.length≤1048576∧B2 (i64.wrap ((↑a.length:Int)+(↑b.length:Int))).toNat (0:Nat)=B2 (a.length+b.length) (0:Nat)∧(↑a.length:Int)=(↑a.length:Int)∧(0:Int)=0)∧Q (.dig [0] (dg (val (dgN (a.length+b.length) (val a*val b)))))):=by kernel_rfl
theorem UY (a:List Nat) (b:List Nat) (o:List Nat) (k:Int) (i:Int) (K:Exit→List AV→Prop):(M7 Tryz.prog (look AF) NL (2:Nat) (68:Nat) SV (D8 Tryz.f186 (0:Nat)) [.dig [1,2,3] b,.grown (152:TypeId) o,.dig [1,2,3] a,.num .i64 k,.num .i64 i] K)=(bif decide (i<k) then (0≤i∧i<(↑a.length:Int))∧(D1 o∧okl b∧b.length≤1048576∧0≤i∧i.toNat+b.length<o.length∧o.length≤2097152∧(0:Int)≤(↑(a.getD i.toNat (0:Nat)):Int)∧(↑(a.getD i.toNat (0:Nat)):Int)<4294967296∧(0:Int)=0∧(↑b.length:Int)=(↑b.length:Int)∧(0:Int)=0)∧((0:Int)≤i64.wrap (i+(↑b.length:Int))∧i64.wrap (i+(↑b.length:Int))<(↑(dgN (i.toNat+b.length) (val (JK (i.toNat+b.length) o)+2^((32:Nat)*i.toNat)*((↑(a.getD i.toNat (0:Nat)):Int).toNat*val b))++DL (i.toNat+b.length) o).length:Int))∧(i64.wrap (i+(↑b.length:Int))).toNat<(dgN (i.toNat+b.length) (val (JK (i.toNat+b.length) o)+2^((32:Nat)*i.toNat)*((↑(a.getD i.toNat (0:Nat)):Int).toNat*val b))++DL (i.toNat+b.length) o).length∧K Exit.normal [.dig [1,2,3] b,.grown (152:Nat) ((dgN (i.toNat+b.length) (val (JK (i.toNat+b.length) o)+2^((32:Nat)*i.toNat)*((↑(a.getD i.toNat (0:Nat)):Int).toNat*val b))++DL (i.toNat+b.length) o).set (i64.wrap (i+(↑b.length:Int))).toNat (u32.wrap (↑((val (JK (i.toNat+b.length) o)+2^((32:Nat)*i.toNat)*((↑(a.getD i.toNat (0:Nat)):Int).toNat*val b))/2^((32:Nat)*(i.toNat+b.length))):Int)).toNat),.dig [1,2,3] a,.num .i64 k,.num .i64 (i64.wrap (i+1))] else K (Exit.exit (0:Nat)) [.dig [1,2,3] b,.grown (152:Nat) o,.dig [1,2,3] a,.num .i64 k,.num .i64 i]):=by kernel_rfl
theorem UZ (b:List Nat) (o:List Nat) (b':List Nat) (a:List Nat) (r:Int) (x:Int) (c:Int) (k:Int) (i:Int) (ka:Int) (ia:Int) (K:Exit→List AV→Prop):(M7 Tryz.prog (look AF) NL (2:Nat) (68:Nat) SU (D8 Tryz.f186 (1:Nat)) [.grown (152:TypeId) o,.num .i64 r,.num .u32 x,.num .u64 c,.dig [1,2,3] b,.num .i64 k,.num .i64 i,.dig [1,2,3] b',.dig [1,2,3] a,.num .i64 ka,.num .i64 ia] K)=(bif decide (i<k) then (0≤i∧i<(↑b.length:Int))∧((0:Int)≤i64.wrap (r+i)∧i64.wrap (r+i)<(↑o.length:Int))∧(i64.wrap (r+i)).toNat<o.length∧((0:Int)≤i64.wrap (r+i)∧i64.wrap (r+i)<(↑o.length:Int))∧(i64.wrap (r+i)).toNat<o.length∧K Exit.normal [.grown (152:Nat) (o.set (i64.wrap (r+i)).toNat (u32.wrap (u64.wrap (u64.wrap (u64.wrap (u64.wrap x*u64.wrap (↑(b.getD i.toNat (0:Nat)):Int))+u64.wrap (↑(o.getD (i64.wrap (r+i)).toNat (0:Nat)):Int))+c))).toNat),.num .i64 r,.num .u32 x,.num .u64 ((u64.wrap (u64.wrap (u64.wrap (u64.wrap x*u64.wrap (↑(b.getD i.toNat (0:Nat)):Int))+u64.wrap (↑(o.getD (i64.wrap (r+i)).toNat (0:Nat)):Int))+c)).fdiv ((2:Int)^(32:Nat))),.dig [1,2,3] b,.num .i64 k,.num .i64 (i64.wrap (i+1)),.dig [1,2,3] b',.dig [1,2,3] a,.num .i64 ka,.num .i64 ia] else K (Exit.exit (2:Nat)) [.grown (152:Nat) o,.num .i64 r,.num .u32 x,.num .u64 c,.dig [1,2,3] b,.num .i64 k,.num .i64 i,.dig [1,2,3] b',.dig [1,2,3] a,.num .i64 ka,.num .i64 ia]):=by kernel_rfl
theorem C2f (a:List Nat) (b:List Nat) (Q:AV→Prop):(evF Tryz.prog (look C6e) (lam []) false Tryz.f210 [.dig [1] a,.dig [2] b] Q)=(bif !(may a&&may b) then Q (.tup [.num .i64 0,.num .i64 2]) else (dg (val a)=a∧dg (val b)=b)∧Q (.tup [.num .i64 (v8 (val a) (val b)),.num .i64 0])):=by kernel_rfl
theorem C2j (a:List Nat) (b:List Nat) (Q:AV→Prop):(evF Tryz.prog (look C6e) (lam []) false Tryz.f202 [.dig [1] a,.dig [2] b] Q)=(bif !(may a&&may b) then Q (.tup [.dig [0] [],.num .i64 2]) else bif decide ((↑a.length:Int)>0) then bif decide ((↑b.length:Int)>0) then bif decide (i64.wrap (i64.wrap ((↑a.length:Int)+(↑b.length:Int))-1)>4096) then Q (.tup [.dig [0] [],.num .i64 3]) else (a.length≤1048576∧b.length≤1048576)∧∀(l1:List Nat),(l1=if (dg (val a*val b)).length≤4096 then dg (val a*val b) else [])→∀(n2:Int),(n2=if (dg (val a*val b)).length≤4096 then (0:Int) else (3:Int))→Q (.tup [.dig [0] l1,.num .i64 n2]) else (a.length≤1048576∧b.length≤1048576)∧∀(l3:List Nat),(l3=if (dg (val a*val b)).length≤4096 then dg (val a*val b) else [])→∀(n4:Int),(n4=if (dg (val a*val b)).length≤4096 then (0:Int) else (3:Int))→Q (.tup [.dig [0] l3,.num .i64 n4]) else (a.length≤1048576∧b.length≤1048576)∧∀(l5:List Nat),(l5=if (dg (val a*val b)).length≤4096 then dg (val a*val b) else [])→∀(n6:Int),(n6=if (dg (val a*val b)).length≤4096 then (0:Int) else (3:Int))→Q (.tup [.dig [0] l5,.num .i64 n6])):=by kernel_rfl
def A90:List AV→Option LR
 |[.dig [1,2,3] a,.num .u32 d,.grown 152 o,.num .u32 c,.num .i64 i]=>
 some (.need (Dy.okl a∧0<d∧d<4294967296∧o=B2 a.length 0∧c=0∧i=a.length-1)
 (.done (.exit 0) [.dig [1,2,3] a,.num .u32 d,.grown 152 (Dy.dgN a.length (Dy.val a/d.toNat)),.num .u32 (Dy.val a%d.toNat:Nat),.num .i64 (-1)]))
 |_=>none
def PC:List (Nat×Keep):=[(0,.same),(1,.same),(6,.same),(7,.same),(8,.same)]
def NO:=lam [(4,.spec PC A90)]
theorem B16 (a:List Nat) (d:Int) (Q:AV→Prop):(evF Tryz.prog (look AF) NO false Tryz.f205 [.dig [1] a,.num .u32 d] Q)=(((0:Int)≤(↑a.length:Int)∧(↑a.length:Int)≤(↑a.length:Int)∧(↑a.length:Int)≤2^(40:Nat))∧(okl a∧0<d∧d<4294967296∧B2 (↑a.length:Int).toNat (0:Nat)=B2 a.length (0:Nat)∧(0:Int)=0∧i64.wrap ((↑a.length:Int)-1)=(↑a.length:Int)-1)∧Q (.tup [.dig [0] (dg (val (dgN a.length (val a/d.toNat)))),.num .u32 (↑(val a%d.toNat):Int)])):=by kernel_rfl
theorem OK (a:List Nat) (o:List Nat) (d:Int) (c:Int) (i:Int) (K:Exit→List AV→Prop):(M7 Tryz.prog (look AF) NO (2:Nat) (35:Nat) PC (D8 Tryz.f205 (0:Nat)) [.dig [1,2,3] a,.num .u32 d,.grown (152:TypeId) o,.num .u32 c,.num .i64 i] K)=(bif decide (i≥0) then (0≤i∧i<(↑a.length:Int))∧c<d∧∀n1,n1=(c*4294967296+(↑(a.getD i.toNat (0:Nat)):Int))/d→∀n2,n2=(c*4294967296+(↑(a.getD i.toNat (0:Nat)):Int))%d→(0≤i∧i<(↑o.length:Int))∧i.toNat<o.length∧K Exit.normal [.dig [1,2,3] a,.num .u32 d,.grown (152:Nat) (o.set i.toNat n1.toNat),.num .u32 n2,.num .i64 (i64.wrap (i-1))] else K (Exit.exit (0:Nat)) [.dig [1,2,3] a,.num .u32 d,.grown (152:Nat) o,.num .u32 c,.num .i64 i]):=by kernel_rfl
def C97:List AV→Option LR
 |[.grown 152 o,.num .i64 s,.num .u32 c,.dig [1,2,3] a,.num .i64 k,.num .i64 i]=>
 some (.need (Dy.okl a∧a.length≤1048576∧0≤s∧s<32∧o.length≤1048576∧c=0∧k=a.length∧i=0)
 (.done (.exit 0) [.grown 152 (o++Dy.dgN a.length (Dy.val a*2^s.toNat)),.num .i64 s,.num .u32 (Dy.val a*2^s.toNat/2^(32*a.length):Nat),.dig [1,2,3] a,.num .i64 k,.num .i64 k]))
 |_=>none
def RG:List (Nat×Keep):=[(5,.same),(6,.same),(7,.same),(24,.same),(25,.same),(26,.same)]
def QE:=lam [(6,.spec RG C97)]
theorem C6o (a:List Nat) (n:Int) (Q:AV→Prop):(evF Tryz.prog (look AF) QE false Tryz.f182 [.dig [1] a,.num .i64 n] Q)=(bif decide ((↑a.length:Int)=0) then Q (.dig [0] []) else ((0:Int)≤i64.wrap (n.tdiv (32:Int))∧i64.wrap (n.tdiv (32:Int))≤i64.wrap (i64.wrap (i64.wrap (n.tdiv (32:Int))+(↑a.length:Int))+1)∧i64.wrap (i64.wrap (i64.wrap (n.tdiv (32:Int))+(↑a.length:Int))+1)≤2^(40:Nat))∧(okl a∧a.length≤1048576∧0≤n.tmod (32:Int)∧n.tmod (32:Int)<32∧(B2 (i64.wrap (n.tdiv (32:Int))).toNat (0:Nat)).length≤1048576∧(0:Int)=0∧(↑a.length:Int)=(↑a.length:Int)∧(0:Int)=0)∧((0:Nat)≤[(↑(val a*2^(n.tmod (32:Int)).toNat/2^((32:Nat)*a.length)):Int).toNat].length∧(B2 (i64.wrap (n.tdiv (32:Int))).toNat (0:Nat)++dgN a.length (val a*2^(n.tmod (32:Int)).toNat)).length+[(↑(val a*2^(n.tmod (32:Int)).toNat/2^((32:Nat)*a.length)):Int).toNat].length≤1099511627776)∧Q (.dig [0] (dg (val (B2 (i64.wrap (n.tdiv (32:Int))).toNat (0:Nat)++dgN a.length (val a*2^(n.tmod (32:Int)).toNat)++[(↑(val a*2^(n.tmod (32:Int)).toNat/2^((32:Nat)*a.length)):Int).toNat]))))):=by kernel_rfl
theorem XX (a:List Nat) (o:List Nat) (s:Int) (c:Int) (k:Int) (i:Int) (K:Exit→List AV→Prop):(M7 Tryz.prog (look AF) QE (2:Nat) (50:Nat) RG (D8 Tryz.f182 (0:Nat)) [.grown (152:TypeId) o,.num .i64 s,.num .u32 c,.dig [1,2,3] a,.num .i64 k,.num .i64 i] K)=(bif decide (i<k) then (0≤i∧i<(↑a.length:Int))∧0≤s∧((0:Nat)≤[(u32.wrap (↑(A7 (32:Nat) (u32.wrap ((↑(a.getD i.toNat (0:Nat)):Int)*2^min s.toNat (32:Nat)))|||A7 (32:Nat) c).toNat:Int)).toNat].length∧o.length+[(u32.wrap (↑(A7 (32:Nat) (u32.wrap ((↑(a.getD i.toNat (0:Nat)):Int)*2^min s.toNat (32:Nat)))|||A7 (32:Nat) c).toNat:Int)).toNat].length≤1099511627776)∧(0:Int)≤i64.wrap ((32:Int)-s)∧K Exit.normal [.grown (152:Nat) (o++[(u32.wrap (↑(A7 (32:Nat) (u32.wrap ((↑(a.getD i.toNat (0:Nat)):Int)*2^min s.toNat (32:Nat)))|||A7 (32:Nat) c).toNat:Int)).toNat]),.num .i64 s,.num .u32 (u32.wrap ((u64.wrap (↑(a.getD i.toNat (0:Nat)):Int)).fdiv ((2:Int)^min (i64.wrap ((32:Int)-s)).toNat (64:Nat)))),.dig [1,2,3] a,.num .i64 k,.num .i64 (i64.wrap (i+1))] else K (Exit.exit (0:Nat)) [.grown (152:Nat) o,.num .i64 s,.num .u32 c,.dig [1,2,3] a,.num .i64 k,.num .i64 i]):=by kernel_rfl
def B9c:List AV→Option LR
 |[.dig [1,2,3] a,.num .i64 s,.grown 152 o,.dig [1,2,3] a',.num .i64 k,.num .i64 i]=>
 some (.need (a'=a∧Dy.okl a∧0≤s∧s<32∧o=B2 a.length 0∧k=a.length∧i=0)
 (.done (.exit 0) [.dig [1,2,3] a,.num .i64 s,.grown 152 (Dy.dgN a.length (Dy.val a/2^s.toNat)),.dig [1,2,3] a,.num .i64 k,.num .i64 k]))
 |_=>none
def SS:List (Nat×Keep):=[(0,.same),(5,.same),(6,.same),(23,.same),(24,.same),(25,.same)]
def TB:=lam [(7,.spec SS B9c)]
theorem B75 (a:List Nat) (n:Int) (Q:AV→Prop):(evF Tryz.prog (look AF) TB false Tryz.f181 [.dig [1] a,.num .i64 n] Q)=(bif decide (i64.wrap (n.tdiv (32:Int))≥(↑a.length:Int)) then Q (.dig [0] []) else ((0:Int)≤i64.wrap (n.tdiv (32:Int))∧i64.wrap (n.tdiv (32:Int))≤(↑a.length:Int))∧((0:Int)≤(↑(DL (i64.wrap (n.tdiv (32:Int))).toNat a).length:Int)∧(↑(DL (i64.wrap (n.tdiv (32:Int))).toNat a).length:Int)≤(↑(DL (i64.wrap (n.tdiv (32:Int))).toNat a).length:Int)∧(↑(DL (i64.wrap (n.tdiv (32:Int))).toNat a).length:Int)≤2^(40:Nat))∧(DL (i64.wrap (n.tdiv (32:Int))).toNat a=DL (i64.wrap (n.tdiv (32:Int))).toNat a∧okl (DL (i64.wrap (n.tdiv (32:Int))).toNat a)∧0≤n.tmod (32:Int)∧n.tmod (32:Int)<32∧B2 (↑(DL (i64.wrap (n.tdiv (32:Int))).toNat a).length:Int).toNat (0:Nat)=B2 (DL (i64.wrap (n.tdiv (32:Int))).toNat a).length (0:Nat)∧(↑(DL (i64.wrap (n.tdiv (32:Int))).toNat a).length:Int)=(↑(DL (i64.wrap (n.tdiv (32:Int))).toNat a).length:Int)∧(0:Int)=0)∧Q (.dig [0] (dg (val (dgN (DL (i64.wrap (n.tdiv (32:Int))).toNat a).length (val (DL (i64.wrap (n.tdiv (32:Int))).toNat a)/2^(n.tmod (32:Int)).toNat)))))):=by kernel_rfl
theorem QT (a:List Nat) (a':List Nat) (o:List Nat) (s:Int) (k:Int) (i:Int) (K:Exit→List AV→Prop):(M7 Tryz.prog (look AF) TB (2:Nat) (60:Nat) SS (D8 Tryz.f181 (0:Nat)) [.dig [1,2,3] a,.num .i64 s,.grown (152:TypeId) o,.dig [1,2,3] a',.num .i64 k,.num .i64 i] K)=(bif decide (i<k) then (0≤i∧i<(↑a'.length:Int))∧0≤s∧(0≤i∧i<(↑o.length:Int))∧i.toNat<o.length∧bif decide (i64.wrap (i+1)<(↑a.length:Int)) then (0≤i∧i<(↑(o.set i.toNat ((↑(a'.getD i.toNat (0:Nat)):Int).fdiv ((2:Int)^min s.toNat (32:Nat))).toNat).length:Int))∧i.toNat<(o.set i.toNat ((↑(a'.getD i.toNat (0:Nat)):Int).fdiv ((2:Int)^min s.toNat (32:Nat))).toNat).length∧((0:Int)≤i64.wrap (i+1)∧i64.wrap (i+1)<(↑a.length:Int))∧(0:Int)≤i64.wrap ((32:Int)-s)∧(0≤i∧i<(↑(o.set i.toNat ((↑(a'.getD i.toNat (0:Nat)):Int).fdiv ((2:Int)^min s.toNat (32:Nat))).toNat).length:Int))∧i.toNat<(o.set i.toNat ((↑(a'.getD i.toNat (0:Nat)):Int).fdiv ((2:Int)^min s.toNat (32:Nat))).toNat).length∧K Exit.normal [.dig [1,2,3] a,.num .i64 s,.grown (152:Nat) ((o.set i.toNat ((↑(a'.getD i.toNat (0:Nat)):Int).fdiv ((2:Int)^min s.toNat (32:Nat))).toNat).set i.toNat (u32.wrap (↑(A7 (32:Nat) (↑((o.set i.toNat ((↑(a'.getD i.toNat (0:Nat)):Int).fdiv ((2:Int)^min s.toNat (32:Nat))).toNat).getD i.toNat (0:Nat)):Int)|||A7 (32:Nat) (u32.wrap (u64.wrap (u64.wrap (↑(a.getD (i64.wrap (i+1)).toNat (0:Nat)):Int)*2^min (i64.wrap ((32:Int)-s)).toNat (64:Nat))))).toNat:Int)).toNat),.dig [1,2,3] a',.num .i64 k,.num .i64 (i64.wrap (i+1))] else K Exit.normal [.dig [1,2,3] a,.num .i64 s,.grown (152:Nat) (o.set i.toNat ((↑(a'.getD i.toNat (0:Nat)):Int).fdiv ((2:Int)^min s.toNat (32:Nat))).toNat),.dig [1,2,3] a',.num .i64 k,.num .i64 (i64.wrap (i+1))] else K (Exit.exit (0:Nat)) [.dig [1,2,3] a,.num .i64 s,.grown (152:Nat) o,.dig [1,2,3] a',.num .i64 k,.num .i64 i]):=by kernel_rfl
theorem C2g (a:List Nat) (Q:AV→Prop):(evF Tryz.prog (look AF) (lam []) false Tryz.f144 [.dig [1] a] Q)=(bif !may a then Q (.num .i64 0) else bif decide ((↑a.length:Int)=0) then Q (.num .i64 0) else ((0:Int)≤i64.wrap ((↑a.length:Int)-1)∧i64.wrap ((↑a.length:Int)-1)<(↑a.length:Int))∧Q (.num .i64 (i64.wrap (i64.wrap ((32:Int)*i64.wrap ((↑a.length:Int)-1))+(↑(D6 (↑(a.getD (i64.wrap ((↑a.length:Int)-1)).toNat (0:Nat)):Int).toNat):Int))))):=by kernel_rfl
def C90:List AV→Option LR
 |[.num .i64 r,.dig [1,2] a,.num .i64 k,.num .i64 i]=>
 some (.need (Dy.okl a∧a.length≤1048576∧k=a.length∧i=0)
 (.test (decide (Dy.val a=0)) (.done (.exit 0) [.num .i64 r,.dig [1,2] a,.num .i64 k,.num .i64 k]) (.done .ret [.num .i64 (Dy.tz (Dy.val a):Nat),.dig [1,2] a,.num .i64 k,.num .i64 (Dy.tz (Dy.val a)/32:Nat)])))
 |_=>none
def ZE:List (Nat×Keep):=[(2,.same),(8,.same),(9,.same),(10,.same)]
def A0h:=lam [(4,.spec ZE C90)]
theorem C2h (a:List Nat) (Q:AV→Prop):(evF Tryz.prog (look AF) A0h false Tryz.f171 [.dig [1] a] Q)=(bif !may a then Q (.num .i64 0) else (okl a∧a.length≤1048576∧(↑a.length:Int)=(↑a.length:Int)∧(0:Int)=0)∧bif decide (val a=0) then Q (.num .i64 0) else Q (.num .i64 (↑(tz (val a)):Int))):=by kernel_rfl
theorem LZ (a:List Nat) (r:Int) (k:Int) (i:Int) (K:Exit→List AV→Prop):(M7 Tryz.prog (look AF) A0h (1:Nat) (23:Nat) ZE (D8 Tryz.f171 (0:Nat)) [.num .i64 r,.dig [1,2] a,.num .i64 k,.num .i64 i] K)=(bif decide (i<k) then (0≤i∧i<(↑a.length:Int))∧bif !decide ((↑(a.getD i.toNat (0:Nat)):Int)=0) then (0:Int)<(↑(a.getD i.toNat (0:Nat)):Int)∧K Exit.ret [.num .i64 (i64.wrap (i64.wrap ((32:Int)*i)+(↑(Lib.ctz (32:Nat) (↑(a.getD i.toNat (0:Nat)):Int).toNat):Int))),.dig [1,2] a,.num .i64 k,.num .i64 i] else K Exit.normal [.num .i64 r,.dig [1,2] a,.num .i64 k,.num .i64 (i64.wrap (i+1))] else K (Exit.exit (0:Nat)) [.num .i64 r,.dig [1,2] a,.num .i64 k,.num .i64 i]):=by kernel_rfl
theorem B14 (a:List Nat) (n:Int) (Q:AV→Prop):(evF Tryz.prog (look C6e) (lam []) false Tryz.f145 [.dig [1] a,.num .i64 n] Q)=(bif !may a then Q (.tup [.dig [0] [],.bool false,.num .i64 2]) else bif decide ((↑a.length:Int)=0) then Q (.tup [.dig [0] [],.bool false,.num .i64 0]) else bif decide (n<(-131072:Int)) then Q (.tup [.dig [0] [],.bool true,.num .i64 0]) else bif decide (n<0) then ((0:Int)≤i64.wrap ((0:Int)-n)∧a.length≤1048576)∧Q (.tup [.dig [0] (dg (val a/2^(i64.wrap ((0:Int)-n)).toNat)),.bool (decide ((↑(RL a):Int)<i64.wrap ((0:Int)-n))),.num .i64 0]) else bif decide (n>i64.wrap ((131072:Int)-(↑(F3 a):Int))) then Q (.tup [.dig [0] [],.bool false,.num .i64 3]) else (0≤n∧n≤33554432∧a.length≤1048576)∧Q (.tup [.dig [0] (dg (val a*2^n.toNat)),.bool false,.num .i64 0])):=by kernel_rfl
end Go.AI
