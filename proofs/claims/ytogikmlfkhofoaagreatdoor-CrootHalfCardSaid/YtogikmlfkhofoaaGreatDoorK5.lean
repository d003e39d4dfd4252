/- My texts AIbase, AIloop, AInum, AIspec1, AVnat1, AInat1, AInum2, AIspec2, AVnat2, in one. -/
import Derived.Test.YtogikmlfkhofoaaGreatDoorK4
import Derived.Test.YtogikmlfkhofoaaGreatDoorProg
import Derived.Lib.Strings
import Derived.Lib.Slices
import Derived.Lib.Small
import Derived.Lib.Walk
import Derived.Lib.BitFns
import Derived.Lib.TrailingZeros
namespace Go.AI
open Go Go.RowKit Go.Proofs
set_option linter.unusedVariables false
def Inv (w:World):Prop:=∀j,j<32→w.cell? ⟨0,j,none⟩=some (.int .u8 (Lib.deBruijn32tab.getD j 0))
theorem Inv_grow (w w':World) (h:Inv w) (hg:Grow w w'):Inv w':=fun j hj=>by
 have h1:=h j hj
 have hlt:0<w.heap.size:=by
  rcases Nat.lt_or_ge 0 w.heap.size with h2|h2
  ·exact h2
  ·simp [World.cell?,Array.getElem?_eq_none h2] at h1
 rw [←h1]
 simp only [World.cell?,hg.below.block _ hlt]
theorem mixedP:Tryz.prog.follows .mixedOrders=true:=by kernel_rfl
def look:List (Nat×(List AV→Option Spec))→Nat→List AV→Option Spec
 |[],_,_=>none
 |(g,s)::t,f,args=>if f=g then s args else look t f args
theorem look_nil:PhiOk Tryz.prog Inv (look []):=fun f args s h=>by simp [look] at h
theorem look_cons {t:List (Nat×(List AV→Option Spec))} {g:Nat} {S:List AV→Option Spec} (ht:PhiOk Tryz.prog Inv (look t))
  (hg:∀args s,S args=some s→andO s.pre True→Contract Tryz.prog Inv g args s.res):PhiOk Tryz.prog Inv (look ((g,S)::t)):=fun f args s h=>by
 simp only [look] at h
 split at h
 ·rename_i e;subst e;exact hg args s h
 ·exact ht f args s h
theorem contract_num1 {f:Nat} {k k':IntKind} {x y:Int} (he:Enters Tryz.prog f)
  (hc:∀w,Inv w→k.min≤x∧x≤k.max→(k'.min≤y∧y≤k'.max)∧Calls Tryz.prog f #[.int k x] w fun e w'=>e= .returned (.int k' y)∧w'=w):
  Contract Tryz.prog Inv f [.num k x] (.num k' y):=by
 refine ⟨he,fun w cargs β hI hlt hV _=> ?_⟩
 match cargs,hV with
 |[v],hV=>
  simp only [Vs,V] at hV
  obtain ⟨⟨rfl,hr⟩,_⟩:=hV
  obtain ⟨hy,hcc⟩:=hc w hI hr
  refine hcc.mono ?_
  rintro e w' ⟨rfl,rfl⟩
  exact ⟨_,rfl,After.of (Grow.refl _) (by simp only [V];exact ⟨trivial,hy⟩)⟩
 |[],hV=>simp only [Vs] at hV
 |_::_::_,hV=>simp [Vs] at hV
set_option maxHeartbeats 4000000 in
set_option maxRecDepth 100000 in
theorem bits_Len32 (x:Int) (w:World) (h0:0≤x) (h1:x≤4294967295):
  Calls Tryz.prog 180 #[.int .u32 x] w fun e w'=>e= .returned (.int .i64 (Lib.bitLen x.toNat))∧w'=w:=by
 rcases Int.lt_or_le x 65536 with c1|c1
 ·rcases Int.lt_or_le x 256 with c2|c2
  ·have k1:x≤255:=by omega
   go_enter Tryz.func180,Tryz.ntmps180
   go_wp2
   go_ret
   refine ⟨congrArg Ending.returned (congrArg (Value.int IntKind.i64) ?_),rfl⟩
   rw [Lib.len8_of x (by omega) (by omega)]
   have l:=Lib.bitLen_le8' x (by omega) (by omega)
   unfold wrap64
   omega
  ·have k1:x/256≤255:=by omega
   have k2:0≤x/256:=by omega
   go_enter Tryz.func180,Tryz.ntmps180
   go_wp2
   go_ret
   refine ⟨congrArg Ending.returned (congrArg (Value.int IntKind.i64) ?_),rfl⟩
   rw [Lib.len8_of (x/256) (by omega) (by omega)]
   have e:(x/256).toNat=x.toNat/256:=by omega
   have l:=Lib.bitLen_le8' (x/256) (by omega) (by omega)
   have s:=Lib.bitLen_shift8 x.toNat (by omega) (by omega)
   rw [e] at l ⊢
   unfold wrap64
   omega
 ·rcases Int.lt_or_le (x/65536) 256 with c2|c2
  ·have k1:x/65536≤255:=by omega
   have k2:0≤x/65536:=by omega
   go_enter Tryz.func180,Tryz.ntmps180
   go_wp2
   go_ret
   refine ⟨congrArg Ending.returned (congrArg (Value.int IntKind.i64) ?_),rfl⟩
   rw [Lib.len8_of (x/65536) (by omega) (by omega)]
   have e:(x/65536).toNat=x.toNat/65536:=by omega
   have l:=Lib.bitLen_le8' (x/65536) (by omega) (by omega)
   have s:=Lib.bitLen_shift16 x.toNat (by omega) (by omega)
   rw [e] at l ⊢
   unfold wrap64
   omega
  ·have k1:x/65536/256≤255:=by omega
   have k2:0≤x/65536/256:=by omega
   go_enter Tryz.func180,Tryz.ntmps180
   go_wp2
   go_ret
   refine ⟨congrArg Ending.returned (congrArg (Value.int IntKind.i64) ?_),rfl⟩
   rw [Lib.len8_of (x/65536/256) (by omega) (by omega)]
   have e:(x/65536/256).toNat=x.toNat/16777216:=by omega
   have l:=Lib.bitLen_le8' (x/65536/256) (by omega) (by omega)
   have s:=Lib.bitLen_shift24 x.toNat (by omega) (by omega)
   rw [e] at l ⊢
   unfold wrap64
   omega
theorem wrap_u32' (n:Int):IntKind.u32.wrap n=n%4294967296:=by simp [IntKind.wrap,IntKind.signed,IntKind.bits]
theorem bits_and_u32_nat (a b:Nat) (ha:a<4294967296) (hb:b<4294967296):bits .and .u32 (a:Int) (b:Int)=((a&&&b:Nat):Int):=by
 have hx:a&&&b<2^32:=Nat.and_lt_two_pow _ (by omega)
 have h1:(BitVec.ofInt 32 (a:Int)).toNat=a:=by
  rw [BitVec.ofInt_natCast,BitVec.toNat_ofNat];exact Nat.mod_eq_of_lt (by omega)
 have h2:(BitVec.ofInt 32 (b:Int)).toNat=b:=by
  rw [BitVec.ofInt_natCast,BitVec.toNat_ofNat];exact Nat.mod_eq_of_lt (by omega)
 show IntKind.u32.wrap ((BitVec.ofInt 32 (a:Int)&&&BitVec.ofInt 32 (b:Int)).toNat:Int)=_
 rw [BitVec.toNat_and,h1,h2,wrap_u32']
 omega
set_option maxHeartbeats 1000000 in
theorem tz32_core (x k idx:Nat) (w:World) (hx0:((x:Int)==0)=false)
  (key:bits BinOp.and IntKind.u32 (x:Int) (-(x:Int)%4294967296)*125613361%4294967296/134217728=(idx:Int))
  (hi:idx<32) (hk:k<32) (hcell:w.cell? ⟨0,idx,none⟩=some (.int .u8 k)):
  Calls Tryz.prog 198 #[.int .u32 x] w fun e w'=>e= .returned (.int .i64 k)∧w'=w:=by
 go_enter Tryz.func198,Tryz.ntmps198
 go_wp2_with (simp only [key])
 go_ret
 exact ⟨rfl,rfl⟩
theorem tz32_key (x a:Nat) (hx:x<4294967296) (hx0:x≠0) (hlow:x&&&(4294967296-x)=a):
  bits BinOp.and IntKind.u32 (x:Int) (-(x:Int)%4294967296)*125613361%4294967296/134217728=((a*125613361%4294967296/134217728:Nat):Int):=by
 have e1: -(x:Int)%4294967296=((4294967296-x:Nat):Int):=by omega
 rw [e1,bits_and_u32_nat x _ hx (by omega),hlow]
 omega
theorem bits_TrailingZeros32 (x:Nat) (hx:x<4294967296) (hx0:x≠0) (w:World) (hT:Inv w):
  Calls Tryz.prog 198 #[.int .u32 x] w fun e w'=>e= .returned (.int .i64 (Lib.ctz 32 x))∧w'=w:=by
 obtain ⟨hlow,hk⟩:=Lib.lowest_bit 32 x hx0 hx
 obtain ⟨hi,htab⟩:=Lib.deBruijn32_at _ hk
 have hcell:=hT _ hi
 rw [htab] at hcell
 exact tz32_core x _ _ w (by simp;omega) (tz32_key x _ hx hx0 hlow) hi hk hcell
def sLen32:List AV→Option Spec
 |[.num .u32 x]=>some ⟨none,.num .i64 (Lib.bitLen x.toNat)⟩
 |_=>none
def sTz32:List AV→Option Spec
 |[.num .u32 x]=>some ⟨some (0<x),.num .i64 (Lib.ctz 32 x.toNat)⟩
 |_=>none
theorem okLen32 (args:List AV) (s:Spec) (h:sLen32 args=some s) (hp:andO s.pre True):Contract Tryz.prog Inv 180 args s.res:=by
 unfold sLen32 at h
 split at h
 ·cases h
  refine contract_num1 (fun cs w=>Tryz.call180 cs w) fun w hI hr=> ?_
  simp only [IntKind.min,IntKind.max,IntKind.bits,IntKind.signed] at hr
  rename_i x
  have hr':0≤x∧x≤4294967295:=by simpa using hr
  have:=Lib.bitLen_le x.toNat 32 (by omega) (by omega)
  refine ⟨?_,bits_Len32 x w hr'.1 hr'.2⟩
  simp [IntKind.min,IntKind.max,IntKind.bits,IntKind.signed]
  omega
 ·cases h
theorem okTz32 (args:List AV) (s:Spec) (h:sTz32 args=some s) (hp:andO s.pre True):Contract Tryz.prog Inv 198 args s.res:=by
 unfold sTz32 at h
 split at h
 ·cases h
  rename_i x
  refine contract_num1 (fun cs w=>Tryz.call198 cs w) fun w hI hr=> ?_
  simp only [IntKind.min,IntKind.max,IntKind.bits,IntKind.signed] at hr
  have hr':0≤x∧x≤4294967295:=by simpa using hr
  have h0:0<x:=hp.1
  have ht:=bits_TrailingZeros32 x.toNat (by omega) (by omega) w hI
  obtain ⟨-,hk⟩:=Lib.lowest_bit 32 x.toNat (by omega) (by omega)
  rw [show ((x.toNat:Nat):Int)=x by omega] at ht
  refine ⟨?_,ht⟩
  simp [IntKind.min,IntKind.max,IntKind.bits,IntKind.signed]
  omega
 ·cases h
end Go.AI

namespace Go.AI
open Go Go.RowKit Go.Proofs
set_option linter.unusedVariables false
def bodies:Code→List Code
 | .seq a b=>bodies a++bodies b
 | .cond _ a b=>bodies a++bodies b
 | .block _ a=>bodies a
 | .loop a=>a::bodies a
 |_=>[]
def bodyOf (fn:Func):Code:=fn.body.getD .skip
def bodyN (fn:Func) (i:Nat):Code:=(bodies (bodyOf fn)).getD i .skip
def LoopsAll (P:Program) (Φ:Nat→List AV→Option Spec) (Λ:Nat→Option LoopAnn) (na nt:Nat):List Code→Prop
 |[]=>True
 |b::l=>(match Λ (firstRegion b) with
   |some (.spec keep ls)=>LoopOk P Φ Λ na nt keep b ls
   |some (.raw g)=>RawOk P na nt b g
   |_=>True)∧LoopsAll P Φ Λ na nt l
theorem LoopsAll.append {P:Program} {Φ:Nat→List AV→Option Spec} {Λ:Nat→Option LoopAnn} {na nt:Nat}:∀{l l':List Code},LoopsAll P Φ Λ na nt (l++l')→LoopsAll P Φ Λ na nt l∧LoopsAll P Φ Λ na nt l'
 |[],l',h=>⟨trivial,h⟩
 |b::l,l',h=>by
  simp only [List.cons_append,LoopsAll] at h ⊢
  have:=LoopsAll.append h.2
  exact ⟨⟨h.1,this.1⟩,this.2⟩
theorem loopsOk_of {P:Program} {Φ:Nat→List AV→Option Spec} {Λ:Nat→Option LoopAnn} {na nt:Nat}:∀(c:Code),LoopsAll P Φ Λ na nt (bodies c)→LoopsOk P Φ Λ na nt c:=by
 intro c
 induction c with
 |seq a b iha ihb=>intro h;have:=LoopsAll.append h;exact ⟨iha this.1,ihb this.2⟩
 |cond c a b iha ihb=>intro h;have:=LoopsAll.append h;exact ⟨iha this.1,ihb this.2⟩
 |block i a ih=>intro h;exact ih h
 |loop a ih=>
  intro h
  refine ⟨ih h.2,fun keep ls hl=> ?_,fun g hl=> ?_⟩
  ·have:=h.1
   rw [hl] at this
   exact this
  ·have:=h.1
   rw [hl] at this
   exact this
 |_=>intro _;trivial
def lam:List (Nat×LoopAnn)→Nat→Option LoopAnn
 |[],_=>none
 |(i,a)::l,j=>if i=j then some a else lam l j
def saneF (fn : Func) : Bool := fn.body.isSome && !(fn.name == "runtime.NumGoroutine")
section
variable {P:Program} {Φ:Nat→List AV→Option Spec} {Λ:Nat→Option LoopAnn} {na nt:Nat} {fn:Func}
theorem loops0 (h:bodies (bodyOf fn)=[]):LoopsAll P Φ Λ na nt (bodies (bodyOf fn)):=by rw [h];trivial
theorem loops1 {keep:List (Nat×Keep)} {ls:List AV→Option LR} (h:bodies (bodyOf fn)=[bodyN fn 0]) (hΛ:Λ (firstRegion (bodyN fn 0))=some (.spec keep ls)) (hl:LoopOk P Φ Λ na nt keep (bodyN fn 0) ls):
  LoopsAll P Φ Λ na nt (bodies (bodyOf fn)):=by
 rw [h]
 simp only [LoopsAll,hΛ]
 exact ⟨hl,trivial⟩
theorem loops1u {k:Nat} (h:bodies (bodyOf fn)=[bodyN fn 0]) (hΛ:Λ (firstRegion (bodyN fn 0))=some (.unroll k)):LoopsAll P Φ Λ na nt (bodies (bodyOf fn)):=by
 rw [h]
 simp only [LoopsAll,hΛ]
 exact ⟨trivial,trivial⟩
theorem loops2 {keep keep':List (Nat×Keep)} {ls ls':List AV→Option LR} (h:bodies (bodyOf fn)=[bodyN fn 0,bodyN fn 1]) (hΛ:Λ (firstRegion (bodyN fn 0))=some (.spec keep ls))
  (hl:LoopOk P Φ Λ na nt keep (bodyN fn 0) ls) (hΛ':Λ (firstRegion (bodyN fn 1))=some (.spec keep' ls')) (hl':LoopOk P Φ Λ na nt keep' (bodyN fn 1) ls'):LoopsAll P Φ Λ na nt (bodies (bodyOf fn)):=by
 rw [h]
 simp only [LoopsAll,hΛ,hΛ']
 exact ⟨hl,hl',trivial⟩
end
theorem contract_at {t:List (Nat×(List AV→Option Spec))} {f:Nat} {fn:Func} {args:List AV} {res:AV} (alias:Bool) (nt:Nat) (Λ:Nat→Option LoopAnn) (ht:PhiOk Tryz.prog Inv (look t))
  (hfn:Tryz.prog.funcs[f]? =some fn) (hs:saneF fn=true) (hnt:args.length+(fn.ntmps-args.length)=nt)
  (hl:LoopsAll Tryz.prog (look t) Λ args.length nt (bodies (bodyOf fn)))
  (h:AV.oks args→evF Tryz.prog (look t) Λ alias fn args (fun r=>r=res)):Contract Tryz.prog Inv f args res:=by
 unfold saneF at hs
 cases hb:fn.body with
 |none=>rw [hb] at hs;cases hs
 |some c=>
  rw [hb] at hs
  have e:bodyOf fn=c:=by unfold bodyOf;rw [hb];rfl
  rw [e] at hl
  exact contract_of mixedP ht Inv_grow hfn hb (by simpa using hs) hnt (loopsOk_of c hl) h
theorem contract0 {t:List (Nat×(List AV→Option Spec))} {f:Nat} {fn:Func} {args:List AV} {res:AV} (alias:Bool) (ht:PhiOk Tryz.prog Inv (look t))
  (hfn:Tryz.prog.funcs[f]? =some fn) (hs:saneF fn=true) (hl:bodies (bodyOf fn)=[])
  (h:AV.oks args→evF Tryz.prog (look t) (lam []) alias fn args (fun r=>r=res)):Contract Tryz.prog Inv f args res:=
 contract_at alias _ (lam []) ht hfn hs rfl (loops0 hl) h
theorem iterN_last {P:Program} {Φ:Nat→List AV→Option Spec} {Λ:Nat→Option LoopAnn} {na nt:Nat} {keep:List (Nat×Keep)} {body:Code} {vals:List AV} {K:Exit→List AV→Prop}
  (h:evIter P Φ Λ na nt keep body vals fun e vals'=>match e with
   | .normal=>False
   |e=>K e vals'):∃n,iterN P Φ Λ na nt keep body n vals K:=⟨1,h⟩
theorem iterN_next {P:Program} {Φ:Nat→List AV→Option Spec} {Λ:Nat→Option LoopAnn} {na nt:Nat} {keep:List (Nat×Keep)} {body:Code} {vals:List AV} {K:Exit→List AV→Prop} (n:Nat)
  (h:evIter P Φ Λ na nt keep body vals fun e vals'=>match e with
   | .normal=>iterN P Φ Λ na nt keep body n vals' K
   |e=>K e vals'):∃n,iterN P Φ Λ na nt keep body n vals K:=⟨n+1,h⟩
theorem wrap_i64 {n:Int} (h0: -9223372036854775808≤n) (h1:n<9223372036854775808):IntKind.i64.wrap n=n:=by
 simp [IntKind.wrap,IntKind.signed,IntKind.bits]
 omega
theorem wrap_u64 (n:Int):IntKind.u64.wrap n=n%18446744073709551616:=by simp [IntKind.wrap,IntKind.signed,IntKind.bits]
theorem wrap_u32 (n:Int):IntKind.u32.wrap n=n%4294967296:=by simp [IntKind.wrap,IntKind.signed,IntKind.bits]
theorem cond_t {b:Bool} {p q:Prop} (h:b=true) (hp:p):cond b p q:=by subst h;exact hp
theorem cond_f {b:Bool} {p q:Prop} (h:b=false) (hq:q):cond b p q:=by subst h;exact hq
theorem cond_i {b:Bool} {p q:Prop} (h1:b=true→p) (h2:b=false→q):cond b p q:=by
 cases b
 ·exact h2 rfl
 ·exact h1 rfl
end Go.AI

namespace Go.Dy
def val:List Nat→Nat
 |[]=>0
 |d::l=>d+4294967296*val l
def dgF:Nat→Nat→List Nat
 |0,_=>[]
 |f+1,n=>if n=0 then [] else n%4294967296::dgF f (n/4294967296)
def dg (n:Nat):List Nat:=dgF n n
theorem dgF_eq:∀(f g n:Nat),n≤f→n≤g→dgF f n=dgF g n
 |0,g,n,h,_=>by
  have:n=0:=by omega
  subst this
  cases g<;>simp [dgF]
 |f+1,0,n,_,h=>by
  have:n=0:=by omega
  subst this
  simp [dgF]
 |f+1,g+1,n,h,h'=>by
  simp only [dgF]
  by_cases h0:n=0
  ·rw [if_pos h0,if_pos h0]
  ·have:n/4294967296<n:=Nat.div_lt_self (by omega) (by omega)
   rw [if_neg h0,if_neg h0,dgF_eq f g (n/4294967296) (by omega) (by omega)]
def digs (l:List Nat):Prop:=∀x ∈ l,x<4294967296
theorem digs_nil:digs []:=fun x hx=>by cases hx
theorem digs_cons {d:Nat} {l:List Nat}:digs (d::l) ↔ d<4294967296∧digs l:=by simp [digs]
theorem digs_append {a b:List Nat}:digs (a++b) ↔ digs a∧digs b:=by
 simp only [digs,List.mem_append]
 exact ⟨fun h=>⟨fun x hx=>h x (.inl hx),fun x hx=>h x (.inr hx)⟩,fun h x hx=>hx.elim (h.1 x) (h.2 x)⟩
theorem dg_zero:dg 0=[]:=rfl
theorem dg_pos {n:Nat} (h:n≠0):dg n=n%4294967296::dg (n/4294967296):=by
 obtain ⟨f,rfl⟩:∃f,n=f+1:=⟨n-1,by omega⟩
 have:(f+1)/4294967296<f+1:=Nat.div_lt_self (by omega) (by omega)
 show dgF (f+1) (f+1)=_::dgF _ _
 rw [dgF,if_neg h,dgF_eq f ((f+1)/4294967296) ((f+1)/4294967296) (by omega) (by omega)]
theorem val_dg (n:Nat):val (dg n)=n:=by
 induction n using Nat.strongRecOn with
 |_ n ih=>
  by_cases h:n=0
  ·subst h;rw [dg_zero];rfl
  ·rw [dg_pos h]
   simp only [val]
   rw [ih _ (Nat.div_lt_self (by omega) (by omega))]
   omega
theorem digs_dg (n:Nat):digs (dg n):=by
 induction n using Nat.strongRecOn with
 |_ n ih=>
  by_cases h:n=0
  ·subst h;rw [dg_zero];exact digs_nil
  ·rw [dg_pos h,digs_cons]
   exact ⟨by omega,ih _ (Nat.div_lt_self (by omega) (by omega))⟩
theorem dg_eq_nil {n:Nat}:dg n=[] ↔ n=0:=⟨fun h=>by rw [←val_dg n,h];rfl,fun h=>by rw [h,dg_zero]⟩
theorem val_append (a b:List Nat):val (a++b)=val a+2^(32*a.length)*val b:=by
 induction a with
 |nil=>simp [val]
 |cons d a ih=>
  simp only [List.cons_append,val,ih,List.length_cons]
  rw [show 32*(a.length+1)=32*a.length+32 by omega,Nat.pow_add,Nat.mul_add,Nat.mul_comm (2^(32*a.length)) (2^32),Nat.mul_assoc,Nat.add_assoc]
theorem val_replicate (n:Nat):val (List.replicate n 0)=0:=by
 induction n with
 |zero=>rfl
 |succ n ih=>simp [List.replicate_succ,val,ih]
theorem val_snoc (a:List Nat) (d:Nat):val (a++[d])=val a+2^(32*a.length)*d:=by rw [val_append];simp [val]
theorem val_lt {l:List Nat} (h:digs l):val l<2^(32*l.length):=by
 induction l with
 |nil=>simp [val]
 |cons d l ih=>
  have ⟨h1,h2⟩:=digs_cons.1 h
  have:=ih h2
  simp only [val,List.length_cons]
  rw [show 32*(l.length+1)=32+32*l.length by omega,Nat.pow_add]
  omega
theorem dg_val_cons {d:Nat} {l:List Nat} (hd:d<4294967296) (h:dg (val l)=l) (h0:d≠0∨l≠[]):dg (val (d::l))=d::l:=by
 have hne:val (d::l)≠0:=by
  simp only [val]
  rcases h0 with h0|h0
  ·omega
  ·have:val l≠0:=fun e=>h0 (by rw [←h,e,dg_zero])
   omega
 rw [dg_pos hne]
 simp only [val]
 rw [show (d+4294967296*val l)%4294967296=d by omega,show (d+4294967296*val l)/4294967296=val l by omega,h]
theorem dg_val {l:List Nat} (h:digs l) (ht:l=[]∨l.getD (l.length-1) 0≠0):dg (val l)=l:=by
 induction l with
 |nil=>exact dg_zero
 |cons d l ih=>
  have ⟨h1,h2⟩:=digs_cons.1 h
  rcases ht with ht|ht
  ·cases ht
  ·cases l with
   |nil=>
    have:d≠0:=by simpa using ht
    exact dg_val_cons h1 (ih h2 (.inl rfl)) (.inl this)
   |cons e l=>
    refine dg_val_cons h1 (ih h2 (.inr ?_)) (.inr (by simp))
    simpa using ht
theorem last_dg (n:Nat):dg n=[]∨(dg n).getD ((dg n).length-1) 0≠0:=by
 induction n using Nat.strongRecOn with
 |_ n ih=>
  by_cases h:n=0
  ·subst h;exact .inl dg_zero
  ·refine .inr ?_
   rw [dg_pos h]
   rcases ih _ (Nat.div_lt_self (by omega) (by omega):n/4294967296<n) with h1|h1
   ·rw [h1]
    have:n/4294967296=0:=dg_eq_nil.1 h1
    simp;omega
   ·cases hl:dg (n/4294967296) with
    |nil=>rw [hl] at h1;simp at h1
    |cons e l=>rw [hl] at h1;simpa using h1
theorem dg_val_iff {l:List Nat} (h:digs l):dg (val l)=l ↔ (l=[]∨l.getD (l.length-1) 0≠0):=⟨fun e=>by have:=last_dg (val l);rwa [e] at this,dg_val h⟩
theorem val_drop_last {l:List Nat} (h:l≠[]) (h0:l.getD (l.length-1) 0=0):val (l.take (l.length-1))=val l:=by
 have e:l=l.take (l.length-1)++[l.getD (l.length-1) 0]:=by
  have hl:l.length-1<l.length:=by
   have:=List.length_pos_iff.2 h
   omega
  rw [List.getD_eq_getElem?_getD,List.getElem?_eq_getElem hl,Option.getD_some,List.take_append_getElem hl]
  rw [List.take_of_length_le (by omega)]
 conv=>rhs;rw [e]
 rw [val_snoc,h0]
 simp
theorem digs_take {l:List Nat} (h:digs l) (n:Nat):digs (l.take n):=fun x hx=>h x (List.mem_of_mem_take hx)
theorem digs_drop {l:List Nat} (h:digs l) (n:Nat):digs (l.drop n):=fun x hx=>h x (List.mem_of_mem_drop hx)
theorem digs_replicate (n:Nat):digs (List.replicate n 0):=fun x hx=>by rw [List.eq_of_mem_replicate hx];decide
theorem digs_set {l:List Nat} (h:digs l) {i d:Nat} (hd:d<4294967296):digs (l.set i d):=fun x hx=>by
 rcases List.mem_or_eq_of_mem_set hx with h1|h1
 ·exact h x h1
 ·rw [h1];exact hd
theorem digs_getD {l:List Nat} (h:digs l) (i:Nat):l.getD i 0<4294967296:=by
 rw [List.getD_eq_getElem?_getD]
 cases hi:l[i]? with
 |none=>decide
 |some x=>exact h x (List.mem_of_getElem? hi)
theorem val_take_drop (l:List Nat) (i:Nat) (hi:i≤l.length):val l=val (l.take i)+2^(32*i)*val (l.drop i):=by
 conv=>lhs;rw [←List.take_append_drop i l]
 rw [val_append,List.length_take,Nat.min_eq_left hi]
theorem val_drop {l:List Nat} (h:digs l) (i:Nat):val (l.drop i)=val l/2^(32*i):=by
 by_cases hi:i≤l.length
 ·have e:=val_take_drop l i hi
  have hl:=val_lt (digs_take h i)
  rw [List.length_take,Nat.min_eq_left hi] at hl
  rw [e,Nat.add_mul_div_left _ _ (Nat.two_pow_pos _),Nat.div_eq_of_lt hl,Nat.zero_add]
 ·rw [List.drop_of_length_le (by omega),Nat.div_eq_of_lt]
  ·rfl
  ·exact Nat.lt_of_lt_of_le (val_lt h) (Nat.pow_le_pow_right (by decide) (by omega))
theorem val_take {l:List Nat} (h:digs l) (i:Nat):val (l.take i)=val l%2^(32*i):=by
 by_cases hi:i≤l.length
 ·have e:=val_take_drop l i hi
  have hl:=val_lt (digs_take h i)
  rw [List.length_take,Nat.min_eq_left hi] at hl
  rw [e,Nat.add_mul_mod_self_left,Nat.mod_eq_of_lt hl]
 ·rw [List.take_of_length_le (by omega),Nat.mod_eq_of_lt]
  exact Nat.lt_of_lt_of_le (val_lt h) (Nat.pow_le_pow_right (by decide) (by omega))
theorem getD_drop_zero (l:List Nat) (i:Nat):l.getD i 0=(l.drop i).getD 0 0:=by
 simp [List.getD_eq_getElem?_getD,List.getElem?_drop]
theorem val_mod {l:List Nat} (h:digs l):val l%4294967296=l.getD 0 0:=by
 cases l with
 |nil=>rfl
 |cons d l=>
  have:=(digs_cons.1 h).1
  simp [val];omega
theorem getD_val {l:List Nat} (h:digs l) (i:Nat):l.getD i 0=val l/2^(32*i)%4294967296:=by
 rw [getD_drop_zero,←val_mod (digs_drop h i),val_drop h]
theorem val_take_succ {l:List Nat} {i:Nat} (hi:i<l.length):val (l.take (i+1))=val (l.take i)+2^(32*i)*l.getD i 0:=by
 rw [←List.take_append_getElem hi,val_append,List.length_take,Nat.min_eq_left (by omega),List.getD_eq_getElem?_getD,List.getElem?_eq_getElem hi]
 simp [val]
theorem val_drop_at {l:List Nat} {i:Nat} (hi:i<l.length):val (l.drop i)=l.getD i 0+4294967296*val (l.drop (i+1)):=by
 rw [List.drop_eq_getElem_cons hi]
 simp [val,List.getD_eq_getElem?_getD,List.getElem?_eq_getElem hi]
theorem val_set {l:List Nat} {i d:Nat} (hi:i<l.length):val (l.set i d)+2^(32*i)*l.getD i 0=val l+2^(32*i)*d:=by
 have e1:=val_take_drop (l.set i d) i (by simp;omega)
 have e2:=val_take_drop l i (by omega)
 rw [List.take_set_of_le (by omega),List.drop_set] at e1
 rw [if_neg (by omega),Nat.sub_self] at e1
 rw [e1,e2,List.drop_eq_getElem_cons hi]
 simp only [List.set_cons_zero,val,List.getD_eq_getElem?_getD,List.getElem?_eq_getElem hi,Option.getD_some]
 rw [Nat.mul_add,Nat.mul_add]
 omega
theorem length_dg_le {n k:Nat}:(dg n).length≤k ↔ n<2^(32*k):=by
 constructor
 ·intro h
  have h1:=val_lt (digs_dg n)
  rw [val_dg] at h1
  exact Nat.lt_of_lt_of_le h1 (Nat.pow_le_pow_right (by decide) (by omega))
 ·induction k generalizing n with
  |zero=>
   intro h;have:n=0:=by simpa using h
   subst this;rw [dg_zero];simp
  |succ k ih=>
   intro h
   by_cases h0:n=0
   ·subst h0;rw [dg_zero];simp
   ·rw [dg_pos h0]
    have:n/4294967296<2^(32*k):=by
     rw [Nat.div_lt_iff_lt_mul (by decide),show (4294967296:Nat)=2^32 from rfl,←Nat.pow_add]
     exact h
    have:=ih this
    simp;omega
theorem dg_ne_nil {n:Nat} (h:n≠0):0<(dg n).length:=by rw [dg_pos h];simp
theorem le_of_length {n:Nat} (h:n≠0):2^(32*((dg n).length-1))≤n:=by
 have:=dg_ne_nil h
 apply Nat.le_of_not_lt
 intro h1
 have:=length_dg_le.2 h1
 omega
theorem lt_of_length_lt {a b:Nat} (h:(dg a).length<(dg b).length):a<b:=by
 have h1:a<2^(32*(dg a).length):=length_dg_le.1 (Nat.le_refl _)
 apply Nat.lt_of_not_le
 intro h2
 have:=length_dg_le.2 (Nat.lt_of_le_of_lt h2 h1)
 omega
theorem length_dg_mono {a b:Nat} (h:a≤b):(dg a).length≤(dg b).length:=
 length_dg_le.2 (Nat.lt_of_le_of_lt h (length_dg_le.1 (Nat.le_refl _)))
theorem length_dg_val {l:List Nat} (h:digs l):(dg (val l)).length≤l.length:=length_dg_le.2 (val_lt h)
def bl (n:Nat):Nat:=if n=0 then 0 else Nat.log2 n+1
theorem bl_zero:bl 0=0:=rfl
theorem bl_le {n k:Nat}:bl n≤k ↔ n<2^k:=by
 unfold bl
 split
 ·rename_i h;subst h;simp [Nat.two_pow_pos]
 ·rename_i h
  rw [←Nat.log2_lt h]
  omega
theorem lt_bl {n k:Nat}:k<bl n ↔ 2^k≤n:=by
 have:= @bl_le n k
 omega
theorem lt_two_bl (n:Nat):n<2^bl n:=bl_le.1 (Nat.le_refl _)
theorem two_bl_le {n:Nat} (h:n≠0):2^(bl n-1)≤n:=by
 refine lt_bl.1 ?_
 have:0<bl n:=by unfold bl;rw [if_neg h];omega
 omega
theorem bl_pos {n:Nat}:0<bl n ↔ n≠0:=by
 have:= @lt_bl n 0
 omega
theorem bl_eq {n k:Nat} (h1:2^k≤n) (h2:n<2^(k+1)):bl n=k+1:=by
 have:=lt_bl.2 h1
 have:=bl_le.2 h2
 omega
theorem bl_mono {a b:Nat} (h:a≤b):bl a≤bl b:=bl_le.2 (Nat.lt_of_le_of_lt h (lt_two_bl b))
theorem bl_mul_two_pow {n:Nat} (h:n≠0) (k:Nat):bl (n*2^k)=bl n+k:=by
 have h1:=two_bl_le h
 have h2:=lt_two_bl n
 have h0:=bl_pos.2 h
 have hk:=Nat.two_pow_pos k
 have e:bl n+k=(bl n-1+k)+1:=by omega
 rw [e]
 refine bl_eq ?_ ?_
 ·rw [Nat.pow_add];exact Nat.mul_le_mul_right _ h1
 ·rw [show bl n-1+k+1=bl n+k by omega,Nat.pow_add];exact Nat.mul_lt_mul_of_pos_right h2 hk
theorem bl_div_two_pow (n k:Nat):bl (n/2^k)=bl n-k:=by
 by_cases h:n/2^k=0
 ·rw [h,bl_zero]
  have:n<2^k:=by
   rcases Nat.div_eq_zero_iff.1 h with h1|h1
   ·have:=Nat.two_pow_pos k;omega
   ·exact h1
  have:=bl_le.2 this
  omega
 ·have hk:=Nat.two_pow_pos k
  have hn:2^k≤n:=by
   apply Nat.le_of_not_lt
   intro h1
   exact h (Nat.div_eq_of_lt h1)
  have hn0:n≠0:=by omega
  have h1:=two_bl_le hn0
  have h2:=lt_two_bl n
  have h3:=lt_bl.2 hn
  rw [show bl n-k=(bl n-k-1)+1 by omega]
  refine bl_eq ?_ ?_
  ·rw [Nat.le_div_iff_mul_le hk,←Nat.pow_add,show bl n-k-1+k=bl n-1 by omega];exact h1
  ·rw [Nat.div_lt_iff_lt_mul hk,←Nat.pow_add,show bl n-k-1+1+k=bl n by omega];exact h2
theorem length_dg_bl {n k:Nat}:(dg n).length≤k ↔ bl n≤32*k:=length_dg_le.trans bl_le.symm
def tzF:Nat→Nat→Nat
 |0,_=>0
 |f+1,n=>if n=0 then 0 else if n%2=1 then 0 else tzF f (n/2)+1
def tz (n:Nat):Nat:=tzF n n
theorem tzF_eq:∀(f g n:Nat),n≤f→n≤g→tzF f n=tzF g n
 |0,g,n,h,_=>by
  have:n=0:=by omega
  subst this
  cases g<;>simp [tzF]
 |f+1,0,n,_,h=>by
  have:n=0:=by omega
  subst this
  simp [tzF]
 |f+1,g+1,n,h,h'=>by
  simp only [tzF]
  by_cases h0:n=0
  ·rw [if_pos h0,if_pos h0]
  ·have:n/2<n:=Nat.div_lt_self (by omega) (by omega)
   rw [if_neg h0,if_neg h0,tzF_eq f g (n/2) (by omega) (by omega)]
theorem tz_zero:tz 0=0:=rfl
theorem tz_odd {n:Nat} (h:n%2=1):tz n=0:=by
 obtain ⟨f,rfl⟩:∃f,n=f+1:=⟨n-1,by omega⟩
 show tzF (f+1) (f+1)=0
 rw [tzF,if_neg (by omega),if_pos h]
theorem tz_even {n:Nat} (h0:n≠0) (h:n%2=0):tz n=tz (n/2)+1:=by
 obtain ⟨f,rfl⟩:∃f,n=f+1:=⟨n-1,by omega⟩
 have:(f+1)/2<f+1:=Nat.div_lt_self (by omega) (by omega)
 show tzF (f+1) (f+1)=tzF _ _+1
 rw [tzF,if_neg h0,if_neg (by omega),tzF_eq f ((f+1)/2) ((f+1)/2) (by omega) (by omega)]
theorem tz_spec {n:Nat} (h:n≠0):∃m,n=2^tz n*(2*m+1):=by
 induction n using Nat.strongRecOn with
 |_ n ih=>
  by_cases h1:n%2=1
  ·rw [tz_odd h1];exact ⟨n/2,by omega⟩
  ·rw [tz_even h (by omega)]
   obtain ⟨m,hm⟩:=ih (n/2) (Nat.div_lt_self (by omega) (by omega)) (by omega)
   refine ⟨m,?_⟩
   rw [Nat.pow_succ,Nat.mul_right_comm,←hm]
   omega
theorem tz_mul (k m:Nat):tz (2^k*(2*m+1))=k:=by
 induction k with
 |zero=>exact tz_odd (by omega)
 |succ k ih=>
  have h0:=Nat.two_pow_pos k
  have e:2^(k+1)*(2*m+1)=2*(2^k*(2*m+1)):=by rw [Nat.pow_succ,Nat.mul_comm (2^k) 2,Nat.mul_assoc]
  have h1:0<2^k*(2*m+1):=Nat.mul_pos h0 (by omega)
  rw [e,tz_even (by omega) (by omega),Nat.mul_div_cancel_left _ (by omega),ih]
theorem tz_mul_two_pow {n:Nat} (h:n≠0) (k:Nat):tz (n*2^k)=tz n+k:=by
 obtain ⟨m,hm⟩:=tz_spec h
 have e:n*2^k=2^(tz n+k)*(2*m+1):=by
  conv=>lhs;rw [hm]
  rw [Nat.pow_add,Nat.mul_right_comm]
 rw [e,tz_mul]
theorem two_tz_dvd (n:Nat):2^tz n∣n:=by
 by_cases h:n=0
 ·subst h;exact Nat.dvd_zero _
 ·obtain ⟨m,hm⟩:=tz_spec h
  exact ⟨_,hm⟩
theorem div_tz_odd {n:Nat} (h:n≠0):n/2^tz n%2=1:=by
 obtain ⟨m,hm⟩:=tz_spec h
 have e:n/2^tz n=2*m+1:=by
  conv=>lhs;arg 1;rw [hm]
  exact Nat.mul_div_cancel_left _ (Nat.two_pow_pos _)
 omega
theorem dvd_iff_le_tz {n:Nat} (h:n≠0) (k:Nat):n%2^k=0 ↔ k≤tz n:=by
 obtain ⟨m,hm⟩:=tz_spec h
 constructor
 ·intro h1
  apply Nat.le_of_not_lt
  intro hlt
  obtain ⟨c,hc⟩:=Nat.dvd_of_mod_eq_zero h1
  have e:2^k=2^tz n*(2*2^(k-tz n-1)):=by
   rw [←Nat.pow_succ',←Nat.pow_add];congr 1;omega
  rw [e,Nat.mul_assoc] at hc
  have:=Nat.eq_of_mul_eq_mul_left (Nat.two_pow_pos _) (hm.symm.trans hc)
  rw [Nat.mul_assoc] at this
  omega
 ·intro h1
  apply Nat.mod_eq_zero_of_dvd
  exact Nat.dvd_trans (Nat.pow_dvd_pow 2 h1) (two_tz_dvd n)
theorem tz_lt_bl {n:Nat} (h:n≠0):tz n<bl n:=by
 refine lt_bl.2 ?_
 exact Nat.le_of_dvd (by omega) (two_tz_dvd n)
end Go.Dy

namespace Go.Dy
def may (l:List Nat):Bool:=decide (l.length≤4096∧dg (val l)=l)
def cmpN (a b:Nat):Int:=if a<b then -1 else if b<a then 1 else 0
def diffI (a b:List Nat):Nat→Int
 |0=> -1
 |n+1=>if a.getD n 0=b.getD n 0 then diffI a b n else n
def okl (l:List Nat):Prop:=l.length≤35184372088832∧digs l
theorem okl_of {l:List Nat} (h:AI.okDig l):okl l:=⟨h.1,h.2⟩
def boundN (ok:Bool) (n:Nat):List Nat×Int:=if ok then (if (dg n).length≤4096 then (dg n,0) else ([],3)) else ([],2)
end Go.Dy
namespace Go.AI
open Go Go.RowKit Go.Proofs
set_option linter.unusedVariables false
def sMay:List AV→Option Spec
 |[.dig [1] l]=>some ⟨none,.bool (Dy.may l)⟩
 |_=>none
def sTrim:List AV→Option Spec
 |[.dig [1] l]=>some ⟨none,.dig [0,1] (Dy.dg (Dy.val l))⟩
 |_=>none
def sCmp:List AV→Option Spec
 |[.dig [1] a,.dig [2] b]=>some ⟨some (Dy.dg (Dy.val a)=a∧Dy.dg (Dy.val b)=b),.num .i64 (Dy.cmpN (Dy.val a) (Dy.val b))⟩
 |_=>none
def sAll:List AV→Option Spec
 |[.vec [1] 1 [.dig [1] a,.dig [1] b]]=>some ⟨none,.bool (Dy.may a&&Dy.may b)⟩
 |_=>none
def sBound:List AV→Option Spec
 |[.dig [1] l]=>some ⟨none,.tup [.dig [0,1] (if l.length≤4096 then l else []),.num .i64 (if l.length≤4096 then 0 else 3)]⟩
 |_=>none
def sAdd32:List AV→Option Spec
 |[.num .u32 x,.num .u32 y,.num .u32 c]=>some ⟨none,.tup [.num .u32 ((x+y+c)%4294967296),.num .u32 ((x+y+c)/4294967296)]⟩
 |_=>none
def sSub32:List AV→Option Spec
 |[.num .u32 x,.num .u32 y,.num .u32 c]=>some ⟨some (c≤1),.tup [.num .u32 ((x-y-c)%4294967296),.num .u32 (if x<y+c then 1 else 0)]⟩
 |_=>none
def sDiv32:List AV→Option Spec
 |[.num .u32 x,.num .u32 y,.num .u32 d]=>some ⟨some (x<d),.tup [.num .u32 ((x*4294967296+y)/d),.num .u32 ((x*4294967296+y)%d)]⟩
 |_=>none
def sLz32:List AV→Option Spec
 |[.num .u32 x]=>some ⟨none,.num .i64 (32-(Lib.bitLen x.toNat:Int))⟩
 |_=>none
def sOf:List AV→Option Spec
 |[.num .u64 n]=>some ⟨none,.dig [0] (Dy.dg n.toNat)⟩
 |_=>none
def sNum:List AV→Option Spec
 |[.dig [1] l]=>some ⟨none,.tup [.num .u64 (if Dy.may l&&decide (l.length≤2) then Dy.val l else 0:Nat),.bool (Dy.may l&&decide (l.length≤2))]⟩
 |_=>none
def tab0:List (Nat×(List AV→Option Spec)):=[(180,sLen32),(198,sTz32)]
def tab1:List (Nat×(List AV→Option Spec)):=(132,sMay)::(172,sTrim)::tab0
def tab2:List (Nat×(List AV→Option Spec)):=(185,sCmp)::(204,sAll)::(214,sBound)::(184,sAdd32)::(220,sSub32)::(215,sDiv32)::(216,sLz32)::(126,sOf)::(173,sNum)::tab1
end Go.AI

namespace Go.AI
open Dy IntKind
open Go Go.RowKit Go.Proofs
set_option linter.unusedVariables false
set_option maxRecDepth 100000
set_option maxHeartbeats 0
theorem vc_nat_May (l:List Nat) (Q:AV→Prop):(evF Tryz.prog (look tab0) (lam []) false Tryz.f132 [.dig [1] l] Q)=(bif decide ((↑l.length:Int)≤(4096:Int)) then bif decide ((↑l.length:Int)=(0:Int)) then Q (.bool true) else ((0:Int)≤i64.wrap ((↑l.length:Int)-(1:Int))∧i64.wrap ((↑l.length:Int)-(1:Int))<(↑l.length:Int))∧Q (.bool !decide ((↑(l.getD (i64.wrap ((↑l.length:Int)-(1:Int))).toNat (0:Nat)):Int)=(0:Int))) else Q (.bool false)):=by kernel_rfl
def lsTrim:List AV→Option LR
 |[.dig [1,2] l]=>some (.need (Dy.okl l) (.done (.exit 0) [.dig [1,2] (Dy.dg (Dy.val l))]))
 |_=>none
def lamTrim:=lam [(1,.spec [(0,.same)] lsTrim)]
theorem vc_nat_trim (l:List Nat) (Q:AV→Prop):(evF Tryz.prog (look tab0) lamTrim true Tryz.f172 [.dig [1] l] Q)=(okl l∧Q (.dig [0,1] (dg (val l)))):=by kernel_rfl
theorem vc_nat_trim_1 (l:List Nat) (K:Exit→List AV→Prop):(evIter Tryz.prog (look tab0) lamTrim (1:Nat) (21:Nat) [((0:Nat),Keep.same)] (bodyN Tryz.f172 (0:Nat)) [.dig [1,2] l] K)=(bif decide ((↑l.length:Int)>(0:Int)) then ((0:Int)≤i64.wrap ((↑l.length:Int)-(1:Int))∧i64.wrap ((↑l.length:Int)-(1:Int))<(↑l.length:Int))∧bif decide ((↑(l.getD (i64.wrap ((↑l.length:Int)-(1:Int))).toNat (0:Nat)):Int)=(0:Int)) then ((0:Int)≤i64.wrap ((↑l.length:Int)-(1:Int))∧i64.wrap ((↑l.length:Int)-(1:Int))≤(↑l.length:Int))∧K Exit.normal [.dig [1,2] (List.take (i64.wrap ((↑l.length:Int)-(1:Int))).toNat l)] else K (Exit.exit (0:Nat)) [.dig [1,2] l] else K (Exit.exit (0:Nat)) [.dig [1,2] l]):=by kernel_rfl
def lsCmp:List AV→Option LR
 |[.dig [1,2,3] a,.dig [1,2,3] b,.num .i64 r,.num .i64 i]=>some (.need (a.length=b.length∧ -1≤i∧i<a.length∧a.length≤2^45) (.test (decide (0≤Dy.diffI a b (i+1).toNat))
 (.done .ret [.dig [1,2,3] a,.dig [1,2,3] b,.num .i64 (if a.getD (Dy.diffI a b (i+1).toNat).toNat 0<b.getD (Dy.diffI a b (i+1).toNat).toNat 0 then -1 else 1),.num .i64 (Dy.diffI a b (i+1).toNat)])
 (.done (.exit 1) [.dig [1,2,3] a,.dig [1,2,3] b,.num .i64 r,.num .i64 (-1)])))
 |_=>none
def lamCmp:=lam [(6,.spec [(0,.same),(1,.same),(4,.same),(5,.same)] lsCmp)]
theorem vc_nat_cmp (a:List Nat) (b:List Nat) (Q:AV→Prop):(evF Tryz.prog (look tab1) lamCmp false Tryz.f185 [.dig [1] a,.dig [2] b] Q)=(bif decide ((↑a.length:Int)<(↑b.length:Int)) then Q (.num .i64 (-1)) else bif decide ((↑a.length:Int)>(↑b.length:Int)) then Q (.num .i64 1) else (a.length=b.length∧(-1:Int)≤i64.wrap ((↑a.length:Int)-(1:Int))∧i64.wrap ((↑a.length:Int)-(1:Int))<(↑a.length:Int)∧a.length≤35184372088832)∧bif decide (0≤diffI a b (i64.wrap ((↑a.length:Int)-(1:Int))+(1:Int)).toNat) then Q (.num .i64 (if a.getD (diffI a b (i64.wrap ((↑a.length:Int)-(1:Int))+(1:Int)).toNat).toNat (0:Nat)<b.getD (diffI a b (i64.wrap ((↑a.length:Int)-(1:Int))+(1:Int)).toNat).toNat (0:Nat) then (-1:Int) else (1:Int))) else Q (.num .i64 0)):=by kernel_rfl
theorem vc_nat_cmp_1 (a:List Nat) (b:List Nat) (i:Int) (r:Int) (K:Exit→List AV→Prop):(evIter Tryz.prog (look tab1) lamCmp (2:Nat) (43:Nat) [((0:Nat),Keep.same),((1:Nat),Keep.same),((4:Nat),Keep.same),((5:Nat),Keep.same)] (bodyN Tryz.f185 (0:Nat)) [.dig [1,2,3] a,.dig [1,2,3] b,.num .i64 r,.num .i64 i] K)=(bif decide (i≥(0:Int)) then (0≤i∧i<(↑a.length:Int))∧(0≤i∧i<(↑b.length:Int))∧bif !decide ((↑(a.getD i.toNat (0:Nat)):Int)=(↑(b.getD i.toNat (0:Nat)):Int)) then (0≤i∧i<(↑a.length:Int))∧(0≤i∧i<(↑b.length:Int))∧bif decide ((↑(a.getD i.toNat (0:Nat)):Int)<(↑(b.getD i.toNat (0:Nat)):Int)) then K Exit.ret [.dig [1,2,3] a,.dig [1,2,3] b,.num .i64 (-1),.num .i64 i] else K Exit.ret [.dig [1,2,3] a,.dig [1,2,3] b,.num .i64 1,.num .i64 i] else K Exit.normal [.dig [1,2,3] a,.dig [1,2,3] b,.num .i64 r,.num .i64 (i64.wrap (i-(1:Int)))] else K (Exit.exit (1:Nat)) [.dig [1,2,3] a,.dig [1,2,3] b,.num .i64 r,.num .i64 i]):=by kernel_rfl
theorem vc_nat_all (a:List Nat) (b:List Nat) (Q:AV→Prop):(evF Tryz.prog (look tab1) (lam [((2:Nat),LoopAnn.unroll (3:Nat))]) false Tryz.f204 [.vec [1] (1:Nat) [.dig [1] a,.dig [1] b]] Q)=(((0:Int)≤(0:Int)∧(0:Int)<(↑[AV.dig [(1:Nat)] a,AV.dig [(1:Nat)] b].length:Int))∧bif !may a then Q (.bool false) else ((0:Int)≤i64.wrap ((0:Int)+(1:Int))∧i64.wrap ((0:Int)+(1:Int))<(↑[AV.dig [(1:Nat)] a,AV.dig [(1:Nat)] b].length:Int))∧bif !may b then Q (.bool false) else Q (.bool true)):=by kernel_rfl
theorem vc_nat_bound (l:List Nat) (Q:AV→Prop):(evF Tryz.prog (look tab1) (lam []) true Tryz.f214 [.dig [1] l] Q)=(bif decide ((↑l.length:Int)>(4096:Int)) then Q (.tup [.dig [0,1] [],.num .i64 3]) else Q (.tup [.dig [0,1] l,.num .i64 0])):=by kernel_rfl
theorem vc_Add32 (x:Int) (y:Int) (c:Int) (Q:AV→Prop):(evF Tryz.prog (look tab1) (lam []) false Tryz.f184 [.num .u32 x,.num .u32 y,.num .u32 c] Q)=(Q (.tup [.num .u32 (u32.wrap (u64.wrap (u64.wrap (u64.wrap x+u64.wrap y)+u64.wrap c))),.num .u32 (u32.wrap ((u64.wrap (u64.wrap (u64.wrap x+u64.wrap y)+u64.wrap c)).fdiv ((2:Int)^(32:Nat))))])):=by kernel_rfl
theorem vc_Sub32 (x:Int) (y:Int) (c:Int) (Q:AV→Prop):(evF Tryz.prog (look tab1) (lam []) false Tryz.f220 [.num .u32 x,.num .u32 y,.num .u32 c] Q)=(Q (.tup [.num .u32 (u32.wrap (u32.wrap (x-y)-c)),.num .u32 ((u32.wrap (↑(BitVec.ofInt (32:Nat) (u32.wrap (↑(BitVec.ofInt (32:Nat) (u32.wrap (↑(BitVec.ofInt (32:Nat) (if u32.signed=true then (-1:Int) else u32.max)^^^BitVec.ofInt (32:Nat) x).toNat:Int))&&&BitVec.ofInt (32:Nat) y).toNat:Int))|||BitVec.ofInt (32:Nat) (u32.wrap (↑(BitVec.ofInt (32:Nat) (u32.wrap (↑(BitVec.ofInt (32:Nat) (if u32.signed=true then (-1:Int) else u32.max)^^^BitVec.ofInt (32:Nat) (u32.wrap (↑(BitVec.ofInt (32:Nat) x^^^BitVec.ofInt (32:Nat) y).toNat:Int))).toNat:Int))&&&BitVec.ofInt (32:Nat) (u32.wrap (u32.wrap (x-y)-c))).toNat:Int))).toNat:Int)).fdiv ((2:Int)^(31:Nat)))])):=by kernel_rfl
theorem vc_Div32 (x:Int) (y:Int) (c:Int) (Q:AV→Prop):(evF Tryz.prog (look tab1) (lam []) false Tryz.f215 [.num .u32 x,.num .u32 y,.num .u32 c] Q)=(bif !decide (c=(0:Int)) then bif decide (c≤x) then False else u64.wrap c≠(0:Int)∧u64.wrap c≠(0:Int)∧Q (.tup [.num .u32 (u32.wrap (u64.wrap ((u64.wrap (↑(BitVec.ofInt (64:Nat) (u64.wrap (u64.wrap x*(2:Int)^(32:Nat)))|||BitVec.ofInt (64:Nat) (u64.wrap y)).toNat:Int)).tdiv (u64.wrap c)))),.num .u32 (u32.wrap ((u64.wrap (↑(BitVec.ofInt (64:Nat) (u64.wrap (u64.wrap x*(2:Int)^(32:Nat)))|||BitVec.ofInt (64:Nat) (u64.wrap y)).toNat:Int)).tmod (u64.wrap c)))]) else u64.wrap c≠(0:Int)∧u64.wrap c≠(0:Int)∧Q (.tup [.num .u32 (u32.wrap (u64.wrap ((u64.wrap (↑(BitVec.ofInt (64:Nat) (u64.wrap (u64.wrap x*(2:Int)^(32:Nat)))|||BitVec.ofInt (64:Nat) (u64.wrap y)).toNat:Int)).tdiv (u64.wrap c)))),.num .u32 (u32.wrap ((u64.wrap (↑(BitVec.ofInt (64:Nat) (u64.wrap (u64.wrap x*(2:Int)^(32:Nat)))|||BitVec.ofInt (64:Nat) (u64.wrap y)).toNat:Int)).tmod (u64.wrap c)))])):=by kernel_rfl
theorem vc_Lz32 (x:Int) (Q:AV→Prop):(evF Tryz.prog (look tab1) (lam []) false Tryz.f216 [.num .u32 x] Q)=(Q (.num .i64 (i64.wrap ((32:Int)-(↑(Lib.bitLen x.toNat):Int))))):=by kernel_rfl
theorem vc_nat_Of (n:Int) (Q:AV→Prop):(evF Tryz.prog (look tab1) (lam []) false Tryz.f126 [.num .u64 n] Q)=(Q (.dig [0] (dg (val [(u32.wrap n).toNat,(u32.wrap (n.fdiv ((2:Int)^(32:Nat)))).toNat])))):=by kernel_rfl
def lsNum:List AV→Option LR
 |[.num .u64 n,.dig [1,2] l,.num .i64 k,.num .i64 i]=>some (.need (k=l.length∧i=0∧n=0∧l.length≤2∧Dy.okl l) (.done (.exit 0) [.num .u64 (Dy.val l),.dig [1,2] l,.num .i64 k,.num .i64 k]))
 |_=>none
def lamNum:=lam [(5,.spec [(4,.same),(15,.same),(16,.same),(17,.same)] lsNum)]
theorem vc_nat_Num (l:List Nat) (Q:AV→Prop):(evF Tryz.prog (look tab1) lamNum false Tryz.f173 [.dig [1] l] Q)=(bif !may l then Q (.tup [.num .u64 0,.bool false]) else bif decide ((↑l.length:Int)>(2:Int)) then Q (.tup [.num .u64 0,.bool false]) else ((↑l.length:Int)=(↑l.length:Int)∧(0:Int)=(0:Int)∧(0:Int)=(0:Int)∧l.length≤2∧okl l)∧Q (.tup [.num .u64 (↑(val l):Int),.bool true])):=by kernel_rfl
theorem vc_nat_Num_1 (l:List Nat) (n:Int) (k:Int) (i:Int) (K:Exit→List AV→Prop):(evIter Tryz.prog (look tab1) lamNum (1:Nat) (31:Nat) [((4:Nat),Keep.same),((15:Nat),Keep.same),((16:Nat),Keep.same),((17:Nat),Keep.same)] (bodyN Tryz.f173 (0:Nat)) [.num .u64 n,.dig [1,2] l,.num .i64 k,.num .i64 i] K)=(bif decide (i<k) then (0≤i∧i<(↑l.length:Int))∧(0:Int)≤i64.wrap ((32:Int)*i)∧K Exit.normal [.num .u64 (u64.wrap (↑(BitVec.ofInt (64:Nat) n|||BitVec.ofInt (64:Nat) (u64.wrap (u64.wrap (↑(l.getD i.toNat (0:Nat)):Int)*(2:Int)^min (i64.wrap ((32:Int)*i)).toNat (64:Nat)))).toNat:Int)),.dig [1,2] l,.num .i64 k,.num .i64 (i64.wrap (i+(1:Int)))] else K (Exit.exit (0:Nat)) [.num .u64 n,.dig [1,2] l,.num .i64 k,.num .i64 i]):=by kernel_rfl
end Go.AI

namespace Go.Dy
theorem okl_take {l:List Nat} (h:okl l) (n:Nat):okl (l.take n):=⟨by rw [List.length_take];have:=h.1;omega,digs_take h.2 n⟩
theorem cmp_diff {a b:List Nat} (ha:digs a) (hb:digs b):∀n,n≤a.length→n≤b.length→
  if diffI a b n<0 then val (a.take n)=val (b.take n) else (a.getD (diffI a b n).toNat 0<b.getD (diffI a b n).toNat 0 ↔ val (a.take n)<val (b.take n))∧val (a.take n)≠val (b.take n)
 |0,_,_=>by simp [diffI]
 |n+1,h1,h2=>by
  have ih:=cmp_diff ha hb n (by omega) (by omega)
  rw [val_take_succ (by omega:n<a.length),val_take_succ (by omega:n<b.length)]
  have la:=val_lt (digs_take ha n)
  have lb:=val_lt (digs_take hb n)
  rw [List.length_take,Nat.min_eq_left (by omega)] at la lb
  unfold diffI
  by_cases e:a.getD n 0=b.getD n 0
  ·rw [if_pos e,e]
   by_cases hd:diffI a b n<0
   ·rw [if_pos hd] at ih ⊢
    rw [ih]
   ·rw [if_neg hd] at ih ⊢
    refine ⟨ih.1.trans ?_,?_⟩
    ·omega
    ·have:=ih.2;omega
  ·rw [if_neg e,if_neg (by omega)]
   simp only [Int.toNat_natCast]
   generalize a.getD n 0=x at e ⊢
   generalize b.getD n 0=y at e ⊢
   generalize val (List.take n a)=u at la ⊢
   generalize val (List.take n b)=v at lb ⊢
   generalize 2^(32*n)=p at la lb ⊢
   rcases Nat.lt_or_gt_of_ne e with h|h
   ·have:p*(x+1)≤p*y:=Nat.mul_le_mul_left _ h
    rw [Nat.mul_add,Nat.mul_one] at this
    exact ⟨⟨fun _=>by omega,fun _=>h⟩,by omega⟩
   ·have:p*(y+1)≤p*x:=Nat.mul_le_mul_left _ h
    rw [Nat.mul_add,Nat.mul_one] at this
    exact ⟨⟨fun _=>by omega,fun _=>by omega⟩,by omega⟩
theorem can_iff {l:List Nat} (h:digs l):dg (val l)=l ↔ (l=[]∨l.getD (l.length-1) 0≠0):=dg_val_iff h
theorem may_iff {l:List Nat}:may l=true ↔ l.length≤4096∧dg (val l)=l:=by simp [may]
end Go.Dy
namespace Go.AI
open Go Go.RowKit Go.Proofs
set_option linter.unusedVariables false
theorem ok_tab0:PhiOk Tryz.prog Inv (look tab0):=look_cons (look_cons look_nil okTz32) okLen32
theorem oks1_dig {p l:List Nat} {r:List AV} (h:AV.oks (.dig p l::r)):Dy.okl l∧AV.oks r:=by
 simp only [AV.oks,AV.ok] at h
 exact ⟨Dy.okl_of h.1,h.2⟩
theorem oks1_num {k:IntKind} {n:Int} {r:List AV} (h:AV.oks (.num k n::r)):(k.min≤n∧n≤k.max)∧AV.oks r:=by
 simp only [AV.oks,AV.ok] at h
 exact h
theorem range_u32 {n:Int} (h:IntKind.u32.min≤n∧n≤IntKind.u32.max):0≤n∧n<4294967296:=by
 simp [IntKind.min,IntKind.max,IntKind.bits,IntKind.signed] at h
 omega
theorem range_u64 {n:Int} (h:IntKind.u64.min≤n∧n≤IntKind.u64.max):0≤n∧n<18446744073709551616:=by
 simp [IntKind.min,IntKind.max,IntKind.bits,IntKind.signed] at h
 omega
theorem range_i64 {n:Int} (h:IntKind.i64.min≤n∧n≤IntKind.i64.max): -9223372036854775808≤n∧n<9223372036854775808:=by
 simp [IntKind.min,IntKind.max,IntKind.bits,IntKind.signed] at h
 omega
theorem ok_nat_May (args:List AV) (s:Spec) (h:sMay args=some s) (hp:andO s.pre True):Contract Tryz.prog Inv 132 args s.res:=by
 unfold sMay at h
 split at h
 ·cases h
  rename_i l
  refine contract0 false ok_tab0 Tryz.func132 (by kernel_rfl) (by kernel_rfl) fun hok=> ?_
  have h0:=(oks1_dig hok).1
  have h1:=h0.1
  have h2:=h0.2
  rw [vc_nat_May]
  by_cases c1:l.length≤4096
  ·refine cond_t (by simp;omega) ?_
   by_cases c2:l=[]
   ·subst c2
    exact cond_t rfl (by simp [Dy.may,Dy.val,Dy.dg_zero])
   ·have hl:=List.length_pos_iff.2 c2
    refine cond_f (by simp;omega) ?_
    rw [wrap_i64 (by omega) (by omega),show ((l.length:Int)-1).toNat=l.length-1 by omega]
    refine ⟨by omega,?_⟩
    have e:Dy.may l= !decide (((l.getD (l.length-1) 0:Nat):Int)=0):=by
     rw [Bool.eq_iff_iff,Dy.may_iff,Dy.can_iff h2]
     simp only [Bool.not_eq_true',decide_eq_false_iff_not]
     constructor
     ·rintro ⟨_,h|h⟩
      ·exact absurd h c2
      ·omega
     ·intro h;exact ⟨c1,.inr (by omega)⟩
    rw [e]
  ·refine cond_f (by simp;omega) ?_
   have e:Dy.may l=false:=by simp only [Dy.may,decide_eq_false_iff_not];omega
   rw [e]
 ·cases h
theorem loop_nat_trim:LoopOk Tryz.prog (look tab0) lamTrim 1 21 [(0,.same)] (bodyN Tryz.f172 0) lsTrim:=by
 intro vals r h K hK
 unfold lsTrim at h
 split at h
 ·cases h
  rename_i l
  simp only [evLR] at hK
  obtain ⟨hl,hK⟩:=hK
  generalize hn:l.length=n
  induction n generalizing l with
  |zero=>
   have:l=[]:=List.length_eq_zero_iff.1 hn
   subst this
   refine iterN_last ?_
   rw [vc_nat_trim_1]
   refine cond_f rfl ?_
   rw [show Dy.dg (Dy.val [])=[] from Dy.dg_zero] at hK
   exact hK
  |succ n ih=>
   have hb:=hl.1
   by_cases c:l.getD n 0=0
   ·have e0:((l.length:Int)-1).toNat=l.length-1:=by omega
    have hw:IntKind.i64.wrap ((l.length:Int)-1)=(l.length:Int)-1:=wrap_i64 (by omega) (by omega)
    have hv:Dy.val (l.take (l.length-1))=Dy.val l:=Dy.val_drop_last (fun e=>by subst e;simp at hn) (by rw [hn];exact c)
    obtain ⟨m,hm⟩:=ih (l.take (l.length-1)) (Dy.okl_take hl _) (by rw [hv];exact hK) (by rw [List.length_take];omega)
    refine iterN_next m ?_
    rw [vc_nat_trim_1,hw,e0]
    refine cond_t (by simp;omega) ⟨by omega,cond_t (by rw [show l.length-1=n by omega];simp;exact c) ⟨by omega,hm⟩⟩
   ·refine iterN_last ?_
    have e0:((l.length:Int)-1).toNat=l.length-1:=by omega
    have hw:IntKind.i64.wrap ((l.length:Int)-1)=(l.length:Int)-1:=wrap_i64 (by omega) (by omega)
    rw [vc_nat_trim_1,hw,e0]
    refine cond_t (by simp;omega) ⟨by omega,cond_f (decide_eq_false (by rw [show l.length-1=n by omega];omega)) ?_⟩
    have:=(Dy.can_iff hl.2).2 (.inr (by rw [hn];exact c))
    rw [this] at hK
    exact hK
 ·cases h
theorem ok_nat_trim (args:List AV) (s:Spec) (h:sTrim args=some s) (hp:andO s.pre True):Contract Tryz.prog Inv 172 args s.res:=by
 unfold sTrim at h
 split at h
 ·cases h
  rename_i l
  refine contract_at true 21 lamTrim ok_tab0 Tryz.func172 (by kernel_rfl) rfl (loops1 (by kernel_rfl) (by kernel_rfl) loop_nat_trim) fun hok=> ?_
  obtain ⟨h1, -⟩:=oks1_dig hok
  rw [vc_nat_trim]
  exact ⟨h1,rfl⟩
 ·cases h
theorem ok_tab1:PhiOk Tryz.prog Inv (look tab1):=look_cons (look_cons ok_tab0 ok_nat_trim) ok_nat_May
theorem loop_nat_cmp:LoopOk Tryz.prog (look tab1) lamCmp 2 43 [(0,.same),(1,.same),(4,.same),(5,.same)] (bodyN Tryz.f185 0) lsCmp:=by
 intro vals r h K hK
 unfold lsCmp at h
 split at h
 ·cases h
  rename_i a b r i
  simp only [evLR] at hK
  obtain ⟨⟨hl,h1,h2,h3⟩,hK⟩:=hK
  generalize hn:(i+1).toNat=n at hK
  induction n generalizing i with
  |zero=>
   have:i= -1:=by omega
   subst this
   refine iterN_last ?_
   rw [vc_nat_cmp_1]
   refine cond_f rfl ?_
   simpa [Dy.diffI] using hK
  |succ n ih=>
   have hi:i=n:=by omega
   subst hi
   by_cases c:a.getD n 0=b.getD n 0
   ·have e:Dy.diffI a b (n+1)=Dy.diffI a b n:=by rw [Dy.diffI,if_pos c]
    rw [e] at hK
    obtain ⟨m,hm⟩:=ih ((n:Int)-1) (by omega) (by omega) (by omega) hK
    refine iterN_next m ?_
    rw [vc_nat_cmp_1]
    refine cond_t (decide_eq_true (by omega)) ⟨by omega,by omega,cond_f ?_ ?_⟩
    ·rw [show ((n:Int)).toNat=n from rfl,c];simp
    ·rw [wrap_i64 (by omega) (by omega)];exact hm
   ·have e:Dy.diffI a b (n+1)=n:=by rw [Dy.diffI,if_neg c]
    rw [e,decide_eq_true (by omega:(0:Int)≤(n:Int))] at hK
    simp only [cond_true,Int.toNat_natCast] at hK
    refine iterN_last ?_
    rw [vc_nat_cmp_1]
    refine cond_t (decide_eq_true (by omega)) ⟨by omega,by omega,cond_t ?_ ⟨by omega,by omega,cond_i (fun h=> ?_) (fun h=> ?_)⟩⟩
    ·rw [show ((n:Int)).toNat=n from rfl,decide_eq_false (by omega)];rfl
    ·rw [if_pos (by have:=of_decide_eq_true h;rw [show ((n:Int)).toNat=n from rfl] at this;omega)] at hK;exact hK
    ·rw [if_neg (by have:=of_decide_eq_false h;rw [show ((n:Int)).toNat=n from rfl] at this;omega)] at hK;exact hK
 ·cases h
theorem ok_nat_cmp (args:List AV) (s:Spec) (h:sCmp args=some s) (hp:andO s.pre True):Contract Tryz.prog Inv 185 args s.res:=by
 unfold sCmp at h
 split at h
 ·cases h
  rename_i a b
  obtain ⟨⟨ca,cb⟩, -⟩:=hp
  refine contract_at false 43 lamCmp ok_tab1 Tryz.func185 (by kernel_rfl) rfl (loops1 (by kernel_rfl) (by kernel_rfl) loop_nat_cmp) fun hok=> ?_
  have ha:=(oks1_dig hok).1
  have hb:=(oks1_dig (oks1_dig hok).2).1
  have ha1:=ha.1
  rw [vc_nat_cmp]
  refine cond_i (fun h=> ?_) (fun h=>cond_i (fun h'=> ?_) (fun h'=> ?_))
  ·have h:=of_decide_eq_true h
   have:= @Dy.lt_of_length_lt (Dy.val a) (Dy.val b) (by rw [ca,cb];omega)
   simp only [Dy.cmpN,if_pos this]
  ·have h':=of_decide_eq_true h'
   have:= @Dy.lt_of_length_lt (Dy.val b) (Dy.val a) (by rw [ca,cb];omega)
   simp only [Dy.cmpN,if_pos this,if_neg (Nat.lt_asymm this)]
  ·have h:=of_decide_eq_false h
   have h':=of_decide_eq_false h'
   have hl:a.length=b.length:=by omega
   rw [wrap_i64 (by omega) (by omega),show ((a.length:Int)-1+1).toNat=a.length by omega]
   have key:=Dy.cmp_diff ha.2 hb.2 a.length (Nat.le_refl _) (by omega)
   rw [List.take_length,hl,List.take_length] at key
   refine ⟨by omega,cond_i (fun h0=> ?_) (fun h0=> ?_)⟩
   ·have h0:=of_decide_eq_true h0
    rw [hl] at h0 ⊢
    rw [if_neg (by omega)] at key
    by_cases c:a.getD (Dy.diffI a b b.length).toNat 0<b.getD (Dy.diffI a b b.length).toNat 0
    ·rw [if_pos c]
     simp only [Dy.cmpN,if_pos (key.1.1 c)]
    ·have h1:¬Dy.val a<Dy.val b:=fun h=>c (key.1.2 h)
     rw [if_neg c]
     simp only [Dy.cmpN,if_neg h1,if_pos (by omega:Dy.val b<Dy.val a)]
   ·have h0:=of_decide_eq_false h0
    rw [hl] at h0
    rw [if_pos (by omega)] at key
    simp [Dy.cmpN,key]
 ·cases h
theorem ok_nat_all (args:List AV) (s:Spec) (h:sAll args=some s) (hp:andO s.pre True):Contract Tryz.prog Inv 204 args s.res:=by
 unfold sAll at h
 split at h
 ·cases h
  rename_i a b
  refine contract_at false 15 (lam [(2,.unroll 3)]) ok_tab1 Tryz.func204 (by kernel_rfl) rfl (loops1u (k:=3) (by kernel_rfl) (by kernel_rfl)) fun hok=> ?_
  rw [vc_nat_all]
  refine ⟨by simp,cond_i (fun h=> ?_) (fun h=>⟨by rw [wrap_i64 (by omega) (by omega)];simp,cond_i (fun h'=> ?_) (fun h'=> ?_)⟩)⟩
  ·simp at h;rw [h];rfl
  ·simp at h h';rw [h,h'];rfl
  ·simp at h h';rw [h,h'];rfl
 ·cases h
theorem ok_nat_bound (args:List AV) (s:Spec) (h:sBound args=some s) (hp:andO s.pre True):Contract Tryz.prog Inv 214 args s.res:=by
 unfold sBound at h
 split at h
 ·cases h
  rename_i l
  refine contract0 true ok_tab1 Tryz.func214 (by kernel_rfl) (by kernel_rfl) fun hok=> ?_
  rw [vc_nat_bound]
  refine cond_i (fun h=> ?_) (fun h=> ?_)
  ·have h:=of_decide_eq_true h
   simp only [if_neg (show¬l.length≤4096 by omega)]
  ·have h:=of_decide_eq_false h
   simp only [if_pos (show l.length≤4096 by omega)]
 ·cases h
theorem ofInt_toNat {n:Nat} {x:Int} (h0:0≤x) (h1:x<2^n):(BitVec.ofInt n x).toNat=x.toNat:=by
 obtain ⟨k,rfl⟩:=Int.eq_ofNat_of_zero_le h0
 rw [BitVec.ofInt_natCast,BitVec.toNat_ofNat]
 refine Nat.mod_eq_of_lt ?_
 rw [show ((2:Int)^n)=((2^n:Nat):Int) by simp] at h1
 exact Int.ofNat_lt.1 h1
theorem w32_or {x y:Int} (h0:0≤x) (h1:x<4294967296) (h2:0≤y) (h3:y<4294967296):IntKind.u32.wrap ((BitVec.ofInt 32 x|||BitVec.ofInt 32 y).toNat:Int)=((x.toNat|||y.toNat:Nat):Int):=by
 rw [BitVec.toNat_or,ofInt_toNat h0 h1,ofInt_toNat h2 h3,wrap_u32]
 have:x.toNat|||y.toNat<2^32:=Nat.or_lt_two_pow (by omega) (by omega)
 omega
theorem w32_and {x y:Int} (h0:0≤x) (h1:x<4294967296) (h2:0≤y) (h3:y<4294967296):IntKind.u32.wrap ((BitVec.ofInt 32 x&&&BitVec.ofInt 32 y).toNat:Int)=((x.toNat&&&y.toNat:Nat):Int):=by
 rw [BitVec.toNat_and,ofInt_toNat h0 h1,ofInt_toNat h2 h3,wrap_u32]
 have:x.toNat&&&y.toNat<2^32:=Nat.and_lt_two_pow _ (by omega)
 omega
theorem w32_xor {x y:Int} (h0:0≤x) (h1:x<4294967296) (h2:0≤y) (h3:y<4294967296):IntKind.u32.wrap ((BitVec.ofInt 32 x^^^BitVec.ofInt 32 y).toNat:Int)=((x.toNat^^^y.toNat:Nat):Int):=by
 rw [BitVec.toNat_xor,ofInt_toNat h0 h1,ofInt_toNat h2 h3,wrap_u32]
 have:x.toNat^^^y.toNat<2^32:=Nat.xor_lt_two_pow (by omega) (by omega)
 omega
theorem w64_or {x y:Int} (h0:0≤x) (h1:x<18446744073709551616) (h2:0≤y) (h3:y<18446744073709551616):IntKind.u64.wrap ((BitVec.ofInt 64 x|||BitVec.ofInt 64 y).toNat:Int)=((x.toNat|||y.toNat:Nat):Int):=by
 rw [BitVec.toNat_or,ofInt_toNat h0 h1,ofInt_toNat h2 h3,wrap_u64]
 have:x.toNat|||y.toNat<2^64:=Nat.or_lt_two_pow (by omega) (by omega)
 omega
theorem or_low {a b k:Nat} (h:b<2^k):a*2^k|||b=a*2^k+b:=by
 rw [Nat.mul_comm,←Nat.two_pow_add_eq_or_of_lt h]
theorem fdiv_pow {x:Int} (h:0≤x) (k:Nat):x.fdiv (2^k)=((x.toNat/2^k:Nat):Int):=by
 obtain ⟨m,rfl⟩:=Int.eq_ofNat_of_zero_le h
 rw [Int.fdiv_eq_ediv_of_nonneg _ (by exact_mod_cast Nat.zero_le (2^k))]
 simp
theorem bit31 {x:Nat} (h:x<4294967296):x.testBit 31=decide (2147483648≤x):=by
 rw [Nat.testBit_eq_decide_div_mod_eq]
 rw [show (2:Nat)^31=2147483648 from rfl]
 congr 1
 apply propext
 omega
theorem div31 {x:Nat} (h:x<4294967296):x/2^31=if x.testBit 31 then 1 else 0:=by
 rw [bit31 h,show (2:Nat)^31=2147483648 from rfl]
 split
 ·rename_i h1;have:=of_decide_eq_true h1;omega
 ·rename_i h1;simp at h1;omega
theorem ok_Add32 (args:List AV) (s:Spec) (h:sAdd32 args=some s) (hp:andO s.pre True):Contract Tryz.prog Inv 184 args s.res:=by
 unfold sAdd32 at h
 split at h
 ·cases h
  rename_i x y c
  refine contract0 false ok_tab1 Tryz.func184 (by kernel_rfl) (by kernel_rfl) fun hok=> ?_
  have hx:=range_u32 (oks1_num hok).1
  have hy:=range_u32 (oks1_num (oks1_num hok).2).1
  have hc:=range_u32 (oks1_num (oks1_num (oks1_num hok).2).2).1
  rw [vc_Add32]
  rw [fdiv_pow (by rw [wrap_u64];omega)]
  simp only [wrap_u32,wrap_u64]
  congr 4
  ·omega
  ·congr 1;omega
 ·cases h
theorem ok_Sub32 (args:List AV) (s:Spec) (h:sSub32 args=some s) (hp:andO s.pre True):Contract Tryz.prog Inv 220 args s.res:=by
 unfold sSub32 at h
 split at h
 ·cases h
  rename_i x y c
  refine contract0 false ok_tab1 Tryz.func220 (by kernel_rfl) (by kernel_rfl) fun hok=> ?_
  have hx:=range_u32 (oks1_num hok).1
  have hy:=range_u32 (oks1_num (oks1_num hok).2).1
  have hc:=range_u32 (oks1_num (oks1_num (oks1_num hok).2).2).1
  have hc1:c≤1:=hp.1
  rw [vc_Sub32]
  have hd:IntKind.u32.wrap (IntKind.u32.wrap (x-y)-c)=(x-y-c)%4294967296:=by simp only [wrap_u32];omega
  rw [hd]
  have hd0:0≤(x-y-c)%4294967296∧(x-y-c)%4294967296<4294967296:=by omega
  generalize hdd:(x-y-c)%4294967296=d at hd0 ⊢
  have hm:(if IntKind.u32.signed=true then (-1:Int) else IntKind.u32.max)=4294967295:=by decide
  rw [hm]
  obtain ⟨X,rfl⟩:=Int.eq_ofNat_of_zero_le hx.1
  obtain ⟨Y,rfl⟩:=Int.eq_ofNat_of_zero_le hy.1
  obtain ⟨D,rfl⟩:=Int.eq_ofNat_of_zero_le hd0.1
  have hX:X<4294967296:=by omega
  have hY:Y<4294967296:=by omega
  have hD:D<4294967296:=by omega
  have m0:(4294967295:Nat)<2^32:=by decide
  have l1:4294967295^^^X<2^32:=Nat.xor_lt_two_pow m0 hX
  have l2:X^^^Y<2^32:=Nat.xor_lt_two_pow hX hY
  have l3:4294967295^^^(X^^^Y)<2^32:=Nat.xor_lt_two_pow m0 l2
  have l4:(4294967295^^^X)&&&Y<2^32:=Nat.and_lt_two_pow _ hY
  have l5:(4294967295^^^(X^^^Y))&&&D<2^32:=Nat.and_lt_two_pow _ hD
  have l6:(4294967295^^^X)&&&Y|||(4294967295^^^(X^^^Y))&&&D<2^32:=Nat.or_lt_two_pow l4 l5
  rw [w32_xor (by omega) (by omega) (by omega) (by omega),w32_xor (x:=(X:Int)) (y:=(Y:Int)) (by omega) (by omega) (by omega) (by omega)]
  simp only [Int.toNat_natCast,show (4294967295:Int).toNat=4294967295 from rfl]
  rw [w32_xor (by omega) (by omega) (by omega) (by omega)]
  simp only [Int.toNat_natCast,show (4294967295:Int).toNat=4294967295 from rfl]
  rw [w32_and (by omega) (by omega) (by omega) (by omega),w32_and (by omega) (by omega) (by omega) (by omega)]
  simp only [Int.toNat_natCast]
  rw [w32_or (by omega) (by omega) (by omega) (by omega)]
  simp only [Int.toNat_natCast]
  rw [fdiv_pow (by omega)]
  simp only [Int.toNat_natCast]
  rw [div31 l6]
  simp only [Nat.testBit_or,Nat.testBit_and,Nat.testBit_xor,bit31 hX,bit31 hY,bit31 hD,show Nat.testBit 4294967295 31=true by decide]
  have key:(if (((true^^decide (2147483648≤X))&&decide (2147483648≤Y))||((true^^(decide (2147483648≤X)^^decide (2147483648≤Y)))&&decide (2147483648≤D)))=true then 1 else 0:Nat)=if (X:Int)<(Y:Int)+c then 1 else 0:=by
   by_cases a1:2147483648≤X<;>by_cases a2:2147483648≤Y<;>by_cases a3:2147483648≤D<;>simp [a1,a2,a3]<;>omega
  rw [key]
  split<;>rfl
 ·cases h
theorem ok_Div32 (args:List AV) (s:Spec) (h:sDiv32 args=some s) (hp:andO s.pre True):Contract Tryz.prog Inv 215 args s.res:=by
 unfold sDiv32 at h
 split at h
 ·cases h
  rename_i x y c
  refine contract0 false ok_tab1 Tryz.func215 (by kernel_rfl) (by kernel_rfl) fun hok=> ?_
  have hx:=range_u32 (oks1_num hok).1
  have hy:=range_u32 (oks1_num (oks1_num hok).2).1
  have hc:=range_u32 (oks1_num (oks1_num (oks1_num hok).2).2).1
  have hxc:x<c:=hp.1
  rw [vc_Div32]
  refine cond_t (by rw [decide_eq_false (by omega)];rfl) (cond_f (decide_eq_false (by omega)) ?_)
  have e1:IntKind.u64.wrap c=c:=by rw [wrap_u64];omega
  have e2:IntKind.u64.wrap (IntKind.u64.wrap x*2^32)=x*4294967296:=by simp only [wrap_u64];omega
  have e3:IntKind.u64.wrap y=y:=by rw [wrap_u64];omega
  rw [e1,e2,e3,w64_or (by omega) (by omega) (by omega) (by omega)]
  refine ⟨by omega,by omega,?_⟩
  have e4:(x*4294967296).toNat|||y.toNat=x.toNat*2^32+y.toNat:=by
   rw [←or_low (show y.toNat<2^32 by omega)]
   congr 1
   omega
  rw [e4]
  obtain ⟨X,rfl⟩:=Int.eq_ofNat_of_zero_le hx.1
  obtain ⟨Y,rfl⟩:=Int.eq_ofNat_of_zero_le hy.1
  obtain ⟨C,rfl⟩:=Int.eq_ofNat_of_zero_le hc.1
  simp only [Int.toNat_natCast]
  have e5:(X*2^32+Y)/C<4294967296:=by
   rw [Nat.div_lt_iff_lt_mul (by omega)]
   have:(X+1)*4294967296≤C*4294967296:=Nat.mul_le_mul_right _ (by omega)
   rw [Nat.mul_comm 4294967296 C]
   omega
  have e6:(X*2^32+Y)%C<C:=Nat.mod_lt _ (by omega)
  have e7:((X:Int)*4294967296+Y)=((X*2^32+Y:Nat):Int):=by omega
  rw [←Int.ofNat_tdiv,←Int.ofNat_tmod,e7,←Int.natCast_ediv,←Int.natCast_emod]
  generalize (X*2^32+Y)/C=q at e5 ⊢
  generalize (X*2^32+Y)%C=r at e6 ⊢
  have e8:IntKind.u32.wrap (IntKind.u64.wrap (q:Int))=q:=by rw [wrap_u32,wrap_u64];omega
  have e9:IntKind.u32.wrap (r:Int)=r:=by rw [wrap_u32];omega
  rw [e8,e9]
 ·cases h
theorem ok_Lz32 (args:List AV) (s:Spec) (h:sLz32 args=some s) (hp:andO s.pre True):Contract Tryz.prog Inv 216 args s.res:=by
 unfold sLz32 at h
 split at h
 ·cases h
  rename_i x
  refine contract0 false ok_tab1 Tryz.func216 (by kernel_rfl) (by kernel_rfl) fun hok=> ?_
  have hx:=range_u32 (oks1_num hok).1
  rw [vc_Lz32]
  have:=Lib.bitLen_le x.toNat 32 (by omega) (by omega)
  rw [wrap_i64 (by omega) (by omega)]
 ·cases h
theorem ok_nat_Of (args:List AV) (s:Spec) (h:sOf args=some s) (hp:andO s.pre True):Contract Tryz.prog Inv 126 args s.res:=by
 unfold sOf at h
 split at h
 ·cases h
  rename_i n
  refine contract0 false ok_tab1 Tryz.func126 (by kernel_rfl) (by kernel_rfl) fun hok=> ?_
  have hn:=range_u64 (oks1_num hok).1
  rw [vc_nat_Of]
  rw [fdiv_pow hn.1]
  simp only [wrap_u32,Dy.val]
  congr 2
  omega
 ·cases h
theorem loop_nat_Num:LoopOk Tryz.prog (look tab1) lamNum 1 31 [(4,.same),(15,.same),(16,.same),(17,.same)] (bodyN Tryz.f173 0) lsNum:=by
 intro vals r h K hK
 unfold lsNum at h
 split at h
 ·cases h
  rename_i n l k i
  simp only [evLR] at hK
  obtain ⟨⟨rfl,rfl,rfl,hl,hd⟩,hK⟩:=hK
  have key:∀u j:Nat,l.length=u+j→∃m,iterN Tryz.prog (look tab1) lamNum 1 31 [(4,.same),(15,.same),(16,.same),(17,.same)] (bodyN Tryz.f173 0) m [.num .u64 (Dy.val (l.take j)),.dig [1,2] l,.num .i64 l.length,.num .i64 j] K:=by
   intro u
   induction u with
   |zero=>
    intro j hj
    refine iterN_last ?_
    rw [vc_nat_Num_1]
    refine cond_f (decide_eq_false (by omega)) ?_
    rw [List.take_of_length_le (by omega)]
    have:(j:Int)=(l.length:Int):=by omega
    rw [this]
    exact hK
   |succ u ih=>
    intro j hj
    obtain ⟨m,hm⟩:=ih (j+1) (by omega)
    refine iterN_next m ?_
    rw [vc_nat_Num_1]
    have hx:=Dy.digs_getD hd.2 j
    have hv:=Dy.val_lt (Dy.digs_take hd.2 j)
    rw [List.length_take,Nat.min_eq_left (by omega)] at hv
    have hj2:j=0∨j=1:=by omega
    have hs:Dy.val (l.take (j+1))=Dy.val (l.take j)+2^(32*j)*l.getD j 0:=Dy.val_take_succ (by omega)
    have hp:2^(32*j)≤4294967296:=by rcases hj2 with h|h<;>subst h<;>decide
    refine cond_t (decide_eq_true (by omega)) ⟨by omega,by rw [wrap_i64 (by omega) (by omega)];omega,?_⟩
    rw [wrap_i64 (by omega) (by omega),wrap_i64 (by omega) (by omega)]
    have e1:((32*(j:Int)).toNat)=32*j:=by omega
    have e2:IntKind.u64.wrap (IntKind.u64.wrap ((l.getD (j:Int).toNat 0:Nat):Int)*2^min (32*(j:Int)).toNat 64)=((2^(32*j)*l.getD j 0:Nat):Int):=by
     rw [e1,Nat.min_eq_left (by omega),Int.toNat_natCast,wrap_u64,wrap_u64]
     rcases hj2 with h|h<;>subst h<;>omega
    have hm0:2^(32*j)*l.getD j 0<18446744073709551616:=by rcases hj2 with h|h<;>subst h<;>omega
    rw [e2,w64_or (by omega) (by omega) (by omega) (by omega),Int.toNat_natCast,Int.toNat_natCast,Nat.or_comm,Nat.mul_comm,or_low hv,Nat.mul_comm,Nat.add_comm,←hs]
    exact hm
  exact key l.length 0 (by omega)
 ·cases h
theorem ok_nat_Num (args:List AV) (s:Spec) (h:sNum args=some s) (hp:andO s.pre True):Contract Tryz.prog Inv 173 args s.res:=by
 unfold sNum at h
 split at h
 ·cases h
  rename_i l
  refine contract_at false 31 lamNum ok_tab1 Tryz.func173 (by kernel_rfl) rfl (loops1 (by kernel_rfl) (by kernel_rfl) loop_nat_Num) fun hok=> ?_
  have hl:=(oks1_dig hok).1
  rw [vc_nat_Num]
  refine cond_i (fun h=> ?_) (fun h=>cond_i (fun h'=> ?_) (fun h'=>⟨?_,?_⟩))
  ·simp at h;rw [h];rfl
  ·have h':=of_decide_eq_true h'
   simp only [decide_eq_false (show¬l.length≤2 by omega),Bool.and_false]
   rfl
  ·have h':=of_decide_eq_false h'
   exact ⟨rfl,rfl,rfl,by omega,hl⟩
  ·have h':=of_decide_eq_false h'
   simp only [Bool.not_eq_false'] at h
   rw [h,decide_eq_true (show l.length≤2 by omega)]
   rfl
 ·cases h
theorem ok_tab2:PhiOk Tryz.prog Inv (look tab2):=
 look_cons (look_cons (look_cons (look_cons (look_cons (look_cons (look_cons (look_cons (look_cons ok_tab1 ok_nat_Num) ok_nat_Of) ok_Lz32) ok_Div32) ok_Sub32) ok_Add32) ok_nat_bound) ok_nat_all) ok_nat_cmp
end Go.AI

namespace Go.Dy
def dgN:Nat→Nat→List Nat
 |0,_=>[]
 |n+1,v=>v%4294967296::dgN n (v/4294967296)
theorem dgN_length:∀n v,(dgN n v).length=n
 |0,_=>rfl
 |n+1,v=>by simp [dgN,dgN_length n]
theorem digs_dgN:∀n v,digs (dgN n v)
 |0,_=>digs_nil
 |n+1,v=>by unfold dgN;exact digs_cons.2 ⟨by omega,digs_dgN n _⟩
theorem val_dgN:∀n v,val (dgN n v)=v%2^(32*n)
 |0,v=>by simp [dgN,val];omega
 |n+1,v=>by
  unfold dgN
  simp only [val]
  rw [val_dgN n,show 32*(n+1)=32+32*n by omega,Nat.pow_add,Nat.mod_mul]
theorem dgN_val:∀{l:List Nat},digs l→dgN l.length (val l)=l
 |[],_=>rfl
 |d::l,h=>by
  have ⟨h1,h2⟩:=digs_cons.1 h
  simp only [List.length_cons,dgN,val]
  rw [show (d+4294967296*val l)%4294967296=d by omega,show (d+4294967296*val l)/4294967296=val l by omega,dgN_val h2]
theorem dgN_val' {l:List Nat} (h:digs l) {n:Nat} (hn:l.length=n):dgN n (val l)=l:=by subst hn;exact dgN_val h
theorem ext_val {l m:List Nat} (hl:digs l) (hm:digs m) (hlen:l.length=m.length) (hv:val l=val m):l=m:=by
 rw [←dgN_val hl,←dgN_val hm,hlen,hv]
theorem dgN_succ (n v:Nat):dgN (n+1) v=dgN n v++[v/2^(32*n)%4294967296]:=by
 refine ext_val (digs_dgN _ _) (digs_append.2 ⟨digs_dgN _ _,digs_cons.2 ⟨by omega,digs_nil⟩⟩) (by simp [dgN_length]) ?_
 rw [val_dgN,val_snoc,val_dgN,dgN_length,show 32*(n+1)=32*n+32 by omega,Nat.pow_add,Nat.mod_mul]
theorem dg_val_dgN {n v:Nat} (h:v<2^(32*n)):dg (val (dgN n v))=dg v:=by rw [val_dgN,Nat.mod_eq_of_lt h]
theorem getD_append_right {a b:List Nat} {i:Nat} (h:a.length≤i):(a++b).getD i 0=b.getD (i-a.length) 0:=by
 simp [List.getD_eq_getElem?_getD,List.getElem?_append_right h]
theorem take_set_succ {l:List Nat} {i d:Nat} (hi:i<l.length):(l.set i d).take (i+1)=l.take i++[d]:=by
 rw [List.take_set,List.take_succ_eq_append_getElem hi,List.set_append]
 simp [Nat.min_eq_left (Nat.le_of_lt hi)]
theorem val_take_set_succ {l:List Nat} {i d:Nat} (hi:i<l.length):val ((l.set i d).take (i+1))=val (l.take i)+2^(32*i)*d:=by
 rw [take_set_succ hi,val_snoc,List.length_take,Nat.min_eq_left (by omega)]
theorem drop_set_succ {l:List Nat} {i d:Nat}:(l.set i d).drop (i+1)=l.drop (i+1):=by
 rw [List.drop_set,if_pos (by omega)]
theorem pow_split (i:Nat):2^(32*(i+1))=2^(32*i)*4294967296:=by
 rw [show 32*(i+1)=32*i+32 by omega,Nat.pow_add]
theorem val_drop_step (l:List Nat) (i:Nat):val (l.drop i)=l.getD i 0+4294967296*val (l.drop (i+1)):=by
 by_cases h:i<l.length
 ·exact val_drop_at h
 ·rw [List.drop_of_length_le (by omega),List.drop_of_length_le (by omega),List.getD_eq_getElem?_getD,List.getElem?_eq_none (by omega)]
  rfl
theorem bitLen_eq {x:Nat} (h:x<2^64):Lib.bitLen x=bl x:=by
 by_cases h0:x=0
 ·subst h0;rfl
 ·have hk:=bl_pos.2 h0
  have h1:=two_bl_le h0
  have h2:=lt_two_bl x
  have h3:=bl_le.2 h
  have e:=Lib.bitLen_shift (bl x-1) x h1 h
  have hone:x/2^(bl x-1)=1:=by
   have hp:=Nat.two_pow_pos (bl x-1)
   apply Nat.le_antisymm
   ·have:x/2^(bl x-1)<2:=by
     rw [Nat.div_lt_iff_lt_mul hp,←Nat.pow_succ',show (bl x-1).succ=bl x by omega]
     exact h2
    omega
   ·exact (Nat.le_div_iff_mul_le hp).2 (by omega)
  rw [hone,show Lib.bitLen 1=1 by decide+kernel] at e
  omega
theorem ctz_eq {x:Nat} (h0:x≠0) (h:x<2^32):Lib.ctz 32 x=tz x:=by
 unfold Lib.ctz
 rw [if_neg h0]
 obtain ⟨m,hm,_⟩:=Lib.ctzFrom_spec 32 x (by omega) h
 conv=>rhs;rw [hm]
 rw [tz_mul]
theorem bl_digits {l:List Nat} (h:digs l) (hne:l≠[]) (ht:l.getD (l.length-1) 0≠0):bl (val l)=32*(l.length-1)+bl (l.getD (l.length-1) 0):=by
 have hl:=List.length_pos_iff.2 hne
 have e:=val_take_drop l (l.length-1) (by omega)
 have e2:=val_drop_step l (l.length-1)
 rw [show l.length-1+1=l.length by omega,List.drop_length] at e2
 have hv:=val_lt (digs_take h (l.length-1))
 rw [List.length_take,Nat.min_eq_left (by omega)] at hv
 have hx:=digs_getD h (l.length-1)
 generalize l.getD (l.length-1) 0=x at ht e2 hx ⊢
 have hb:=bl_pos.2 ht
 have h1:=two_bl_le ht
 have h2:=lt_two_bl x
 have hp:=Nat.two_pow_pos (32*(l.length-1))
 rw [e,e2]
 simp only [val,Nat.mul_zero,Nat.add_zero]
 rw [show 32*(l.length-1)+bl x=(32*(l.length-1)+(bl x-1))+1 by omega]
 refine bl_eq ?_ ?_
 ·rw [Nat.pow_add]
  exact Nat.le_trans (Nat.mul_le_mul_left _ h1) (Nat.le_add_left _ _)
 ·rw [show 32*(l.length-1)+(bl x-1)+1=32*(l.length-1)+bl x by omega,Nat.pow_add]
  have h3:2^(32*(l.length-1))*(x+1)≤2^(32*(l.length-1))*2^bl x:=Nat.mul_le_mul_left _ h2
  rw [Nat.mul_add,Nat.mul_one] at h3
  omega
theorem tz_digits {l:List Nat} {i:Nat} (h0:val (l.take i)=0) (hi:i≤l.length) (hx:l.getD i 0≠0) (hlt:l.getD i 0<4294967296):tz (val l)=32*i+tz (l.getD i 0):=by
 have e:=val_take_drop l i hi
 rw [h0,Nat.zero_add,val_drop_step] at e
 generalize l.getD i 0=x at hx hlt e ⊢
 obtain ⟨m,hm⟩:=tz_spec hx
 have ht:tz x<32:=by
  have:=tz_lt_bl hx
  have:=(bl_le (n:=x) (k:=32)).2 hlt
  omega
 generalize val (l.drop (i+1))=r at e
 have e2:x+4294967296*r=2^tz x*(2*(m+2^(31-tz x)*r)+1):=by
  have e3:4294967296*r=2^tz x*(2*(2^(31-tz x)*r)):=by
   rw [←Nat.mul_assoc 2,←Nat.pow_succ',←Nat.mul_assoc,←Nat.pow_add,show tz x+(31-tz x+1)=32 by omega]
  rw [e3]
  conv=>lhs;arg 1;rw [hm]
  rw [←Nat.mul_add]
  congr 1
  omega
 rw [e,e2,←Nat.mul_assoc,←Nat.pow_add,tz_mul]
end Go.Dy

namespace Go.Dy
def subN (ok:Bool) (a b:Nat):List Nat×Int:=if ok then (if a<b then ([],10) else (dg (a-b),0)) else ([],2)
structure Sh where
 mag:List Nat
 lost:Bool
 err:Int
def shiftN (a:List Nat) (n:Int):Sh:=
 if may a then
  if val a=0 then ⟨[],false,0⟩
  else if n<0 then ⟨dg (val a/2^(-n).toNat),decide ((tz (val a):Int)< -n),0⟩
  else if 131072-(bl (val a):Int)<n then ⟨[],false,3⟩
  else ⟨dg (val a*2^n.toNat),false,0⟩
 else ⟨[],false,2⟩
def addR (a b:List Nat):List Nat×Int:=boundN (may a&&may b) (val a+val b)
def subR (a b:List Nat):List Nat×Int:=subN (may a&&may b) (val a) (val b)
def mulR (a b:List Nat):List Nat×Int:=boundN (may a&&may b) (val a*val b)
def cmpR (a b:List Nat):Int×Int:=if may a&&may b then (cmpN (val a) (val b),0) else (0,2)
def lenN (a:List Nat):Nat:=if may a then bl (val a) else 0
def lowN (a:List Nat):Nat:=if may a then tz (val a) else 0
end Go.Dy
namespace Go.AI
open Go Go.RowKit Go.Proofs
set_option linter.unusedVariables false
def sAdd:List AV→Option Spec
 |[.dig [1] a,.dig [2] b]=>some ⟨none,.tup [.dig [0] (Dy.addR a b).1,.num .i64 (Dy.addR a b).2]⟩
 |_=>none
def sSubL:List AV→Option Spec
 |[.dig [1] a,.dig [2] b]=>some ⟨some (Dy.val b≤Dy.val a∧a.length≤1048576),.dig [0] (Dy.dg (Dy.val a-Dy.val b))⟩
 |_=>none
def sSub:List AV→Option Spec
 |[.dig [1] a,.dig [2] b]=>some ⟨none,.tup [.dig [0] (Dy.subR a b).1,.num .i64 (Dy.subR a b).2]⟩
 |_=>none
def sCmpX:List AV→Option Spec
 |[.dig [1] a,.dig [2] b]=>some ⟨none,.tup [.num .i64 (Dy.cmpR a b).1,.num .i64 (Dy.cmpR a b).2]⟩
 |_=>none
def sMulL:List AV→Option Spec
 |[.dig [1] a,.dig [2] b]=>some ⟨some (a.length≤1048576∧b.length≤1048576),.dig [0] (Dy.dg (Dy.val a*Dy.val b))⟩
 |_=>none
def sMul:List AV→Option Spec
 |[.dig [1] a,.dig [2] b]=>some ⟨none,.tup [.dig [0] (Dy.mulR a b).1,.num .i64 (Dy.mulR a b).2]⟩
 |_=>none
def sSmall:List AV→Option Spec
 |[.dig [1] a,.num .u32 d]=>some ⟨some (0<d∧a.length≤1048576),.tup [.dig [0] (Dy.dg (Dy.val a/d.toNat)),.num .u32 (Dy.val a%d.toNat:Nat)]⟩
 |_=>none
def sUp:List AV→Option Spec
 |[.dig [1] a,.num .i64 n]=>some ⟨some (0≤n∧n≤33554432∧a.length≤1048576),.dig [0] (Dy.dg (Dy.val a*2^n.toNat))⟩
 |_=>none
def sDown:List AV→Option Spec
 |[.dig [1] a,.num .i64 n]=>some ⟨some (0≤n∧a.length≤1048576),.dig [0] (Dy.dg (Dy.val a/2^n.toNat))⟩
 |_=>none
def sLen:List AV→Option Spec
 |[.dig [1] a]=>some ⟨none,.num .i64 (Dy.lenN a:Nat)⟩
 |_=>none
def sLow:List AV→Option Spec
 |[.dig [1] a]=>some ⟨none,.num .i64 (Dy.lowN a:Nat)⟩
 |_=>none
def sShift:List AV→Option Spec
 |[.dig [1] a,.num .i64 n]=>some ⟨none,.tup [.dig [0] (Dy.shiftN a n).mag,.bool (Dy.shiftN a n).lost,.num .i64 (Dy.shiftN a n).err]⟩
 |_=>none
def tab3:List (Nat×(List AV→Option Spec)):=(218,sSubL)::(186,sMulL)::(205,sSmall)::(182,sUp)::(181,sDown)::(144,sLen)::(171,sLow)::(208,sAdd)::tab2
def tab4:List (Nat×(List AV→Option Spec)):=(207,sSub)::(202,sMul)::(210,sCmpX)::(145,sShift)::tab3
end Go.AI

namespace Go.AI
open Dy IntKind
open Go Go.RowKit Go.Proofs
set_option linter.unusedVariables false
set_option maxRecDepth 100000
set_option maxHeartbeats 0
def lsAdd:List AV→Option LR
 |[.dig [1,2,3] a,.dig [1,2,3] b,.grown 152 o,.num .u32 c,.num .i64 k,.num .i64 i]=>
 some (.need (Dy.okl a∧Dy.okl b∧b.length≤a.length∧o=List.replicate (a.length+1) 0∧c=0∧k=a.length∧i=0)
 (.done (.exit 0) [.dig [1,2,3] a,.dig [1,2,3] b,.grown 152 (Dy.dgN a.length (Dy.val a+Dy.val b)++[0]),.num .u32 ((Dy.val a+Dy.val b)/2^(32*a.length):Nat),.num .i64 k,.num .i64 k]))
 |_=>none
def keepAdd:List (Nat×Keep):=[(0,.same),(1,.same),(6,.same),(7,.same),(27,.same),(28,.same)]
def lamAdd:=lam [(8,.spec keepAdd lsAdd)]
theorem vc_nat_Add (a:List Nat) (b:List Nat) (Q:AV→Prop):(evF Tryz.prog (look tab2) lamAdd false Tryz.f208 [.dig [1] a,.dig [2] b] Q)=(bif !(may a&&may b) then Q (.tup [.dig [0] [],.num .i64 2]) else bif decide ((↑a.length:Int)<(↑b.length:Int)) then ((0:Int)≤i64.wrap ((↑b.length:Int)+(1:Int))∧i64.wrap ((↑b.length:Int)+(1:Int))≤i64.wrap ((↑b.length:Int)+(1:Int))∧i64.wrap ((↑b.length:Int)+(1:Int))≤(2:Int)^(40:Nat))∧(okl b∧okl a∧a.length≤b.length∧List.replicate (i64.wrap ((↑b.length:Int)+(1:Int))).toNat (0:Nat)=List.replicate (b.length+(1:Nat)) (0:Nat)∧(0:Int)=(0:Int)∧(↑b.length:Int)=(↑b.length:Int)∧(0:Int)=(0:Int))∧((0:Int)≤(↑b.length:Int)∧(↑b.length:Int)<(↑(dgN b.length (val b+val a)++[0]).length:Int))∧(↑b.length:Int).toNat<(dgN b.length (val b+val a)++[0]).length∧∀(l1:List Nat),(l1=if (dg (val ((dgN b.length (val b+val a)++[0]).set (↑b.length:Int).toNat (↑((val b+val a)/(2:Nat)^((32:Nat)*b.length)):Int).toNat))).length≤4096 then dg (val ((dgN b.length (val b+val a)++[0]).set (↑b.length:Int).toNat (↑((val b+val a)/(2:Nat)^((32:Nat)*b.length)):Int).toNat)) else [])→∀(n2:Int),(n2=if (dg (val ((dgN b.length (val b+val a)++[0]).set (↑b.length:Int).toNat (↑((val b+val a)/(2:Nat)^((32:Nat)*b.length)):Int).toNat))).length≤4096 then (0:Int) else (3:Int))→Q (.tup [.dig [0] l1,.num .i64 n2]) else ((0:Int)≤i64.wrap ((↑a.length:Int)+(1:Int))∧i64.wrap ((↑a.length:Int)+(1:Int))≤i64.wrap ((↑a.length:Int)+(1:Int))∧i64.wrap ((↑a.length:Int)+(1:Int))≤(2:Int)^(40:Nat))∧(okl a∧okl b∧b.length≤a.length∧List.replicate (i64.wrap ((↑a.length:Int)+(1:Int))).toNat (0:Nat)=List.replicate (a.length+(1:Nat)) (0:Nat)∧(0:Int)=(0:Int)∧(↑a.length:Int)=(↑a.length:Int)∧(0:Int)=(0:Int))∧((0:Int)≤(↑a.length:Int)∧(↑a.length:Int)<(↑(dgN a.length (val a+val b)++[0]).length:Int))∧(↑a.length:Int).toNat<(dgN a.length (val a+val b)++[0]).length∧∀(l3:List Nat),(l3=if (dg (val ((dgN a.length (val a+val b)++[0]).set (↑a.length:Int).toNat (↑((val a+val b)/(2:Nat)^((32:Nat)*a.length)):Int).toNat))).length≤4096 then dg (val ((dgN a.length (val a+val b)++[0]).set (↑a.length:Int).toNat (↑((val a+val b)/(2:Nat)^((32:Nat)*a.length)):Int).toNat)) else [])→∀(n4:Int),(n4=if (dg (val ((dgN a.length (val a+val b)++[0]).set (↑a.length:Int).toNat (↑((val a+val b)/(2:Nat)^((32:Nat)*a.length)):Int).toNat))).length≤4096 then (0:Int) else (3:Int))→Q (.tup [.dig [0] l3,.num .i64 n4])):=by kernel_rfl
theorem vc_nat_Add_1 (a:List Nat) (b:List Nat) (o:List Nat) (c:Int) (k:Int) (i:Int) (K:Exit→List AV→Prop):(evIter Tryz.prog (look tab2) lamAdd (2:Nat) (63:Nat) keepAdd (bodyN Tryz.f208 (0:Nat)) [.dig [1,2,3] a,.dig [1,2,3] b,.grown (152:TypeId) o,.num .u32 c,.num .i64 k,.num .i64 i] K)=(bif decide (i<k) then bif decide (i<(↑b.length:Int)) then (0≤i∧i<(↑b.length:Int))∧(0≤i∧i<(↑a.length:Int))∧∀(n1:Int),n1=((↑(a.getD i.toNat (0:Nat)):Int)+(↑(b.getD i.toNat (0:Nat)):Int)+c)%(4294967296:Int)→∀(n2:Int),n2=((↑(a.getD i.toNat (0:Nat)):Int)+(↑(b.getD i.toNat (0:Nat)):Int)+c)/(4294967296:Int)→(0≤i∧i<(↑o.length:Int))∧i.toNat<o.length∧K Exit.normal [.dig [1,2,3] a,.dig [1,2,3] b,.grown (152:Nat) (o.set i.toNat n1.toNat),.num .u32 n2,.num .i64 k,.num .i64 (i64.wrap (i+(1:Int)))] else (0≤i∧i<(↑a.length:Int))∧∀(n3:Int),n3=((↑(a.getD i.toNat (0:Nat)):Int)+(0:Int)+c)%(4294967296:Int)→∀(n4:Int),n4=((↑(a.getD i.toNat (0:Nat)):Int)+(0:Int)+c)/(4294967296:Int)→(0≤i∧i<(↑o.length:Int))∧i.toNat<o.length∧K Exit.normal [.dig [1,2,3] a,.dig [1,2,3] b,.grown (152:Nat) (o.set i.toNat n3.toNat),.num .u32 n4,.num .i64 k,.num .i64 (i64.wrap (i+(1:Int)))] else K (Exit.exit (0:Nat)) [.dig [1,2,3] a,.dig [1,2,3] b,.grown (152:Nat) o,.num .u32 c,.num .i64 k,.num .i64 i]):=by kernel_rfl
def lsSubL:List AV→Option LR
 |[.dig [1,2,3] a,.dig [1,2,3] b,.grown 152 o,.num .u32 c,.num .i64 k,.num .i64 i]=>
 some (.need (Dy.okl a∧Dy.okl b∧Dy.val b≤Dy.val a∧o=List.replicate a.length 0∧c=0∧k=a.length∧i=0)
 (.done (.exit 0) [.dig [1,2,3] a,.dig [1,2,3] b,.grown 152 (Dy.dgN a.length (Dy.val a-Dy.val b)),.num .u32 0,.num .i64 k,.num .i64 k]))
 |_=>none
def keepSubL:List (Nat×Keep):=[(0,.same),(1,.same),(5,.same),(6,.same),(13,.same),(14,.same)]
def lamSubL:=lam [(4,.spec keepSubL lsSubL)]
theorem vc_nat_sub (a:List Nat) (b:List Nat) (Q:AV→Prop):(evF Tryz.prog (look tab2) lamSubL false Tryz.f218 [.dig [1] a,.dig [2] b] Q)=(((0:Int)≤(↑a.length:Int)∧(↑a.length:Int)≤(↑a.length:Int)∧(↑a.length:Int)≤(2:Int)^(40:Nat))∧(okl a∧okl b∧val b≤val a∧List.replicate (↑a.length:Int).toNat (0:Nat)=List.replicate a.length (0:Nat)∧(0:Int)=(0:Int)∧(↑a.length:Int)=(↑a.length:Int)∧(0:Int)=(0:Int))∧Q (.dig [0] (dg (val (dgN a.length (val a-val b)))))):=by kernel_rfl
theorem vc_nat_sub_1 (a:List Nat) (b:List Nat) (o:List Nat) (c:Int) (k:Int) (i:Int) (K:Exit→List AV→Prop):(evIter Tryz.prog (look tab2) lamSubL (2:Nat) (41:Nat) keepSubL (bodyN Tryz.f218 (0:Nat)) [.dig [1,2,3] a,.dig [1,2,3] b,.grown (152:TypeId) o,.num .u32 c,.num .i64 k,.num .i64 i] K)=(bif decide (i<k) then bif decide (i<(↑b.length:Int)) then (0≤i∧i<(↑b.length:Int))∧(0≤i∧i<(↑a.length:Int))∧c≤1∧∀(n1:Int),n1=((↑(a.getD i.toNat (0:Nat)):Int)-(↑(b.getD i.toNat (0:Nat)):Int)-c)%(4294967296:Int)→∀(n2:Int),(n2=if (↑(a.getD i.toNat (0:Nat)):Int)<(↑(b.getD i.toNat (0:Nat)):Int)+c then (1:Int) else (0:Int))→(0≤i∧i<(↑o.length:Int))∧i.toNat<o.length∧K Exit.normal [.dig [1,2,3] a,.dig [1,2,3] b,.grown (152:Nat) (o.set i.toNat n1.toNat),.num .u32 n2,.num .i64 k,.num .i64 (i64.wrap (i+(1:Int)))] else (0≤i∧i<(↑a.length:Int))∧c≤1∧∀(n3:Int),n3=((↑(a.getD i.toNat (0:Nat)):Int)-(0:Int)-c)%(4294967296:Int)→∀(n4:Int),(n4=if (↑(a.getD i.toNat (0:Nat)):Int)<(0:Int)+c then (1:Int) else (0:Int))→(0≤i∧i<(↑o.length:Int))∧i.toNat<o.length∧K Exit.normal [.dig [1,2,3] a,.dig [1,2,3] b,.grown (152:Nat) (o.set i.toNat n3.toNat),.num .u32 n4,.num .i64 k,.num .i64 (i64.wrap (i+(1:Int)))] else K (Exit.exit (0:Nat)) [.dig [1,2,3] a,.dig [1,2,3] b,.grown (152:Nat) o,.num .u32 c,.num .i64 k,.num .i64 i]):=by kernel_rfl
theorem vc_nat_Sub (a:List Nat) (b:List Nat) (Q:AV→Prop):(evF Tryz.prog (look tab3) (lam []) false Tryz.f207 [.dig [1] a,.dig [2] b] Q)=(bif !(may a&&may b) then Q (.tup [.dig [0] [],.num .i64 2]) else (dg (val a)=a∧dg (val b)=b)∧bif decide (cmpN (val a) (val b)<(0:Int)) then Q (.tup [.dig [0] [],.num .i64 10]) else (val b≤val a∧a.length≤1048576)∧Q (.tup [.dig [0] (dg (val a-val b)),.num .i64 0])):=by kernel_rfl
def lsMulO:List AV→Option LR
 |[.dig [1,2,3] b,.grown 152 o,.dig [1,2,3] a,.num .i64 k,.num .i64 i]=>
 some (.need (Dy.okl a∧Dy.okl b∧a.length≤1048576∧b.length≤1048576∧o=List.replicate (a.length+b.length) 0∧k=a.length∧i=0)
 (.done (.exit 0) [.dig [1,2,3] b,.grown 152 (Dy.dgN (a.length+b.length) (Dy.val a*Dy.val b)),.dig [1,2,3] a,.num .i64 k,.num .i64 k]))
 |_=>none
def keepMulO:List (Nat×Keep):=[(1,.same),(5,.same),(18,.same),(19,.same),(20,.same)]
def lsMulI:List AV→Option LR
 |[.grown 152 o,.num .i64 r,.num .u32 x,.num .u64 c,.dig [1,2,3] b,.num .i64 k,.num .i64 i,.dig [1,2,3] b',.dig [1,2,3] a,.num .i64 ka,.num .i64 ia]=>
 some (.need (Dy.digs o∧Dy.okl b∧b.length≤1048576∧0≤r∧r.toNat+b.length<o.length∧o.length≤2097152∧0≤x∧x<4294967296∧c=0∧k=b.length∧i=0)
 (.done (.exit 2) [.grown 152 (Dy.dgN (r.toNat+b.length) (Dy.val (o.take (r.toNat+b.length))+2^(32*r.toNat)*(x.toNat*Dy.val b))++o.drop (r.toNat+b.length)),.num .i64 r,.num .u32 x,
 .num .u64 ((Dy.val (o.take (r.toNat+b.length))+2^(32*r.toNat)*(x.toNat*Dy.val b))/2^(32*(r.toNat+b.length)):Nat),.dig [1,2,3] b,.num .i64 k,.num .i64 k,.dig [1,2,3] b',.dig [1,2,3] a,.num .i64 ka,.num .i64 ia]))
 |_=>none
def keepMulI:List (Nat×Keep):=[(5,.same),(6,.same),(7,.same),(8,.same),(25,.same),(26,.same),(27,.same),(1,.same),(18,.same),(19,.same),(20,.same)]
def lamMul:=lam [(3,.spec keepMulO lsMulO),(7,.spec keepMulI lsMulI)]
theorem vc_nat_mul (a:List Nat) (b:List Nat) (Q:AV→Prop):(evF Tryz.prog (look tab2) lamMul false Tryz.f186 [.dig [1] a,.dig [2] b] Q)=(((0:Int)≤i64.wrap ((↑a.length:Int)+(↑b.length:Int))∧i64.wrap ((↑a.length:Int)+(↑b.length:Int))≤i64.wrap ((↑a.length:Int)+(↑b.length:Int))∧i64.wrap ((↑a.length:Int)+(↑b.length:Int))≤(2:Int)^(40:Nat))∧(okl a∧okl b∧a.length≤1048576∧b.length≤1048576∧List.replicate (i64.wrap ((↑a.length:Int)+(↑b.length:Int))).toNat (0:Nat)=List.replicate (a.length+b.length) (0:Nat)∧(↑a.length:Int)=(↑a.length:Int)∧(0:Int)=(0:Int))∧Q (.dig [0] (dg (val (dgN (a.length+b.length) (val a*val b)))))):=by kernel_rfl
theorem vc_nat_mul_1 (a:List Nat) (b:List Nat) (o:List Nat) (k:Int) (i:Int) (K:Exit→List AV→Prop):(evIter Tryz.prog (look tab2) lamMul (2:Nat) (68:Nat) keepMulO (bodyN Tryz.f186 (0:Nat)) [.dig [1,2,3] b,.grown (152:TypeId) o,.dig [1,2,3] a,.num .i64 k,.num .i64 i] K)=(bif decide (i<k) then (0≤i∧i<(↑a.length:Int))∧(digs o∧okl b∧b.length≤1048576∧0≤i∧i.toNat+b.length<o.length∧o.length≤2097152∧(0:Int)≤(↑(a.getD i.toNat (0:Nat)):Int)∧(↑(a.getD i.toNat (0:Nat)):Int)<(4294967296:Int)∧(0:Int)=(0:Int)∧(↑b.length:Int)=(↑b.length:Int)∧(0:Int)=(0:Int))∧((0:Int)≤i64.wrap (i+(↑b.length:Int))∧i64.wrap (i+(↑b.length:Int))<(↑(dgN (i.toNat+b.length) (val (List.take (i.toNat+b.length) o)+(2:Nat)^((32:Nat)*i.toNat)*((↑(a.getD i.toNat (0:Nat)):Int).toNat*val b))++List.drop (i.toNat+b.length) o).length:Int))∧(i64.wrap (i+(↑b.length:Int))).toNat<(dgN (i.toNat+b.length) (val (List.take (i.toNat+b.length) o)+(2:Nat)^((32:Nat)*i.toNat)*((↑(a.getD i.toNat (0:Nat)):Int).toNat*val b))++List.drop (i.toNat+b.length) o).length∧K Exit.normal [.dig [1,2,3] b,.grown (152:Nat) ((dgN (i.toNat+b.length) (val (List.take (i.toNat+b.length) o)+(2:Nat)^((32:Nat)*i.toNat)*((↑(a.getD i.toNat (0:Nat)):Int).toNat*val b))++List.drop (i.toNat+b.length) o).set (i64.wrap (i+(↑b.length:Int))).toNat (u32.wrap (↑((val (List.take (i.toNat+b.length) o)+(2:Nat)^((32:Nat)*i.toNat)*((↑(a.getD i.toNat (0:Nat)):Int).toNat*val b))/(2:Nat)^((32:Nat)*(i.toNat+b.length))):Int)).toNat),.dig [1,2,3] a,.num .i64 k,.num .i64 (i64.wrap (i+(1:Int)))] else K (Exit.exit (0:Nat)) [.dig [1,2,3] b,.grown (152:Nat) o,.dig [1,2,3] a,.num .i64 k,.num .i64 i]):=by kernel_rfl
theorem vc_nat_mul_2 (b:List Nat) (o:List Nat) (b':List Nat) (a:List Nat) (r:Int) (x:Int) (c:Int) (k:Int) (i:Int) (ka:Int) (ia:Int) (K:Exit→List AV→Prop):(evIter Tryz.prog (look tab2) lamMul (2:Nat) (68:Nat) keepMulI (bodyN Tryz.f186 (1:Nat)) [.grown (152:TypeId) o,.num .i64 r,.num .u32 x,.num .u64 c,.dig [1,2,3] b,.num .i64 k,.num .i64 i,.dig [1,2,3] b',.dig [1,2,3] a,.num .i64 ka,.num .i64 ia] K)=(bif decide (i<k) then (0≤i∧i<(↑b.length:Int))∧((0:Int)≤i64.wrap (r+i)∧i64.wrap (r+i)<(↑o.length:Int))∧(i64.wrap (r+i)).toNat<o.length∧((0:Int)≤i64.wrap (r+i)∧i64.wrap (r+i)<(↑o.length:Int))∧(i64.wrap (r+i)).toNat<o.length∧K Exit.normal [.grown (152:Nat) (o.set (i64.wrap (r+i)).toNat (u32.wrap (u64.wrap (u64.wrap (u64.wrap (u64.wrap x*u64.wrap (↑(b.getD i.toNat (0:Nat)):Int))+u64.wrap (↑(o.getD (i64.wrap (r+i)).toNat (0:Nat)):Int))+c))).toNat),.num .i64 r,.num .u32 x,.num .u64 ((u64.wrap (u64.wrap (u64.wrap (u64.wrap x*u64.wrap (↑(b.getD i.toNat (0:Nat)):Int))+u64.wrap (↑(o.getD (i64.wrap (r+i)).toNat (0:Nat)):Int))+c)).fdiv ((2:Int)^(32:Nat))),.dig [1,2,3] b,.num .i64 k,.num .i64 (i64.wrap (i+(1:Int))),.dig [1,2,3] b',.dig [1,2,3] a,.num .i64 ka,.num .i64 ia] else K (Exit.exit (2:Nat)) [.grown (152:Nat) o,.num .i64 r,.num .u32 x,.num .u64 c,.dig [1,2,3] b,.num .i64 k,.num .i64 i,.dig [1,2,3] b',.dig [1,2,3] a,.num .i64 ka,.num .i64 ia]):=by kernel_rfl
theorem vc_nat_Cmp (a:List Nat) (b:List Nat) (Q:AV→Prop):(evF Tryz.prog (look tab3) (lam []) false Tryz.f210 [.dig [1] a,.dig [2] b] Q)=(bif !(may a&&may b) then Q (.tup [.num .i64 0,.num .i64 2]) else (dg (val a)=a∧dg (val b)=b)∧Q (.tup [.num .i64 (cmpN (val a) (val b)),.num .i64 0])):=by kernel_rfl
theorem vc_nat_Mul (a:List Nat) (b:List Nat) (Q:AV→Prop):(evF Tryz.prog (look tab3) (lam []) false Tryz.f202 [.dig [1] a,.dig [2] b] Q)=(bif !(may a&&may b) then Q (.tup [.dig [0] [],.num .i64 2]) else bif decide ((↑a.length:Int)>(0:Int)) then bif decide ((↑b.length:Int)>(0:Int)) then bif decide (i64.wrap (i64.wrap ((↑a.length:Int)+(↑b.length:Int))-(1:Int))>(4096:Int)) then Q (.tup [.dig [0] [],.num .i64 3]) else (a.length≤1048576∧b.length≤1048576)∧∀(l1:List Nat),(l1=if (dg (val a*val b)).length≤4096 then dg (val a*val b) else [])→∀(n2:Int),(n2=if (dg (val a*val b)).length≤4096 then (0:Int) else (3:Int))→Q (.tup [.dig [0] l1,.num .i64 n2]) else (a.length≤1048576∧b.length≤1048576)∧∀(l3:List Nat),(l3=if (dg (val a*val b)).length≤4096 then dg (val a*val b) else [])→∀(n4:Int),(n4=if (dg (val a*val b)).length≤4096 then (0:Int) else (3:Int))→Q (.tup [.dig [0] l3,.num .i64 n4]) else (a.length≤1048576∧b.length≤1048576)∧∀(l5:List Nat),(l5=if (dg (val a*val b)).length≤4096 then dg (val a*val b) else [])→∀(n6:Int),(n6=if (dg (val a*val b)).length≤4096 then (0:Int) else (3:Int))→Q (.tup [.dig [0] l5,.num .i64 n6])):=by kernel_rfl
def lsSmall:List AV→Option LR
 |[.dig [1,2,3] a,.num .u32 d,.grown 152 o,.num .u32 c,.num .i64 i]=>
 some (.need (Dy.okl a∧0<d∧d<4294967296∧o=List.replicate a.length 0∧c=0∧i=a.length-1)
 (.done (.exit 0) [.dig [1,2,3] a,.num .u32 d,.grown 152 (Dy.dgN a.length (Dy.val a/d.toNat)),.num .u32 (Dy.val a%d.toNat:Nat),.num .i64 (-1)]))
 |_=>none
def keepSmall:List (Nat×Keep):=[(0,.same),(1,.same),(6,.same),(7,.same),(8,.same)]
def lamSmall:=lam [(4,.spec keepSmall lsSmall)]
theorem vc_nat_small (a:List Nat) (d:Int) (Q:AV→Prop):(evF Tryz.prog (look tab2) lamSmall false Tryz.f205 [.dig [1] a,.num .u32 d] Q)=(((0:Int)≤(↑a.length:Int)∧(↑a.length:Int)≤(↑a.length:Int)∧(↑a.length:Int)≤(2:Int)^(40:Nat))∧(okl a∧0<d∧d<4294967296∧List.replicate (↑a.length:Int).toNat (0:Nat)=List.replicate a.length (0:Nat)∧(0:Int)=(0:Int)∧i64.wrap ((↑a.length:Int)-(1:Int))=(↑a.length:Int)-(1:Int))∧Q (.tup [.dig [0] (dg (val (dgN a.length (val a/d.toNat)))),.num .u32 (↑(val a%d.toNat):Int)])):=by kernel_rfl
theorem vc_nat_small_1 (a:List Nat) (o:List Nat) (d:Int) (c:Int) (i:Int) (K:Exit→List AV→Prop):(evIter Tryz.prog (look tab2) lamSmall (2:Nat) (35:Nat) keepSmall (bodyN Tryz.f205 (0:Nat)) [.dig [1,2,3] a,.num .u32 d,.grown (152:TypeId) o,.num .u32 c,.num .i64 i] K)=(bif decide (i≥(0:Int)) then (0≤i∧i<(↑a.length:Int))∧c<d∧∀(n1:Int),n1=(c*(4294967296:Int)+(↑(a.getD i.toNat (0:Nat)):Int))/d→∀(n2:Int),n2=(c*(4294967296:Int)+(↑(a.getD i.toNat (0:Nat)):Int))%d→(0≤i∧i<(↑o.length:Int))∧i.toNat<o.length∧K Exit.normal [.dig [1,2,3] a,.num .u32 d,.grown (152:Nat) (o.set i.toNat n1.toNat),.num .u32 n2,.num .i64 (i64.wrap (i-(1:Int)))] else K (Exit.exit (0:Nat)) [.dig [1,2,3] a,.num .u32 d,.grown (152:Nat) o,.num .u32 c,.num .i64 i]):=by kernel_rfl
def lsUp:List AV→Option LR
 |[.grown 152 o,.num .i64 s,.num .u32 c,.dig [1,2,3] a,.num .i64 k,.num .i64 i]=>
 some (.need (Dy.okl a∧a.length≤1048576∧0≤s∧s<32∧o.length≤1048576∧c=0∧k=a.length∧i=0)
 (.done (.exit 0) [.grown 152 (o++Dy.dgN a.length (Dy.val a*2^s.toNat)),.num .i64 s,.num .u32 (Dy.val a*2^s.toNat/2^(32*a.length):Nat),.dig [1,2,3] a,.num .i64 k,.num .i64 k]))
 |_=>none
def keepUp:List (Nat×Keep):=[(5,.same),(6,.same),(7,.same),(24,.same),(25,.same),(26,.same)]
def lamUp:=lam [(6,.spec keepUp lsUp)]
theorem vc_nat_up (a:List Nat) (n:Int) (Q:AV→Prop):(evF Tryz.prog (look tab2) lamUp false Tryz.f182 [.dig [1] a,.num .i64 n] Q)=(bif decide ((↑a.length:Int)=(0:Int)) then Q (.dig [0] []) else ((0:Int)≤i64.wrap (n.tdiv (32:Int))∧i64.wrap (n.tdiv (32:Int))≤i64.wrap (i64.wrap (i64.wrap (n.tdiv (32:Int))+(↑a.length:Int))+(1:Int))∧i64.wrap (i64.wrap (i64.wrap (n.tdiv (32:Int))+(↑a.length:Int))+(1:Int))≤(2:Int)^(40:Nat))∧(okl a∧a.length≤1048576∧0≤n.tmod (32:Int)∧n.tmod (32:Int)<(32:Int)∧(List.replicate (i64.wrap (n.tdiv (32:Int))).toNat (0:Nat)).length≤1048576∧(0:Int)=(0:Int)∧(↑a.length:Int)=(↑a.length:Int)∧(0:Int)=(0:Int))∧((0:Nat)≤[(↑(val a*(2:Nat)^(n.tmod (32:Int)).toNat/(2:Nat)^((32:Nat)*a.length)):Int).toNat].length∧(List.replicate (i64.wrap (n.tdiv (32:Int))).toNat (0:Nat)++dgN a.length (val a*(2:Nat)^(n.tmod (32:Int)).toNat)).length+[(↑(val a*(2:Nat)^(n.tmod (32:Int)).toNat/(2:Nat)^((32:Nat)*a.length)):Int).toNat].length≤1099511627776)∧Q (.dig [0] (dg (val (List.replicate (i64.wrap (n.tdiv (32:Int))).toNat (0:Nat)++dgN a.length (val a*(2:Nat)^(n.tmod (32:Int)).toNat)++[(↑(val a*(2:Nat)^(n.tmod (32:Int)).toNat/(2:Nat)^((32:Nat)*a.length)):Int).toNat]))))):=by kernel_rfl
theorem vc_nat_up_1 (a:List Nat) (o:List Nat) (s:Int) (c:Int) (k:Int) (i:Int) (K:Exit→List AV→Prop):(evIter Tryz.prog (look tab2) lamUp (2:Nat) (50:Nat) keepUp (bodyN Tryz.f182 (0:Nat)) [.grown (152:TypeId) o,.num .i64 s,.num .u32 c,.dig [1,2,3] a,.num .i64 k,.num .i64 i] K)=(bif decide (i<k) then (0≤i∧i<(↑a.length:Int))∧0≤s∧((0:Nat)≤[(u32.wrap (↑(BitVec.ofInt (32:Nat) (u32.wrap ((↑(a.getD i.toNat (0:Nat)):Int)*(2:Int)^min s.toNat (32:Nat)))|||BitVec.ofInt (32:Nat) c).toNat:Int)).toNat].length∧o.length+[(u32.wrap (↑(BitVec.ofInt (32:Nat) (u32.wrap ((↑(a.getD i.toNat (0:Nat)):Int)*(2:Int)^min s.toNat (32:Nat)))|||BitVec.ofInt (32:Nat) c).toNat:Int)).toNat].length≤1099511627776)∧(0:Int)≤i64.wrap ((32:Int)-s)∧K Exit.normal [.grown (152:Nat) (o++[(u32.wrap (↑(BitVec.ofInt (32:Nat) (u32.wrap ((↑(a.getD i.toNat (0:Nat)):Int)*(2:Int)^min s.toNat (32:Nat)))|||BitVec.ofInt (32:Nat) c).toNat:Int)).toNat]),.num .i64 s,.num .u32 (u32.wrap ((u64.wrap (↑(a.getD i.toNat (0:Nat)):Int)).fdiv ((2:Int)^min (i64.wrap ((32:Int)-s)).toNat (64:Nat)))),.dig [1,2,3] a,.num .i64 k,.num .i64 (i64.wrap (i+(1:Int)))] else K (Exit.exit (0:Nat)) [.grown (152:Nat) o,.num .i64 s,.num .u32 c,.dig [1,2,3] a,.num .i64 k,.num .i64 i]):=by kernel_rfl
def lsDown:List AV→Option LR
 |[.dig [1,2,3] a,.num .i64 s,.grown 152 o,.dig [1,2,3] a',.num .i64 k,.num .i64 i]=>
 some (.need (a'=a∧Dy.okl a∧0≤s∧s<32∧o=List.replicate a.length 0∧k=a.length∧i=0)
 (.done (.exit 0) [.dig [1,2,3] a,.num .i64 s,.grown 152 (Dy.dgN a.length (Dy.val a/2^s.toNat)),.dig [1,2,3] a,.num .i64 k,.num .i64 k]))
 |_=>none
def keepDown:List (Nat×Keep):=[(0,.same),(5,.same),(6,.same),(23,.same),(24,.same),(25,.same)]
def lamDown:=lam [(7,.spec keepDown lsDown)]
theorem vc_nat_down (a:List Nat) (n:Int) (Q:AV→Prop):(evF Tryz.prog (look tab2) lamDown false Tryz.f181 [.dig [1] a,.num .i64 n] Q)=(bif decide (i64.wrap (n.tdiv (32:Int))≥(↑a.length:Int)) then Q (.dig [0] []) else ((0:Int)≤i64.wrap (n.tdiv (32:Int))∧i64.wrap (n.tdiv (32:Int))≤(↑a.length:Int))∧((0:Int)≤(↑(List.drop (i64.wrap (n.tdiv (32:Int))).toNat a).length:Int)∧(↑(List.drop (i64.wrap (n.tdiv (32:Int))).toNat a).length:Int)≤(↑(List.drop (i64.wrap (n.tdiv (32:Int))).toNat a).length:Int)∧(↑(List.drop (i64.wrap (n.tdiv (32:Int))).toNat a).length:Int)≤(2:Int)^(40:Nat))∧(List.drop (i64.wrap (n.tdiv (32:Int))).toNat a=List.drop (i64.wrap (n.tdiv (32:Int))).toNat a∧okl (List.drop (i64.wrap (n.tdiv (32:Int))).toNat a)∧0≤n.tmod (32:Int)∧n.tmod (32:Int)<(32:Int)∧List.replicate (↑(List.drop (i64.wrap (n.tdiv (32:Int))).toNat a).length:Int).toNat (0:Nat)=List.replicate (List.drop (i64.wrap (n.tdiv (32:Int))).toNat a).length (0:Nat)∧(↑(List.drop (i64.wrap (n.tdiv (32:Int))).toNat a).length:Int)=(↑(List.drop (i64.wrap (n.tdiv (32:Int))).toNat a).length:Int)∧(0:Int)=(0:Int))∧Q (.dig [0] (dg (val (dgN (List.drop (i64.wrap (n.tdiv (32:Int))).toNat a).length (val (List.drop (i64.wrap (n.tdiv (32:Int))).toNat a)/(2:Nat)^(n.tmod (32:Int)).toNat)))))):=by kernel_rfl
theorem vc_nat_down_1 (a:List Nat) (a':List Nat) (o:List Nat) (s:Int) (k:Int) (i:Int) (K:Exit→List AV→Prop):(evIter Tryz.prog (look tab2) lamDown (2:Nat) (60:Nat) keepDown (bodyN Tryz.f181 (0:Nat)) [.dig [1,2,3] a,.num .i64 s,.grown (152:TypeId) o,.dig [1,2,3] a',.num .i64 k,.num .i64 i] K)=(bif decide (i<k) then (0≤i∧i<(↑a'.length:Int))∧0≤s∧(0≤i∧i<(↑o.length:Int))∧i.toNat<o.length∧bif decide (i64.wrap (i+(1:Int))<(↑a.length:Int)) then (0≤i∧i<(↑(o.set i.toNat ((↑(a'.getD i.toNat (0:Nat)):Int).fdiv ((2:Int)^min s.toNat (32:Nat))).toNat).length:Int))∧i.toNat<(o.set i.toNat ((↑(a'.getD i.toNat (0:Nat)):Int).fdiv ((2:Int)^min s.toNat (32:Nat))).toNat).length∧((0:Int)≤i64.wrap (i+(1:Int))∧i64.wrap (i+(1:Int))<(↑a.length:Int))∧(0:Int)≤i64.wrap ((32:Int)-s)∧(0≤i∧i<(↑(o.set i.toNat ((↑(a'.getD i.toNat (0:Nat)):Int).fdiv ((2:Int)^min s.toNat (32:Nat))).toNat).length:Int))∧i.toNat<(o.set i.toNat ((↑(a'.getD i.toNat (0:Nat)):Int).fdiv ((2:Int)^min s.toNat (32:Nat))).toNat).length∧K Exit.normal [.dig [1,2,3] a,.num .i64 s,.grown (152:Nat) ((o.set i.toNat ((↑(a'.getD i.toNat (0:Nat)):Int).fdiv ((2:Int)^min s.toNat (32:Nat))).toNat).set i.toNat (u32.wrap (↑(BitVec.ofInt (32:Nat) (↑((o.set i.toNat ((↑(a'.getD i.toNat (0:Nat)):Int).fdiv ((2:Int)^min s.toNat (32:Nat))).toNat).getD i.toNat (0:Nat)):Int)|||BitVec.ofInt (32:Nat) (u32.wrap (u64.wrap (u64.wrap (↑(a.getD (i64.wrap (i+(1:Int))).toNat (0:Nat)):Int)*(2:Int)^min (i64.wrap ((32:Int)-s)).toNat (64:Nat))))).toNat:Int)).toNat),.dig [1,2,3] a',.num .i64 k,.num .i64 (i64.wrap (i+(1:Int)))] else K Exit.normal [.dig [1,2,3] a,.num .i64 s,.grown (152:Nat) (o.set i.toNat ((↑(a'.getD i.toNat (0:Nat)):Int).fdiv ((2:Int)^min s.toNat (32:Nat))).toNat),.dig [1,2,3] a',.num .i64 k,.num .i64 (i64.wrap (i+(1:Int)))] else K (Exit.exit (0:Nat)) [.dig [1,2,3] a,.num .i64 s,.grown (152:Nat) o,.dig [1,2,3] a',.num .i64 k,.num .i64 i]):=by kernel_rfl
theorem vc_nat_Len (a:List Nat) (Q:AV→Prop):(evF Tryz.prog (look tab2) (lam []) false Tryz.f144 [.dig [1] a] Q)=(bif !may a then Q (.num .i64 0) else bif decide ((↑a.length:Int)=(0:Int)) then Q (.num .i64 0) else ((0:Int)≤i64.wrap ((↑a.length:Int)-(1:Int))∧i64.wrap ((↑a.length:Int)-(1:Int))<(↑a.length:Int))∧Q (.num .i64 (i64.wrap (i64.wrap ((32:Int)*i64.wrap ((↑a.length:Int)-(1:Int)))+(↑(Lib.bitLen (↑(a.getD (i64.wrap ((↑a.length:Int)-(1:Int))).toNat (0:Nat)):Int).toNat):Int))))):=by kernel_rfl
def lsLow:List AV→Option LR
 |[.num .i64 r,.dig [1,2] a,.num .i64 k,.num .i64 i]=>
 some (.need (Dy.okl a∧a.length≤1048576∧k=a.length∧i=0)
 (.test (decide (Dy.val a=0)) (.done (.exit 0) [.num .i64 r,.dig [1,2] a,.num .i64 k,.num .i64 k]) (.done .ret [.num .i64 (Dy.tz (Dy.val a):Nat),.dig [1,2] a,.num .i64 k,.num .i64 (Dy.tz (Dy.val a)/32:Nat)])))
 |_=>none
def keepLow:List (Nat×Keep):=[(2,.same),(8,.same),(9,.same),(10,.same)]
def lamLow:=lam [(4,.spec keepLow lsLow)]
theorem vc_nat_Low (a:List Nat) (Q:AV→Prop):(evF Tryz.prog (look tab2) lamLow false Tryz.f171 [.dig [1] a] Q)=(bif !may a then Q (.num .i64 0) else (okl a∧a.length≤1048576∧(↑a.length:Int)=(↑a.length:Int)∧(0:Int)=(0:Int))∧bif decide (val a=(0:Nat)) then Q (.num .i64 0) else Q (.num .i64 (↑(tz (val a)):Int))):=by kernel_rfl
theorem vc_nat_Low_1 (a:List Nat) (r:Int) (k:Int) (i:Int) (K:Exit→List AV→Prop):(evIter Tryz.prog (look tab2) lamLow (1:Nat) (23:Nat) keepLow (bodyN Tryz.f171 (0:Nat)) [.num .i64 r,.dig [1,2] a,.num .i64 k,.num .i64 i] K)=(bif decide (i<k) then (0≤i∧i<(↑a.length:Int))∧bif !decide ((↑(a.getD i.toNat (0:Nat)):Int)=(0:Int)) then (0:Int)<(↑(a.getD i.toNat (0:Nat)):Int)∧K Exit.ret [.num .i64 (i64.wrap (i64.wrap ((32:Int)*i)+(↑(Lib.ctz (32:Nat) (↑(a.getD i.toNat (0:Nat)):Int).toNat):Int))),.dig [1,2] a,.num .i64 k,.num .i64 i] else K Exit.normal [.num .i64 r,.dig [1,2] a,.num .i64 k,.num .i64 (i64.wrap (i+(1:Int)))] else K (Exit.exit (0:Nat)) [.num .i64 r,.dig [1,2] a,.num .i64 k,.num .i64 i]):=by kernel_rfl
theorem vc_nat_Shift (a:List Nat) (n:Int) (Q:AV→Prop):(evF Tryz.prog (look tab3) (lam []) false Tryz.f145 [.dig [1] a,.num .i64 n] Q)=(bif !may a then Q (.tup [.dig [0] [],.bool false,.num .i64 2]) else bif decide ((↑a.length:Int)=(0:Int)) then Q (.tup [.dig [0] [],.bool false,.num .i64 0]) else bif decide (n<(-131072:Int)) then Q (.tup [.dig [0] [],.bool true,.num .i64 0]) else bif decide (n<0) then ((0:Int)≤i64.wrap ((0:Int)-n)∧a.length≤1048576)∧Q (.tup [.dig [0] (dg (val a/(2:Nat)^(i64.wrap ((0:Int)-n)).toNat)),.bool (decide ((↑(lowN a):Int)<i64.wrap ((0:Int)-n))),.num .i64 0]) else bif decide (n>i64.wrap ((131072:Int)-(↑(lenN a):Int))) then Q (.tup [.dig [0] [],.bool false,.num .i64 3]) else (0≤n∧n≤33554432∧a.length≤1048576)∧Q (.tup [.dig [0] (dg (val a*(2:Nat)^n.toNat)),.bool false,.num .i64 0])):=by kernel_rfl
end Go.AI
