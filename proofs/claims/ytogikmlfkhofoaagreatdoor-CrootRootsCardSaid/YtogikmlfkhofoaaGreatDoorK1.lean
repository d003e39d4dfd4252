/- My texts AIev, AIrel, AIst, AIbox, AIop, AIop2, AIop3, AIop4, in one. -/
import Derived.WalkKit
import Derived.KernelRfl
import Derived.Orders
theorem A0{p:Prop}[i:Decidable p](h:decide p=false):¬p:=of_decide_eq_false h
theorem A1{p:Prop}[i:Decidable p](h:decide p=true):p:=of_decide_eq_true h
open BitVec renaming ofInt→A7
open Bool renaming false_eq_true→J7
open List renaming append_assoc→U8,getD→M6,getElem?_append_right→AJ,getElem?_drop→Y5,getElem?_set→BH,getElem?_take→AK,length_cons→T5,mem_of_getElem?→X7,range→MR,replicate→B2
open Nat renaming add_zero→I4,le_refl→I6,lt_of_lt_of_le→G7,lt_or_ge→L4,min_eq_left→J1
namespace Go.AI
open Go
set_option linter.unusedVariables false
inductive AV where
 |junk
 |num (k:IntKind) (n:Int)
 |bool (b:Bool)
 |nilS
 |dig (p:List Nat) (l:List Nat)
 |vec (p:List Nat) (n:Nat) (l:List AV)
 |agg (cs:List AV)
 |tup (vs:List AV)
 |addr (b off:Nat)
 |own (b:Nat)
 |cref (p:List Nat) (cs:List AV)
 |fn (f:Nat) (caps:List AV)
 |grown (t:TypeId) (l:List Nat)
 |boxv (cs:List AV)
 |hand (b:Nat) (gc:Option (Nat×Nat)) (lo len:Nat)
 |handv (T:TypeId) (L:List Nat) (gc:Option (Nat×Nat)) (lo len:Nat)
 |avec (b off s n:Nat)
inductive Box where
 |unborn
 |dead
 |G4
 |cells (cs:List AV)
 |D1 (t:TypeId) (l:List Nat)
structure St where
 tmps:List AV
 boxes:List Box
structure Spec where
 pre:Option Prop
 res:AV
inductive LR where
 |done (e:Exit) (vals:List AV)
 |test (b:Bool) (x y:LR)
 |need (p:Prop) (x:LR)
inductive Keep where
 |same
 |any
 |grow (T:TypeId)
def Keep.C8c:Keep→Bool
 | .any=>true
 |_=>false
inductive LoopAnn where
 |spec (keep:List (Nat×Keep)) (ls:List AV→Option LR)
 |unroll (n:Nat)
 |raw (g:St→Option (Exit×St))
structure Eff where
 pre:Option Prop
 val:AV
 upd:List (Nat×Box)
def C6:Option Prop→Prop→Prop
 |none,q=>q
 |some p,q=>p∧q
def A94:Value→AV
 | .int k n=>if k.min≤n∧n≤k.max then .num k n else .junk
 | .bool b=> .bool b
 | .slice none 0 0=> .nilS
 |_=> .junk
def ofValue:Value→AV
 | .agg cs=> .agg (cs.toList.map A94)
 |v=>A94 v
def St.eval (σ:St):Operand→AV
 | .tmp t=>σ.tmps.getD t .junk
 | .const v=>ofValue v
 | .global _=> .junk
 | .func f=> .fn f []
def St.box (σ:St) (b:Nat):Box:=σ.boxes.getD b .unborn
def AV.IM:AV→Bool
 | .num .. | .bool _| .nilS| .dig .. | .own _| .vec .. | .cref .. | .fn .. =>true
 |_=>false
def AV.cells:AV→Option (List AV)
 | .agg cs=>some cs
 |x=>if x.IM then some [x] else none
def isAgg (P:Program) (t:TypeId):Option Bool:=
 match P.underlying t with
 |some (.struct _)=>some true
 |some (.array _ _)=>some true
 |some _=>some false
 |none=>none
def BE (P:Program) (t:TypeId):Option Nat:=(P.info? t).map (·.size)
def ZB:Value→Bool
 | .nilFunc=>true
 |_=>false
def zeroCells (P:Program) (t:TypeId):Option (List AV):=
 match P.info? t with
 |some i=>match i.zero with
  |some v=>bif ZB v then some [.junk] else (ofValue v).cells
  |none=>none
 |none=>none
def JC (P:Program) (t:TypeId) (cs:List AV):Option AV:=
 match isAgg P t,BE P t with
 |some true,some s=>if s≤cs.length then some (.agg (cs.take s)) else none
 |some false,_=>match cs with
  |[]=>none
  |c::_=>some c
 |_,_=>none
def GM (off:Nat) (xs cs:List AV):List AV:=cs.take off++xs++cs.drop (off+xs.length)
def S8 (bx:Nat→Box):List Nat→Bool
 |[]=>true
 |i::p=>match bx i with
  | .G4=>S8 bx p
  |_=>false
def WC {α β:Type} (f:α→Option β):List α→Option (List β)
 |[]=>some []
 |x::l=>match f x with
  |none=>none
  |some y=>match WC f l with
   |none=>none
   |some r=>some (y::r)
def AV.asArg (bx:Nat→Box) (i:Nat):Nat→AV→Option AV
 |0,_=>none
 |k+1,v=>match v with
  | .junk=>some .junk
  | .num k n=>some (.num k n)
  | .bool b=>some (.bool b)
  | .nilS=>some (.dig [i] [])
  | .dig p l=>if S8 bx p then some (.dig [i] l) else none
  | .own b=>match bx b with
   | .D1 T l=>some (.dig [i] l)
   |_=>none
  | .hand b _ lo len=>match bx b with
   | .D1 T l=>some (.dig [i] ((l.drop lo).take len))
   |_=>none
  | .vec p n l=>if S8 bx p then match WC (AV.asArg bx i k) l with
    |some l'=>some (.vec [i] n l')
    |none=>none
   else none
  | .agg cs=>match WC (AV.asArg bx i k) cs with
   |some cs'=>some (.agg cs')
   |none=>none
  | .cref p cs=>if S8 bx p then match WC (AV.asArg bx i k) cs with
    |some cs'=>some (.cref [i] cs')
    |none=>none
   else none
  | .addr b off=>match bx b with
   | .cells cs=>match WC (AV.asArg bx i k) (cs.drop off) with
    |some cs'=>some (.cref [i] cs')
    |none=>none
   |_=>none
  | .fn f caps=>match WC (AV.asArg bx i k) caps with
   |some cs'=>some (.fn f cs')
   |none=>none
  |_=>none
def AV.ids (bx:Nat→Box):Nat→AV→List Nat
 |0,_=>[]
 |k+1,v=>match v with
  | .dig p _=>p
  | .own b=>[b]
  | .hand b _ _ _=>[b]
  | .vec p _ l=>p++l.flatMap (AV.ids bx k)
  | .agg cs=>cs.flatMap (AV.ids bx k)
  | .cref p cs=>p++cs.flatMap (AV.ids bx k)
  | .fn _ caps=>caps.flatMap (AV.ids bx k)
  | .addr b off=>match bx b with
   | .cells cs=>b::(cs.drop off).flatMap (AV.ids bx k)
   |_=>[b]
  |_=>[]
def AN:List Nat→List Nat
 |[]=>[]
 |x::l=>if l.contains x then AN l else x::AN l
mutual
def AV.CI (f:Nat→List Nat):AV→AV
 | .dig p l=> .dig (AN (p.flatMap f)) l
 | .vec p n l=> .vec (AN (p.flatMap f)) n (AV.JD f l)
 | .agg cs=> .agg (AV.JD f cs)
 | .tup cs=> .tup (AV.JD f cs)
 | .num k n=> .num k n
 | .bool b=> .bool b
 | .nilS=> .nilS
 |_=> .junk
def AV.JD (f:Nat→List Nat):List AV→List AV
 |[]=>[]
 |c::cs=>AV.CI f c::AV.JD f cs
end
def V3 (bx:Nat→Box):Nat→List AV→Option (List AV×List (List Nat))
 |_,[]=>some ([],[])
 |i,c::cs=>match AV.asArg bx i 8 c with
  |none=>none
  |some c'=>match V3 bx (i+1) cs with
   |none=>none
   |some (cs',ps)=>some (c'::cs',AN (AV.ids bx 8 c)::ps)
def BI (bx:Nat→Box) (n:Nat):List Nat→List Nat
 |[]=>[]
 |i::p=>match bx i with
  | .D1 .. =>n::BI bx n p
  |_=>i::BI bx n p
def freeze (bx:Nat→Box) (drawn:Bool):List Nat→Option (List (Nat×Box))
 |[]=>some []
 |i::p=>match bx i with
  | .G4=>freeze bx drawn p
  | .D1 .. =>if drawn then none else match freeze bx drawn p with
   |some u=>some ((i,.dead)::u)
   |none=>none
  |_=>none
mutual
def AV.names:AV→List Nat
 | .dig p _=>p
 | .vec p _ l=>p++AV.RM l
 | .agg cs=>AV.RM cs
 | .tup cs=>AV.RM cs
 |_=>[]
def AV.RM:List AV→List Nat
 |[]=>[]
 |c::cs=>AV.names c++AV.RM cs
end
def WI (na:Nat) (bx:Nat→Box):List Nat→Bool
 |[]=>true
 |i::l=>decide (na<i)&&(match bx i with
  | .G4=>true
  |_=>false)&&WI na bx l
def D3z:AV→Bool
 | .boxv []=>true
 |_=>false
def kindOf:AV→Nat
 | .boxv []=>1
 | .boxv _=>2
 | .grown _ _=>3
 |_=>0
def RF (bx:Nat→Box):AV→Option (Nat×TypeId×List Nat×Nat×Nat)
 | .own b=>match bx b with
  | .D1 T L=>some (b,T,L,0,L.length)
  |_=>none
 | .hand b _ lo len=>match bx b with
  | .D1 T L=>some (b,T,L,lo,len)
  |_=>none
 |_=>none
def C8e:AV→Bool
 | .own _=>true
 |_=>false
def YZ (na:Nat) (bx:Nat→Box) (drawn:Bool) (Φ:Nat→List AV→Option Spec) (n f:Nat) (args:List AV):Option Eff:=
 match args with
 |[]=>none
 |c::cs=>match RF bx c with
  |none=>none
  |some (b,T,L,lo,len)=>match V3 bx 2 cs with
   |none=>none
   |some (as,ps)=>match Φ f (.handv T L none lo len::as) with
    |none=>none
    |some s=>if drawn||ps.flatten.contains b then none else match s.res with
     | .boxv [.dig _ L',.num k d]=>some ⟨some (C6 s.pre (0<L.length)),.num k d,[(n,.G4),(b,.D1 T L')]⟩
     | .boxv [.dig _ L',.addr _ k]=>if C8e c then some ⟨some (C6 s.pre (0<L.length)),.own n,[(b,.dead),(n,.D1 T (L'.take k))]⟩ else none
     |_=>none
def YT (na:Nat) (bx:Nat→Box) (drawn:Bool) (Φ:Nat→List AV→Option Spec) (n f:Nat) (args:List AV):Option Eff:=
 match V3 bx 1 args with
 |none=>none
 |some (as,ps)=>match Φ f as with
  |none=>none
  |some s=>if D3z s.res then
   (if !drawn&&WI na bx (AN ps.flatten) then some ⟨s.pre,.tup [],(AN ps.flatten).map fun i=>(i,.dead)⟩ else none) else match s.res with
   | .grown T l=>some ⟨s.pre,.own n,[(n,.D1 T l)]⟩
   | .boxv _=>none
   |_=>match freeze bx drawn (AN (s.res.names.flatMap fun j=>if j=0 then [] else ps.getD (j-1) [])) with
   |none=>none
   |some u=>some ⟨s.pre,s.res.CI (fun j=>if j=0 then [n] else BI bx n (ps.getD (j-1) [])),(n,.G4)::u⟩
def C3v (op:BinOp) (k:IntKind) (x y:Int):Option Int:=
 let a:=A7 k.bits x
 let b:=A7 k.bits y
 match op with
 | .and=>some (k.wrap (a&&&b).toNat)
 | .or=>some (k.wrap (a|||b).toNat)
 | .xor=>some (k.wrap (a^^^b).toNat)
 | .andNot=>some (k.wrap (a&&& ~~~b).toNat)
 |_=>none
def s9:Operand→Bool
 | .const (.int _ n)=>n !=0
 |_=>false
def BA:Operand→Bool
 | .const (.int _ n)=>decide (0≤n)
 |_=>false
def ZA (P:Program) (t:TypeId):Bool:=
 match P.underlying t with
 |some .bool=>true
 |_=>false
def B8b (op:BinOp) (bt:Bool) (yo:Operand):AV→AV→Option (Option Prop×AV)
 | .num k a,.num k' b=>
  match op with
  | .shl=>some (if BA yo then none else some (0≤b),.num k (k.wrap (a*2^(min b.toNat k.bits))))
  | .shr=>some (if BA yo then none else some (0≤b),.num k (a.fdiv (2^(min b.toNat k.bits))))
  | .add=>if k=k' then some (none,.num k (k.wrap (a+b))) else none
  | .sub=>if k=k' then some (none,.num k (k.wrap (a-b))) else none
  | .mul=>if k=k' then some (none,.num k (k.wrap (a*b))) else none
  | .quo=>if k=k' then some (if s9 yo then none else some (b≠0),.num k (k.wrap (a.tdiv b))) else none
  | .rem=>if k=k' then some (if s9 yo then none else some (b≠0),.num k (a.tmod b)) else none
  | .eql=>if k=k' then some (none,.bool (a==b)) else none
  | .neq=>if k=k' then some (none,.bool (a !=b)) else none
  | .lss=>if k=k' then some (none,.bool (decide (a<b))) else none
  | .leq=>if k=k' then some (none,.bool (decide (a≤b))) else none
  | .gtr=>if k=k' then some (none,.bool (decide (a>b))) else none
  | .geq=>if k=k' then some (none,.bool (decide (a≥b))) else none
  |op=>if k=k' then match C3v op k a b with
   |some r=>some (none,.num k r)
   |none=>none
   else none
 | .bool a,.bool b=>
  match op,bt with
  | .eql,true=>some (none,.bool (a==b))
  | .neq,true=>some (none,.bool (!(a==b)))
  |_,_=>none
 |_,_=>none
def D2o (P:Program) (g:TypeId→AV→AV→Option Bool) (xs ys:List AV):List Field→Option Bool
 |[]=>some true
 | f :: fs => if f.name = "_" then none else match JC P f.type (xs.drop f.offset), JC P f.type (ys.drop f.offset) with
  |some a,some b=>match g f.type a b,D2o P g xs ys fs with
   |some r,some s=>some (r&&s)
   |_,_=>none
  |_,_=>none
def eqA (P:Program):Nat→TypeId→AV→AV→Option Bool
 |0,_,_,_=>none
 |d+1,t,x,y=>match P.underlying t with
  |some .bool=>match x,y with
   | .bool a,.bool b=>some (a==b)
   |_,_=>none
  |some (.int _)=>match x,y with
   | .num k a,.num k' b=>if k=k' then some (a==b) else none
   |_,_=>none
  |some (.struct fs)=>match x,y with
   | .agg xs,.agg ys=>if P.stoodInHeld t then none else D2o P (eqA P d) xs ys fs.toList
   |_,_=>none
  |_=>none
def ZR (P:Program) (op:BinOp) (t:TypeId):AV→AV→Option Eff
 | .agg xs,.agg ys=>if P.eqGuardType P.depth t then none else match op with
  | .eql=>match eqA P 8 t (.agg xs) (.agg ys) with
   |some b=>some ⟨none,.bool b,[]⟩
   |none=>none
  | .neq=>match eqA P 8 t (.agg xs) (.agg ys) with
   |some b=>some ⟨none,.bool (!b),[]⟩
   |none=>none
  |_=>none
 |_,_=>none
def D47 (op:UnOp):AV→Option AV
 | .num k n=>
  match op with
  | .neg=>some (.num k (k.wrap (0-n)))
  | .xor=>match C3v .xor k (if k.signed then -1 else k.max) n with
   |some r=>some (.num k r)
   |none=>none
  |_=>none
 | .bool b=>match op with
  | .not=>some (.bool !b)
  |_=>none
 |_=>none
def ZM (t:Bool) (x y:AV):AV:=
 match x,y with
 | .bool x,.bool y=> .bool (cond t x y)
 | .num k x,.num k' y=>if k=k' then .num k (cond t x y) else cond t (.num k x) (.num k' y)
 |x,y=>cond t x y
def places (P:Program):List Field→Option (List (Nat×Nat))
 |[]=>some []
 |f::fs=>match BE P f.type,places P fs with
  |some s,some r=>some ((f.offset,s)::r)
  |_,_=>none
def placeOf (P:Program) (t:TypeId):Option (Nat→Option (Nat×Nat)):=
 match P.underlying t with
 |some (.struct fs)=>match places P fs.toList with
  |some l=>some fun i=>l[i]?
  |none=>none
 |some (.array _ e)=>match BE P e with
  |some s=>some fun i=>some (i*s,s)
  |none=>none
 |_=>none
def B2k (place:Nat→Option (Nat×Nat)):List AV→List (Nat×AV)→Option (List AV)
 |cells,[]=>some cells
 |cells,(i,v)::rest=>
  match place i,v.cells with
  |some (off,size),some vc=>
   if vc.length=size∧off+size≤cells.length then B2k place (GM off vc cells) rest else none
  |_,_=>none
def V7:List AV→Option (List Nat)
 |[]=>some []
 | .num .u32 x::l=>match V7 l with
  |some r=>some (x.toNat::r)
  |none=>none
 |_=>none
def SQ:Nat→List (Nat×AV)→Option (List AV)
 |_,[]=>some []
 |i,(j,v)::l=>if i=j then match SQ (i+1) l with
  |some r=>some (v::r)
  |none=>none
  else none
def YR (n:Nat):List AV→Bool
 |[]=>true
 |v::l=>(match v.cells with|some cs=>cs.length==n|none=>false)&&YR n l
def y6 (P:Program) (t:TypeId):Option TypeId:=
 match P.underlying t with
 |some (.slice e)=>match P.underlying e,P.info? e with
  |some (.int .u32),some i=>match i.size,i.bytes,i.zero with
   |1,4,some (.int .u32 0)=>some e
   |_,_,_=>none
  |_,_=>none
 |_=>none
def CG (P:Program) (t:TypeId):Bool:=(y6 P t).isSome
def NJ (P:Program) (t:TypeId):Option Nat:=
 match P.underlying t with
 |some (.slice e)=>match P.info? e with
  |some i=>match i.zero with
   |some _=>some i.size
   |none=>none
  |none=>none
 |_=>none
def C3p (P:Program) (t:TypeId):Option (Nat×Nat):=
 match P.underlying t with
 |some (.array n e)=>match BE P e with
  |some s=>if n≤64 then some (n,s) else none
  |none=>none
 |_=>none
def YW (P:Program) (t:TypeId) (f:Nat):Option (Nat×Nat×TypeId):=
 match P.underlying t with
 |some (.struct fs)=>match fs[f]? with
  |some f=>match BE P f.type with
   |some s=>some (f.offset,s,f.type)
   |none=>none
  |none=>none
 |_=>none
def A87 (P:Program) (t:TypeId):Option IntKind:=
 match P.underlying t with
 |some (.int k)=>some k
 |_=>none
def FA (P:Program) (t:TypeId):Bool:=
 match P.underlying t with
 |some (.slice _)=>true
 |_=>false
def A8h (P:Program) (bx:Nat→Box) (t:TypeId):AV→Option Eff
 | .dig p l=>if FA P t&&S8 bx p then some ⟨none,.num .i64 (l.length:Int),[]⟩ else none
 | .own b=>match bx b with
  | .D1 _ l=>if FA P t then some ⟨none,.num .i64 (l.length:Int),[]⟩ else none
  |_=>none
 | .nilS=>if FA P t then some ⟨none,.num .i64 0,[]⟩ else none
 | .vec p _ l=>if FA P t&&S8 bx p then some ⟨none,.num .i64 (l.length:Int),[]⟩ else none
 | .hand b _ _ len=>match bx b with
  | .D1 _ _=>if FA P t then some ⟨none,.num .i64 (len:Int),[]⟩ else none
  |_=>none
 | .avec b _ _ n=>match bx b with
  | .cells _=>if FA P t then some ⟨none,.num .i64 (n:Int),[]⟩ else none
  |_=>none
 |_=>none
def CD (P:Program) (bx:Nat→Box) (n:Nat) (t:TypeId):AV→AV→Option Eff
 | .nilS,.dig p l=>match y6 P t with
  |some _=>if S8 bx p then some ⟨some (l.length≤2^40),.dig [n] l,[(n,.G4)]⟩ else none
  |none=>none
 | .own b,.dig p xs=>match bx b,y6 P t with
  | .D1 T l,some e=>if T=e&&S8 bx p then some ⟨some (0≤xs.length∧l.length+xs.length≤2^40),.own n,[(b,.dead),(n,.D1 T (l++xs))]⟩ else none
  |_,_=>none
 |_,_=>none
def B9p:AV→AV→Option Eff
 | .num k x,.num k' y=>if k=k' then some ⟨none,.num k (if y>x then y else x),[]⟩ else none
 |_,_=>none
def B9q:AV→AV→Option Eff
 | .num k x,.num k' y=>if k=k' then some ⟨none,.num k (if y<x then y else x),[]⟩ else none
 |_,_=>none
def KO (P:Program) (bx:Nat→Box) (n:Nat) (b:Builtin) (argTypes:List TypeId) (args:List AV):Option Eff:=
 match b with
 | .len=>match argTypes,args with
  |[t],[x]=>A8h P bx t x
  |_,_=>none
 | .max=>match args with
  |[x,y]=>B9p x y
  |_=>none
 | .min=>match args with
  |[x,y]=>B9q x y
  |_=>none
 | .append=>match argTypes,args with
  |[t,t'],[x,y]=>if t=t' then CD P bx n t x y else none
  |_,_=>none
 |_=>none
def eff (P:Program) (Φ:Nat→List AV→Option Spec) (na:Nat) (drawn:Bool) (ρ:Operand→AV) (bx:Nat→Box) (n:Nat) (o:Oper):Option Eff:=
 match o.op with
 | .move x| .assign x=>some ⟨none,ρ x,[]⟩
 | .pick c a b=>match ρ c with
  | .bool t=>some ⟨none,ZM t (ρ a) (ρ b),[]⟩
  |_=>none
 | .alloc t=>match zeroCells P t with
  |some zs=>some ⟨none,.addr n 0,[(n,.cells zs)]⟩
  |none=>none
 | .box _ x=>match (ρ x).cells with
  |some cs=>some ⟨none,.addr n 0,[(n,.cells cs)]⟩
  |none=>none
 | .build t parts=>match placeOf P t,zeroCells P t with
  |some pl,some zs=>match B2k pl zs (parts.toList.map fun (i,x)=>(i,ρ x)) with
   |some cs=>some ⟨none,.agg cs,[]⟩
   |none=>none
  |_,_=>none
 | .buildSlice t len parts=>
  match SQ 0 (parts.toList.map fun (i,x)=>(i,ρ x)) with
  |none=>none
  |some els=>if els.length=len∧len≤64 then
    (if CG P t then match V7 els with
     |some l=>if l.isEmpty then (match y6 P t with
      |some e=>some ⟨none,.own n,[(n,.D1 e [])]⟩
      |none=>none) else some ⟨none,.dig [n] l,[(n,.G4)]⟩
     |none=>none
    else match NJ P t with
     |some s=>if 0<s∧s≤64∧YR s els then some ⟨none,.vec [n] s els,[(n,.G4)]⟩ else none
     |none=>none)
   else none
 | .load t a=>match ρ a with
  | .addr b off=>match bx b with
   | .cells cs=>match JC P t (cs.drop off) with
    |some v=>some ⟨none,v,[]⟩
    |none=>none
   | .D1 T l=>match isAgg P t with
    |some false=>some ⟨some (off<l.length),.num .u32 (l.getD off 0:Nat),[]⟩
    |_=>none
   |_=>none
  | .cref p cs=>if S8 bx p then match JC P t cs with
    |some v=>some ⟨none,v,[]⟩
    |none=>none
   else none
  |_=>none
 | .store t a x=>match ρ a with
  | .addr b off=>match bx b with
   | .cells cs=>match (ρ x).cells,BE P t with
    |some xs,some s=>if xs.length=s∧off+s≤cs.length∧xs.all AV.IM=true then some ⟨none,.junk,[(b,.cells (GM off xs cs))]⟩ else none
    |_,_=>none
   | .D1 T l=>match ρ x,BE P t with
    | .num .u32 v,some 1=>some ⟨some (off<l.length),.junk,[(b,.D1 T (l.set off v.toNat))]⟩
    |_,_=>none
   |_=>none
  |_=>none
 | .binOp op t x y _=>match B8b op (ZA P t) y (ρ x) (ρ y) with
  |some (p,v)=>some ⟨p,v,[]⟩
  |none=>ZR P op t (ρ x) (ρ y)
 | .unOp op _ x=>match D47 op (ρ x) with
  |some v=>some ⟨none,v,[]⟩
  |none=>none
 | .convert src dst x=>match A87 P src,A87 P dst,ρ x with
  |some _,some k,.num _ v=>some ⟨none,.num k (k.wrap v),[]⟩
  |_,_,_=>none
 | .makeSlice t l c=>match y6 P t,ρ l,ρ c with
  |some e,.num _ x,.num _ y=>some ⟨some (0≤x∧x≤y∧y≤2^40),.own n,[(n,.D1 e (B2 x.toNat 0))]⟩
  |_,_,_=>none
 | .slice t x lo hi mx=>match CG P t,ρ x,mx with
  |true,.dig p l,none=>if S8 bx p then
    match lo,hi with
    |some lo,none=>match ρ lo with
     | .num _ a=>some ⟨some (0≤a∧a≤l.length),.dig p (l.drop a.toNat),[]⟩
     |_=>none
    |none,some hi=>match ρ hi with
     | .num _ b=>some ⟨some (0≤b∧b≤l.length),.dig p (l.take b.toNat),[]⟩
     |_=>none
    |some lo,some hi=>match ρ lo,ρ hi with
     | .num _ a,.num _ b=>some ⟨some (0≤a∧a≤b∧b≤l.length),.dig p ((l.take b.toNat).drop a.toNat),[]⟩
     |_,_=>none
    |none,none=>some ⟨none,.dig p l,[]⟩
   else none
  |true,.own b,none=>match bx b with
   | .D1 _ l=>
    match lo,hi with
    |none,some hi=>match ρ hi with
     | .num _ c=>some ⟨some (0<l.length∧0≤c∧c≤l.length),.hand b none 0 c.toNat,[]⟩
     |_=>none
    |some lo,some hi=>match ρ lo,ρ hi with
     | .num _ a,.num _ c=>some ⟨some (0≤a∧a<c∧c≤l.length),.hand b none a.toNat (c.toNat-a.toNat),[]⟩
     |_,_=>none
    |_,_=>none
   |_=>none
  |true,.hand b gc off len,none=>match bx b with
   | .D1 _ _=>
    match lo,hi with
    |none,some hi=>match ρ hi with
     | .num _ c=>some ⟨some (0≤c∧c≤len),.hand b gc off c.toNat,[]⟩
     |_=>none
    |_,_=>none
   |_=>none
  |false,.addr b off,none=>match lo,hi with
   |some lo,none=>match ρ lo with
    | .num _ l=>match bx b,C3p P t with
     | .cells _,some (m,s)=>if 0≤l∧l<m then some ⟨none,.avec b (off+l.toNat*s) s (m-l.toNat),[]⟩ else none
     |_,_=>none
    |_=>none
   |_,_=>none
  |_,_,_=>none
 | .fieldAddr t x f=>match YW P t f,ρ x with
  |some (off,s,_),.addr b o=>if s=0 then none else match bx b with
   | .cells _=>some ⟨none,.addr b (o+off),[]⟩
   |_=>none
  |some (off,s,_),.cref p cs=>if s=0 then none else some ⟨none,.cref p (cs.drop off),[]⟩
  |_,_=>none
 | .field t x f=>match YW P t f,ρ x with
  |some (off,_,ty),.agg cs=>match JC P ty (cs.drop off) with
   |some v=>some ⟨none,v,[]⟩
   |none=>none
  |_,_=>none
 | .indexAddr t x ix=>match ρ x,ρ ix with
  | .dig p l,.num _ i=>if CG P t&&S8 bx p then some ⟨some (0≤i∧i<l.length),.cref p [.num .u32 (l.getD i.toNat 0:Nat)],[]⟩ else none
  | .own b,.num _ i=>match bx b with
   | .D1 T l=>if CG P t then some ⟨some (0≤i∧i<l.length),.addr b i.toNat,[]⟩ else none
   |_=>none
  | .hand b _ lo len,.num _ i=>match bx b with
   | .D1 T l=>if CG P t then some ⟨some (0≤i∧i<len),.addr b (lo+i.toNat),[]⟩ else none
   |_=>none
  | .vec p s l,.num _ i=>if NJ P t=some s&&S8 bx p then match (l.getD i.toNat .junk).cells with
    |some cs=>some ⟨some (0≤i∧i<l.length),.cref p cs,[]⟩
    |none=>none
   else none
  | .addr b off,.num _ i=>match bx b,C3p P t with
   | .cells _,some (m,s)=>if 0≤i∧i<m then some ⟨none,.addr b (off+i.toNat*s),[]⟩ else none
   |_,_=>none
  | .avec b off s m,.num _ i=>match bx b with
   | .cells _=>if NJ P t=some s∧0≤i∧i<m then some ⟨none,.addr b (off+i.toNat*s),[]⟩ else none
   |_=>none
  |_,_=>none
 | .extract x i=>match ρ x with
  | .tup vs=>match vs[i]? with
   |some v=>some ⟨none,v,[]⟩
   |none=>none
  |_=>none
 | .call c=>match c.callee with
  | .value f=>match ρ f with
   | .fn f caps=>match YZ na bx drawn Φ n f ((c.args.toList.map ρ)++caps) with
    |some e=>some e
    |none=>YT na bx drawn Φ n f ((c.args.toList.map ρ)++caps)
   |_=>none
  | .builtin b=>KO P bx n b c.argTypes.toList (c.args.toList.map ρ)
  |_=>none
 | .makeFunc (.func f) first captured=>if first.size=0 then some ⟨none,.fn f (captured.toList.map ρ),[]⟩ else none
 |_=>none
def F5:Op→Bool
 | .alloc _| .box .. | .buildSlice .. | .makeSlice .. =>true
 | .call c=>match c.callee with
  | .builtin .append=>true
  | .builtin _=>false
  |_=>true
 |_=>false
def number:Nat→List Oper→List (Nat×Oper)
 |_,[]=>[]
 |n,o::l=>(n,o)::number (if F5 o.op then n+1 else n) l
def X9:List Oper→Nat
 |[]=>0
 |o::l=>(if F5 o.op then 1 else 0)+X9 l
def St.put (σ:St) (dst:Option Tmp) (v:AV):St:=
 match dst with
 |some d=>{σ with tmps:=σ.tmps.set d v}
 |none=>σ
def F4 (bs:List Box):List (Nat×Box)→List Box
 |[]=>bs
 |(i,b)::u=>F4 (bs.set i b) u
def St.apply (σ:St) (dst:Option Tmp) (e:Eff):St:=
 St.put {σ with boxes:=F4 σ.boxes e.upd} dst e.val
def B9o (p:Nat→Bool) (bx:Nat→Box):Nat→Box:=fun i=>if p i then bx i else .unborn
def D66 (z o:Oper):Bool:=match z.dst with
 |some d=>o.op.operands.any fun x=>match x with
  | .tmp t=>t==d
  |_=>false
 |none=>false
def reach (ops:Array Oper):Nat→Oper→List Nat
 |0,_=>[]
 |f+1,o=>o.after.toList.flatMap fun e=>if Region.binds .any e then (match ops[e.on]? with
  |some z=>if D66 z o then e.on::reach ops f z else []
  |none=>[]) else []
def vis (lim:Nat) (ops:Array Oper) (o:Oper):List Nat:=(reach ops 12 o).filterMap fun i=>match (number lim ops.toList)[i]? with
 |some z=>if F5 z.2.op then some z.1 else none
 |none=>none
def T1:Op→Bool
 | .store .. =>true
 | .call c=>match c.callee with
  | .builtin .append=>true
  |_=>false
 |_=>false
def loose (ops:Array Oper) (o:Oper):Bool:=T1 o.op&&(o.after.any fun e=> !Region.binds .any e)&&(match o.op with
 | .store _ (.tmp d) _=>ops.toList.any fun z=>(match z.op with
  | .alloc _=>true
  |_=>false)&&(match z.dst with
   |some t=>t==d
   |none=>false)
 |_=>false)
def sharp (ban:Option (List Nat)) (ops:Array Oper) (o:Oper):Bool:=ban.isSome&&(match o.op with
 | .store _ (.tmp d) _=> !ops.any fun z=>match z.dst with
  |some t=>t==d
  |none=>false
 |_=>false)
def OH (ban:Option (List Nat)) (o:Oper):Bool:=ban.isSome&&(match o.op with
 | .call c=>(match c.callee with
  | .builtin .append=>true
  |_=>false)
 |_=>false)
def UH (ban:Option (List Nat)) (lim:Nat) (ops:Array Oper) (o:Oper):Nat→Bool:=bif T1 o.op then (bif loose ops o then fun i=>(vis lim ops o).contains i else bif sharp ban ops o then fun i=>decide (i<lim)&&(ban.getD []).contains i else fun _=>true) else fun i=>(decide (i<lim)&& !(ban.getD []).contains i)||(vis lim ops o).contains i
def PW (ban:Option (List Nat)) (lim:Nat) (ops:Array Oper) (o:Oper) (bx:Nat→Box):Nat→Box:=bif OH ban o then fun i=>bif decide (i<lim) then (match bx i with
  | .G4=> .G4
  |_=> .unborn) else bif (vis lim ops o).contains i then bx i else .unborn
 else B9o (UH ban lim ops o) bx
def C4m (ban:Option (List Nat)) (ops:Array Oper) (s m:Oper):Bool:= !T1 m.op&&bif (loose ops s||OH ban s) then ((reach ops 12 s).all fun i=> !(reach ops 12 m).contains i||(match ops[i]? with
 |some z=> !F5 z.op
 |none=>true)) else sharp ban ops s
def B88 (tmps:List AV) (ops:Array Oper):List Nat:=ops.toList.filterMap fun o=>match o.op with
 | .store _ (.tmp d) _=>(match tmps.getD d .junk with
  | .addr b _=>some b
  |_=>none)
 |_=>none
def LQ:AV→(AV→Prop)→Prop
 | .dig p l,k=>∀l',l'=l→k (.dig p l')
 | .num kd n,k=>∀n',n'=n→k (.num kd n')
 | .bool b,k=>∀b',b'=b→k (.bool b')
 |v,k=>k v
def LS:List AV→(List AV→Prop)→Prop
 |[],k=>k []
 |v::l,k=>LQ v fun v'=>LS l fun l'=>k (v'::l')
def A2a:AV→(AV→Prop)→Prop
 | .agg cs,k=>LS cs fun cs'=>k (.agg cs')
 |v,k=>LQ v k
def PN:List AV→(List AV→Prop)→Prop
 |[],k=>k []
 |v::l,k=>A2a v fun v'=>PN l fun l'=>k (v'::l')
def A6v:AV→(AV→Prop)→Prop
 | .agg cs,k=>LS cs fun cs'=>k (.agg cs')
 | .tup cs,k=>PN cs fun cs'=>k (.tup cs')
 |v,k=>k v
def C8d:Op→Bool
 | .call c=>match c.callee with
  | .builtin _=>false
  |_=>true
 |_=>false
def D3y:Op→Bool
 | .binOp _ _ _ (.const (.int _ n)) _=>decide (4294967296<n.natAbs)
 |_=>false
def MF (P:Program) (Φ:Nat→List AV→Option Spec) (na:Nat) (drawn:Bool) (F:(Nat→Box)→Nat→Box) (σ:St) (x:Nat×Oper) (k:St→Prop):Prop:=
 match eff P Φ na drawn σ.eval (if drawn then F σ.box else σ.box) x.1 x.2 with
 |some e=>C6 e.pre (cond (C8d x.2.op) (A6v e.val fun v=>k (σ.apply x.2.dst ⟨e.pre,v,e.upd⟩)) (cond (D3y x.2.op) (LQ e.val fun v=>k (σ.apply x.2.dst ⟨e.pre,v,e.upd⟩)) (k (σ.apply x.2.dst e))))
 |none=>False
def evR (P:Program) (Φ:Nat→List AV→Option Spec) (na:Nat) (drawn:Bool) (ban:Option (List Nat)) (lim:Nat) (ops:Array Oper):List (Nat×Oper)→St→(St→Prop)→Prop
 |[],σ,k=>k σ
 |x::rest,σ,k=>
  match x.2.guard with
  |none=>MF P Φ na drawn (PW ban lim ops x.2) σ x fun σ'=>evR P Φ na drawn ban lim ops rest σ' k
  |some (j,want)=>
   match (ops[j]?).bind (·.dst) with
   |none=>False
   |some d=>
    match σ.tmps.getD d .junk with
    | .bool b=>
     cond b
      (cond want (MF P Φ na drawn (PW ban lim ops x.2) (σ.put (some d) (.bool true)) x fun σ'=>evR P Φ na drawn ban lim ops rest σ' k) (evR P Φ na drawn ban lim ops rest ((σ.put (some d) (.bool true)).put x.2.dst (.tup [])) k))
      (cond want (evR P Φ na drawn ban lim ops rest ((σ.put (some d) (.bool false)).put x.2.dst (.tup [])) k) (MF P Φ na drawn (PW ban lim ops x.2) (σ.put (some d) (.bool false)) x fun σ'=>evR P Φ na drawn ban lim ops rest σ' k))
    | .tup []=>evR P Φ na drawn ban lim ops rest (σ.put x.2.dst (.tup [])) k
    |_=>False
def SR:Op→Bool
 | .alloc _| .box .. | .buildSlice .. | .makeSlice .. | .load .. | .store .. | .indexAddr .. | .slice .. | .fieldAddr .. =>true
 | .call _=>true
 |_=>false
def JS (ban:Option (List Nat)) (ops:Array Oper) (x y:Oper):Bool:=
 !(x.apart ops y)||(T1 x.op&&SR y.op&& !C4m ban ops x y)||(SR x.op&&T1 y.op&& !C4m ban ops y x)
def ED (ban:Option (List Nat)) (ops:Array Oper):Bool:=
 let l:=ops.toList.zipIdx
 l.all fun (y,j)=>(y.after.all fun e=> !Region.binds .any e||decide (e.on<j))&&l.all fun (x,i)=> !decide (i<j)|| !JS ban ops x y||(y.after.any fun e=>Region.binds .any e&&decide (e.on=i))||y.after.any fun e=>Region.binds .any e&&(match ops[e.on]? with
  |some z=>z.after.any fun e'=>Region.binds .any e'&&decide (e'.on=i)
  |none=>false)
def A84:List Nat→(List Nat→Prop)→Prop
 |[],k=>k []
 |x::l,k=>A84 l fun r=>k (x::r)
def BR (na:Nat):List Nat:=(MR (na+1)).map (·+1)
def PG (p:List Nat):Bool:=p.all fun i=>decide (0<i)
mutual
def AV.merge (bx:Nat→Box) (na:Nat) (any:Bool):AV→Option AV
 | .junk=>some .junk
 | .num k n=>some (.num k n)
 | .bool b=>some (.bool b)
 | .nilS=>some (.dig (if any then BR na else [na+1]) [])
 | .dig p l=>if S8 bx p&&PG p then
   (if any then some (.dig (BR na) l)
   else if p.all (fun i=>decide (na<i)) then some (.dig [na+1] l) else some (.dig (BR na) l)) else none
 | .vec p n l=>if S8 bx p&&PG p then match AV.IZ bx na any l with
   |some l'=>some (.vec (if any then BR na else if p.all (fun i=>decide (na<i)) then [na+1] else BR na) n l')
   |none=>none
   else none
 | .agg cs=>match AV.IZ bx na any cs with
  |some cs'=>some (.agg cs')
  |none=>none
 | .tup cs=>match AV.IZ bx na any cs with
  |some cs'=>some (.tup cs')
  |none=>none
 | .fn f caps=>match AV.IZ bx na any caps with
  |some cs'=>some (.fn f cs')
  |none=>none
 | .cref p cs=>if S8 bx p&&PG p then match AV.IZ bx na any cs with
   |some l'=>some (.cref (BR na) l')
   |none=>none
   else none
 |_=>none
def AV.IZ (bx:Nat→Box) (na:Nat) (any:Bool):List AV→Option (List AV)
 |[]=>some []
 |c::cs=>match AV.merge bx na any c with
  |none=>none
  |some c'=>match AV.IZ bx na any cs with
   |none=>none
   |some cs'=>some (c'::cs')
end
def DK (bx:Nat→Box) (na:Nat) (kp:Keep):AV→Option AV
 | .addr b off=>if off=0 then match bx b with
   | .cells cs=>match AV.IZ bx na kp.C8c cs with
    |some cs'=>some (.boxv cs')
    |none=>none
   |_=>none
   else none
 | .own b=>match bx b with
  | .D1 T l=>some (.grown T l)
  |_=>none
 | .hand b gc lo len=>match bx b with
  | .D1 T l=>some (.handv T l gc lo len)
  |_=>none
 | .nilS=>match kp with
  | .grow T=>some (.grown T [])
  |_=>AV.merge bx na kp.C8c .nilS
 |v=>AV.merge bx na kp.C8c v
def DS:List (Keep×AV)→List (Option Nat)
 |[]=>[]
 |(kp,v)::l=>match v with
  | .own b=>some b::DS l
  | .hand b _ _ _=>some b::DS l
  | .addr b _=>some b::DS l
  | .nilS=>match kp with
   | .grow _=>none::DS l
   |_=>DS l
  |_=>DS l
def view (na:Nat) (σ:St):List (Nat×Keep)→Option (List AV)
 |[]=>some []
 |(t,kp)::keep=>match DK σ.box na kp (σ.tmps.getD t .junk) with
  |none=>none
  |some v=>match view na σ keep with
   |none=>none
   |some vs=>some (v::vs)
def E0 (σ:St) (keep:List (Nat×Keep)):List (Option Nat):=DS (keep.map fun x=>(x.2,σ.tmps.getD x.1 .junk))
def nodup (l:List Nat):Bool:=(AN l).length==l.length
def DH:(n:Nat)→List (Nat×Keep)→List AV→List AV→List AV
 |n,x::keep,v::vals,tmps=>
  match v with
  | .grown _ _=>DH (n+1) keep vals (tmps.set x.1 (.own n))
  | .boxv _=>DH (n+1) keep vals (tmps.set x.1 (.addr n 0))
  | .handv _ _ gc lo len=>DH (n+1) keep vals (tmps.set x.1 (.hand n gc lo len))
  |v=>DH n keep vals (tmps.set x.1 v)
 |_,_,_,tmps=>tmps
def N0:List AV→List Box
 |[]=>[]
 |v::l=>match v with
  | .grown T l'=> .D1 T l'::N0 l
  | .boxv cs=> .cells cs::N0 l
  | .handv T l' _ _ _=> .D1 T l'::N0 l
  |_=>N0 l
def layOut (na nt:Nat) (keep:List (Nat×Keep)) (vals:List AV):St:=
 ⟨DH (na+2) keep vals (B2 nt .junk),B2 (na+2) .G4++N0 vals⟩
def j0:LR→(Exit→List AV→Prop)→Prop
 | .done e v,k=>k e v
 | .test b x y,k=>cond b (j0 x k) (j0 y k)
 | .need p x,k=>p∧j0 x k
def P3:Code→Nat
 | .region id _ _=>id
 | .seq a _=>P3 a
 | .block _ a=>P3 a
 | .loop a=>P3 a
 | .scope a=>P3 a
 |_=>0
def VH (na:Nat) (keep:List (Nat×Keep)) (σ:St) (k:List AV→Prop):Prop:=
 match view na σ keep with
 |some vals=>cond (nodup ((E0 σ keep).filterMap id)) (k vals) False
 |none=>False
def C46:AV→Bool
 | .handv .. =>true
 |_=>false
def C1v:AV→(AV→Prop)→Prop
 | .handv T L gc lo len,k=>∀L',L'=L→k (.handv T L' gc lo len)
 |v,k=>LQ v k
def ZO:List AV→(List AV→Prop)→Prop
 |[],k=>k []
 |v::l,k=>C1v v fun v'=>ZO l fun l'=>k (v'::l')
def A29 (vals:List AV) (k:List AV→Prop):Prop:=cond (vals.any C46) (ZO vals k) (k vals)
def D3w (id:Nat) (k:Exit→St→Prop):Exit→St→Prop
 | .exit i,σ=>if i=id then k .normal σ else k (.exit i) σ
 |e,σ=>k e σ
def D6b (f:St→Prop) (k:Exit→St→Prop):Exit→St→Prop
 | .normal,σ=>f σ
 |e,σ=>k e σ
def B0s (f:St→(Exit→St→Prop)→Prop):Nat→St→(Exit→St→Prop)→Prop
 |0,_,_=>False
 |n+1,σ,k=>f σ (D6b (fun σ'=>B0s f n σ' k) k)
def C26 (Λ:Nat→Option LoopAnn) (id:Nat):Bool:=match Λ (id+1000000) with
 |some _=>true
 |none=>false
def B96:Box→Bool
 | .D1 .. =>true
 |_=>false
def FZ (σ:St):List Nat:=(MR σ.boxes.length).filter fun i=>B96 (σ.box i)
def D1o (bx:Nat→Box) (n:Nat) (c:AV):AV:=match RF bx c with
 |some _=>(AV.asArg bx n 8 c).getD .junk
 |none=>c
def C6h (σ:St):St:=⟨σ.tmps.map (D1o σ.box σ.boxes.length),F4 (σ.boxes++[.G4]) ((FZ σ).map fun i=>(i,.dead))⟩
def evC (P:Program) (Φ:Nat→List AV→Option Spec) (Λ:Nat→Option LoopAnn) (na:Nat):Code→St→(Exit→St→Prop)→Prop
 | .skip,σ,k=>k .normal σ
 | .region id ops draw,σ0,k=>
  let σ:=cond (C26 Λ id) (C6h σ0) σ0
  let lim:=σ.boxes.length
  let σ':St:={σ with boxes:=σ.boxes++B2 (X9 ops.toList) .unborn}
  match draw with
  |false=>evR P Φ na false none lim ops (number lim ops.toList) σ' (fun σ=>k .normal σ)
  |true=>cond (ED none ops) (evR P Φ na true none lim ops (number lim ops.toList) σ' (fun σ=>k .normal σ)) (A84 (B88 σ.tmps ops) fun ban=>cond (ED (some ban) ops) (evR P Φ na true (some ban) lim ops (number lim ops.toList) σ' (fun σ=>k .normal σ)) False)
 | .seq a b,σ,k=>evC P Φ Λ na a σ (D6b (fun σ'=>evC P Φ Λ na b σ' k) k)
 | .cond c a b,σ,k=>
  match σ.eval c with
  | .bool t=>match c with
   | .tmp d=>cond t (evC P Φ Λ na a (σ.put (some d) (.bool true)) k) (evC P Φ Λ na b (σ.put (some d) (.bool false)) k)
   |_=>cond t (evC P Φ Λ na a σ k) (evC P Φ Λ na b σ k)
  |_=>False
 | .block id a,σ,k=>evC P Φ Λ na a σ (D3w id k)
 | .loop a,σ,k=>
  match Λ (P3 a) with
  |some (.unroll n)=>B0s (evC P Φ Λ na a) n σ k
  |some (.raw g)=>match g σ with
   |some r=>k r.1 r.2
   |none=>False
  |some (.spec keep ls)=>VH na keep σ fun vals=>A29 vals fun vals=>
   match ls vals with
   |some r=>j0 r fun e vals'=>A29 vals' fun vals'=>k e (layOut na σ.tmps.length keep vals')
   |none=>False
  |none=>False
 | .exit id,σ,k=>k (.exit id) σ
 | .ret,σ,k=>k .ret σ
 |_,_,_=>False
def M7 (P:Program) (Φ:Nat→List AV→Option Spec) (Λ:Nat→Option LoopAnn) (na nt:Nat) (keep:List (Nat×Keep)) (body:Code) (vals:List AV) (K:Exit→List AV→Prop):Prop:=
 evC P Φ Λ na body (layOut na nt keep vals) fun e σ=>VH na keep σ fun vals'=>K e vals'
mutual
def AV.CT (bx:Nat→Box) (na:Nat) (alias:Bool):AV→Option AV
 | .junk=>none
 | .num k n=>some (.num k n)
 | .bool b=>some (.bool b)
 | .nilS=>some (.dig (if alias then MR (na+1) else [0]) [])
 | .dig p l=>if S8 bx p then
   (if alias then (if p.contains 0 then none else some (.dig (MR (na+1)) l))
   else if p.all (fun i=>decide (na<i)) then some (.dig [0] l) else none) else none
 | .own b=>match bx b with
  | .D1 T l=>some (.dig (if alias then MR (na+1) else [0]) l)
  |_=>none
 | .agg cs=>match AV.QX bx na alias cs with
  |some cs'=>some (.agg cs')
  |none=>none
 | .vec p n l=>if S8 bx p then match AV.QX bx na alias l with
   |some l'=>if alias then (if p.contains 0 then none else some (.vec (MR (na+1)) n l')) else if p.all (fun i=>decide (na<i)) then some (.vec [0] n l') else none
   |none=>none
   else none
 |_=>none
def AV.QX (bx:Nat→Box) (na:Nat) (alias:Bool):List AV→Option (List AV)
 |[]=>some []
 |c::cs=>match AV.CT bx na alias c with
  |none=>none
  |some c'=>match AV.QX bx na alias cs with
   |none=>none
   |some cs'=>some (c'::cs')
end
def A1y (P:Program) (σ:St):ResultVar→Option AV
 | .tmp t=>some (σ.tmps.getD t .junk)
 | .cell a t=>match σ.tmps.getD a .junk with
  | .addr b off=>match σ.box b with
   | .cells cs=>JC P t (cs.drop off)
   |_=>none
  |_=>none
def CJ (P:Program) (σ:St):List ResultVar→Option (List AV)
 |[]=>some []
 |r::rs=>match A1y P σ r with
  |none=>none
  |some v=>match CJ P σ rs with
   |none=>none
   |some vs=>some (v::vs)
def YX (P:Program) (fn:Func) (na:Nat) (alias:Bool) (Q:AV→Prop) (σ:St):Prop:=
 match CJ P σ fn.results.toList with
 |none=>False
 |some vs=>match AV.QX σ.box na alias vs with
  |none=>False
  |some [v]=>Q v
  |some vs=>Q (.tup vs)
def evF (P:Program) (Φ:Nat→List AV→Option Spec) (Λ:Nat→Option LoopAnn) (alias:Bool) (fn:Func) (args:List AV) (Q:AV→Prop):Prop:=
 match fn.body with
 |none=>False
 |some c=>evC P Φ Λ args.length c ⟨args++B2 (fn.ntmps-args.length) .junk,B2 (args.length+1) .G4⟩ fun e σ=>
  match e with
  | .normal| .ret=>YX P fn args.length alias Q σ
  |_=>False
def A81 (P:Program) (fn:Func) (T:TypeId) (L:List Nat) (g cap lo len:Nat) (Q:AV→Prop) (σ:St):Prop:=
 match σ.tmps.getD 0 .junk with
 | .hand b (some (g',_)) _ _=>match σ.box b with
  | .D1 T' L'=>g'=g∧T'=T∧L'.length=L.length∧match CJ P σ fn.results.toList with
   |some [.num k d]=>Q (.boxv [.dig [] L',.num k d])
   |some [.hand b' (some (g'',cap')) lo' k]=>g''=g∧cap'=cap∧lo'=lo∧k≤len∧Q (.boxv [.dig [] L',.addr 0 k])
   |_=>False
  |_=>False
 |_=>False
def evH (P:Program) (Φ:Nat→List AV→Option Spec) (Λ:Nat→Option LoopAnn) (fn:Func) (T:TypeId) (L:List Nat) (g cap lo len:Nat) (args:List AV) (Q:AV→Prop):Prop:=
 match fn.body with
 |none=>False
 |some c=>evC P Φ Λ (args.length+1) c ⟨.hand (args.length+2) (some (g,cap)) lo len::args++B2 (fn.ntmps-(args.length+1)) .junk,B2 (args.length+2) .G4++[.D1 T L]⟩ fun e σ=>
  match e with
  | .normal| .ret=>A81 P fn T L g cap lo len Q σ
  |_=>False
def A82 (P:Program) (fn:Func) (Q:AV→Prop) (σ:St):Prop:=
 match CJ P σ fn.results.toList with
 |some [.own b]=>match σ.box b with
  | .D1 T l=>Q (.grown T l)
  |_=>False
 |_=>False
def evO (P:Program) (Φ:Nat→List AV→Option Spec) (Λ:Nat→Option LoopAnn) (fn:Func) (args:List AV) (Q:AV→Prop):Prop:=
 match fn.body with
 |none=>False
 |some c=>evC P Φ Λ args.length c ⟨args++B2 (fn.ntmps-args.length) .junk,B2 (args.length+1) .G4⟩ fun e σ=>
  match e with
  | .normal| .ret=>A82 P fn Q σ
  |_=>False
end Go.AI

namespace Go.AI
open Go Go.RowKit
set_option linter.unusedVariables false
set_option linter.unusedSimpArgs false
structure Ctx where
 bs:Nat→Box
 β:Nat→Nat→Prop
 w:World
def Ctx.alive (C:Ctx) (p:List Nat):Prop:=∀i ∈ p,C.bs i= .G4
def Ctx.born (C:Ctx) (p:List Nat):Prop:=∀i ∈ p,C.bs i≠ .unborn
def Ctx.inP (C:Ctx) (p:List Nat) (b:Nat):Prop:=∃i ∈ p,C.β i b
def JI (w:World) (inP:Nat→Prop) (base:Option Addr) (cap:Nat) (l:List Nat):Prop:=
 (base=none∧l=[])∨
 ∃b off cells T fr,base=some ⟨b,off,none⟩∧inP b∧w.heap[b]? =some (.cells cells T fr)∧l.length≤cap∧
  (∀j,j<cap→off+j<cells.size)∧∀(j x:Nat),l[j]? =some x→cells[off+j]? =some (.int .u32 (x:Int))
def BC (l:List Nat):Prop:=l.length≤2^45∧∀x ∈ l,x<2^32
def Box.live:Box→Prop
 | .cells _| .D1 .. =>True
 |_=>False
def C3l (w:World) (inP:Nat→Prop) (n:Nat) (base:Option Addr) (cap:Nat) (us:List Value):Prop:=
 us=[]∨∃b off,base=some ⟨b,off,none⟩∧inP b∧us.length≤cap∧
  ∀(i:Nat) (u:Value) (j:Nat) (x:Value),us[i]? =some u→u.cells[j]? =some x→w.cell? ⟨b,off+i*n+j,none⟩=some x
mutual
def V (C:Ctx):AV→Value→Prop
 | .junk,_=>True
 | .num k n,v=>v= .int k n∧k.min≤n∧n≤k.max
 | .bool b,v=>v= .bool b
 | .nilS,v=>v= .slice none 0 0
 | .dig p l,v=>C.born p∧BC l∧∃base cap,v= .slice base l.length cap∧(C.alive p→JI C.w (C.inP p) base cap l)
 | .own b,v=>C.bs b≠ .unborn∧(∃base n cap,v= .slice base n cap)∧∀T l,C.bs b= .D1 T l→(v= .slice none 0 0∧l=[])∨
   ∃blk cap,C.β b blk∧v= .slice (some ⟨blk,0,none⟩) l.length cap∧l.length≤cap∧cap≤maxLen∧∃cs,C.w.heap[blk]? =some (.cells cs T (0,0))∧cap=cs.size
 | .vec p n l,v=>C.born p∧l.length≤2^45∧0<n∧∃base cap us,v= .slice base l.length cap∧Vs C l us∧(∀u ∈ us,u.cells.size=n)∧
   (C.alive p→C3l C.w (C.inP p) n base cap us)
 | .agg cs,v=>∃vs:List Value,v= .agg vs.toArray∧Vs C cs vs
 | .tup cs,v=>∃vs:List Value,v= .tuple vs.toArray∧Vs C cs vs
 | .addr b off,v=>C.bs b≠ .unborn∧((C.bs b).live→∃blk,C.β b blk∧v= .pointer (some ⟨blk,off,none⟩))
 | .cref p cs,v=>C.born p∧∃vs:List Value,Vs C cs vs∧∃b off,v= .pointer (some ⟨b,off,none⟩)∧
   (C.alive p→C.inP p b∧∀(j:Nat) (u:Value),vs[j]? =some u→C.w.cell? ⟨b,off+j,none⟩=some u)
 | .fn f caps,v=>∃vs:List Value,v= .func (.func f) #[] vs.toArray∧Vs C caps vs
 | .grown ..,_=>False
 | .boxv _,_=>False
 | .hand b gc lo len,v=>C.bs b≠ .unborn∧∃g cap,(gc=none∨gc=some (g,cap))∧v= .slice (some ⟨g,lo,none⟩) len cap∧len≤cap∧∀T L,C.bs b= .D1 T L→C.β b g∧lo+len≤L.length∧∃cs,C.w.heap[g]? =some (.cells cs T (0,0))∧lo+cap≤cs.size
 | .handv _ L _ lo len,_=>BC L∧lo+len≤L.length
 | .avec b off s n,v=>C.bs b≠ .unborn∧n≤64∧((C.bs b).live→∃blk,C.β b blk∧v= .slice (some ⟨blk,off,none⟩) n n)
def Vs (C:Ctx):List AV→List Value→Prop
 |[],[]=>True
 |c::cs,v::vs=>V C c v∧Vs C cs vs
 |_,_=>False
end
structure Le (C C':Ctx):Prop where
 born:∀i,C.bs i≠ .unborn→C'.bs i≠ .unborn
 G4:∀i,C.bs i≠ .unborn→C'.bs i= .G4→C.bs i= .G4∧∀x,C.β i x→C'.β i x∧C'.w.heap[x]? =C.w.heap[x]?
 D1:∀i T l',C.bs i≠ .unborn→C'.bs i= .D1 T l'→∃l,C.bs i= .D1 T l∧l.length=l'.length∧∀x,C.β i x→C'.β i x∧
  ∀cs,C.w.heap[x]? =some (.cells cs T (0,0))→∃cs',C'.w.heap[x]? =some (.cells cs' T (0,0))∧cs'.size=cs.size
 cells:∀i c',C.bs i≠ .unborn→C'.bs i= .cells c'→∃c,C.bs i= .cells c∧∀x,C.β i x→C'.β i x
theorem Le.alive {C C':Ctx} (h:Le C C') {p:List Nat} (hb:C.born p) (ha:C'.alive p):C.alive p:=
 fun i hi=>(h.G4 i (hb i hi) (ha i hi)).1
theorem Le.inP {C C':Ctx} (h:Le C C') {p:List Nat} (hb:C.born p) (ha:C'.alive p) {b:Nat} (hp:C.inP p b):C'.inP p b∧C'.w.heap[b]? =C.w.heap[b]? :=by
 obtain ⟨i,hi,hx⟩:=hp
 obtain ⟨_,h2⟩:=h.G4 i (hb i hi) (ha i hi)
 exact ⟨⟨i,hi,(h2 b hx).1⟩,(h2 b hx).2⟩
theorem Le.C6z {C C':Ctx} (h:Le C C') {p:List Nat} (hb:C.born p):C'.born p:=fun i hi=>h.born i (hb i hi)
theorem QC {w w':World} {b o:Nat} (h:w'.heap[b]? =w.heap[b]?):w'.cell? ⟨b,o,none⟩=w.cell? ⟨b,o,none⟩:=by
 simp only [World.cell?,h]
theorem JI.mono {w w':World} {f g:Nat→Prop} {base:Option Addr} {cap:Nat} {l:List Nat} (h:JI w f base cap l) (hf:∀b,f b→g b∧w'.heap[b]? =w.heap[b]?):JI w' g base cap l:=by
 rcases h with h|⟨b,off,cells,T,fr,h1,h2,h3,h4,h5⟩
 ·exact .inl h
 ·exact .inr ⟨b,off,cells,T,fr,h1,(hf b h2).1,(hf b h2).2.trans h3,h4,h5⟩
theorem C3l.mono {w w':World} {f g:Nat→Prop} {n:Nat} {base:Option Addr} {cap:Nat} {us:List Value} (h:C3l w f n base cap us) (hf:∀b,f b→g b∧w'.heap[b]? =w.heap[b]?):C3l w' g n base cap us:=by
 rcases h with h|⟨b,off,h1,h2,h3,h4⟩
 ·exact .inl h
 ·exact .inr ⟨b,off,h1,(hf b h2).1,h3,fun i u j x hi hj=>(QC (hf b h2).2).trans (h4 i u j x hi hj)⟩
mutual
theorem V.mono {C C':Ctx} (h:Le C C'):∀(av:AV) (v:Value),V C av v→V C' av v
 | .junk,_,_=>by simp only [V]
 | .num ..,_,hv=>by simp only [V] at hv ⊢;exact hv
 | .bool _,_,hv=>by simp only [V] at hv ⊢;exact hv
 | .nilS,_,hv=>by simp only [V] at hv ⊢;exact hv
 | .dig p l,_,hv=>by
  simp only [V] at hv ⊢
  obtain ⟨hb,hok,base,cap,rfl,hd⟩:=hv
  exact ⟨h.C6z hb,hok,base,cap,rfl,fun ha=>(hd (h.alive hb ha)).mono fun b hp=>h.inP hb ha hp⟩
 | .own b,v,hv=>by
  simp only [V] at hv ⊢
  obtain ⟨hb,hsl,hv⟩:=hv
  refine ⟨h.born b hb,hsl,fun T l' hl'=> ?_⟩
  obtain ⟨l,hl,hlen,hx⟩:=h.D1 b T l' hb hl'
  rcases hv T l hl with ⟨h1,h2⟩|⟨blk,cap,h1,h2,h3,h6,cs,h4,h5⟩
  ·subst h2
   exact .inl ⟨h1,List.eq_nil_of_length_eq_zero (by simpa using hlen.symm)⟩
  ·obtain ⟨hβ,hc⟩:=hx blk h1
   obtain ⟨cs',hc',hsz⟩:=hc cs h4
   exact .inr ⟨blk,cap,hβ,by rw [h2,hlen],by omega,h6,cs',hc',by omega⟩
 | .vec p n l,_,hv=>by
  simp only [V] at hv ⊢
  obtain ⟨hb,hlen,hn,base,cap,us,rfl,hus,hsz,hd⟩:=hv
  exact ⟨h.C6z hb,hlen,hn,base,cap,us,rfl,Vs.mono h _ _ hus,hsz,fun ha=>(hd (h.alive hb ha)).mono fun b hp=>h.inP hb ha hp⟩
 | .agg cs,_,hv=>by
  simp only [V] at hv ⊢
  obtain ⟨vs,rfl,hvs⟩:=hv
  exact ⟨vs,rfl,Vs.mono h _ _ hvs⟩
 | .tup cs,_,hv=>by
  simp only [V] at hv ⊢
  obtain ⟨vs,rfl,hvs⟩:=hv
  exact ⟨vs,rfl,Vs.mono h _ _ hvs⟩
 | .addr b off,_,hv=>by
  simp only [V] at hv ⊢
  obtain ⟨hb,hv⟩:=hv
  refine ⟨h.born b hb,fun hl=> ?_⟩
  have:(C.bs b).live∧∀x,C.β b x→C'.β b x:=by
   cases hc:C'.bs b with
   |unborn=>rw [hc] at hl;exact hl.elim
   |dead=>rw [hc] at hl;exact hl.elim
   |G4=>rw [hc] at hl;exact hl.elim
   |cells c'=>obtain ⟨c,h1,h2⟩:=h.cells b c' hb hc;rw [h1];exact ⟨trivial,h2⟩
   |D1 T l'=>obtain ⟨l,h1,_,h2⟩:=h.D1 b T l' hb hc;rw [h1];exact ⟨trivial,fun x hx=>(h2 x hx).1⟩
  obtain ⟨blk,h1,h2⟩:=hv this.1
  exact ⟨blk,this.2 blk h1,h2⟩
 | .cref p cs,_,hv=>by
  simp only [V] at hv ⊢
  obtain ⟨hb,vs,hvs,b,off,rfl,hd⟩:=hv
  refine ⟨h.C6z hb,vs,Vs.mono h _ _ hvs,b,off,rfl,fun ha=> ?_⟩
  obtain ⟨h1,h2⟩:=hd (h.alive hb ha)
  obtain ⟨h3,h4⟩:=h.inP hb ha h1
  exact ⟨h3,fun j u hj=>(QC h4).trans (h2 j u hj)⟩
 | .fn f caps,_,hv=>by
  simp only [V] at hv ⊢
  obtain ⟨vs,rfl,hvs⟩:=hv
  exact ⟨vs,rfl,Vs.mono h _ _ hvs⟩
 | .grown ..,_,hv=>by simp only [V] at hv
 | .boxv _,_,hv=>by simp only [V] at hv
 | .handv ..,_,hv=>by simp only [V] at hv ⊢;exact hv
 | .avec b off s n,_,hv=>by
  simp only [V] at hv ⊢
  obtain ⟨hb,hn,hv⟩:=hv
  refine ⟨h.born b hb,hn,fun hl=> ?_⟩
  have:(C.bs b).live∧∀x,C.β b x→C'.β b x:=by
   cases hc:C'.bs b with
   |unborn=>rw [hc] at hl;exact hl.elim
   |dead=>rw [hc] at hl;exact hl.elim
   |G4=>rw [hc] at hl;exact hl.elim
   |cells c'=>obtain ⟨c,h1,h2⟩:=h.cells b c' hb hc;rw [h1];exact ⟨trivial,h2⟩
   |D1 T l'=>obtain ⟨l,h1,_,h2⟩:=h.D1 b T l' hb hc;rw [h1];exact ⟨trivial,fun x hx=>(h2 x hx).1⟩
  obtain ⟨blk,h1,h2⟩:=hv this.1
  exact ⟨blk,this.2 blk h1,h2⟩
 | .hand b gc lo len,_,hv=>by
  simp only [V] at hv ⊢
  obtain ⟨hb,g,cap,hgc,rfl,hlc,hd⟩:=hv
  refine ⟨h.born b hb,g,cap,hgc,rfl,hlc,fun T L' hL'=> ?_⟩
  obtain ⟨L,hL,hlen,hx⟩:=h.D1 b T L' hb hL'
  obtain ⟨h1,h2,cs,h3,h4⟩:=hd T L hL
  obtain ⟨cs',h5,h6⟩:=(hx g h1).2 cs h3
  exact ⟨(hx g h1).1,by omega,cs',h5,by omega⟩
theorem Vs.mono {C C':Ctx} (h:Le C C'):∀(cs:List AV) (vs:List Value),Vs C cs vs→Vs C' cs vs
 |[],[],_=>by simp only [Vs]
 |c::cs,v::vs,hv=>by
  simp only [Vs] at hv ⊢
  exact ⟨V.mono h c v hv.1,Vs.mono h cs vs hv.2⟩
 |[],_::_,hv=>by simp only [Vs] at hv
 |_::_,[],hv=>by simp only [Vs] at hv
end
theorem Vs.length {C:Ctx}:∀{cs:List AV} {vs:List Value},Vs C cs vs→cs.length=vs.length
 |[],[],_=>rfl
 |_::_,_::_,h=>by simp only [Vs] at h;simp [Vs.length h.2]
 |[],_::_,h=>by simp only [Vs] at h
 |_::_,[],h=>by simp only [Vs] at h
theorem Vs.get {C:Ctx}:∀{cs:List AV} {vs:List Value},Vs C cs vs→∀{i:Nat} {c:AV},cs[i]? =some c→∃v,vs[i]? =some v∧V C c v
 |[],[],_,i,c,hc=>by simp at hc
 |c'::cs,v'::vs,h,0,c,hc=>by
  simp only [Vs] at h
  simp at hc
  subst hc
  exact ⟨v',by simp,h.1⟩
 |c'::cs,v'::vs,h,i+1,c,hc=>by
  simp only [Vs] at h
  simp at hc
  obtain ⟨v,h1,h2⟩:=h.2.get hc
  exact ⟨v,by simpa using h1,h2⟩
 |[],_::_,h,_,_,_=>by simp only [Vs] at h
 |_::_,[],h,_,_,_=>by simp only [Vs] at h
theorem Vs.D4o {C:Ctx}:∀{cs:List AV} {vs:List Value},Vs C cs vs→∀{i:Nat} {v:Value},vs[i]? =some v→∃c,cs[i]? =some c∧V C c v
 |[],[],_,i,c,hc=>by simp at hc
 |c'::cs,v'::vs,h,0,c,hc=>by
  simp only [Vs] at h
  simp at hc
  subst hc
  exact ⟨c',by simp,h.1⟩
 |c'::cs,v'::vs,h,i+1,c,hc=>by
  simp only [Vs] at h
  simp at hc
  obtain ⟨v,h1,h2⟩:=h.2.D4o hc
  exact ⟨v,by simpa using h1,h2⟩
 |[],_::_,h,_,_,_=>by simp only [Vs] at h
 |_::_,[],h,_,_,_=>by simp only [Vs] at h
theorem Vs.of {C:Ctx}:∀{cs:List AV} {vs:List Value},cs.length=vs.length→(∀(i:Nat) (c:AV) (v:Value),cs[i]? =some c→vs[i]? =some v→V C c v)→Vs C cs vs
 |[],[],_,_=>by simp only [Vs]
 |c::cs,v::vs,h,k=>by
  simp only [Vs]
  exact ⟨k 0 c v (by simp) (by simp),Vs.of (by simpa using h) fun i c' v' hc hv=>k (i+1) c' v' (by simpa using hc) (by simpa using hv)⟩
 |[],_::_,h,_=>by simp at h
 |_::_,[],h,_=>by simp at h
theorem Vs.at {C:Ctx} {cs:List AV} {vs:List Value} (h:Vs C cs vs) {i:Nat} {c:AV} {v:Value} (hc:cs[i]? =some c) (hv:vs[i]? =some v):V C c v:=by
 obtain ⟨v',h1,h2⟩:=h.get hc
 rw [h1] at hv
 cases hv
 exact h2
theorem Vs.set {C:Ctx} {cs:List AV} {vs:List Value} (h:Vs C cs vs) (i:Nat) {c:AV} {v:Value} (hc:V C c v):Vs C (cs.set i c) (vs.set i v):=by
 refine Vs.of (by simp [h.length]) fun j c' v' h1 h2=> ?_
 rw [BH] at h1 h2
 split at h1
 ·rename_i e
  subst e
  have:=h.length
  split at h1
  ·rw [if_pos rfl,if_pos (by omega)] at h2
   cases h1;cases h2;exact hc
  ·cases h1
 ·rename_i e
  rw [if_neg e] at h2
  exact h.at h1 h2
theorem Vs.append {C:Ctx} {cs ds:List AV} {vs us:List Value} (h:Vs C cs vs) (k:Vs C ds us):Vs C (cs++ds) (vs++us):=by
 have:=h.length
 have:=k.length
 refine Vs.of (by simp;omega) fun j c v h1 h2=> ?_
 rw [List.getElem?_append] at h1 h2
 split at h1
 ·rw [if_pos (by omega)] at h2;exact h.at h1 h2
 ·rw [if_neg (by omega)] at h2
  exact k.at h1 (by rwa [show vs.length=cs.length by omega] at h2)
theorem Vs.drop {C:Ctx} {cs:List AV} {vs:List Value} (h:Vs C cs vs) (n:Nat):Vs C (cs.drop n) (vs.drop n):=by
 refine Vs.of (by simp [h.length]) fun j c v h1 h2=> ?_
 rw [Y5] at h1 h2
 exact h.at h1 h2
theorem Vs.take {C:Ctx} {cs:List AV} {vs:List Value} (h:Vs C cs vs) (n:Nat):Vs C (cs.take n) (vs.take n):=by
 refine Vs.of (by simp [h.length]) fun j c v h1 h2=> ?_
 rw [AK] at h1 h2
 split at h1
 ·rename_i e;rw [if_pos e] at h2;exact h.at h1 h2
 ·cases h1
end Go.AI

namespace Go.AI
open Go Go.RowKit
set_option linter.unusedVariables false
set_option linter.unusedSimpArgs false
structure Grow (w w':World):Prop where
 below:Below w.heap.size w w'
 fresh:∀k,w.heap.size≤k→k<w'.heap.size→∃c T,w'.heap[k]? =some (.cells c T (0,0))
theorem Grow.refl (w:World):Grow w w:=⟨Below.refl _ _,fun k h1 h2=>by omega⟩
theorem Grow.trans {a b c:World} (h:Grow a b) (k:Grow b c):Grow a c:=by
 refine ⟨h.below.trans (k.below.mono h.below.size),fun j h1 h2=> ?_⟩
 by_cases hj:j<b.heap.size
 ·obtain ⟨c',T,he⟩:=h.fresh j h1 hj
  exact ⟨c',T,(k.below.block j hj).trans he⟩
 ·exact k.fresh j (by omega) h2
theorem Grow.drew {a b:World} (h:Grow a b):Grow a b.drew:=⟨h.below.drew,h.fresh⟩
theorem Grow.alloc {a b:World} (h:Grow a b) (cs:Array Value) (T:TypeId):Grow a (b.alloc (.cells cs T)):=by
 refine h.trans ⟨(Below.refl _ _).alloc (I6 _) _,fun k h1 h2=> ?_⟩
 have:k=b.heap.size:=by simp at h2;omega
 subst this
 exact ⟨cs,T,heap_alloc_new b _⟩
structure GrowS (S:Nat→Prop) (w w':World):Prop where
 meta0:Below 0 w w'
 block:∀x,x<w.heap.size→¬S x→w'.heap[x]? =w.heap[x]?
 inS:∀x c T,S x→w.heap[x]? =some (.cells c T (0,0))→∃c':Array Value,w'.heap[x]? =some (.cells c' T (0,0))∧c'.size=c.size
 fresh:∀k,w.heap.size≤k→k<w'.heap.size→∃c T,w'.heap[k]? =some (.cells c T (0,0))
 base:∀x,S x→∃c T,w.heap[x]? =some (.cells c T (0,0))
theorem B89 {n:Nat} {a b:World} (h:Below n a b):Below 0 a b:=⟨h.os,h.tape,h.output,h.size,fun k hk=>by omega⟩
theorem GrowS.refl {S:Nat→Prop} {w:World} (hS:∀x,S x→∃c T,w.heap[x]? =some (.cells c T (0,0))):GrowS S w w:=⟨Below.refl _ _,fun _ _ _=>rfl,fun x c T _ h=>⟨c,h,rfl⟩,fun k h1 h2=>by omega,hS⟩
theorem GrowS.B0n {S:Nat→Prop} {a b:World} (h:GrowS S a b) (hS:∀x,¬S x):Grow a b:=⟨⟨h.meta0.os,h.meta0.tape,h.meta0.output,h.meta0.size,fun k hk=>h.block k hk (hS k)⟩,h.fresh⟩
theorem GrowS.trans {S:Nat→Prop} {a b c:World} (h:GrowS S a b) (k:Grow b c):GrowS S a c:=by
 refine ⟨h.meta0.trans (B89 k.below),fun x hx hs=>(k.below.block x (G7 hx h.meta0.size)).trans (h.block x hx hs),fun x c1 T hs hc=> ?_,fun j h1 h2=> ?_,h.base⟩
 ·obtain ⟨c',he,hsz⟩:=h.inS x c1 T hs hc
  exact ⟨c',(k.below.block x (Array.getElem?_eq_some_iff.1 he).1).trans he,hsz⟩
 by_cases hj:j<b.heap.size
 ·obtain ⟨c',T,he⟩:=h.fresh j h1 hj
  exact ⟨c',T,(k.below.block j hj).trans he⟩
 ·exact k.fresh j (by omega) h2
def QA (C:Ctx) (i:Nat):Box→Prop
 | .cells cs=>∃blk,(∀x,C.β i x ↔ x=blk)∧∃vs T,C.w.heap[blk]? =some (.cells vs T (0,0))∧Vs C cs vs.toList
 | .D1 T l=>(∀x y,C.β i x→C.β i y→x=y)∧BC l∧∀x,C.β i x→∃cs,C.w.heap[x]? =some (.cells cs T (0,0))∧l.length≤cs.size∧∀(j:Nat) (y:Nat),l[j]? =some y→cs[j]? =some (.int .u32 (y:Int))
 |_=>True
structure R (na:Nat) (β0:Nat→Nat→Prop) (w0:World) (σ:St) (β:Nat→Nat→Prop) (a:Act) (w:World):Prop where
 tmps:Vs ⟨σ.box,β,w⟩ σ.tmps a.tmps.toList
 defers:a.defers=[]
 boxes:∀i,QA ⟨σ.box,β,w⟩ i (σ.box i)
 args:∀i,i≤na→σ.box i= .G4
 old:∀i x,i≤na→β i x→x<w0.heap.size∧¬β0 (na+1) x
 new:∀i x,na<i→β i x→(w0.heap.size≤x∨β0 (na+1) x)∧x<w.heap.size
 disj:∀i j x,na<i→na<j→β i x→β j x→i=j
 unborn:∀i x,σ.box i= .unborn→¬β i x
 grow:GrowS (β0 (na+1)) w0 w
 arg0:∀i x,i≤na→β i x→β0 i x
theorem R.lt {na:Nat} {β0:Nat→Nat→Prop} {w0:World} {σ:St} {β:Nat→Nat→Prop} {a:Act} {w:World} (h:R na β0 w0 σ β a w) {i x:Nat} (hx:β i x):x<w.heap.size:=by
 by_cases hi:i≤na
 ·exact G7 (h.old i x hi hx).1 h.grow.meta0.size
 ·exact (h.new i x (by omega) hx).2
theorem R.apart {na:Nat} {β0:Nat→Nat→Prop} {w0:World} {σ:St} {β:Nat→Nat→Prop} {a:Act} {w:World} (h:R na β0 w0 σ β a w) {i n x:Nat} (hi:i≤na) (hn:na<n) (hx:β i x):¬β n x:=fun hy=>by
 have h1:=h.old i x hi hx
 have h2:=(h.new n x hn hy).1
 rcases h2 with h2|h2
 ·omega
 ·exact h1.2 h2
theorem RW (k:IntKind) (n:Int):k.min≤k.wrap n∧k.wrap n≤k.max:=by
 cases k<;>simp only [IntKind.wrap,IntKind.min,IntKind.max,IntKind.bits,IntKind.signed]<;>simp<;>(try split)<;>omega
section
variable {na:Nat} {β0:Nat→Nat→Prop} {w0:World} {σ:St} {β:Nat→Nat→Prop} {a:Act} {w:World}
theorem B23 (C:Ctx) (v:Value):V C (A94 v) v:=by
 unfold A94
 split
 ·split
  ·rename_i h;simp only [V];exact ⟨trivial,h⟩
  ·simp only [V]
 ·simp only [V]
 ·simp only [V]
 ·simp only [V]
theorem A5u (C:Ctx) (v:Value):V C (ofValue v) v:=by
 unfold ofValue
 split
 ·rename_i cs
  simp only [V]
  exact ⟨cs.toList,by simp,Vs.of (by simp) fun i c v h1 h2=>by
   simp only [List.getElem?_map,h2,Option.map_some] at h1
   cases h1
   exact B23 C v⟩
 ·exact B23 C v
theorem R.O2 (h:R na β0 w0 σ β a w) (x:Operand):V ⟨σ.box,β,w⟩ (σ.eval x) (a.eval x):=by
 cases x with
 |tmp t=>
  simp only [St.eval,Act.eval]
  cases hc:σ.tmps[t]? with
  |none=>simp [M6,hc,V]
  |some c=>
   obtain ⟨v,h1,h2⟩:=h.tmps.get hc
   have:a.tmps[t]? =some v:=by simpa using h1
   simp only [M6,hc,Option.getD_some]
   rw [Array.getD_eq_getD_getElem?,this]
   exact h2
 |const v=>exact A5u _ v
 |global g=>simp only [St.eval,V]
 |func f=>
  simp only [St.eval,Act.eval,V]
  exact ⟨[],by simp,by simp only [Vs]⟩
theorem MJ (xs:Array Value) (i:Nat) (v:Value):(xs.setIfInBounds i v).toList=xs.toList.set i v:=by
 simp
theorem R.put (h:R na β0 w0 σ β a w) (dst:Option Tmp) {c:AV} {v:Value} (hv:V ⟨σ.box,β,w⟩ c v):R na β0 w0 (σ.put dst c) β (a.put dst v) w:=by
 cases dst with
 |none=>exact h
 |some d=>
  refine ⟨?_,h.defers,h.boxes,h.args,h.old,h.new,h.disj,h.unborn,h.grow,h.arg0⟩
  show Vs ⟨σ.box,β,w⟩ (σ.tmps.set d c) (a.tmps.setIfInBounds d v).toList
  rw [MJ]
  exact h.tmps.set d hv
theorem QA.mono {C C':Ctx} (h:Le C C') {i:Nat} {b:Box} (hb:QA C i b) (hβ:∀x,C'.β i x ↔ C.β i x) (hw:∀x,C.β i x→C'.w.heap[x]? =C.w.heap[x]?):QA C' i b:=by
 cases b with
 |cells cs=>
  obtain ⟨blk,h1,vs,T,h2,h3⟩:=hb
  exact ⟨blk,fun x=>(hβ x).trans (h1 x),vs,T,(hw blk ((h1 blk).2 rfl)).trans h2,Vs.mono h _ _ h3⟩
 |D1 T l=>
  obtain ⟨h1,h0,h2⟩:=hb
  refine ⟨fun x y hx hy=>h1 x y ((hβ x).1 hx) ((hβ y).1 hy),h0,fun x hx=> ?_⟩
  obtain ⟨cs,h3,h4⟩:=h2 x ((hβ x).1 hx)
  exact ⟨cs,(hw x ((hβ x).1 hx)).trans h3,h4⟩
 |unborn=>trivial
 |dead=>trivial
 |G4=>trivial
theorem Le.grow (hR:R na β0 w0 σ β a w) {w':World} (hw:∀x,x<w.heap.size→w'.heap[x]? =w.heap[x]?):Le ⟨σ.box,β,w⟩ ⟨σ.box,β,w'⟩ where
 born:=fun _ h=>h
 G4:=fun i _ h=>⟨h,fun x hx=>⟨hx,hw x (hR.lt hx)⟩⟩
 D1:=fun i T l' _ h=>⟨l',h,rfl,fun x hx=>⟨hx,fun cs hc=>⟨cs,(hw x (hR.lt hx)).trans hc,rfl⟩⟩⟩
 cells:=fun i c' _ h=>⟨c',h,fun _ hx=>hx⟩
theorem R.grown (h:R na β0 w0 σ β a w) {w':World} (hw:Grow w w'):R na β0 w0 σ β a w':=by
 have hle:=Le.grow h hw.below.block
 exact ⟨Vs.mono hle _ _ h.tmps,h.defers,fun i=>(h.boxes i).mono hle (fun _=>Iff.rfl) (fun x hx=>hw.below.block x (h.lt hx)),h.args,h.old,
  fun i x hi hx=>⟨(h.new i x hi hx).1,G7 (h.new i x hi hx).2 hw.below.size⟩,h.disj,h.unborn,h.grow.trans hw,h.arg0⟩
end
theorem J8 (bs:List Box) (i j:Nat) (b:Box) (h:i<bs.length):(bs.set i b).getD j .unborn=if j=i then b else bs.getD j .unborn:=by
 simp only [M6,BH]
 by_cases hj:i=j
 ·subst hj;simp [h]
 ·rw [if_neg hj,if_neg (Ne.symm hj)]
end Go.AI

namespace Go.AI
open Go Go.RowKit
set_option linter.unusedVariables false
set_option linter.unusedSimpArgs false
def T2 (β:Nat→Nat→Prop) (n:Nat) (s:Nat→Prop):Nat→Nat→Prop:=fun i x=>if i=n then s x else β i x
theorem P5 (β:Nat→Nat→Prop) (n:Nat) (s:Nat→Prop) (x:Nat):T2 β n s n x ↔ s x:=by simp [T2]
theorem M3 (β:Nat→Nat→Prop) {n i:Nat} (s:Nat→Prop) (h:i≠n) (x:Nat):T2 β n s i x ↔ β i x:=by simp [T2,h]
theorem St.J8 (σ:St) (n j:Nat) (b:Box) (h:n<σ.boxes.length):St.box {σ with boxes:=σ.boxes.set n b} j=if j=n then b else σ.box j:=AI.J8 σ.boxes n j b h
section
variable {na:Nat} {β0:Nat→Nat→Prop} {w0:World} {σ:St} {β:Nat→Nat→Prop} {a:Act} {w:World}
theorem Le.JW (h:R na β0 w0 σ β a w) {n:Nat} (hlen:n<σ.boxes.length) (hun:σ.box n= .unborn) (b:Box) (s:Nat→Prop) {w':World} (hw:Grow w w') (hb:b≠ .unborn):
  Le ⟨σ.box,β,w⟩ ⟨St.box {σ with boxes:=σ.boxes.set n b},T2 β n s,w'⟩:=by
 have key:∀i,σ.box i≠ .unborn→i≠n:=fun i hi e=>hi (e ▸ hun)
 refine ⟨fun i hi=> ?_,fun i hi ha=> ?_,fun i T l' hi hd=> ?_,fun i c' hi hc=> ?_⟩
 ·show St.box _ i≠_
  rw [St.J8 _ _ _ _ hlen,if_neg (key i hi)];exact hi
 ·change St.box _ i=_ at ha
  rw [St.J8 _ _ _ _ hlen,if_neg (key i hi)] at ha
  exact ⟨ha,fun x hx=>⟨(M3 β s (key i hi) x).2 hx,hw.below.block x (h.lt hx)⟩⟩
 ·change St.box _ i=_ at hd
  rw [St.J8 _ _ _ _ hlen,if_neg (key i hi)] at hd
  exact ⟨l',hd,rfl,fun x hx=>⟨(M3 β s (key i hi) x).2 hx,fun cs hc=>⟨cs,(hw.below.block x (h.lt hx)).trans hc,rfl⟩⟩⟩
 ·change St.box _ i=_ at hc
  rw [St.J8 _ _ _ _ hlen,if_neg (key i hi)] at hc
  exact ⟨c',hc,fun x hx=>(M3 β s (key i hi) x).2 hx⟩
theorem R.JW (h:R na β0 w0 σ β a w) {n:Nat} (hna:na<n) (hlen:n<σ.boxes.length) (hun:σ.box n= .unborn) (b:Box) (s:Nat→Prop) {w':World} (hw:Grow w w') (hb:b≠ .unborn)
  (hs:∀x,s x→w.heap.size≤x∧x<w'.heap.size) (hok:QA ⟨St.box {σ with boxes:=σ.boxes.set n b},T2 β n s,w'⟩ n b):
  R na β0 w0 {σ with boxes:=σ.boxes.set n b} (T2 β n s) a w':=by
 have hle:=Le.JW h hlen hun b s hw hb
 have hsz:=h.grow.meta0.size
 refine ⟨Vs.mono hle _ _ h.tmps,h.defers,fun i=> ?_,fun i hi=> ?_,fun i x hi hx=> ?_,fun i x hi hx=> ?_,fun i j x hi hj hx hy=> ?_,fun i x hi hx=> ?_,h.grow.trans hw,fun i x hi hx=>h.arg0 i x hi (by rwa [M3 β s (by omega)] at hx)⟩
 ·rw [St.J8 _ _ _ _ hlen]
  by_cases e:i=n
  ·subst e;rw [if_pos rfl];exact hok
  ·rw [if_neg e]
   exact (h.boxes i).mono hle (fun x=>M3 β s e x) (fun x hx=>hw.below.block x (h.lt hx))
 ·rw [St.J8 _ _ _ _ hlen,if_neg (by omega)];exact h.args i hi
 ·rw [M3 β s (by omega)] at hx;exact h.old i x hi hx
 ·by_cases e:i=n
  ·subst e
   rw [P5] at hx
   have:=hs x hx
   exact ⟨.inl (by omega),this.2⟩
  ·rw [M3 β s e] at hx
   have hx':=h.new i x hi hx
   have:=hw.below.size
   exact ⟨hx'.1,by omega⟩
 ·by_cases e:i=n<;>by_cases f:j=n
  ·omega
  ·subst e
   rw [P5] at hx
   rw [M3 β s f] at hy
   have:=hs x hx
   have:=h.lt hy
   omega
  ·subst f
   rw [P5] at hy
   rw [M3 β s e] at hx
   have:=hs x hy
   have:=h.lt hx
   omega
  ·rw [M3 β s e] at hx
   rw [M3 β s f] at hy
   exact h.disj i j x hi hj hx hy
 ·rw [St.J8 _ _ _ _ hlen] at hi
  by_cases e:i=n
  ·rw [if_pos e] at hi;exact hb hi
  ·rw [if_neg e] at hi
   rw [M3 β s e] at hx
   exact h.unborn i x hi hx
theorem Le.A2f (h:R na β0 w0 σ β a w) {n:Nat} (hna:na<n) (hlen:n<σ.boxes.length) (b:Box) {w':World}
  (hkind:(∃c c',σ.box n= .cells c∧b= .cells c')∨(∃T l l',σ.box n= .D1 T l∧b= .D1 T l'∧l.length=l'.length))
  (hoth:∀x,x<w.heap.size→¬β n x→w'.heap[x]? =w.heap[x]?)
  (hsame:∀x,β n x→∀cs T,w.heap[x]? =some (.cells cs T (0,0))→∃cs',w'.heap[x]? =some (.cells cs' T (0,0))∧cs'.size=cs.size):
  Le ⟨σ.box,β,w⟩ ⟨St.box {σ with boxes:=σ.boxes.set n b},β,w'⟩:=by
 have dis:∀i x,i≠n→σ.box i≠ .unborn→β i x→¬β n x:=by
  intro i x hi hu hx hy
  by_cases h':i≤na
  ·exact h.apart h' hna hx hy
  ·exact hi (h.disj i n x (by omega) hna hx hy)
 refine ⟨fun i hi=> ?_,fun i hi ha=> ?_,fun i T l' hi hd=> ?_,fun i c' hi hc=> ?_⟩
 ·show St.box _ i≠_
  rw [St.J8 _ _ _ _ hlen]
  split
  ·rcases hkind with ⟨_,_,_,e⟩|⟨_,_,_,_,e,_⟩<;>rw [e]<;>simp
  ·exact hi
 ·change St.box _ i=_ at ha
  rw [St.J8 _ _ _ _ hlen] at ha
  by_cases e:i=n
  ·rw [if_pos e] at ha
   rcases hkind with ⟨_,_,_,e⟩|⟨_,_,_,_,e,_⟩<;>rw [e] at ha<;>simp at ha
  ·rw [if_neg e] at ha
   exact ⟨ha,fun x hx=>⟨hx,hoth x (h.lt hx) (dis i x e hi hx)⟩⟩
 ·change St.box _ i=_ at hd
  rw [St.J8 _ _ _ _ hlen] at hd
  by_cases e:i=n
  ·rw [if_pos e] at hd
   rcases hkind with ⟨_,_,_,e'⟩|⟨T',l,l'',e1,e',e2⟩
   ·rw [e'] at hd;simp at hd
   ·rw [e'] at hd
    injection hd with hT hl
    subst hT;subst hl
    exact ⟨l,e ▸ e1,e2,fun x hx=>⟨hx,fun cs hc=>hsame x (e ▸ hx) cs _ hc⟩⟩
  ·rw [if_neg e] at hd
   exact ⟨l',hd,rfl,fun x hx=>⟨hx,fun cs hc=>⟨cs,(hoth x (h.lt hx) (dis i x e hi hx)).trans hc,rfl⟩⟩⟩
 ·change St.box _ i=_ at hc
  rw [St.J8 _ _ _ _ hlen] at hc
  by_cases e:i=n
  ·rw [if_pos e] at hc
   rcases hkind with ⟨c,c'',e1,e'⟩|⟨_,_,_,_,e',_⟩
   ·exact ⟨c,e ▸ e1,fun _ hx=>hx⟩
   ·rw [e'] at hc;simp at hc
  ·rw [if_neg e] at hc
   exact ⟨c',hc,fun _ hx=>hx⟩
theorem R.A2f (h:R na β0 w0 σ β a w) {n:Nat} (hna:na<n) (hlen:n<σ.boxes.length) (b:Box) {w':World}
  (hkind:(∃c c',σ.box n= .cells c∧b= .cells c')∨(∃T l l',σ.box n= .D1 T l∧b= .D1 T l'∧l.length=l'.length))
  (hoth:∀x,x<w.heap.size→¬β n x→w'.heap[x]? =w.heap[x]?)
  (hsame:∀x,β n x→∀cs T,w.heap[x]? =some (.cells cs T (0,0))→∃cs',w'.heap[x]? =some (.cells cs' T (0,0))∧cs'.size=cs.size)
  (hg:GrowS (β0 (na+1)) w0 w') (hsz:w.heap.size≤w'.heap.size)
  (hok:QA ⟨St.box {σ with boxes:=σ.boxes.set n b},β,w'⟩ n b):
  R na β0 w0 {σ with boxes:=σ.boxes.set n b} β a w':=by
 have hle:=Le.A2f h hna hlen b hkind hoth hsame
 have dis:∀i x,i≠n→β i x→¬β n x:=by
  intro i x hi hx hy
  by_cases h':i≤na
  ·exact h.apart h' hna hx hy
  ·exact hi (h.disj i n x (by omega) hna hx hy)
 refine ⟨Vs.mono hle _ _ h.tmps,h.defers,fun i=> ?_,fun i hi=> ?_,h.old,fun i x hi hx=> ?_,h.disj,fun i x hi hx=> ?_,hg,h.arg0⟩
 ·rw [St.J8 _ _ _ _ hlen]
  by_cases e:i=n
  ·subst e;rw [if_pos rfl];exact hok
  ·rw [if_neg e]
   exact (h.boxes i).mono hle (fun x=>Iff.rfl) (fun x hx=>hoth x (h.lt hx) (dis i x e hx))
 ·rw [St.J8 _ _ _ _ hlen,if_neg (by omega)];exact h.args i hi
 ·have:=h.new i x hi hx
  exact ⟨this.1,by omega⟩
 ·rw [St.J8 _ _ _ _ hlen] at hi
  by_cases e:i=n
  ·rw [if_pos e] at hi
   rcases hkind with ⟨_,_,_,e⟩|⟨_,_,_,_,e,_⟩<;>rw [e] at hi<;>simp at hi
  ·rw [if_neg e] at hi
   exact h.unborn i x hi hx
theorem R.store (h:R na β0 w0 σ β a w) {n:Nat} (hna:na<n) (hlen:n<σ.boxes.length) (b:Box) {w':World}
  (hkind:(∃c c',σ.box n= .cells c∧b= .cells c')∨(∃T l l',σ.box n= .D1 T l∧b= .D1 T l'∧l.length=l'.length))
  (hoth:∀x,¬β n x→w'.heap[x]? =w.heap[x]?)
  (hsame:∀x,β n x→∀cs T,w.heap[x]? =some (.cells cs T (0,0))→∃cs',w'.heap[x]? =some (.cells cs' T (0,0))∧cs'.size=cs.size)
  (hg:GrowS (β0 (na+1)) w0 w') (hsz:w'.heap.size=w.heap.size)
  (hok:QA ⟨St.box {σ with boxes:=σ.boxes.set n b},β,w'⟩ n b):
  R na β0 w0 {σ with boxes:=σ.boxes.set n b} β a w':=h.A2f hna hlen b hkind (fun x _=>hoth x) hsame hg (by omega) hok
theorem Le.store (h:R na β0 w0 σ β a w) {n:Nat} (hna:na<n) (hlen:n<σ.boxes.length) (b:Box) {w':World}
  (hkind:(∃c c',σ.box n= .cells c∧b= .cells c')∨(∃T l l',σ.box n= .D1 T l∧b= .D1 T l'∧l.length=l'.length))
  (hoth:∀x,¬β n x→w'.heap[x]? =w.heap[x]?)
  (hsame:∀x,β n x→∀cs T,w.heap[x]? =some (.cells cs T (0,0))→∃cs',w'.heap[x]? =some (.cells cs' T (0,0))∧cs'.size=cs.size):
  Le ⟨σ.box,β,w⟩ ⟨St.box {σ with boxes:=σ.boxes.set n b},β,w'⟩:=Le.A2f h hna hlen b hkind (fun x _=>hoth x) hsame
def BF (β:Nat→Nat→Prop) (i n:Nat):Nat→Nat→Prop:=fun j x=>if j=i then False else if j=n then β n x∨β i x else β j x
theorem Le.D4p (h:R na β0 w0 σ β a w) {i n:Nat} (hi:na<i) (hlen:i<σ.boxes.length) (hin:i≠n):
  Le ⟨σ.box,β,w⟩ ⟨St.box {σ with boxes:=σ.boxes.set i .dead},BF β i n,w⟩:=by
 have up:∀j x,j≠i→β j x→BF β i n j x:=by
  intro j x hj hx
  unfold BF
  rw [if_neg hj]
  split
  ·rename_i e;subst e;exact .inl hx
  ·exact hx
 refine ⟨fun j hj=> ?_,fun j hj ha=> ?_,fun j T l' hj hd=> ?_,fun j c' hj hc=> ?_⟩
 ·show St.box _ j≠_
  rw [St.J8 _ _ _ _ hlen]
  split
  ·simp
  ·exact hj
 ·change St.box _ j=_ at ha
  rw [St.J8 _ _ _ _ hlen] at ha
  by_cases e:j=i
  ·rw [if_pos e] at ha;simp at ha
  ·rw [if_neg e] at ha
   exact ⟨ha,fun x hx=>⟨up j x e hx,rfl⟩⟩
 ·change St.box _ j=_ at hd
  rw [St.J8 _ _ _ _ hlen] at hd
  by_cases e:j=i
  ·rw [if_pos e] at hd;simp at hd
  ·rw [if_neg e] at hd
   exact ⟨l',hd,rfl,fun x hx=>⟨up j x e hx,fun cs hc=>⟨cs,hc,rfl⟩⟩⟩
 ·change St.box _ j=_ at hc
  rw [St.J8 _ _ _ _ hlen] at hc
  by_cases e:j=i
  ·rw [if_pos e] at hc;simp at hc
  ·rw [if_neg e] at hc
   exact ⟨c',hc,fun x hx=>up j x e hx⟩
theorem R.D4p (h:R na β0 w0 σ β a w) {i n:Nat} (hi:na<i) (hlen:i<σ.boxes.length) (hin:i≠n) (hn:na<n) (harena:σ.box n= .G4):
  R na β0 w0 {σ with boxes:=σ.boxes.set i .dead} (BF β i n) a w:=by
 have hle:=Le.D4p h hi hlen hin
 refine ⟨Vs.mono hle _ _ h.tmps,h.defers,fun j=> ?_,fun j hj=> ?_,fun j x hj hx=> ?_,fun j x hj hx=> ?_,fun j k x hj hk hx hy=> ?_,fun j x hj hx=> ?_,h.grow,fun j x hj hx=>by
  unfold BF at hx
  rw [if_neg (by omega),if_neg (by omega)] at hx
  exact h.arg0 j x hj hx⟩
 ·rw [St.J8 _ _ _ _ hlen]
  by_cases e:j=i
  ·rw [if_pos e];trivial
  ·rw [if_neg e]
   by_cases f:j=n
   ·rw [f,harena];trivial
   ·exact (h.boxes j).mono hle (fun x=>by simp [BF,e,f]) (fun x _=>rfl)
 ·rw [St.J8 _ _ _ _ hlen,if_neg (by omega)];exact h.args j hj
 ·unfold BF at hx
  rw [if_neg (by omega),if_neg (by omega)] at hx
  exact h.old j x hj hx
 ·unfold BF at hx
  split at hx
  ·exact hx.elim
  ·split at hx
   ·rcases hx with hx|hx
    ·exact h.new n x hn hx
    ·exact h.new i x hi hx
   ·exact h.new j x hj hx
 ·have aux:∀j,na<j→BF β i n j x→j≠i∧∃j',na<j'∧β j' x∧(j'=j∨(j'=i∧j=n)):=by
   intro j hj hx
   unfold BF at hx
   split at hx
   ·exact hx.elim
   ·rename_i e
    refine ⟨e,?_⟩
    split at hx
    ·rename_i f
     rcases hx with hx|hx
     ·exact ⟨n,hn,hx,.inl f.symm⟩
     ·exact ⟨i,hi,hx,.inr ⟨rfl,f⟩⟩
    ·exact ⟨j,hj,hx,.inl rfl⟩
  obtain ⟨hj1,j',hj2,hj3,hj4⟩:=aux j hj hx
  obtain ⟨hk1,k',hk2,hk3,hk4⟩:=aux k hk hy
  have:=h.disj j' k' x hj2 hk2 hj3 hk3
  omega
 ·rw [St.J8 _ _ _ _ hlen] at hj
  by_cases e:j=i
  ·rw [if_pos e] at hj;simp at hj
  ·rw [if_neg e] at hj
   unfold BF at hx
   rw [if_neg e] at hx
   split at hx
   ·rename_i f;rw [f,harena] at hj;simp at hj
   ·exact h.unborn j x hj hx
end
end Go.AI

namespace Go.AI
open Go Go.RowKit
set_option linter.unusedVariables false
set_option linter.unusedSimpArgs false
def Sub (bx bs:Nat→Box):Prop:=∀i,bx i= .unborn∨bx i=bs i
theorem Sub.refl (bs:Nat→Box):Sub bs bs:=fun i=> .inr rfl
theorem Sub.B9o (lim:Nat→Bool) (bs:Nat→Box):Sub (B9o lim bs) bs:=fun i=>by
 unfold AI.B9o;split
 ·exact .inr rfl
 ·exact .inl rfl
theorem Sub.cells {bx bs:Nat→Box} (h:Sub bx bs) {i:Nat} {c:List AV} (e:bx i= .cells c):bs i= .cells c:=by
 rcases h i with h|h<;>rw [e] at h
 ·simp at h
 ·exact h.symm
theorem Sub.D1 {bx bs:Nat→Box} (h:Sub bx bs) {i T:Nat} {c:List Nat} (e:bx i= .D1 T c):bs i= .D1 T c:=by
 rcases h i with h|h<;>rw [e] at h
 ·simp at h
 ·exact h.symm
theorem Sub.G4 {bx bs:Nat→Box} (h:Sub bx bs) {i:Nat} (e:bx i= .G4):bs i= .G4:=by
 rcases h i with h|h<;>rw [e] at h
 ·simp at h
 ·exact h.symm
theorem Y6 {bx bs:Nat→Box} (h:Sub bx bs) (β:Nat→Nat→Prop) (w:World):∀{p:List Nat},S8 bx p=true→Ctx.alive ⟨bs,β,w⟩ p
 |[],_=>by simp [Ctx.alive]
 |i::p,ha=>by
  unfold S8 at ha
  split at ha
  ·rename_i e
   intro j hj
   rcases List.mem_cons.1 hj with rfl|hj
   ·exact h.G4 e
   ·exact Y6 h β w ha j hj
  ·cases ha
section
variable {P:Program} {na:Nat} {β0:Nat→Nat→Prop} {w0:World} {σ:St} {β:Nat→Nat→Prop} {a:Act} {w:World} {o:Oper}
def F8 (P:Program) (na:Nat) (β0:Nat→Nat→Prop) (w0:World) (σ':St) (o:Oper) (a:Act) (w:World):Prop:=
 ∀(next:Act→World→Prop) (Q:Exit→Act→World→Prop),(∀β' a' w',R na β0 w0 σ' β' a' w'→next a' w')→o.wp P a w next Q
theorem F8.value {σ':St} {β':Nat→Nat→Prop} {v:Value} {w':World} {c:AV} (hrun:(execOp a.eval o).run P w= .ok (.value v) w')
  (hR:R na β0 w0 σ' β' a w') (hV:V ⟨σ'.box,β',w'⟩ c v):F8 P na β0 w0 (σ'.put o.dst c) o a w:=by
 intro next Q h
 unfold Oper.wp
 rw [hrun]
 exact h β' _ w' (hR.put o.dst hV)
theorem F8.pure {v:Value} {c:AV} (hR:R na β0 w0 σ β a w) (hrun:(execOp a.eval o).run P w= .ok (.value v) w) (hV:V ⟨σ.box,β,w⟩ c v):
  F8 P na β0 w0 (σ.apply o.dst ⟨none,c,[]⟩) o a w:=F8.value hrun hR hV
theorem V.num_inv {C:Ctx} {k:IntKind} {n:Int} {v:Value} (h:V C (.num k n) v):v= .int k n:=by simp only [V] at h;exact h.1
theorem V.ET {C:Ctx} {b:Bool} {v:Value} (h:V C (.bool b) v):v= .bool b:=by simp only [V] at h;exact h
theorem run_sizeOf {P:Program} {t s:Nat} (h:BE P t=some s) (w:World):(sizeOf t).run P w= .ok s w:=by
 unfold BE at h
 cases hi:P.info? t with
 |none=>rw [hi] at h;simp at h
 |some i=>rw [hi] at h;simp at h;simp [sizeOf,typeInfo,hi,h]
theorem JZ {P:Program} {t:Nat} {b:Bool} (h:isAgg P t=some b) (w:World):(Go.isAgg t).run P w= .ok b w:=by
 unfold AI.isAgg at h
 cases hu:P.underlying t with
 |none=>rw [hu] at h;simp at h
 |some d=>
  rw [hu] at h
  simp only [Go.isAgg,Sem.run_bind,run_underlying hu,Result.andThen_ok]
  cases d<;>simp at h<;>subst h<;>rfl
theorem Z9 (b o n:Nat):(⟨b,o,none⟩:Addr).add n=⟨b,o+n,none⟩:=by
 unfold Addr.add;split<;>simp_all
theorem OA {C:Ctx} {t:TypeId} {cs:List AV} {c:AV} (hp:JC P t cs=some c) {vs:List Value} (hvs:Vs C cs vs) {w:World} {b off:Nat}
  (hc:∀(j:Nat) (u:Value),vs[j]? =some u→w.cell? ⟨b,off+j,none⟩=some u):
  ∃v,(loadVar t ⟨b,off,none⟩).run P w= .ok v w∧V C c v:=by
 unfold JC at hp
 split at hp
 ·rename_i s h1 h2
  split at hp
  ·rename_i hle
   cases hp
   have hlen:=hvs.length
   have hl:=run_loadCells_list (P:=P) w ⟨b,off,none⟩ (vs.take s) (fun j v hj=>by
    rw [Z9]
    rw [AK] at hj
    split at hj
    ·exact hc j v hj
    ·cases hj)
   rw [List.length_take,J1 (by omega)] at hl
   refine ⟨.agg (vs.take s).toArray,?_,?_⟩
   ·simp only [loadVar,Sem.run_bind,JZ h1,Result.andThen_ok,if_true,run_sizeOf h2,hl,Sem.run_pure]
   ·simp only [V];exact ⟨_,rfl,hvs.take s⟩
  ·cases hp
 ·rename_i h1
  cases cs with
  |nil=>simp at hp
  |cons c' cs=>
   simp at hp
   subst hp
   obtain ⟨v,hv1,hv2⟩:=hvs.get (i:=0) (c:=c') (by simp)
   refine ⟨v,?_,hv2⟩
   have:=hc 0 v hv1
   simp only [I4] at this
   simp only [loadVar,Sem.run_bind,JZ h1,Result.andThen_ok,J7,if_false,run_load,this]
 ·cases hp
theorem cell?_of_block {w:World} {b:Nat} {cs:Array Value} {T:TypeId} {fr:Nat×Nat} (h:w.heap[b]? =some (.cells cs T fr)) (o:Nat):w.cell? ⟨b,o,none⟩=cs[o]? :=by
 simp [World.cell?,h]
theorem R.len (h:R na β0 w0 σ β a w) {i:Nat} (hi:σ.box i≠ .unborn):i<σ.boxes.length:=by
 rcases L4 i σ.boxes.length with h'|h'
 ·exact h'
 ·exact absurd (by simp [St.box,M6,List.getElem?_eq_none h']) hi
theorem R.QF (h:R na β0 w0 σ β a w) {i:Nat} (hi:σ.box i≠ .G4):na<i:=by
 rcases L4 na i with h'|h'
 ·exact h'
 ·exact absurd (h.args i h') hi
theorem A6n {l:List Nat} (h:BC l) (i:Nat):l.getD i 0<2^32:=by
 simp only [M6]
 cases hl:l[i]? with
 |none=>simp
 |some x=>exact h.2 x (X7 hl)
theorem D3v (C:Ctx) {x:Nat} (h:x<2^32):V C (.num .u32 (x:Int)) (.int .u32 (x:Int)):=by
 simp only [V]
 refine ⟨trivial,?_,?_⟩<;>simp [IntKind.min,IntKind.max,IntKind.signed,IntKind.bits]<;>omega
theorem C1z (hR:R na β0 w0 σ β a w) {bx:Nat→Box} (hb:Sub bx σ.box) {t:TypeId} {x:Operand} (ho:o.op= .load t x) {Φ:Nat→List AV→Option Spec} {dr:Bool} {n:Nat} {e:Eff}
  (he:eff P Φ na dr σ.eval bx n o=some e) (hp:C6 e.pre True):F8 P na β0 w0 (σ.apply o.dst e) o a w:=by
 have hV:=hR.O2 x
 unfold eff at he
 rw [ho] at he
 simp only at he
 split at he
 ·rename_i b off hx
  rw [hx] at hV
  simp only [V] at hV
  split at he
  ·rename_i cs hbx
   split at he
   ·rename_i v hpk
    cases he
    have hσ:=hb.cells hbx
    obtain ⟨blk,hβ,hx2⟩:=hV.2 (by rw [hσ];trivial)
    have hok:=hR.boxes b
    rw [hσ] at hok
    obtain ⟨blk',h1,vs,T,h2,h3⟩:=hok
    have hbb:blk=blk':=(h1 blk).1 hβ
    subst hbb
    obtain ⟨u,hu1,hu2⟩:=OA (P:=P) hpk (h3.drop off) (w:=w) (b:=blk) (off:=off) (fun j u hj=>by
     rw [cell?_of_block h2]
     rw [Y5] at hj
     simpa using hj)
    refine F8.pure hR (v:=u) ?_ hu2
    simp only [execOp,ho,hx2,Instr.loadAt,Instr.sureAddr,Sem.run_bind,Sem.run_pure,Result.andThen_ok,hu1]
   ·cases he
  ·rename_i T l hbx
   split at he
   ·rename_i hag
    cases he
    have hσ:=hb.D1 hbx
    obtain ⟨blk,hβ,hx2⟩:=hV.2 (by rw [hσ];trivial)
    have hok:=hR.boxes b
    rw [hσ] at hok
    obtain ⟨h1,h2,h3⟩:=hok
    obtain ⟨cs,h4,h5,h6⟩:=h3 blk hβ
    have hlt:off<l.length:=hp.1
    have hcell:=h6 off l[off] (by simp [hlt])
    refine F8.pure hR (v:= .int .u32 (l.getD off 0:Nat)) ?_ (D3v _ (A6n h2 off))
    have hc:w.cell? ⟨blk,off,none⟩=some (.int .u32 (l.getD off 0:Nat)):=by
     rw [cell?_of_block h4,hcell];simp [M6,hlt]
    simp only [execOp,ho,hx2,Instr.loadAt,Instr.sureAddr,Sem.run_bind,Sem.run_pure,Result.andThen_ok,loadVar,JZ hag,J7,if_false,run_load,hc]
   ·cases he
  ·cases he
 ·rename_i p cs hx
  rw [hx] at hV
  simp only [V] at hV
  split at he
  ·rename_i har
   split at he
   ·rename_i v hpk
    cases he
    obtain ⟨_,vs,hvs,b,off,hx2,hc⟩:=hV
    obtain ⟨u,hu1,hu2⟩:=OA (P:=P) hpk hvs (w:=w) (b:=b) (off:=off) (hc (Y6 hb β w har)).2
    refine F8.pure hR (v:=u) ?_ hu2
    simp only [execOp,ho,hx2,Instr.loadAt,Instr.sureAddr,Sem.run_bind,Sem.run_pure,Result.andThen_ok,hu1]
   ·cases he
  ·cases he
 ·cases he
theorem V.IM {C:Ctx} {c:AV} {v:Value} (h:V C c v) (h1:c.IM=true):v.oneCell'=true:=by
 cases c with
 |num k n=>simp only [V] at h;rw [h.1];rfl
 |bool b=>simp only [V] at h;rw [h];rfl
 |nilS=>simp only [V] at h;rw [h];rfl
 |dig p l=>simp only [V] at h;obtain ⟨_,_,_,_,h,_⟩:=h;rw [h];rfl
 |vec p n l=>simp only [V] at h;obtain ⟨_,_,_,_,_,_,h,_⟩:=h;rw [h];rfl
 |cref p cs=>simp only [V] at h;obtain ⟨_,_,_,_,_,h,_⟩:=h;rw [h];rfl
 |fn f caps=>simp only [V] at h;obtain ⟨_,h,_⟩:=h;rw [h];rfl
 |own b=>simp only [V] at h;obtain ⟨_,⟨base,n,cap,rfl⟩,_⟩:=h;rfl
 |_=>simp [AV.IM] at h1
end
end Go.AI

namespace Go.AI
open Go Go.RowKit
set_option linter.unusedVariables false
set_option linter.unusedSimpArgs false
section
variable {P:Program} {na:Nat} {β0:Nat→Nat→Prop} {w0:World} {σ:St} {β:Nat→Nat→Prop} {a:Act} {w:World} {o:Oper}
theorem A4m {v:Value} (h:v.oneCell'=true):v.cells= #[v]:=by
 cases v<;>simp [Value.oneCell'] at h<;>rfl
theorem JP {C:Ctx} {c:AV} {v:Value} (h:V C c v) {cs:List AV} (hc:c.cells=some cs):Vs C cs v.cells.toList:=by
 have key:∀{d:AV},d=c→(if d.IM then some [d] else none)=some cs→Vs C cs v.cells.toList:=by
  intro d hd e
  subst hd
  split at e
  ·rename_i h1
   cases e
   rw [A4m (h.IM h1)]
   simp only [Vs]
   exact ⟨h,trivial⟩
  ·cases e
 cases c with
 |agg cs'=>
  simp [AV.cells] at hc;subst hc
  simp only [V] at h
  obtain ⟨vs,rfl,h2⟩:=h
  simpa [Value.cells] using h2
 |_=>exact key rfl hc
theorem TX {C:Ctx} {cs xs:List AV} {vs us:List Value} (h:Vs C cs vs) (k:Vs C xs us) (off:Nat):Vs C (GM off xs cs) (vs.take off++us++vs.drop (off+us.length)):=by
 unfold GM
 rw [k.length]
 exact ((h.take off).append k).append (h.drop _)
theorem OB {g:Nat} {S:Nat→Prop} {w0 w:World} (h:GrowS S w0 w) (hg:w0.heap.size≤g∨S g) {old cs:Array Value} {T:TypeId} (hh:w.heap[g]? =some (.cells old T (0,0))) (hsz:cs.size=old.size):GrowS S w0 (w.setRow g cs):=by
 refine ⟨h.meta0.trans ⟨rfl,rfl,rfl,by simp,fun k hk=>by omega⟩,fun x hx hs=> ?_,fun x c T' hs hc=> ?_,fun k h1 h2=> ?_,h.base⟩
 ·exact (setRow_other w g x cs (fun e=>by subst e;rcases hg with hg|hg;omega;exact hs hg)).trans (h.block x hx hs)
 ·obtain ⟨c',he,hsz'⟩:=h.inS x c T' hs hc
  by_cases e:x=g
  ·subst e
   rw [hh] at he
   cases he
   exact ⟨cs,setRow_heap w x old cs T (0,0) hh,by omega⟩
  ·exact ⟨c',(setRow_other w g x cs e).trans he,hsz'⟩
 by_cases e:k=g
 ·subst e;exact ⟨cs,T,setRow_heap w k old cs T (0,0) hh⟩
 ·obtain ⟨c,T',hc⟩:=h.fresh k h1 (by simpa using h2)
  exact ⟨c,T',(setRow_other w g k cs e).trans hc⟩
theorem F8.skip {σ':St} {β':Nat→Nat→Prop} {w':World} (hrun:(execOp a.eval o).run P w= .ok .skip w') (hR:R na β0 w0 σ' β' a w'):F8 P na β0 w0 (σ'.put o.dst .junk) o a w:=by
 intro next Q h
 unfold Oper.wp
 rw [hrun]
 exact h β' _ w' (hR.put o.dst (by simp only [V]))
theorem D1t {x:Int} (h0:IntKind.u32.min≤x) (h1:x≤IntKind.u32.max):(x.toNat:Int)=x∧x.toNat<2^32:=by
 simp [IntKind.min,IntKind.max,IntKind.signed,IntKind.bits] at h0 h1
 omega
theorem B62 (hR:R na β0 w0 σ β a w) {bx:Nat→Box} (hb:Sub bx σ.box) {t:TypeId} {x y:Operand} (ho:o.op= .store t x y) {Φ:Nat→List AV→Option Spec} {dr:Bool} {n:Nat} {e:Eff}
  (he:eff P Φ na dr σ.eval bx n o=some e) (hp:C6 e.pre True):F8 P na β0 w0 (σ.apply o.dst e) o a w:=by
 have hV:=hR.O2 x
 have hVy:=hR.O2 y
 unfold eff at he
 rw [ho] at he
 simp only at he
 split at he
 ·rename_i b off hx
  rw [hx] at hV
  simp only [V] at hV
  split at he
  ·rename_i cs hbx
   split at he
   ·rename_i xs s hxs hs
    split at he
    ·rename_i hcond
     cases he
     obtain ⟨hc1,hc2,hc3⟩:=hcond
     have hσ:=hb.cells hbx
     obtain ⟨blk,hβ,hx2⟩:=hV.2 (by rw [hσ];trivial)
     have hok:=hR.boxes b
     rw [hσ] at hok
     obtain ⟨blk',h1,vs,T,h2,h3⟩:=hok
     have hbb:blk=blk':=(h1 blk).1 hβ
     subst hbb
     have hxv:=JP hVy hxs
     have hlen:=h3.length
     have hlx:=hxv.length
     have hst:=run_storeCells_at P blk off T (a.eval y).cells.toList 0 vs w h2 (by simp at hlen hlx ⊢;omega) (fun u hu=>by
      obtain ⟨j,hj⟩:=List.getElem?_of_mem hu
      obtain ⟨c,hc,hcu⟩:=hxv.D4o hj
      exact hcu.IM (List.all_eq_true.1 hc3 c (X7 hc)))
     simp only [I4] at hst
     have hna:=hR.QF (i:=b) (by rw [hσ];simp)
     have hlb:=hR.len (i:=b) (by rw [hσ];simp)
     refine F8.skip (w':=w.setRow blk (vs.toList.take off++(a.eval y).cells.toList++vs.toList.drop (off+(a.eval y).cells.toList.length)).toArray) (β':=β) ?_ ?_
     ·have hne:¬(a.eval y).cells.size≠s:=by simp at hlx ⊢;omega
      simp only [execOp,ho,hx2,Instr.storeAt,Instr.sureAddr,Sem.run_bind,Sem.run_pure,Result.andThen_ok,storeVar,run_sizeOf hs,hne,if_false,hst]
     ·refine hR.store hna hlb (.cells (GM off xs cs)) (.inl ⟨cs,_,hσ,rfl⟩) (fun x hx=>setRow_other _ _ _ _ (fun e=>hx (e ▸ hβ))) (fun x hx cs' T' hc=> ?_) ?_ (by simp) ?_
      ·have:x=blk:=(h1 x).1 hx
       subst this
       rw [h2] at hc
       cases hc
       refine ⟨_,setRow_heap w x vs _ T (0,0) h2,?_⟩
       simp at hlen hlx ⊢
       omega
      ·exact OB hR.grow (hR.new b blk hna hβ).1 h2 (by simp at hlen hlx ⊢;omega)
      ·refine ⟨blk,h1,_,T,setRow_heap w blk vs _ T (0,0) h2,?_⟩
       have hle:=Le.store hR hna hlb (.cells (GM off xs cs)) (w':=w.setRow blk (vs.toList.take off++(a.eval y).cells.toList++vs.toList.drop (off+(a.eval y).cells.toList.length)).toArray) (.inl ⟨cs,_,hσ,rfl⟩) (fun x hx=>setRow_other _ _ _ _ (fun e=>hx (e ▸ hβ))) (fun x hx cs' T' hc=>by
        have:x=blk:=(h1 x).1 hx
        subst this
        rw [h2] at hc
        cases hc
        refine ⟨_,setRow_heap w x vs _ T (0,0) h2,?_⟩
        simp at hlen hlx ⊢
        omega)
       exact Vs.mono hle _ _ (TX h3 hxv off)
    ·cases he
   ·cases he
  ·rename_i T l hbx
   split at he
   ·rename_i v hy hs
    cases he
    have hσ:=hb.D1 hbx
    obtain ⟨blk,hβ,hx2⟩:=hV.2 (by rw [hσ];trivial)
    have hok:=hR.boxes b
    rw [hσ] at hok
    obtain ⟨h1,h2,h3⟩:=hok
    obtain ⟨cs,h4,h5,h6⟩:=h3 blk hβ
    have hlt:off<l.length:=hp.1
    rw [hy] at hVy
    have hv:=hVy
    simp only [V] at hv
    obtain ⟨hv1,hv2,hv3⟩:=hv
    obtain ⟨hu1,hu2⟩:=D1t hv2 hv3
    have hst:=run_storeCells_at P blk off T [.int .u32 v] 0 cs w h4 (by simp;omega) (fun u hu=>by simp at hu;subst hu;rfl)
    simp only [I4] at hst
    have hna:=hR.QF (i:=b) (by rw [hσ];simp)
    have hlb:=hR.len (i:=b) (by rw [hσ];simp)
    have hcs:(cs.toList.take off++[Value.int .u32 v]++cs.toList.drop (off+[Value.int .u32 v].length)).toArray.size=cs.size:=by simp;omega
    refine F8.skip (w':=w.setRow blk (cs.toList.take off++[Value.int .u32 v]++cs.toList.drop (off+[Value.int .u32 v].length)).toArray) (β':=β) ?_ ?_
    ·simp only [execOp,ho,hx2,hv1,Instr.storeAt,Instr.sureAddr,Sem.run_bind,Sem.run_pure,Result.andThen_ok,storeVar,run_sizeOf hs,Value.cells,List.size_toArray,T5,List.length_nil,ne_eq,Nat.zero_add,not_true_eq_false,if_false,hst]
    ·refine hR.store hna hlb (.D1 T (l.set off v.toNat)) (.inr ⟨T,l,_,hσ,rfl,by simp⟩) (fun x hx=>setRow_other _ _ _ _ (fun e=>hx (e ▸ hβ))) (fun x hx cs' T' hc=> ?_) ?_ (by simp) ?_
     ·have:x=blk:=h1 x blk hx hβ
      subst this
      rw [h4] at hc
      cases hc
      exact ⟨_,setRow_heap w x cs _ T (0,0) h4,hcs⟩
     ·exact OB hR.grow (hR.new b blk hna hβ).1 h4 hcs
     ·refine ⟨h1,⟨by simpa using h2.1,fun x hx=> ?_⟩,fun x hx=> ?_⟩
      ·rcases List.mem_or_eq_of_mem_set hx with hx|hx
       ·exact h2.2 x hx
       ·rw [hx];exact hu2
      ·have:x=blk:=h1 x blk hx hβ
       subst this
       refine ⟨_,setRow_heap w x cs _ T (0,0) h4,by rw [hcs];simpa using h5,fun j y hj=> ?_⟩
       rw [BH] at hj
       simp only [List.getElem?_toArray]
       by_cases e:off=j
       ·subst e
        rw [if_pos rfl,if_pos hlt] at hj
        cases hj
        rw [U8,AJ (by simp;omega)]
        simp [J1 (show off≤cs.size by omega),hu1]
       ·rw [if_neg e] at hj
        have hy:=h6 j y hj
        rw [U8]
        rcases L4 j off with hjo|hjo
        ·rw [List.getElem?_append_left (by simp;omega),AK,if_pos hjo]
         simpa using hy
        ·rw [AJ (by simp;omega),AJ (by simp;omega),Y5]
         have:off+[Value.int .u32 v].length+(j-(cs.toList.take off).length-[Value.int .u32 v].length)=j:=by simp;omega
         rw [this]
         simpa using hy
   ·cases he
  ·cases he
 ·cases he
end
end Go.AI

namespace Go.AI
open Go Go.RowKit
set_option linter.unusedVariables false
set_option linter.unusedSimpArgs false
section
variable {P:Program} {na:Nat} {β0:Nat→Nat→Prop} {w0:World} {σ:St} {β:Nat→Nat→Prop} {a:Act} {w:World} {o:Oper}
structure Free (na:Nat) (σ:St) (n:Nat):Prop where
 na:na<n
 len:n<σ.boxes.length
 un:σ.box n= .unborn
theorem Grow.ZS (w:World) (cs:Array Value) (T:TypeId):Grow w (w.alloc (.cells cs T)):=(Grow.refl w).alloc cs T
theorem Z0 (β:Nat→Nat→Prop) (n g x:Nat):T2 β n (·=g) n x ↔ x=g:=by simp [T2]
theorem R.B39 (h:R na β0 w0 σ β a w) {n:Nat} (hn:Free na σ n) {cs:List AV} {vs:Array Value} (hv:Vs ⟨σ.box,β,w⟩ cs vs.toList) (T:TypeId):
  R na β0 w0 {σ with boxes:=σ.boxes.set n (.cells cs)} (T2 β n (·=w.heap.size)) a (w.alloc (.cells vs T))∧
  V ⟨St.box {σ with boxes:=σ.boxes.set n (.cells cs)},T2 β n (·=w.heap.size),w.alloc (.cells vs T)⟩ (.addr n 0) (.pointer (some ⟨w.heap.size,0,none⟩)):=by
 have hle:=Le.JW h hn.len hn.un (.cells cs) (·=w.heap.size) (Grow.ZS w vs T) (by simp)
 refine ⟨h.JW hn.na hn.len hn.un (.cells cs) (·=w.heap.size) (Grow.ZS w vs T) (by simp) (fun x hx=>by subst hx;simp) ⟨w.heap.size,fun x=>Z0 _ _ _ _,vs,T,heap_alloc_new w _,Vs.mono hle _ _ hv⟩,?_⟩
 simp only [V]
 rw [St.J8 _ _ _ _ hn.len,if_pos rfl]
 exact ⟨by simp,fun _=>⟨w.heap.size,(Z0 _ _ _ _).2 rfl,rfl⟩⟩
theorem C52 {C:Ctx} {v:Value} {cs:List AV} (h:(bif ZB v then some [AV.junk] else (ofValue v).cells)=some cs):Vs C cs v.cells.toList:=by
 cases hn:ZB v with
 |false=>
  rw [hn] at h
  exact JP (A5u C v) h
 |true=>
  rw [hn] at h
  cases h
  cases v<;>simp [ZB] at hn
  simp [Value.cells,Vs,V]
theorem B5x (hR:R na β0 w0 σ β a w) {bx:Nat→Box} {t:TypeId} (ho:o.op= .alloc t) {Φ:Nat→List AV→Option Spec} {dr:Bool} {n:Nat} {e:Eff}
  (he:eff P Φ na dr σ.eval bx n o=some e) (hn:Free na σ n):F8 P na β0 w0 (σ.apply o.dst e) o a w:=by
 unfold eff at he
 rw [ho] at he
 simp only at he
 split at he
 ·rename_i zs hz
  cases he
  unfold zeroCells at hz
  split at hz
  ·rename_i i hi
   split at hz
   ·rename_i v hv
    obtain ⟨h1,h2⟩:=hR.B39 hn (C52 hz) t
    refine F8.value (v:= .pointer (some ⟨w.heap.size,0,none⟩)) ?_ h1 h2
    simp only [execOp,ho,Instr.alloc,zeroValue,typeInfo,hi,hv,Sem.run_bind,Sem.run_pure,Result.andThen_ok,newVar,newRow,run_newObj,run_program,World.alloc_eq]
   ·cases hz
  ·cases hz
 ·cases he
theorem C6c (hR:R na β0 w0 σ β a w) {bx:Nat→Box} {t:TypeId} {x:Operand} (ho:o.op= .box t x) {Φ:Nat→List AV→Option Spec} {dr:Bool} {n:Nat} {e:Eff}
  (he:eff P Φ na dr σ.eval bx n o=some e) (hn:Free na σ n):F8 P na β0 w0 (σ.apply o.dst e) o a w:=by
 unfold eff at he
 rw [ho] at he
 simp only at he
 split at he
 ·rename_i cs hc
  cases he
  obtain ⟨h1,h2⟩:=hR.B39 hn (JP (hR.O2 x) hc) t
  refine F8.value (v:= .pointer (some ⟨w.heap.size,0,none⟩)) ?_ h1 h2
  simp only [execOp,ho,Instr.box,Sem.run_bind,Sem.run_pure,Result.andThen_ok,newVar,newRow,run_newObj,World.alloc_eq]
 ·cases he
theorem V8 {t e:TypeId} (h:y6 P t=some e):P.underlying t=some (.slice e)∧P.underlying e=some (.int .u32)∧∃i,P.info? e=some i∧i.size=1∧i.bytes=4∧i.zero=some (.int .u32 0):=by
 unfold y6 at h
 split at h
 ·rename_i e' hu
  split at h
  ·rename_i i h1 h2
   split at h
   ·rename_i h3 h4 h5
    cases h
    exact ⟨hu,h1,i,h2,h3,h4,h5⟩
   ·cases h
  ·cases h
 ·cases h
theorem C20 (hR:R na β0 w0 σ β a w) {bx:Nat→Box} {t:TypeId} {x y:Operand} (ho:o.op= .makeSlice t x y) {Φ:Nat→List AV→Option Spec} {dr:Bool} {n:Nat} {e:Eff}
  (he:eff P Φ na dr σ.eval bx n o=some e) (hp:C6 e.pre True) (hn:Free na σ n):F8 P na β0 w0 (σ.apply o.dst e) o a w:=by
 have hVx:=hR.O2 x
 have hVy:=hR.O2 y
 unfold eff at he
 rw [ho] at he
 simp only at he
 split at he
 ·rename_i el k1 l k2 c hu hx hy
  cases he
  rw [hx] at hVx
  rw [hy] at hVy
  have ex:=hVx.num_inv
  have ey:=hVy.num_inv
  obtain ⟨u1,u2,i,u3,u4,u5,u6⟩:=V8 hu
  obtain ⟨⟨p1,p2,p3⟩,_⟩:=hp
  have hrun:=run_make (P:=P) w t el i _ u1 u3 u6 k1 k2 l c p1 p2 (by rw [u5];omega) (by omega)
  rw [u4,Nat.mul_one] at hrun
  have hcell:∀j,j<c.toNat→(madeCells (Value.int .u32 0).cells c.toNat)[j]? =some (.int .u32 0):=by
   intro j hj
   simp [madeCells,Value.cells,hj,Nat.mod_one]
  have hsz:(madeCells (Value.int .u32 0).cells c.toNat).size=c.toNat:=size_madeCells _ _
  refine F8.value (v:= .slice (some ⟨w.heap.size,0,none⟩) l.toNat c.toNat) (σ':={σ with boxes:=σ.boxes.set n (.D1 el (B2 l.toNat 0))}) (β':=T2 β n (·=w.heap.size)) (w':=w.alloc (.cells (madeCells (Value.int .u32 0).cells c.toNat) el)) (c:= .own n) ?_ ?_ ?_
  ·simp only [execOp,ho,ex,ey,Sem.run_bind,hrun,Result.andThen_ok,Sem.run_pure]
  ·refine hR.JW hn.na hn.len hn.un _ _ (Grow.ZS w _ _) (by simp) (fun x hx=>by subst hx;simp) ⟨fun x y hx hy=> ?_,⟨by simp;omega,fun x hx=> ?_⟩,fun x hx=> ?_⟩
   ·rw [(Z0 _ _ _ _).1 hx,(Z0 _ _ _ _).1 hy]
   ·simp at hx;omega
   ·have:=(Z0 _ _ _ _).1 hx
    subst this
    refine ⟨_,heap_alloc_new w _,by rw [hsz];simp;omega,fun j y hj=> ?_⟩
    rw [List.getElem?_replicate] at hj
    split at hj
    ·cases hj;rw [hcell j (by omega)];rfl
    ·cases hj
  ·simp only [V]
   rw [St.J8 _ _ _ _ hn.len,if_pos rfl]
   refine ⟨by simp,⟨_,_,_,rfl⟩,fun T l' hl=> .inr ⟨w.heap.size,c.toNat,(Z0 _ _ _ _).2 rfl,?_,?_,?_,?_⟩⟩
   ·cases hl;simp
   ·cases hl;simp;omega
   ·simp only [maxLen];omega
   ·cases hl;exact ⟨_,heap_alloc_new w _,hsz.symm⟩
 ·cases he
end
end Go.AI

namespace Go.AI
open Go Go.RowKit
set_option linter.unusedVariables false
set_option linter.unusedSimpArgs false
section
variable {P:Program} {na:Nat} {β0:Nat→Nat→Prop} {w0:World} {σ:St} {β:Nat→Nat→Prop} {a:Act} {w:World} {o:Oper}
theorem A2d (hR:R na β0 w0 σ β a w) {bx:Nat→Box} {x:Operand} (ho:o.op= .move x∨o.op= .assign x) {Φ:Nat→List AV→Option Spec} {dr:Bool} {n:Nat} {e:Eff}
  (he:eff P Φ na dr σ.eval bx n o=some e):F8 P na β0 w0 (σ.apply o.dst e) o a w:=by
 unfold eff at he
 rcases ho with ho|ho<;>rw [ho] at he<;>cases he<;>
  exact F8.pure hR (by simp only [execOp,ho];rfl) (hR.O2 x)
theorem D48 {C:Ctx} (t:Bool) {x y:AV} {u v:Value} (hx:V C x u) (hy:V C y v):V C (cond t x y) (if t=true then u else v):=by
 cases t
 ·exact hy
 ·exact hx
theorem C64 {C:Ctx} (t:Bool) {x y:AV} {u v:Value} (hx:V C x u) (hy:V C y v):V C (ZM t x y) (if t=true then u else v):=by
 have h:=D48 t hx hy
 have key:ZM t x y=cond t x y:=by
  unfold ZM
  split
  ·cases t<;>rfl
  ·split
   ·rename_i e;subst e;cases t<;>rfl
   ·rfl
  ·rfl
 rw [key];exact h
theorem C21 (hR:R na β0 w0 σ β a w) {bx:Nat→Box} {c x y:Operand} (ho:o.op= .pick c x y) {Φ:Nat→List AV→Option Spec} {dr:Bool} {n:Nat} {e:Eff}
  (he:eff P Φ na dr σ.eval bx n o=some e):F8 P na β0 w0 (σ.apply o.dst e) o a w:=by
 have hV:=hR.O2 c
 unfold eff at he
 rw [ho] at he
 simp only at he
 split at he
 ·rename_i t hc
  cases he
  rw [hc] at hV
  have e:=hV.ET
  exact F8.pure hR (by simp only [execOp,ho,e,asBool,Sem.run_bind,Sem.run_pure,Result.andThen_ok]) (C64 t (hR.O2 x) (hR.O2 y))
 ·cases he
theorem A6p:∀(fs:List Field) {l:List (Nat×Nat)},places P fs=some l→fs.mapM (fun f=>(P.info? f.type).map fun i=>(f.offset,i.size))=some l
 |[],l,h=>by simp [places] at h;subst h;rfl
 |f::fs,l,h=>by
  unfold places at h
  split at h
  ·rename_i s r h1 h2
   cases h
   have ih:=A6p fs h2
   unfold BE at h1
   cases hi:P.info? f.type with
   |none=>rw [hi] at h1;simp at h1
   |some i=>
    rw [hi] at h1
    simp at h1
    rw [List.mapM_cons,hi,ih]
    simp [h1]
  ·cases h
theorem VW (off:Nat):∀(us:List Value) (k:Nat) (cells:Array Value),off+k+us.length≤cells.size→
  ((us.zipIdx k).foldl (fun cs (x:Value×Nat)=>cs.setIfInBounds (off+x.2) x.1) cells).toList=cells.toList.take (off+k)++us++cells.toList.drop (off+k+us.length)
 |[],k,cells,h=>by simp
 |u::us,k,cells,h=>by
  rw [List.zipIdx_cons,List.foldl_cons,VW off us (k+1) _ (by simp at h ⊢;omega)]
  have hlt:off+k<cells.size:=by simp at h;omega
  simp only [Array.toList_setIfInBounds,T5]
  have e1:(cells.toList.set (off+k) u).take (off+(k+1))=cells.toList.take (off+k)++[u]:=by
   rw [show off+(k+1)=off+k+1 by omega,List.take_succ_eq_append_getElem (by simpa using hlt)]
   simp [List.take_set_of_le (I6 _)]
  have e2:(cells.toList.set (off+k) u).drop (off+(k+1)+us.length)=cells.toList.drop (off+k+(us.length+1)):=by
   rw [List.drop_set_of_lt (by omega)]
   congr 1;omega
  rw [e1,e2]
  simp
theorem C43 {C:Ctx} (place:Nat→Option (Nat×Nat)):∀(ps:List (Nat×AV)) (qs:List (Nat×Value)) {cs cs':List AV} {vs:Array Value},
  ps.map (·.1)=qs.map (·.1)→(∀(i:Nat) (p:Nat×AV) (q:Nat×Value),ps[i]? =some p→qs[i]? =some q→V C p.2 q.2)→Vs C cs vs.toList→B2k place cs ps=some cs'→
  ∃vs':Array Value,Instr.fill place vs qs=some vs'∧Vs C cs' vs'.toList
 |[],[],cs,cs',vs,_,_,hv,h=>by
  simp [B2k] at h;subst h
  exact ⟨vs,rfl,hv⟩
 |(i,x)::ps,(j,u)::qs,cs,cs',vs,hk,hps,hv,h=>by
  simp at hk
  obtain ⟨rfl,hk⟩:=hk
  unfold B2k at h
  split at h
  ·rename_i off size vc hpl hvc
   split at h
   ·rename_i hcond
    obtain ⟨h1,h2⟩:=hcond
    have hx:V C x u:=hps 0 (i,x) (i,u) (by simp) (by simp)
    have hcv:=JP hx hvc
    have hl1:=hv.length
    have hl2:=hcv.length
    simp at hl1 hl2
    have hfo:=VW off u.cells.toList 0 vs (by simp;omega)
    simp only [I4] at hfo
    have hov:=TX hv hcv off
    obtain ⟨vs',h3,h4⟩:=C43 place ps qs (vs:=(u.cells.toList.zipIdx.foldl (fun cs (x:Value×Nat)=>cs.setIfInBounds (off+x.2) x.1) vs)) hk (fun k p q hp hq=>hps (k+1) p q (by simpa using hp) (by simpa using hq)) (by rw [hfo];exact hov) h
    refine ⟨vs',?_,h4⟩
    unfold Instr.fill
    simp only [hpl]
    have hc:¬(u.cells.size≠size∨off+u.cells.size>vs.size):=by omega
    have hz:u.cells.zipIdx.foldl (fun cs (x:Value×Nat)=>cs.setIfInBounds (off+x.2) x.1) vs=u.cells.toList.zipIdx.foldl (fun cs (x:Value×Nat)=>cs.setIfInBounds (off+x.2) x.1) vs:=by
     rw [←Array.foldl_toList,Array.toList_zipIdx]
    rw [←hz] at h3
    simp only [ne_eq,Bool.or_eq_true,decide_eq_true_eq] at hc ⊢
    rw [if_neg hc]
    exact h3
   ·cases h
  ·cases h
 |[],_::_,_,_,_,hk,_,_,_=>by simp at hk
 |_::_,[],_,_,_,hk,_,_,_=>by simp at hk
theorem D3d (hR:R na β0 w0 σ β a w) (parts:Array (Nat×Operand)):(parts.toList.map fun (x:Nat×Operand)=>(x.1,σ.eval x.2)).map (·.1)=(parts.map fun (x:Nat×Operand)=>(x.1,a.eval x.2)).toList.map (·.1)∧
  ∀(i:Nat) (p:Nat×AV) (q:Nat×Value),(parts.toList.map fun (x:Nat×Operand)=>(x.1,σ.eval x.2))[i]? =some p→(parts.map fun (x:Nat×Operand)=>(x.1,a.eval x.2)).toList[i]? =some q→V ⟨σ.box,β,w⟩ p.2 q.2:=by
 refine ⟨by simp,fun i p q hp hq=> ?_⟩
 simp at hp hq
 obtain ⟨x,y,hxy,rfl⟩:=hp
 obtain ⟨x',y',hxy',rfl⟩:=hq
 rw [hxy] at hxy'
 cases hxy'
 exact hR.O2 y
theorem B5z (hR:R na β0 w0 σ β a w) {bx:Nat→Box} {t:TypeId} {parts:Array (Nat×Operand)} (ho:o.op= .build t parts) {Φ:Nat→List AV→Option Spec} {dr:Bool} {n:Nat} {e:Eff}
  (he:eff P Φ na dr σ.eval bx n o=some e):F8 P na β0 w0 (σ.apply o.dst e) o a w:=by
 unfold eff at he
 rw [ho] at he
 simp only at he
 split at he
 ·rename_i pl zs hpl hzs
  split at he
  ·rename_i cs hcs
   cases he
   obtain ⟨hk,hps⟩:=D3d hR parts
   have hz':=hzs
   unfold zeroCells at hzs
   split at hzs
   ·rename_i it hi
    split at hzs
    ·rename_i z hz
     have hzv:Vs ⟨σ.box,β,w⟩ zs z.cells.toList:=C52 hzs
     obtain ⟨vs',h1,h2⟩:=C43 (C:=⟨σ.box,β,w⟩) pl _ _ hk hps hzv hcs
     refine F8.pure hR (v:= .agg vs') ?_ (by simp only [V];exact ⟨vs'.toList,by simp,h2⟩)
     have hb:P.built t (parts.map fun (x:Nat×Operand)=>(x.1,a.eval x.2)).toList=some vs':=by
      unfold Program.built
      unfold placeOf at hpl
      rw [hi]
      split at hpl
      ·rename_i fs hu
       split at hpl
       ·rename_i l hl
        cases hpl
        rw [hu]
        simp only [hz,A6p _ hl]
        simpa using h1
       ·cases hpl
      ·rename_i k el hu
       split at hpl
       ·rename_i s hs
        cases hpl
        rw [hu]
        unfold BE at hs
        cases hie:P.info? el with
        |none=>rw [hie] at hs;simp at hs
        |some ie=>
         rw [hie] at hs;simp at hs;subst hs
         simp only [hz,hie]
         exact h1
       ·cases hpl
      ·cases hpl
     simp only [execOp,ho,Sem.run_bind,run_build w t _ _ hb,Result.andThen_ok,Sem.run_pure]
    ·cases hzs
   ·cases hzs
  ·cases he
 ·cases he
theorem C27 (k:IntKind) {x y:Int} (h:k.min≤x∧x≤k.max) (h':k.min≤y∧y≤k.max):k.min≤x.tmod y∧x.tmod y≤k.max:=by
 have h0:k.min≤0∧0≤k.max:=by cases k<;>simp [IntKind.min,IntKind.max,IntKind.signed,IntKind.bits]
 have hn:=Int.natAbs_tmod x y
 have hle:=Nat.mod_le x.natAbs y.natAbs
 rcases Int.le_total 0 x with hx|hx
 ·have h1:=Int.tmod_nonneg y hx
  omega
 ·have h1:(-x).tmod y= -(x.tmod y):=Int.neg_tmod x y
  have h2:=Int.tmod_nonneg (a:= -x) y (by omega)
  omega
theorem B8x (k:IntKind) {x:Int} (h:k.min≤x∧x≤k.max) (n:Nat):k.min≤x.fdiv (2^n)∧x.fdiv (2^n)≤k.max:=by
 have h0:k.min≤0∧0≤k.max:=by cases k<;>simp [IntKind.min,IntKind.max,IntKind.signed,IntKind.bits]
 have hp:(0:Int)<2^n:=Int.pow_pos (by omega)
 rw [Int.fdiv_eq_ediv_of_nonneg _ (by omega)]
 have h1:=Int.ediv_mul_le x (show (2:Int)^n≠0 by omega)
 have h2:=Int.lt_ediv_add_one_mul_self x hp
 rcases Int.le_total 0 x with hx|hx
 ·have h3:0≤x/2^n:=Int.ediv_nonneg hx (by omega)
  have h4:x/2^n≤x:=Int.ediv_le_self _ hx
  omega
 ·have h3:x/2^n≤0:=by
   have:=Int.ediv_le_ediv hp hx
   simpa using this
  have h4:x≤x/2^n:=by
   rw [Int.le_ediv_iff_mul_le hp]
   have:x*1≥x*2^n:=Int.mul_le_mul_of_nonpos_left hx (by omega)
   omega
  omega
theorem C6x {C:Ctx} {op:BinOp} {t:TypeId} {xo yo:Operand} {x y c:AV} {u v:Value} {p:Option Prop} (hx:V C x u) (hy:V C y v) (hyo:∀k n,yo= .const (.int k n)→v= .int k n)
  (h:B8b op (ZA P t) yo x y=some (p,c)) (hp:C6 p True) (w:World):∃r,((do eqGuard op t xo yo u v;binOp op t u v:Sem Value)).run P w= .ok r w∧V C c r:=by
 unfold B8b at h
 split at h
 ·rename_i k1 m k2 n
  have ex:=hx.num_inv
  have ey:=hy.num_inv
  have rx:=hx
  simp only [V] at rx
  have ry:=hy
  simp only [V] at ry
  subst ex;subst ey
  have hnn:BA yo=true→0≤n:=by
   intro hs
   unfold BA at hs
   split at hs
   ·have:=hyo _ _ rfl;cases this;simpa using hs
   ·cases hs
  have hnz:s9 yo=true→n≠0:=by
   intro hs
   unfold s9 at hs
   split at hs
   ·have:=hyo _ _ rfl;cases this;simpa using hs
   ·cases hs
  cases op<;>simp only at h
  case shl=>
   cases h
   have h0:0≤n:=by
    by_cases hs:BA yo=true
    ·exact hnn hs
    ·rw [if_neg hs] at hp;exact hp.1
   exact ⟨_,by simp only [eqGuard_at_int,Sem.run_bind,Sem.run_pure,Result.andThen_ok,binOp_shl,Op.shift,if_neg (show¬n<0 by omega)];rfl,by simp only [V];exact ⟨trivial,RW _ _⟩⟩
  case shr=>
   cases h
   have h0:0≤n:=by
    by_cases hs:BA yo=true
    ·exact hnn hs
    ·rw [if_neg hs] at hp;exact hp.1
   exact ⟨_,by simp only [eqGuard_at_int,Sem.run_bind,Sem.run_pure,Result.andThen_ok,binOp_shr,Op.shift,if_neg (show¬n<0 by omega)];rfl,by simp only [V];exact ⟨trivial,B8x _ rx.2 _⟩⟩
  case quo=>
   split at h
   ·rename_i e;subst e
    cases h
    have h0:n≠0:=by
     by_cases hs:s9 yo=true
     ·exact hnz hs
     ·rw [if_neg hs] at hp;exact hp.1
    exact ⟨_,by simp only [eqGuard_at_int,Sem.run_bind,Sem.run_pure,Result.andThen_ok,binOp_quo,Op.intDiv,if_neg h0];rfl,by simp only [V];exact ⟨trivial,RW _ _⟩⟩
   ·cases h
  case rem=>
   split at h
   ·rename_i e;subst e
    cases h
    have h0:n≠0:=by
     by_cases hs:s9 yo=true
     ·exact hnz hs
     ·rw [if_neg hs] at hp;exact hp.1
    exact ⟨_,by simp only [eqGuard_at_int,Sem.run_bind,Sem.run_pure,Result.andThen_ok,binOp_rem,Op.intDiv,if_neg h0];rfl,by simp only [V];exact ⟨trivial,C27 _ rx.2 ry.2⟩⟩
   ·cases h
  all_goals
   split at h
   ·rename_i e;subst e
    try simp only [C3v] at h
    cases h
    first
     |exact ⟨_,by simp only [eqGuard_at_int,Sem.run_bind,Sem.run_pure,Result.andThen_ok,binOp_add,binOp_sub,binOp_mul,Op.intArith];rfl,by simp only [V];exact ⟨trivial,RW _ _⟩⟩
     |exact ⟨_,by simp only [eqGuard_at_int,Sem.run_bind,Sem.run_pure,Result.andThen_ok,binOp_eql,binOp_neq,binOp_lss,binOp_leq,binOp_gtr,binOp_geq];rfl,by simp only [V]⟩
     |exact ⟨_,by simp only [eqGuard_at_int,Sem.run_bind,Sem.run_pure,Result.andThen_ok,binOp_and,binOp_or,binOp_xor,binOp_andNot,Op.intBits];rfl,by simp only [V];exact ⟨trivial,RW _ _⟩⟩
   ·cases h
 ·rename_i b1 b2
  have ex:=hx.ET
  have ey:=hy.ET
  subst ex;subst ey
  have hbt:∀(q:Bool),ZA P t=true→(Op.equal t (.bool b1) (.bool b2)).run P w= .ok (b1==b2) w:=by
   intro _ hb
   unfold ZA at hb
   split at hb
   ·rename_i hu
    unfold Op.equal
    rw [show Op.maxDepth=9999+1 from rfl]
    unfold Op.equalIn
    simp [run_underlying hu]
   ·cases hb
  split at h
  ·rename_i hb
   cases h
   exact ⟨_,by simp only [eqGuard_at_bool,Sem.run_bind,Sem.run_pure,Result.andThen_ok,binOp,hbt true hb];rfl,by simp only [V]⟩
  ·rename_i hb
   cases h
   exact ⟨_,by simp only [eqGuard_at_bool,Sem.run_bind,Sem.run_pure,Result.andThen_ok,binOp,hbt true hb];rfl,by simp only [V]⟩
  ·cases h
 ·cases h
end
end Go.AI
