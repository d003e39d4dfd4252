/- A symbolic interpreter of the model's code over values in the place of memory: definitions alone. -/
import Derived.WalkKit
import Derived.KernelRfl
namespace Go.AI
open Go
set_option linter.unusedVariables false

inductive AV where
  | junk
  | num (k : IntKind) (n : Int)
  | bool (b : Bool)
  | nilS
  | dig (p : List Nat) (l : List Nat)
  | vec (p : List Nat) (n : Nat) (l : List AV)
  | agg (cs : List AV)
  | tup (vs : List AV)
  | addr (b off : Nat)
  | own (b : Nat)
  | cref (p : List Nat) (cs : List AV)
  | fn (f : Nat) (caps : List AV)
  | grown (t : TypeId) (l : List Nat)
  | boxv (cs : List AV)

inductive Box where
  | unborn
  | dead
  | arena
  | cells (cs : List AV)
  | digs (t : TypeId) (l : List Nat)

structure St where
  tmps : List AV
  boxes : List Box

structure Spec where
  pre : Option Prop
  res : AV

inductive LR where
  | done (e : Exit) (vals : List AV)
  | test (b : Bool) (x y : LR)
  | need (p : Prop) (x : LR)

/-- how a slot is kept at a loop's head: as it is; as one that may lie anywhere; nil as a slice that grows -/
inductive Keep where
  | same
  | any
  | grow (T : TypeId)

def Keep.isAny : Keep → Bool
  | .any => true
  | _ => false

inductive LoopAnn where
  | spec (keep : List (Nat × Keep)) (ls : List AV → Option LR)
  | unroll (n : Nat)

structure Eff where
  pre : Option Prop
  val : AV
  upd : List (Nat × Box)

def andO : Option Prop → Prop → Prop
  | none, q => q
  | some p, q => p ∧ q

/-- a value of the code as an abstract one -/
def ofCell : Value → AV
  | .int k n => if k.min ≤ n ∧ n ≤ k.max then .num k n else .junk
  | .bool b => .bool b
  | .slice none 0 0 => .nilS
  | _ => .junk

def ofValue : Value → AV
  | .agg cs => .agg (cs.toList.map ofCell)
  | v => ofCell v

def St.eval (σ : St) : Operand → AV
  | .tmp t => σ.tmps.getD t .junk
  | .const v => ofValue v
  | .global _ => .junk
  | .func f => .fn f []

def St.box (σ : St) (b : Nat) : Box := σ.boxes.getD b .unborn

def AV.oneCell : AV → Bool
  | .num .. | .bool _ | .nilS | .dig .. | .own _ | .vec .. | .cref .. | .fn .. => true
  | _ => false

def AV.cells : AV → Option (List AV)
  | .agg cs => some cs
  | x => if x.oneCell then some [x] else none

/-- is it a struct or an array? -/
def isAgg (P : Program) (t : TypeId) : Option Bool :=
  match P.underlying t with
  | some (.struct _) => some true
  | some (.array _ _) => some true
  | some _ => some false
  | none => none

def size? (P : Program) (t : TypeId) : Option Nat := (P.info? t).map (·.size)

def zeroCells (P : Program) (t : TypeId) : Option (List AV) :=
  match P.info? t with
  | some i => match i.zero with
    | some v => (ofValue v).cells
    | none => none
  | none => none

/-- the cells of a variable of type t, as one value -/
def packAt (P : Program) (t : TypeId) (cs : List AV) : Option AV :=
  match isAgg P t, size? P t with
  | some true, some s => if s ≤ cs.length then some (.agg (cs.take s)) else none
  | some false, _ => match cs with
    | [] => none
    | c :: _ => some c
  | _, _ => none

def overwrite (off : Nat) (xs cs : List AV) : List AV := cs.take off ++ xs ++ cs.drop (off + xs.length)

def allArena (bx : Nat → Box) : List Nat → Bool
  | [] => true
  | i :: p => match bx i with
    | .arena => allArena bx p
    | _ => false

def mapO {α β : Type} (f : α → Option β) : List α → Option (List β)
  | [] => some []
  | x :: l => match f x with
    | none => none
    | some y => match mapO f l with
      | none => none
      | some r => some (y :: r)

/-- an argument, as the callee sees it: what it refers to lies in the arena i -/
def AV.asArg (bx : Nat → Box) (i : Nat) : Nat → AV → Option AV
  | 0, _ => none
  | k + 1, v => match v with
    | .junk => some .junk
    | .num k n => some (.num k n)
    | .bool b => some (.bool b)
    | .nilS => some (.dig [i] [])
    | .dig p l => if allArena bx p then some (.dig [i] l) else none
    | .own b => match bx b with
      | .digs T l => some (.dig [i] l)
      | _ => none
    | .vec p n l => if allArena bx p then match mapO (AV.asArg bx i k) l with
        | some l' => some (.vec [i] n l')
        | none => none
      else none
    | .agg cs => match mapO (AV.asArg bx i k) cs with
      | some cs' => some (.agg cs')
      | none => none
    | .cref p cs => if allArena bx p then match mapO (AV.asArg bx i k) cs with
        | some cs' => some (.cref [i] cs')
        | none => none
      else none
    | .addr b off => match bx b with
      | .cells cs => match mapO (AV.asArg bx i k) (cs.drop off) with
        | some cs' => some (.cref [i] cs')
        | none => none
      | _ => none
    | .fn f caps => match mapO (AV.asArg bx i k) caps with
      | some cs' => some (.fn f cs')
      | none => none
    | _ => none

/-- the arenas and boxes to which a value refers -/
def AV.ids (bx : Nat → Box) : Nat → AV → List Nat
  | 0, _ => []
  | k + 1, v => match v with
    | .dig p _ => p
    | .own b => [b]
    | .vec p _ l => p ++ l.flatMap (AV.ids bx k)
    | .agg cs => cs.flatMap (AV.ids bx k)
    | .cref p cs => p ++ cs.flatMap (AV.ids bx k)
    | .fn _ caps => caps.flatMap (AV.ids bx k)
    | .addr b off => match bx b with
      | .cells cs => b :: (cs.drop off).flatMap (AV.ids bx k)
      | _ => [b]
    | _ => []

def dedup : List Nat → List Nat
  | [] => []
  | x :: l => if l.contains x then dedup l else x :: dedup l

mutual
/-- every arena i becomes the arenas f i -/
def AV.relab (f : Nat → List Nat) : AV → AV
  | .dig p l => .dig (dedup (p.flatMap f)) l
  | .vec p n l => .vec (dedup (p.flatMap f)) n (AV.relabs f l)
  | .agg cs => .agg (AV.relabs f cs)
  | .tup cs => .tup (AV.relabs f cs)
  | .num k n => .num k n
  | .bool b => .bool b
  | .nilS => .nilS
  | _ => .junk
def AV.relabs (f : Nat → List Nat) : List AV → List AV
  | [] => []
  | c :: cs => AV.relab f c :: AV.relabs f cs
end

/-- arguments, numbered from i on; with the arenas of each -/
def asArgsFrom (bx : Nat → Box) : Nat → List AV → Option (List AV × List (List Nat))
  | _, [] => some ([], [])
  | i, c :: cs => match AV.asArg bx i 8 c with
    | none => none
    | some c' => match asArgsFrom bx (i + 1) cs with
      | none => none
      | some (cs', ps) => some (c' :: cs', dedup (AV.ids bx 8 c) :: ps)

/-- the arenas of a result that may lie in what was handed in: boxes of digits go over into the arena n -/
def aliasIds (bx : Nat → Box) (n : Nat) : List Nat → List Nat
  | [] => []
  | i :: p => match bx i with
    | .digs .. => n :: aliasIds bx n p
    | _ => i :: aliasIds bx n p

/-- the boxes of digits among them are given up -/
def freeze (bx : Nat → Box) (drawn : Bool) : List Nat → Option (List (Nat × Box))
  | [] => some []
  | i :: p => match bx i with
    | .arena => freeze bx drawn p
    | .digs .. => if drawn then none else match freeze bx drawn p with
      | some u => some ((i, .dead) :: u)
      | none => none
    | _ => none

mutual
/-- the arenas named in a result -/
def AV.names : AV → List Nat
  | .dig p _ => p
  | .vec p _ l => p ++ AV.namess l
  | .agg cs => AV.namess cs
  | .tup cs => AV.namess cs
  | _ => []
def AV.namess : List AV → List Nat
  | [] => []
  | c :: cs => AV.names c ++ AV.namess cs
end

def callEff (bx : Nat → Box) (drawn : Bool) (Φ : Nat → List AV → Option Spec) (n f : Nat) (args : List AV) : Option Eff :=
  match asArgsFrom bx 1 args with
  | none => none
  | some (as, ps) => match Φ f as with
    | none => none
    | some s =>
      match freeze bx drawn (dedup (s.res.names.flatMap fun j => if j = 0 then [] else ps.getD (j - 1) [])) with
      | none => none
      | some u => some ⟨s.pre, s.res.relab (fun j => if j = 0 then [n] else aliasIds bx n (ps.getD (j - 1) [])), (n, .arena) :: u⟩

def bitsI (op : BinOp) (k : IntKind) (x y : Int) : Option Int :=
  let a := BitVec.ofInt k.bits x
  let b := BitVec.ofInt k.bits y
  match op with
  | .and => some (k.wrap (a &&& b).toNat)
  | .or => some (k.wrap (a ||| b).toNat)
  | .xor => some (k.wrap (a ^^^ b).toNat)
  | .andNot => some (k.wrap (a &&& ~~~b).toNat)
  | _ => none

def surelyNonzero : Operand → Bool
  | .const (.int _ n) => n != 0
  | _ => false

def surelyNonneg : Operand → Bool
  | .const (.int _ n) => decide (0 ≤ n)
  | _ => false

def isBoolT (P : Program) (t : TypeId) : Bool :=
  match P.underlying t with
  | some .bool => true
  | _ => false

def binEff (op : BinOp) (bt : Bool) (yo : Operand) : AV → AV → Option (Option Prop × AV)
  | .num k a, .num k' b =>
    match op with
    | .shl => some (if surelyNonneg yo then none else some (0 ≤ b), .num k (k.wrap (a * 2 ^ (min b.toNat k.bits))))
    | .shr => some (if surelyNonneg yo then none else some (0 ≤ b), .num k (a.fdiv (2 ^ (min b.toNat k.bits))))
    | .add => if k = k' then some (none, .num k (k.wrap (a + b))) else none
    | .sub => if k = k' then some (none, .num k (k.wrap (a - b))) else none
    | .mul => if k = k' then some (none, .num k (k.wrap (a * b))) else none
    | .quo => if k = k' then some (if surelyNonzero yo then none else some (b ≠ 0), .num k (k.wrap (a.tdiv b))) else none
    | .rem => if k = k' then some (if surelyNonzero yo then none else some (b ≠ 0), .num k (a.tmod b)) else none
    | .eql => if k = k' then some (none, .bool (a == b)) else none
    | .neq => if k = k' then some (none, .bool (a != b)) else none
    | .lss => if k = k' then some (none, .bool (decide (a < b))) else none
    | .leq => if k = k' then some (none, .bool (decide (a ≤ b))) else none
    | .gtr => if k = k' then some (none, .bool (decide (a > b))) else none
    | .geq => if k = k' then some (none, .bool (decide (a ≥ b))) else none
    | op => if k = k' then match bitsI op k a b with
      | some r => some (none, .num k r)
      | none => none
      else none
  | .bool a, .bool b =>
    match op, bt with
    | .eql, true => some (none, .bool (a == b))
    | .neq, true => some (none, .bool (!(a == b)))
    | _, _ => none
  | _, _ => none

def unEff (op : UnOp) : AV → Option AV
  | .num k n =>
    match op with
    | .neg => some (.num k (k.wrap (0 - n)))
    | .xor => match bitsI .xor k (if k.signed then -1 else k.max) n with
      | some r => some (.num k r)
      | none => none
    | _ => none
  | .bool b => match op with
    | .not => some (.bool !b)
    | _ => none
  | _ => none

def pickEff (t : Bool) (x y : AV) : AV :=
  match x, y with
  | .bool x, .bool y => .bool (cond t x y)
  | .num k x, .num k' y => if k = k' then .num k (cond t x y) else cond t (.num k x) (.num k' y)
  | x, y => cond t x y

/-- the fields of a struct: offset and size -/
def places (P : Program) : List Field → Option (List (Nat × Nat))
  | [] => some []
  | f :: fs => match size? P f.type, places P fs with
    | some s, some r => some ((f.offset, s) :: r)
    | _, _ => none

/-- where the parts of a struct or an array lie -/
def placeOf (P : Program) (t : TypeId) : Option (Nat → Option (Nat × Nat)) :=
  match P.underlying t with
  | some (.struct fs) => match places P fs.toList with
    | some l => some fun i => l[i]?
    | none => none
  | some (.array _ e) => match size? P e with
    | some s => some fun i => some (i * s, s)
    | none => none
  | _ => none

def fillA (place : Nat → Option (Nat × Nat)) : List AV → List (Nat × AV) → Option (List AV)
  | cells, [] => some cells
  | cells, (i, v) :: rest =>
    match place i, v.cells with
    | some (off, size), some vc =>
      if vc.length = size ∧ off + size ≤ cells.length then fillA place (overwrite off vc cells) rest else none
    | _, _ => none

/-- are these all digits? -/
def allDigs : List AV → Option (List Nat)
  | [] => some []
  | .num .u32 x :: l => match allDigs l with
    | some r => some (x.toNat :: r)
    | none => none
  | _ => none

/-- parts number 0, 1, .. in their order, all there -/
def inOrder : Nat → List (Nat × AV) → Option (List AV)
  | _, [] => some []
  | i, (j, v) :: l => if i = j then match inOrder (i + 1) l with
    | some r => some (v :: r)
    | none => none
    else none

def allSize (n : Nat) : List AV → Bool
  | [] => true
  | v :: l => (match v.cells with | some cs => cs.length == n | none => false) && allSize n l

/-- a slice type of uint32: the type of its elements, with all that is asked of it -/
def u32Elem (P : Program) (t : TypeId) : Option TypeId :=
  match P.underlying t with
  | some (.slice e) => match P.underlying e, P.info? e with
    | some (.int .u32), some i => match i.size, i.bytes, i.zero with
      | 1, 4, some (.int .u32 0) => some e
      | _, _, _ => none
    | _, _ => none
  | _ => none

def elemIsU32 (P : Program) (t : TypeId) : Bool := (u32Elem P t).isSome

def elemSize (P : Program) (t : TypeId) : Option Nat :=
  match P.underlying t with
  | some (.slice e) => match P.info? e with
    | some i => match i.zero with
      | some _ => some i.size
      | none => none
    | none => none
  | _ => none

def fieldOf (P : Program) (t : TypeId) (f : Nat) : Option (Nat × Nat × TypeId) :=
  match P.underlying t with
  | some (.struct fs) => match fs[f]? with
    | some f => match size? P f.type with
      | some s => some (f.offset, s, f.type)
      | none => none
    | none => none
  | _ => none

def intOfT (P : Program) (t : TypeId) : Option IntKind :=
  match P.underlying t with
  | some (.int k) => some k
  | _ => none

def isSliceT (P : Program) (t : TypeId) : Bool :=
  match P.underlying t with
  | some (.slice _) => true
  | _ => false

def lenEff (P : Program) (bx : Nat → Box) (t : TypeId) : AV → Option Eff
  | .dig p l => if isSliceT P t && allArena bx p then some ⟨none, .num .i64 (l.length : Int), []⟩ else none
  | .own b => match bx b with
    | .digs _ l => if isSliceT P t then some ⟨none, .num .i64 (l.length : Int), []⟩ else none
    | _ => none
  | .nilS => if isSliceT P t then some ⟨none, .num .i64 0, []⟩ else none
  | .vec p _ l => if isSliceT P t && allArena bx p then some ⟨none, .num .i64 (l.length : Int), []⟩ else none
  | _ => none

def appendEff (P : Program) (bx : Nat → Box) (n : Nat) (t : TypeId) : AV → AV → Option Eff
  | .nilS, .dig p l => match u32Elem P t with
    | some _ => if allArena bx p then some ⟨some (l.length ≤ 2 ^ 40), .dig [n] l, [(n, .arena)]⟩ else none
    | none => none
  | .own b, .dig p xs => match bx b, u32Elem P t with
    | .digs T l, some e => if T = e && allArena bx p then some ⟨some (0 ≤ xs.length ∧ l.length + xs.length ≤ 2 ^ 40), .own n, [(b, .dead), (n, .digs T (l ++ xs))]⟩ else none
    | _, _ => none
  | _, _ => none

def maxEff : AV → AV → Option Eff
  | .num k x, .num k' y => if k = k' then some ⟨none, .num k (if y > x then y else x), []⟩ else none
  | _, _ => none

def minEff : AV → AV → Option Eff
  | .num k x, .num k' y => if k = k' then some ⟨none, .num k (if y < x then y else x), []⟩ else none
  | _, _ => none

def builtinEff (P : Program) (bx : Nat → Box) (n : Nat) (b : Builtin) (argTypes : List TypeId) (args : List AV) : Option Eff :=
  match b with
  | .len => match argTypes, args with
    | [t], [x] => lenEff P bx t x
    | _, _ => none
  | .max => match args with
    | [x, y] => maxEff x y
    | _ => none
  | .min => match args with
    | [x, y] => minEff x y
    | _ => none
  | .append => match argTypes, args with
    | [t, t'], [x, y] => if t = t' then appendEff P bx n t x y else none
    | _, _ => none
  | _ => none

def eff (P : Program) (Φ : Nat → List AV → Option Spec) (drawn : Bool) (ρ : Operand → AV) (bx : Nat → Box) (n : Nat) (o : Oper) : Option Eff :=
  match o.op with
  | .move x | .assign x => some ⟨none, ρ x, []⟩
  | .pick c a b => match ρ c with
    | .bool t => some ⟨none, pickEff t (ρ a) (ρ b), []⟩
    | _ => none
  | .alloc t => match zeroCells P t with
    | some zs => some ⟨none, .addr n 0, [(n, .cells zs)]⟩
    | none => none
  | .box _ x => match (ρ x).cells with
    | some cs => some ⟨none, .addr n 0, [(n, .cells cs)]⟩
    | none => none
  | .build t parts => match placeOf P t, zeroCells P t with
    | some pl, some zs => match fillA pl zs (parts.toList.map fun (i, x) => (i, ρ x)) with
      | some cs => some ⟨none, .agg cs, []⟩
      | none => none
    | _, _ => none
  | .buildSlice t len parts =>
    match inOrder 0 (parts.toList.map fun (i, x) => (i, ρ x)) with
    | none => none
    | some els => if els.length = len ∧ len ≤ 64 then
        (if elemIsU32 P t then match allDigs els with
          | some l => if l.isEmpty then (match u32Elem P t with
            | some e => some ⟨none, .own n, [(n, .digs e [])]⟩
            | none => none) else some ⟨none, .dig [n] l, [(n, .arena)]⟩
          | none => none
        else match elemSize P t with
          | some s => if 0 < s ∧ s ≤ 64 ∧ allSize s els then some ⟨none, .vec [n] s els, [(n, .arena)]⟩ else none
          | none => none)
      else none
  | .load t a => match ρ a with
    | .addr b off => match bx b with
      | .cells cs => match packAt P t (cs.drop off) with
        | some v => some ⟨none, v, []⟩
        | none => none
      | .digs T l => match isAgg P t with
        | some false => some ⟨some (off < l.length), .num .u32 (l.getD off 0 : Nat), []⟩
        | _ => none
      | _ => none
    | .cref p cs => if allArena bx p then match packAt P t cs with
        | some v => some ⟨none, v, []⟩
        | none => none
      else none
    | _ => none
  | .store t a x => match ρ a with
    | .addr b off => match bx b with
      | .cells cs => match (ρ x).cells, size? P t with
        | some xs, some s => if xs.length = s ∧ off + s ≤ cs.length ∧ xs.all AV.oneCell = true then some ⟨none, .junk, [(b, .cells (overwrite off xs cs))]⟩ else none
        | _, _ => none
      | .digs T l => match ρ x, size? P t with
        | .num .u32 v, some 1 => some ⟨some (off < l.length), .junk, [(b, .digs T (l.set off v.toNat))]⟩
        | _, _ => none
      | _ => none
    | _ => none
  | .binOp op t x y _ => match binEff op (isBoolT P t) y (ρ x) (ρ y) with
    | some (p, v) => some ⟨p, v, []⟩
    | none => none
  | .unOp op _ x => match unEff op (ρ x) with
    | some v => some ⟨none, v, []⟩
    | none => none
  | .convert src dst x => match intOfT P src, intOfT P dst, ρ x with
    | some _, some k, .num _ v => some ⟨none, .num k (k.wrap v), []⟩
    | _, _, _ => none
  | .makeSlice t l c => match u32Elem P t, ρ l, ρ c with
    | some e, .num _ x, .num _ y => some ⟨some (0 ≤ x ∧ x ≤ y ∧ y ≤ 2 ^ 40), .own n, [(n, .digs e (List.replicate x.toNat 0))]⟩
    | _, _, _ => none
  | .slice t x lo hi mx => match elemIsU32 P t, ρ x, mx with
    | true, .dig p l, none => if allArena bx p then
        match lo, hi with
        | some lo, none => match ρ lo with
          | .num _ a => some ⟨some (0 ≤ a ∧ a ≤ l.length), .dig p (l.drop a.toNat), []⟩
          | _ => none
        | none, some hi => match ρ hi with
          | .num _ b => some ⟨some (0 ≤ b ∧ b ≤ l.length), .dig p (l.take b.toNat), []⟩
          | _ => none
        | some lo, some hi => match ρ lo, ρ hi with
          | .num _ a, .num _ b => some ⟨some (0 ≤ a ∧ a ≤ b ∧ b ≤ l.length), .dig p ((l.take b.toNat).drop a.toNat), []⟩
          | _, _ => none
        | none, none => some ⟨none, .dig p l, []⟩
      else none
    | _, _, _ => none
  | .fieldAddr t x f => match fieldOf P t f, ρ x with
    | some (off, s, _), .addr b o => if s = 0 then none else match bx b with
      | .cells _ => some ⟨none, .addr b (o + off), []⟩
      | _ => none
    | some (off, s, _), .cref p cs => if s = 0 then none else some ⟨none, .cref p (cs.drop off), []⟩
    | _, _ => none
  | .field t x f => match fieldOf P t f, ρ x with
    | some (off, _, ty), .agg cs => match packAt P ty (cs.drop off) with
      | some v => some ⟨none, v, []⟩
      | none => none
    | _, _ => none
  | .indexAddr t x ix => match ρ x, ρ ix with
    | .dig p l, .num _ i => if elemIsU32 P t && allArena bx p then some ⟨some (0 ≤ i ∧ i < l.length), .cref p [.num .u32 (l.getD i.toNat 0 : Nat)], []⟩ else none
    | .own b, .num _ i => match bx b with
      | .digs T l => if elemIsU32 P t then some ⟨some (0 ≤ i ∧ i < l.length), .addr b i.toNat, []⟩ else none
      | _ => none
    | .vec p s l, .num _ i => if elemSize P t = some s && allArena bx p then match (l.getD i.toNat .junk).cells with
        | some cs => some ⟨some (0 ≤ i ∧ i < l.length), .cref p cs, []⟩
        | none => none
      else none
    | _, _ => none
  | .extract x i => match ρ x with
    | .tup vs => match vs[i]? with
      | some v => some ⟨none, v, []⟩
      | none => none
    | _ => none
  | .call c => match c.callee with
    | .value f => match ρ f with
      | .fn f caps => callEff bx drawn Φ n f ((c.args.toList.map ρ) ++ caps)
      | _ => none
    | .builtin b => builtinEff P bx n b c.argTypes.toList (c.args.toList.map ρ)
    | _ => none
  | .makeFunc (.func f) first captured => if first.size = 0 then some ⟨none, .fn f (captured.toList.map ρ), []⟩ else none
  | _ => none

def allocates : Op → Bool
  | .alloc _ | .box .. | .buildSlice .. | .makeSlice .. => true
  | .call c => match c.callee with
    | .builtin .append => true
    | .builtin _ => false
    | _ => true
  | _ => false

def number : Nat → List Oper → List (Nat × Oper)
  | _, [] => []
  | n, o :: l => (n, o) :: number (if allocates o.op then n + 1 else n) l

def countAllocs : List Oper → Nat
  | [] => 0
  | o :: l => (if allocates o.op then 1 else 0) + countAllocs l

def St.put (σ : St) (dst : Option Tmp) (v : AV) : St :=
  match dst with
  | some d => { σ with tmps := σ.tmps.set d v }
  | none => σ

def setBoxes (bs : List Box) : List (Nat × Box) → List Box
  | [] => bs
  | (i, b) :: u => setBoxes (bs.set i b) u

def St.apply (σ : St) (dst : Option Tmp) (e : Eff) : St :=
  St.put { σ with boxes := setBoxes σ.boxes e.upd } dst e.val

/-- boxes that are not among p are not looked at -/
def mask (p : Nat → Bool) (bx : Nat → Box) : Nat → Box := fun i => if p i then bx i else .unborn

/-- does z yield what o takes? -/
def feeds (z o : Oper) : Bool := match z.dst with
  | some d => o.op.operands.any fun x => match x with
    | .tmp t => t == d
    | _ => false
  | none => false

/-- the operations from which o has its operands, directly or through others -/
def reach (ops : Array Oper) : Nat → Oper → List Nat
  | 0, _ => []
  | f + 1, o => o.after.toList.flatMap fun e => if Region.binds .any e then (match ops[e.on]? with
    | some z => if feeds z o then e.on :: reach ops f z else []
    | none => []) else []

/-- the boxes that these make -/
def vis (lim : Nat) (ops : Array Oper) (o : Oper) : List Nat := (reach ops 12 o).filterMap fun i => match (number lim ops.toList)[i]? with
  | some z => if allocates z.2.op then some z.1 else none
  | none => none

/-- in a region that draws its order, an operation looks at what stood ahead of it, and at what it has its operands from -/
def sees (lim : Nat) (ops : Array Oper) (o : Oper) : Nat → Bool := fun i => decide (i < lim) || (vis lim ops o).contains i

/-- independent, for regions that draw their order -/
def isStore : Op → Bool
  | .store .. => true
  | .call c => match c.callee with
    | .builtin .append => true
    | _ => false
  | _ => false
/-! what a call yields is named, so that it is written down once -/
def shareV : AV → (AV → Prop) → Prop
  | .dig p l, k => ∀ l', l' = l → k (.dig p l')
  | .num kd n, k => ∀ n', n' = n → k (.num kd n')
  | .bool b, k => ∀ b', b' = b → k (.bool b')
  | v, k => k v
def shareVs : List AV → (List AV → Prop) → Prop
  | [], k => k []
  | v :: l, k => shareV v fun v' => shareVs l fun l' => k (v' :: l')
def shareW : AV → (AV → Prop) → Prop
  | .agg cs, k => shareVs cs fun cs' => k (.agg cs')
  | v, k => shareV v k
def shareWs : List AV → (List AV → Prop) → Prop
  | [], k => k []
  | v :: l, k => shareW v fun v' => shareWs l fun l' => k (v' :: l')
def share : AV → (AV → Prop) → Prop
  | .agg cs, k => shareVs cs fun cs' => k (.agg cs')
  | .tup cs, k => shareWs cs fun cs' => k (.tup cs')
  | v, k => k v

def isCall : Op → Bool
  | .call c => match c.callee with
    | .builtin _ => false
    | _ => true
  | _ => false

/-- a comparison with a great constant: what it yields is named, too (the kernel would count down from the constant) -/
def isBig : Op → Bool
  | .binOp _ _ _ (.const (.int _ n)) _ => decide (4294967296 < n.natAbs)
  | _ => false

def stepK (P : Program) (Φ : Nat → List AV → Option Spec) (drawn : Bool) (lim : Nat → Bool) (σ : St) (x : Nat × Oper) (k : St → Prop) : Prop :=
  match eff P Φ drawn σ.eval (if drawn && !isStore x.2.op then mask lim σ.box else σ.box) x.1 x.2 with
  | some e => andO e.pre (cond (isCall x.2.op) (share e.val fun v => k (σ.apply x.2.dst ⟨e.pre, v, e.upd⟩)) (cond (isBig x.2.op) (shareV e.val fun v => k (σ.apply x.2.dst ⟨e.pre, v, e.upd⟩)) (k (σ.apply x.2.dst e))))
  | none => False

/-- the operations of a region in the order of the text; at a guard the ways part -/
def evR (P : Program) (Φ : Nat → List AV → Option Spec) (drawn : Bool) (lim : Nat) (ops : Array Oper) : List (Nat × Oper) → St → (St → Prop) → Prop
  | [], σ, k => k σ
  | x :: rest, σ, k =>
    match x.2.guard with
    | none => stepK P Φ drawn (sees lim ops x.2) σ x fun σ' => evR P Φ drawn lim ops rest σ' k
    | some (j, want) =>
      match (ops[j]?).bind (·.dst) with
      | none => False
      | some d =>
        match σ.tmps.getD d .junk with
        | .bool b =>
          cond b
            (cond want (stepK P Φ drawn (sees lim ops x.2) (σ.put (some d) (.bool true)) x fun σ' => evR P Φ drawn lim ops rest σ' k) (evR P Φ drawn lim ops rest ((σ.put (some d) (.bool true)).put x.2.dst (.tup [])) k))
            (cond want (evR P Φ drawn lim ops rest ((σ.put (some d) (.bool false)).put x.2.dst (.tup [])) k) (stepK P Φ drawn (sees lim ops x.2) (σ.put (some d) (.bool false)) x fun σ' => evR P Φ drawn lim ops rest σ' k))
        | .tup [] => evR P Φ drawn lim ops rest (σ.put x.2.dst (.tup [])) k
        | _ => False

def isMem : Op → Bool
  | .alloc _ | .box .. | .buildSlice .. | .makeSlice .. | .load .. | .store .. | .indexAddr .. | .slice .. | .fieldAddr .. => true
  | .call _ => true
  | _ => false

def dependent (ops : Array Oper) (x y : Oper) : Bool :=
  !(x.apart ops y) || (isStore x.op && isMem y.op) || (isMem x.op && isStore y.op)

def drawOk (ops : Array Oper) : Bool :=
  let l := ops.toList.zipIdx
  l.all fun (y, j) => (y.after.all fun e => !Region.binds .any e || decide (e.on < j)) && l.all fun (x, i) => !decide (i < j) || !dependent ops x y || y.after.any fun e => Region.binds .any e && decide (e.on = i)

/-! of the state what is kept at a loop's head -/
/-- all that a slot may refer to at a loop's head -/
def wideA (na : Nat) : List Nat := (List.range (na + 1)).map (· + 1)

def notZero (p : List Nat) : Bool := p.all fun i => decide (0 < i)

mutual
def AV.merge (bx : Nat → Box) (na : Nat) (any : Bool) : AV → Option AV
  | .junk => some .junk
  | .num k n => some (.num k n)
  | .bool b => some (.bool b)
  | .nilS => some (.dig (if any then wideA na else [na + 1]) [])
  | .dig p l => if allArena bx p && notZero p then
      (if any then some (.dig (wideA na) l)
      else if p.all (fun i => decide (na < i)) then some (.dig [na + 1] l) else some (.dig (wideA na) l)) else none
  | .vec p n l => if allArena bx p && notZero p then match AV.merges bx na any l with
      | some l' => some (.vec (if any then wideA na else if p.all (fun i => decide (na < i)) then [na + 1] else wideA na) n l')
      | none => none
      else none
  | .agg cs => match AV.merges bx na any cs with
    | some cs' => some (.agg cs')
    | none => none
  | .tup cs => match AV.merges bx na any cs with
    | some cs' => some (.tup cs')
    | none => none
  | .fn f caps => match AV.merges bx na any caps with
    | some cs' => some (.fn f cs')
    | none => none
  | .cref p cs => if allArena bx p && notZero p then match AV.merges bx na any cs with
      | some l' => some (.cref (wideA na) l')
      | none => none
      else none
  | _ => none
def AV.merges (bx : Nat → Box) (na : Nat) (any : Bool) : List AV → Option (List AV)
  | [] => some []
  | c :: cs => match AV.merge bx na any c with
    | none => none
    | some c' => match AV.merges bx na any cs with
      | none => none
      | some cs' => some (c' :: cs')
end

def viewAV (bx : Nat → Box) (na : Nat) (kp : Keep) : AV → Option AV
  | .addr b off => if off = 0 then match bx b with
      | .cells cs => match AV.merges bx na kp.isAny cs with
        | some cs' => some (.boxv cs')
        | none => none
      | _ => none
      else none
  | .own b => match bx b with
    | .digs T l => some (.grown T l)
    | _ => none
  | .nilS => match kp with
    | .grow T => some (.grown T [])
    | _ => AV.merge bx na kp.isAny .nilS
  | v => AV.merge bx na kp.isAny v

/-- the boxes that are kept -/
def srcs : List (Keep × AV) → List (Option Nat)
  | [] => []
  | (kp, v) :: l => match v with
    | .own b => some b :: srcs l
    | .addr b _ => some b :: srcs l
    | .nilS => match kp with
      | .grow _ => none :: srcs l
      | _ => srcs l
    | _ => srcs l

def view (na : Nat) (σ : St) : List (Nat × Keep) → Option (List AV)
  | [] => some []
  | (t, kp) :: keep => match viewAV σ.box na kp (σ.tmps.getD t .junk) with
    | none => none
    | some v => match view na σ keep with
      | none => none
      | some vs => some (v :: vs)

def keptBoxes (σ : St) (keep : List (Nat × Keep)) : List (Option Nat) := srcs (keep.map fun x => (x.2, σ.tmps.getD x.1 .junk))

def nodup (l : List Nat) : Bool := (dedup l).length == l.length

/-- the slots that are kept, laid out anew; the kept boxes are numbered from n on -/
def unview : (n : Nat) → List (Nat × Keep) → List AV → List AV → List AV
  | n, x :: keep, v :: vals, tmps =>
    match v with
    | .grown _ _ => unview (n + 1) keep vals (tmps.set x.1 (.own n))
    | .boxv _ => unview (n + 1) keep vals (tmps.set x.1 (.addr n 0))
    | v => unview n keep vals (tmps.set x.1 v)
  | _, _, _, tmps => tmps

def boxesOf : List AV → List Box
  | [] => []
  | v :: l => match v with
    | .grown T l' => .digs T l' :: boxesOf l
    | .boxv cs => .cells cs :: boxesOf l
    | _ => boxesOf l

/-- boxes 0 .. na: as they were; na + 1: all that is ours; from na + 2 on: the kept boxes -/
def layOut (na nt : Nat) (keep : List (Nat × Keep)) (vals : List AV) : St :=
  ⟨unview (na + 2) keep vals (List.replicate nt .junk), List.replicate (na + 2) .arena ++ boxesOf vals⟩

def evLR : LR → (Exit → List AV → Prop) → Prop
  | .done e v, k => k e v
  | .test b x y, k => cond b (evLR x k) (evLR y k)
  | .need p x, k => p ∧ evLR x k

def firstRegion : Code → Nat
  | .region id _ _ => id
  | .seq a _ => firstRegion a
  | .block _ a => firstRegion a
  | .loop a => firstRegion a
  | .scope a => firstRegion a
  | _ => 0

def withView (na : Nat) (keep : List (Nat × Keep)) (σ : St) (k : List AV → Prop) : Prop :=
  match view na σ keep with
  | some vals => cond (nodup ((keptBoxes σ keep).filterMap id)) (k vals) False
  | none => False

def exitK (id : Nat) (k : Exit → St → Prop) : Exit → St → Prop
  | .exit i, σ => if i = id then k .normal σ else k (.exit i) σ
  | e, σ => k e σ

def seqK (f : St → Prop) (k : Exit → St → Prop) : Exit → St → Prop
  | .normal, σ => f σ
  | e, σ => k e σ

def unrollN (f : St → (Exit → St → Prop) → Prop) : Nat → St → (Exit → St → Prop) → Prop
  | 0, _, _ => False
  | n + 1, σ, k => f σ (seqK (fun σ' => unrollN f n σ' k) k)

def evC (P : Program) (Φ : Nat → List AV → Option Spec) (Λ : Nat → Option LoopAnn) (na : Nat) : Code → St → (Exit → St → Prop) → Prop
  | .skip, σ, k => k .normal σ
  | .region _ ops draw, σ, k =>
    let lim := σ.boxes.length
    let σ' : St := { σ with boxes := σ.boxes ++ List.replicate (countAllocs ops.toList) .unborn }
    match draw with
    | false => evR P Φ false lim ops (number lim ops.toList) σ' (fun σ => k .normal σ)
    | true => cond (drawOk ops) (evR P Φ true lim ops (number lim ops.toList) σ' (fun σ => k .normal σ)) False
  | .seq a b, σ, k => evC P Φ Λ na a σ (seqK (fun σ' => evC P Φ Λ na b σ' k) k)
  | .cond c a b, σ, k =>
    match σ.eval c with
    | .bool t => match c with
      | .tmp d => cond t (evC P Φ Λ na a (σ.put (some d) (.bool true)) k) (evC P Φ Λ na b (σ.put (some d) (.bool false)) k)
      | _ => cond t (evC P Φ Λ na a σ k) (evC P Φ Λ na b σ k)
    | _ => False
  | .block id a, σ, k => evC P Φ Λ na a σ (exitK id k)
  | .loop a, σ, k =>
    match Λ (firstRegion a) with
    | some (.unroll n) => unrollN (evC P Φ Λ na a) n σ k
    | some (.spec keep ls) => withView na keep σ fun vals =>
      match ls vals with
      | some r => evLR r fun e vals' => k e (layOut na σ.tmps.length keep vals')
      | none => False
    | none => False
  | .exit id, σ, k => k (.exit id) σ
  | .ret, σ, k => k .ret σ
  | _, _, _ => False

/-- one round of a loop, from what is kept to what is kept -/
def evIter (P : Program) (Φ : Nat → List AV → Option Spec) (Λ : Nat → Option LoopAnn) (na nt : Nat) (keep : List (Nat × Keep)) (body : Code) (vals : List AV) (K : Exit → List AV → Prop) : Prop :=
  evC P Φ Λ na body (layOut na nt keep vals) fun e σ => withView na keep σ fun vals' => K e vals'

mutual
/-- a result, as the caller gets it: 0: new; i: from the argument i -/
def AV.asRes (bx : Nat → Box) (na : Nat) (alias : Bool) : AV → Option AV
  | .junk => none
  | .num k n => some (.num k n)
  | .bool b => some (.bool b)
  | .nilS => some (.dig (if alias then List.range (na + 1) else [0]) [])
  | .dig p l => if allArena bx p then
      (if alias then (if p.contains 0 then none else some (.dig (List.range (na + 1)) l))
      else if p.all (fun i => decide (na < i)) then some (.dig [0] l) else none) else none
  | .own b => match bx b with
    | .digs T l => some (.dig (if alias then List.range (na + 1) else [0]) l)
    | _ => none
  | .agg cs => match AV.asRess bx na alias cs with
    | some cs' => some (.agg cs')
    | none => none
  | .vec p n l => if allArena bx p then match AV.asRess bx na alias l with
      | some l' => if alias then (if p.contains 0 then none else some (.vec (List.range (na + 1)) n l')) else if p.all (fun i => decide (na < i)) then some (.vec [0] n l') else none
      | none => none
      else none
  | _ => none
def AV.asRess (bx : Nat → Box) (na : Nat) (alias : Bool) : List AV → Option (List AV)
  | [] => some []
  | c :: cs => match AV.asRes bx na alias c with
    | none => none
    | some c' => match AV.asRess bx na alias cs with
      | none => none
      | some cs' => some (c' :: cs')
end

def resultAV (P : Program) (σ : St) : ResultVar → Option AV
  | .tmp t => some (σ.tmps.getD t .junk)
  | .cell a t => match σ.tmps.getD a .junk with
    | .addr b off => match σ.box b with
      | .cells cs => packAt P t (cs.drop off)
      | _ => none
    | _ => none

def resultsAV (P : Program) (σ : St) : List ResultVar → Option (List AV)
  | [] => some []
  | r :: rs => match resultAV P σ r with
    | none => none
    | some v => match resultsAV P σ rs with
      | none => none
      | some vs => some (v :: vs)

def finishK (P : Program) (fn : Func) (na : Nat) (alias : Bool) (Q : AV → Prop) (σ : St) : Prop :=
  match resultsAV P σ fn.results.toList with
  | none => False
  | some vs => match AV.asRess σ.box na alias vs with
    | none => False
    | some [v] => Q v
    | some vs => Q (.tup vs)

def evF (P : Program) (Φ : Nat → List AV → Option Spec) (Λ : Nat → Option LoopAnn) (alias : Bool) (fn : Func) (args : List AV) (Q : AV → Prop) : Prop :=
  match fn.body with
  | none => False
  | some c => evC P Φ Λ args.length c ⟨args ++ List.replicate (fn.ntmps - args.length) .junk, List.replicate (args.length + 1) .arena⟩ fun e σ =>
    match e with
    | .normal | .ret => finishK P fn args.length alias Q σ
    | _ => False

end Go.AI
