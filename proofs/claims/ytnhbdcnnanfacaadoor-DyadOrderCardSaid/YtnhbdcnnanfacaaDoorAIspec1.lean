/- What is known of the functions of the layer nat: in plain numbers. -/
import Derived.Test.YtnhbdcnnanfacaaDoorAIloop
import Derived.Test.YtnhbdcnnanfacaaDoorAInum
namespace Go.Dy
/-- may a list be a number? -/
def may (l : List Nat) : Bool := decide (l.length ≤ 4096 ∧ dg (val l) = l)
def cmpN (a b : Nat) : Int := if a < b then -1 else if b < a then 1 else 0
/-- the highest place at which two lists differ below n -/
def diffI (a b : List Nat) : Nat → Int
  | 0 => -1
  | n + 1 => if a.getD n 0 = b.getD n 0 then diffI a b n else n
def okl (l : List Nat) : Prop := l.length ≤ 35184372088832 ∧ digs l
theorem okl_of {l : List Nat} (h : AI.okDig l) : okl l := ⟨h.1, h.2⟩
/-- a number that was made -/
def boundN (ok : Bool) (n : Nat) : List Nat × Int := if ok then (if (dg n).length ≤ 4096 then (dg n, 0) else ([], 3)) else ([], 2)
end Go.Dy
namespace Go.AI
open Go Go.RowKit Go.Proofs
set_option linter.unusedVariables false

def sMay : List AV → Option Spec
  | [.dig [1] l] => some ⟨none, .bool (Dy.may l)⟩
  | _ => none
def sTrim : List AV → Option Spec
  | [.dig [1] l] => some ⟨none, .dig [0, 1] (Dy.dg (Dy.val l))⟩
  | _ => none
def sCmp : List AV → Option Spec
  | [.dig [1] a, .dig [2] b] => some ⟨some (Dy.dg (Dy.val a) = a ∧ Dy.dg (Dy.val b) = b), .num .i64 (Dy.cmpN (Dy.val a) (Dy.val b))⟩
  | _ => none
def sAll : List AV → Option Spec
  | [.vec [1] 1 [.dig [1] a, .dig [1] b]] => some ⟨none, .bool (Dy.may a && Dy.may b)⟩
  | _ => none
def sBound : List AV → Option Spec
  | [.dig [1] l] => some ⟨none, .tup [.dig [0, 1] (if l.length ≤ 4096 then l else []), .num .i64 (if l.length ≤ 4096 then 0 else 3)]⟩
  | _ => none
def sAdd32 : List AV → Option Spec
  | [.num .u32 x, .num .u32 y, .num .u32 c] => some ⟨none, .tup [.num .u32 ((x + y + c) % 4294967296), .num .u32 ((x + y + c) / 4294967296)]⟩
  | _ => none
def sSub32 : List AV → Option Spec
  | [.num .u32 x, .num .u32 y, .num .u32 c] => some ⟨some (c ≤ 1), .tup [.num .u32 ((x - y - c) % 4294967296), .num .u32 (if x < y + c then 1 else 0)]⟩
  | _ => none
def sDiv32 : List AV → Option Spec
  | [.num .u32 x, .num .u32 y, .num .u32 d] => some ⟨some (x < d), .tup [.num .u32 ((x * 4294967296 + y) / d), .num .u32 ((x * 4294967296 + y) % d)]⟩
  | _ => none
def sLz32 : List AV → Option Spec
  | [.num .u32 x] => some ⟨none, .num .i64 (32 - (Lib.bitLen x.toNat : Int))⟩
  | _ => none
def sOf : List AV → Option Spec
  | [.num .u64 n] => some ⟨none, .dig [0] (Dy.dg n.toNat)⟩
  | _ => none
def sNum : List AV → Option Spec
  | [.dig [1] l] => some ⟨none, .tup [.num .u64 (if Dy.may l && decide (l.length ≤ 2) then Dy.val l else 0 : Nat), .bool (Dy.may l && decide (l.length ≤ 2))]⟩
  | _ => none

def tab0 : List (Nat × (List AV → Option Spec)) := [(103, sLen32), (91, sTz32)]
def tab1 : List (Nat × (List AV → Option Spec)) := (58, sMay) :: (95, sTrim) :: tab0
def tab2 : List (Nat × (List AV → Option Spec)) := (105, sCmp) :: (98, sAll) :: (99, sBound) :: (101, sAdd32) :: (114, sSub32) :: (111, sDiv32) :: (112, sLz32) :: (64, sOf) :: (66, sNum) :: tab1
end Go.AI
