/-
  NARROWER THAN 'FOR EVERY INPUT', by the rows' own cells (each row's printed sentence says how): DyadMakes: laid · DyadInts: laid · DyadRing: laid · DyadCuts: laid · DyadOrder: laid · DyadFloors: laid · DyadSums: laid · DyadQuotients: laid · DyadCloses: laid.
  DERIVED. THE GIVEN ROWS OF THIS SEAT. 9 by the template 'for every input the law returns true; each argument reads behind the call as it read before'; 0 by the template 'total and deterministic' (their statements: YtnhbdcnnanfacaaDoorTotals.lean).
  GIVEN WITH THE SEED: the statements are not yours to turn. If you find one false, say at which input.
  Laid BY PROGRAM, IN A SANDBOX (cutbox-rows.mjs): the forced cells as the released guide's own fill.sh prints them over the translation 1c7155facba7c890… (all of the seat's roots in one cut). By AI agents, Wed Nov 11 2026. No macro, syntax, notation, axiom, sorry.
-/
import Derived.Test.YtnhbdcnnanfacaaDoorChecked
import GoSem.Claim
import GoSem.ClaimJoined
import GoSem.ClaimMapViews
import Derived.JoinedTies
import Derived.KernelRfl
namespace Go.Proofs.YtnhbdcnnanfacaaDoor
/- THE CELL 'sum', in the pinned program and in every row, IS THE sha256 OF THE DUMP (.gsa) THAT YtnhbdcnnanfacaaDoorProg.lean LOADS. Nothing in Lean hashes anything: it is a label: what it is worth is what the hold of that sum in a sandbox is worth. -/
noncomputable def Tryd.pinned : Pinned := { name := "ytnhbdcnnanfacaadoor", sum := "1c7155facba7c8907ee6d3ca4d435d1a87fc93aa97e95aa642b544712b7f335e", checked := Tryd.checked }
namespace Rows
def none {H : Type} : Left H := { results := [], args := [] }

/- WHAT THE LISTED PACKAGE-LEVEL VARIABLES READ AS WHEN THE CALL BEGINS. Each datum BY PROGRAM (the guide's laid-datum.mjs) off the statement by which the dump's own 'gosem.cut.vars' lays the variable. In a bare row this is a premise. The card (YtnhbdcnnanfacaaDoorCards.lean) ties it to the program's text. -/
def laid_math_bits_deBruijn32tab {H : Type} : DataW H := .agg [.lit (.int .u8 0), .lit (.int .u8 1), .lit (.int .u8 28), .lit (.int .u8 2), .lit (.int .u8 29), .lit (.int .u8 14), .lit (.int .u8 24), .lit (.int .u8 3), .lit (.int .u8 30), .lit (.int .u8 22), .lit (.int .u8 20), .lit (.int .u8 15), .lit (.int .u8 25), .lit (.int .u8 17), .lit (.int .u8 4), .lit (.int .u8 8), .lit (.int .u8 31), .lit (.int .u8 27), .lit (.int .u8 13), .lit (.int .u8 23), .lit (.int .u8 21), .lit (.int .u8 19), .lit (.int .u8 16), .lit (.int .u8 7), .lit (.int .u8 26), .lit (.int .u8 12), .lit (.int .u8 18), .lit (.int .u8 6), .lit (.int .u8 11), .lit (.int .u8 5), .lit (.int .u8 10), .lit (.int .u8 9)]

/-- 'cutplanelaw02.DyadMakes': WHATEVER THE INPUT: true; the input reads as it did. -/
def dyadMakesSpec : ChangeSpec := { name := "dyadMakes", fn := fun _ => fun
  | [d] => { results := [.lit (.bool true)], args := [d] }
  | _ => none }
def dyadMakesRow : OpenClaim := { program := "ytnhbdcnnanfacaadoor", sum := "1c7155facba7c8907ee6d3ca4d435d1a87fc93aa97e95aa642b544712b7f335e", func := "cutplane/cutplanelaw02.DyadMakes", spec := "dyadMakes", named := ["math/bits.deBruijn32tab"], apart := false, laid := [("math/bits.deBruijn32tab", laid_math_bits_deBruijn32tab)] }
def DyadMakesSaid : Prop := dyadMakesRow.holds Tryd.pinned (OpenSpec.ofChange dyadMakesSpec)

/-- ITS FALSE NEIGHBOUR: 'it returns false'. Refute it at one input. -/
def dyadMakesWrong : ChangeSpec := { name := "dyadMakes", fn := fun _ => fun
  | [d] => { results := [.lit (.bool false)], args := [d] }
  | _ => none }
def DyadMakesWrongFalsely : Prop := dyadMakesRow.holds Tryd.pinned (OpenSpec.ofChange dyadMakesWrong)

/-- 'cutplanelaw02.DyadInts': WHATEVER THE INPUT: true; the input reads as it did. -/
def dyadIntsSpec : ChangeSpec := { name := "dyadInts", fn := fun _ => fun
  | [d1, d2] => { results := [.lit (.bool true)], args := [d1, d2] }
  | _ => none }
def dyadIntsRow : OpenClaim := { program := "ytnhbdcnnanfacaadoor", sum := "1c7155facba7c8907ee6d3ca4d435d1a87fc93aa97e95aa642b544712b7f335e", func := "cutplane/cutplanelaw02.DyadInts", spec := "dyadInts", named := ["math/bits.deBruijn32tab"], apart := false, laid := [("math/bits.deBruijn32tab", laid_math_bits_deBruijn32tab)] }
def DyadIntsSaid : Prop := dyadIntsRow.holds Tryd.pinned (OpenSpec.ofChange dyadIntsSpec)

/-- ITS FALSE NEIGHBOUR: 'it returns false'. Refute it at one input. -/
def dyadIntsWrong : ChangeSpec := { name := "dyadInts", fn := fun _ => fun
  | [d1, d2] => { results := [.lit (.bool false)], args := [d1, d2] }
  | _ => none }
def DyadIntsWrongFalsely : Prop := dyadIntsRow.holds Tryd.pinned (OpenSpec.ofChange dyadIntsWrong)

/-- 'cutplanelaw02.DyadRing': WHATEVER THE INPUT: true; the input reads as it did. -/
def dyadRingSpec : ChangeSpec := { name := "dyadRing", fn := fun _ => fun
  | [d1, d2, d3] => { results := [.lit (.bool true)], args := [d1, d2, d3] }
  | _ => none }
def dyadRingRow : OpenClaim := { program := "ytnhbdcnnanfacaadoor", sum := "1c7155facba7c8907ee6d3ca4d435d1a87fc93aa97e95aa642b544712b7f335e", func := "cutplane/cutplanelaw02.DyadRing", spec := "dyadRing", named := ["math/bits.deBruijn32tab"], apart := false, laid := [("math/bits.deBruijn32tab", laid_math_bits_deBruijn32tab)] }
def DyadRingSaid : Prop := dyadRingRow.holds Tryd.pinned (OpenSpec.ofChange dyadRingSpec)

/-- ITS FALSE NEIGHBOUR: 'it returns false'. Refute it at one input. -/
def dyadRingWrong : ChangeSpec := { name := "dyadRing", fn := fun _ => fun
  | [d1, d2, d3] => { results := [.lit (.bool false)], args := [d1, d2, d3] }
  | _ => none }
def DyadRingWrongFalsely : Prop := dyadRingRow.holds Tryd.pinned (OpenSpec.ofChange dyadRingWrong)

/-- 'cutplanelaw02.DyadCuts': WHATEVER THE INPUT: true; the input reads as it did. -/
def dyadCutsSpec : ChangeSpec := { name := "dyadCuts", fn := fun _ => fun
  | [d1, d2, d3] => { results := [.lit (.bool true)], args := [d1, d2, d3] }
  | _ => none }
def dyadCutsRow : OpenClaim := { program := "ytnhbdcnnanfacaadoor", sum := "1c7155facba7c8907ee6d3ca4d435d1a87fc93aa97e95aa642b544712b7f335e", func := "cutplane/cutplanelaw02.DyadCuts", spec := "dyadCuts", named := ["math/bits.deBruijn32tab"], apart := false, laid := [("math/bits.deBruijn32tab", laid_math_bits_deBruijn32tab)] }
def DyadCutsSaid : Prop := dyadCutsRow.holds Tryd.pinned (OpenSpec.ofChange dyadCutsSpec)

/-- ITS FALSE NEIGHBOUR: 'it returns false'. Refute it at one input. -/
def dyadCutsWrong : ChangeSpec := { name := "dyadCuts", fn := fun _ => fun
  | [d1, d2, d3] => { results := [.lit (.bool false)], args := [d1, d2, d3] }
  | _ => none }
def DyadCutsWrongFalsely : Prop := dyadCutsRow.holds Tryd.pinned (OpenSpec.ofChange dyadCutsWrong)

/-- 'cutplanelaw02.DyadOrder': WHATEVER THE INPUT: true; the input reads as it did. -/
def dyadOrderSpec : ChangeSpec := { name := "dyadOrder", fn := fun _ => fun
  | [d1, d2, d3] => { results := [.lit (.bool true)], args := [d1, d2, d3] }
  | _ => none }
def dyadOrderRow : OpenClaim := { program := "ytnhbdcnnanfacaadoor", sum := "1c7155facba7c8907ee6d3ca4d435d1a87fc93aa97e95aa642b544712b7f335e", func := "cutplane/cutplanelaw02.DyadOrder", spec := "dyadOrder", named := ["math/bits.deBruijn32tab"], apart := false, laid := [("math/bits.deBruijn32tab", laid_math_bits_deBruijn32tab)] }
def DyadOrderSaid : Prop := dyadOrderRow.holds Tryd.pinned (OpenSpec.ofChange dyadOrderSpec)

/-- ITS FALSE NEIGHBOUR: 'it returns false'. Refute it at one input. -/
def dyadOrderWrong : ChangeSpec := { name := "dyadOrder", fn := fun _ => fun
  | [d1, d2, d3] => { results := [.lit (.bool false)], args := [d1, d2, d3] }
  | _ => none }
def DyadOrderWrongFalsely : Prop := dyadOrderRow.holds Tryd.pinned (OpenSpec.ofChange dyadOrderWrong)

/-- 'cutplanelaw02.DyadFloors': WHATEVER THE INPUT: true; the input reads as it did. -/
def dyadFloorsSpec : ChangeSpec := { name := "dyadFloors", fn := fun _ => fun
  | [d] => { results := [.lit (.bool true)], args := [d] }
  | _ => none }
def dyadFloorsRow : OpenClaim := { program := "ytnhbdcnnanfacaadoor", sum := "1c7155facba7c8907ee6d3ca4d435d1a87fc93aa97e95aa642b544712b7f335e", func := "cutplane/cutplanelaw02.DyadFloors", spec := "dyadFloors", named := ["math/bits.deBruijn32tab"], apart := false, laid := [("math/bits.deBruijn32tab", laid_math_bits_deBruijn32tab)] }
def DyadFloorsSaid : Prop := dyadFloorsRow.holds Tryd.pinned (OpenSpec.ofChange dyadFloorsSpec)

/-- ITS FALSE NEIGHBOUR: 'it returns false'. Refute it at one input. -/
def dyadFloorsWrong : ChangeSpec := { name := "dyadFloors", fn := fun _ => fun
  | [d] => { results := [.lit (.bool false)], args := [d] }
  | _ => none }
def DyadFloorsWrongFalsely : Prop := dyadFloorsRow.holds Tryd.pinned (OpenSpec.ofChange dyadFloorsWrong)

/-- 'cutplanelaw02.DyadSums': WHATEVER THE INPUT: true; the input reads as it did. -/
def dyadSumsSpec : ChangeSpec := { name := "dyadSums", fn := fun _ => fun
  | [d1, d2] => { results := [.lit (.bool true)], args := [d1, d2] }
  | _ => none }
def dyadSumsRow : OpenClaim := { program := "ytnhbdcnnanfacaadoor", sum := "1c7155facba7c8907ee6d3ca4d435d1a87fc93aa97e95aa642b544712b7f335e", func := "cutplane/cutplanelaw02.DyadSums", spec := "dyadSums", named := ["math/bits.deBruijn32tab"], apart := false, laid := [("math/bits.deBruijn32tab", laid_math_bits_deBruijn32tab)] }
def DyadSumsSaid : Prop := dyadSumsRow.holds Tryd.pinned (OpenSpec.ofChange dyadSumsSpec)

/-- ITS FALSE NEIGHBOUR: 'it returns false'. Refute it at one input. -/
def dyadSumsWrong : ChangeSpec := { name := "dyadSums", fn := fun _ => fun
  | [d1, d2] => { results := [.lit (.bool false)], args := [d1, d2] }
  | _ => none }
def DyadSumsWrongFalsely : Prop := dyadSumsRow.holds Tryd.pinned (OpenSpec.ofChange dyadSumsWrong)

/-- 'cutplanelaw02.DyadQuotients': WHATEVER THE INPUT: true; the input reads as it did. -/
def dyadQuotientsSpec : ChangeSpec := { name := "dyadQuotients", fn := fun _ => fun
  | [d1, d2, d3] => { results := [.lit (.bool true)], args := [d1, d2, d3] }
  | _ => none }
def dyadQuotientsRow : OpenClaim := { program := "ytnhbdcnnanfacaadoor", sum := "1c7155facba7c8907ee6d3ca4d435d1a87fc93aa97e95aa642b544712b7f335e", func := "cutplane/cutplanelaw02.DyadQuotients", spec := "dyadQuotients", named := ["math/bits.deBruijn32tab", "math/bits.overflowError"], apart := false, laid := [("math/bits.deBruijn32tab", laid_math_bits_deBruijn32tab)] }
def DyadQuotientsSaid : Prop := dyadQuotientsRow.holds Tryd.pinned (OpenSpec.ofChange dyadQuotientsSpec)

/-- ITS FALSE NEIGHBOUR: 'it returns false'. Refute it at one input. -/
def dyadQuotientsWrong : ChangeSpec := { name := "dyadQuotients", fn := fun _ => fun
  | [d1, d2, d3] => { results := [.lit (.bool false)], args := [d1, d2, d3] }
  | _ => none }
def DyadQuotientsWrongFalsely : Prop := dyadQuotientsRow.holds Tryd.pinned (OpenSpec.ofChange dyadQuotientsWrong)

/-- 'cutplanelaw02.DyadCloses': WHATEVER THE INPUT: true; the input reads as it did. -/
def dyadClosesSpec : ChangeSpec := { name := "dyadCloses", fn := fun _ => fun
  | [d1, d2, d3] => { results := [.lit (.bool true)], args := [d1, d2, d3] }
  | _ => none }
def dyadClosesRow : OpenClaim := { program := "ytnhbdcnnanfacaadoor", sum := "1c7155facba7c8907ee6d3ca4d435d1a87fc93aa97e95aa642b544712b7f335e", func := "cutplane/cutplanelaw02.DyadCloses", spec := "dyadCloses", named := ["math/bits.deBruijn32tab", "math/bits.overflowError"], apart := false, laid := [("math/bits.deBruijn32tab", laid_math_bits_deBruijn32tab)] }
def DyadClosesSaid : Prop := dyadClosesRow.holds Tryd.pinned (OpenSpec.ofChange dyadClosesSpec)

/-- ITS FALSE NEIGHBOUR: 'it returns false'. Refute it at one input. -/
def dyadClosesWrong : ChangeSpec := { name := "dyadCloses", fn := fun _ => fun
  | [d1, d2, d3] => { results := [.lit (.bool false)], args := [d1, d2, d3] }
  | _ => none }
def DyadClosesWrongFalsely : Prop := dyadClosesRow.holds Tryd.pinned (OpenSpec.ofChange dyadClosesWrong)

/- THE SECOND FORM. 'bulk': how many values and letters a reading holds, each counted each time it is reached (what is shared counts as often as it is met; a slice's spare places count too). A statement '..UptoSaid' is the law's where the arguments, and the package variables that the reading takes, are together of bulk at most 1048576: NARROWER than '..Said'. Prove '..Said' where nothing that the law and all that it calls make is longer than what came in: it says more and counts as full. Else prove '..UptoSaid'. A law counts once. -/
mutual
def uptoBulk {H : Type} : DataW H → Nat
  | .lit (.string bytes) => bytes.length + 1
  | .lit _ => 1
  | .nil => 1
  | .ptr d => uptoBulk d + 1
  | .slice elems spare => uptoBulkAll elems + uptoBulkAll spare + 1
  | .agg parts => uptoBulkAll parts + 1
  | .iface _ d => uptoBulk d + 1
  | .map entries => uptoBulkEntries entries + 1
  | .held _ => 1
def uptoBulkAll {H : Type} : List (DataW H) → Nat
  | [] => 0
  | d :: r => uptoBulk d + uptoBulkAll r
def uptoBulkEntries {H : Type} : List (Lit × DataW H) → Nat
  | [] => 0
  | x :: r => uptoBulkEntry x + uptoBulkEntries r
def uptoBulkEntry {H : Type} : Lit × DataW H → Nat
  | (.string bytes, d) => bytes.length + uptoBulk d + 1
  | (_, d) => uptoBulk d + 1
 end
def uptoSmall : (H : Type) → List (DataW H) → Bool := fun _ ds => decide (uptoBulkAll ds ≤ 1048576)
def OpenSpec.upto (s : _root_.Go.ChangeSpec) : _root_.Go.OpenSpec := { _root_.Go.OpenSpec.ofChange s with cond := some uptoSmall }

/-- 'cutplanelaw02.DyadMakes', WHERE WHAT IT READS IS OF BULK AT MOST 1048576: true; the input reads as it did. -/
def dyadMakesUptoRow : OpenClaim := { program := "ytnhbdcnnanfacaadoor", sum := "1c7155facba7c8907ee6d3ca4d435d1a87fc93aa97e95aa642b544712b7f335e", func := "cutplane/cutplanelaw02.DyadMakes", spec := "dyadMakes", named := ["math/bits.deBruijn32tab"], apart := false, laid := [("math/bits.deBruijn32tab", laid_math_bits_deBruijn32tab)], narrowed := true }
def DyadMakesUptoSaid : Prop := dyadMakesUptoRow.holds Tryd.pinned (OpenSpec.upto dyadMakesSpec)

/-- 'cutplanelaw02.DyadInts', WHERE WHAT IT READS IS OF BULK AT MOST 1048576: true; the input reads as it did. -/
def dyadIntsUptoRow : OpenClaim := { program := "ytnhbdcnnanfacaadoor", sum := "1c7155facba7c8907ee6d3ca4d435d1a87fc93aa97e95aa642b544712b7f335e", func := "cutplane/cutplanelaw02.DyadInts", spec := "dyadInts", named := ["math/bits.deBruijn32tab"], apart := false, laid := [("math/bits.deBruijn32tab", laid_math_bits_deBruijn32tab)], narrowed := true }
def DyadIntsUptoSaid : Prop := dyadIntsUptoRow.holds Tryd.pinned (OpenSpec.upto dyadIntsSpec)

/-- 'cutplanelaw02.DyadRing', WHERE WHAT IT READS IS OF BULK AT MOST 1048576: true; the input reads as it did. -/
def dyadRingUptoRow : OpenClaim := { program := "ytnhbdcnnanfacaadoor", sum := "1c7155facba7c8907ee6d3ca4d435d1a87fc93aa97e95aa642b544712b7f335e", func := "cutplane/cutplanelaw02.DyadRing", spec := "dyadRing", named := ["math/bits.deBruijn32tab"], apart := false, laid := [("math/bits.deBruijn32tab", laid_math_bits_deBruijn32tab)], narrowed := true }
def DyadRingUptoSaid : Prop := dyadRingUptoRow.holds Tryd.pinned (OpenSpec.upto dyadRingSpec)

/-- 'cutplanelaw02.DyadCuts', WHERE WHAT IT READS IS OF BULK AT MOST 1048576: true; the input reads as it did. -/
def dyadCutsUptoRow : OpenClaim := { program := "ytnhbdcnnanfacaadoor", sum := "1c7155facba7c8907ee6d3ca4d435d1a87fc93aa97e95aa642b544712b7f335e", func := "cutplane/cutplanelaw02.DyadCuts", spec := "dyadCuts", named := ["math/bits.deBruijn32tab"], apart := false, laid := [("math/bits.deBruijn32tab", laid_math_bits_deBruijn32tab)], narrowed := true }
def DyadCutsUptoSaid : Prop := dyadCutsUptoRow.holds Tryd.pinned (OpenSpec.upto dyadCutsSpec)

/-- 'cutplanelaw02.DyadOrder', WHERE WHAT IT READS IS OF BULK AT MOST 1048576: true; the input reads as it did. -/
def dyadOrderUptoRow : OpenClaim := { program := "ytnhbdcnnanfacaadoor", sum := "1c7155facba7c8907ee6d3ca4d435d1a87fc93aa97e95aa642b544712b7f335e", func := "cutplane/cutplanelaw02.DyadOrder", spec := "dyadOrder", named := ["math/bits.deBruijn32tab"], apart := false, laid := [("math/bits.deBruijn32tab", laid_math_bits_deBruijn32tab)], narrowed := true }
def DyadOrderUptoSaid : Prop := dyadOrderUptoRow.holds Tryd.pinned (OpenSpec.upto dyadOrderSpec)

/-- 'cutplanelaw02.DyadFloors', WHERE WHAT IT READS IS OF BULK AT MOST 1048576: true; the input reads as it did. -/
def dyadFloorsUptoRow : OpenClaim := { program := "ytnhbdcnnanfacaadoor", sum := "1c7155facba7c8907ee6d3ca4d435d1a87fc93aa97e95aa642b544712b7f335e", func := "cutplane/cutplanelaw02.DyadFloors", spec := "dyadFloors", named := ["math/bits.deBruijn32tab"], apart := false, laid := [("math/bits.deBruijn32tab", laid_math_bits_deBruijn32tab)], narrowed := true }
def DyadFloorsUptoSaid : Prop := dyadFloorsUptoRow.holds Tryd.pinned (OpenSpec.upto dyadFloorsSpec)

/-- 'cutplanelaw02.DyadSums', WHERE WHAT IT READS IS OF BULK AT MOST 1048576: true; the input reads as it did. -/
def dyadSumsUptoRow : OpenClaim := { program := "ytnhbdcnnanfacaadoor", sum := "1c7155facba7c8907ee6d3ca4d435d1a87fc93aa97e95aa642b544712b7f335e", func := "cutplane/cutplanelaw02.DyadSums", spec := "dyadSums", named := ["math/bits.deBruijn32tab"], apart := false, laid := [("math/bits.deBruijn32tab", laid_math_bits_deBruijn32tab)], narrowed := true }
def DyadSumsUptoSaid : Prop := dyadSumsUptoRow.holds Tryd.pinned (OpenSpec.upto dyadSumsSpec)

/-- 'cutplanelaw02.DyadQuotients', WHERE WHAT IT READS IS OF BULK AT MOST 1048576: true; the input reads as it did. -/
def dyadQuotientsUptoRow : OpenClaim := { program := "ytnhbdcnnanfacaadoor", sum := "1c7155facba7c8907ee6d3ca4d435d1a87fc93aa97e95aa642b544712b7f335e", func := "cutplane/cutplanelaw02.DyadQuotients", spec := "dyadQuotients", named := ["math/bits.deBruijn32tab", "math/bits.overflowError"], apart := false, laid := [("math/bits.deBruijn32tab", laid_math_bits_deBruijn32tab)], narrowed := true }
def DyadQuotientsUptoSaid : Prop := dyadQuotientsUptoRow.holds Tryd.pinned (OpenSpec.upto dyadQuotientsSpec)

/-- 'cutplanelaw02.DyadCloses', WHERE WHAT IT READS IS OF BULK AT MOST 1048576: true; the input reads as it did. -/
def dyadClosesUptoRow : OpenClaim := { program := "ytnhbdcnnanfacaadoor", sum := "1c7155facba7c8907ee6d3ca4d435d1a87fc93aa97e95aa642b544712b7f335e", func := "cutplane/cutplanelaw02.DyadCloses", spec := "dyadCloses", named := ["math/bits.deBruijn32tab", "math/bits.overflowError"], apart := false, laid := [("math/bits.deBruijn32tab", laid_math_bits_deBruijn32tab)], narrowed := true }
def DyadClosesUptoSaid : Prop := dyadClosesUptoRow.holds Tryd.pinned (OpenSpec.upto dyadClosesSpec)

end Rows
end Go.Proofs.YtnhbdcnnanfacaaDoor
