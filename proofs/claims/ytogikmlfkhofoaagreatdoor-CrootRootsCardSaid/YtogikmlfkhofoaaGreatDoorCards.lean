/-
  DERIVED. GIVEN WITH THE SEED: THE CARDS: each row of YtogikmlfkhofoaaGreatDoorRows.lean that lists a variable, with what it lists TIED to the program's text (the seventh form; the later family's looks); each row that meets fmt, with fmt's text TOLD by the authors' own Lean function (tested against real Go, not proved from fmt's source: count such statements apart). THE CARD IS WHAT COUNTS. Prove the row's statement (the work); the ties are given (YtogikmlfkhofoaaGreatDoorTie.lean); close each card by the builder's one call (the guide's Derived/Test/ToyasCard.lean, 'card_holds'). Laid BY PROGRAM, IN A SANDBOX (cutbox-door.mjs). By AI agents, Wed Nov 11 2026. No macro, syntax, notation, axiom, sorry.
-/
import Derived.Test.YtogikmlfkhofoaaGreatDoorRows
import GoSem.ClaimSeven
namespace Go.Proofs.YtogikmlfkhofoaaGreatDoor
namespace Rows

/-- THE TIED CARD OF 'cutplanelaw21.CrootRoots'. -/
def crootRootsCard : Claim7 := { stood := { row := crootRootsRow, standIns := [], harness := (true, "119a6e49ba69f3933bf9ea3e4fa500d2367aadeacfe84f0ccef0d37f8656c4ef"), looks := false }, kinds := [], alts := [], laidByText := true, laidKinds := [.data], laidTests := true, laidLooks := .later }
def CrootRootsCardSaid : Prop := Claim7.holds Tryz.pinned (.plain (OpenSpec.ofChange crootRootsSpec)) crootRootsCard

/-- THE TIED CARD OF 'cutplanelaw21.CrootSquares'. -/
def crootSquaresCard : Claim7 := { stood := { row := crootSquaresRow, standIns := [], harness := (true, "119a6e49ba69f3933bf9ea3e4fa500d2367aadeacfe84f0ccef0d37f8656c4ef"), looks := false }, kinds := [], alts := [], laidByText := true, laidKinds := [.data], laidTests := true, laidLooks := .later }
def CrootSquaresCardSaid : Prop := Claim7.holds Tryz.pinned (.plain (OpenSpec.ofChange crootSquaresSpec)) crootSquaresCard

/-- THE TIED CARD OF 'cutplanelaw21.CrootHalf'. -/
def crootHalfCard : Claim7 := { stood := { row := crootHalfRow, standIns := [], harness := (true, "119a6e49ba69f3933bf9ea3e4fa500d2367aadeacfe84f0ccef0d37f8656c4ef"), looks := false }, kinds := [], alts := [], laidByText := true, laidKinds := [.data], laidTests := true, laidLooks := .later }
def CrootHalfCardSaid : Prop := Claim7.holds Tryz.pinned (.plain (OpenSpec.ofChange crootHalfSpec)) crootHalfCard

/-- THE SECOND FORM's CARD OF 'cutplanelaw21.CrootRoots'. -/
def crootRootsUptoCard : Claim7 := { stood := { row := crootRootsUptoRow, standIns := [], harness := (true, "119a6e49ba69f3933bf9ea3e4fa500d2367aadeacfe84f0ccef0d37f8656c4ef"), looks := false }, kinds := [], alts := [], laidByText := true, laidKinds := [.data], laidTests := true, laidLooks := .later }
def CrootRootsUptoCardSaid : Prop := Claim7.holds Tryz.pinned (.plain (OpenSpec.upto crootRootsSpec)) crootRootsUptoCard

/-- THE SECOND FORM's CARD OF 'cutplanelaw21.CrootSquares'. -/
def crootSquaresUptoCard : Claim7 := { stood := { row := crootSquaresUptoRow, standIns := [], harness := (true, "119a6e49ba69f3933bf9ea3e4fa500d2367aadeacfe84f0ccef0d37f8656c4ef"), looks := false }, kinds := [], alts := [], laidByText := true, laidKinds := [.data], laidTests := true, laidLooks := .later }
def CrootSquaresUptoCardSaid : Prop := Claim7.holds Tryz.pinned (.plain (OpenSpec.upto crootSquaresSpec)) crootSquaresUptoCard

/-- THE SECOND FORM's CARD OF 'cutplanelaw21.CrootHalf'. -/
def crootHalfUptoCard : Claim7 := { stood := { row := crootHalfUptoRow, standIns := [], harness := (true, "119a6e49ba69f3933bf9ea3e4fa500d2367aadeacfe84f0ccef0d37f8656c4ef"), looks := false }, kinds := [], alts := [], laidByText := true, laidKinds := [.data], laidTests := true, laidLooks := .later }
def CrootHalfUptoCardSaid : Prop := Claim7.holds Tryz.pinned (.plain (OpenSpec.upto crootHalfSpec)) crootHalfUptoCard
end Rows
end Go.Proofs.YtogikmlfkhofoaaGreatDoor
