/-
  DERIVED. GIVEN WITH THE SEED: THE CARDS: each row of YtppdoggngcpcpaaGreatDoorRows.lean that lists a variable, with what it lists TIED to the program's text (the seventh form; the later family's looks); each row that meets fmt, with fmt's text TOLD by the authors' own Lean function (tested against real Go, not proved from fmt's source: count such statements apart). THE CARD IS WHAT COUNTS. Prove the row's statement (the work); the ties are given (YtppdoggngcpcpaaGreatDoorTie.lean); close each card by the builder's one call (the guide's Derived/Test/ToyasCard.lean, 'card_holds'). Laid BY PROGRAM, IN A SANDBOX (cutbox-door.mjs). By AI agents, Wed Nov 11 2026. No macro, syntax, notation, axiom, sorry.
-/
import Derived.Test.YtppdoggngcpcpaaGreatDoorRows
import GoSem.ClaimSeven
namespace Go.Proofs.YtppdoggngcpcpaaGreatDoor
namespace Rows

/-- THE TIED CARD OF 'cutplanelaw17.PhaseReduces'. -/
def phaseReducesCard : Claim7 := { stood := { row := phaseReducesRow, standIns := [], harness := (true, "6751ee004ac607f7bb068f0ddbd1ce55cc9d98de82a4a3ab07b0047b62d4937c"), looks := false }, kinds := [], alts := [], laidByText := true, laidKinds := [.data], laidTests := true, laidLooks := .later }
def PhaseReducesCardSaid : Prop := Claim7.holds Tryz.pinned (.plain (OpenSpec.ofChange phaseReducesSpec)) phaseReducesCard

/-- THE TIED CARD OF 'cutplanelaw17.PhaseBack'. -/
def phaseBackCard : Claim7 := { stood := { row := phaseBackRow, standIns := [], harness := (true, "6751ee004ac607f7bb068f0ddbd1ce55cc9d98de82a4a3ab07b0047b62d4937c"), looks := false }, kinds := [], alts := [], laidByText := true, laidKinds := [.data], laidTests := true, laidLooks := .later }
def PhaseBackCardSaid : Prop := Claim7.holds Tryz.pinned (.plain (OpenSpec.ofChange phaseBackSpec)) phaseBackCard

/-- THE SECOND FORM's CARD OF 'cutplanelaw17.PhaseReduces'. -/
def phaseReducesUptoCard : Claim7 := { stood := { row := phaseReducesUptoRow, standIns := [], harness := (true, "6751ee004ac607f7bb068f0ddbd1ce55cc9d98de82a4a3ab07b0047b62d4937c"), looks := false }, kinds := [], alts := [], laidByText := true, laidKinds := [.data], laidTests := true, laidLooks := .later }
def PhaseReducesUptoCardSaid : Prop := Claim7.holds Tryz.pinned (.plain (OpenSpec.upto phaseReducesSpec)) phaseReducesUptoCard

/-- THE SECOND FORM's CARD OF 'cutplanelaw17.PhaseBack'. -/
def phaseBackUptoCard : Claim7 := { stood := { row := phaseBackUptoRow, standIns := [], harness := (true, "6751ee004ac607f7bb068f0ddbd1ce55cc9d98de82a4a3ab07b0047b62d4937c"), looks := false }, kinds := [], alts := [], laidByText := true, laidKinds := [.data], laidTests := true, laidLooks := .later }
def PhaseBackUptoCardSaid : Prop := Claim7.holds Tryz.pinned (.plain (OpenSpec.upto phaseBackSpec)) phaseBackUptoCard
end Rows
end Go.Proofs.YtppdoggngcpcpaaGreatDoor
