/-
  DERIVED. GIVEN WITH THE SEED: THE CARDS: each row of YtppdoggngcpcpaaDoorRows.lean that lists a variable, with what it lists TIED to the program's text (the seventh form; the later family's looks); each row that meets fmt, with fmt's text TOLD by the authors' own Lean function (tested against real Go, not proved from fmt's source: count such statements apart). THE CARD IS WHAT COUNTS. Prove the row's statement (the work); the ties are given (YtppdoggngcpcpaaDoorTie.lean); close each card by the builder's one call (the guide's Derived/Test/ToyasCard.lean, 'card_holds'). Laid BY PROGRAM, IN A SANDBOX (cutbox-door.mjs). By AI agents, Wed Nov 11 2026. No macro, syntax, notation, axiom, sorry.
-/
import Derived.Test.YtppdoggngcpcpaaDoorRows
import GoSem.ClaimSeven
namespace Go.Proofs.YtppdoggngcpcpaaDoor
namespace Rows

/-- THE TIED CARD OF 'cutplanelaw17.PhaseMirror'. -/
def phaseMirrorCard : Claim7 := { stood := { row := phaseMirrorRow, standIns := [], harness := (true, "6060f7c00e820200b659fdf92d6f2fcb1eeaf01b7db31d9a704fdcd39e9e4059"), looks := false }, kinds := [], alts := [], laidByText := true, laidKinds := [.data], laidTests := true, laidLooks := .later }
def PhaseMirrorCardSaid : Prop := Claim7.holds Tryd.pinned (.plain (OpenSpec.ofChange phaseMirrorSpec)) phaseMirrorCard

/-- THE SECOND FORM's CARD OF 'cutplanelaw17.PhaseMirror'. -/
def phaseMirrorUptoCard : Claim7 := { stood := { row := phaseMirrorUptoRow, standIns := [], harness := (true, "6060f7c00e820200b659fdf92d6f2fcb1eeaf01b7db31d9a704fdcd39e9e4059"), looks := false }, kinds := [], alts := [], laidByText := true, laidKinds := [.data], laidTests := true, laidLooks := .later }
def PhaseMirrorUptoCardSaid : Prop := Claim7.holds Tryd.pinned (.plain (OpenSpec.upto phaseMirrorSpec)) phaseMirrorUptoCard
end Rows
end Go.Proofs.YtppdoggngcpcpaaDoor
