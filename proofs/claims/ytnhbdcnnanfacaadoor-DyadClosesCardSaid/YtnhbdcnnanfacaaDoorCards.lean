/-
  DERIVED. GIVEN WITH THE SEED: THE CARDS: each row of YtnhbdcnnanfacaaDoorRows.lean that lists a variable, with what it lists TIED to the program's text (the seventh form; the later family's looks); each row that meets fmt, with fmt's text TOLD by the authors' own Lean function (tested against real Go, not proved from fmt's source: count such statements apart). THE CARD IS WHAT COUNTS. Prove the row's statement (the work); the ties are given (YtnhbdcnnanfacaaDoorTie.lean); close each card by the builder's one call (the guide's Derived/Test/ToyasCard.lean, 'card_holds'). Laid BY PROGRAM, IN A SANDBOX (cutbox-door.mjs). By AI agents, Wed Nov 11 2026. No macro, syntax, notation, axiom, sorry.
-/
import Derived.Test.YtnhbdcnnanfacaaDoorRows
import GoSem.ClaimSeven
namespace Go.Proofs.YtnhbdcnnanfacaaDoor
namespace Rows

/-- THE TIED CARD OF 'cutplanelaw02.DyadMakes'. -/
def dyadMakesCard : Claim7 := { stood := { row := dyadMakesRow, standIns := [], harness := (true, "ecba93a2a8fec62ceb319a7320e5012d2387a81ad9d9931467b595c627e7a9de"), looks := false }, kinds := [], alts := [], laidByText := true, laidKinds := [.data], laidTests := true, laidLooks := .later }
def DyadMakesCardSaid : Prop := Claim7.holds Tryd.pinned (.plain (OpenSpec.ofChange dyadMakesSpec)) dyadMakesCard

/-- THE TIED CARD OF 'cutplanelaw02.DyadInts'. -/
def dyadIntsCard : Claim7 := { stood := { row := dyadIntsRow, standIns := [], harness := (true, "ecba93a2a8fec62ceb319a7320e5012d2387a81ad9d9931467b595c627e7a9de"), looks := false }, kinds := [], alts := [], laidByText := true, laidKinds := [.data], laidTests := true, laidLooks := .later }
def DyadIntsCardSaid : Prop := Claim7.holds Tryd.pinned (.plain (OpenSpec.ofChange dyadIntsSpec)) dyadIntsCard

/-- THE TIED CARD OF 'cutplanelaw02.DyadRing'. -/
def dyadRingCard : Claim7 := { stood := { row := dyadRingRow, standIns := [], harness := (true, "ecba93a2a8fec62ceb319a7320e5012d2387a81ad9d9931467b595c627e7a9de"), looks := false }, kinds := [], alts := [], laidByText := true, laidKinds := [.data], laidTests := true, laidLooks := .later }
def DyadRingCardSaid : Prop := Claim7.holds Tryd.pinned (.plain (OpenSpec.ofChange dyadRingSpec)) dyadRingCard

/-- THE TIED CARD OF 'cutplanelaw02.DyadCuts'. -/
def dyadCutsCard : Claim7 := { stood := { row := dyadCutsRow, standIns := [], harness := (true, "ecba93a2a8fec62ceb319a7320e5012d2387a81ad9d9931467b595c627e7a9de"), looks := false }, kinds := [], alts := [], laidByText := true, laidKinds := [.data], laidTests := true, laidLooks := .later }
def DyadCutsCardSaid : Prop := Claim7.holds Tryd.pinned (.plain (OpenSpec.ofChange dyadCutsSpec)) dyadCutsCard

/-- THE TIED CARD OF 'cutplanelaw02.DyadOrder'. -/
def dyadOrderCard : Claim7 := { stood := { row := dyadOrderRow, standIns := [], harness := (true, "ecba93a2a8fec62ceb319a7320e5012d2387a81ad9d9931467b595c627e7a9de"), looks := false }, kinds := [], alts := [], laidByText := true, laidKinds := [.data], laidTests := true, laidLooks := .later }
def DyadOrderCardSaid : Prop := Claim7.holds Tryd.pinned (.plain (OpenSpec.ofChange dyadOrderSpec)) dyadOrderCard

/-- THE TIED CARD OF 'cutplanelaw02.DyadFloors'. -/
def dyadFloorsCard : Claim7 := { stood := { row := dyadFloorsRow, standIns := [], harness := (true, "ecba93a2a8fec62ceb319a7320e5012d2387a81ad9d9931467b595c627e7a9de"), looks := false }, kinds := [], alts := [], laidByText := true, laidKinds := [.data], laidTests := true, laidLooks := .later }
def DyadFloorsCardSaid : Prop := Claim7.holds Tryd.pinned (.plain (OpenSpec.ofChange dyadFloorsSpec)) dyadFloorsCard

/-- THE TIED CARD OF 'cutplanelaw02.DyadSums'. -/
def dyadSumsCard : Claim7 := { stood := { row := dyadSumsRow, standIns := [], harness := (true, "ecba93a2a8fec62ceb319a7320e5012d2387a81ad9d9931467b595c627e7a9de"), looks := false }, kinds := [], alts := [], laidByText := true, laidKinds := [.data], laidTests := true, laidLooks := .later }
def DyadSumsCardSaid : Prop := Claim7.holds Tryd.pinned (.plain (OpenSpec.ofChange dyadSumsSpec)) dyadSumsCard

/-- THE TIED CARD OF 'cutplanelaw02.DyadQuotients'. -/
def dyadQuotientsCard : Claim7 := { stood := { row := dyadQuotientsRow, standIns := [], harness := (true, "ecba93a2a8fec62ceb319a7320e5012d2387a81ad9d9931467b595c627e7a9de"), looks := false }, kinds := [], alts := [], laidByText := true, laidKinds := [.data], laidTests := true, laidLooks := .later }
def DyadQuotientsCardSaid : Prop := Claim7.holds Tryd.pinned (.plain (OpenSpec.ofChange dyadQuotientsSpec)) dyadQuotientsCard

/-- THE TIED CARD OF 'cutplanelaw02.DyadCloses'. -/
def dyadClosesCard : Claim7 := { stood := { row := dyadClosesRow, standIns := [], harness := (true, "ecba93a2a8fec62ceb319a7320e5012d2387a81ad9d9931467b595c627e7a9de"), looks := false }, kinds := [], alts := [], laidByText := true, laidKinds := [.data], laidTests := true, laidLooks := .later }
def DyadClosesCardSaid : Prop := Claim7.holds Tryd.pinned (.plain (OpenSpec.ofChange dyadClosesSpec)) dyadClosesCard

/-- THE SECOND FORM's CARD OF 'cutplanelaw02.DyadMakes'. -/
def dyadMakesUptoCard : Claim7 := { stood := { row := dyadMakesUptoRow, standIns := [], harness := (true, "ecba93a2a8fec62ceb319a7320e5012d2387a81ad9d9931467b595c627e7a9de"), looks := false }, kinds := [], alts := [], laidByText := true, laidKinds := [.data], laidTests := true, laidLooks := .later }
def DyadMakesUptoCardSaid : Prop := Claim7.holds Tryd.pinned (.plain (OpenSpec.upto dyadMakesSpec)) dyadMakesUptoCard

/-- THE SECOND FORM's CARD OF 'cutplanelaw02.DyadInts'. -/
def dyadIntsUptoCard : Claim7 := { stood := { row := dyadIntsUptoRow, standIns := [], harness := (true, "ecba93a2a8fec62ceb319a7320e5012d2387a81ad9d9931467b595c627e7a9de"), looks := false }, kinds := [], alts := [], laidByText := true, laidKinds := [.data], laidTests := true, laidLooks := .later }
def DyadIntsUptoCardSaid : Prop := Claim7.holds Tryd.pinned (.plain (OpenSpec.upto dyadIntsSpec)) dyadIntsUptoCard

/-- THE SECOND FORM's CARD OF 'cutplanelaw02.DyadRing'. -/
def dyadRingUptoCard : Claim7 := { stood := { row := dyadRingUptoRow, standIns := [], harness := (true, "ecba93a2a8fec62ceb319a7320e5012d2387a81ad9d9931467b595c627e7a9de"), looks := false }, kinds := [], alts := [], laidByText := true, laidKinds := [.data], laidTests := true, laidLooks := .later }
def DyadRingUptoCardSaid : Prop := Claim7.holds Tryd.pinned (.plain (OpenSpec.upto dyadRingSpec)) dyadRingUptoCard

/-- THE SECOND FORM's CARD OF 'cutplanelaw02.DyadCuts'. -/
def dyadCutsUptoCard : Claim7 := { stood := { row := dyadCutsUptoRow, standIns := [], harness := (true, "ecba93a2a8fec62ceb319a7320e5012d2387a81ad9d9931467b595c627e7a9de"), looks := false }, kinds := [], alts := [], laidByText := true, laidKinds := [.data], laidTests := true, laidLooks := .later }
def DyadCutsUptoCardSaid : Prop := Claim7.holds Tryd.pinned (.plain (OpenSpec.upto dyadCutsSpec)) dyadCutsUptoCard

/-- THE SECOND FORM's CARD OF 'cutplanelaw02.DyadOrder'. -/
def dyadOrderUptoCard : Claim7 := { stood := { row := dyadOrderUptoRow, standIns := [], harness := (true, "ecba93a2a8fec62ceb319a7320e5012d2387a81ad9d9931467b595c627e7a9de"), looks := false }, kinds := [], alts := [], laidByText := true, laidKinds := [.data], laidTests := true, laidLooks := .later }
def DyadOrderUptoCardSaid : Prop := Claim7.holds Tryd.pinned (.plain (OpenSpec.upto dyadOrderSpec)) dyadOrderUptoCard

/-- THE SECOND FORM's CARD OF 'cutplanelaw02.DyadFloors'. -/
def dyadFloorsUptoCard : Claim7 := { stood := { row := dyadFloorsUptoRow, standIns := [], harness := (true, "ecba93a2a8fec62ceb319a7320e5012d2387a81ad9d9931467b595c627e7a9de"), looks := false }, kinds := [], alts := [], laidByText := true, laidKinds := [.data], laidTests := true, laidLooks := .later }
def DyadFloorsUptoCardSaid : Prop := Claim7.holds Tryd.pinned (.plain (OpenSpec.upto dyadFloorsSpec)) dyadFloorsUptoCard

/-- THE SECOND FORM's CARD OF 'cutplanelaw02.DyadSums'. -/
def dyadSumsUptoCard : Claim7 := { stood := { row := dyadSumsUptoRow, standIns := [], harness := (true, "ecba93a2a8fec62ceb319a7320e5012d2387a81ad9d9931467b595c627e7a9de"), looks := false }, kinds := [], alts := [], laidByText := true, laidKinds := [.data], laidTests := true, laidLooks := .later }
def DyadSumsUptoCardSaid : Prop := Claim7.holds Tryd.pinned (.plain (OpenSpec.upto dyadSumsSpec)) dyadSumsUptoCard

/-- THE SECOND FORM's CARD OF 'cutplanelaw02.DyadQuotients'. -/
def dyadQuotientsUptoCard : Claim7 := { stood := { row := dyadQuotientsUptoRow, standIns := [], harness := (true, "ecba93a2a8fec62ceb319a7320e5012d2387a81ad9d9931467b595c627e7a9de"), looks := false }, kinds := [], alts := [], laidByText := true, laidKinds := [.data], laidTests := true, laidLooks := .later }
def DyadQuotientsUptoCardSaid : Prop := Claim7.holds Tryd.pinned (.plain (OpenSpec.upto dyadQuotientsSpec)) dyadQuotientsUptoCard

/-- THE SECOND FORM's CARD OF 'cutplanelaw02.DyadCloses'. -/
def dyadClosesUptoCard : Claim7 := { stood := { row := dyadClosesUptoRow, standIns := [], harness := (true, "ecba93a2a8fec62ceb319a7320e5012d2387a81ad9d9931467b595c627e7a9de"), looks := false }, kinds := [], alts := [], laidByText := true, laidKinds := [.data], laidTests := true, laidLooks := .later }
def DyadClosesUptoCardSaid : Prop := Claim7.holds Tryd.pinned (.plain (OpenSpec.upto dyadClosesSpec)) dyadClosesUptoCard
end Rows
end Go.Proofs.YtnhbdcnnanfacaaDoor
