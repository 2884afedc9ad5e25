/-
  DERIVED. GIVEN WITH THE SEED: THE CARDS: each row of YtfacmnooklljnaaGreatDoorRows.lean that lists a variable, with what it lists TIED to the program's text (the seventh form; the later family's looks); each row that meets fmt, with fmt's text TOLD by the authors' own Lean function (tested against real Go, not proved from fmt's source: count such statements apart). THE CARD IS WHAT COUNTS. Prove the row's statement (the work); the ties are given (YtfacmnooklljnaaGreatDoorTie.lean); close each card by the builder's one call (the guide's Derived/Test/ToyasCard.lean, 'card_holds'). Laid BY PROGRAM, IN A SANDBOX (cutbox-door.mjs). By AI agents, Wed Nov 11 2026. No macro, syntax, notation, axiom, sorry.
-/
import Derived.Test.YtfacmnooklljnaaGreatDoorRows
import GoSem.ClaimSeven
namespace Go.Proofs.YtfacmnooklljnaaGreatDoor
namespace Rows

/-- THE TIED CARD OF 'bellmanlaw13.RequestHolds'. -/
def requestHoldsCard : Claim7 := { stood := { row := requestHoldsRow, standIns := [], harness := (true, "773f314e64ad9f61e98289ce653be6478f2de7a330b8b8b3caf8aa812d862879"), looks := true }, kinds := [], alts := [], laidByText := true, laidKinds := [.data, .pinned], laidTests := true, laidLooks := .later }
def RequestHoldsCardSaid : Prop := Claim7.holds Tryz.pinned (.plain (OpenSpec.ofChange requestHoldsSpec)) requestHoldsCard

/-- THE TIED CARD OF 'bellmanlaw13.RequestSame'. -/
def requestSameCard : Claim7 := { stood := { row := requestSameRow, standIns := [], harness := (true, "773f314e64ad9f61e98289ce653be6478f2de7a330b8b8b3caf8aa812d862879"), looks := true }, kinds := [], alts := [], laidByText := true, laidKinds := [.data, .pinned], laidTests := true, laidLooks := .later }
def RequestSameCardSaid : Prop := Claim7.holds Tryz.pinned (.plain (OpenSpec.ofChange requestSameSpec)) requestSameCard

/-- THE TIED CARD OF 'bellmanlaw13.RequestEach'. -/
def requestEachCard : Claim7 := { stood := { row := requestEachRow, standIns := [], harness := (true, "773f314e64ad9f61e98289ce653be6478f2de7a330b8b8b3caf8aa812d862879"), looks := true }, kinds := [], alts := [], laidByText := true, laidKinds := [.data, .pinned], laidTests := true, laidLooks := .later }
def RequestEachCardSaid : Prop := Claim7.holds Tryz.pinned (.plain (OpenSpec.ofChange requestEachSpec)) requestEachCard

/-- THE SECOND FORM's CARD OF 'bellmanlaw13.RequestHolds'. -/
def requestHoldsUptoCard : Claim7 := { stood := { row := requestHoldsUptoRow, standIns := [], harness := (true, "773f314e64ad9f61e98289ce653be6478f2de7a330b8b8b3caf8aa812d862879"), looks := true }, kinds := [], alts := [], laidByText := true, laidKinds := [.data, .pinned], laidTests := true, laidLooks := .later }
def RequestHoldsUptoCardSaid : Prop := Claim7.holds Tryz.pinned (.plain (OpenSpec.upto requestHoldsSpec)) requestHoldsUptoCard

/-- THE SECOND FORM's CARD OF 'bellmanlaw13.RequestSame'. -/
def requestSameUptoCard : Claim7 := { stood := { row := requestSameUptoRow, standIns := [], harness := (true, "773f314e64ad9f61e98289ce653be6478f2de7a330b8b8b3caf8aa812d862879"), looks := true }, kinds := [], alts := [], laidByText := true, laidKinds := [.data, .pinned], laidTests := true, laidLooks := .later }
def RequestSameUptoCardSaid : Prop := Claim7.holds Tryz.pinned (.plain (OpenSpec.upto requestSameSpec)) requestSameUptoCard

/-- THE SECOND FORM's CARD OF 'bellmanlaw13.RequestEach'. -/
def requestEachUptoCard : Claim7 := { stood := { row := requestEachUptoRow, standIns := [], harness := (true, "773f314e64ad9f61e98289ce653be6478f2de7a330b8b8b3caf8aa812d862879"), looks := true }, kinds := [], alts := [], laidByText := true, laidKinds := [.data, .pinned], laidTests := true, laidLooks := .later }
def RequestEachUptoCardSaid : Prop := Claim7.holds Tryz.pinned (.plain (OpenSpec.upto requestEachSpec)) requestEachUptoCard
end Rows
end Go.Proofs.YtfacmnooklljnaaGreatDoor
