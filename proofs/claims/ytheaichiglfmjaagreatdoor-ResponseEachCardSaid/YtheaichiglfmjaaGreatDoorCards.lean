/-
  DERIVED. GIVEN WITH THE SEED: THE CARDS: each row of YtheaichiglfmjaaGreatDoorRows.lean that lists a variable, with what it lists TIED to the program's text (the seventh form; the later family's looks); each row that meets fmt, with fmt's text TOLD by the authors' own Lean function (tested against real Go, not proved from fmt's source: count such statements apart). THE CARD IS WHAT COUNTS. Prove the row's statement (the work); the ties are given (YtheaichiglfmjaaGreatDoorTie.lean); close each card by the builder's one call (the guide's Derived/Test/ToyasCard.lean, 'card_holds'). Laid BY PROGRAM, IN A SANDBOX (cutbox-door.mjs). By AI agents, Wed Nov 11 2026. No macro, syntax, notation, axiom, sorry.
-/
import Derived.Test.YtheaichiglfmjaaGreatDoorRows
import GoSem.ClaimSeven
namespace Go.Proofs.YtheaichiglfmjaaGreatDoor
namespace Rows

/-- THE TIED CARD OF 'bellmanlaw15.ResponseEach'. -/
def responseEachCard : Claim7 := { stood := { row := responseEachRow, standIns := [], harness := (true, "379e114acac88cd68dc7a03f17ceb744b56400ae52c99b89f55068033bbcee57"), looks := true }, kinds := [], alts := [], laidByText := true, laidKinds := [.data, .pinned], laidTests := true, laidLooks := .later }
def ResponseEachCardSaid : Prop := Claim7.holds Tryz.pinned (.plain (OpenSpec.ofChange responseEachSpec)) responseEachCard

/-- THE TIED CARD OF 'bellmanlaw15.ResponseHolds'. -/
def responseHoldsCard : Claim7 := { stood := { row := responseHoldsRow, standIns := [], harness := (true, "379e114acac88cd68dc7a03f17ceb744b56400ae52c99b89f55068033bbcee57"), looks := true }, kinds := [], alts := [], laidByText := true, laidKinds := [.data, .data, .data, .data, .pinned], laidTests := true, laidLooks := .later }
def ResponseHoldsCardSaid : Prop := Claim7.holds Tryz.pinned (.plain (OpenSpec.ofChange responseHoldsSpec)) responseHoldsCard

/-- THE TIED CARD OF 'bellmanlaw15.ResponseHead'. -/
def responseHeadCard : Claim7 := { stood := { row := responseHeadRow, standIns := [], harness := (true, "379e114acac88cd68dc7a03f17ceb744b56400ae52c99b89f55068033bbcee57"), looks := true }, kinds := [], alts := [], laidByText := true, laidKinds := [.data, .data, .data, .data, .pinned], laidTests := true, laidLooks := .later }
def ResponseHeadCardSaid : Prop := Claim7.holds Tryz.pinned (.plain (OpenSpec.ofChange responseHeadSpec)) responseHeadCard

/-- THE SECOND FORM's CARD OF 'bellmanlaw15.ResponseEach'. -/
def responseEachUptoCard : Claim7 := { stood := { row := responseEachUptoRow, standIns := [], harness := (true, "379e114acac88cd68dc7a03f17ceb744b56400ae52c99b89f55068033bbcee57"), looks := true }, kinds := [], alts := [], laidByText := true, laidKinds := [.data, .pinned], laidTests := true, laidLooks := .later }
def ResponseEachUptoCardSaid : Prop := Claim7.holds Tryz.pinned (.plain (OpenSpec.upto responseEachSpec)) responseEachUptoCard

/-- THE SECOND FORM's CARD OF 'bellmanlaw15.ResponseHolds'. -/
def responseHoldsUptoCard : Claim7 := { stood := { row := responseHoldsUptoRow, standIns := [], harness := (true, "379e114acac88cd68dc7a03f17ceb744b56400ae52c99b89f55068033bbcee57"), looks := true }, kinds := [], alts := [], laidByText := true, laidKinds := [.data, .data, .data, .data, .pinned], laidTests := true, laidLooks := .later }
def ResponseHoldsUptoCardSaid : Prop := Claim7.holds Tryz.pinned (.plain (OpenSpec.upto responseHoldsSpec)) responseHoldsUptoCard

/-- THE SECOND FORM's CARD OF 'bellmanlaw15.ResponseHead'. -/
def responseHeadUptoCard : Claim7 := { stood := { row := responseHeadUptoRow, standIns := [], harness := (true, "379e114acac88cd68dc7a03f17ceb744b56400ae52c99b89f55068033bbcee57"), looks := true }, kinds := [], alts := [], laidByText := true, laidKinds := [.data, .data, .data, .data, .pinned], laidTests := true, laidLooks := .later }
def ResponseHeadUptoCardSaid : Prop := Claim7.holds Tryz.pinned (.plain (OpenSpec.upto responseHeadSpec)) responseHeadUptoCard
end Rows
end Go.Proofs.YtheaichiglfmjaaGreatDoor
