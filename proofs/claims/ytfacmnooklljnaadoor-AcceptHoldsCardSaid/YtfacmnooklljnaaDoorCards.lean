/-
  DERIVED. GIVEN WITH THE SEED: THE CARDS: each row of YtfacmnooklljnaaDoorRows.lean that lists a variable, with what it lists TIED to the program's text (the seventh form; the later family's looks); each row that meets fmt, with fmt's text TOLD by the authors' own Lean function (tested against real Go, not proved from fmt's source: count such statements apart). THE CARD IS WHAT COUNTS. Prove the row's statement (the work); the ties are given (YtfacmnooklljnaaDoorTie.lean); close each card by the builder's one call (the guide's Derived/Test/ToyasCard.lean, 'card_holds'). Laid BY PROGRAM, IN A SANDBOX (cutbox-door.mjs). By AI agents, Wed Nov 11 2026. No macro, syntax, notation, axiom, sorry.
-/
import Derived.Test.YtfacmnooklljnaaDoorRows
import GoSem.ClaimSeven
namespace Go.Proofs.YtfacmnooklljnaaDoor
namespace Rows

/-- THE TIED CARD OF 'bellmanlaw12.AcceptWeighs'. -/
def acceptWeighsCard : Claim7 := { stood := { row := acceptWeighsRow, standIns := [], harness := (true, "1d48dd52616938513c3a6a7c4a65ba6847f50af3f5128dd452e30d3940091eee"), looks := true }, kinds := [], alts := [], laidByText := true, laidKinds := [.data, .pinned], laidTests := true, laidLooks := .later }
def AcceptWeighsCardSaid : Prop := Claim7.holds Tryd.pinned (.plain (OpenSpec.ofChange acceptWeighsSpec)) acceptWeighsCard

/-- THE TIED CARD OF 'bellmanlaw12.AcceptHolds'. -/
def acceptHoldsCard : Claim7 := { stood := { row := acceptHoldsRow, standIns := [], harness := (true, "1d48dd52616938513c3a6a7c4a65ba6847f50af3f5128dd452e30d3940091eee"), looks := true }, kinds := [], alts := [], laidByText := true, laidKinds := [.data, .pinned], laidTests := true, laidLooks := .later }
def AcceptHoldsCardSaid : Prop := Claim7.holds Tryd.pinned (.plain (OpenSpec.ofChange acceptHoldsSpec)) acceptHoldsCard

/-- THE SECOND FORM's CARD OF 'bellmanlaw12.AcceptWeighs'. -/
def acceptWeighsUptoCard : Claim7 := { stood := { row := acceptWeighsUptoRow, standIns := [], harness := (true, "1d48dd52616938513c3a6a7c4a65ba6847f50af3f5128dd452e30d3940091eee"), looks := true }, kinds := [], alts := [], laidByText := true, laidKinds := [.data, .pinned], laidTests := true, laidLooks := .later }
def AcceptWeighsUptoCardSaid : Prop := Claim7.holds Tryd.pinned (.plain (OpenSpec.upto acceptWeighsSpec)) acceptWeighsUptoCard

/-- THE SECOND FORM's CARD OF 'bellmanlaw12.AcceptHolds'. -/
def acceptHoldsUptoCard : Claim7 := { stood := { row := acceptHoldsUptoRow, standIns := [], harness := (true, "1d48dd52616938513c3a6a7c4a65ba6847f50af3f5128dd452e30d3940091eee"), looks := true }, kinds := [], alts := [], laidByText := true, laidKinds := [.data, .pinned], laidTests := true, laidLooks := .later }
def AcceptHoldsUptoCardSaid : Prop := Claim7.holds Tryd.pinned (.plain (OpenSpec.upto acceptHoldsSpec)) acceptHoldsUptoCard
end Rows
end Go.Proofs.YtfacmnooklljnaaDoor
