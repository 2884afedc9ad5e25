/-
  DERIVED. GIVEN WITH THE SEED: THE CARDS: each row of YtlefgkiembokeaaDoorRows.lean that lists a variable, with what it lists TIED to the program's text (the seventh form; the later family's looks); each row that meets fmt, with fmt's text TOLD by the authors' own Lean function (tested against real Go, not proved from fmt's source: count such statements apart). THE CARD IS WHAT COUNTS. Prove the row's statement (the work); the ties are given (YtlefgkiembokeaaDoorTie.lean); close each card by the builder's one call (the guide's Derived/Test/ToyasCard.lean, 'card_holds'). Laid BY PROGRAM, IN A SANDBOX (cutbox-door.mjs). By AI agents, Wed Nov 11 2026. No macro, syntax, notation, axiom, sorry.
-/
import Derived.Test.YtlefgkiembokeaaDoorRows
import GoSem.ClaimSeven
namespace Go.Proofs.YtlefgkiembokeaaDoor
namespace Rows

/-- THE TIED CARD OF 'bellmanlaw01.DecimalParses'. -/
def decimalParsesCard : Claim7 := { stood := { row := decimalParsesRow, standIns := [], harness := (true, "5819fcb93878bbf5c1d6ba3341db61606885ef3bb0748d9f7d80974ec77e95b1"), looks := true }, kinds := [], alts := [], laidByText := true, laidKinds := [.data, .data, .data], laidTests := true, laidLooks := .later }
def DecimalParsesCardSaid : Prop := Claim7.holds Tryd.pinned (.plain (OpenSpec.ofChange decimalParsesSpec)) decimalParsesCard

/-- THE TIED CARD OF 'bellmanlaw01.DecimalSums'. -/
def decimalSumsCard : Claim7 := { stood := { row := decimalSumsRow, standIns := [], harness := (true, "5819fcb93878bbf5c1d6ba3341db61606885ef3bb0748d9f7d80974ec77e95b1"), looks := true }, kinds := [], alts := [], laidByText := true, laidKinds := [.data, .data, .data], laidTests := true, laidLooks := .later }
def DecimalSumsCardSaid : Prop := Claim7.holds Tryd.pinned (.plain (OpenSpec.ofChange decimalSumsSpec)) decimalSumsCard

/-- THE TIED CARD OF 'bellmanlaw01.DecimalHolds'. -/
def decimalHoldsCard : Claim7 := { stood := { row := decimalHoldsRow, standIns := [], harness := (true, "5819fcb93878bbf5c1d6ba3341db61606885ef3bb0748d9f7d80974ec77e95b1"), looks := true }, kinds := [], alts := [], laidByText := true, laidKinds := [.data, .data, .data], laidTests := true, laidLooks := .later }
def DecimalHoldsCardSaid : Prop := Claim7.holds Tryd.pinned (.plain (OpenSpec.ofChange decimalHoldsSpec)) decimalHoldsCard

/-- THE TIED CARD OF 'bellmanlaw16.ChunkEncodes'. -/
def chunkEncodesCard : Claim7 := { stood := { row := chunkEncodesRow, standIns := [], harness := (true, "5819fcb93878bbf5c1d6ba3341db61606885ef3bb0748d9f7d80974ec77e95b1"), looks := true }, kinds := [], alts := [], laidByText := true, laidKinds := [.data, .data, .data], laidTests := true, laidLooks := .later }
def ChunkEncodesCardSaid : Prop := Claim7.holds Tryd.pinned (.plain (OpenSpec.ofChange chunkEncodesSpec)) chunkEncodesCard

/-- THE TIED CARD OF 'bellmanlaw16.ChunkHolds'. -/
def chunkHoldsCard : Claim7 := { stood := { row := chunkHoldsRow, standIns := [], harness := (true, "5819fcb93878bbf5c1d6ba3341db61606885ef3bb0748d9f7d80974ec77e95b1"), looks := true }, kinds := [], alts := [], laidByText := true, laidKinds := [.data, .data, .data], laidTests := true, laidLooks := .later }
def ChunkHoldsCardSaid : Prop := Claim7.holds Tryd.pinned (.plain (OpenSpec.ofChange chunkHoldsSpec)) chunkHoldsCard

/-- THE TIED CARD OF 'bellmanlaw01.DecimalEach'. -/
def decimalEachCard : Claim7 := { stood := { row := decimalEachRow, standIns := [], harness := (true, "5819fcb93878bbf5c1d6ba3341db61606885ef3bb0748d9f7d80974ec77e95b1"), looks := true }, kinds := [], alts := [], laidByText := true, laidKinds := [.data, .data, .data], laidTests := true, laidLooks := .later }
def DecimalEachCardSaid : Prop := Claim7.holds Tryd.pinned (.plain (OpenSpec.ofChange decimalEachSpec)) decimalEachCard

/-- THE TIED CARD OF 'bellmanlaw16.ChunkCuts'. -/
def chunkCutsCard : Claim7 := { stood := { row := chunkCutsRow, standIns := [], harness := (true, "5819fcb93878bbf5c1d6ba3341db61606885ef3bb0748d9f7d80974ec77e95b1"), looks := true }, kinds := [], alts := [], laidByText := true, laidKinds := [.data, .data, .data], laidTests := true, laidLooks := .later }
def ChunkCutsCardSaid : Prop := Claim7.holds Tryd.pinned (.plain (OpenSpec.ofChange chunkCutsSpec)) chunkCutsCard

/-- THE TIED CARD OF 'bellmanlaw09.TokenQuotes'. -/
def tokenQuotesCard : Claim7 := { stood := { row := tokenQuotesRow, standIns := [], harness := (true, "5819fcb93878bbf5c1d6ba3341db61606885ef3bb0748d9f7d80974ec77e95b1"), looks := true }, kinds := [], alts := [], laidByText := true, laidKinds := [.data, .pinned], laidTests := true, laidLooks := .later }
def TokenQuotesCardSaid : Prop := Claim7.holds Tryd.pinned (.plain (OpenSpec.ofChange tokenQuotesSpec)) tokenQuotesCard

/-- THE TIED CARD OF 'bellmanlaw09.TokenTells'. -/
def tokenTellsCard : Claim7 := { stood := { row := tokenTellsRow, standIns := [], harness := (true, "5819fcb93878bbf5c1d6ba3341db61606885ef3bb0748d9f7d80974ec77e95b1"), looks := true }, kinds := [], alts := [], laidByText := true, laidKinds := [.data, .pinned], laidTests := true, laidLooks := .later }
def TokenTellsCardSaid : Prop := Claim7.holds Tryd.pinned (.plain (OpenSpec.ofChange tokenTellsSpec)) tokenTellsCard

/-- THE TIED CARD OF 'bellmanlaw09.TokenHolds'. -/
def tokenHoldsCard : Claim7 := { stood := { row := tokenHoldsRow, standIns := [], harness := (true, "5819fcb93878bbf5c1d6ba3341db61606885ef3bb0748d9f7d80974ec77e95b1"), looks := true }, kinds := [], alts := [], laidByText := true, laidKinds := [.data, .pinned], laidTests := true, laidLooks := .later }
def TokenHoldsCardSaid : Prop := Claim7.holds Tryd.pinned (.plain (OpenSpec.ofChange tokenHoldsSpec)) tokenHoldsCard

/-- THE TIED CARD OF 'bellmanlaw12.AcceptWeighs'. -/
def acceptWeighsCard : Claim7 := { stood := { row := acceptWeighsRow, standIns := [], harness := (true, "5819fcb93878bbf5c1d6ba3341db61606885ef3bb0748d9f7d80974ec77e95b1"), looks := true }, kinds := [], alts := [], laidByText := true, laidKinds := [.data, .pinned], laidTests := true, laidLooks := .later }
def AcceptWeighsCardSaid : Prop := Claim7.holds Tryd.pinned (.plain (OpenSpec.ofChange acceptWeighsSpec)) acceptWeighsCard

/-- THE TIED CARD OF 'bellmanlaw12.AcceptHolds'. -/
def acceptHoldsCard : Claim7 := { stood := { row := acceptHoldsRow, standIns := [], harness := (true, "5819fcb93878bbf5c1d6ba3341db61606885ef3bb0748d9f7d80974ec77e95b1"), looks := true }, kinds := [], alts := [], laidByText := true, laidKinds := [.data, .pinned], laidTests := true, laidLooks := .later }
def AcceptHoldsCardSaid : Prop := Claim7.holds Tryd.pinned (.plain (OpenSpec.ofChange acceptHoldsSpec)) acceptHoldsCard

/-- THE SECOND FORM's CARD OF 'bellmanlaw01.DecimalParses'. -/
def decimalParsesUptoCard : Claim7 := { stood := { row := decimalParsesUptoRow, standIns := [], harness := (true, "5819fcb93878bbf5c1d6ba3341db61606885ef3bb0748d9f7d80974ec77e95b1"), looks := true }, kinds := [], alts := [], laidByText := true, laidKinds := [.data, .data, .data], laidTests := true, laidLooks := .later }
def DecimalParsesUptoCardSaid : Prop := Claim7.holds Tryd.pinned (.plain (OpenSpec.upto decimalParsesSpec)) decimalParsesUptoCard

/-- THE SECOND FORM's CARD OF 'bellmanlaw01.DecimalSums'. -/
def decimalSumsUptoCard : Claim7 := { stood := { row := decimalSumsUptoRow, standIns := [], harness := (true, "5819fcb93878bbf5c1d6ba3341db61606885ef3bb0748d9f7d80974ec77e95b1"), looks := true }, kinds := [], alts := [], laidByText := true, laidKinds := [.data, .data, .data], laidTests := true, laidLooks := .later }
def DecimalSumsUptoCardSaid : Prop := Claim7.holds Tryd.pinned (.plain (OpenSpec.upto decimalSumsSpec)) decimalSumsUptoCard

/-- THE SECOND FORM's CARD OF 'bellmanlaw01.DecimalHolds'. -/
def decimalHoldsUptoCard : Claim7 := { stood := { row := decimalHoldsUptoRow, standIns := [], harness := (true, "5819fcb93878bbf5c1d6ba3341db61606885ef3bb0748d9f7d80974ec77e95b1"), looks := true }, kinds := [], alts := [], laidByText := true, laidKinds := [.data, .data, .data], laidTests := true, laidLooks := .later }
def DecimalHoldsUptoCardSaid : Prop := Claim7.holds Tryd.pinned (.plain (OpenSpec.upto decimalHoldsSpec)) decimalHoldsUptoCard

/-- THE SECOND FORM's CARD OF 'bellmanlaw16.ChunkEncodes'. -/
def chunkEncodesUptoCard : Claim7 := { stood := { row := chunkEncodesUptoRow, standIns := [], harness := (true, "5819fcb93878bbf5c1d6ba3341db61606885ef3bb0748d9f7d80974ec77e95b1"), looks := true }, kinds := [], alts := [], laidByText := true, laidKinds := [.data, .data, .data], laidTests := true, laidLooks := .later }
def ChunkEncodesUptoCardSaid : Prop := Claim7.holds Tryd.pinned (.plain (OpenSpec.upto chunkEncodesSpec)) chunkEncodesUptoCard

/-- THE SECOND FORM's CARD OF 'bellmanlaw16.ChunkHolds'. -/
def chunkHoldsUptoCard : Claim7 := { stood := { row := chunkHoldsUptoRow, standIns := [], harness := (true, "5819fcb93878bbf5c1d6ba3341db61606885ef3bb0748d9f7d80974ec77e95b1"), looks := true }, kinds := [], alts := [], laidByText := true, laidKinds := [.data, .data, .data], laidTests := true, laidLooks := .later }
def ChunkHoldsUptoCardSaid : Prop := Claim7.holds Tryd.pinned (.plain (OpenSpec.upto chunkHoldsSpec)) chunkHoldsUptoCard

/-- THE SECOND FORM's CARD OF 'bellmanlaw01.DecimalEach'. -/
def decimalEachUptoCard : Claim7 := { stood := { row := decimalEachUptoRow, standIns := [], harness := (true, "5819fcb93878bbf5c1d6ba3341db61606885ef3bb0748d9f7d80974ec77e95b1"), looks := true }, kinds := [], alts := [], laidByText := true, laidKinds := [.data, .data, .data], laidTests := true, laidLooks := .later }
def DecimalEachUptoCardSaid : Prop := Claim7.holds Tryd.pinned (.plain (OpenSpec.upto decimalEachSpec)) decimalEachUptoCard

/-- THE SECOND FORM's CARD OF 'bellmanlaw16.ChunkCuts'. -/
def chunkCutsUptoCard : Claim7 := { stood := { row := chunkCutsUptoRow, standIns := [], harness := (true, "5819fcb93878bbf5c1d6ba3341db61606885ef3bb0748d9f7d80974ec77e95b1"), looks := true }, kinds := [], alts := [], laidByText := true, laidKinds := [.data, .data, .data], laidTests := true, laidLooks := .later }
def ChunkCutsUptoCardSaid : Prop := Claim7.holds Tryd.pinned (.plain (OpenSpec.upto chunkCutsSpec)) chunkCutsUptoCard

/-- THE SECOND FORM's CARD OF 'bellmanlaw09.TokenQuotes'. -/
def tokenQuotesUptoCard : Claim7 := { stood := { row := tokenQuotesUptoRow, standIns := [], harness := (true, "5819fcb93878bbf5c1d6ba3341db61606885ef3bb0748d9f7d80974ec77e95b1"), looks := true }, kinds := [], alts := [], laidByText := true, laidKinds := [.data, .pinned], laidTests := true, laidLooks := .later }
def TokenQuotesUptoCardSaid : Prop := Claim7.holds Tryd.pinned (.plain (OpenSpec.upto tokenQuotesSpec)) tokenQuotesUptoCard

/-- THE SECOND FORM's CARD OF 'bellmanlaw09.TokenTells'. -/
def tokenTellsUptoCard : Claim7 := { stood := { row := tokenTellsUptoRow, standIns := [], harness := (true, "5819fcb93878bbf5c1d6ba3341db61606885ef3bb0748d9f7d80974ec77e95b1"), looks := true }, kinds := [], alts := [], laidByText := true, laidKinds := [.data, .pinned], laidTests := true, laidLooks := .later }
def TokenTellsUptoCardSaid : Prop := Claim7.holds Tryd.pinned (.plain (OpenSpec.upto tokenTellsSpec)) tokenTellsUptoCard

/-- THE SECOND FORM's CARD OF 'bellmanlaw09.TokenHolds'. -/
def tokenHoldsUptoCard : Claim7 := { stood := { row := tokenHoldsUptoRow, standIns := [], harness := (true, "5819fcb93878bbf5c1d6ba3341db61606885ef3bb0748d9f7d80974ec77e95b1"), looks := true }, kinds := [], alts := [], laidByText := true, laidKinds := [.data, .pinned], laidTests := true, laidLooks := .later }
def TokenHoldsUptoCardSaid : Prop := Claim7.holds Tryd.pinned (.plain (OpenSpec.upto tokenHoldsSpec)) tokenHoldsUptoCard

/-- THE SECOND FORM's CARD OF 'bellmanlaw12.AcceptWeighs'. -/
def acceptWeighsUptoCard : Claim7 := { stood := { row := acceptWeighsUptoRow, standIns := [], harness := (true, "5819fcb93878bbf5c1d6ba3341db61606885ef3bb0748d9f7d80974ec77e95b1"), looks := true }, kinds := [], alts := [], laidByText := true, laidKinds := [.data, .pinned], laidTests := true, laidLooks := .later }
def AcceptWeighsUptoCardSaid : Prop := Claim7.holds Tryd.pinned (.plain (OpenSpec.upto acceptWeighsSpec)) acceptWeighsUptoCard

/-- THE SECOND FORM's CARD OF 'bellmanlaw12.AcceptHolds'. -/
def acceptHoldsUptoCard : Claim7 := { stood := { row := acceptHoldsUptoRow, standIns := [], harness := (true, "5819fcb93878bbf5c1d6ba3341db61606885ef3bb0748d9f7d80974ec77e95b1"), looks := true }, kinds := [], alts := [], laidByText := true, laidKinds := [.data, .pinned], laidTests := true, laidLooks := .later }
def AcceptHoldsUptoCardSaid : Prop := Claim7.holds Tryd.pinned (.plain (OpenSpec.upto acceptHoldsSpec)) acceptHoldsUptoCard
end Rows
end Go.Proofs.YtlefgkiembokeaaDoor
