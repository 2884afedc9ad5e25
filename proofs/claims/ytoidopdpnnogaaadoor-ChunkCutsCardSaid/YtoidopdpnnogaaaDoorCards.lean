/-
  DERIVED. GIVEN WITH THE SEED: THE CARDS: each row of YtoidopdpnnogaaaDoorRows.lean that lists a variable, with what it lists TIED to the program's text (the seventh form; the later family's looks); each row that meets fmt, with fmt's text TOLD by the authors' own Lean function (tested against real Go, not proved from fmt's source: count such statements apart). THE CARD IS WHAT COUNTS. Prove the row's statement (the work); the ties are given (YtoidopdpnnogaaaDoorTie.lean); close each card by the builder's one call (the guide's Derived/Test/ToyasCard.lean, 'card_holds'). Laid BY PROGRAM, IN A SANDBOX (cutbox-door.mjs). By AI agents, Wed Nov 11 2026. No macro, syntax, notation, axiom, sorry.
-/
import Derived.Test.YtoidopdpnnogaaaDoorRows
import GoSem.ClaimSeven
namespace Go.Proofs.YtoidopdpnnogaaaDoor
namespace Rows

/-- THE TIED CARD OF 'bellmanlaw16.ChunkCuts'. -/
def chunkCutsCard : Claim7 := { stood := { row := chunkCutsRow, standIns := [], harness := (true, "bcf526cc44138bba1d7bc742d9ef77343f27be040d72462cd61d696bbae2f7b4"), looks := true }, kinds := [], alts := [], laidByText := true, laidKinds := [.data, .data, .data], laidTests := true, laidLooks := .later }
def ChunkCutsCardSaid : Prop := Claim7.holds Tryd.pinned (.plain (OpenSpec.ofChange chunkCutsSpec)) chunkCutsCard

/-- THE TIED CARD OF 'bellmanlaw17.DechunkHolds'. -/
def dechunkHoldsCard : Claim7 := { stood := { row := dechunkHoldsRow, standIns := [], harness := (true, "bcf526cc44138bba1d7bc742d9ef77343f27be040d72462cd61d696bbae2f7b4"), looks := true }, kinds := [], alts := [], laidByText := true, laidKinds := [.data, .pinned], laidTests := true, laidLooks := .later }
def DechunkHoldsCardSaid : Prop := Claim7.holds Tryd.pinned (.plain (OpenSpec.ofChange dechunkHoldsSpec)) dechunkHoldsCard

/-- THE TIED CARD OF 'bellmanlaw12.AcceptWeighs'. -/
def acceptWeighsCard : Claim7 := { stood := { row := acceptWeighsRow, standIns := [], harness := (true, "bcf526cc44138bba1d7bc742d9ef77343f27be040d72462cd61d696bbae2f7b4"), looks := true }, kinds := [], alts := [], laidByText := true, laidKinds := [.data, .pinned], laidTests := true, laidLooks := .later }
def AcceptWeighsCardSaid : Prop := Claim7.holds Tryd.pinned (.plain (OpenSpec.ofChange acceptWeighsSpec)) acceptWeighsCard

/-- THE TIED CARD OF 'bellmanlaw12.AcceptHolds'. -/
def acceptHoldsCard : Claim7 := { stood := { row := acceptHoldsRow, standIns := [], harness := (true, "bcf526cc44138bba1d7bc742d9ef77343f27be040d72462cd61d696bbae2f7b4"), looks := true }, kinds := [], alts := [], laidByText := true, laidKinds := [.data, .pinned], laidTests := true, laidLooks := .later }
def AcceptHoldsCardSaid : Prop := Claim7.holds Tryd.pinned (.plain (OpenSpec.ofChange acceptHoldsSpec)) acceptHoldsCard

/-- THE TIED CARD OF 'bellmanlaw14.AnswerPlain'. -/
def answerPlainCard : Claim7 := { stood := { row := answerPlainRow, standIns := [], harness := (true, "bcf526cc44138bba1d7bc742d9ef77343f27be040d72462cd61d696bbae2f7b4"), looks := true }, kinds := [], alts := [], laidByText := true, laidKinds := [.data, .data, .data, .data, .pinned], laidTests := true, laidLooks := .later }
def AnswerPlainCardSaid : Prop := Claim7.holds Tryd.pinned (.plain (OpenSpec.ofChange answerPlainSpec)) answerPlainCard

/-- THE TIED CARD OF 'bellmanlaw14.AnswerStream'. -/
def answerStreamCard : Claim7 := { stood := { row := answerStreamRow, standIns := [], harness := (true, "bcf526cc44138bba1d7bc742d9ef77343f27be040d72462cd61d696bbae2f7b4"), looks := true }, kinds := [], alts := [], laidByText := true, laidKinds := [.data, .data, .data, .data, .pinned], laidTests := true, laidLooks := .later }
def AnswerStreamCardSaid : Prop := Claim7.holds Tryd.pinned (.plain (OpenSpec.ofChange answerStreamSpec)) answerStreamCard

/-- THE TIED CARD OF 'bellmanlaw14.AnswerHolds'. -/
def answerHoldsCard : Claim7 := { stood := { row := answerHoldsRow, standIns := [], harness := (true, "bcf526cc44138bba1d7bc742d9ef77343f27be040d72462cd61d696bbae2f7b4"), looks := true }, kinds := [], alts := [], laidByText := true, laidKinds := [.data, .data, .data, .data, .pinned], laidTests := true, laidLooks := .later }
def AnswerHoldsCardSaid : Prop := Claim7.holds Tryd.pinned (.plain (OpenSpec.ofChange answerHoldsSpec)) answerHoldsCard

/-- THE TIED CARD OF 'bellmanlaw14.AnswerStatuses'. -/
def answerStatusesCard : Claim7 := { stood := { row := answerStatusesRow, standIns := [], harness := (true, "bcf526cc44138bba1d7bc742d9ef77343f27be040d72462cd61d696bbae2f7b4"), looks := true }, kinds := [], alts := [], laidByText := true, laidKinds := [.data, .data, .data, .data, .pinned], laidTests := true, laidLooks := .later }
def AnswerStatusesCardSaid : Prop := Claim7.holds Tryd.pinned (.plain (OpenSpec.ofChange answerStatusesSpec)) answerStatusesCard

/-- THE TIED CARD OF 'bellmanlaw17.DechunkBack'. -/
def dechunkBackCard : Claim7 := { stood := { row := dechunkBackRow, standIns := [], harness := (true, "bcf526cc44138bba1d7bc742d9ef77343f27be040d72462cd61d696bbae2f7b4"), looks := true }, kinds := [], alts := [], laidByText := true, laidKinds := [.data, .data, .data, .data, .pinned], laidTests := true, laidLooks := .later }
def DechunkBackCardSaid : Prop := Claim7.holds Tryd.pinned (.plain (OpenSpec.ofChange dechunkBackSpec)) dechunkBackCard

/-- THE SECOND FORM's CARD OF 'bellmanlaw16.ChunkCuts'. -/
def chunkCutsUptoCard : Claim7 := { stood := { row := chunkCutsUptoRow, standIns := [], harness := (true, "bcf526cc44138bba1d7bc742d9ef77343f27be040d72462cd61d696bbae2f7b4"), looks := true }, kinds := [], alts := [], laidByText := true, laidKinds := [.data, .data, .data], laidTests := true, laidLooks := .later }
def ChunkCutsUptoCardSaid : Prop := Claim7.holds Tryd.pinned (.plain (OpenSpec.upto chunkCutsSpec)) chunkCutsUptoCard

/-- THE SECOND FORM's CARD OF 'bellmanlaw17.DechunkHolds'. -/
def dechunkHoldsUptoCard : Claim7 := { stood := { row := dechunkHoldsUptoRow, standIns := [], harness := (true, "bcf526cc44138bba1d7bc742d9ef77343f27be040d72462cd61d696bbae2f7b4"), looks := true }, kinds := [], alts := [], laidByText := true, laidKinds := [.data, .pinned], laidTests := true, laidLooks := .later }
def DechunkHoldsUptoCardSaid : Prop := Claim7.holds Tryd.pinned (.plain (OpenSpec.upto dechunkHoldsSpec)) dechunkHoldsUptoCard

/-- THE SECOND FORM's CARD OF 'bellmanlaw12.AcceptWeighs'. -/
def acceptWeighsUptoCard : Claim7 := { stood := { row := acceptWeighsUptoRow, standIns := [], harness := (true, "bcf526cc44138bba1d7bc742d9ef77343f27be040d72462cd61d696bbae2f7b4"), looks := true }, kinds := [], alts := [], laidByText := true, laidKinds := [.data, .pinned], laidTests := true, laidLooks := .later }
def AcceptWeighsUptoCardSaid : Prop := Claim7.holds Tryd.pinned (.plain (OpenSpec.upto acceptWeighsSpec)) acceptWeighsUptoCard

/-- THE SECOND FORM's CARD OF 'bellmanlaw12.AcceptHolds'. -/
def acceptHoldsUptoCard : Claim7 := { stood := { row := acceptHoldsUptoRow, standIns := [], harness := (true, "bcf526cc44138bba1d7bc742d9ef77343f27be040d72462cd61d696bbae2f7b4"), looks := true }, kinds := [], alts := [], laidByText := true, laidKinds := [.data, .pinned], laidTests := true, laidLooks := .later }
def AcceptHoldsUptoCardSaid : Prop := Claim7.holds Tryd.pinned (.plain (OpenSpec.upto acceptHoldsSpec)) acceptHoldsUptoCard

/-- THE SECOND FORM's CARD OF 'bellmanlaw14.AnswerPlain'. -/
def answerPlainUptoCard : Claim7 := { stood := { row := answerPlainUptoRow, standIns := [], harness := (true, "bcf526cc44138bba1d7bc742d9ef77343f27be040d72462cd61d696bbae2f7b4"), looks := true }, kinds := [], alts := [], laidByText := true, laidKinds := [.data, .data, .data, .data, .pinned], laidTests := true, laidLooks := .later }
def AnswerPlainUptoCardSaid : Prop := Claim7.holds Tryd.pinned (.plain (OpenSpec.upto answerPlainSpec)) answerPlainUptoCard

/-- THE SECOND FORM's CARD OF 'bellmanlaw14.AnswerStream'. -/
def answerStreamUptoCard : Claim7 := { stood := { row := answerStreamUptoRow, standIns := [], harness := (true, "bcf526cc44138bba1d7bc742d9ef77343f27be040d72462cd61d696bbae2f7b4"), looks := true }, kinds := [], alts := [], laidByText := true, laidKinds := [.data, .data, .data, .data, .pinned], laidTests := true, laidLooks := .later }
def AnswerStreamUptoCardSaid : Prop := Claim7.holds Tryd.pinned (.plain (OpenSpec.upto answerStreamSpec)) answerStreamUptoCard

/-- THE SECOND FORM's CARD OF 'bellmanlaw14.AnswerHolds'. -/
def answerHoldsUptoCard : Claim7 := { stood := { row := answerHoldsUptoRow, standIns := [], harness := (true, "bcf526cc44138bba1d7bc742d9ef77343f27be040d72462cd61d696bbae2f7b4"), looks := true }, kinds := [], alts := [], laidByText := true, laidKinds := [.data, .data, .data, .data, .pinned], laidTests := true, laidLooks := .later }
def AnswerHoldsUptoCardSaid : Prop := Claim7.holds Tryd.pinned (.plain (OpenSpec.upto answerHoldsSpec)) answerHoldsUptoCard

/-- THE SECOND FORM's CARD OF 'bellmanlaw14.AnswerStatuses'. -/
def answerStatusesUptoCard : Claim7 := { stood := { row := answerStatusesUptoRow, standIns := [], harness := (true, "bcf526cc44138bba1d7bc742d9ef77343f27be040d72462cd61d696bbae2f7b4"), looks := true }, kinds := [], alts := [], laidByText := true, laidKinds := [.data, .data, .data, .data, .pinned], laidTests := true, laidLooks := .later }
def AnswerStatusesUptoCardSaid : Prop := Claim7.holds Tryd.pinned (.plain (OpenSpec.upto answerStatusesSpec)) answerStatusesUptoCard

/-- THE SECOND FORM's CARD OF 'bellmanlaw17.DechunkBack'. -/
def dechunkBackUptoCard : Claim7 := { stood := { row := dechunkBackUptoRow, standIns := [], harness := (true, "bcf526cc44138bba1d7bc742d9ef77343f27be040d72462cd61d696bbae2f7b4"), looks := true }, kinds := [], alts := [], laidByText := true, laidKinds := [.data, .data, .data, .data, .pinned], laidTests := true, laidLooks := .later }
def DechunkBackUptoCardSaid : Prop := Claim7.holds Tryd.pinned (.plain (OpenSpec.upto dechunkBackSpec)) dechunkBackUptoCard
end Rows
end Go.Proofs.YtoidopdpnnogaaaDoor
