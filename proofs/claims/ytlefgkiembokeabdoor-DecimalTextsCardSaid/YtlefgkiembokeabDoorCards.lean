/-
  DERIVED. GIVEN WITH THE SEED: THE CARDS: each row of YtlefgkiembokeabDoorRows.lean that lists a variable, with what it lists TIED to the program's text (the seventh form; the later family's looks); each row that meets fmt, with fmt's text TOLD by the authors' own Lean function (tested against real Go, not proved from fmt's source: count such statements apart). THE CARD IS WHAT COUNTS. Prove the row's statement (the work); the ties are given (YtlefgkiembokeabDoorTie.lean); close each card by the builder's one call (the guide's Derived/Test/ToyasCard.lean, 'card_holds'). Laid BY PROGRAM, IN A SANDBOX (cutbox-door.mjs). By AI agents, Wed Nov 11 2026. No macro, syntax, notation, axiom, sorry.
-/
import Derived.Test.YtlefgkiembokeabDoorRows
import GoSem.ClaimSeven
namespace Go.Proofs.YtlefgkiembokeabDoor
namespace Rows

/-- THE TIED CARD OF 'bellmanlaw01.DecimalTexts'. -/
def decimalTextsCard : Claim7 := { stood := { row := decimalTextsRow, standIns := [], harness := (true, "8a331d2a32b6cc485c3e148f0026b8ffa26d1882cca46534d813ecbfe9c6bf72"), looks := false }, kinds := [], alts := [], laidByText := true, laidKinds := [.data, .data, .data, .data, .pinned, .pinned], laidTests := true, laidLooks := .later }
def DecimalTextsCardSaid : Prop := Claim7.holds Tryd.pinned (.plain (OpenSpec.ofChange decimalTextsSpec)) decimalTextsCard

/-- THE SECOND FORM's CARD OF 'bellmanlaw01.DecimalTexts'. -/
def decimalTextsUptoCard : Claim7 := { stood := { row := decimalTextsUptoRow, standIns := [], harness := (true, "8a331d2a32b6cc485c3e148f0026b8ffa26d1882cca46534d813ecbfe9c6bf72"), looks := false }, kinds := [], alts := [], laidByText := true, laidKinds := [.data, .data, .data, .data, .pinned, .pinned], laidTests := true, laidLooks := .later }
def DecimalTextsUptoCardSaid : Prop := Claim7.holds Tryd.pinned (.plain (OpenSpec.upto decimalTextsSpec)) decimalTextsUptoCard
end Rows
end Go.Proofs.YtlefgkiembokeabDoor
