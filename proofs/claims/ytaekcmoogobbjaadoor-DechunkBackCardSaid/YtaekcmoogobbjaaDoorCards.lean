/-
  DERIVED. GIVEN WITH THE SEED: THE CARDS: each row of YtaekcmoogobbjaaDoorRows.lean that lists a variable, with what it lists TIED to the program's text (the seventh form; the later family's looks); each row that meets fmt, with fmt's text TOLD by the authors' own Lean function (tested against real Go, not proved from fmt's source: count such statements apart). THE CARD IS WHAT COUNTS. Prove the row's statement (the work); the ties are given (YtaekcmoogobbjaaDoorTie.lean); close each card by the builder's one call (the guide's Derived/Test/ToyasCard.lean, 'card_holds'). Laid BY PROGRAM, IN A SANDBOX (cutbox-door.mjs). By AI agents, Wed Nov 11 2026. No macro, syntax, notation, axiom, sorry.
-/
import Derived.Test.YtaekcmoogobbjaaDoorRows
import GoSem.ClaimSeven
namespace Go.Proofs.YtaekcmoogobbjaaDoor
namespace Rows

/-- THE TIED CARD OF 'bellmanlaw17.DechunkHolds'. -/
def dechunkHoldsCard : Claim7 := { stood := { row := dechunkHoldsRow, standIns := [], harness := (true, "1564d84b17178ed1b1ab4866a17937cc791899e95181413bc1fb972f0518468e"), looks := true }, kinds := [], alts := [], laidByText := true, laidKinds := [.data, .pinned], laidTests := true, laidLooks := .later }
def DechunkHoldsCardSaid : Prop := Claim7.holds Tryd.pinned (.plain (OpenSpec.ofChange dechunkHoldsSpec)) dechunkHoldsCard

/-- THE TIED CARD OF 'bellmanlaw17.DechunkBack'. -/
def dechunkBackCard : Claim7 := { stood := { row := dechunkBackRow, standIns := [], harness := (true, "1564d84b17178ed1b1ab4866a17937cc791899e95181413bc1fb972f0518468e"), looks := true }, kinds := [], alts := [], laidByText := true, laidKinds := [.data, .data, .data, .data, .pinned], laidTests := true, laidLooks := .later }
def DechunkBackCardSaid : Prop := Claim7.holds Tryd.pinned (.plain (OpenSpec.ofChange dechunkBackSpec)) dechunkBackCard

/-- THE SECOND FORM's CARD OF 'bellmanlaw17.DechunkHolds'. -/
def dechunkHoldsUptoCard : Claim7 := { stood := { row := dechunkHoldsUptoRow, standIns := [], harness := (true, "1564d84b17178ed1b1ab4866a17937cc791899e95181413bc1fb972f0518468e"), looks := true }, kinds := [], alts := [], laidByText := true, laidKinds := [.data, .pinned], laidTests := true, laidLooks := .later }
def DechunkHoldsUptoCardSaid : Prop := Claim7.holds Tryd.pinned (.plain (OpenSpec.upto dechunkHoldsSpec)) dechunkHoldsUptoCard

/-- THE SECOND FORM's CARD OF 'bellmanlaw17.DechunkBack'. -/
def dechunkBackUptoCard : Claim7 := { stood := { row := dechunkBackUptoRow, standIns := [], harness := (true, "1564d84b17178ed1b1ab4866a17937cc791899e95181413bc1fb972f0518468e"), looks := true }, kinds := [], alts := [], laidByText := true, laidKinds := [.data, .data, .data, .data, .pinned], laidTests := true, laidLooks := .later }
def DechunkBackUptoCardSaid : Prop := Claim7.holds Tryd.pinned (.plain (OpenSpec.upto dechunkBackSpec)) dechunkBackUptoCard
end Rows
end Go.Proofs.YtaekcmoogobbjaaDoor
