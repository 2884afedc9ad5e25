/-
  DERIVED. GIVEN WITH THE SEED: THE CARDS: each row of YtgfammlmbjmkoaaGreatDoorRows.lean that lists a variable, with what it lists TIED to the program's text (the seventh form; the later family's looks); each row that meets fmt, with fmt's text TOLD by the authors' own Lean function (tested against real Go, not proved from fmt's source: count such statements apart). THE CARD IS WHAT COUNTS. Prove the row's statement (the work); the ties are given (YtgfammlmbjmkoaaGreatDoorTie.lean); close each card by the builder's one call (the guide's Derived/Test/ToyasCard.lean, 'card_holds'). Laid BY PROGRAM, IN A SANDBOX (cutbox-door.mjs). By AI agents, Wed Nov 11 2026. No macro, syntax, notation, axiom, sorry.
-/
import Derived.Test.YtgfammlmbjmkoaaGreatDoorRows
import GoSem.ClaimSeven
namespace Go.Proofs.YtgfammlmbjmkoaaGreatDoor
namespace Rows

/-- THE TIED CARD OF 'bellmanlaw26.RouteParses'. -/
def routeParsesCard : Claim7 := { stood := { row := routeParsesRow, standIns := [], harness := (true, "bd92a4d19ec6eabb7d503f9bb5c4046adfd676fcd9e90bc2a32d4b87f027b302"), looks := true }, kinds := [], alts := [], laidByText := true, laidKinds := [.data, .data, .data, .data, .pinned, .pinned], laidTests := true, laidLooks := .later }
def RouteParsesCardSaid : Prop := Claim7.holds Tryz.pinned (.plain (OpenSpec.ofChange routeParsesSpec)) routeParsesCard

/-- THE TIED CARD OF 'bellmanlaw26.RouteTexts'. -/
def routeTextsCard : Claim7 := { stood := { row := routeTextsRow, standIns := [], harness := (true, "bd92a4d19ec6eabb7d503f9bb5c4046adfd676fcd9e90bc2a32d4b87f027b302"), looks := true }, kinds := [], alts := [], laidByText := true, laidKinds := [.data, .data, .data, .data, .pinned, .pinned], laidTests := true, laidLooks := .later }
def RouteTextsCardSaid : Prop := Claim7.holds Tryz.pinned (.plain (OpenSpec.ofChange routeTextsSpec)) routeTextsCard

/-- THE TIED CARD OF 'bellmanlaw26.RouteFits'. -/
def routeFitsCard : Claim7 := { stood := { row := routeFitsRow, standIns := [], harness := (true, "bd92a4d19ec6eabb7d503f9bb5c4046adfd676fcd9e90bc2a32d4b87f027b302"), looks := true }, kinds := [], alts := [], laidByText := true, laidKinds := [.data, .data, .data, .data, .pinned, .pinned], laidTests := true, laidLooks := .later }
def RouteFitsCardSaid : Prop := Claim7.holds Tryz.pinned (.plain (OpenSpec.ofChange routeFitsSpec)) routeFitsCard

/-- THE TIED CARD OF 'bellmanlaw26.RouteHolds'. -/
def routeHoldsCard : Claim7 := { stood := { row := routeHoldsRow, standIns := [], harness := (true, "bd92a4d19ec6eabb7d503f9bb5c4046adfd676fcd9e90bc2a32d4b87f027b302"), looks := true }, kinds := [], alts := [], laidByText := true, laidKinds := [.data, .data, .data, .data, .pinned, .pinned], laidTests := true, laidLooks := .later }
def RouteHoldsCardSaid : Prop := Claim7.holds Tryz.pinned (.plain (OpenSpec.ofChange routeHoldsSpec)) routeHoldsCard

/-- THE TIED CARD OF 'bellmanlaw26.RouteShades'. -/
def routeShadesCard : Claim7 := { stood := { row := routeShadesRow, standIns := [], harness := (true, "bd92a4d19ec6eabb7d503f9bb5c4046adfd676fcd9e90bc2a32d4b87f027b302"), looks := true }, kinds := [], alts := [], laidByText := true, laidKinds := [.data, .data, .data, .data, .pinned, .pinned], laidTests := true, laidLooks := .later }
def RouteShadesCardSaid : Prop := Claim7.holds Tryz.pinned (.plain (OpenSpec.ofChange routeShadesSpec)) routeShadesCard

/-- THE TIED CARD OF 'bellmanlaw26.RouteTables'. -/
def routeTablesCard : Claim7 := { stood := { row := routeTablesRow, standIns := [], harness := (true, "bd92a4d19ec6eabb7d503f9bb5c4046adfd676fcd9e90bc2a32d4b87f027b302"), looks := true }, kinds := [], alts := [], laidByText := true, laidKinds := [.data, .data, .data, .data, .pinned, .pinned], laidTests := true, laidLooks := .later }
def RouteTablesCardSaid : Prop := Claim7.holds Tryz.pinned (.plain (OpenSpec.ofChange routeTablesSpec)) routeTablesCard

/-- THE TIED CARD OF 'bellmanlaw26.RouteAdds'. -/
def routeAddsCard : Claim7 := { stood := { row := routeAddsRow, standIns := [], harness := (true, "bd92a4d19ec6eabb7d503f9bb5c4046adfd676fcd9e90bc2a32d4b87f027b302"), looks := true }, kinds := [], alts := [], laidByText := true, laidKinds := [.data, .data, .data, .data, .pinned, .pinned], laidTests := true, laidLooks := .later }
def RouteAddsCardSaid : Prop := Claim7.holds Tryz.pinned (.plain (OpenSpec.ofChange routeAddsSpec)) routeAddsCard

/-- THE TIED CARD OF 'bellmanlaw26.RouteNone'. -/
def routeNoneCard : Claim7 := { stood := { row := routeNoneRow, standIns := [], harness := (true, "bd92a4d19ec6eabb7d503f9bb5c4046adfd676fcd9e90bc2a32d4b87f027b302"), looks := true }, kinds := [], alts := [], laidByText := true, laidKinds := [.data, .data, .data, .data, .pinned, .pinned], laidTests := true, laidLooks := .later }
def RouteNoneCardSaid : Prop := Claim7.holds Tryz.pinned (.plain (OpenSpec.ofChange routeNoneSpec)) routeNoneCard

/-- THE SECOND FORM's CARD OF 'bellmanlaw26.RouteParses'. -/
def routeParsesUptoCard : Claim7 := { stood := { row := routeParsesUptoRow, standIns := [], harness := (true, "bd92a4d19ec6eabb7d503f9bb5c4046adfd676fcd9e90bc2a32d4b87f027b302"), looks := true }, kinds := [], alts := [], laidByText := true, laidKinds := [.data, .data, .data, .data, .pinned, .pinned], laidTests := true, laidLooks := .later }
def RouteParsesUptoCardSaid : Prop := Claim7.holds Tryz.pinned (.plain (OpenSpec.upto routeParsesSpec)) routeParsesUptoCard

/-- THE SECOND FORM's CARD OF 'bellmanlaw26.RouteTexts'. -/
def routeTextsUptoCard : Claim7 := { stood := { row := routeTextsUptoRow, standIns := [], harness := (true, "bd92a4d19ec6eabb7d503f9bb5c4046adfd676fcd9e90bc2a32d4b87f027b302"), looks := true }, kinds := [], alts := [], laidByText := true, laidKinds := [.data, .data, .data, .data, .pinned, .pinned], laidTests := true, laidLooks := .later }
def RouteTextsUptoCardSaid : Prop := Claim7.holds Tryz.pinned (.plain (OpenSpec.upto routeTextsSpec)) routeTextsUptoCard

/-- THE SECOND FORM's CARD OF 'bellmanlaw26.RouteFits'. -/
def routeFitsUptoCard : Claim7 := { stood := { row := routeFitsUptoRow, standIns := [], harness := (true, "bd92a4d19ec6eabb7d503f9bb5c4046adfd676fcd9e90bc2a32d4b87f027b302"), looks := true }, kinds := [], alts := [], laidByText := true, laidKinds := [.data, .data, .data, .data, .pinned, .pinned], laidTests := true, laidLooks := .later }
def RouteFitsUptoCardSaid : Prop := Claim7.holds Tryz.pinned (.plain (OpenSpec.upto routeFitsSpec)) routeFitsUptoCard

/-- THE SECOND FORM's CARD OF 'bellmanlaw26.RouteHolds'. -/
def routeHoldsUptoCard : Claim7 := { stood := { row := routeHoldsUptoRow, standIns := [], harness := (true, "bd92a4d19ec6eabb7d503f9bb5c4046adfd676fcd9e90bc2a32d4b87f027b302"), looks := true }, kinds := [], alts := [], laidByText := true, laidKinds := [.data, .data, .data, .data, .pinned, .pinned], laidTests := true, laidLooks := .later }
def RouteHoldsUptoCardSaid : Prop := Claim7.holds Tryz.pinned (.plain (OpenSpec.upto routeHoldsSpec)) routeHoldsUptoCard

/-- THE SECOND FORM's CARD OF 'bellmanlaw26.RouteShades'. -/
def routeShadesUptoCard : Claim7 := { stood := { row := routeShadesUptoRow, standIns := [], harness := (true, "bd92a4d19ec6eabb7d503f9bb5c4046adfd676fcd9e90bc2a32d4b87f027b302"), looks := true }, kinds := [], alts := [], laidByText := true, laidKinds := [.data, .data, .data, .data, .pinned, .pinned], laidTests := true, laidLooks := .later }
def RouteShadesUptoCardSaid : Prop := Claim7.holds Tryz.pinned (.plain (OpenSpec.upto routeShadesSpec)) routeShadesUptoCard

/-- THE SECOND FORM's CARD OF 'bellmanlaw26.RouteTables'. -/
def routeTablesUptoCard : Claim7 := { stood := { row := routeTablesUptoRow, standIns := [], harness := (true, "bd92a4d19ec6eabb7d503f9bb5c4046adfd676fcd9e90bc2a32d4b87f027b302"), looks := true }, kinds := [], alts := [], laidByText := true, laidKinds := [.data, .data, .data, .data, .pinned, .pinned], laidTests := true, laidLooks := .later }
def RouteTablesUptoCardSaid : Prop := Claim7.holds Tryz.pinned (.plain (OpenSpec.upto routeTablesSpec)) routeTablesUptoCard

/-- THE SECOND FORM's CARD OF 'bellmanlaw26.RouteAdds'. -/
def routeAddsUptoCard : Claim7 := { stood := { row := routeAddsUptoRow, standIns := [], harness := (true, "bd92a4d19ec6eabb7d503f9bb5c4046adfd676fcd9e90bc2a32d4b87f027b302"), looks := true }, kinds := [], alts := [], laidByText := true, laidKinds := [.data, .data, .data, .data, .pinned, .pinned], laidTests := true, laidLooks := .later }
def RouteAddsUptoCardSaid : Prop := Claim7.holds Tryz.pinned (.plain (OpenSpec.upto routeAddsSpec)) routeAddsUptoCard

/-- THE SECOND FORM's CARD OF 'bellmanlaw26.RouteNone'. -/
def routeNoneUptoCard : Claim7 := { stood := { row := routeNoneUptoRow, standIns := [], harness := (true, "bd92a4d19ec6eabb7d503f9bb5c4046adfd676fcd9e90bc2a32d4b87f027b302"), looks := true }, kinds := [], alts := [], laidByText := true, laidKinds := [.data, .data, .data, .data, .pinned, .pinned], laidTests := true, laidLooks := .later }
def RouteNoneUptoCardSaid : Prop := Claim7.holds Tryz.pinned (.plain (OpenSpec.upto routeNoneSpec)) routeNoneUptoCard
end Rows
end Go.Proofs.YtgfammlmbjmkoaaGreatDoor
