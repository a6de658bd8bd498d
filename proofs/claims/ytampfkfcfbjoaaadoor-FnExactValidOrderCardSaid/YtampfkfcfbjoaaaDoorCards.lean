/-
  DERIVED. GIVEN WITH THE SEED: THE CARDS: each row of YtampfkfcfbjoaaaDoorRows.lean that lists a variable, with what it lists TIED to the program's text (the seventh form; the later family's looks); each row that meets fmt, with fmt's text TOLD by the authors' own Lean function (tested against real Go, not proved from fmt's source: count such statements apart). THE CARD IS WHAT COUNTS. Prove the row's statement (the work); the ties are given (YtampfkfcfbjoaaaDoorTie.lean); close each card by the builder's one call (the guide's Derived/Test/ToyasCard.lean, 'card_holds'). Laid BY PROGRAM, IN A SANDBOX (cutbox-door.mjs). By AI agents, Wed Nov 11 2026. No macro, syntax, notation, axiom, sorry.
-/
import Derived.Test.YtampfkfcfbjoaaaDoorRows
import GoSem.ClaimSeven
namespace Go.Proofs.YtampfkfcfbjoaaaDoor
namespace Rows

/-- THE TIED CARD OF 'laws.FnExactOverlapPolygons'. -/
def fnExactOverlapPolygonsCard : Claim7 := { stood := { row := fnExactOverlapPolygonsRow, standIns := [], harness := (true, "cac1f762ab03bae8f33fe89cc4bcc3fcee20343ede5da613138053cf8101d73d"), looks := false }, kinds := [], alts := [], laidByText := true, laidKinds := [.data], laidTests := true, laidLooks := .later }
def FnExactOverlapPolygonsCardSaid : Prop := Claim7.holds Tryd.pinned (.plain (OpenSpec.ofChange fnExactOverlapPolygonsSpec)) fnExactOverlapPolygonsCard

/-- THE TIED CARD OF 'laws.FnExactStartState'. -/
def fnExactStartStateCard : Claim7 := { stood := { row := fnExactStartStateRow, standIns := [], harness := (true, "cac1f762ab03bae8f33fe89cc4bcc3fcee20343ede5da613138053cf8101d73d"), looks := false }, kinds := [], alts := [], laidByText := true, laidKinds := [.data], laidTests := true, laidLooks := .later }
def FnExactStartStateCardSaid : Prop := Claim7.holds Tryd.pinned (.plain (OpenSpec.ofChange fnExactStartStateSpec)) fnExactStartStateCard

/-- THE TIED CARD OF 'laws.FnExactCrossesPolygon'. -/
def fnExactCrossesPolygonCard : Claim7 := { stood := { row := fnExactCrossesPolygonRow, standIns := [], harness := (true, "cac1f762ab03bae8f33fe89cc4bcc3fcee20343ede5da613138053cf8101d73d"), looks := false }, kinds := [], alts := [], laidByText := true, laidKinds := [.data], laidTests := true, laidLooks := .later }
def FnExactCrossesPolygonCardSaid : Prop := Claim7.holds Tryd.pinned (.plain (OpenSpec.ofChange fnExactCrossesPolygonSpec)) fnExactCrossesPolygonCard

/-- THE TIED CARD OF 'laws.FnExactCommonArea'. -/
def fnExactCommonAreaCard : Claim7 := { stood := { row := fnExactCommonAreaRow, standIns := [], harness := (true, "cac1f762ab03bae8f33fe89cc4bcc3fcee20343ede5da613138053cf8101d73d"), looks := false }, kinds := [], alts := [], laidByText := true, laidKinds := [.data], laidTests := true, laidLooks := .later }
def FnExactCommonAreaCardSaid : Prop := Claim7.holds Tryd.pinned (.plain (OpenSpec.ofChange fnExactCommonAreaSpec)) fnExactCommonAreaCard

/-- THE TIED CARD OF 'laws.FnExactValidOrder'. -/
def fnExactValidOrderCard : Claim7 := { stood := { row := fnExactValidOrderRow, standIns := [], harness := (true, "cac1f762ab03bae8f33fe89cc4bcc3fcee20343ede5da613138053cf8101d73d"), looks := false }, kinds := [], alts := [], laidByText := true, laidKinds := [.data], laidTests := true, laidLooks := .later }
def FnExactValidOrderCardSaid : Prop := Claim7.holds Tryd.pinned (.plain (OpenSpec.ofChange fnExactValidOrderSpec)) fnExactValidOrderCard

/-- THE SECOND FORM's CARD OF 'laws.FnExactOverlapPolygons'. -/
def fnExactOverlapPolygonsUptoCard : Claim7 := { stood := { row := fnExactOverlapPolygonsUptoRow, standIns := [], harness := (true, "cac1f762ab03bae8f33fe89cc4bcc3fcee20343ede5da613138053cf8101d73d"), looks := false }, kinds := [], alts := [], laidByText := true, laidKinds := [.data], laidTests := true, laidLooks := .later }
def FnExactOverlapPolygonsUptoCardSaid : Prop := Claim7.holds Tryd.pinned (.plain (OpenSpec.upto fnExactOverlapPolygonsSpec)) fnExactOverlapPolygonsUptoCard

/-- THE SECOND FORM's CARD OF 'laws.FnExactStartState'. -/
def fnExactStartStateUptoCard : Claim7 := { stood := { row := fnExactStartStateUptoRow, standIns := [], harness := (true, "cac1f762ab03bae8f33fe89cc4bcc3fcee20343ede5da613138053cf8101d73d"), looks := false }, kinds := [], alts := [], laidByText := true, laidKinds := [.data], laidTests := true, laidLooks := .later }
def FnExactStartStateUptoCardSaid : Prop := Claim7.holds Tryd.pinned (.plain (OpenSpec.upto fnExactStartStateSpec)) fnExactStartStateUptoCard

/-- THE SECOND FORM's CARD OF 'laws.FnExactCrossesPolygon'. -/
def fnExactCrossesPolygonUptoCard : Claim7 := { stood := { row := fnExactCrossesPolygonUptoRow, standIns := [], harness := (true, "cac1f762ab03bae8f33fe89cc4bcc3fcee20343ede5da613138053cf8101d73d"), looks := false }, kinds := [], alts := [], laidByText := true, laidKinds := [.data], laidTests := true, laidLooks := .later }
def FnExactCrossesPolygonUptoCardSaid : Prop := Claim7.holds Tryd.pinned (.plain (OpenSpec.upto fnExactCrossesPolygonSpec)) fnExactCrossesPolygonUptoCard

/-- THE SECOND FORM's CARD OF 'laws.FnExactCommonArea'. -/
def fnExactCommonAreaUptoCard : Claim7 := { stood := { row := fnExactCommonAreaUptoRow, standIns := [], harness := (true, "cac1f762ab03bae8f33fe89cc4bcc3fcee20343ede5da613138053cf8101d73d"), looks := false }, kinds := [], alts := [], laidByText := true, laidKinds := [.data], laidTests := true, laidLooks := .later }
def FnExactCommonAreaUptoCardSaid : Prop := Claim7.holds Tryd.pinned (.plain (OpenSpec.upto fnExactCommonAreaSpec)) fnExactCommonAreaUptoCard

/-- THE SECOND FORM's CARD OF 'laws.FnExactValidOrder'. -/
def fnExactValidOrderUptoCard : Claim7 := { stood := { row := fnExactValidOrderUptoRow, standIns := [], harness := (true, "cac1f762ab03bae8f33fe89cc4bcc3fcee20343ede5da613138053cf8101d73d"), looks := false }, kinds := [], alts := [], laidByText := true, laidKinds := [.data], laidTests := true, laidLooks := .later }
def FnExactValidOrderUptoCardSaid : Prop := Claim7.holds Tryd.pinned (.plain (OpenSpec.upto fnExactValidOrderSpec)) fnExactValidOrderUptoCard
end Rows
end Go.Proofs.YtampfkfcfbjoaaaDoor
