/-
  DERIVED. GIVEN WITH THE SEED: THE CARDS: each row of YtiipeibaiphmpaaGreatDoorRows.lean that lists a variable, with what it lists TIED to the program's text (the seventh form; the later family's looks); each row that meets fmt, with fmt's text TOLD by the authors' own Lean function (tested against real Go, not proved from fmt's source: count such statements apart). THE CARD IS WHAT COUNTS. Prove the row's statement (the work); the ties are given (YtiipeibaiphmpaaGreatDoorTie.lean); close each card by the builder's one call (the guide's Derived/Test/ToyasCard.lean, 'card_holds'). Laid BY PROGRAM, IN A SANDBOX (cutbox-door.mjs). By AI agents, Wed Nov 11 2026. No macro, syntax, notation, axiom, sorry.
-/
import Derived.Test.YtiipeibaiphmpaaGreatDoorRows
import GoSem.ClaimSeven
namespace Go.Proofs.YtiipeibaiphmpaaGreatDoor
namespace Rows

/-- THE TIED CARD OF 'laws.FnExactCreasesAt'. -/
def fnExactCreasesAtCard : Claim7 := { stood := { row := fnExactCreasesAtRow, standIns := [], harness := (true, "5f8bc369860b60929119fbac988e20c0c804d01ede8441e1efe0b04eaa47710e"), looks := false }, kinds := [], alts := [], laidByText := true, laidKinds := [.data], laidTests := true, laidLooks := .later }
def FnExactCreasesAtCardSaid : Prop := Claim7.holds Tryz.pinned (.plain (OpenSpec.ofChange fnExactCreasesAtSpec)) fnExactCreasesAtCard

/-- THE TIED CARD OF 'laws.FnExactMaekawaAt'. -/
def fnExactMaekawaAtCard : Claim7 := { stood := { row := fnExactMaekawaAtRow, standIns := [], harness := (true, "5f8bc369860b60929119fbac988e20c0c804d01ede8441e1efe0b04eaa47710e"), looks := false }, kinds := [], alts := [], laidByText := true, laidKinds := [.data], laidTests := true, laidLooks := .later }
def FnExactMaekawaAtCardSaid : Prop := Claim7.holds Tryz.pinned (.plain (OpenSpec.ofChange fnExactMaekawaAtSpec)) fnExactMaekawaAtCard

/-- THE TIED CARD OF 'laws.FnExactKindsAt'. -/
def fnExactKindsAtCard : Claim7 := { stood := { row := fnExactKindsAtRow, standIns := [], harness := (true, "5f8bc369860b60929119fbac988e20c0c804d01ede8441e1efe0b04eaa47710e"), looks := false }, kinds := [], alts := [], laidByText := true, laidKinds := [.data], laidTests := true, laidLooks := .later }
def FnExactKindsAtCardSaid : Prop := Claim7.holds Tryz.pinned (.plain (OpenSpec.ofChange fnExactKindsAtSpec)) fnExactKindsAtCard

/-- THE TIED CARD OF 'laws.FnExactDirectionsAt'. -/
def fnExactDirectionsAtCard : Claim7 := { stood := { row := fnExactDirectionsAtRow, standIns := [], harness := (true, "5f8bc369860b60929119fbac988e20c0c804d01ede8441e1efe0b04eaa47710e"), looks := false }, kinds := [], alts := [], laidByText := true, laidKinds := [.data], laidTests := true, laidLooks := .later }
def FnExactDirectionsAtCardSaid : Prop := Claim7.holds Tryz.pinned (.plain (OpenSpec.ofChange fnExactDirectionsAtSpec)) fnExactDirectionsAtCard

/-- THE TIED CARD OF 'laws.FnExactPointsOn'. -/
def fnExactPointsOnCard : Claim7 := { stood := { row := fnExactPointsOnRow, standIns := [], harness := (true, "5f8bc369860b60929119fbac988e20c0c804d01ede8441e1efe0b04eaa47710e"), looks := false }, kinds := [], alts := [], laidByText := true, laidKinds := [.data], laidTests := true, laidLooks := .later }
def FnExactPointsOnCardSaid : Prop := Claim7.holds Tryz.pinned (.plain (OpenSpec.ofChange fnExactPointsOnSpec)) fnExactPointsOnCard

/-- THE TIED CARD OF 'laws.FnExactKawasakiAt'. -/
def fnExactKawasakiAtCard : Claim7 := { stood := { row := fnExactKawasakiAtRow, standIns := [], harness := (true, "5f8bc369860b60929119fbac988e20c0c804d01ede8441e1efe0b04eaa47710e"), looks := false }, kinds := [], alts := [], laidByText := true, laidKinds := [.data], laidTests := true, laidLooks := .later }
def FnExactKawasakiAtCardSaid : Prop := Claim7.holds Tryz.pinned (.plain (OpenSpec.ofChange fnExactKawasakiAtSpec)) fnExactKawasakiAtCard

/-- THE TIED CARD OF 'laws.FnExactSectorsAt'. -/
def fnExactSectorsAtCard : Claim7 := { stood := { row := fnExactSectorsAtRow, standIns := [], harness := (true, "5f8bc369860b60929119fbac988e20c0c804d01ede8441e1efe0b04eaa47710e"), looks := false }, kinds := [], alts := [], laidByText := true, laidKinds := [.data], laidTests := true, laidLooks := .later }
def FnExactSectorsAtCardSaid : Prop := Claim7.holds Tryz.pinned (.plain (OpenSpec.ofChange fnExactSectorsAtSpec)) fnExactSectorsAtCard

/-- THE TIED CARD OF 'laws.FnExactRemoveCrease'. -/
def fnExactRemoveCreaseCard : Claim7 := { stood := { row := fnExactRemoveCreaseRow, standIns := [], harness := (true, "5f8bc369860b60929119fbac988e20c0c804d01ede8441e1efe0b04eaa47710e"), looks := false }, kinds := [], alts := [], laidByText := true, laidKinds := [.data], laidTests := true, laidLooks := .later }
def FnExactRemoveCreaseCardSaid : Prop := Claim7.holds Tryz.pinned (.plain (OpenSpec.ofChange fnExactRemoveCreaseSpec)) fnExactRemoveCreaseCard

/-- THE TIED CARD OF 'laws.FnExactLittleAt'. -/
def fnExactLittleAtCard : Claim7 := { stood := { row := fnExactLittleAtRow, standIns := [], harness := (true, "5f8bc369860b60929119fbac988e20c0c804d01ede8441e1efe0b04eaa47710e"), looks := false }, kinds := [], alts := [], laidByText := true, laidKinds := [.data], laidTests := true, laidLooks := .later }
def FnExactLittleAtCardSaid : Prop := Claim7.holds Tryz.pinned (.plain (OpenSpec.ofChange fnExactLittleAtSpec)) fnExactLittleAtCard

/-- THE SECOND FORM's CARD OF 'laws.FnExactCreasesAt'. -/
def fnExactCreasesAtUptoCard : Claim7 := { stood := { row := fnExactCreasesAtUptoRow, standIns := [], harness := (true, "5f8bc369860b60929119fbac988e20c0c804d01ede8441e1efe0b04eaa47710e"), looks := false }, kinds := [], alts := [], laidByText := true, laidKinds := [.data], laidTests := true, laidLooks := .later }
def FnExactCreasesAtUptoCardSaid : Prop := Claim7.holds Tryz.pinned (.plain (OpenSpec.upto fnExactCreasesAtSpec)) fnExactCreasesAtUptoCard

/-- THE SECOND FORM's CARD OF 'laws.FnExactMaekawaAt'. -/
def fnExactMaekawaAtUptoCard : Claim7 := { stood := { row := fnExactMaekawaAtUptoRow, standIns := [], harness := (true, "5f8bc369860b60929119fbac988e20c0c804d01ede8441e1efe0b04eaa47710e"), looks := false }, kinds := [], alts := [], laidByText := true, laidKinds := [.data], laidTests := true, laidLooks := .later }
def FnExactMaekawaAtUptoCardSaid : Prop := Claim7.holds Tryz.pinned (.plain (OpenSpec.upto fnExactMaekawaAtSpec)) fnExactMaekawaAtUptoCard

/-- THE SECOND FORM's CARD OF 'laws.FnExactKindsAt'. -/
def fnExactKindsAtUptoCard : Claim7 := { stood := { row := fnExactKindsAtUptoRow, standIns := [], harness := (true, "5f8bc369860b60929119fbac988e20c0c804d01ede8441e1efe0b04eaa47710e"), looks := false }, kinds := [], alts := [], laidByText := true, laidKinds := [.data], laidTests := true, laidLooks := .later }
def FnExactKindsAtUptoCardSaid : Prop := Claim7.holds Tryz.pinned (.plain (OpenSpec.upto fnExactKindsAtSpec)) fnExactKindsAtUptoCard

/-- THE SECOND FORM's CARD OF 'laws.FnExactDirectionsAt'. -/
def fnExactDirectionsAtUptoCard : Claim7 := { stood := { row := fnExactDirectionsAtUptoRow, standIns := [], harness := (true, "5f8bc369860b60929119fbac988e20c0c804d01ede8441e1efe0b04eaa47710e"), looks := false }, kinds := [], alts := [], laidByText := true, laidKinds := [.data], laidTests := true, laidLooks := .later }
def FnExactDirectionsAtUptoCardSaid : Prop := Claim7.holds Tryz.pinned (.plain (OpenSpec.upto fnExactDirectionsAtSpec)) fnExactDirectionsAtUptoCard

/-- THE SECOND FORM's CARD OF 'laws.FnExactPointsOn'. -/
def fnExactPointsOnUptoCard : Claim7 := { stood := { row := fnExactPointsOnUptoRow, standIns := [], harness := (true, "5f8bc369860b60929119fbac988e20c0c804d01ede8441e1efe0b04eaa47710e"), looks := false }, kinds := [], alts := [], laidByText := true, laidKinds := [.data], laidTests := true, laidLooks := .later }
def FnExactPointsOnUptoCardSaid : Prop := Claim7.holds Tryz.pinned (.plain (OpenSpec.upto fnExactPointsOnSpec)) fnExactPointsOnUptoCard

/-- THE SECOND FORM's CARD OF 'laws.FnExactKawasakiAt'. -/
def fnExactKawasakiAtUptoCard : Claim7 := { stood := { row := fnExactKawasakiAtUptoRow, standIns := [], harness := (true, "5f8bc369860b60929119fbac988e20c0c804d01ede8441e1efe0b04eaa47710e"), looks := false }, kinds := [], alts := [], laidByText := true, laidKinds := [.data], laidTests := true, laidLooks := .later }
def FnExactKawasakiAtUptoCardSaid : Prop := Claim7.holds Tryz.pinned (.plain (OpenSpec.upto fnExactKawasakiAtSpec)) fnExactKawasakiAtUptoCard

/-- THE SECOND FORM's CARD OF 'laws.FnExactSectorsAt'. -/
def fnExactSectorsAtUptoCard : Claim7 := { stood := { row := fnExactSectorsAtUptoRow, standIns := [], harness := (true, "5f8bc369860b60929119fbac988e20c0c804d01ede8441e1efe0b04eaa47710e"), looks := false }, kinds := [], alts := [], laidByText := true, laidKinds := [.data], laidTests := true, laidLooks := .later }
def FnExactSectorsAtUptoCardSaid : Prop := Claim7.holds Tryz.pinned (.plain (OpenSpec.upto fnExactSectorsAtSpec)) fnExactSectorsAtUptoCard

/-- THE SECOND FORM's CARD OF 'laws.FnExactRemoveCrease'. -/
def fnExactRemoveCreaseUptoCard : Claim7 := { stood := { row := fnExactRemoveCreaseUptoRow, standIns := [], harness := (true, "5f8bc369860b60929119fbac988e20c0c804d01ede8441e1efe0b04eaa47710e"), looks := false }, kinds := [], alts := [], laidByText := true, laidKinds := [.data], laidTests := true, laidLooks := .later }
def FnExactRemoveCreaseUptoCardSaid : Prop := Claim7.holds Tryz.pinned (.plain (OpenSpec.upto fnExactRemoveCreaseSpec)) fnExactRemoveCreaseUptoCard

/-- THE SECOND FORM's CARD OF 'laws.FnExactLittleAt'. -/
def fnExactLittleAtUptoCard : Claim7 := { stood := { row := fnExactLittleAtUptoRow, standIns := [], harness := (true, "5f8bc369860b60929119fbac988e20c0c804d01ede8441e1efe0b04eaa47710e"), looks := false }, kinds := [], alts := [], laidByText := true, laidKinds := [.data], laidTests := true, laidLooks := .later }
def FnExactLittleAtUptoCardSaid : Prop := Claim7.holds Tryz.pinned (.plain (OpenSpec.upto fnExactLittleAtSpec)) fnExactLittleAtUptoCard
end Rows
end Go.Proofs.YtiipeibaiphmpaaGreatDoor
