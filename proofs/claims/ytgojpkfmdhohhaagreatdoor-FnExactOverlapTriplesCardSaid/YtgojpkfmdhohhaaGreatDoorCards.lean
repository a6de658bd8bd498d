/-
  DERIVED. GIVEN WITH THE SEED: THE CARDS: each row of YtgojpkfmdhohhaaGreatDoorRows.lean that lists a variable, with what it lists TIED to the program's text (the seventh form; the later family's looks); each row that meets fmt, with fmt's text TOLD by the authors' own Lean function (tested against real Go, not proved from fmt's source: count such statements apart). THE CARD IS WHAT COUNTS. Prove the row's statement (the work); the ties are given (YtgojpkfmdhohhaaGreatDoorTie.lean); close each card by the builder's one call (the guide's Derived/Test/ToyasCard.lean, 'card_holds'). Laid BY PROGRAM, IN A SANDBOX (cutbox-door.mjs). By AI agents, Wed Nov 11 2026. No macro, syntax, notation, axiom, sorry.
-/
import Derived.Test.YtgojpkfmdhohhaaGreatDoorRows
import GoSem.ClaimSeven
namespace Go.Proofs.YtgojpkfmdhohhaaGreatDoor
namespace Rows

/-- THE TIED CARD OF 'laws.FnExactOverlapPairs'. -/
def fnExactOverlapPairsCard : Claim7 := { stood := { row := fnExactOverlapPairsRow, standIns := [], harness := (true, "4e7fae57349e14aa17bbf4d0a632bb2e8a09733bdb15f5535a334f0600a5d71d"), looks := false }, kinds := [], alts := [], laidByText := true, laidKinds := [.data], laidTests := true, laidLooks := .later }
def FnExactOverlapPairsCardSaid : Prop := Claim7.holds Tryz.pinned (.plain (OpenSpec.ofChange fnExactOverlapPairsSpec)) fnExactOverlapPairsCard

/-- THE TIED CARD OF 'laws.FnExactOverlapTriples'. -/
def fnExactOverlapTriplesCard : Claim7 := { stood := { row := fnExactOverlapTriplesRow, standIns := [], harness := (true, "4e7fae57349e14aa17bbf4d0a632bb2e8a09733bdb15f5535a334f0600a5d71d"), looks := false }, kinds := [], alts := [], laidByText := true, laidKinds := [.data], laidTests := true, laidLooks := .later }
def FnExactOverlapTriplesCardSaid : Prop := Claim7.holds Tryz.pinned (.plain (OpenSpec.ofChange fnExactOverlapTriplesSpec)) fnExactOverlapTriplesCard

/-- THE SECOND FORM's CARD OF 'laws.FnExactOverlapPairs'. -/
def fnExactOverlapPairsUptoCard : Claim7 := { stood := { row := fnExactOverlapPairsUptoRow, standIns := [], harness := (true, "4e7fae57349e14aa17bbf4d0a632bb2e8a09733bdb15f5535a334f0600a5d71d"), looks := false }, kinds := [], alts := [], laidByText := true, laidKinds := [.data], laidTests := true, laidLooks := .later }
def FnExactOverlapPairsUptoCardSaid : Prop := Claim7.holds Tryz.pinned (.plain (OpenSpec.upto fnExactOverlapPairsSpec)) fnExactOverlapPairsUptoCard

/-- THE SECOND FORM's CARD OF 'laws.FnExactOverlapTriples'. -/
def fnExactOverlapTriplesUptoCard : Claim7 := { stood := { row := fnExactOverlapTriplesUptoRow, standIns := [], harness := (true, "4e7fae57349e14aa17bbf4d0a632bb2e8a09733bdb15f5535a334f0600a5d71d"), looks := false }, kinds := [], alts := [], laidByText := true, laidKinds := [.data], laidTests := true, laidLooks := .later }
def FnExactOverlapTriplesUptoCardSaid : Prop := Claim7.holds Tryz.pinned (.plain (OpenSpec.upto fnExactOverlapTriplesSpec)) fnExactOverlapTriplesUptoCard
end Rows
end Go.Proofs.YtgojpkfmdhohhaaGreatDoor
