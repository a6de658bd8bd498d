/-
  DERIVED. GIVEN WITH THE SEED: THE CARDS: each row of YtlalekdhfcjnfaaDoorRows.lean that lists a variable, with what it lists TIED to the program's text (the seventh form; the later family's looks); each row that meets fmt, with fmt's text TOLD by the authors' own Lean function (tested against real Go, not proved from fmt's source: count such statements apart). THE CARD IS WHAT COUNTS. Prove the row's statement (the work); the ties are given (YtlalekdhfcjnfaaDoorTie.lean); close each card by the builder's one call (the guide's Derived/Test/ToyasCard.lean, 'card_holds'). Laid BY PROGRAM, IN A SANDBOX (cutbox-door.mjs). By AI agents, Wed Nov 11 2026. No macro, syntax, notation, axiom, sorry.
-/
import Derived.Test.YtlalekdhfcjnfaaDoorRows
import GoSem.ClaimSeven
namespace Go.Proofs.YtlalekdhfcjnfaaDoor
namespace Rows

/-- THE TIED CARD OF 'laws.FnExactLineAt'. -/
def fnExactLineAtCard : Claim7 := { stood := { row := fnExactLineAtRow, standIns := [], harness := (true, "d883ed020855051ae18a6b0eebd6dae5909f1ac2536cf9ba71bfb542e60f9249"), looks := false }, kinds := [], alts := [], laidByText := true, laidKinds := [.data], laidTests := true, laidLooks := .later }
def FnExactLineAtCardSaid : Prop := Claim7.holds Tryd.pinned (.plain (OpenSpec.ofChange fnExactLineAtSpec)) fnExactLineAtCard

/-- THE TIED CARD OF 'laws.FnExactSideOf'. -/
def fnExactSideOfCard : Claim7 := { stood := { row := fnExactSideOfRow, standIns := [], harness := (true, "d883ed020855051ae18a6b0eebd6dae5909f1ac2536cf9ba71bfb542e60f9249"), looks := false }, kinds := [], alts := [], laidByText := true, laidKinds := [.data], laidTests := true, laidLooks := .later }
def FnExactSideOfCardSaid : Prop := Claim7.holds Tryd.pinned (.plain (OpenSpec.ofChange fnExactSideOfSpec)) fnExactSideOfCard

/-- THE SECOND FORM's CARD OF 'laws.FnExactLineAt'. -/
def fnExactLineAtUptoCard : Claim7 := { stood := { row := fnExactLineAtUptoRow, standIns := [], harness := (true, "d883ed020855051ae18a6b0eebd6dae5909f1ac2536cf9ba71bfb542e60f9249"), looks := false }, kinds := [], alts := [], laidByText := true, laidKinds := [.data], laidTests := true, laidLooks := .later }
def FnExactLineAtUptoCardSaid : Prop := Claim7.holds Tryd.pinned (.plain (OpenSpec.upto fnExactLineAtSpec)) fnExactLineAtUptoCard

/-- THE SECOND FORM's CARD OF 'laws.FnExactSideOf'. -/
def fnExactSideOfUptoCard : Claim7 := { stood := { row := fnExactSideOfUptoRow, standIns := [], harness := (true, "d883ed020855051ae18a6b0eebd6dae5909f1ac2536cf9ba71bfb542e60f9249"), looks := false }, kinds := [], alts := [], laidByText := true, laidKinds := [.data], laidTests := true, laidLooks := .later }
def FnExactSideOfUptoCardSaid : Prop := Claim7.holds Tryd.pinned (.plain (OpenSpec.upto fnExactSideOfSpec)) fnExactSideOfUptoCard
end Rows
end Go.Proofs.YtlalekdhfcjnfaaDoor
