/-
  DERIVED. GIVEN WITH THE SEED: THE CARDS: each row of YtahohbkjelhobaaDoorRows.lean that lists a variable, with what it lists TIED to the program's text (the seventh form; the later family's looks); each row that meets fmt, with fmt's text TOLD by the authors' own Lean function (tested against real Go, not proved from fmt's source: count such statements apart). THE CARD IS WHAT COUNTS. Prove the row's statement (the work); the ties are given (YtahohbkjelhobaaDoorTie.lean); close each card by the builder's one call (the guide's Derived/Test/ToyasCard.lean, 'card_holds'). Laid BY PROGRAM, IN A SANDBOX (cutbox-door.mjs). By AI agents, Wed Nov 11 2026. No macro, syntax, notation, axiom, sorry.
-/
import Derived.Test.YtahohbkjelhobaaDoorRows
import GoSem.ClaimSeven
namespace Go.Proofs.YtahohbkjelhobaaDoor
namespace Rows

/-- THE TIED CARD OF 'laws.FnExactReflectLine'. -/
def fnExactReflectLineCard : Claim7 := { stood := { row := fnExactReflectLineRow, standIns := [], harness := (true, "133815d69d31302431f1531f9131c819564540e57654d730a68f765937f147e1"), looks := false }, kinds := [], alts := [], laidByText := true, laidKinds := [.data], laidTests := true, laidLooks := .later }
def FnExactReflectLineCardSaid : Prop := Claim7.holds Tryd.pinned (.plain (OpenSpec.ofChange fnExactReflectLineSpec)) fnExactReflectLineCard

/-- THE TIED CARD OF 'laws.FnExactLineThrough'. -/
def fnExactLineThroughCard : Claim7 := { stood := { row := fnExactLineThroughRow, standIns := [], harness := (true, "133815d69d31302431f1531f9131c819564540e57654d730a68f765937f147e1"), looks := false }, kinds := [], alts := [], laidByText := true, laidKinds := [.data], laidTests := true, laidLooks := .later }
def FnExactLineThroughCardSaid : Prop := Claim7.holds Tryd.pinned (.plain (OpenSpec.ofChange fnExactLineThroughSpec)) fnExactLineThroughCard

/-- THE TIED CARD OF 'laws.FnExactMoveLine'. -/
def fnExactMoveLineCard : Claim7 := { stood := { row := fnExactMoveLineRow, standIns := [], harness := (true, "133815d69d31302431f1531f9131c819564540e57654d730a68f765937f147e1"), looks := false }, kinds := [], alts := [], laidByText := true, laidKinds := [.data], laidTests := true, laidLooks := .later }
def FnExactMoveLineCardSaid : Prop := Claim7.holds Tryd.pinned (.plain (OpenSpec.ofChange fnExactMoveLineSpec)) fnExactMoveLineCard

/-- THE SECOND FORM's CARD OF 'laws.FnExactReflectLine'. -/
def fnExactReflectLineUptoCard : Claim7 := { stood := { row := fnExactReflectLineUptoRow, standIns := [], harness := (true, "133815d69d31302431f1531f9131c819564540e57654d730a68f765937f147e1"), looks := false }, kinds := [], alts := [], laidByText := true, laidKinds := [.data], laidTests := true, laidLooks := .later }
def FnExactReflectLineUptoCardSaid : Prop := Claim7.holds Tryd.pinned (.plain (OpenSpec.upto fnExactReflectLineSpec)) fnExactReflectLineUptoCard

/-- THE SECOND FORM's CARD OF 'laws.FnExactLineThrough'. -/
def fnExactLineThroughUptoCard : Claim7 := { stood := { row := fnExactLineThroughUptoRow, standIns := [], harness := (true, "133815d69d31302431f1531f9131c819564540e57654d730a68f765937f147e1"), looks := false }, kinds := [], alts := [], laidByText := true, laidKinds := [.data], laidTests := true, laidLooks := .later }
def FnExactLineThroughUptoCardSaid : Prop := Claim7.holds Tryd.pinned (.plain (OpenSpec.upto fnExactLineThroughSpec)) fnExactLineThroughUptoCard

/-- THE SECOND FORM's CARD OF 'laws.FnExactMoveLine'. -/
def fnExactMoveLineUptoCard : Claim7 := { stood := { row := fnExactMoveLineUptoRow, standIns := [], harness := (true, "133815d69d31302431f1531f9131c819564540e57654d730a68f765937f147e1"), looks := false }, kinds := [], alts := [], laidByText := true, laidKinds := [.data], laidTests := true, laidLooks := .later }
def FnExactMoveLineUptoCardSaid : Prop := Claim7.holds Tryd.pinned (.plain (OpenSpec.upto fnExactMoveLineSpec)) fnExactMoveLineUptoCard
end Rows
end Go.Proofs.YtahohbkjelhobaaDoor
