/-
  DERIVED. GIVEN WITH THE SEED: THE CARDS: each row of YtcclapmdkobcgaaGreatDoorRows.lean that lists a variable, with what it lists TIED to the program's text (the seventh form; the later family's looks); each row that meets fmt, with fmt's text TOLD by the authors' own Lean function (tested against real Go, not proved from fmt's source: count such statements apart). THE CARD IS WHAT COUNTS. Prove the row's statement (the work); the ties are given (YtcclapmdkobcgaaGreatDoorTie.lean); close each card by the builder's one call (the guide's Derived/Test/ToyasCard.lean, 'card_holds'). Laid BY PROGRAM, IN A SANDBOX (cutbox-door.mjs). By AI agents, Wed Nov 11 2026. No macro, syntax, notation, axiom, sorry.
-/
import Derived.Test.YtcclapmdkobcgaaGreatDoorRows
import GoSem.ClaimSeven
namespace Go.Proofs.YtcclapmdkobcgaaGreatDoor
namespace Rows

/-- THE TIED CARD OF 'laws.FnExactValidPattern'. -/
def fnExactValidPatternCard : Claim7 := { stood := { row := fnExactValidPatternRow, standIns := [], harness := (true, "9fa90172d919e955893778f67b6e0950d1194ed41fb8844638f5df1489f67ff0"), looks := false }, kinds := [], alts := [], laidByText := true, laidKinds := [.data], laidTests := true, laidLooks := .later }
def FnExactValidPatternCardSaid : Prop := Claim7.holds Tryz.pinned (.plain (OpenSpec.ofChange fnExactValidPatternSpec)) fnExactValidPatternCard

/-- THE TIED CARD OF 'laws.FnExactPointOf'. -/
def fnExactPointOfCard : Claim7 := { stood := { row := fnExactPointOfRow, standIns := [], harness := (true, "9fa90172d919e955893778f67b6e0950d1194ed41fb8844638f5df1489f67ff0"), looks := false }, kinds := [], alts := [], laidByText := true, laidKinds := [.data], laidTests := true, laidLooks := .later }
def FnExactPointOfCardSaid : Prop := Claim7.holds Tryz.pinned (.plain (OpenSpec.ofChange fnExactPointOfSpec)) fnExactPointOfCard

/-- THE TIED CARD OF 'laws.FnExactCreaseBetween'. -/
def fnExactCreaseBetweenCard : Claim7 := { stood := { row := fnExactCreaseBetweenRow, standIns := [], harness := (true, "9fa90172d919e955893778f67b6e0950d1194ed41fb8844638f5df1489f67ff0"), looks := false }, kinds := [], alts := [], laidByText := true, laidKinds := [.data], laidTests := true, laidLooks := .later }
def FnExactCreaseBetweenCardSaid : Prop := Claim7.holds Tryz.pinned (.plain (OpenSpec.ofChange fnExactCreaseBetweenSpec)) fnExactCreaseBetweenCard

/-- THE TIED CARD OF 'laws.FnExactComparePatterns'. -/
def fnExactComparePatternsCard : Claim7 := { stood := { row := fnExactComparePatternsRow, standIns := [], harness := (true, "9fa90172d919e955893778f67b6e0950d1194ed41fb8844638f5df1489f67ff0"), looks := false }, kinds := [], alts := [], laidByText := true, laidKinds := [.data], laidTests := true, laidLooks := .later }
def FnExactComparePatternsCardSaid : Prop := Claim7.holds Tryz.pinned (.plain (OpenSpec.ofChange fnExactComparePatternsSpec)) fnExactComparePatternsCard

/-- THE TIED CARD OF 'laws.FnExactPaperOf'. -/
def fnExactPaperOfCard : Claim7 := { stood := { row := fnExactPaperOfRow, standIns := [], harness := (true, "9fa90172d919e955893778f67b6e0950d1194ed41fb8844638f5df1489f67ff0"), looks := false }, kinds := [], alts := [], laidByText := true, laidKinds := [.data], laidTests := true, laidLooks := .later }
def FnExactPaperOfCardSaid : Prop := Claim7.holds Tryz.pinned (.plain (OpenSpec.ofChange fnExactPaperOfSpec)) fnExactPaperOfCard

/-- THE TIED CARD OF 'laws.FnExactBorderOf'. -/
def fnExactBorderOfCard : Claim7 := { stood := { row := fnExactBorderOfRow, standIns := [], harness := (true, "9fa90172d919e955893778f67b6e0950d1194ed41fb8844638f5df1489f67ff0"), looks := false }, kinds := [], alts := [], laidByText := true, laidKinds := [.data], laidTests := true, laidLooks := .later }
def FnExactBorderOfCardSaid : Prop := Claim7.holds Tryz.pinned (.plain (OpenSpec.ofChange fnExactBorderOfSpec)) fnExactBorderOfCard

/-- THE TIED CARD OF 'laws.FnExactCountKinds'. -/
def fnExactCountKindsCard : Claim7 := { stood := { row := fnExactCountKindsRow, standIns := [], harness := (true, "9fa90172d919e955893778f67b6e0950d1194ed41fb8844638f5df1489f67ff0"), looks := false }, kinds := [], alts := [], laidByText := true, laidKinds := [.data], laidTests := true, laidLooks := .later }
def FnExactCountKindsCardSaid : Prop := Claim7.holds Tryz.pinned (.plain (OpenSpec.ofChange fnExactCountKindsSpec)) fnExactCountKindsCard

/-- THE TIED CARD OF 'laws.FnExactInteriorOf'. -/
def fnExactInteriorOfCard : Claim7 := { stood := { row := fnExactInteriorOfRow, standIns := [], harness := (true, "9fa90172d919e955893778f67b6e0950d1194ed41fb8844638f5df1489f67ff0"), looks := false }, kinds := [], alts := [], laidByText := true, laidKinds := [.data], laidTests := true, laidLooks := .later }
def FnExactInteriorOfCardSaid : Prop := Claim7.holds Tryz.pinned (.plain (OpenSpec.ofChange fnExactInteriorOfSpec)) fnExactInteriorOfCard

/-- THE SECOND FORM's CARD OF 'laws.FnExactValidPattern'. -/
def fnExactValidPatternUptoCard : Claim7 := { stood := { row := fnExactValidPatternUptoRow, standIns := [], harness := (true, "9fa90172d919e955893778f67b6e0950d1194ed41fb8844638f5df1489f67ff0"), looks := false }, kinds := [], alts := [], laidByText := true, laidKinds := [.data], laidTests := true, laidLooks := .later }
def FnExactValidPatternUptoCardSaid : Prop := Claim7.holds Tryz.pinned (.plain (OpenSpec.upto fnExactValidPatternSpec)) fnExactValidPatternUptoCard

/-- THE SECOND FORM's CARD OF 'laws.FnExactPointOf'. -/
def fnExactPointOfUptoCard : Claim7 := { stood := { row := fnExactPointOfUptoRow, standIns := [], harness := (true, "9fa90172d919e955893778f67b6e0950d1194ed41fb8844638f5df1489f67ff0"), looks := false }, kinds := [], alts := [], laidByText := true, laidKinds := [.data], laidTests := true, laidLooks := .later }
def FnExactPointOfUptoCardSaid : Prop := Claim7.holds Tryz.pinned (.plain (OpenSpec.upto fnExactPointOfSpec)) fnExactPointOfUptoCard

/-- THE SECOND FORM's CARD OF 'laws.FnExactCreaseBetween'. -/
def fnExactCreaseBetweenUptoCard : Claim7 := { stood := { row := fnExactCreaseBetweenUptoRow, standIns := [], harness := (true, "9fa90172d919e955893778f67b6e0950d1194ed41fb8844638f5df1489f67ff0"), looks := false }, kinds := [], alts := [], laidByText := true, laidKinds := [.data], laidTests := true, laidLooks := .later }
def FnExactCreaseBetweenUptoCardSaid : Prop := Claim7.holds Tryz.pinned (.plain (OpenSpec.upto fnExactCreaseBetweenSpec)) fnExactCreaseBetweenUptoCard

/-- THE SECOND FORM's CARD OF 'laws.FnExactComparePatterns'. -/
def fnExactComparePatternsUptoCard : Claim7 := { stood := { row := fnExactComparePatternsUptoRow, standIns := [], harness := (true, "9fa90172d919e955893778f67b6e0950d1194ed41fb8844638f5df1489f67ff0"), looks := false }, kinds := [], alts := [], laidByText := true, laidKinds := [.data], laidTests := true, laidLooks := .later }
def FnExactComparePatternsUptoCardSaid : Prop := Claim7.holds Tryz.pinned (.plain (OpenSpec.upto fnExactComparePatternsSpec)) fnExactComparePatternsUptoCard

/-- THE SECOND FORM's CARD OF 'laws.FnExactPaperOf'. -/
def fnExactPaperOfUptoCard : Claim7 := { stood := { row := fnExactPaperOfUptoRow, standIns := [], harness := (true, "9fa90172d919e955893778f67b6e0950d1194ed41fb8844638f5df1489f67ff0"), looks := false }, kinds := [], alts := [], laidByText := true, laidKinds := [.data], laidTests := true, laidLooks := .later }
def FnExactPaperOfUptoCardSaid : Prop := Claim7.holds Tryz.pinned (.plain (OpenSpec.upto fnExactPaperOfSpec)) fnExactPaperOfUptoCard

/-- THE SECOND FORM's CARD OF 'laws.FnExactBorderOf'. -/
def fnExactBorderOfUptoCard : Claim7 := { stood := { row := fnExactBorderOfUptoRow, standIns := [], harness := (true, "9fa90172d919e955893778f67b6e0950d1194ed41fb8844638f5df1489f67ff0"), looks := false }, kinds := [], alts := [], laidByText := true, laidKinds := [.data], laidTests := true, laidLooks := .later }
def FnExactBorderOfUptoCardSaid : Prop := Claim7.holds Tryz.pinned (.plain (OpenSpec.upto fnExactBorderOfSpec)) fnExactBorderOfUptoCard

/-- THE SECOND FORM's CARD OF 'laws.FnExactCountKinds'. -/
def fnExactCountKindsUptoCard : Claim7 := { stood := { row := fnExactCountKindsUptoRow, standIns := [], harness := (true, "9fa90172d919e955893778f67b6e0950d1194ed41fb8844638f5df1489f67ff0"), looks := false }, kinds := [], alts := [], laidByText := true, laidKinds := [.data], laidTests := true, laidLooks := .later }
def FnExactCountKindsUptoCardSaid : Prop := Claim7.holds Tryz.pinned (.plain (OpenSpec.upto fnExactCountKindsSpec)) fnExactCountKindsUptoCard

/-- THE SECOND FORM's CARD OF 'laws.FnExactInteriorOf'. -/
def fnExactInteriorOfUptoCard : Claim7 := { stood := { row := fnExactInteriorOfUptoRow, standIns := [], harness := (true, "9fa90172d919e955893778f67b6e0950d1194ed41fb8844638f5df1489f67ff0"), looks := false }, kinds := [], alts := [], laidByText := true, laidKinds := [.data], laidTests := true, laidLooks := .later }
def FnExactInteriorOfUptoCardSaid : Prop := Claim7.holds Tryz.pinned (.plain (OpenSpec.upto fnExactInteriorOfSpec)) fnExactInteriorOfUptoCard
end Rows
end Go.Proofs.YtcclapmdkobcgaaGreatDoor
