/-
  NARROWER THAN 'FOR EVERY INPUT', by the rows' own cells (each row's printed sentence says how): FnExactValidPattern: laid · FnExactPointOf: laid · FnExactCreaseBetween: laid · FnExactComparePatterns: laid · FnExactPaperOf: laid · FnExactBorderOf: laid · FnExactCountKinds: laid · FnExactInteriorOf: laid.
  DERIVED. THE GIVEN ROWS OF THIS SEAT. 8 by the template 'for every input the law returns true; each argument reads behind the call as it read before'; 0 by the template 'total and deterministic' (their statements: YtcclapmdkobcgaaGreatDoorTotals.lean).
  GIVEN WITH THE SEED: the statements are not yours to turn. If you find one false, say at which input.
  Laid BY PROGRAM, IN A SANDBOX (cutbox-rows.mjs): the forced cells as the released guide's own fill.sh prints them over the translation d430277a4e6640d4… (all of the seat's roots in one cut). By AI agents, Wed Nov 11 2026. No macro, syntax, notation, axiom, sorry.
-/
import Derived.Test.YtcclapmdkobcgaaGreatDoorChecked
import GoSem.Claim
import GoSem.ClaimJoined
import GoSem.ClaimMapViews
import Derived.JoinedTies
import Derived.KernelRfl
namespace Go.Proofs.YtcclapmdkobcgaaGreatDoor
/- THE CELL 'sum', in the pinned program and in every row, IS THE sha256 OF THE DUMP (.gsa) THAT YtcclapmdkobcgaaGreatDoorProg.lean LOADS. Nothing in Lean hashes anything: it is a label: what it is worth is what the hold of that sum in a sandbox is worth. -/
noncomputable def Tryz.pinned : Pinned := { name := "ytcclapmdkobcgaagreatdoor", sum := "d430277a4e6640d4ff446c45ee118a6fbd51fbd19ecbc8d86f0407e394d1c4c6", checked := Tryz.checked }
namespace Rows
def none {H : Type} : Left H := { results := [], args := [] }

/- WHAT THE LISTED PACKAGE-LEVEL VARIABLES READ AS WHEN THE CALL BEGINS. Each datum BY PROGRAM (the guide's laid-datum.mjs) off the statement by which the dump's own 'gosem.cut.vars' lays the variable. In a bare row this is a premise. The card (YtcclapmdkobcgaaGreatDoorCards.lean) ties it to the program's text. -/
def laid_loop_example_g00857_impl_vectors {H : Type} : DataW H := .agg [.agg [.agg [.lit (.int .i64 1), .lit (.int .i64 0), .lit (.int .i64 0)], .agg [.lit (.int .i64 0), .lit (.int .i64 0), .lit (.int .i64 0)]], .agg [.agg [.lit (.int .i64 1), .lit (.int .i64 0), .lit (.int .i64 0)], .agg [.lit (.int .i64 (-1)), .lit (.int .i64 1), .lit (.int .i64 0)]], .agg [.agg [.lit (.int .i64 1), .lit (.int .i64 0), .lit (.int .i64 0)], .agg [.lit (.int .i64 1), .lit (.int .i64 0), .lit (.int .i64 0)]], .agg [.agg [.lit (.int .i64 (-1)), .lit (.int .i64 1), .lit (.int .i64 0)], .agg [.lit (.int .i64 1), .lit (.int .i64 0), .lit (.int .i64 0)]], .agg [.agg [.lit (.int .i64 0), .lit (.int .i64 0), .lit (.int .i64 0)], .agg [.lit (.int .i64 1), .lit (.int .i64 0), .lit (.int .i64 0)]], .agg [.agg [.lit (.int .i64 1), .lit (.int .i64 (-1)), .lit (.int .i64 0)], .agg [.lit (.int .i64 1), .lit (.int .i64 0), .lit (.int .i64 0)]], .agg [.agg [.lit (.int .i64 (-1)), .lit (.int .i64 0), .lit (.int .i64 0)], .agg [.lit (.int .i64 1), .lit (.int .i64 0), .lit (.int .i64 0)]], .agg [.agg [.lit (.int .i64 (-1)), .lit (.int .i64 0), .lit (.int .i64 0)], .agg [.lit (.int .i64 (-1)), .lit (.int .i64 1), .lit (.int .i64 0)]]]

/-- 'laws.FnExactValidPattern': WHATEVER THE INPUT: true; the input reads as it did. -/
def fnExactValidPatternSpec : ChangeSpec := { name := "fnExactValidPattern", vars := ["loop.example/g00857/impl.vectors"], fn := fun _ => fun
  | [d, g1] => { results := [.lit (.bool true)], args := [d], vars := [g1] }
  | _ => none }
def fnExactValidPatternRow : OpenClaim := { program := "ytcclapmdkobcgaagreatdoor", sum := "d430277a4e6640d4ff446c45ee118a6fbd51fbd19ecbc8d86f0407e394d1c4c6", func := "loop.example/g00857/laws.FnExactValidPattern", spec := "fnExactValidPattern", unfollowed := true, recurses := true, named := ["loop.example/g00857/impl.vectors"], apart := false, laid := [("loop.example/g00857/impl.vectors", laid_loop_example_g00857_impl_vectors)] }
def FnExactValidPatternSaid : Prop := fnExactValidPatternRow.holds Tryz.pinned (OpenSpec.ofChange fnExactValidPatternSpec)

/-- ITS FALSE NEIGHBOUR: 'it returns false'. Refute it at one input. -/
def fnExactValidPatternWrong : ChangeSpec := { name := "fnExactValidPattern", vars := ["loop.example/g00857/impl.vectors"], fn := fun _ => fun
  | [d, g1] => { results := [.lit (.bool false)], args := [d], vars := [g1] }
  | _ => none }
def FnExactValidPatternWrongFalsely : Prop := fnExactValidPatternRow.holds Tryz.pinned (OpenSpec.ofChange fnExactValidPatternWrong)

/-- 'laws.FnExactPointOf': WHATEVER THE INPUT: true; the input reads as it did. -/
def fnExactPointOfSpec : ChangeSpec := { name := "fnExactPointOf", vars := ["loop.example/g00857/impl.vectors"], fn := fun _ => fun
  | [d1, d2, g1] => { results := [.lit (.bool true)], args := [d1, d2], vars := [g1] }
  | _ => none }
def fnExactPointOfRow : OpenClaim := { program := "ytcclapmdkobcgaagreatdoor", sum := "d430277a4e6640d4ff446c45ee118a6fbd51fbd19ecbc8d86f0407e394d1c4c6", func := "loop.example/g00857/laws.FnExactPointOf", spec := "fnExactPointOf", unfollowed := true, recurses := true, named := ["loop.example/g00857/impl.vectors"], apart := false, laid := [("loop.example/g00857/impl.vectors", laid_loop_example_g00857_impl_vectors)] }
def FnExactPointOfSaid : Prop := fnExactPointOfRow.holds Tryz.pinned (OpenSpec.ofChange fnExactPointOfSpec)

/-- ITS FALSE NEIGHBOUR: 'it returns false'. Refute it at one input. -/
def fnExactPointOfWrong : ChangeSpec := { name := "fnExactPointOf", vars := ["loop.example/g00857/impl.vectors"], fn := fun _ => fun
  | [d1, d2, g1] => { results := [.lit (.bool false)], args := [d1, d2], vars := [g1] }
  | _ => none }
def FnExactPointOfWrongFalsely : Prop := fnExactPointOfRow.holds Tryz.pinned (OpenSpec.ofChange fnExactPointOfWrong)

/-- 'laws.FnExactCreaseBetween': WHATEVER THE INPUT: true; the input reads as it did. -/
def fnExactCreaseBetweenSpec : ChangeSpec := { name := "fnExactCreaseBetween", vars := ["loop.example/g00857/impl.vectors"], fn := fun _ => fun
  | [d1, d2, d3, g1] => { results := [.lit (.bool true)], args := [d1, d2, d3], vars := [g1] }
  | _ => none }
def fnExactCreaseBetweenRow : OpenClaim := { program := "ytcclapmdkobcgaagreatdoor", sum := "d430277a4e6640d4ff446c45ee118a6fbd51fbd19ecbc8d86f0407e394d1c4c6", func := "loop.example/g00857/laws.FnExactCreaseBetween", spec := "fnExactCreaseBetween", unfollowed := true, recurses := true, named := ["loop.example/g00857/impl.vectors"], apart := false, laid := [("loop.example/g00857/impl.vectors", laid_loop_example_g00857_impl_vectors)] }
def FnExactCreaseBetweenSaid : Prop := fnExactCreaseBetweenRow.holds Tryz.pinned (OpenSpec.ofChange fnExactCreaseBetweenSpec)

/-- ITS FALSE NEIGHBOUR: 'it returns false'. Refute it at one input. -/
def fnExactCreaseBetweenWrong : ChangeSpec := { name := "fnExactCreaseBetween", vars := ["loop.example/g00857/impl.vectors"], fn := fun _ => fun
  | [d1, d2, d3, g1] => { results := [.lit (.bool false)], args := [d1, d2, d3], vars := [g1] }
  | _ => none }
def FnExactCreaseBetweenWrongFalsely : Prop := fnExactCreaseBetweenRow.holds Tryz.pinned (OpenSpec.ofChange fnExactCreaseBetweenWrong)

/-- 'laws.FnExactComparePatterns': WHATEVER THE INPUT: true; the input reads as it did. -/
def fnExactComparePatternsSpec : ChangeSpec := { name := "fnExactComparePatterns", vars := ["loop.example/g00857/impl.vectors"], fn := fun _ => fun
  | [d1, d2, g1] => { results := [.lit (.bool true)], args := [d1, d2], vars := [g1] }
  | _ => none }
def fnExactComparePatternsRow : OpenClaim := { program := "ytcclapmdkobcgaagreatdoor", sum := "d430277a4e6640d4ff446c45ee118a6fbd51fbd19ecbc8d86f0407e394d1c4c6", func := "loop.example/g00857/laws.FnExactComparePatterns", spec := "fnExactComparePatterns", unfollowed := true, recurses := true, named := ["loop.example/g00857/impl.vectors"], apart := false, laid := [("loop.example/g00857/impl.vectors", laid_loop_example_g00857_impl_vectors)] }
def FnExactComparePatternsSaid : Prop := fnExactComparePatternsRow.holds Tryz.pinned (OpenSpec.ofChange fnExactComparePatternsSpec)

/-- ITS FALSE NEIGHBOUR: 'it returns false'. Refute it at one input. -/
def fnExactComparePatternsWrong : ChangeSpec := { name := "fnExactComparePatterns", vars := ["loop.example/g00857/impl.vectors"], fn := fun _ => fun
  | [d1, d2, g1] => { results := [.lit (.bool false)], args := [d1, d2], vars := [g1] }
  | _ => none }
def FnExactComparePatternsWrongFalsely : Prop := fnExactComparePatternsRow.holds Tryz.pinned (OpenSpec.ofChange fnExactComparePatternsWrong)

/-- 'laws.FnExactPaperOf': WHATEVER THE INPUT: true; the input reads as it did. -/
def fnExactPaperOfSpec : ChangeSpec := { name := "fnExactPaperOf", vars := ["loop.example/g00857/impl.vectors"], fn := fun _ => fun
  | [d, g1] => { results := [.lit (.bool true)], args := [d], vars := [g1] }
  | _ => none }
def fnExactPaperOfRow : OpenClaim := { program := "ytcclapmdkobcgaagreatdoor", sum := "d430277a4e6640d4ff446c45ee118a6fbd51fbd19ecbc8d86f0407e394d1c4c6", func := "loop.example/g00857/laws.FnExactPaperOf", spec := "fnExactPaperOf", unfollowed := true, recurses := true, named := ["loop.example/g00857/impl.vectors"], apart := false, laid := [("loop.example/g00857/impl.vectors", laid_loop_example_g00857_impl_vectors)] }
def FnExactPaperOfSaid : Prop := fnExactPaperOfRow.holds Tryz.pinned (OpenSpec.ofChange fnExactPaperOfSpec)

/-- ITS FALSE NEIGHBOUR: 'it returns false'. Refute it at one input. -/
def fnExactPaperOfWrong : ChangeSpec := { name := "fnExactPaperOf", vars := ["loop.example/g00857/impl.vectors"], fn := fun _ => fun
  | [d, g1] => { results := [.lit (.bool false)], args := [d], vars := [g1] }
  | _ => none }
def FnExactPaperOfWrongFalsely : Prop := fnExactPaperOfRow.holds Tryz.pinned (OpenSpec.ofChange fnExactPaperOfWrong)

/-- 'laws.FnExactBorderOf': WHATEVER THE INPUT: true; the input reads as it did. -/
def fnExactBorderOfSpec : ChangeSpec := { name := "fnExactBorderOf", vars := ["loop.example/g00857/impl.vectors"], fn := fun _ => fun
  | [d, g1] => { results := [.lit (.bool true)], args := [d], vars := [g1] }
  | _ => none }
def fnExactBorderOfRow : OpenClaim := { program := "ytcclapmdkobcgaagreatdoor", sum := "d430277a4e6640d4ff446c45ee118a6fbd51fbd19ecbc8d86f0407e394d1c4c6", func := "loop.example/g00857/laws.FnExactBorderOf", spec := "fnExactBorderOf", unfollowed := true, recurses := true, named := ["loop.example/g00857/impl.vectors"], apart := false, laid := [("loop.example/g00857/impl.vectors", laid_loop_example_g00857_impl_vectors)] }
def FnExactBorderOfSaid : Prop := fnExactBorderOfRow.holds Tryz.pinned (OpenSpec.ofChange fnExactBorderOfSpec)

/-- ITS FALSE NEIGHBOUR: 'it returns false'. Refute it at one input. -/
def fnExactBorderOfWrong : ChangeSpec := { name := "fnExactBorderOf", vars := ["loop.example/g00857/impl.vectors"], fn := fun _ => fun
  | [d, g1] => { results := [.lit (.bool false)], args := [d], vars := [g1] }
  | _ => none }
def FnExactBorderOfWrongFalsely : Prop := fnExactBorderOfRow.holds Tryz.pinned (OpenSpec.ofChange fnExactBorderOfWrong)

/-- 'laws.FnExactCountKinds': WHATEVER THE INPUT: true; the input reads as it did. -/
def fnExactCountKindsSpec : ChangeSpec := { name := "fnExactCountKinds", vars := ["loop.example/g00857/impl.vectors"], fn := fun _ => fun
  | [d, g1] => { results := [.lit (.bool true)], args := [d], vars := [g1] }
  | _ => none }
def fnExactCountKindsRow : OpenClaim := { program := "ytcclapmdkobcgaagreatdoor", sum := "d430277a4e6640d4ff446c45ee118a6fbd51fbd19ecbc8d86f0407e394d1c4c6", func := "loop.example/g00857/laws.FnExactCountKinds", spec := "fnExactCountKinds", unfollowed := true, recurses := true, named := ["loop.example/g00857/impl.vectors"], apart := false, laid := [("loop.example/g00857/impl.vectors", laid_loop_example_g00857_impl_vectors)] }
def FnExactCountKindsSaid : Prop := fnExactCountKindsRow.holds Tryz.pinned (OpenSpec.ofChange fnExactCountKindsSpec)

/-- ITS FALSE NEIGHBOUR: 'it returns false'. Refute it at one input. -/
def fnExactCountKindsWrong : ChangeSpec := { name := "fnExactCountKinds", vars := ["loop.example/g00857/impl.vectors"], fn := fun _ => fun
  | [d, g1] => { results := [.lit (.bool false)], args := [d], vars := [g1] }
  | _ => none }
def FnExactCountKindsWrongFalsely : Prop := fnExactCountKindsRow.holds Tryz.pinned (OpenSpec.ofChange fnExactCountKindsWrong)

/-- 'laws.FnExactInteriorOf': WHATEVER THE INPUT: true; the input reads as it did. -/
def fnExactInteriorOfSpec : ChangeSpec := { name := "fnExactInteriorOf", vars := ["loop.example/g00857/impl.vectors"], fn := fun _ => fun
  | [d, g1] => { results := [.lit (.bool true)], args := [d], vars := [g1] }
  | _ => none }
def fnExactInteriorOfRow : OpenClaim := { program := "ytcclapmdkobcgaagreatdoor", sum := "d430277a4e6640d4ff446c45ee118a6fbd51fbd19ecbc8d86f0407e394d1c4c6", func := "loop.example/g00857/laws.FnExactInteriorOf", spec := "fnExactInteriorOf", unfollowed := true, recurses := true, named := ["loop.example/g00857/impl.vectors"], apart := false, laid := [("loop.example/g00857/impl.vectors", laid_loop_example_g00857_impl_vectors)] }
def FnExactInteriorOfSaid : Prop := fnExactInteriorOfRow.holds Tryz.pinned (OpenSpec.ofChange fnExactInteriorOfSpec)

/-- ITS FALSE NEIGHBOUR: 'it returns false'. Refute it at one input. -/
def fnExactInteriorOfWrong : ChangeSpec := { name := "fnExactInteriorOf", vars := ["loop.example/g00857/impl.vectors"], fn := fun _ => fun
  | [d, g1] => { results := [.lit (.bool false)], args := [d], vars := [g1] }
  | _ => none }
def FnExactInteriorOfWrongFalsely : Prop := fnExactInteriorOfRow.holds Tryz.pinned (OpenSpec.ofChange fnExactInteriorOfWrong)

/- THE SECOND FORM. 'bulk': how many values and letters a reading holds, each counted each time it is reached (what is shared counts as often as it is met; a slice's spare places count too). A statement '..UptoSaid' is the law's where the arguments, and the package variables that the reading takes, are together of bulk at most 1048576: NARROWER than '..Said'. Prove '..Said' where nothing that the law and all that it calls make is longer than what came in: it says more and counts as full. Else prove '..UptoSaid'. A law counts once. -/
mutual
def uptoBulk {H : Type} : DataW H → Nat
  | .lit (.string bytes) => bytes.length + 1
  | .lit _ => 1
  | .nil => 1
  | .ptr d => uptoBulk d + 1
  | .slice elems spare => uptoBulkAll elems + uptoBulkAll spare + 1
  | .agg parts => uptoBulkAll parts + 1
  | .iface _ d => uptoBulk d + 1
  | .map entries => uptoBulkEntries entries + 1
  | .held _ => 1
def uptoBulkAll {H : Type} : List (DataW H) → Nat
  | [] => 0
  | d :: r => uptoBulk d + uptoBulkAll r
def uptoBulkEntries {H : Type} : List (Lit × DataW H) → Nat
  | [] => 0
  | x :: r => uptoBulkEntry x + uptoBulkEntries r
def uptoBulkEntry {H : Type} : Lit × DataW H → Nat
  | (.string bytes, d) => bytes.length + uptoBulk d + 1
  | (_, d) => uptoBulk d + 1
 end
def uptoSmall : (H : Type) → List (DataW H) → Bool := fun _ ds => decide (uptoBulkAll ds ≤ 1048576)
def OpenSpec.upto (s : _root_.Go.ChangeSpec) : _root_.Go.OpenSpec := { _root_.Go.OpenSpec.ofChange s with cond := some uptoSmall }

/-- 'laws.FnExactValidPattern', WHERE WHAT IT READS IS OF BULK AT MOST 1048576: true; the input reads as it did. -/
def fnExactValidPatternUptoRow : OpenClaim := { program := "ytcclapmdkobcgaagreatdoor", sum := "d430277a4e6640d4ff446c45ee118a6fbd51fbd19ecbc8d86f0407e394d1c4c6", func := "loop.example/g00857/laws.FnExactValidPattern", spec := "fnExactValidPattern", unfollowed := true, recurses := true, named := ["loop.example/g00857/impl.vectors"], apart := false, laid := [("loop.example/g00857/impl.vectors", laid_loop_example_g00857_impl_vectors)], narrowed := true }
def FnExactValidPatternUptoSaid : Prop := fnExactValidPatternUptoRow.holds Tryz.pinned (OpenSpec.upto fnExactValidPatternSpec)

/-- 'laws.FnExactPointOf', WHERE WHAT IT READS IS OF BULK AT MOST 1048576: true; the input reads as it did. -/
def fnExactPointOfUptoRow : OpenClaim := { program := "ytcclapmdkobcgaagreatdoor", sum := "d430277a4e6640d4ff446c45ee118a6fbd51fbd19ecbc8d86f0407e394d1c4c6", func := "loop.example/g00857/laws.FnExactPointOf", spec := "fnExactPointOf", unfollowed := true, recurses := true, named := ["loop.example/g00857/impl.vectors"], apart := false, laid := [("loop.example/g00857/impl.vectors", laid_loop_example_g00857_impl_vectors)], narrowed := true }
def FnExactPointOfUptoSaid : Prop := fnExactPointOfUptoRow.holds Tryz.pinned (OpenSpec.upto fnExactPointOfSpec)

/-- 'laws.FnExactCreaseBetween', WHERE WHAT IT READS IS OF BULK AT MOST 1048576: true; the input reads as it did. -/
def fnExactCreaseBetweenUptoRow : OpenClaim := { program := "ytcclapmdkobcgaagreatdoor", sum := "d430277a4e6640d4ff446c45ee118a6fbd51fbd19ecbc8d86f0407e394d1c4c6", func := "loop.example/g00857/laws.FnExactCreaseBetween", spec := "fnExactCreaseBetween", unfollowed := true, recurses := true, named := ["loop.example/g00857/impl.vectors"], apart := false, laid := [("loop.example/g00857/impl.vectors", laid_loop_example_g00857_impl_vectors)], narrowed := true }
def FnExactCreaseBetweenUptoSaid : Prop := fnExactCreaseBetweenUptoRow.holds Tryz.pinned (OpenSpec.upto fnExactCreaseBetweenSpec)

/-- 'laws.FnExactComparePatterns', WHERE WHAT IT READS IS OF BULK AT MOST 1048576: true; the input reads as it did. -/
def fnExactComparePatternsUptoRow : OpenClaim := { program := "ytcclapmdkobcgaagreatdoor", sum := "d430277a4e6640d4ff446c45ee118a6fbd51fbd19ecbc8d86f0407e394d1c4c6", func := "loop.example/g00857/laws.FnExactComparePatterns", spec := "fnExactComparePatterns", unfollowed := true, recurses := true, named := ["loop.example/g00857/impl.vectors"], apart := false, laid := [("loop.example/g00857/impl.vectors", laid_loop_example_g00857_impl_vectors)], narrowed := true }
def FnExactComparePatternsUptoSaid : Prop := fnExactComparePatternsUptoRow.holds Tryz.pinned (OpenSpec.upto fnExactComparePatternsSpec)

/-- 'laws.FnExactPaperOf', WHERE WHAT IT READS IS OF BULK AT MOST 1048576: true; the input reads as it did. -/
def fnExactPaperOfUptoRow : OpenClaim := { program := "ytcclapmdkobcgaagreatdoor", sum := "d430277a4e6640d4ff446c45ee118a6fbd51fbd19ecbc8d86f0407e394d1c4c6", func := "loop.example/g00857/laws.FnExactPaperOf", spec := "fnExactPaperOf", unfollowed := true, recurses := true, named := ["loop.example/g00857/impl.vectors"], apart := false, laid := [("loop.example/g00857/impl.vectors", laid_loop_example_g00857_impl_vectors)], narrowed := true }
def FnExactPaperOfUptoSaid : Prop := fnExactPaperOfUptoRow.holds Tryz.pinned (OpenSpec.upto fnExactPaperOfSpec)

/-- 'laws.FnExactBorderOf', WHERE WHAT IT READS IS OF BULK AT MOST 1048576: true; the input reads as it did. -/
def fnExactBorderOfUptoRow : OpenClaim := { program := "ytcclapmdkobcgaagreatdoor", sum := "d430277a4e6640d4ff446c45ee118a6fbd51fbd19ecbc8d86f0407e394d1c4c6", func := "loop.example/g00857/laws.FnExactBorderOf", spec := "fnExactBorderOf", unfollowed := true, recurses := true, named := ["loop.example/g00857/impl.vectors"], apart := false, laid := [("loop.example/g00857/impl.vectors", laid_loop_example_g00857_impl_vectors)], narrowed := true }
def FnExactBorderOfUptoSaid : Prop := fnExactBorderOfUptoRow.holds Tryz.pinned (OpenSpec.upto fnExactBorderOfSpec)

/-- 'laws.FnExactCountKinds', WHERE WHAT IT READS IS OF BULK AT MOST 1048576: true; the input reads as it did. -/
def fnExactCountKindsUptoRow : OpenClaim := { program := "ytcclapmdkobcgaagreatdoor", sum := "d430277a4e6640d4ff446c45ee118a6fbd51fbd19ecbc8d86f0407e394d1c4c6", func := "loop.example/g00857/laws.FnExactCountKinds", spec := "fnExactCountKinds", unfollowed := true, recurses := true, named := ["loop.example/g00857/impl.vectors"], apart := false, laid := [("loop.example/g00857/impl.vectors", laid_loop_example_g00857_impl_vectors)], narrowed := true }
def FnExactCountKindsUptoSaid : Prop := fnExactCountKindsUptoRow.holds Tryz.pinned (OpenSpec.upto fnExactCountKindsSpec)

/-- 'laws.FnExactInteriorOf', WHERE WHAT IT READS IS OF BULK AT MOST 1048576: true; the input reads as it did. -/
def fnExactInteriorOfUptoRow : OpenClaim := { program := "ytcclapmdkobcgaagreatdoor", sum := "d430277a4e6640d4ff446c45ee118a6fbd51fbd19ecbc8d86f0407e394d1c4c6", func := "loop.example/g00857/laws.FnExactInteriorOf", spec := "fnExactInteriorOf", unfollowed := true, recurses := true, named := ["loop.example/g00857/impl.vectors"], apart := false, laid := [("loop.example/g00857/impl.vectors", laid_loop_example_g00857_impl_vectors)], narrowed := true }
def FnExactInteriorOfUptoSaid : Prop := fnExactInteriorOfUptoRow.holds Tryz.pinned (OpenSpec.upto fnExactInteriorOfSpec)

end Rows
end Go.Proofs.YtcclapmdkobcgaaGreatDoor
