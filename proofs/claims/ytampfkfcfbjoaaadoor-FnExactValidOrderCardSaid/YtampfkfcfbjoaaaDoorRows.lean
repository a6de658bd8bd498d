/-
  NARROWER THAN 'FOR EVERY INPUT', by the rows' own cells (each row's printed sentence says how): FnExactOverlapPolygons: laid · FnExactStartState: laid · FnExactCrossesPolygon: laid · FnExactCommonArea: laid · FnExactValidOrder: laid.
  DERIVED. THE GIVEN ROWS OF THIS SEAT. 5 by the template 'for every input the law returns true; each argument reads behind the call as it read before'; 0 by the template 'total and deterministic' (their statements: YtampfkfcfbjoaaaDoorTotals.lean).
  GIVEN WITH THE SEED: the statements are not yours to turn. If you find one false, say at which input.
  Laid BY PROGRAM, IN A SANDBOX (cutbox-rows.mjs): the forced cells as the released guide's own fill.sh prints them over the translation 45ff17d7631a1c03… (all of the seat's roots in one cut). By AI agents, Wed Nov 11 2026. No macro, syntax, notation, axiom, sorry.
-/
import Derived.Test.YtampfkfcfbjoaaaDoorChecked
import GoSem.Claim
import GoSem.ClaimJoined
import GoSem.ClaimMapViews
import Derived.JoinedTies
import Derived.KernelRfl
namespace Go.Proofs.YtampfkfcfbjoaaaDoor
/- THE CELL 'sum', in the pinned program and in every row, IS THE sha256 OF THE DUMP (.gsa) THAT YtampfkfcfbjoaaaDoorProg.lean LOADS. Nothing in Lean hashes anything: it is a label: what it is worth is what the hold of that sum in a sandbox is worth. -/
noncomputable def Tryd.pinned : Pinned := { name := "ytampfkfcfbjoaaadoor", sum := "45ff17d7631a1c03bdfb8715712b1805315bd7086ff676fe497922c1bb8aecc0", checked := Tryd.checked }
namespace Rows
def none {H : Type} : Left H := { results := [], args := [] }

/- WHAT THE LISTED PACKAGE-LEVEL VARIABLES READ AS WHEN THE CALL BEGINS. Each datum BY PROGRAM (the guide's laid-datum.mjs) off the statement by which the dump's own 'gosem.cut.vars' lays the variable. In a bare row this is a premise. The card (YtampfkfcfbjoaaaDoorCards.lean) ties it to the program's text. -/
def laid_loop_example_g00857_impl_vectors {H : Type} : DataW H := .agg [.agg [.agg [.lit (.int .i64 1), .lit (.int .i64 0), .lit (.int .i64 0)], .agg [.lit (.int .i64 0), .lit (.int .i64 0), .lit (.int .i64 0)]], .agg [.agg [.lit (.int .i64 1), .lit (.int .i64 0), .lit (.int .i64 0)], .agg [.lit (.int .i64 (-1)), .lit (.int .i64 1), .lit (.int .i64 0)]], .agg [.agg [.lit (.int .i64 1), .lit (.int .i64 0), .lit (.int .i64 0)], .agg [.lit (.int .i64 1), .lit (.int .i64 0), .lit (.int .i64 0)]], .agg [.agg [.lit (.int .i64 (-1)), .lit (.int .i64 1), .lit (.int .i64 0)], .agg [.lit (.int .i64 1), .lit (.int .i64 0), .lit (.int .i64 0)]], .agg [.agg [.lit (.int .i64 0), .lit (.int .i64 0), .lit (.int .i64 0)], .agg [.lit (.int .i64 1), .lit (.int .i64 0), .lit (.int .i64 0)]], .agg [.agg [.lit (.int .i64 1), .lit (.int .i64 (-1)), .lit (.int .i64 0)], .agg [.lit (.int .i64 1), .lit (.int .i64 0), .lit (.int .i64 0)]], .agg [.agg [.lit (.int .i64 (-1)), .lit (.int .i64 0), .lit (.int .i64 0)], .agg [.lit (.int .i64 1), .lit (.int .i64 0), .lit (.int .i64 0)]], .agg [.agg [.lit (.int .i64 (-1)), .lit (.int .i64 0), .lit (.int .i64 0)], .agg [.lit (.int .i64 (-1)), .lit (.int .i64 1), .lit (.int .i64 0)]]]

/-- 'laws.FnExactOverlapPolygons': WHATEVER THE INPUT: true; the input reads as it did. -/
def fnExactOverlapPolygonsSpec : ChangeSpec := { name := "fnExactOverlapPolygons", vars := ["loop.example/g00857/impl.vectors"], fn := fun _ => fun
  | [d1, d2, g1] => { results := [.lit (.bool true)], args := [d1, d2], vars := [g1] }
  | _ => none }
def fnExactOverlapPolygonsRow : OpenClaim := { program := "ytampfkfcfbjoaaadoor", sum := "45ff17d7631a1c03bdfb8715712b1805315bd7086ff676fe497922c1bb8aecc0", func := "loop.example/g00857/laws.FnExactOverlapPolygons", spec := "fnExactOverlapPolygons", unfollowed := true, recurses := true, named := ["loop.example/g00857/impl.vectors"], apart := false, laid := [("loop.example/g00857/impl.vectors", laid_loop_example_g00857_impl_vectors)] }
def FnExactOverlapPolygonsSaid : Prop := fnExactOverlapPolygonsRow.holds Tryd.pinned (OpenSpec.ofChange fnExactOverlapPolygonsSpec)

/-- ITS FALSE NEIGHBOUR: 'it returns false'. Refute it at one input. -/
def fnExactOverlapPolygonsWrong : ChangeSpec := { name := "fnExactOverlapPolygons", vars := ["loop.example/g00857/impl.vectors"], fn := fun _ => fun
  | [d1, d2, g1] => { results := [.lit (.bool false)], args := [d1, d2], vars := [g1] }
  | _ => none }
def FnExactOverlapPolygonsWrongFalsely : Prop := fnExactOverlapPolygonsRow.holds Tryd.pinned (OpenSpec.ofChange fnExactOverlapPolygonsWrong)

/-- 'laws.FnExactStartState': WHATEVER THE INPUT: true; the input reads as it did. -/
def fnExactStartStateSpec : ChangeSpec := { name := "fnExactStartState", vars := ["loop.example/g00857/impl.vectors"], fn := fun _ => fun
  | [d, g1] => { results := [.lit (.bool true)], args := [d], vars := [g1] }
  | _ => none }
def fnExactStartStateRow : OpenClaim := { program := "ytampfkfcfbjoaaadoor", sum := "45ff17d7631a1c03bdfb8715712b1805315bd7086ff676fe497922c1bb8aecc0", func := "loop.example/g00857/laws.FnExactStartState", spec := "fnExactStartState", unfollowed := true, recurses := true, named := ["loop.example/g00857/impl.vectors"], apart := false, laid := [("loop.example/g00857/impl.vectors", laid_loop_example_g00857_impl_vectors)] }
def FnExactStartStateSaid : Prop := fnExactStartStateRow.holds Tryd.pinned (OpenSpec.ofChange fnExactStartStateSpec)

/-- ITS FALSE NEIGHBOUR: 'it returns false'. Refute it at one input. -/
def fnExactStartStateWrong : ChangeSpec := { name := "fnExactStartState", vars := ["loop.example/g00857/impl.vectors"], fn := fun _ => fun
  | [d, g1] => { results := [.lit (.bool false)], args := [d], vars := [g1] }
  | _ => none }
def FnExactStartStateWrongFalsely : Prop := fnExactStartStateRow.holds Tryd.pinned (OpenSpec.ofChange fnExactStartStateWrong)

/-- 'laws.FnExactCrossesPolygon': WHATEVER THE INPUT: true; the input reads as it did. -/
def fnExactCrossesPolygonSpec : ChangeSpec := { name := "fnExactCrossesPolygon", vars := ["loop.example/g00857/impl.vectors"], fn := fun _ => fun
  | [d1, d2, d3, g1] => { results := [.lit (.bool true)], args := [d1, d2, d3], vars := [g1] }
  | _ => none }
def fnExactCrossesPolygonRow : OpenClaim := { program := "ytampfkfcfbjoaaadoor", sum := "45ff17d7631a1c03bdfb8715712b1805315bd7086ff676fe497922c1bb8aecc0", func := "loop.example/g00857/laws.FnExactCrossesPolygon", spec := "fnExactCrossesPolygon", unfollowed := true, recurses := true, named := ["loop.example/g00857/impl.vectors"], apart := false, laid := [("loop.example/g00857/impl.vectors", laid_loop_example_g00857_impl_vectors)] }
def FnExactCrossesPolygonSaid : Prop := fnExactCrossesPolygonRow.holds Tryd.pinned (OpenSpec.ofChange fnExactCrossesPolygonSpec)

/-- ITS FALSE NEIGHBOUR: 'it returns false'. Refute it at one input. -/
def fnExactCrossesPolygonWrong : ChangeSpec := { name := "fnExactCrossesPolygon", vars := ["loop.example/g00857/impl.vectors"], fn := fun _ => fun
  | [d1, d2, d3, g1] => { results := [.lit (.bool false)], args := [d1, d2, d3], vars := [g1] }
  | _ => none }
def FnExactCrossesPolygonWrongFalsely : Prop := fnExactCrossesPolygonRow.holds Tryd.pinned (OpenSpec.ofChange fnExactCrossesPolygonWrong)

/-- 'laws.FnExactCommonArea': WHATEVER THE INPUT: true; the input reads as it did. -/
def fnExactCommonAreaSpec : ChangeSpec := { name := "fnExactCommonArea", vars := ["loop.example/g00857/impl.vectors"], fn := fun _ => fun
  | [d1, d2, g1] => { results := [.lit (.bool true)], args := [d1, d2], vars := [g1] }
  | _ => none }
def fnExactCommonAreaRow : OpenClaim := { program := "ytampfkfcfbjoaaadoor", sum := "45ff17d7631a1c03bdfb8715712b1805315bd7086ff676fe497922c1bb8aecc0", func := "loop.example/g00857/laws.FnExactCommonArea", spec := "fnExactCommonArea", unfollowed := true, recurses := true, named := ["loop.example/g00857/impl.vectors"], apart := false, laid := [("loop.example/g00857/impl.vectors", laid_loop_example_g00857_impl_vectors)] }
def FnExactCommonAreaSaid : Prop := fnExactCommonAreaRow.holds Tryd.pinned (OpenSpec.ofChange fnExactCommonAreaSpec)

/-- ITS FALSE NEIGHBOUR: 'it returns false'. Refute it at one input. -/
def fnExactCommonAreaWrong : ChangeSpec := { name := "fnExactCommonArea", vars := ["loop.example/g00857/impl.vectors"], fn := fun _ => fun
  | [d1, d2, g1] => { results := [.lit (.bool false)], args := [d1, d2], vars := [g1] }
  | _ => none }
def FnExactCommonAreaWrongFalsely : Prop := fnExactCommonAreaRow.holds Tryd.pinned (OpenSpec.ofChange fnExactCommonAreaWrong)

/-- 'laws.FnExactValidOrder': WHATEVER THE INPUT: true; the input reads as it did. -/
def fnExactValidOrderSpec : ChangeSpec := { name := "fnExactValidOrder", vars := ["loop.example/g00857/impl.vectors"], fn := fun _ => fun
  | [d1, d2, g1] => { results := [.lit (.bool true)], args := [d1, d2], vars := [g1] }
  | _ => none }
def fnExactValidOrderRow : OpenClaim := { program := "ytampfkfcfbjoaaadoor", sum := "45ff17d7631a1c03bdfb8715712b1805315bd7086ff676fe497922c1bb8aecc0", func := "loop.example/g00857/laws.FnExactValidOrder", spec := "fnExactValidOrder", unfollowed := true, recurses := true, named := ["loop.example/g00857/impl.vectors"], apart := false, laid := [("loop.example/g00857/impl.vectors", laid_loop_example_g00857_impl_vectors)] }
def FnExactValidOrderSaid : Prop := fnExactValidOrderRow.holds Tryd.pinned (OpenSpec.ofChange fnExactValidOrderSpec)

/-- ITS FALSE NEIGHBOUR: 'it returns false'. Refute it at one input. -/
def fnExactValidOrderWrong : ChangeSpec := { name := "fnExactValidOrder", vars := ["loop.example/g00857/impl.vectors"], fn := fun _ => fun
  | [d1, d2, g1] => { results := [.lit (.bool false)], args := [d1, d2], vars := [g1] }
  | _ => none }
def FnExactValidOrderWrongFalsely : Prop := fnExactValidOrderRow.holds Tryd.pinned (OpenSpec.ofChange fnExactValidOrderWrong)

/- THE SECOND FORM. 'bulk': how many values and letters a reading holds, each counted each time it is reached (what is shared counts as often as it is met; a slice's spare places count too). A statement '..UptoSaid' is the law's where the arguments, and the package variables that the reading takes, are together of bulk at most 1048576: NARROWER than '..Said'. Prove '..Said' where nothing that the law and all that it calls make is longer than what came in: it says more and counts as full. Else prove '..UptoSaid'. A law counts once. -/
mutual
def uptoBulk {H : Type} : DataW H → Nat
  | .lit (.string bytes) => bytes.length + 1
  | .lit _ => 1
  | .nil => 1
  | .ptr d => uptoBulk d + 1
  | .slice elems spare => uptoBulkAll elems + uptoBulkAll spare + 1
  | .agg parts => uptoBulkAll parts + 1
  | .iface _ d => uptoBulk d + 1
  | .map entries => uptoBulkEntries entries + 1
  | .held _ => 1
def uptoBulkAll {H : Type} : List (DataW H) → Nat
  | [] => 0
  | d :: r => uptoBulk d + uptoBulkAll r
def uptoBulkEntries {H : Type} : List (Lit × DataW H) → Nat
  | [] => 0
  | x :: r => uptoBulkEntry x + uptoBulkEntries r
def uptoBulkEntry {H : Type} : Lit × DataW H → Nat
  | (.string bytes, d) => bytes.length + uptoBulk d + 1
  | (_, d) => uptoBulk d + 1
 end
def uptoSmall : (H : Type) → List (DataW H) → Bool := fun _ ds => decide (uptoBulkAll ds ≤ 1048576)
def OpenSpec.upto (s : _root_.Go.ChangeSpec) : _root_.Go.OpenSpec := { _root_.Go.OpenSpec.ofChange s with cond := some uptoSmall }

/-- 'laws.FnExactOverlapPolygons', WHERE WHAT IT READS IS OF BULK AT MOST 1048576: true; the input reads as it did. -/
def fnExactOverlapPolygonsUptoRow : OpenClaim := { program := "ytampfkfcfbjoaaadoor", sum := "45ff17d7631a1c03bdfb8715712b1805315bd7086ff676fe497922c1bb8aecc0", func := "loop.example/g00857/laws.FnExactOverlapPolygons", spec := "fnExactOverlapPolygons", unfollowed := true, recurses := true, named := ["loop.example/g00857/impl.vectors"], apart := false, laid := [("loop.example/g00857/impl.vectors", laid_loop_example_g00857_impl_vectors)], narrowed := true }
def FnExactOverlapPolygonsUptoSaid : Prop := fnExactOverlapPolygonsUptoRow.holds Tryd.pinned (OpenSpec.upto fnExactOverlapPolygonsSpec)

/-- 'laws.FnExactStartState', WHERE WHAT IT READS IS OF BULK AT MOST 1048576: true; the input reads as it did. -/
def fnExactStartStateUptoRow : OpenClaim := { program := "ytampfkfcfbjoaaadoor", sum := "45ff17d7631a1c03bdfb8715712b1805315bd7086ff676fe497922c1bb8aecc0", func := "loop.example/g00857/laws.FnExactStartState", spec := "fnExactStartState", unfollowed := true, recurses := true, named := ["loop.example/g00857/impl.vectors"], apart := false, laid := [("loop.example/g00857/impl.vectors", laid_loop_example_g00857_impl_vectors)], narrowed := true }
def FnExactStartStateUptoSaid : Prop := fnExactStartStateUptoRow.holds Tryd.pinned (OpenSpec.upto fnExactStartStateSpec)

/-- 'laws.FnExactCrossesPolygon', WHERE WHAT IT READS IS OF BULK AT MOST 1048576: true; the input reads as it did. -/
def fnExactCrossesPolygonUptoRow : OpenClaim := { program := "ytampfkfcfbjoaaadoor", sum := "45ff17d7631a1c03bdfb8715712b1805315bd7086ff676fe497922c1bb8aecc0", func := "loop.example/g00857/laws.FnExactCrossesPolygon", spec := "fnExactCrossesPolygon", unfollowed := true, recurses := true, named := ["loop.example/g00857/impl.vectors"], apart := false, laid := [("loop.example/g00857/impl.vectors", laid_loop_example_g00857_impl_vectors)], narrowed := true }
def FnExactCrossesPolygonUptoSaid : Prop := fnExactCrossesPolygonUptoRow.holds Tryd.pinned (OpenSpec.upto fnExactCrossesPolygonSpec)

/-- 'laws.FnExactCommonArea', WHERE WHAT IT READS IS OF BULK AT MOST 1048576: true; the input reads as it did. -/
def fnExactCommonAreaUptoRow : OpenClaim := { program := "ytampfkfcfbjoaaadoor", sum := "45ff17d7631a1c03bdfb8715712b1805315bd7086ff676fe497922c1bb8aecc0", func := "loop.example/g00857/laws.FnExactCommonArea", spec := "fnExactCommonArea", unfollowed := true, recurses := true, named := ["loop.example/g00857/impl.vectors"], apart := false, laid := [("loop.example/g00857/impl.vectors", laid_loop_example_g00857_impl_vectors)], narrowed := true }
def FnExactCommonAreaUptoSaid : Prop := fnExactCommonAreaUptoRow.holds Tryd.pinned (OpenSpec.upto fnExactCommonAreaSpec)

/-- 'laws.FnExactValidOrder', WHERE WHAT IT READS IS OF BULK AT MOST 1048576: true; the input reads as it did. -/
def fnExactValidOrderUptoRow : OpenClaim := { program := "ytampfkfcfbjoaaadoor", sum := "45ff17d7631a1c03bdfb8715712b1805315bd7086ff676fe497922c1bb8aecc0", func := "loop.example/g00857/laws.FnExactValidOrder", spec := "fnExactValidOrder", unfollowed := true, recurses := true, named := ["loop.example/g00857/impl.vectors"], apart := false, laid := [("loop.example/g00857/impl.vectors", laid_loop_example_g00857_impl_vectors)], narrowed := true }
def FnExactValidOrderUptoSaid : Prop := fnExactValidOrderUptoRow.holds Tryd.pinned (OpenSpec.upto fnExactValidOrderSpec)

end Rows
end Go.Proofs.YtampfkfcfbjoaaaDoor
