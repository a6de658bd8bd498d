/-
  NARROWER THAN 'FOR EVERY INPUT', by the rows' own cells (each row's printed sentence says how): FnExactCreasesAt: laid · FnExactMaekawaAt: laid · FnExactKindsAt: laid · FnExactDirectionsAt: laid · FnExactPointsOn: laid · FnExactKawasakiAt: laid · FnExactSectorsAt: laid · FnExactRemoveCrease: laid · FnExactLittleAt: laid.
  DERIVED. THE GIVEN ROWS OF THIS SEAT. 9 by the template 'for every input the law returns true; each argument reads behind the call as it read before'; 0 by the template 'total and deterministic' (their statements: YtiipeibaiphmpaaGreatDoorTotals.lean).
  GIVEN WITH THE SEED: the statements are not yours to turn. If you find one false, say at which input.
  Laid BY PROGRAM, IN A SANDBOX (cutbox-rows.mjs): the forced cells as the released guide's own fill.sh prints them over the translation 28418889a9593503… (all of the seat's roots in one cut). By AI agents, Wed Nov 11 2026. No macro, syntax, notation, axiom, sorry.
-/
import Derived.Test.YtiipeibaiphmpaaGreatDoorChecked
import GoSem.Claim
import GoSem.ClaimJoined
import GoSem.ClaimMapViews
import Derived.JoinedTies
import Derived.KernelRfl
namespace Go.Proofs.YtiipeibaiphmpaaGreatDoor
/- THE CELL 'sum', in the pinned program and in every row, IS THE sha256 OF THE DUMP (.gsa) THAT YtiipeibaiphmpaaGreatDoorProg.lean LOADS. Nothing in Lean hashes anything: it is a label: what it is worth is what the hold of that sum in a sandbox is worth. -/
noncomputable def Tryz.pinned : Pinned := { name := "ytiipeibaiphmpaagreatdoor", sum := "28418889a9593503d87949a97f4c0dbc491f56e1cbd3bbf31ec4a672fedb847d", checked := Tryz.checked }
namespace Rows
def none {H : Type} : Left H := { results := [], args := [] }

/- WHAT THE LISTED PACKAGE-LEVEL VARIABLES READ AS WHEN THE CALL BEGINS. Each datum BY PROGRAM (the guide's laid-datum.mjs) off the statement by which the dump's own 'gosem.cut.vars' lays the variable. In a bare row this is a premise. The card (YtiipeibaiphmpaaGreatDoorCards.lean) ties it to the program's text. -/
def laid_loop_example_g00857_impl_vectors {H : Type} : DataW H := .agg [.agg [.agg [.lit (.int .i64 1), .lit (.int .i64 0), .lit (.int .i64 0)], .agg [.lit (.int .i64 0), .lit (.int .i64 0), .lit (.int .i64 0)]], .agg [.agg [.lit (.int .i64 1), .lit (.int .i64 0), .lit (.int .i64 0)], .agg [.lit (.int .i64 (-1)), .lit (.int .i64 1), .lit (.int .i64 0)]], .agg [.agg [.lit (.int .i64 1), .lit (.int .i64 0), .lit (.int .i64 0)], .agg [.lit (.int .i64 1), .lit (.int .i64 0), .lit (.int .i64 0)]], .agg [.agg [.lit (.int .i64 (-1)), .lit (.int .i64 1), .lit (.int .i64 0)], .agg [.lit (.int .i64 1), .lit (.int .i64 0), .lit (.int .i64 0)]], .agg [.agg [.lit (.int .i64 0), .lit (.int .i64 0), .lit (.int .i64 0)], .agg [.lit (.int .i64 1), .lit (.int .i64 0), .lit (.int .i64 0)]], .agg [.agg [.lit (.int .i64 1), .lit (.int .i64 (-1)), .lit (.int .i64 0)], .agg [.lit (.int .i64 1), .lit (.int .i64 0), .lit (.int .i64 0)]], .agg [.agg [.lit (.int .i64 (-1)), .lit (.int .i64 0), .lit (.int .i64 0)], .agg [.lit (.int .i64 1), .lit (.int .i64 0), .lit (.int .i64 0)]], .agg [.agg [.lit (.int .i64 (-1)), .lit (.int .i64 0), .lit (.int .i64 0)], .agg [.lit (.int .i64 (-1)), .lit (.int .i64 1), .lit (.int .i64 0)]]]

/-- 'laws.FnExactCreasesAt': WHATEVER THE INPUT: true; the input reads as it did. -/
def fnExactCreasesAtSpec : ChangeSpec := { name := "fnExactCreasesAt", vars := ["loop.example/g00857/impl.vectors"], fn := fun _ => fun
  | [d1, d2, g1] => { results := [.lit (.bool true)], args := [d1, d2], vars := [g1] }
  | _ => none }
def fnExactCreasesAtRow : OpenClaim := { program := "ytiipeibaiphmpaagreatdoor", sum := "28418889a9593503d87949a97f4c0dbc491f56e1cbd3bbf31ec4a672fedb847d", func := "loop.example/g00857/laws.FnExactCreasesAt", spec := "fnExactCreasesAt", unfollowed := true, recurses := true, named := ["loop.example/g00857/impl.vectors"], apart := false, laid := [("loop.example/g00857/impl.vectors", laid_loop_example_g00857_impl_vectors)] }
def FnExactCreasesAtSaid : Prop := fnExactCreasesAtRow.holds Tryz.pinned (OpenSpec.ofChange fnExactCreasesAtSpec)

/-- ITS FALSE NEIGHBOUR: 'it returns false'. Refute it at one input. -/
def fnExactCreasesAtWrong : ChangeSpec := { name := "fnExactCreasesAt", vars := ["loop.example/g00857/impl.vectors"], fn := fun _ => fun
  | [d1, d2, g1] => { results := [.lit (.bool false)], args := [d1, d2], vars := [g1] }
  | _ => none }
def FnExactCreasesAtWrongFalsely : Prop := fnExactCreasesAtRow.holds Tryz.pinned (OpenSpec.ofChange fnExactCreasesAtWrong)

/-- 'laws.FnExactMaekawaAt': WHATEVER THE INPUT: true; the input reads as it did. -/
def fnExactMaekawaAtSpec : ChangeSpec := { name := "fnExactMaekawaAt", vars := ["loop.example/g00857/impl.vectors"], fn := fun _ => fun
  | [d1, d2, g1] => { results := [.lit (.bool true)], args := [d1, d2], vars := [g1] }
  | _ => none }
def fnExactMaekawaAtRow : OpenClaim := { program := "ytiipeibaiphmpaagreatdoor", sum := "28418889a9593503d87949a97f4c0dbc491f56e1cbd3bbf31ec4a672fedb847d", func := "loop.example/g00857/laws.FnExactMaekawaAt", spec := "fnExactMaekawaAt", unfollowed := true, recurses := true, named := ["loop.example/g00857/impl.vectors"], apart := false, laid := [("loop.example/g00857/impl.vectors", laid_loop_example_g00857_impl_vectors)] }
def FnExactMaekawaAtSaid : Prop := fnExactMaekawaAtRow.holds Tryz.pinned (OpenSpec.ofChange fnExactMaekawaAtSpec)

/-- ITS FALSE NEIGHBOUR: 'it returns false'. Refute it at one input. -/
def fnExactMaekawaAtWrong : ChangeSpec := { name := "fnExactMaekawaAt", vars := ["loop.example/g00857/impl.vectors"], fn := fun _ => fun
  | [d1, d2, g1] => { results := [.lit (.bool false)], args := [d1, d2], vars := [g1] }
  | _ => none }
def FnExactMaekawaAtWrongFalsely : Prop := fnExactMaekawaAtRow.holds Tryz.pinned (OpenSpec.ofChange fnExactMaekawaAtWrong)

/-- 'laws.FnExactKindsAt': WHATEVER THE INPUT: true; the input reads as it did. -/
def fnExactKindsAtSpec : ChangeSpec := { name := "fnExactKindsAt", vars := ["loop.example/g00857/impl.vectors"], fn := fun _ => fun
  | [d1, d2, g1] => { results := [.lit (.bool true)], args := [d1, d2], vars := [g1] }
  | _ => none }
def fnExactKindsAtRow : OpenClaim := { program := "ytiipeibaiphmpaagreatdoor", sum := "28418889a9593503d87949a97f4c0dbc491f56e1cbd3bbf31ec4a672fedb847d", func := "loop.example/g00857/laws.FnExactKindsAt", spec := "fnExactKindsAt", unfollowed := true, recurses := true, named := ["loop.example/g00857/impl.vectors"], apart := false, laid := [("loop.example/g00857/impl.vectors", laid_loop_example_g00857_impl_vectors)] }
def FnExactKindsAtSaid : Prop := fnExactKindsAtRow.holds Tryz.pinned (OpenSpec.ofChange fnExactKindsAtSpec)

/-- ITS FALSE NEIGHBOUR: 'it returns false'. Refute it at one input. -/
def fnExactKindsAtWrong : ChangeSpec := { name := "fnExactKindsAt", vars := ["loop.example/g00857/impl.vectors"], fn := fun _ => fun
  | [d1, d2, g1] => { results := [.lit (.bool false)], args := [d1, d2], vars := [g1] }
  | _ => none }
def FnExactKindsAtWrongFalsely : Prop := fnExactKindsAtRow.holds Tryz.pinned (OpenSpec.ofChange fnExactKindsAtWrong)

/-- 'laws.FnExactDirectionsAt': WHATEVER THE INPUT: true; the input reads as it did. -/
def fnExactDirectionsAtSpec : ChangeSpec := { name := "fnExactDirectionsAt", vars := ["loop.example/g00857/impl.vectors"], fn := fun _ => fun
  | [d1, d2, g1] => { results := [.lit (.bool true)], args := [d1, d2], vars := [g1] }
  | _ => none }
def fnExactDirectionsAtRow : OpenClaim := { program := "ytiipeibaiphmpaagreatdoor", sum := "28418889a9593503d87949a97f4c0dbc491f56e1cbd3bbf31ec4a672fedb847d", func := "loop.example/g00857/laws.FnExactDirectionsAt", spec := "fnExactDirectionsAt", unfollowed := true, recurses := true, named := ["loop.example/g00857/impl.vectors"], apart := false, laid := [("loop.example/g00857/impl.vectors", laid_loop_example_g00857_impl_vectors)] }
def FnExactDirectionsAtSaid : Prop := fnExactDirectionsAtRow.holds Tryz.pinned (OpenSpec.ofChange fnExactDirectionsAtSpec)

/-- ITS FALSE NEIGHBOUR: 'it returns false'. Refute it at one input. -/
def fnExactDirectionsAtWrong : ChangeSpec := { name := "fnExactDirectionsAt", vars := ["loop.example/g00857/impl.vectors"], fn := fun _ => fun
  | [d1, d2, g1] => { results := [.lit (.bool false)], args := [d1, d2], vars := [g1] }
  | _ => none }
def FnExactDirectionsAtWrongFalsely : Prop := fnExactDirectionsAtRow.holds Tryz.pinned (OpenSpec.ofChange fnExactDirectionsAtWrong)

/-- 'laws.FnExactPointsOn': WHATEVER THE INPUT: true; the input reads as it did. -/
def fnExactPointsOnSpec : ChangeSpec := { name := "fnExactPointsOn", vars := ["loop.example/g00857/impl.vectors"], fn := fun _ => fun
  | [d1, d2, g1] => { results := [.lit (.bool true)], args := [d1, d2], vars := [g1] }
  | _ => none }
def fnExactPointsOnRow : OpenClaim := { program := "ytiipeibaiphmpaagreatdoor", sum := "28418889a9593503d87949a97f4c0dbc491f56e1cbd3bbf31ec4a672fedb847d", func := "loop.example/g00857/laws.FnExactPointsOn", spec := "fnExactPointsOn", unfollowed := true, recurses := true, named := ["loop.example/g00857/impl.vectors"], apart := false, laid := [("loop.example/g00857/impl.vectors", laid_loop_example_g00857_impl_vectors)] }
def FnExactPointsOnSaid : Prop := fnExactPointsOnRow.holds Tryz.pinned (OpenSpec.ofChange fnExactPointsOnSpec)

/-- ITS FALSE NEIGHBOUR: 'it returns false'. Refute it at one input. -/
def fnExactPointsOnWrong : ChangeSpec := { name := "fnExactPointsOn", vars := ["loop.example/g00857/impl.vectors"], fn := fun _ => fun
  | [d1, d2, g1] => { results := [.lit (.bool false)], args := [d1, d2], vars := [g1] }
  | _ => none }
def FnExactPointsOnWrongFalsely : Prop := fnExactPointsOnRow.holds Tryz.pinned (OpenSpec.ofChange fnExactPointsOnWrong)

/-- 'laws.FnExactKawasakiAt': WHATEVER THE INPUT: true; the input reads as it did. -/
def fnExactKawasakiAtSpec : ChangeSpec := { name := "fnExactKawasakiAt", vars := ["loop.example/g00857/impl.vectors"], fn := fun _ => fun
  | [d1, d2, g1] => { results := [.lit (.bool true)], args := [d1, d2], vars := [g1] }
  | _ => none }
def fnExactKawasakiAtRow : OpenClaim := { program := "ytiipeibaiphmpaagreatdoor", sum := "28418889a9593503d87949a97f4c0dbc491f56e1cbd3bbf31ec4a672fedb847d", func := "loop.example/g00857/laws.FnExactKawasakiAt", spec := "fnExactKawasakiAt", unfollowed := true, recurses := true, named := ["loop.example/g00857/impl.vectors"], apart := false, laid := [("loop.example/g00857/impl.vectors", laid_loop_example_g00857_impl_vectors)] }
def FnExactKawasakiAtSaid : Prop := fnExactKawasakiAtRow.holds Tryz.pinned (OpenSpec.ofChange fnExactKawasakiAtSpec)

/-- ITS FALSE NEIGHBOUR: 'it returns false'. Refute it at one input. -/
def fnExactKawasakiAtWrong : ChangeSpec := { name := "fnExactKawasakiAt", vars := ["loop.example/g00857/impl.vectors"], fn := fun _ => fun
  | [d1, d2, g1] => { results := [.lit (.bool false)], args := [d1, d2], vars := [g1] }
  | _ => none }
def FnExactKawasakiAtWrongFalsely : Prop := fnExactKawasakiAtRow.holds Tryz.pinned (OpenSpec.ofChange fnExactKawasakiAtWrong)

/-- 'laws.FnExactSectorsAt': WHATEVER THE INPUT: true; the input reads as it did. -/
def fnExactSectorsAtSpec : ChangeSpec := { name := "fnExactSectorsAt", vars := ["loop.example/g00857/impl.vectors"], fn := fun _ => fun
  | [d1, d2, g1] => { results := [.lit (.bool true)], args := [d1, d2], vars := [g1] }
  | _ => none }
def fnExactSectorsAtRow : OpenClaim := { program := "ytiipeibaiphmpaagreatdoor", sum := "28418889a9593503d87949a97f4c0dbc491f56e1cbd3bbf31ec4a672fedb847d", func := "loop.example/g00857/laws.FnExactSectorsAt", spec := "fnExactSectorsAt", unfollowed := true, recurses := true, named := ["loop.example/g00857/impl.vectors"], apart := false, laid := [("loop.example/g00857/impl.vectors", laid_loop_example_g00857_impl_vectors)] }
def FnExactSectorsAtSaid : Prop := fnExactSectorsAtRow.holds Tryz.pinned (OpenSpec.ofChange fnExactSectorsAtSpec)

/-- ITS FALSE NEIGHBOUR: 'it returns false'. Refute it at one input. -/
def fnExactSectorsAtWrong : ChangeSpec := { name := "fnExactSectorsAt", vars := ["loop.example/g00857/impl.vectors"], fn := fun _ => fun
  | [d1, d2, g1] => { results := [.lit (.bool false)], args := [d1, d2], vars := [g1] }
  | _ => none }
def FnExactSectorsAtWrongFalsely : Prop := fnExactSectorsAtRow.holds Tryz.pinned (OpenSpec.ofChange fnExactSectorsAtWrong)

/-- 'laws.FnExactRemoveCrease': WHATEVER THE INPUT: true; the input reads as it did. -/
def fnExactRemoveCreaseSpec : ChangeSpec := { name := "fnExactRemoveCrease", vars := ["loop.example/g00857/impl.vectors"], fn := fun _ => fun
  | [d1, d2, g1] => { results := [.lit (.bool true)], args := [d1, d2], vars := [g1] }
  | _ => none }
def fnExactRemoveCreaseRow : OpenClaim := { program := "ytiipeibaiphmpaagreatdoor", sum := "28418889a9593503d87949a97f4c0dbc491f56e1cbd3bbf31ec4a672fedb847d", func := "loop.example/g00857/laws.FnExactRemoveCrease", spec := "fnExactRemoveCrease", unfollowed := true, recurses := true, named := ["loop.example/g00857/impl.vectors"], apart := false, laid := [("loop.example/g00857/impl.vectors", laid_loop_example_g00857_impl_vectors)] }
def FnExactRemoveCreaseSaid : Prop := fnExactRemoveCreaseRow.holds Tryz.pinned (OpenSpec.ofChange fnExactRemoveCreaseSpec)

/-- ITS FALSE NEIGHBOUR: 'it returns false'. Refute it at one input. -/
def fnExactRemoveCreaseWrong : ChangeSpec := { name := "fnExactRemoveCrease", vars := ["loop.example/g00857/impl.vectors"], fn := fun _ => fun
  | [d1, d2, g1] => { results := [.lit (.bool false)], args := [d1, d2], vars := [g1] }
  | _ => none }
def FnExactRemoveCreaseWrongFalsely : Prop := fnExactRemoveCreaseRow.holds Tryz.pinned (OpenSpec.ofChange fnExactRemoveCreaseWrong)

/-- 'laws.FnExactLittleAt': WHATEVER THE INPUT: true; the input reads as it did. -/
def fnExactLittleAtSpec : ChangeSpec := { name := "fnExactLittleAt", vars := ["loop.example/g00857/impl.vectors"], fn := fun _ => fun
  | [d1, d2, g1] => { results := [.lit (.bool true)], args := [d1, d2], vars := [g1] }
  | _ => none }
def fnExactLittleAtRow : OpenClaim := { program := "ytiipeibaiphmpaagreatdoor", sum := "28418889a9593503d87949a97f4c0dbc491f56e1cbd3bbf31ec4a672fedb847d", func := "loop.example/g00857/laws.FnExactLittleAt", spec := "fnExactLittleAt", unfollowed := true, recurses := true, named := ["loop.example/g00857/impl.vectors"], apart := false, laid := [("loop.example/g00857/impl.vectors", laid_loop_example_g00857_impl_vectors)] }
def FnExactLittleAtSaid : Prop := fnExactLittleAtRow.holds Tryz.pinned (OpenSpec.ofChange fnExactLittleAtSpec)

/-- ITS FALSE NEIGHBOUR: 'it returns false'. Refute it at one input. -/
def fnExactLittleAtWrong : ChangeSpec := { name := "fnExactLittleAt", vars := ["loop.example/g00857/impl.vectors"], fn := fun _ => fun
  | [d1, d2, g1] => { results := [.lit (.bool false)], args := [d1, d2], vars := [g1] }
  | _ => none }
def FnExactLittleAtWrongFalsely : Prop := fnExactLittleAtRow.holds Tryz.pinned (OpenSpec.ofChange fnExactLittleAtWrong)

/- THE SECOND FORM. 'bulk': how many values and letters a reading holds, each counted each time it is reached (what is shared counts as often as it is met; a slice's spare places count too). A statement '..UptoSaid' is the law's where the arguments, and the package variables that the reading takes, are together of bulk at most 1048576: NARROWER than '..Said'. Prove '..Said' where nothing that the law and all that it calls make is longer than what came in: it says more and counts as full. Else prove '..UptoSaid'. A law counts once. -/
mutual
def uptoBulk {H : Type} : DataW H → Nat
  | .lit (.string bytes) => bytes.length + 1
  | .lit _ => 1
  | .nil => 1
  | .ptr d => uptoBulk d + 1
  | .slice elems spare => uptoBulkAll elems + uptoBulkAll spare + 1
  | .agg parts => uptoBulkAll parts + 1
  | .iface _ d => uptoBulk d + 1
  | .map entries => uptoBulkEntries entries + 1
  | .held _ => 1
def uptoBulkAll {H : Type} : List (DataW H) → Nat
  | [] => 0
  | d :: r => uptoBulk d + uptoBulkAll r
def uptoBulkEntries {H : Type} : List (Lit × DataW H) → Nat
  | [] => 0
  | x :: r => uptoBulkEntry x + uptoBulkEntries r
def uptoBulkEntry {H : Type} : Lit × DataW H → Nat
  | (.string bytes, d) => bytes.length + uptoBulk d + 1
  | (_, d) => uptoBulk d + 1
 end
def uptoSmall : (H : Type) → List (DataW H) → Bool := fun _ ds => decide (uptoBulkAll ds ≤ 1048576)
def OpenSpec.upto (s : _root_.Go.ChangeSpec) : _root_.Go.OpenSpec := { _root_.Go.OpenSpec.ofChange s with cond := some uptoSmall }

/-- 'laws.FnExactCreasesAt', WHERE WHAT IT READS IS OF BULK AT MOST 1048576: true; the input reads as it did. -/
def fnExactCreasesAtUptoRow : OpenClaim := { program := "ytiipeibaiphmpaagreatdoor", sum := "28418889a9593503d87949a97f4c0dbc491f56e1cbd3bbf31ec4a672fedb847d", func := "loop.example/g00857/laws.FnExactCreasesAt", spec := "fnExactCreasesAt", unfollowed := true, recurses := true, named := ["loop.example/g00857/impl.vectors"], apart := false, laid := [("loop.example/g00857/impl.vectors", laid_loop_example_g00857_impl_vectors)], narrowed := true }
def FnExactCreasesAtUptoSaid : Prop := fnExactCreasesAtUptoRow.holds Tryz.pinned (OpenSpec.upto fnExactCreasesAtSpec)

/-- 'laws.FnExactMaekawaAt', WHERE WHAT IT READS IS OF BULK AT MOST 1048576: true; the input reads as it did. -/
def fnExactMaekawaAtUptoRow : OpenClaim := { program := "ytiipeibaiphmpaagreatdoor", sum := "28418889a9593503d87949a97f4c0dbc491f56e1cbd3bbf31ec4a672fedb847d", func := "loop.example/g00857/laws.FnExactMaekawaAt", spec := "fnExactMaekawaAt", unfollowed := true, recurses := true, named := ["loop.example/g00857/impl.vectors"], apart := false, laid := [("loop.example/g00857/impl.vectors", laid_loop_example_g00857_impl_vectors)], narrowed := true }
def FnExactMaekawaAtUptoSaid : Prop := fnExactMaekawaAtUptoRow.holds Tryz.pinned (OpenSpec.upto fnExactMaekawaAtSpec)

/-- 'laws.FnExactKindsAt', WHERE WHAT IT READS IS OF BULK AT MOST 1048576: true; the input reads as it did. -/
def fnExactKindsAtUptoRow : OpenClaim := { program := "ytiipeibaiphmpaagreatdoor", sum := "28418889a9593503d87949a97f4c0dbc491f56e1cbd3bbf31ec4a672fedb847d", func := "loop.example/g00857/laws.FnExactKindsAt", spec := "fnExactKindsAt", unfollowed := true, recurses := true, named := ["loop.example/g00857/impl.vectors"], apart := false, laid := [("loop.example/g00857/impl.vectors", laid_loop_example_g00857_impl_vectors)], narrowed := true }
def FnExactKindsAtUptoSaid : Prop := fnExactKindsAtUptoRow.holds Tryz.pinned (OpenSpec.upto fnExactKindsAtSpec)

/-- 'laws.FnExactDirectionsAt', WHERE WHAT IT READS IS OF BULK AT MOST 1048576: true; the input reads as it did. -/
def fnExactDirectionsAtUptoRow : OpenClaim := { program := "ytiipeibaiphmpaagreatdoor", sum := "28418889a9593503d87949a97f4c0dbc491f56e1cbd3bbf31ec4a672fedb847d", func := "loop.example/g00857/laws.FnExactDirectionsAt", spec := "fnExactDirectionsAt", unfollowed := true, recurses := true, named := ["loop.example/g00857/impl.vectors"], apart := false, laid := [("loop.example/g00857/impl.vectors", laid_loop_example_g00857_impl_vectors)], narrowed := true }
def FnExactDirectionsAtUptoSaid : Prop := fnExactDirectionsAtUptoRow.holds Tryz.pinned (OpenSpec.upto fnExactDirectionsAtSpec)

/-- 'laws.FnExactPointsOn', WHERE WHAT IT READS IS OF BULK AT MOST 1048576: true; the input reads as it did. -/
def fnExactPointsOnUptoRow : OpenClaim := { program := "ytiipeibaiphmpaagreatdoor", sum := "28418889a9593503d87949a97f4c0dbc491f56e1cbd3bbf31ec4a672fedb847d", func := "loop.example/g00857/laws.FnExactPointsOn", spec := "fnExactPointsOn", unfollowed := true, recurses := true, named := ["loop.example/g00857/impl.vectors"], apart := false, laid := [("loop.example/g00857/impl.vectors", laid_loop_example_g00857_impl_vectors)], narrowed := true }
def FnExactPointsOnUptoSaid : Prop := fnExactPointsOnUptoRow.holds Tryz.pinned (OpenSpec.upto fnExactPointsOnSpec)

/-- 'laws.FnExactKawasakiAt', WHERE WHAT IT READS IS OF BULK AT MOST 1048576: true; the input reads as it did. -/
def fnExactKawasakiAtUptoRow : OpenClaim := { program := "ytiipeibaiphmpaagreatdoor", sum := "28418889a9593503d87949a97f4c0dbc491f56e1cbd3bbf31ec4a672fedb847d", func := "loop.example/g00857/laws.FnExactKawasakiAt", spec := "fnExactKawasakiAt", unfollowed := true, recurses := true, named := ["loop.example/g00857/impl.vectors"], apart := false, laid := [("loop.example/g00857/impl.vectors", laid_loop_example_g00857_impl_vectors)], narrowed := true }
def FnExactKawasakiAtUptoSaid : Prop := fnExactKawasakiAtUptoRow.holds Tryz.pinned (OpenSpec.upto fnExactKawasakiAtSpec)

/-- 'laws.FnExactSectorsAt', WHERE WHAT IT READS IS OF BULK AT MOST 1048576: true; the input reads as it did. -/
def fnExactSectorsAtUptoRow : OpenClaim := { program := "ytiipeibaiphmpaagreatdoor", sum := "28418889a9593503d87949a97f4c0dbc491f56e1cbd3bbf31ec4a672fedb847d", func := "loop.example/g00857/laws.FnExactSectorsAt", spec := "fnExactSectorsAt", unfollowed := true, recurses := true, named := ["loop.example/g00857/impl.vectors"], apart := false, laid := [("loop.example/g00857/impl.vectors", laid_loop_example_g00857_impl_vectors)], narrowed := true }
def FnExactSectorsAtUptoSaid : Prop := fnExactSectorsAtUptoRow.holds Tryz.pinned (OpenSpec.upto fnExactSectorsAtSpec)

/-- 'laws.FnExactRemoveCrease', WHERE WHAT IT READS IS OF BULK AT MOST 1048576: true; the input reads as it did. -/
def fnExactRemoveCreaseUptoRow : OpenClaim := { program := "ytiipeibaiphmpaagreatdoor", sum := "28418889a9593503d87949a97f4c0dbc491f56e1cbd3bbf31ec4a672fedb847d", func := "loop.example/g00857/laws.FnExactRemoveCrease", spec := "fnExactRemoveCrease", unfollowed := true, recurses := true, named := ["loop.example/g00857/impl.vectors"], apart := false, laid := [("loop.example/g00857/impl.vectors", laid_loop_example_g00857_impl_vectors)], narrowed := true }
def FnExactRemoveCreaseUptoSaid : Prop := fnExactRemoveCreaseUptoRow.holds Tryz.pinned (OpenSpec.upto fnExactRemoveCreaseSpec)

/-- 'laws.FnExactLittleAt', WHERE WHAT IT READS IS OF BULK AT MOST 1048576: true; the input reads as it did. -/
def fnExactLittleAtUptoRow : OpenClaim := { program := "ytiipeibaiphmpaagreatdoor", sum := "28418889a9593503d87949a97f4c0dbc491f56e1cbd3bbf31ec4a672fedb847d", func := "loop.example/g00857/laws.FnExactLittleAt", spec := "fnExactLittleAt", unfollowed := true, recurses := true, named := ["loop.example/g00857/impl.vectors"], apart := false, laid := [("loop.example/g00857/impl.vectors", laid_loop_example_g00857_impl_vectors)], narrowed := true }
def FnExactLittleAtUptoSaid : Prop := fnExactLittleAtUptoRow.holds Tryz.pinned (OpenSpec.upto fnExactLittleAtSpec)

end Rows
end Go.Proofs.YtiipeibaiphmpaaGreatDoor
