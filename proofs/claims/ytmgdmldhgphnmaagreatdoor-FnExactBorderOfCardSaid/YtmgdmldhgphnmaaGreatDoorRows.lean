/-
  NARROWER THAN 'FOR EVERY INPUT', by the rows' own cells (each row's printed sentence says how): FnExactBorderOf: laid · FnExactPatternText: laid · FnExactCreasesAt: laid · FnExactMaekawaAt: laid · FnExactKindsAt: laid · FnExactDirectionsAt: laid · FnExactPointsOn: laid · FnExactKawasakiAt: laid · FnExactSectorsAt: laid · FnExactRemoveCrease: laid · FnExactFaceAt: laid · FnExactLittleAt: laid.
  DERIVED. THE GIVEN ROWS OF THIS SEAT. 12 by the template 'for every input the law returns true; each argument reads behind the call as it read before'; 0 by the template 'total and deterministic' (their statements: YtmgdmldhgphnmaaGreatDoorTotals.lean).
  GIVEN WITH THE SEED: the statements are not yours to turn. If you find one false, say at which input.
  Laid BY PROGRAM, IN A SANDBOX (cutbox-rows.mjs): the forced cells as the released guide's own fill.sh prints them over the translation 23494ee06a1cbabd… (all of the seat's roots in one cut). By AI agents, Wed Nov 11 2026. No macro, syntax, notation, axiom, sorry.
-/
import Derived.Test.YtmgdmldhgphnmaaGreatDoorChecked
import GoSem.Claim
import GoSem.ClaimJoined
import GoSem.ClaimMapViews
import Derived.JoinedTies
import Derived.KernelRfl
namespace Go.Proofs.YtmgdmldhgphnmaaGreatDoor
/- THE CELL 'sum', in the pinned program and in every row, IS THE sha256 OF THE DUMP (.gsa) THAT YtmgdmldhgphnmaaGreatDoorProg.lean LOADS. Nothing in Lean hashes anything: it is a label: what it is worth is what the hold of that sum in a sandbox is worth. -/
noncomputable def Tryz.pinned : Pinned := { name := "ytmgdmldhgphnmaagreatdoor", sum := "23494ee06a1cbabd40fcf5cf7aef5e7419d52bb7b4e72a337b104637639b77a0", checked := Tryz.checked }
namespace Rows
def none {H : Type} : Left H := { results := [], args := [] }

/- WHAT THE LISTED PACKAGE-LEVEL VARIABLES READ AS WHEN THE CALL BEGINS. Each datum BY PROGRAM (the guide's laid-datum.mjs) off the statement by which the dump's own 'gosem.cut.vars' lays the variable. In a bare row this is a premise. The card (YtmgdmldhgphnmaaGreatDoorCards.lean) ties it to the program's text. -/
def laid_loop_example_g00857_impl_vectors {H : Type} : DataW H := .agg [.agg [.agg [.lit (.int .i64 1), .lit (.int .i64 0), .lit (.int .i64 0)], .agg [.lit (.int .i64 0), .lit (.int .i64 0), .lit (.int .i64 0)]], .agg [.agg [.lit (.int .i64 1), .lit (.int .i64 0), .lit (.int .i64 0)], .agg [.lit (.int .i64 (-1)), .lit (.int .i64 1), .lit (.int .i64 0)]], .agg [.agg [.lit (.int .i64 1), .lit (.int .i64 0), .lit (.int .i64 0)], .agg [.lit (.int .i64 1), .lit (.int .i64 0), .lit (.int .i64 0)]], .agg [.agg [.lit (.int .i64 (-1)), .lit (.int .i64 1), .lit (.int .i64 0)], .agg [.lit (.int .i64 1), .lit (.int .i64 0), .lit (.int .i64 0)]], .agg [.agg [.lit (.int .i64 0), .lit (.int .i64 0), .lit (.int .i64 0)], .agg [.lit (.int .i64 1), .lit (.int .i64 0), .lit (.int .i64 0)]], .agg [.agg [.lit (.int .i64 1), .lit (.int .i64 (-1)), .lit (.int .i64 0)], .agg [.lit (.int .i64 1), .lit (.int .i64 0), .lit (.int .i64 0)]], .agg [.agg [.lit (.int .i64 (-1)), .lit (.int .i64 0), .lit (.int .i64 0)], .agg [.lit (.int .i64 1), .lit (.int .i64 0), .lit (.int .i64 0)]], .agg [.agg [.lit (.int .i64 (-1)), .lit (.int .i64 0), .lit (.int .i64 0)], .agg [.lit (.int .i64 (-1)), .lit (.int .i64 1), .lit (.int .i64 0)]]]
def laid_math_bits_deBruijn32tab {H : Type} : DataW H := .agg [.lit (.int .u8 0), .lit (.int .u8 1), .lit (.int .u8 28), .lit (.int .u8 2), .lit (.int .u8 29), .lit (.int .u8 14), .lit (.int .u8 24), .lit (.int .u8 3), .lit (.int .u8 30), .lit (.int .u8 22), .lit (.int .u8 20), .lit (.int .u8 15), .lit (.int .u8 25), .lit (.int .u8 17), .lit (.int .u8 4), .lit (.int .u8 8), .lit (.int .u8 31), .lit (.int .u8 27), .lit (.int .u8 13), .lit (.int .u8 23), .lit (.int .u8 21), .lit (.int .u8 19), .lit (.int .u8 16), .lit (.int .u8 7), .lit (.int .u8 26), .lit (.int .u8 12), .lit (.int .u8 18), .lit (.int .u8 6), .lit (.int .u8 11), .lit (.int .u8 5), .lit (.int .u8 10), .lit (.int .u8 9)]
def laid_math_bits_deBruijn64tab {H : Type} : DataW H := .agg [.lit (.int .u8 0), .lit (.int .u8 1), .lit (.int .u8 56), .lit (.int .u8 2), .lit (.int .u8 57), .lit (.int .u8 49), .lit (.int .u8 28), .lit (.int .u8 3), .lit (.int .u8 61), .lit (.int .u8 58), .lit (.int .u8 42), .lit (.int .u8 50), .lit (.int .u8 38), .lit (.int .u8 29), .lit (.int .u8 17), .lit (.int .u8 4), .lit (.int .u8 62), .lit (.int .u8 47), .lit (.int .u8 59), .lit (.int .u8 36), .lit (.int .u8 45), .lit (.int .u8 43), .lit (.int .u8 51), .lit (.int .u8 22), .lit (.int .u8 53), .lit (.int .u8 39), .lit (.int .u8 33), .lit (.int .u8 30), .lit (.int .u8 24), .lit (.int .u8 18), .lit (.int .u8 12), .lit (.int .u8 5), .lit (.int .u8 63), .lit (.int .u8 55), .lit (.int .u8 48), .lit (.int .u8 27), .lit (.int .u8 60), .lit (.int .u8 41), .lit (.int .u8 37), .lit (.int .u8 16), .lit (.int .u8 46), .lit (.int .u8 35), .lit (.int .u8 44), .lit (.int .u8 21), .lit (.int .u8 52), .lit (.int .u8 32), .lit (.int .u8 23), .lit (.int .u8 11), .lit (.int .u8 54), .lit (.int .u8 26), .lit (.int .u8 40), .lit (.int .u8 15), .lit (.int .u8 34), .lit (.int .u8 20), .lit (.int .u8 31), .lit (.int .u8 10), .lit (.int .u8 25), .lit (.int .u8 14), .lit (.int .u8 19), .lit (.int .u8 9), .lit (.int .u8 13), .lit (.int .u8 8), .lit (.int .u8 7), .lit (.int .u8 6)]
def laid_internal_strconv_uint64pow10 {H : Type} : DataW H := .agg [.lit (.int .u64 1), .lit (.int .u64 10), .lit (.int .u64 100), .lit (.int .u64 1000), .lit (.int .u64 10000), .lit (.int .u64 100000), .lit (.int .u64 1000000), .lit (.int .u64 10000000), .lit (.int .u64 100000000), .lit (.int .u64 1000000000), .lit (.int .u64 10000000000), .lit (.int .u64 100000000000), .lit (.int .u64 1000000000000), .lit (.int .u64 10000000000000), .lit (.int .u64 100000000000000), .lit (.int .u64 1000000000000000), .lit (.int .u64 10000000000000000), .lit (.int .u64 100000000000000000), .lit (.int .u64 1000000000000000000), .lit (.int .u64 10000000000000000000)]

/-- 'laws.FnExactBorderOf': WHATEVER THE INPUT: true; the input reads as it did. -/
def fnExactBorderOfSpec : ChangeSpec := { name := "fnExactBorderOf", vars := ["loop.example/g00857/impl.vectors"], fn := fun _ => fun
  | [d, g1] => { results := [.lit (.bool true)], args := [d], vars := [g1] }
  | _ => none }
def fnExactBorderOfRow : OpenClaim := { program := "ytmgdmldhgphnmaagreatdoor", sum := "23494ee06a1cbabd40fcf5cf7aef5e7419d52bb7b4e72a337b104637639b77a0", func := "loop.example/g00857/laws.FnExactBorderOf", spec := "fnExactBorderOf", unfollowed := true, recurses := true, named := ["loop.example/g00857/impl.vectors"], plainKeys := false, apart := false, laid := [("loop.example/g00857/impl.vectors", laid_loop_example_g00857_impl_vectors)] }
def FnExactBorderOfSaid : Prop := fnExactBorderOfRow.holds Tryz.pinned (OpenSpec.ofChange fnExactBorderOfSpec)

/-- ITS FALSE NEIGHBOUR: 'it returns false'. Refute it at one input. -/
def fnExactBorderOfWrong : ChangeSpec := { name := "fnExactBorderOf", vars := ["loop.example/g00857/impl.vectors"], fn := fun _ => fun
  | [d, g1] => { results := [.lit (.bool false)], args := [d], vars := [g1] }
  | _ => none }
def FnExactBorderOfWrongFalsely : Prop := fnExactBorderOfRow.holds Tryz.pinned (OpenSpec.ofChange fnExactBorderOfWrong)

/-- 'laws.FnExactPatternText': WHATEVER THE INPUT: true; the input reads as it did. -/
def fnExactPatternTextSpec : ChangeSpec := { name := "fnExactPatternText", vars := ["loop.example/g00857/impl.vectors"], fn := fun _ => fun
  | [d, g1] => { results := [.lit (.bool true)], args := [d], vars := [g1] }
  | _ => none }
def fnExactPatternTextRow : OpenClaim := { program := "ytmgdmldhgphnmaagreatdoor", sum := "23494ee06a1cbabd40fcf5cf7aef5e7419d52bb7b4e72a337b104637639b77a0", func := "loop.example/g00857/laws.FnExactPatternText", spec := "fnExactPatternText", inPlace := ["internal/abi.NoEscape", "internal/bytealg.MakeNoZero"], unfollowed := true, recurses := true, named := ["loop.example/g00857/impl.vectors", "internal/strconv.uint64pow10", "math/bits.deBruijn32tab", "math/bits.deBruijn64tab"], plainKeys := false, apart := false, laid := [("math/bits.deBruijn32tab", laid_math_bits_deBruijn32tab), ("math/bits.deBruijn64tab", laid_math_bits_deBruijn64tab), ("internal/strconv.uint64pow10", laid_internal_strconv_uint64pow10), ("loop.example/g00857/impl.vectors", laid_loop_example_g00857_impl_vectors)] }
def FnExactPatternTextSaid : Prop := fnExactPatternTextRow.holds Tryz.pinned (OpenSpec.ofChange fnExactPatternTextSpec)

/-- ITS FALSE NEIGHBOUR: 'it returns false'. Refute it at one input. -/
def fnExactPatternTextWrong : ChangeSpec := { name := "fnExactPatternText", vars := ["loop.example/g00857/impl.vectors"], fn := fun _ => fun
  | [d, g1] => { results := [.lit (.bool false)], args := [d], vars := [g1] }
  | _ => none }
def FnExactPatternTextWrongFalsely : Prop := fnExactPatternTextRow.holds Tryz.pinned (OpenSpec.ofChange fnExactPatternTextWrong)

/-- 'laws.FnExactCreasesAt': WHATEVER THE INPUT: true; the input reads as it did. -/
def fnExactCreasesAtSpec : ChangeSpec := { name := "fnExactCreasesAt", vars := ["loop.example/g00857/impl.vectors"], fn := fun _ => fun
  | [d1, d2, g1] => { results := [.lit (.bool true)], args := [d1, d2], vars := [g1] }
  | _ => none }
def fnExactCreasesAtRow : OpenClaim := { program := "ytmgdmldhgphnmaagreatdoor", sum := "23494ee06a1cbabd40fcf5cf7aef5e7419d52bb7b4e72a337b104637639b77a0", func := "loop.example/g00857/laws.FnExactCreasesAt", spec := "fnExactCreasesAt", unfollowed := true, recurses := true, named := ["loop.example/g00857/impl.vectors"], plainKeys := false, apart := false, laid := [("loop.example/g00857/impl.vectors", laid_loop_example_g00857_impl_vectors)] }
def FnExactCreasesAtSaid : Prop := fnExactCreasesAtRow.holds Tryz.pinned (OpenSpec.ofChange fnExactCreasesAtSpec)

/-- ITS FALSE NEIGHBOUR: 'it returns false'. Refute it at one input. -/
def fnExactCreasesAtWrong : ChangeSpec := { name := "fnExactCreasesAt", vars := ["loop.example/g00857/impl.vectors"], fn := fun _ => fun
  | [d1, d2, g1] => { results := [.lit (.bool false)], args := [d1, d2], vars := [g1] }
  | _ => none }
def FnExactCreasesAtWrongFalsely : Prop := fnExactCreasesAtRow.holds Tryz.pinned (OpenSpec.ofChange fnExactCreasesAtWrong)

/-- 'laws.FnExactMaekawaAt': WHATEVER THE INPUT: true; the input reads as it did. -/
def fnExactMaekawaAtSpec : ChangeSpec := { name := "fnExactMaekawaAt", vars := ["loop.example/g00857/impl.vectors"], fn := fun _ => fun
  | [d1, d2, g1] => { results := [.lit (.bool true)], args := [d1, d2], vars := [g1] }
  | _ => none }
def fnExactMaekawaAtRow : OpenClaim := { program := "ytmgdmldhgphnmaagreatdoor", sum := "23494ee06a1cbabd40fcf5cf7aef5e7419d52bb7b4e72a337b104637639b77a0", func := "loop.example/g00857/laws.FnExactMaekawaAt", spec := "fnExactMaekawaAt", unfollowed := true, recurses := true, named := ["loop.example/g00857/impl.vectors"], plainKeys := false, apart := false, laid := [("loop.example/g00857/impl.vectors", laid_loop_example_g00857_impl_vectors)] }
def FnExactMaekawaAtSaid : Prop := fnExactMaekawaAtRow.holds Tryz.pinned (OpenSpec.ofChange fnExactMaekawaAtSpec)

/-- ITS FALSE NEIGHBOUR: 'it returns false'. Refute it at one input. -/
def fnExactMaekawaAtWrong : ChangeSpec := { name := "fnExactMaekawaAt", vars := ["loop.example/g00857/impl.vectors"], fn := fun _ => fun
  | [d1, d2, g1] => { results := [.lit (.bool false)], args := [d1, d2], vars := [g1] }
  | _ => none }
def FnExactMaekawaAtWrongFalsely : Prop := fnExactMaekawaAtRow.holds Tryz.pinned (OpenSpec.ofChange fnExactMaekawaAtWrong)

/-- 'laws.FnExactKindsAt': WHATEVER THE INPUT: true; the input reads as it did. -/
def fnExactKindsAtSpec : ChangeSpec := { name := "fnExactKindsAt", vars := ["loop.example/g00857/impl.vectors"], fn := fun _ => fun
  | [d1, d2, g1] => { results := [.lit (.bool true)], args := [d1, d2], vars := [g1] }
  | _ => none }
def fnExactKindsAtRow : OpenClaim := { program := "ytmgdmldhgphnmaagreatdoor", sum := "23494ee06a1cbabd40fcf5cf7aef5e7419d52bb7b4e72a337b104637639b77a0", func := "loop.example/g00857/laws.FnExactKindsAt", spec := "fnExactKindsAt", unfollowed := true, recurses := true, named := ["loop.example/g00857/impl.vectors"], plainKeys := false, apart := false, laid := [("loop.example/g00857/impl.vectors", laid_loop_example_g00857_impl_vectors)] }
def FnExactKindsAtSaid : Prop := fnExactKindsAtRow.holds Tryz.pinned (OpenSpec.ofChange fnExactKindsAtSpec)

/-- ITS FALSE NEIGHBOUR: 'it returns false'. Refute it at one input. -/
def fnExactKindsAtWrong : ChangeSpec := { name := "fnExactKindsAt", vars := ["loop.example/g00857/impl.vectors"], fn := fun _ => fun
  | [d1, d2, g1] => { results := [.lit (.bool false)], args := [d1, d2], vars := [g1] }
  | _ => none }
def FnExactKindsAtWrongFalsely : Prop := fnExactKindsAtRow.holds Tryz.pinned (OpenSpec.ofChange fnExactKindsAtWrong)

/-- 'laws.FnExactDirectionsAt': WHATEVER THE INPUT: true; the input reads as it did. -/
def fnExactDirectionsAtSpec : ChangeSpec := { name := "fnExactDirectionsAt", vars := ["loop.example/g00857/impl.vectors"], fn := fun _ => fun
  | [d1, d2, g1] => { results := [.lit (.bool true)], args := [d1, d2], vars := [g1] }
  | _ => none }
def fnExactDirectionsAtRow : OpenClaim := { program := "ytmgdmldhgphnmaagreatdoor", sum := "23494ee06a1cbabd40fcf5cf7aef5e7419d52bb7b4e72a337b104637639b77a0", func := "loop.example/g00857/laws.FnExactDirectionsAt", spec := "fnExactDirectionsAt", unfollowed := true, recurses := true, named := ["loop.example/g00857/impl.vectors"], plainKeys := false, apart := false, laid := [("loop.example/g00857/impl.vectors", laid_loop_example_g00857_impl_vectors)] }
def FnExactDirectionsAtSaid : Prop := fnExactDirectionsAtRow.holds Tryz.pinned (OpenSpec.ofChange fnExactDirectionsAtSpec)

/-- ITS FALSE NEIGHBOUR: 'it returns false'. Refute it at one input. -/
def fnExactDirectionsAtWrong : ChangeSpec := { name := "fnExactDirectionsAt", vars := ["loop.example/g00857/impl.vectors"], fn := fun _ => fun
  | [d1, d2, g1] => { results := [.lit (.bool false)], args := [d1, d2], vars := [g1] }
  | _ => none }
def FnExactDirectionsAtWrongFalsely : Prop := fnExactDirectionsAtRow.holds Tryz.pinned (OpenSpec.ofChange fnExactDirectionsAtWrong)

/-- 'laws.FnExactPointsOn': WHATEVER THE INPUT: true; the input reads as it did. -/
def fnExactPointsOnSpec : ChangeSpec := { name := "fnExactPointsOn", vars := ["loop.example/g00857/impl.vectors"], fn := fun _ => fun
  | [d1, d2, g1] => { results := [.lit (.bool true)], args := [d1, d2], vars := [g1] }
  | _ => none }
def fnExactPointsOnRow : OpenClaim := { program := "ytmgdmldhgphnmaagreatdoor", sum := "23494ee06a1cbabd40fcf5cf7aef5e7419d52bb7b4e72a337b104637639b77a0", func := "loop.example/g00857/laws.FnExactPointsOn", spec := "fnExactPointsOn", unfollowed := true, recurses := true, named := ["loop.example/g00857/impl.vectors"], plainKeys := false, apart := false, laid := [("loop.example/g00857/impl.vectors", laid_loop_example_g00857_impl_vectors)] }
def FnExactPointsOnSaid : Prop := fnExactPointsOnRow.holds Tryz.pinned (OpenSpec.ofChange fnExactPointsOnSpec)

/-- ITS FALSE NEIGHBOUR: 'it returns false'. Refute it at one input. -/
def fnExactPointsOnWrong : ChangeSpec := { name := "fnExactPointsOn", vars := ["loop.example/g00857/impl.vectors"], fn := fun _ => fun
  | [d1, d2, g1] => { results := [.lit (.bool false)], args := [d1, d2], vars := [g1] }
  | _ => none }
def FnExactPointsOnWrongFalsely : Prop := fnExactPointsOnRow.holds Tryz.pinned (OpenSpec.ofChange fnExactPointsOnWrong)

/-- 'laws.FnExactKawasakiAt': WHATEVER THE INPUT: true; the input reads as it did. -/
def fnExactKawasakiAtSpec : ChangeSpec := { name := "fnExactKawasakiAt", vars := ["loop.example/g00857/impl.vectors"], fn := fun _ => fun
  | [d1, d2, g1] => { results := [.lit (.bool true)], args := [d1, d2], vars := [g1] }
  | _ => none }
def fnExactKawasakiAtRow : OpenClaim := { program := "ytmgdmldhgphnmaagreatdoor", sum := "23494ee06a1cbabd40fcf5cf7aef5e7419d52bb7b4e72a337b104637639b77a0", func := "loop.example/g00857/laws.FnExactKawasakiAt", spec := "fnExactKawasakiAt", unfollowed := true, recurses := true, named := ["loop.example/g00857/impl.vectors"], plainKeys := false, apart := false, laid := [("loop.example/g00857/impl.vectors", laid_loop_example_g00857_impl_vectors)] }
def FnExactKawasakiAtSaid : Prop := fnExactKawasakiAtRow.holds Tryz.pinned (OpenSpec.ofChange fnExactKawasakiAtSpec)

/-- ITS FALSE NEIGHBOUR: 'it returns false'. Refute it at one input. -/
def fnExactKawasakiAtWrong : ChangeSpec := { name := "fnExactKawasakiAt", vars := ["loop.example/g00857/impl.vectors"], fn := fun _ => fun
  | [d1, d2, g1] => { results := [.lit (.bool false)], args := [d1, d2], vars := [g1] }
  | _ => none }
def FnExactKawasakiAtWrongFalsely : Prop := fnExactKawasakiAtRow.holds Tryz.pinned (OpenSpec.ofChange fnExactKawasakiAtWrong)

/-- 'laws.FnExactSectorsAt': WHATEVER THE INPUT: true; the input reads as it did. -/
def fnExactSectorsAtSpec : ChangeSpec := { name := "fnExactSectorsAt", vars := ["loop.example/g00857/impl.vectors"], fn := fun _ => fun
  | [d1, d2, g1] => { results := [.lit (.bool true)], args := [d1, d2], vars := [g1] }
  | _ => none }
def fnExactSectorsAtRow : OpenClaim := { program := "ytmgdmldhgphnmaagreatdoor", sum := "23494ee06a1cbabd40fcf5cf7aef5e7419d52bb7b4e72a337b104637639b77a0", func := "loop.example/g00857/laws.FnExactSectorsAt", spec := "fnExactSectorsAt", unfollowed := true, recurses := true, named := ["loop.example/g00857/impl.vectors"], plainKeys := false, apart := false, laid := [("loop.example/g00857/impl.vectors", laid_loop_example_g00857_impl_vectors)] }
def FnExactSectorsAtSaid : Prop := fnExactSectorsAtRow.holds Tryz.pinned (OpenSpec.ofChange fnExactSectorsAtSpec)

/-- ITS FALSE NEIGHBOUR: 'it returns false'. Refute it at one input. -/
def fnExactSectorsAtWrong : ChangeSpec := { name := "fnExactSectorsAt", vars := ["loop.example/g00857/impl.vectors"], fn := fun _ => fun
  | [d1, d2, g1] => { results := [.lit (.bool false)], args := [d1, d2], vars := [g1] }
  | _ => none }
def FnExactSectorsAtWrongFalsely : Prop := fnExactSectorsAtRow.holds Tryz.pinned (OpenSpec.ofChange fnExactSectorsAtWrong)

/-- 'laws.FnExactRemoveCrease': WHATEVER THE INPUT: true; the input reads as it did. -/
def fnExactRemoveCreaseSpec : ChangeSpec := { name := "fnExactRemoveCrease", vars := ["loop.example/g00857/impl.vectors"], fn := fun _ => fun
  | [d1, d2, g1] => { results := [.lit (.bool true)], args := [d1, d2], vars := [g1] }
  | _ => none }
def fnExactRemoveCreaseRow : OpenClaim := { program := "ytmgdmldhgphnmaagreatdoor", sum := "23494ee06a1cbabd40fcf5cf7aef5e7419d52bb7b4e72a337b104637639b77a0", func := "loop.example/g00857/laws.FnExactRemoveCrease", spec := "fnExactRemoveCrease", unfollowed := true, recurses := true, named := ["loop.example/g00857/impl.vectors"], plainKeys := false, apart := false, laid := [("loop.example/g00857/impl.vectors", laid_loop_example_g00857_impl_vectors)] }
def FnExactRemoveCreaseSaid : Prop := fnExactRemoveCreaseRow.holds Tryz.pinned (OpenSpec.ofChange fnExactRemoveCreaseSpec)

/-- ITS FALSE NEIGHBOUR: 'it returns false'. Refute it at one input. -/
def fnExactRemoveCreaseWrong : ChangeSpec := { name := "fnExactRemoveCrease", vars := ["loop.example/g00857/impl.vectors"], fn := fun _ => fun
  | [d1, d2, g1] => { results := [.lit (.bool false)], args := [d1, d2], vars := [g1] }
  | _ => none }
def FnExactRemoveCreaseWrongFalsely : Prop := fnExactRemoveCreaseRow.holds Tryz.pinned (OpenSpec.ofChange fnExactRemoveCreaseWrong)

/-- 'laws.FnExactFaceAt': WHATEVER THE INPUT: true; the input reads as it did. -/
def fnExactFaceAtSpec : ChangeSpec := { name := "fnExactFaceAt", vars := ["loop.example/g00857/impl.vectors"], fn := fun _ => fun
  | [d1, d2, g1] => { results := [.lit (.bool true)], args := [d1, d2], vars := [g1] }
  | _ => none }
def fnExactFaceAtRow : OpenClaim := { program := "ytmgdmldhgphnmaagreatdoor", sum := "23494ee06a1cbabd40fcf5cf7aef5e7419d52bb7b4e72a337b104637639b77a0", func := "loop.example/g00857/laws.FnExactFaceAt", spec := "fnExactFaceAt", unfollowed := true, recurses := true, named := ["loop.example/g00857/impl.vectors"], plainKeys := false, apart := false, laid := [("loop.example/g00857/impl.vectors", laid_loop_example_g00857_impl_vectors)] }
def FnExactFaceAtSaid : Prop := fnExactFaceAtRow.holds Tryz.pinned (OpenSpec.ofChange fnExactFaceAtSpec)

/-- ITS FALSE NEIGHBOUR: 'it returns false'. Refute it at one input. -/
def fnExactFaceAtWrong : ChangeSpec := { name := "fnExactFaceAt", vars := ["loop.example/g00857/impl.vectors"], fn := fun _ => fun
  | [d1, d2, g1] => { results := [.lit (.bool false)], args := [d1, d2], vars := [g1] }
  | _ => none }
def FnExactFaceAtWrongFalsely : Prop := fnExactFaceAtRow.holds Tryz.pinned (OpenSpec.ofChange fnExactFaceAtWrong)

/-- 'laws.FnExactLittleAt': WHATEVER THE INPUT: true; the input reads as it did. -/
def fnExactLittleAtSpec : ChangeSpec := { name := "fnExactLittleAt", vars := ["loop.example/g00857/impl.vectors"], fn := fun _ => fun
  | [d1, d2, g1] => { results := [.lit (.bool true)], args := [d1, d2], vars := [g1] }
  | _ => none }
def fnExactLittleAtRow : OpenClaim := { program := "ytmgdmldhgphnmaagreatdoor", sum := "23494ee06a1cbabd40fcf5cf7aef5e7419d52bb7b4e72a337b104637639b77a0", func := "loop.example/g00857/laws.FnExactLittleAt", spec := "fnExactLittleAt", unfollowed := true, recurses := true, named := ["loop.example/g00857/impl.vectors"], plainKeys := false, apart := false, laid := [("loop.example/g00857/impl.vectors", laid_loop_example_g00857_impl_vectors)] }
def FnExactLittleAtSaid : Prop := fnExactLittleAtRow.holds Tryz.pinned (OpenSpec.ofChange fnExactLittleAtSpec)

/-- ITS FALSE NEIGHBOUR: 'it returns false'. Refute it at one input. -/
def fnExactLittleAtWrong : ChangeSpec := { name := "fnExactLittleAt", vars := ["loop.example/g00857/impl.vectors"], fn := fun _ => fun
  | [d1, d2, g1] => { results := [.lit (.bool false)], args := [d1, d2], vars := [g1] }
  | _ => none }
def FnExactLittleAtWrongFalsely : Prop := fnExactLittleAtRow.holds Tryz.pinned (OpenSpec.ofChange fnExactLittleAtWrong)

/- THE SECOND FORM. 'bulk': how many values and letters a reading holds, each counted each time it is reached (what is shared counts as often as it is met; a slice's spare places count too). A statement '..UptoSaid' is the law's where the arguments, and the package variables that the reading takes, are together of bulk at most 1048576: NARROWER than '..Said'. Prove '..Said' where nothing that the law and all that it calls make is longer than what came in: it says more and counts as full. Else prove '..UptoSaid'. A law counts once. -/
mutual
def uptoBulk {H : Type} : DataW H → Nat
  | .lit (.string bytes) => bytes.length + 1
  | .lit _ => 1
  | .nil => 1
  | .ptr d => uptoBulk d + 1
  | .slice elems spare => uptoBulkAll elems + uptoBulkAll spare + 1
  | .agg parts => uptoBulkAll parts + 1
  | .iface _ d => uptoBulk d + 1
  | .map entries => uptoBulkEntries entries + 1
  | .held _ => 1
def uptoBulkAll {H : Type} : List (DataW H) → Nat
  | [] => 0
  | d :: r => uptoBulk d + uptoBulkAll r
def uptoBulkEntries {H : Type} : List (Lit × DataW H) → Nat
  | [] => 0
  | x :: r => uptoBulkEntry x + uptoBulkEntries r
def uptoBulkEntry {H : Type} : Lit × DataW H → Nat
  | (.string bytes, d) => bytes.length + uptoBulk d + 1
  | (_, d) => uptoBulk d + 1
 end
def uptoSmall : (H : Type) → List (DataW H) → Bool := fun _ ds => decide (uptoBulkAll ds ≤ 1048576)
def OpenSpec.upto (s : _root_.Go.ChangeSpec) : _root_.Go.OpenSpec := { _root_.Go.OpenSpec.ofChange s with cond := some uptoSmall }

/-- 'laws.FnExactBorderOf', WHERE WHAT IT READS IS OF BULK AT MOST 1048576: true; the input reads as it did. -/
def fnExactBorderOfUptoRow : OpenClaim := { program := "ytmgdmldhgphnmaagreatdoor", sum := "23494ee06a1cbabd40fcf5cf7aef5e7419d52bb7b4e72a337b104637639b77a0", func := "loop.example/g00857/laws.FnExactBorderOf", spec := "fnExactBorderOf", unfollowed := true, recurses := true, named := ["loop.example/g00857/impl.vectors"], plainKeys := false, apart := false, laid := [("loop.example/g00857/impl.vectors", laid_loop_example_g00857_impl_vectors)], narrowed := true }
def FnExactBorderOfUptoSaid : Prop := fnExactBorderOfUptoRow.holds Tryz.pinned (OpenSpec.upto fnExactBorderOfSpec)

/-- 'laws.FnExactPatternText', WHERE WHAT IT READS IS OF BULK AT MOST 1048576: true; the input reads as it did. -/
def fnExactPatternTextUptoRow : OpenClaim := { program := "ytmgdmldhgphnmaagreatdoor", sum := "23494ee06a1cbabd40fcf5cf7aef5e7419d52bb7b4e72a337b104637639b77a0", func := "loop.example/g00857/laws.FnExactPatternText", spec := "fnExactPatternText", inPlace := ["internal/abi.NoEscape", "internal/bytealg.MakeNoZero"], unfollowed := true, recurses := true, named := ["loop.example/g00857/impl.vectors", "internal/strconv.uint64pow10", "math/bits.deBruijn32tab", "math/bits.deBruijn64tab"], plainKeys := false, apart := false, laid := [("math/bits.deBruijn32tab", laid_math_bits_deBruijn32tab), ("math/bits.deBruijn64tab", laid_math_bits_deBruijn64tab), ("internal/strconv.uint64pow10", laid_internal_strconv_uint64pow10), ("loop.example/g00857/impl.vectors", laid_loop_example_g00857_impl_vectors)], narrowed := true }
def FnExactPatternTextUptoSaid : Prop := fnExactPatternTextUptoRow.holds Tryz.pinned (OpenSpec.upto fnExactPatternTextSpec)

/-- 'laws.FnExactCreasesAt', WHERE WHAT IT READS IS OF BULK AT MOST 1048576: true; the input reads as it did. -/
def fnExactCreasesAtUptoRow : OpenClaim := { program := "ytmgdmldhgphnmaagreatdoor", sum := "23494ee06a1cbabd40fcf5cf7aef5e7419d52bb7b4e72a337b104637639b77a0", func := "loop.example/g00857/laws.FnExactCreasesAt", spec := "fnExactCreasesAt", unfollowed := true, recurses := true, named := ["loop.example/g00857/impl.vectors"], plainKeys := false, apart := false, laid := [("loop.example/g00857/impl.vectors", laid_loop_example_g00857_impl_vectors)], narrowed := true }
def FnExactCreasesAtUptoSaid : Prop := fnExactCreasesAtUptoRow.holds Tryz.pinned (OpenSpec.upto fnExactCreasesAtSpec)

/-- 'laws.FnExactMaekawaAt', WHERE WHAT IT READS IS OF BULK AT MOST 1048576: true; the input reads as it did. -/
def fnExactMaekawaAtUptoRow : OpenClaim := { program := "ytmgdmldhgphnmaagreatdoor", sum := "23494ee06a1cbabd40fcf5cf7aef5e7419d52bb7b4e72a337b104637639b77a0", func := "loop.example/g00857/laws.FnExactMaekawaAt", spec := "fnExactMaekawaAt", unfollowed := true, recurses := true, named := ["loop.example/g00857/impl.vectors"], plainKeys := false, apart := false, laid := [("loop.example/g00857/impl.vectors", laid_loop_example_g00857_impl_vectors)], narrowed := true }
def FnExactMaekawaAtUptoSaid : Prop := fnExactMaekawaAtUptoRow.holds Tryz.pinned (OpenSpec.upto fnExactMaekawaAtSpec)

/-- 'laws.FnExactKindsAt', WHERE WHAT IT READS IS OF BULK AT MOST 1048576: true; the input reads as it did. -/
def fnExactKindsAtUptoRow : OpenClaim := { program := "ytmgdmldhgphnmaagreatdoor", sum := "23494ee06a1cbabd40fcf5cf7aef5e7419d52bb7b4e72a337b104637639b77a0", func := "loop.example/g00857/laws.FnExactKindsAt", spec := "fnExactKindsAt", unfollowed := true, recurses := true, named := ["loop.example/g00857/impl.vectors"], plainKeys := false, apart := false, laid := [("loop.example/g00857/impl.vectors", laid_loop_example_g00857_impl_vectors)], narrowed := true }
def FnExactKindsAtUptoSaid : Prop := fnExactKindsAtUptoRow.holds Tryz.pinned (OpenSpec.upto fnExactKindsAtSpec)

/-- 'laws.FnExactDirectionsAt', WHERE WHAT IT READS IS OF BULK AT MOST 1048576: true; the input reads as it did. -/
def fnExactDirectionsAtUptoRow : OpenClaim := { program := "ytmgdmldhgphnmaagreatdoor", sum := "23494ee06a1cbabd40fcf5cf7aef5e7419d52bb7b4e72a337b104637639b77a0", func := "loop.example/g00857/laws.FnExactDirectionsAt", spec := "fnExactDirectionsAt", unfollowed := true, recurses := true, named := ["loop.example/g00857/impl.vectors"], plainKeys := false, apart := false, laid := [("loop.example/g00857/impl.vectors", laid_loop_example_g00857_impl_vectors)], narrowed := true }
def FnExactDirectionsAtUptoSaid : Prop := fnExactDirectionsAtUptoRow.holds Tryz.pinned (OpenSpec.upto fnExactDirectionsAtSpec)

/-- 'laws.FnExactPointsOn', WHERE WHAT IT READS IS OF BULK AT MOST 1048576: true; the input reads as it did. -/
def fnExactPointsOnUptoRow : OpenClaim := { program := "ytmgdmldhgphnmaagreatdoor", sum := "23494ee06a1cbabd40fcf5cf7aef5e7419d52bb7b4e72a337b104637639b77a0", func := "loop.example/g00857/laws.FnExactPointsOn", spec := "fnExactPointsOn", unfollowed := true, recurses := true, named := ["loop.example/g00857/impl.vectors"], plainKeys := false, apart := false, laid := [("loop.example/g00857/impl.vectors", laid_loop_example_g00857_impl_vectors)], narrowed := true }
def FnExactPointsOnUptoSaid : Prop := fnExactPointsOnUptoRow.holds Tryz.pinned (OpenSpec.upto fnExactPointsOnSpec)

/-- 'laws.FnExactKawasakiAt', WHERE WHAT IT READS IS OF BULK AT MOST 1048576: true; the input reads as it did. -/
def fnExactKawasakiAtUptoRow : OpenClaim := { program := "ytmgdmldhgphnmaagreatdoor", sum := "23494ee06a1cbabd40fcf5cf7aef5e7419d52bb7b4e72a337b104637639b77a0", func := "loop.example/g00857/laws.FnExactKawasakiAt", spec := "fnExactKawasakiAt", unfollowed := true, recurses := true, named := ["loop.example/g00857/impl.vectors"], plainKeys := false, apart := false, laid := [("loop.example/g00857/impl.vectors", laid_loop_example_g00857_impl_vectors)], narrowed := true }
def FnExactKawasakiAtUptoSaid : Prop := fnExactKawasakiAtUptoRow.holds Tryz.pinned (OpenSpec.upto fnExactKawasakiAtSpec)

/-- 'laws.FnExactSectorsAt', WHERE WHAT IT READS IS OF BULK AT MOST 1048576: true; the input reads as it did. -/
def fnExactSectorsAtUptoRow : OpenClaim := { program := "ytmgdmldhgphnmaagreatdoor", sum := "23494ee06a1cbabd40fcf5cf7aef5e7419d52bb7b4e72a337b104637639b77a0", func := "loop.example/g00857/laws.FnExactSectorsAt", spec := "fnExactSectorsAt", unfollowed := true, recurses := true, named := ["loop.example/g00857/impl.vectors"], plainKeys := false, apart := false, laid := [("loop.example/g00857/impl.vectors", laid_loop_example_g00857_impl_vectors)], narrowed := true }
def FnExactSectorsAtUptoSaid : Prop := fnExactSectorsAtUptoRow.holds Tryz.pinned (OpenSpec.upto fnExactSectorsAtSpec)

/-- 'laws.FnExactRemoveCrease', WHERE WHAT IT READS IS OF BULK AT MOST 1048576: true; the input reads as it did. -/
def fnExactRemoveCreaseUptoRow : OpenClaim := { program := "ytmgdmldhgphnmaagreatdoor", sum := "23494ee06a1cbabd40fcf5cf7aef5e7419d52bb7b4e72a337b104637639b77a0", func := "loop.example/g00857/laws.FnExactRemoveCrease", spec := "fnExactRemoveCrease", unfollowed := true, recurses := true, named := ["loop.example/g00857/impl.vectors"], plainKeys := false, apart := false, laid := [("loop.example/g00857/impl.vectors", laid_loop_example_g00857_impl_vectors)], narrowed := true }
def FnExactRemoveCreaseUptoSaid : Prop := fnExactRemoveCreaseUptoRow.holds Tryz.pinned (OpenSpec.upto fnExactRemoveCreaseSpec)

/-- 'laws.FnExactFaceAt', WHERE WHAT IT READS IS OF BULK AT MOST 1048576: true; the input reads as it did. -/
def fnExactFaceAtUptoRow : OpenClaim := { program := "ytmgdmldhgphnmaagreatdoor", sum := "23494ee06a1cbabd40fcf5cf7aef5e7419d52bb7b4e72a337b104637639b77a0", func := "loop.example/g00857/laws.FnExactFaceAt", spec := "fnExactFaceAt", unfollowed := true, recurses := true, named := ["loop.example/g00857/impl.vectors"], plainKeys := false, apart := false, laid := [("loop.example/g00857/impl.vectors", laid_loop_example_g00857_impl_vectors)], narrowed := true }
def FnExactFaceAtUptoSaid : Prop := fnExactFaceAtUptoRow.holds Tryz.pinned (OpenSpec.upto fnExactFaceAtSpec)

/-- 'laws.FnExactLittleAt', WHERE WHAT IT READS IS OF BULK AT MOST 1048576: true; the input reads as it did. -/
def fnExactLittleAtUptoRow : OpenClaim := { program := "ytmgdmldhgphnmaagreatdoor", sum := "23494ee06a1cbabd40fcf5cf7aef5e7419d52bb7b4e72a337b104637639b77a0", func := "loop.example/g00857/laws.FnExactLittleAt", spec := "fnExactLittleAt", unfollowed := true, recurses := true, named := ["loop.example/g00857/impl.vectors"], plainKeys := false, apart := false, laid := [("loop.example/g00857/impl.vectors", laid_loop_example_g00857_impl_vectors)], narrowed := true }
def FnExactLittleAtUptoSaid : Prop := fnExactLittleAtUptoRow.holds Tryz.pinned (OpenSpec.upto fnExactLittleAtSpec)

end Rows
end Go.Proofs.YtmgdmldhgphnmaaGreatDoor
