/-
  No cell of these rows narrows 'for every input' (looked for: loops, veiled, ifaces, maps, wideKeys, modest, calm, conditions, laid).
  DERIVED. THE GIVEN ROWS OF THIS SEAT. 7 by the template 'for every input the law returns true; each argument reads behind the call as it read before'; 0 by the template 'total and deterministic' (their statements: YtkljeldcjnpinaaTotals.lean).
  GIVEN WITH THE SEED: the statements are not yours to turn. If you find one false, say at which input.
  Laid BY PROGRAM, IN A SANDBOX (cutbox-rows.mjs): the forced cells as the released guide's own fill.sh prints them over the translation 3d194b32b8a2b770… (all of the seat's roots in one cut). By AI agents, Wed Nov 11 2026. No macro, syntax, notation, axiom, sorry.
-/
import Derived.Test.YtkljeldcjnpinaaChecked
import GoSem.Claim
import GoSem.ClaimJoined
import GoSem.ClaimMapViews
import Derived.JoinedTies
import Derived.KernelRfl
namespace Go.Proofs.Ytkljeldcjnpinaa
/- THE CELL 'sum', in the pinned program and in every row, IS THE sha256 OF THE DUMP (.gsa) THAT YtkljeldcjnpinaaProg.lean LOADS. Nothing in Lean hashes anything: it is a label: what it is worth is what the hold of that sum in a sandbox is worth. -/
noncomputable def Try.pinned : Pinned := { name := "ytkljeldcjnpinaa", sum := "3d194b32b8a2b7708a0049209c9a7afa8867865d15016a9f2ded61f187639a7b", checked := Try.checked }
namespace Rows
def none {H : Type} : Left H := { results := [], args := [] }

/-- 'laws.FnBrackets': WHATEVER THE INPUT: true; the input reads as it did. -/
def fnBracketsSpec : ChangeSpec := { name := "fnBrackets", fn := fun _ => fun
  | [d1, d2] => { results := [.lit (.bool true)], args := [d1, d2] }
  | _ => none }
def fnBracketsRow : OpenClaim := { program := "ytkljeldcjnpinaa", sum := "3d194b32b8a2b7708a0049209c9a7afa8867865d15016a9f2ded61f187639a7b", func := "loop.example/g00857/laws.FnBrackets", spec := "fnBrackets", apart := false }
def FnBracketsSaid : Prop := fnBracketsRow.holds Try.pinned (OpenSpec.ofChange fnBracketsSpec)

/-- ITS FALSE NEIGHBOUR: 'it returns false'. Refute it at one input. -/
def fnBracketsWrong : ChangeSpec := { name := "fnBrackets", fn := fun _ => fun
  | [d1, d2] => { results := [.lit (.bool false)], args := [d1, d2] }
  | _ => none }
def FnBracketsWrongFalsely : Prop := fnBracketsRow.holds Try.pinned (OpenSpec.ofChange fnBracketsWrong)

/-- 'laws.FnExactSameState': WHATEVER THE INPUT: true; the input reads as it did. -/
def fnExactSameStateSpec : ChangeSpec := { name := "fnExactSameState", fn := fun _ => fun
  | [d1, d2] => { results := [.lit (.bool true)], args := [d1, d2] }
  | _ => none }
def fnExactSameStateRow : OpenClaim := { program := "ytkljeldcjnpinaa", sum := "3d194b32b8a2b7708a0049209c9a7afa8867865d15016a9f2ded61f187639a7b", func := "loop.example/g00857/laws.FnExactSameState", spec := "fnExactSameState", unfollowed := true, recurses := true, apart := false }
def FnExactSameStateSaid : Prop := fnExactSameStateRow.holds Try.pinned (OpenSpec.ofChange fnExactSameStateSpec)

/-- ITS FALSE NEIGHBOUR: 'it returns false'. Refute it at one input. -/
def fnExactSameStateWrong : ChangeSpec := { name := "fnExactSameState", fn := fun _ => fun
  | [d1, d2] => { results := [.lit (.bool false)], args := [d1, d2] }
  | _ => none }
def FnExactSameStateWrongFalsely : Prop := fnExactSameStateRow.holds Try.pinned (OpenSpec.ofChange fnExactSameStateWrong)

/-- 'laws.FnExactForcedBy': WHATEVER THE INPUT: true; the input reads as it did. -/
def fnExactForcedBySpec : ChangeSpec := { name := "fnExactForcedBy", fn := fun _ => fun
  | [d1, d2] => { results := [.lit (.bool true)], args := [d1, d2] }
  | _ => none }
def fnExactForcedByRow : OpenClaim := { program := "ytkljeldcjnpinaa", sum := "3d194b32b8a2b7708a0049209c9a7afa8867865d15016a9f2ded61f187639a7b", func := "loop.example/g00857/laws.FnExactForcedBy", spec := "fnExactForcedBy", unfollowed := true, recurses := true, apart := false }
def FnExactForcedBySaid : Prop := fnExactForcedByRow.holds Try.pinned (OpenSpec.ofChange fnExactForcedBySpec)

/-- ITS FALSE NEIGHBOUR: 'it returns false'. Refute it at one input. -/
def fnExactForcedByWrong : ChangeSpec := { name := "fnExactForcedBy", fn := fun _ => fun
  | [d1, d2] => { results := [.lit (.bool false)], args := [d1, d2] }
  | _ => none }
def FnExactForcedByWrongFalsely : Prop := fnExactForcedByRow.holds Try.pinned (OpenSpec.ofChange fnExactForcedByWrong)

/-- 'laws.FnExactViolatedRules': WHATEVER THE INPUT: true; the input reads as it did. -/
def fnExactViolatedRulesSpec : ChangeSpec := { name := "fnExactViolatedRules", fn := fun _ => fun
  | [d1, d2] => { results := [.lit (.bool true)], args := [d1, d2] }
  | _ => none }
def fnExactViolatedRulesRow : OpenClaim := { program := "ytkljeldcjnpinaa", sum := "3d194b32b8a2b7708a0049209c9a7afa8867865d15016a9f2ded61f187639a7b", func := "loop.example/g00857/laws.FnExactViolatedRules", spec := "fnExactViolatedRules", unfollowed := true, recurses := true, apart := false }
def FnExactViolatedRulesSaid : Prop := fnExactViolatedRulesRow.holds Try.pinned (OpenSpec.ofChange fnExactViolatedRulesSpec)

/-- ITS FALSE NEIGHBOUR: 'it returns false'. Refute it at one input. -/
def fnExactViolatedRulesWrong : ChangeSpec := { name := "fnExactViolatedRules", fn := fun _ => fun
  | [d1, d2] => { results := [.lit (.bool false)], args := [d1, d2] }
  | _ => none }
def FnExactViolatedRulesWrongFalsely : Prop := fnExactViolatedRulesRow.holds Try.pinned (OpenSpec.ofChange fnExactViolatedRulesWrong)

/-- 'laws.FnPropagate': WHATEVER THE INPUT: true; the input reads as it did. -/
def fnPropagateSpec : ChangeSpec := { name := "fnPropagate", fn := fun _ => fun
  | [d1, d2] => { results := [.lit (.bool true)], args := [d1, d2] }
  | _ => none }
def fnPropagateRow : OpenClaim := { program := "ytkljeldcjnpinaa", sum := "3d194b32b8a2b7708a0049209c9a7afa8867865d15016a9f2ded61f187639a7b", func := "loop.example/g00857/laws.FnPropagate", spec := "fnPropagate", unfollowed := true, recurses := true, apart := false }
def FnPropagateSaid : Prop := fnPropagateRow.holds Try.pinned (OpenSpec.ofChange fnPropagateSpec)

/-- ITS FALSE NEIGHBOUR: 'it returns false'. Refute it at one input. -/
def fnPropagateWrong : ChangeSpec := { name := "fnPropagate", fn := fun _ => fun
  | [d1, d2] => { results := [.lit (.bool false)], args := [d1, d2] }
  | _ => none }
def FnPropagateWrongFalsely : Prop := fnPropagateRow.holds Try.pinned (OpenSpec.ofChange fnPropagateWrong)

/-- 'laws.FnExactCheckRefutation': WHATEVER THE INPUT: true; the input reads as it did. -/
def fnExactCheckRefutationSpec : ChangeSpec := { name := "fnExactCheckRefutation", fn := fun _ => fun
  | [d1, d2, d3] => { results := [.lit (.bool true)], args := [d1, d2, d3] }
  | _ => none }
def fnExactCheckRefutationRow : OpenClaim := { program := "ytkljeldcjnpinaa", sum := "3d194b32b8a2b7708a0049209c9a7afa8867865d15016a9f2ded61f187639a7b", func := "loop.example/g00857/laws.FnExactCheckRefutation", spec := "fnExactCheckRefutation", unfollowed := true, recurses := true, apart := false }
def FnExactCheckRefutationSaid : Prop := fnExactCheckRefutationRow.holds Try.pinned (OpenSpec.ofChange fnExactCheckRefutationSpec)

/-- ITS FALSE NEIGHBOUR: 'it returns false'. Refute it at one input. -/
def fnExactCheckRefutationWrong : ChangeSpec := { name := "fnExactCheckRefutation", fn := fun _ => fun
  | [d1, d2, d3] => { results := [.lit (.bool false)], args := [d1, d2, d3] }
  | _ => none }
def FnExactCheckRefutationWrongFalsely : Prop := fnExactCheckRefutationRow.holds Try.pinned (OpenSpec.ofChange fnExactCheckRefutationWrong)

/-- 'laws.FnExactPropagate': WHATEVER THE INPUT: true; the input reads as it did. -/
def fnExactPropagateSpec : ChangeSpec := { name := "fnExactPropagate", fn := fun _ => fun
  | [d1, d2] => { results := [.lit (.bool true)], args := [d1, d2] }
  | _ => none }
def fnExactPropagateRow : OpenClaim := { program := "ytkljeldcjnpinaa", sum := "3d194b32b8a2b7708a0049209c9a7afa8867865d15016a9f2ded61f187639a7b", func := "loop.example/g00857/laws.FnExactPropagate", spec := "fnExactPropagate", unfollowed := true, recurses := true, apart := false }
def FnExactPropagateSaid : Prop := fnExactPropagateRow.holds Try.pinned (OpenSpec.ofChange fnExactPropagateSpec)

/-- ITS FALSE NEIGHBOUR: 'it returns false'. Refute it at one input. -/
def fnExactPropagateWrong : ChangeSpec := { name := "fnExactPropagate", fn := fun _ => fun
  | [d1, d2] => { results := [.lit (.bool false)], args := [d1, d2] }
  | _ => none }
def FnExactPropagateWrongFalsely : Prop := fnExactPropagateRow.holds Try.pinned (OpenSpec.ofChange fnExactPropagateWrong)

/- THE SECOND FORM. 'bulk': how many values and letters a reading holds, each counted each time it is reached (what is shared counts as often as it is met; a slice's spare places count too). A statement '..UptoSaid' is the law's where the arguments, and the package variables that the reading takes, are together of bulk at most 1048576: NARROWER than '..Said'. Prove '..Said' where nothing that the law and all that it calls make is longer than what came in: it says more and counts as full. Else prove '..UptoSaid'. A law counts once. -/
mutual
def uptoBulk {H : Type} : DataW H → Nat
  | .lit (.string bytes) => bytes.length + 1
  | .lit _ => 1
  | .nil => 1
  | .ptr d => uptoBulk d + 1
  | .slice elems spare => uptoBulkAll elems + uptoBulkAll spare + 1
  | .agg parts => uptoBulkAll parts + 1
  | .iface _ d => uptoBulk d + 1
  | .map entries => uptoBulkEntries entries + 1
  | .held _ => 1
def uptoBulkAll {H : Type} : List (DataW H) → Nat
  | [] => 0
  | d :: r => uptoBulk d + uptoBulkAll r
def uptoBulkEntries {H : Type} : List (Lit × DataW H) → Nat
  | [] => 0
  | x :: r => uptoBulkEntry x + uptoBulkEntries r
def uptoBulkEntry {H : Type} : Lit × DataW H → Nat
  | (.string bytes, d) => bytes.length + uptoBulk d + 1
  | (_, d) => uptoBulk d + 1
 end
def uptoSmall : (H : Type) → List (DataW H) → Bool := fun _ ds => decide (uptoBulkAll ds ≤ 1048576)
def OpenSpec.upto (s : _root_.Go.ChangeSpec) : _root_.Go.OpenSpec := { _root_.Go.OpenSpec.ofChange s with cond := some uptoSmall }

/-- 'laws.FnBrackets', WHERE WHAT IT READS IS OF BULK AT MOST 1048576: true; the input reads as it did. -/
def fnBracketsUptoRow : OpenClaim := { program := "ytkljeldcjnpinaa", sum := "3d194b32b8a2b7708a0049209c9a7afa8867865d15016a9f2ded61f187639a7b", func := "loop.example/g00857/laws.FnBrackets", spec := "fnBrackets", apart := false, narrowed := true }
def FnBracketsUptoSaid : Prop := fnBracketsUptoRow.holds Try.pinned (OpenSpec.upto fnBracketsSpec)

/-- 'laws.FnExactSameState', WHERE WHAT IT READS IS OF BULK AT MOST 1048576: true; the input reads as it did. -/
def fnExactSameStateUptoRow : OpenClaim := { program := "ytkljeldcjnpinaa", sum := "3d194b32b8a2b7708a0049209c9a7afa8867865d15016a9f2ded61f187639a7b", func := "loop.example/g00857/laws.FnExactSameState", spec := "fnExactSameState", unfollowed := true, recurses := true, apart := false, narrowed := true }
def FnExactSameStateUptoSaid : Prop := fnExactSameStateUptoRow.holds Try.pinned (OpenSpec.upto fnExactSameStateSpec)

/-- 'laws.FnExactForcedBy', WHERE WHAT IT READS IS OF BULK AT MOST 1048576: true; the input reads as it did. -/
def fnExactForcedByUptoRow : OpenClaim := { program := "ytkljeldcjnpinaa", sum := "3d194b32b8a2b7708a0049209c9a7afa8867865d15016a9f2ded61f187639a7b", func := "loop.example/g00857/laws.FnExactForcedBy", spec := "fnExactForcedBy", unfollowed := true, recurses := true, apart := false, narrowed := true }
def FnExactForcedByUptoSaid : Prop := fnExactForcedByUptoRow.holds Try.pinned (OpenSpec.upto fnExactForcedBySpec)

/-- 'laws.FnExactViolatedRules', WHERE WHAT IT READS IS OF BULK AT MOST 1048576: true; the input reads as it did. -/
def fnExactViolatedRulesUptoRow : OpenClaim := { program := "ytkljeldcjnpinaa", sum := "3d194b32b8a2b7708a0049209c9a7afa8867865d15016a9f2ded61f187639a7b", func := "loop.example/g00857/laws.FnExactViolatedRules", spec := "fnExactViolatedRules", unfollowed := true, recurses := true, apart := false, narrowed := true }
def FnExactViolatedRulesUptoSaid : Prop := fnExactViolatedRulesUptoRow.holds Try.pinned (OpenSpec.upto fnExactViolatedRulesSpec)

/-- 'laws.FnPropagate', WHERE WHAT IT READS IS OF BULK AT MOST 1048576: true; the input reads as it did. -/
def fnPropagateUptoRow : OpenClaim := { program := "ytkljeldcjnpinaa", sum := "3d194b32b8a2b7708a0049209c9a7afa8867865d15016a9f2ded61f187639a7b", func := "loop.example/g00857/laws.FnPropagate", spec := "fnPropagate", unfollowed := true, recurses := true, apart := false, narrowed := true }
def FnPropagateUptoSaid : Prop := fnPropagateUptoRow.holds Try.pinned (OpenSpec.upto fnPropagateSpec)

/-- 'laws.FnExactCheckRefutation', WHERE WHAT IT READS IS OF BULK AT MOST 1048576: true; the input reads as it did. -/
def fnExactCheckRefutationUptoRow : OpenClaim := { program := "ytkljeldcjnpinaa", sum := "3d194b32b8a2b7708a0049209c9a7afa8867865d15016a9f2ded61f187639a7b", func := "loop.example/g00857/laws.FnExactCheckRefutation", spec := "fnExactCheckRefutation", unfollowed := true, recurses := true, apart := false, narrowed := true }
def FnExactCheckRefutationUptoSaid : Prop := fnExactCheckRefutationUptoRow.holds Try.pinned (OpenSpec.upto fnExactCheckRefutationSpec)

/-- 'laws.FnExactPropagate', WHERE WHAT IT READS IS OF BULK AT MOST 1048576: true; the input reads as it did. -/
def fnExactPropagateUptoRow : OpenClaim := { program := "ytkljeldcjnpinaa", sum := "3d194b32b8a2b7708a0049209c9a7afa8867865d15016a9f2ded61f187639a7b", func := "loop.example/g00857/laws.FnExactPropagate", spec := "fnExactPropagate", unfollowed := true, recurses := true, apart := false, narrowed := true }
def FnExactPropagateUptoSaid : Prop := fnExactPropagateUptoRow.holds Try.pinned (OpenSpec.upto fnExactPropagateSpec)

end Rows
end Go.Proofs.Ytkljeldcjnpinaa
