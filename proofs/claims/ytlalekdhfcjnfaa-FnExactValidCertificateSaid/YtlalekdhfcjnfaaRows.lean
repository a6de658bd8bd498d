/-
  No cell of these rows narrows 'for every input' (looked for: loops, veiled, ifaces, maps, wideKeys, modest, calm, conditions, laid).
  DERIVED. THE GIVEN ROWS OF THIS SEAT. 10 by the template 'for every input the law returns true; each argument reads behind the call as it read before'; 0 by the template 'total and deterministic' (their statements: YtlalekdhfcjnfaaTotals.lean).
  GIVEN WITH THE SEED: the statements are not yours to turn. If you find one false, say at which input.
  Laid BY PROGRAM, IN A SANDBOX (cutbox-rows.mjs): the forced cells as the released guide's own fill.sh prints them over the translation 104fc63e4f0c6436… (all of the seat's roots in one cut). By AI agents, Wed Nov 11 2026. No macro, syntax, notation, axiom, sorry.
-/
import Derived.Test.YtlalekdhfcjnfaaChecked
import GoSem.Claim
import GoSem.ClaimJoined
import GoSem.ClaimMapViews
import Derived.JoinedTies
import Derived.KernelRfl
namespace Go.Proofs.Ytlalekdhfcjnfaa
/- THE CELL 'sum', in the pinned program and in every row, IS THE sha256 OF THE DUMP (.gsa) THAT YtlalekdhfcjnfaaProg.lean LOADS. Nothing in Lean hashes anything: it is a label: what it is worth is what the hold of that sum in a sandbox is worth. -/
noncomputable def Try.pinned : Pinned := { name := "ytlalekdhfcjnfaa", sum := "104fc63e4f0c6436afbd7ea337d7a724f74ca73b644375cd7c4a18e18d538ee0", checked := Try.checked }
namespace Rows
def none {H : Type} : Left H := { results := [], args := [] }

/-- 'laws.FnExactBracketsOk': WHATEVER THE INPUT: true; the input reads as it did. -/
def fnExactBracketsOkSpec : ChangeSpec := { name := "fnExactBracketsOk", fn := fun _ => fun
  | [d] => { results := [.lit (.bool true)], args := [d] }
  | _ => none }
def fnExactBracketsOkRow : OpenClaim := { program := "ytlalekdhfcjnfaa", sum := "104fc63e4f0c6436afbd7ea337d7a724f74ca73b644375cd7c4a18e18d538ee0", func := "loop.example/g00857/laws.FnExactBracketsOk", spec := "fnExactBracketsOk", apart := false }
def FnExactBracketsOkSaid : Prop := fnExactBracketsOkRow.holds Try.pinned (OpenSpec.ofChange fnExactBracketsOkSpec)

/-- ITS FALSE NEIGHBOUR: 'it returns false'. Refute it at one input. -/
def fnExactBracketsOkWrong : ChangeSpec := { name := "fnExactBracketsOk", fn := fun _ => fun
  | [d] => { results := [.lit (.bool false)], args := [d] }
  | _ => none }
def FnExactBracketsOkWrongFalsely : Prop := fnExactBracketsOkRow.holds Try.pinned (OpenSpec.ofChange fnExactBracketsOkWrong)

/-- 'laws.FnExactDepthOf': WHATEVER THE INPUT: true; the input reads as it did. -/
def fnExactDepthOfSpec : ChangeSpec := { name := "fnExactDepthOf", fn := fun _ => fun
  | [d] => { results := [.lit (.bool true)], args := [d] }
  | _ => none }
def fnExactDepthOfRow : OpenClaim := { program := "ytlalekdhfcjnfaa", sum := "104fc63e4f0c6436afbd7ea337d7a724f74ca73b644375cd7c4a18e18d538ee0", func := "loop.example/g00857/laws.FnExactDepthOf", spec := "fnExactDepthOf", apart := false }
def FnExactDepthOfSaid : Prop := fnExactDepthOfRow.holds Try.pinned (OpenSpec.ofChange fnExactDepthOfSpec)

/-- ITS FALSE NEIGHBOUR: 'it returns false'. Refute it at one input. -/
def fnExactDepthOfWrong : ChangeSpec := { name := "fnExactDepthOf", fn := fun _ => fun
  | [d] => { results := [.lit (.bool false)], args := [d] }
  | _ => none }
def FnExactDepthOfWrongFalsely : Prop := fnExactDepthOfRow.holds Try.pinned (OpenSpec.ofChange fnExactDepthOfWrong)

/-- 'laws.FnBrackets': WHATEVER THE INPUT: true; the input reads as it did. -/
def fnBracketsSpec : ChangeSpec := { name := "fnBrackets", fn := fun _ => fun
  | [d1, d2] => { results := [.lit (.bool true)], args := [d1, d2] }
  | _ => none }
def fnBracketsRow : OpenClaim := { program := "ytlalekdhfcjnfaa", sum := "104fc63e4f0c6436afbd7ea337d7a724f74ca73b644375cd7c4a18e18d538ee0", func := "loop.example/g00857/laws.FnBrackets", spec := "fnBrackets", apart := false }
def FnBracketsSaid : Prop := fnBracketsRow.holds Try.pinned (OpenSpec.ofChange fnBracketsSpec)

/-- ITS FALSE NEIGHBOUR: 'it returns false'. Refute it at one input. -/
def fnBracketsWrong : ChangeSpec := { name := "fnBrackets", fn := fun _ => fun
  | [d1, d2] => { results := [.lit (.bool false)], args := [d1, d2] }
  | _ => none }
def FnBracketsWrongFalsely : Prop := fnBracketsRow.holds Try.pinned (OpenSpec.ofChange fnBracketsWrong)

/-- 'laws.FnExactRefutationDepth': WHATEVER THE INPUT: true; the input reads as it did. -/
def fnExactRefutationDepthSpec : ChangeSpec := { name := "fnExactRefutationDepth", fn := fun _ => fun
  | [d] => { results := [.lit (.bool true)], args := [d] }
  | _ => none }
def fnExactRefutationDepthRow : OpenClaim := { program := "ytlalekdhfcjnfaa", sum := "104fc63e4f0c6436afbd7ea337d7a724f74ca73b644375cd7c4a18e18d538ee0", func := "loop.example/g00857/laws.FnExactRefutationDepth", spec := "fnExactRefutationDepth", recurses := true, apart := false }
def FnExactRefutationDepthSaid : Prop := fnExactRefutationDepthRow.holds Try.pinned (OpenSpec.ofChange fnExactRefutationDepthSpec)

/-- ITS FALSE NEIGHBOUR: 'it returns false'. Refute it at one input. -/
def fnExactRefutationDepthWrong : ChangeSpec := { name := "fnExactRefutationDepth", fn := fun _ => fun
  | [d] => { results := [.lit (.bool false)], args := [d] }
  | _ => none }
def FnExactRefutationDepthWrongFalsely : Prop := fnExactRefutationDepthRow.holds Try.pinned (OpenSpec.ofChange fnExactRefutationDepthWrong)

/-- 'laws.FnExactSameCertificate': WHATEVER THE INPUT: true; the input reads as it did. -/
def fnExactSameCertificateSpec : ChangeSpec := { name := "fnExactSameCertificate", fn := fun _ => fun
  | [d1, d2] => { results := [.lit (.bool true)], args := [d1, d2] }
  | _ => none }
def fnExactSameCertificateRow : OpenClaim := { program := "ytlalekdhfcjnfaa", sum := "104fc63e4f0c6436afbd7ea337d7a724f74ca73b644375cd7c4a18e18d538ee0", func := "loop.example/g00857/laws.FnExactSameCertificate", spec := "fnExactSameCertificate", apart := false }
def FnExactSameCertificateSaid : Prop := fnExactSameCertificateRow.holds Try.pinned (OpenSpec.ofChange fnExactSameCertificateSpec)

/-- ITS FALSE NEIGHBOUR: 'it returns false'. Refute it at one input. -/
def fnExactSameCertificateWrong : ChangeSpec := { name := "fnExactSameCertificate", fn := fun _ => fun
  | [d1, d2] => { results := [.lit (.bool false)], args := [d1, d2] }
  | _ => none }
def FnExactSameCertificateWrongFalsely : Prop := fnExactSameCertificateRow.holds Try.pinned (OpenSpec.ofChange fnExactSameCertificateWrong)

/-- 'laws.FnExactValidRules': WHATEVER THE INPUT: true; the input reads as it did. -/
def fnExactValidRulesSpec : ChangeSpec := { name := "fnExactValidRules", fn := fun _ => fun
  | [d1, d2] => { results := [.lit (.bool true)], args := [d1, d2] }
  | _ => none }
def fnExactValidRulesRow : OpenClaim := { program := "ytlalekdhfcjnfaa", sum := "104fc63e4f0c6436afbd7ea337d7a724f74ca73b644375cd7c4a18e18d538ee0", func := "loop.example/g00857/laws.FnExactValidRules", spec := "fnExactValidRules", unfollowed := true, recurses := true, apart := false }
def FnExactValidRulesSaid : Prop := fnExactValidRulesRow.holds Try.pinned (OpenSpec.ofChange fnExactValidRulesSpec)

/-- ITS FALSE NEIGHBOUR: 'it returns false'. Refute it at one input. -/
def fnExactValidRulesWrong : ChangeSpec := { name := "fnExactValidRules", fn := fun _ => fun
  | [d1, d2] => { results := [.lit (.bool false)], args := [d1, d2] }
  | _ => none }
def FnExactValidRulesWrongFalsely : Prop := fnExactValidRulesRow.holds Try.pinned (OpenSpec.ofChange fnExactValidRulesWrong)

/-- 'laws.FnExactRuleHolds': WHATEVER THE INPUT: true; the input reads as it did. -/
def fnExactRuleHoldsSpec : ChangeSpec := { name := "fnExactRuleHolds", fn := fun _ => fun
  | [d1, d2] => { results := [.lit (.bool true)], args := [d1, d2] }
  | _ => none }
def fnExactRuleHoldsRow : OpenClaim := { program := "ytlalekdhfcjnfaa", sum := "104fc63e4f0c6436afbd7ea337d7a724f74ca73b644375cd7c4a18e18d538ee0", func := "loop.example/g00857/laws.FnExactRuleHolds", spec := "fnExactRuleHolds", unfollowed := true, recurses := true, apart := false }
def FnExactRuleHoldsSaid : Prop := fnExactRuleHoldsRow.holds Try.pinned (OpenSpec.ofChange fnExactRuleHoldsSpec)

/-- ITS FALSE NEIGHBOUR: 'it returns false'. Refute it at one input. -/
def fnExactRuleHoldsWrong : ChangeSpec := { name := "fnExactRuleHolds", fn := fun _ => fun
  | [d1, d2] => { results := [.lit (.bool false)], args := [d1, d2] }
  | _ => none }
def FnExactRuleHoldsWrongFalsely : Prop := fnExactRuleHoldsRow.holds Try.pinned (OpenSpec.ofChange fnExactRuleHoldsWrong)

/-- 'laws.FnExactValuesOf': WHATEVER THE INPUT: true; the input reads as it did. -/
def fnExactValuesOfSpec : ChangeSpec := { name := "fnExactValuesOf", fn := fun _ => fun
  | [d1, d2, d3] => { results := [.lit (.bool true)], args := [d1, d2, d3] }
  | _ => none }
def fnExactValuesOfRow : OpenClaim := { program := "ytlalekdhfcjnfaa", sum := "104fc63e4f0c6436afbd7ea337d7a724f74ca73b644375cd7c4a18e18d538ee0", func := "loop.example/g00857/laws.FnExactValuesOf", spec := "fnExactValuesOf", unfollowed := true, recurses := true, apart := false }
def FnExactValuesOfSaid : Prop := fnExactValuesOfRow.holds Try.pinned (OpenSpec.ofChange fnExactValuesOfSpec)

/-- ITS FALSE NEIGHBOUR: 'it returns false'. Refute it at one input. -/
def fnExactValuesOfWrong : ChangeSpec := { name := "fnExactValuesOf", fn := fun _ => fun
  | [d1, d2, d3] => { results := [.lit (.bool false)], args := [d1, d2, d3] }
  | _ => none }
def FnExactValuesOfWrongFalsely : Prop := fnExactValuesOfRow.holds Try.pinned (OpenSpec.ofChange fnExactValuesOfWrong)

/-- 'laws.FnExactOrderOf': WHATEVER THE INPUT: true; the input reads as it did. -/
def fnExactOrderOfSpec : ChangeSpec := { name := "fnExactOrderOf", fn := fun _ => fun
  | [d1, d2, d3] => { results := [.lit (.bool true)], args := [d1, d2, d3] }
  | _ => none }
def fnExactOrderOfRow : OpenClaim := { program := "ytlalekdhfcjnfaa", sum := "104fc63e4f0c6436afbd7ea337d7a724f74ca73b644375cd7c4a18e18d538ee0", func := "loop.example/g00857/laws.FnExactOrderOf", spec := "fnExactOrderOf", unfollowed := true, recurses := true, apart := false }
def FnExactOrderOfSaid : Prop := fnExactOrderOfRow.holds Try.pinned (OpenSpec.ofChange fnExactOrderOfSpec)

/-- ITS FALSE NEIGHBOUR: 'it returns false'. Refute it at one input. -/
def fnExactOrderOfWrong : ChangeSpec := { name := "fnExactOrderOf", fn := fun _ => fun
  | [d1, d2, d3] => { results := [.lit (.bool false)], args := [d1, d2, d3] }
  | _ => none }
def FnExactOrderOfWrongFalsely : Prop := fnExactOrderOfRow.holds Try.pinned (OpenSpec.ofChange fnExactOrderOfWrong)

/-- 'laws.FnExactValidCertificate': WHATEVER THE INPUT: true; the input reads as it did. -/
def fnExactValidCertificateSpec : ChangeSpec := { name := "fnExactValidCertificate", fn := fun _ => fun
  | [d] => { results := [.lit (.bool true)], args := [d] }
  | _ => none }
def fnExactValidCertificateRow : OpenClaim := { program := "ytlalekdhfcjnfaa", sum := "104fc63e4f0c6436afbd7ea337d7a724f74ca73b644375cd7c4a18e18d538ee0", func := "loop.example/g00857/laws.FnExactValidCertificate", spec := "fnExactValidCertificate", unfollowed := true, recurses := true, apart := false }
def FnExactValidCertificateSaid : Prop := fnExactValidCertificateRow.holds Try.pinned (OpenSpec.ofChange fnExactValidCertificateSpec)

/-- ITS FALSE NEIGHBOUR: 'it returns false'. Refute it at one input. -/
def fnExactValidCertificateWrong : ChangeSpec := { name := "fnExactValidCertificate", fn := fun _ => fun
  | [d] => { results := [.lit (.bool false)], args := [d] }
  | _ => none }
def FnExactValidCertificateWrongFalsely : Prop := fnExactValidCertificateRow.holds Try.pinned (OpenSpec.ofChange fnExactValidCertificateWrong)

/- THE SECOND FORM. 'bulk': how many values and letters a reading holds, each counted each time it is reached (what is shared counts as often as it is met; a slice's spare places count too). A statement '..UptoSaid' is the law's where the arguments, and the package variables that the reading takes, are together of bulk at most 1048576: NARROWER than '..Said'. Prove '..Said' where nothing that the law and all that it calls make is longer than what came in: it says more and counts as full. Else prove '..UptoSaid'. A law counts once. -/
mutual
def uptoBulk {H : Type} : DataW H → Nat
  | .lit (.string bytes) => bytes.length + 1
  | .lit _ => 1
  | .nil => 1
  | .ptr d => uptoBulk d + 1
  | .slice elems spare => uptoBulkAll elems + uptoBulkAll spare + 1
  | .agg parts => uptoBulkAll parts + 1
  | .iface _ d => uptoBulk d + 1
  | .map entries => uptoBulkEntries entries + 1
  | .held _ => 1
def uptoBulkAll {H : Type} : List (DataW H) → Nat
  | [] => 0
  | d :: r => uptoBulk d + uptoBulkAll r
def uptoBulkEntries {H : Type} : List (Lit × DataW H) → Nat
  | [] => 0
  | x :: r => uptoBulkEntry x + uptoBulkEntries r
def uptoBulkEntry {H : Type} : Lit × DataW H → Nat
  | (.string bytes, d) => bytes.length + uptoBulk d + 1
  | (_, d) => uptoBulk d + 1
 end
def uptoSmall : (H : Type) → List (DataW H) → Bool := fun _ ds => decide (uptoBulkAll ds ≤ 1048576)
def OpenSpec.upto (s : _root_.Go.ChangeSpec) : _root_.Go.OpenSpec := { _root_.Go.OpenSpec.ofChange s with cond := some uptoSmall }

/-- 'laws.FnExactBracketsOk', WHERE WHAT IT READS IS OF BULK AT MOST 1048576: true; the input reads as it did. -/
def fnExactBracketsOkUptoRow : OpenClaim := { program := "ytlalekdhfcjnfaa", sum := "104fc63e4f0c6436afbd7ea337d7a724f74ca73b644375cd7c4a18e18d538ee0", func := "loop.example/g00857/laws.FnExactBracketsOk", spec := "fnExactBracketsOk", apart := false, narrowed := true }
def FnExactBracketsOkUptoSaid : Prop := fnExactBracketsOkUptoRow.holds Try.pinned (OpenSpec.upto fnExactBracketsOkSpec)

/-- 'laws.FnExactDepthOf', WHERE WHAT IT READS IS OF BULK AT MOST 1048576: true; the input reads as it did. -/
def fnExactDepthOfUptoRow : OpenClaim := { program := "ytlalekdhfcjnfaa", sum := "104fc63e4f0c6436afbd7ea337d7a724f74ca73b644375cd7c4a18e18d538ee0", func := "loop.example/g00857/laws.FnExactDepthOf", spec := "fnExactDepthOf", apart := false, narrowed := true }
def FnExactDepthOfUptoSaid : Prop := fnExactDepthOfUptoRow.holds Try.pinned (OpenSpec.upto fnExactDepthOfSpec)

/-- 'laws.FnBrackets', WHERE WHAT IT READS IS OF BULK AT MOST 1048576: true; the input reads as it did. -/
def fnBracketsUptoRow : OpenClaim := { program := "ytlalekdhfcjnfaa", sum := "104fc63e4f0c6436afbd7ea337d7a724f74ca73b644375cd7c4a18e18d538ee0", func := "loop.example/g00857/laws.FnBrackets", spec := "fnBrackets", apart := false, narrowed := true }
def FnBracketsUptoSaid : Prop := fnBracketsUptoRow.holds Try.pinned (OpenSpec.upto fnBracketsSpec)

/-- 'laws.FnExactRefutationDepth', WHERE WHAT IT READS IS OF BULK AT MOST 1048576: true; the input reads as it did. -/
def fnExactRefutationDepthUptoRow : OpenClaim := { program := "ytlalekdhfcjnfaa", sum := "104fc63e4f0c6436afbd7ea337d7a724f74ca73b644375cd7c4a18e18d538ee0", func := "loop.example/g00857/laws.FnExactRefutationDepth", spec := "fnExactRefutationDepth", recurses := true, apart := false, narrowed := true }
def FnExactRefutationDepthUptoSaid : Prop := fnExactRefutationDepthUptoRow.holds Try.pinned (OpenSpec.upto fnExactRefutationDepthSpec)

/-- 'laws.FnExactSameCertificate', WHERE WHAT IT READS IS OF BULK AT MOST 1048576: true; the input reads as it did. -/
def fnExactSameCertificateUptoRow : OpenClaim := { program := "ytlalekdhfcjnfaa", sum := "104fc63e4f0c6436afbd7ea337d7a724f74ca73b644375cd7c4a18e18d538ee0", func := "loop.example/g00857/laws.FnExactSameCertificate", spec := "fnExactSameCertificate", apart := false, narrowed := true }
def FnExactSameCertificateUptoSaid : Prop := fnExactSameCertificateUptoRow.holds Try.pinned (OpenSpec.upto fnExactSameCertificateSpec)

/-- 'laws.FnExactValidRules', WHERE WHAT IT READS IS OF BULK AT MOST 1048576: true; the input reads as it did. -/
def fnExactValidRulesUptoRow : OpenClaim := { program := "ytlalekdhfcjnfaa", sum := "104fc63e4f0c6436afbd7ea337d7a724f74ca73b644375cd7c4a18e18d538ee0", func := "loop.example/g00857/laws.FnExactValidRules", spec := "fnExactValidRules", unfollowed := true, recurses := true, apart := false, narrowed := true }
def FnExactValidRulesUptoSaid : Prop := fnExactValidRulesUptoRow.holds Try.pinned (OpenSpec.upto fnExactValidRulesSpec)

/-- 'laws.FnExactRuleHolds', WHERE WHAT IT READS IS OF BULK AT MOST 1048576: true; the input reads as it did. -/
def fnExactRuleHoldsUptoRow : OpenClaim := { program := "ytlalekdhfcjnfaa", sum := "104fc63e4f0c6436afbd7ea337d7a724f74ca73b644375cd7c4a18e18d538ee0", func := "loop.example/g00857/laws.FnExactRuleHolds", spec := "fnExactRuleHolds", unfollowed := true, recurses := true, apart := false, narrowed := true }
def FnExactRuleHoldsUptoSaid : Prop := fnExactRuleHoldsUptoRow.holds Try.pinned (OpenSpec.upto fnExactRuleHoldsSpec)

/-- 'laws.FnExactValuesOf', WHERE WHAT IT READS IS OF BULK AT MOST 1048576: true; the input reads as it did. -/
def fnExactValuesOfUptoRow : OpenClaim := { program := "ytlalekdhfcjnfaa", sum := "104fc63e4f0c6436afbd7ea337d7a724f74ca73b644375cd7c4a18e18d538ee0", func := "loop.example/g00857/laws.FnExactValuesOf", spec := "fnExactValuesOf", unfollowed := true, recurses := true, apart := false, narrowed := true }
def FnExactValuesOfUptoSaid : Prop := fnExactValuesOfUptoRow.holds Try.pinned (OpenSpec.upto fnExactValuesOfSpec)

/-- 'laws.FnExactOrderOf', WHERE WHAT IT READS IS OF BULK AT MOST 1048576: true; the input reads as it did. -/
def fnExactOrderOfUptoRow : OpenClaim := { program := "ytlalekdhfcjnfaa", sum := "104fc63e4f0c6436afbd7ea337d7a724f74ca73b644375cd7c4a18e18d538ee0", func := "loop.example/g00857/laws.FnExactOrderOf", spec := "fnExactOrderOf", unfollowed := true, recurses := true, apart := false, narrowed := true }
def FnExactOrderOfUptoSaid : Prop := fnExactOrderOfUptoRow.holds Try.pinned (OpenSpec.upto fnExactOrderOfSpec)

/-- 'laws.FnExactValidCertificate', WHERE WHAT IT READS IS OF BULK AT MOST 1048576: true; the input reads as it did. -/
def fnExactValidCertificateUptoRow : OpenClaim := { program := "ytlalekdhfcjnfaa", sum := "104fc63e4f0c6436afbd7ea337d7a724f74ca73b644375cd7c4a18e18d538ee0", func := "loop.example/g00857/laws.FnExactValidCertificate", spec := "fnExactValidCertificate", unfollowed := true, recurses := true, apart := false, narrowed := true }
def FnExactValidCertificateUptoSaid : Prop := fnExactValidCertificateUptoRow.holds Try.pinned (OpenSpec.upto fnExactValidCertificateSpec)

end Rows
end Go.Proofs.Ytlalekdhfcjnfaa
