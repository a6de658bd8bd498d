import Derived.Test.YtahohbkjelhobaaZt8
set_option linter.unusedVariables false
set_option linter.unusedSimpArgs false
set_option maxHeartbeats 4000000
namespace Go.Vai
/-- The depth of a refutation, or -1. -/
def rdep (l : List Nd) : Int := if l.length ≤ 4000 then (match dep l.length l with
  | some (a, []) => a
  | _ => -1) else -1
end Go.Vai
