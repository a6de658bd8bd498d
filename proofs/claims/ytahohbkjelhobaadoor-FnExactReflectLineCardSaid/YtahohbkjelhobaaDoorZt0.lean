import Derived.Test.YtahohbkjelhobaaDoorZvE
import Derived.Test.YtahohbkjelhobaaDoorZv18
set_option linter.unusedVariables false
set_option linter.unusedSimpArgs false
set_option maxHeartbeats 4000000
namespace Go.Vai
def inB (n lo hi : Int) : Bool := decide (lo ≤ n) && decide (n ≤ hi)
theorem inB_iff {n lo hi : Int} : inB n lo hi = true ↔ lo ≤ n ∧ n ≤ hi := by simp [inB]
theorem c53 (n lo hi : Int) : PC E 53 [.i (.int .i64 n), .i (.int .i64 lo), .i (.int .i64 hi)] [.i (.bool (inB n lo hi))] := by
  refine PC_start hE Proofs.Tryd.func53 rfl rfl Proofs.Tryd.ntmps53 (by kernel_rfl) (by kernel_rfl) (by simp) ?_
  simp (disch := first | omega | simp) [wrap_i64, le_most, lt_omega, le_omega, ne_omega, allLen, inB]
  (first | refine Gd.dec (fun h1 => ?_) (fun h1 => ?_) | refine Gd.intro (fun h1 => ?_) (fun h1 => ?_)) <;> simp (disch := first | omega | simp) [wrap_i64, le_most, lt_omega, le_omega, ne_omega, allLen, h1]
theorem c41 (n lo hi : Int) : PC E 41 [.i (.int .i64 n), .i (.int .i64 lo), .i (.int .i64 hi)] [.i (.bool (inB n lo hi))] := by
  refine PC_start hE Proofs.Tryd.func41 rfl rfl Proofs.Tryd.ntmps41 (by kernel_rfl) (by kernel_rfl) (by simp) ?_
  simp (disch := first | omega | simp) [wrap_i64, le_most, lt_omega, le_omega, ne_omega, allLen, inB]
  (first | refine Gd.dec (fun h1 => ?_) (fun h1 => ?_) | refine Gd.intro (fun h1 => ?_) (fun h1 => ?_)) <;> simp (disch := first | omega | simp) [wrap_i64, le_most, lt_omega, le_omega, ne_omega, allLen, h1]
end Go.Vai
