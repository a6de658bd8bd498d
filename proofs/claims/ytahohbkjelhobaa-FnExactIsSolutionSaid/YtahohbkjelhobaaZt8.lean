import Derived.Test.YtahohbkjelhobaaZt7
set_option linter.unusedVariables false
set_option linter.unusedSimpArgs false
set_option maxHeartbeats 4000000
namespace Go.Vai
theorem sdep_le (n : Nat) (l : List Nd) (m : Nat) : (sdep n l m).1 ≤ m + l.length ∧ -1 ≤ (sdep n l m).1 := by
  have h := sdep_dep n l m
  cases hd : dep n l with
  | none => rw [hd] at h; simp at h; rw [h]; omega
  | some p => obtain ⟨a, b⟩ := p; rw [hd] at h; simp at h; rw [h]; have := dep_len n l a b hd; simp; omega
end Go.Vai
