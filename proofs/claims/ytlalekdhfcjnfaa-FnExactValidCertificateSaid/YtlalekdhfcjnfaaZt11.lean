import Derived.Test.YtlalekdhfcjnfaaZt10
set_option linter.unusedVariables false
set_option linter.unusedSimpArgs false
set_option maxHeartbeats 4000000
namespace Go.Vai
theorem typedC {n : Nat} {el : List IV} (h : Typed E n 44 el) : ∃ x, el = encC x ∧ x.order.length ≤ maxLen ∧ x.nodes.length ≤ maxLen := by
  cases n with
  | zero => exact h.elim
  | succ n =>
    simp only [Typed, k44, fieldsT] at h
    obtain ⟨a0, b0, rfl, h0, a1, b1, rfl, h1, a2, b2, rfl, h2, a3, b3, rfl, h3, a4, b4, rfl, h4, rfl⟩ := h
    obtain ⟨x0, rfl⟩ := typedI h0
    obtain ⟨x1, rfl⟩ := typedI h1
    obtain ⟨x2, rfl⟩ := typedI h2
    obtain ⟨x3, rfl, l3⟩ := typedSlice k42 (fun _ _ => typedI) h3
    obtain ⟨x4, rfl, l4⟩ := typedSlice k35 (fun _ _ => typedNd) h4
    exact ⟨⟨x0, x1, x2, x3, x4⟩, rfl, l3, l4⟩
theorem c7 (x y : Ct) (h1 : x.order.length ≤ maxLen) (h2 : x.nodes.length ≤ maxLen) (h3 : y.order.length ≤ maxLen) (h4 : y.nodes.length ≤ maxLen) :
    PC E 7 [.agg (encC x), .agg (encC y)] [.i (.bool true)] := by
  have m : maxLen = 9223372036854775807 := by decide
  refine PC_start hE Proofs.Try.func7 rfl rfl Proofs.Try.ntmps7 (by kernel_rfl) (by kernel_rfl) (by simp) ?_
  simp (disch := first | omega | simp) [wrap_i64, le_most, lt_omega, le_omega, ne_omega, allLen, encC]
  refine CallK.of (c27 x 1048576 (by omega) (by omega) (by omega) (by omega)) (by first | exact .inl rfl | exact .inr (by simp)) (by simp) ?_
  simp (disch := first | omega | simp) [wrap_i64, le_most, lt_omega, le_omega, ne_omega, allLen]
  (first | refine Gd.dec (fun h5 => ?_) (fun h5 => ?_) | refine Gd.intro (fun h5 => ?_) (fun h5 => ?_)) <;> simp (disch := first | omega | simp) [wrap_i64, le_most, lt_omega, le_omega, ne_omega, allLen, h5]
  have h6 : ¬ (1048576 : Int) - x.order.length - x.nodes.length < 0 := by split at h5 <;> omega
  rw [if_neg h6]
  refine CallK.of (c27 y _ (by omega) (by omega) (by omega) (by omega)) (by first | exact .inl rfl | exact .inr (by simp)) (by simp) ?_
  simp (disch := first | omega | simp) [wrap_i64, le_most, lt_omega, le_omega, ne_omega, allLen]
  (first | refine Gd.dec (fun h7 => ?_) (fun h7 => ?_) | refine Gd.intro (fun h7 => ?_) (fun h7 => ?_)) <;> simp (disch := first | omega | simp) [wrap_i64, le_most, lt_omega, le_omega, ne_omega, allLen, h7]
  have h8 : ¬ (1048576 : Int) - x.order.length - x.nodes.length - y.order.length - y.nodes.length < 0 := by split at h7 <;> omega
  refine CallK.of (c29 x (by omega) (by omega)) (by first | exact .inl rfl | exact .inr (by simp)) (by simp) ?_
  simp (disch := first | omega | simp) [wrap_i64, le_most, lt_omega, le_omega, ne_omega, allLen, encC]
  refine CallK.of (c29 y (by omega) (by omega)) (by first | exact .inl rfl | exact .inr (by simp)) (by simp) ?_
  simp (disch := first | omega | simp) [wrap_i64, le_most, lt_omega, le_omega, ne_omega, allLen, encC]
  refine CallK.of (c28 x y (by omega) (by omega) (by omega) (by omega)) (by first | exact .inl rfl | exact .inr (by simp)) (by simp) ?_
  simp (disch := first | omega | simp) [wrap_i64, le_most, lt_omega, le_omega, ne_omega, allLen, encC]
  refine CallK.of (c29 x (by omega) (by omega)) (by first | exact .inl rfl | exact .inr (by simp)) (by simp) ?_
  simp (disch := first | omega | simp) [wrap_i64, le_most, lt_omega, le_omega, ne_omega, allLen, encC]
  refine CallK.of (c29 y (by omega) (by omega)) (by first | exact .inl rfl | exact .inr (by simp)) (by simp) ?_
  simp (disch := first | omega | simp) [wrap_i64, le_most, lt_omega, le_omega, ne_omega, allLen, encC]
  refine CallK.of (c30 x y (by omega) (by omega) (by omega) (by omega)) (by first | exact .inl rfl | exact .inr (by simp)) (by simp) ?_
  simp (disch := first | omega | simp) [wrap_i64, le_most, lt_omega, le_omega, ne_omega, allLen, encC]
  refine CallK.of (c29 x (by omega) (by omega)) (by first | exact .inl rfl | exact .inr (by simp)) (by simp) ?_
  simp (disch := first | omega | simp) [wrap_i64, le_most, lt_omega, le_omega, ne_omega, allLen, encC]
  refine CallK.of (c31 x x (by omega) (by omega) (by omega) (by omega)) (by first | exact .inl rfl | exact .inr (by simp)) (by simp) ?_
  simp (disch := first | omega | simp) [wrap_i64, le_most, lt_omega, le_omega, ne_omega, allLen, encC]
  refine CallK.of (c29 y (by omega) (by omega)) (by first | exact .inl rfl | exact .inr (by simp)) (by simp) ?_
  simp (disch := first | omega | simp) [wrap_i64, le_most, lt_omega, le_omega, ne_omega, allLen, encC]
  refine CallK.of (c31 y y (by omega) (by omega) (by omega) (by omega)) (by first | exact .inl rfl | exact .inr (by simp)) (by simp) ?_
  simp (disch := first | omega | simp) [wrap_i64, le_most, lt_omega, le_omega, ne_omega, allLen, encC]
end Go.Vai
