import Derived.Test.YtahohbkjelhobaaZt15
set_option linter.unusedVariables false
set_option linter.unusedSimpArgs false
set_option maxHeartbeats 4000000
namespace Go.Vai
def unitB (s : Int) : Bool := decide (s = 1) || decide (s = -1)
theorem c89 (s : Int) : PC E 89 [.i (.int .i64 s)] [.i (.bool (unitB s))] := by
  refine PC_start hE Proofs.Try.func89 rfl rfl Proofs.Try.ntmps89 (by kernel_rfl) (by kernel_rfl) (by simp) ?_
  simp (disch := first | omega | simp) [wrap_i64, le_most, lt_omega, le_omega, ne_omega, allLen, unitB]
  (first | refine Gd.dec (fun h1 => ?_) (fun h1 => ?_) | refine Gd.intro (fun h1 => ?_) (fun h1 => ?_)) <;> simp (disch := first | omega | simp) [wrap_i64, le_most, lt_omega, le_omega, ne_omega, allLen, h1]
theorem c88 (s : Int) : PC E 88 [.i (.int .i64 s)] [.i (.bool (!unitB s))] := by
  refine PC_start hE Proofs.Try.func88 rfl rfl Proofs.Try.ntmps88 (by kernel_rfl) (by kernel_rfl) (by simp) ?_
  simp (disch := first | omega | simp) [wrap_i64, le_most, lt_omega, le_omega, ne_omega, allLen]
  refine CallK.of (c89 s) (by first | exact .inl rfl | exact .inr (by simp)) (by simp) ?_
  simp (disch := first | omega | simp) [wrap_i64, le_most, lt_omega, le_omega, ne_omega, allLen]
theorem c48 (l : List Int) (h : (l.length : Int) ≤ 1048576) : PC E 48 [.i (.sl (l.map encI))] [.i (.bool (l.all unitB))] := by
  refine PC_start hE Proofs.Try.func48 rfl rfl Proofs.Try.ntmps48 (by kernel_rfl) (by kernel_rfl) (by simp) ?_
  simp (disch := first | omega | simp) [wrap_i64, le_most, lt_omega, le_omega, ne_omega, allLen]
  refine CallK.of (c87 l 88 [] (fun s => !unitB s) (fun x _ => c88 x) h) (by first | exact .inl rfl | exact .inr (by simp)) (by simp) ?_
  simp (disch := first | omega | simp) [wrap_i64, le_most, lt_omega, le_omega, ne_omega, allLen, List.not_any_eq_all_not]
def rv (x : Ru) (vars : Int) : Bool := inB x.kind 1 4 && (decide ((x.vars.length : Int) = x.kind) && (decide ((x.signs.length : Int) = x.vars.length) && (rises x.vars 0 (vars - 1) && x.signs.all unitB)))
theorem c68 (x : Ru) (vars : Int) (h : (x.sz : Int) ≤ 1048576) : PC E 68 [.agg (encR x), .i (.int .i64 vars)] [.i (.bool (inB vars 0 200 && rv x vars))] := by
  unfold Ru.sz at h
  refine PC_start hE Proofs.Try.func68 rfl rfl Proofs.Try.ntmps68 (by kernel_rfl) (by kernel_rfl) (by simp) ?_
  simp (disch := first | omega | simp) [wrap_i64, le_most, lt_omega, le_omega, ne_omega, allLen, encR]
  refine CallK.of (c85 _ _ _) (by first | exact .inl rfl | exact .inr (by simp)) (by simp) ?_
  simp (disch := first | omega | simp) [wrap_i64, le_most, lt_omega, le_omega, ne_omega, allLen]
  (first | refine Gd.dec (fun h1 => ?_) (fun h1 => ?_) | refine Gd.intro (fun h1 => ?_) (fun h1 => ?_)) <;> simp (disch := first | omega | simp) [wrap_i64, le_most, lt_omega, le_omega, ne_omega, allLen, h1]
  have hb : 0 ≤ vars ∧ vars ≤ 200 := by simpa [inB] using h1
  refine CallK.of (c85 _ _ _) (by first | exact .inl rfl | exact .inr (by simp)) (by simp) ?_
  simp (disch := first | omega | simp) [wrap_i64, le_most, lt_omega, le_omega, ne_omega, allLen]
  (first | refine Gd.dec (fun h2 => ?_) (fun h2 => ?_) | refine Gd.intro (fun h2 => ?_) (fun h2 => ?_)) <;> simp (disch := first | omega | simp) [wrap_i64, le_most, lt_omega, le_omega, ne_omega, allLen, h2]
  rotate_left
  · simp [rv, h2]
  refine CallK.of (c47 _) (by first | exact .inl rfl | exact .inr (by simp)) (by simp) ?_
  simp (disch := first | omega | simp) [wrap_i64, le_most, lt_omega, le_omega, ne_omega, allLen]
  (first | refine Gd.dec (fun h3 => ?_) (fun h3 => ?_) | refine Gd.intro (fun h3 => ?_) (fun h3 => ?_)) <;> simp (disch := first | omega | simp) [wrap_i64, le_most, lt_omega, le_omega, ne_omega, allLen, h3]
  rotate_left
  · simp [rv, h2, h3]
  (first | refine Gd.dec (fun h4 => ?_) (fun h4 => ?_) | refine Gd.intro (fun h4 => ?_) (fun h4 => ?_)) <;> simp (disch := first | omega | simp) [wrap_i64, le_most, lt_omega, le_omega, ne_omega, allLen, h4]
  rotate_left
  · simp [rv, h2, h3, h4]
  refine CallK.of (c96 _ _ _ (by omega)) (by first | exact .inl rfl | exact .inr (by simp)) (by simp) ?_
  simp (disch := first | omega | simp) [wrap_i64, le_most, lt_omega, le_omega, ne_omega, allLen]
  (first | refine Gd.dec (fun h5 => ?_) (fun h5 => ?_) | refine Gd.intro (fun h5 => ?_) (fun h5 => ?_)) <;> simp (disch := first | omega | simp) [wrap_i64, le_most, lt_omega, le_omega, ne_omega, allLen, h5]
  rotate_left
  · simp [rv, h2, h3, h4, h5]
  refine CallK.of (c48 _ (by omega)) (by first | exact .inl rfl | exact .inr (by simp)) (by simp) ?_
  simp (disch := first | omega | simp) [wrap_i64, le_most, lt_omega, le_omega, ne_omega, allLen, rv, h2, h3, h4, h5]
end Go.Vai
