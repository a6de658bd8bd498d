import Derived.Test.YtahohbkjelhobaaZt22
set_option linter.unusedVariables false
set_option linter.unusedSimpArgs false
set_option maxHeartbeats 4000000
namespace Go.Vai
theorem c65 (x : Ru) (vars : Int) (h : (x.sz : Int) ≤ 1048576) : PC E 65 [.agg (encR x), .i (.int .i64 vars)] [.i (.bool (inB vars 0 200 && rv x vars))] := by
  refine PC_start hE Proofs.Try.func65 rfl rfl Proofs.Try.ntmps65 (by kernel_rfl) (by kernel_rfl) (by simp) ?_
  simp (disch := first | omega | simp) [wrap_i64, le_most, lt_omega, le_omega, ne_omega, allLen]
  refine CallK.of (c83 _ _ _) (by first | exact .inl rfl | exact .inr (by simp)) (by simp) ?_
  simp (disch := first | omega | simp) [wrap_i64, le_most, lt_omega, le_omega, ne_omega, allLen]
  (first | refine Gd.dec (fun h1 => ?_) (fun h1 => ?_) | refine Gd.intro (fun h1 => ?_) (fun h1 => ?_)) <;> simp (disch := first | omega | simp) [wrap_i64, le_most, lt_omega, le_omega, ne_omega, allLen, h1]
  have hb : 0 ≤ vars ∧ vars ≤ 200 := by simpa [inB] using h1
  refine CallK.of (c84 x vars h hb) (by first | exact .inl rfl | exact .inr (by simp)) (by simp) ?_
  simp (disch := first | omega | simp) [wrap_i64, le_most, lt_omega, le_omega, ne_omega, allLen, h1]
theorem c35 (x : Ru) (vs : List Int) (h : (x.sz : Int) ≤ 1048576) (hv : (vs.length : Int) ≤ 1048576) : PC E 35 [.agg (encR x), .i (.sl (vs.map encI))] [.i (.int .i64 (rholds x vs))] := by
  refine PC_start hE Proofs.Try.func35 rfl rfl Proofs.Try.ntmps35 (by kernel_rfl) (by kernel_rfl) (by simp) ?_
  simp (disch := first | omega | simp) [wrap_i64, le_most, lt_omega, le_omega, ne_omega, allLen]
  refine CallK.of (c47 _) (by first | exact .inl rfl | exact .inr (by simp)) (by simp) ?_
  simp (disch := first | omega | simp) [wrap_i64, le_most, lt_omega, le_omega, ne_omega, allLen]
  refine CallK.of (c68 x _ h) (by first | exact .inl rfl | exact .inr (by simp)) (by simp) ?_
  simp only [rholds]
  generalize hq : (inB (vs.length : Int) 0 200 && rv x (vs.length : Int)) = q
  cases q
  · simp (disch := first | omega | simp) [wrap_i64, le_most, lt_omega, le_omega, ne_omega, allLen]
  · simp (disch := first | omega | simp) [wrap_i64, le_most, lt_omega, le_omega, ne_omega, allLen]
    refine CallK.of (c69 vs hv) (by first | exact .inl rfl | exact .inr (by simp)) (by simp) ?_
    generalize hw : valsB vs = r
    cases r
    · simp (disch := first | omega | simp) [wrap_i64, le_most, lt_omega, le_omega, ne_omega, allLen]
    · simp at hq
      have hf := rfit_of hq.2 hw
      have hs : (x.vars.length : Int) ≤ 1048576 := by unfold Ru.sz at h; omega
      simp (disch := first | omega | simp) [wrap_i64, le_most, lt_omega, le_omega, ne_omega, allLen]
      refine CallK.of (c51 x vs hf hs) (by first | exact .inl rfl | exact .inr (by simp)) (by simp) ?_
      simp (disch := first | omega | simp) [wrap_i64, le_most, lt_omega, le_omega, ne_omega, allLen]
end Go.Vai
