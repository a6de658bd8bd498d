import Derived.Test.YtlalekdhfcjnfaaZt22
set_option linter.unusedVariables false
set_option linter.unusedSimpArgs false
set_option maxHeartbeats 4000000
namespace Go.Vai
theorem c75 (x : Ru) (vars : Int) (h : (x.sz : Int) ≤ 1048576) : PC E 75 [.agg (encR x), .i (.int .i64 vars)] [.i (.bool (inB vars 0 200 && rv x vars))] := by
  refine PC_start hE Proofs.Try.func75 rfl rfl Proofs.Try.ntmps75 (by kernel_rfl) (by kernel_rfl) (by simp) ?_
  simp (disch := first | omega | simp) [wrap_i64, le_most, lt_omega, le_omega, ne_omega, allLen]
  refine CallK.of (c98 _ _ _) (by first | exact .inl rfl | exact .inr (by simp)) (by simp) ?_
  simp (disch := first | omega | simp) [wrap_i64, le_most, lt_omega, le_omega, ne_omega, allLen]
  (first | refine Gd.dec (fun h1 => ?_) (fun h1 => ?_) | refine Gd.intro (fun h1 => ?_) (fun h1 => ?_)) <;> simp (disch := first | omega | simp) [wrap_i64, le_most, lt_omega, le_omega, ne_omega, allLen, h1]
  have hb : 0 ≤ vars ∧ vars ≤ 200 := by simpa [inB] using h1
  refine CallK.of (c99 x vars h hb) (by first | exact .inl rfl | exact .inr (by simp)) (by simp) ?_
  simp (disch := first | omega | simp) [wrap_i64, le_most, lt_omega, le_omega, ne_omega, allLen, h1]
theorem c41 (x : Ru) (vs : List Int) (h : (x.sz : Int) ≤ 1048576) (hv : (vs.length : Int) ≤ 1048576) : PC E 41 [.agg (encR x), .i (.sl (vs.map encI))] [.i (.int .i64 (rholds x vs))] := by
  refine PC_start hE Proofs.Try.func41 rfl rfl Proofs.Try.ntmps41 (by kernel_rfl) (by kernel_rfl) (by simp) ?_
  simp (disch := first | omega | simp) [wrap_i64, le_most, lt_omega, le_omega, ne_omega, allLen]
  refine CallK.of (c78 _) (by first | exact .inl rfl | exact .inr (by simp)) (by simp) ?_
  simp (disch := first | omega | simp) [wrap_i64, le_most, lt_omega, le_omega, ne_omega, allLen]
  refine CallK.of (c74 x _ h) (by first | exact .inl rfl | exact .inr (by simp)) (by simp) ?_
  simp only [rholds]
  generalize hq : (inB (vs.length : Int) 0 200 && rv x (vs.length : Int)) = q
  cases q
  · simp (disch := first | omega | simp) [wrap_i64, le_most, lt_omega, le_omega, ne_omega, allLen]
  · simp (disch := first | omega | simp) [wrap_i64, le_most, lt_omega, le_omega, ne_omega, allLen]
    refine CallK.of (c79 vs hv) (by first | exact .inl rfl | exact .inr (by simp)) (by simp) ?_
    generalize hw : valsB vs = r
    cases r
    · simp (disch := first | omega | simp) [wrap_i64, le_most, lt_omega, le_omega, ne_omega, allLen]
    · simp at hq
      have hf := rfit_of hq.2 hw
      have hs : (x.vars.length : Int) ≤ 1048576 := by unfold Ru.sz at h; omega
      simp (disch := first | omega | simp) [wrap_i64, le_most, lt_omega, le_omega, ne_omega, allLen]
      refine CallK.of (c80 x vs hf hs) (by first | exact .inl rfl | exact .inr (by simp)) (by simp) ?_
      simp (disch := first | omega | simp) [wrap_i64, le_most, lt_omega, le_omega, ne_omega, allLen]
theorem c38 (x : Ru) (vs : List Int) (h : (x.sz : Int) ≤ 1048576) (hv : (vs.length : Int) ≤ 1048576) : PC E 38 [.agg (encR x), .i (.sl (vs.map encI))] [.i (.int .i64 (rholds x vs))] := by
  refine PC_start hE Proofs.Try.func38 rfl rfl Proofs.Try.ntmps38 (by kernel_rfl) (by kernel_rfl) (by simp) ?_
  simp (disch := first | omega | simp) [wrap_i64, le_most, lt_omega, le_omega, ne_omega, allLen]
  refine CallK.of (c75 x _ h) (by first | exact .inl rfl | exact .inr (by simp)) (by simp) ?_
  simp only [rholds]
  generalize hq : (inB (vs.length : Int) 0 200 && rv x (vs.length : Int)) = q
  cases q
  · simp (disch := first | omega | simp) [wrap_i64, le_most, lt_omega, le_omega, ne_omega, allLen]
  · simp (disch := first | omega | simp) [wrap_i64, le_most, lt_omega, le_omega, ne_omega, allLen]
    refine CallK.of (c76 vs hv) (by first | exact .inl rfl | exact .inr (by simp)) (by simp) ?_
    generalize hw : valsB vs = r
    cases r
    · simp (disch := first | omega | simp) [wrap_i64, le_most, lt_omega, le_omega, ne_omega, allLen]
    · simp at hq
      have hf := rfit_of hq.2 hw
      have hs : (x.vars.length : Int) ≤ 1048576 := by unfold Ru.sz at h; omega
      have hk : inB x.kind 1 4 = true ∧ (x.vars.length : Int) = x.kind := by
        have := hq.2
        simp only [rv, Bool.and_eq_true, decide_eq_true_eq] at this
        exact ⟨this.1, this.2.1⟩
      have he := hol_eq (l := terms x vs) hk.1 (by rw [hf.terms_len]; exact hk.2) (fun k hk => by
        obtain ⟨n, h1, h2, h3, -, -, ht⟩ := hf.round (k := k) (by rw [← hf.terms_len]; exact hk)
        exact ht)
      simp (disch := first | omega | simp) [wrap_i64, le_most, lt_omega, le_omega, ne_omega, allLen]
      refine CallK.of (c77 x vs hf hs) (by first | exact .inl rfl | exact .inr (by simp)) (by simp) ?_
      simp (disch := first | omega | simp) [wrap_i64, le_most, lt_omega, le_omega, ne_omega, allLen, he]
theorem c9 (x : Ru) (vs : List Int) (h : x.fine) (hv : vs.length ≤ maxLen) : PC E 9 [.agg (encR x), .i (.sl (vs.map encI))] [.i (.bool true)] := by
  refine PC_start hE Proofs.Try.func9 rfl rfl Proofs.Try.ntmps9 (by kernel_rfl) (by kernel_rfl) (by simp) ?_
  simp (disch := first | omega | simp) [wrap_i64, le_most, lt_omega, le_omega, ne_omega, allLen]
  (first | refine Gd.dec (fun h1 => ?_) (fun h1 => ?_) | refine Gd.intro (fun h1 => ?_) (fun h1 => ?_)) <;> simp (disch := first | omega | simp) [wrap_i64, le_most, lt_omega, le_omega, ne_omega, allLen, h1]
  refine CallK.of (c37 x 1048576 (by omega) (by omega) h.1 h.2) (by first | exact .inl rfl | exact .inr (by simp)) (by simp) ?_
  simp (disch := first | omega | simp) [wrap_i64, le_most, lt_omega, le_omega, ne_omega, allLen]
  (first | refine Gd.dec (fun h2 => ?_) (fun h2 => ?_) | refine Gd.intro (fun h2 => ?_) (fun h2 => ?_)) <;> simp (disch := first | omega | simp) [wrap_i64, le_most, lt_omega, le_omega, ne_omega, allLen, h2]
  have g1 : (x.sz : Int) ≤ 1048576 := by split at h2 <;> omega
  have g2 : (vs.length : Int) ≤ 1048576 := by omega
  refine CallK.of (c39 x g1) (by first | exact .inl rfl | exact .inr (by simp)) (by simp) ?_
  simp (disch := first | omega | simp) [wrap_i64, le_most, lt_omega, le_omega, ne_omega, allLen]
  refine CallK.of (c40 vs g2) (by first | exact .inl rfl | exact .inr (by simp)) (by simp) ?_
  simp (disch := first | omega | simp) [wrap_i64, le_most, lt_omega, le_omega, ne_omega, allLen]
  refine CallK.of (c38 x vs g1 g2) (by first | exact .inl rfl | exact .inr (by simp)) (by simp) ?_
  simp (disch := first | omega | simp) [wrap_i64, le_most, lt_omega, le_omega, ne_omega, allLen]
  refine CallK.of (c39 x g1) (by first | exact .inl rfl | exact .inr (by simp)) (by simp) ?_
  simp (disch := first | omega | simp) [wrap_i64, le_most, lt_omega, le_omega, ne_omega, allLen]
  refine CallK.of (c40 vs g2) (by first | exact .inl rfl | exact .inr (by simp)) (by simp) ?_
  simp (disch := first | omega | simp) [wrap_i64, le_most, lt_omega, le_omega, ne_omega, allLen]
  refine CallK.of (c41 x vs g1 g2) (by first | exact .inl rfl | exact .inr (by simp)) (by simp) ?_
  simp (disch := first | omega | simp) [wrap_i64, le_most, lt_omega, le_omega, ne_omega, allLen]
  refine CallK.of (c39 x g1) (by first | exact .inl rfl | exact .inr (by simp)) (by simp) ?_
  simp (disch := first | omega | simp) [wrap_i64, le_most, lt_omega, le_omega, ne_omega, allLen]
  refine CallK.of (c42 x x g1 g1) (by first | exact .inl rfl | exact .inr (by simp)) (by simp) ?_
  simp (disch := first | omega | simp) [wrap_i64, le_most, lt_omega, le_omega, ne_omega, allLen]
  refine CallK.of (c40 vs g2) (by first | exact .inl rfl | exact .inr (by simp)) (by simp) ?_
  simp (disch := first | omega | simp) [wrap_i64, le_most, lt_omega, le_omega, ne_omega, allLen]
  refine CallK.of (c43 vs vs g2 g2) (by first | exact .inl rfl | exact .inr (by simp)) (by simp) ?_
  simp (disch := first | omega | simp) [wrap_i64, le_most, lt_omega, le_omega, ne_omega, allLen]
end Go.Vai
