import Derived.Test.YtahohbkjelhobaaZt21
set_option linter.unusedVariables false
set_option linter.unusedSimpArgs false
set_option maxHeartbeats 4000000
namespace Go.Vai
def valsB (vs : List Int) : Bool := vs.all fun v => inB v (-1) 1
theorem c97 (s : Int) : PC E 97 [.i (.int .i64 s)] [.i (.bool (!inB s (-1) 1))] := by
  refine PC_start hE Proofs.Try.func97 rfl rfl Proofs.Try.ntmps97 (by kernel_rfl) (by kernel_rfl) (by simp) ?_
  simp (disch := first | omega | simp) [wrap_i64, le_most, lt_omega, le_omega, ne_omega, allLen]
  refine CallK.of (c85 _ _ _) (by first | exact .inl rfl | exact .inr (by simp)) (by simp) ?_
  simp (disch := first | omega | simp) [wrap_i64, le_most, lt_omega, le_omega, ne_omega, allLen]
theorem c69 (l : List Int) (h : (l.length : Int) ≤ 1048576) : PC E 69 [.i (.sl (l.map encI))] [.i (.bool (valsB l))] := by
  refine PC_start hE Proofs.Try.func69 rfl rfl Proofs.Try.ntmps69 (by kernel_rfl) (by kernel_rfl) (by simp) ?_
  simp (disch := first | omega | simp) [wrap_i64, le_most, lt_omega, le_omega, ne_omega, allLen]
  refine CallK.of (c87 l 97 [] (fun s => !inB s (-1) 1) (fun x _ => c97 x) h) (by first | exact .inl rfl | exact .inr (by simp)) (by simp) ?_
  simp (disch := first | omega | simp) [wrap_i64, le_most, lt_omega, le_omega, ne_omega, allLen, List.not_any_eq_all_not, valsB]
theorem c43 (l : List Int) (h : (l.length : Int) ≤ 1048576) : PC E 43 [.i (.sl (l.map encI))] [.i (.bool (valsB l))] := by
  refine PC_start hE Proofs.Try.func43 rfl rfl Proofs.Try.ntmps43 (by kernel_rfl) (by kernel_rfl) (by simp) ?_
  simp (disch := first | omega | simp) [wrap_i64, le_most, lt_omega, le_omega, ne_omega, allLen]
  refine XL.by hE (ι := { k : Nat // k ≤ l.length ∧ ∀ (j : Nat) (hj : j < l.length), j < k → inB l[j] (-1) 1 = true }) (fun k => ⟨[(0, .i (.sl (l.map encI))), (3, .i (.int .i64 k.1))], []⟩)
    (fun k => l.length - k.1) ⟨0, Nat.zero_le _, by simp⟩ ⟨by simp, by simp, by simp⟩ (by kernel_rfl) ?_
  rintro ⟨k, hk, hno⟩
  by_cases hlt : k < l.length
  · simp (disch := first | omega | simp) [wrap_i64, le_most, lt_omega, le_omega, ne_omega, allLen, hlt, encI]
    refine CallK.of (c83 _ _ _) (by first | exact .inl rfl | exact .inr (by simp)) (by simp) ?_
    simp (disch := first | omega | simp) [wrap_i64, le_most, lt_omega, le_omega, ne_omega, allLen, hlt]
    (first | refine Gd.dec (fun h4 => ?_) (fun h4 => ?_) | refine Gd.intro (fun h4 => ?_) (fun h4 => ?_)) <;> simp (disch := first | omega | simp) [wrap_i64, le_most, lt_omega, le_omega, ne_omega, allLen, h4]
    · (refine ⟨⟨k + 1, by omega, step_yes (p := fun v => inB v (-1) 1) hno hlt h4⟩, by (simp; try omega), ?_⟩; constructor <;> (simp (disch := first | omega | simp) [wrap_i64, le_most, lt_omega, le_omega, ne_omega, allLen]) <;> (try omega))
    · rw [valsB, all_false_of (p := fun v => inB v (-1) 1) hlt h4]
  · have := all_true_of (p := fun v => inB v (-1) 1) (l := l) fun j hj => hno j hj (by omega)
    simp (disch := first | omega | simp) [wrap_i64, le_most, lt_omega, le_omega, ne_omega, allLen, hlt, valsB]
    simpa using this
theorem rfit_of {x : Ru} {vs : List Int} (h1 : rv x vs.length = true) (h2 : valsB vs = true) : RFit x vs := by
  simp only [rv, Bool.and_eq_true, decide_eq_true_eq] at h1
  obtain ⟨-, -, h3, h4, h5⟩ := h1
  refine ⟨by omega, fun k h => ?_, fun k h => ?_, fun k h => ?_⟩
  · simp only [rises, List.all_eq_true, List.mem_range] at h4
    have := h4 k h
    simp [riseAt, inB, h] at this
    omega
  · rw [List.all_eq_true] at h5
    have := h5 _ (List.getElem_mem h)
    simpa [unitB] using this
  · rw [valsB, List.all_eq_true] at h2
    have := h2 _ (List.getElem_mem h)
    simp [inB] at this
    unfold tri; omega
def rholds (x : Ru) (vs : List Int) : Int := if (inB vs.length 0 200 && rv x vs.length) = true ∧ valsB vs = true then ihol x.kind (terms x vs) else 0
end Go.Vai
