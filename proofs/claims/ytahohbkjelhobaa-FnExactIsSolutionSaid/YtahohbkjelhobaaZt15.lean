import Derived.Test.YtahohbkjelhobaaZt14
set_option linter.unusedVariables false
set_option linter.unusedSimpArgs false
set_option maxHeartbeats 4000000
namespace Go.Vai
theorem c96 (l : List Int) (lo hi : Int) (h : (l.length : Int) ≤ 1048576) : PC E 96 [.i (.sl (l.map encI)), .i (.int .i64 lo), .i (.int .i64 hi)] [.i (.bool (rises l lo hi))] := by
  refine PC_start hE Proofs.Try.func96 rfl rfl Proofs.Try.ntmps96 (by kernel_rfl) (by kernel_rfl) (by simp) ?_
  simp (disch := first | omega | simp) [wrap_i64, le_most, lt_omega, le_omega, ne_omega, allLen]
  refine XL.by hE (ι := { k : Nat // k ≤ l.length ∧ ∀ j, j < k → riseAt l lo hi j = true }) (fun k => ⟨[(0, .i (.sl (l.map encI))), (1, .i (.int .i64 lo)), (2, .i (.int .i64 hi)), (9, .i (.sl (l.map encI))), (10, .i (.int .i64 l.length)), (11, .i (.int .i64 k.1))], []⟩) (fun k => l.length - k.1) ⟨0, Nat.zero_le _, by simp⟩
    ⟨by simp, by simp, by simp⟩ (by kernel_rfl) ?_
  rintro ⟨k, hk, hr⟩
  by_cases hlt : k < l.length
  · cases k with
    | zero =>
      have hd : riseAt l lo hi 0 = inB l[0] lo hi := by simp [riseAt, hlt]
      simp (disch := first | omega | simp) [wrap_i64, le_most, lt_omega, le_omega, ne_omega, allLen, hlt, encI]
      refine CallK.of (c85 _ _ _) (by first | exact .inl rfl | exact .inr (by simp)) (by simp) ?_
      simp (disch := first | omega | simp) [wrap_i64, le_most, lt_omega, le_omega, ne_omega, allLen, hlt]
      (first | refine Gd.dec (fun h4 => ?_) (fun h4 => ?_) | refine Gd.intro (fun h4 => ?_) (fun h4 => ?_)) <;> simp (disch := first | omega | simp) [wrap_i64, le_most, lt_omega, le_omega, ne_omega, allLen, h4]
      · (refine ⟨⟨1, by omega, all_step hr (by rw [hd, h4])⟩, by (simp; try omega), ?_⟩; constructor <;> (simp (disch := first | omega | simp) [wrap_i64, le_most, lt_omega, le_omega, ne_omega, allLen]) <;> (try omega))
      · rw [rises_false hlt (by rw [hd, h4])]
    | succ k =>
      have hlt' : k < l.length := by omega
      have hnn : ¬ ((k : Int) + 1 < 0) := by omega
      have hd : riseAt l lo hi (k + 1) = (inB l[k + 1] lo hi && decide (l[k] < l[k + 1])) := by simp [riseAt, hlt, hlt']
      simp (disch := first | omega | simp) [wrap_i64, le_most, lt_omega, le_omega, ne_omega, allLen, hlt, hlt', hnn, encI]
      refine CallK.of (c85 _ _ _) (by first | exact .inl rfl | exact .inr (by simp)) (by simp) ?_
      simp (disch := first | omega | simp) [wrap_i64, le_most, lt_omega, le_omega, ne_omega, allLen, hlt, hlt', hnn, encI]
      (first | refine Gd.dec (fun h4 => ?_) (fun h4 => ?_) | refine Gd.intro (fun h4 => ?_) (fun h4 => ?_)) <;> simp (disch := first | omega | simp) [wrap_i64, le_most, lt_omega, le_omega, ne_omega, allLen, h4]
      · simp (disch := first | omega | simp) [wrap_i64, le_most, lt_omega, le_omega, ne_omega, allLen, hlt, hlt', hnn, encI]
        (first | refine Gd.dec (fun h5 => ?_) (fun h5 => ?_) | refine Gd.intro (fun h5 => ?_) (fun h5 => ?_)) <;> simp (disch := first | omega | simp) [wrap_i64, le_most, lt_omega, le_omega, ne_omega, allLen, h5]
        · rw [rises_false hlt (by rw [hd, h4]; simp; omega)]
        · (refine ⟨⟨k + 1 + 1, by omega, all_step hr (by rw [hd, h4]; simp; omega)⟩, by (simp; try omega), ?_⟩; constructor <;> (simp (disch := first | omega | simp) [wrap_i64, le_most, lt_omega, le_omega, ne_omega, allLen]) <;> (try omega))
      · rw [rises_false hlt (by rw [hd, h4]; rfl)]
  · obtain rfl : k = l.length := by omega
    simp (disch := first | omega | simp) [wrap_i64, le_most, lt_omega, le_omega, ne_omega, allLen, rises_true hr]
theorem c105 (l : List Int) (lo hi : Int) (h : (l.length : Int) ≤ 1048576) : PC E 105 [.i (.sl (l.map encI)), .i (.int .i64 lo), .i (.int .i64 hi)] [.i (.bool (rises l lo hi))] := by
  refine PC_start hE Proofs.Try.func105 rfl rfl Proofs.Try.ntmps105 (by kernel_rfl) (by kernel_rfl) (by simp) ?_
  simp (disch := first | omega | simp) [wrap_i64, le_most, lt_omega, le_omega, ne_omega, allLen]
  refine XL.by hE (ι := { k : Nat // k ≤ l.length ∧ ∀ j, j < k → riseAt l lo hi j = true }) (fun k => ⟨[(0, .i (.sl (l.map encI))), (1, .i (.int .i64 lo)), (2, .i (.int .i64 hi)), (7, .i (.int .i64 k.1))], []⟩) (fun k => l.length - k.1) ⟨0, Nat.zero_le _, by simp⟩
    ⟨by simp, by simp, by simp⟩ (by kernel_rfl) ?_
  rintro ⟨k, hk, hr⟩
  by_cases hlt : k < l.length
  · cases k with
    | zero =>
      have hd : riseAt l lo hi 0 = inB l[0] lo hi := by simp [riseAt, hlt]
      simp (disch := first | omega | simp) [wrap_i64, le_most, lt_omega, le_omega, ne_omega, allLen, hlt, encI]
      refine CallK.of (c83 _ _ _) (by first | exact .inl rfl | exact .inr (by simp)) (by simp) ?_
      simp (disch := first | omega | simp) [wrap_i64, le_most, lt_omega, le_omega, ne_omega, allLen, hlt]
      (first | refine Gd.dec (fun h4 => ?_) (fun h4 => ?_) | refine Gd.intro (fun h4 => ?_) (fun h4 => ?_)) <;> simp (disch := first | omega | simp) [wrap_i64, le_most, lt_omega, le_omega, ne_omega, allLen, h4]
      · (refine ⟨⟨1, by omega, all_step hr (by rw [hd, h4])⟩, by (simp; try omega), ?_⟩; constructor <;> (simp (disch := first | omega | simp) [wrap_i64, le_most, lt_omega, le_omega, ne_omega, allLen]) <;> (try omega))
      · rw [rises_false hlt (by rw [hd, h4])]
    | succ k =>
      have hlt' : k < l.length := by omega
      have hnn : ¬ ((k : Int) + 1 < 0) := by omega
      have hd : riseAt l lo hi (k + 1) = (inB l[k + 1] lo hi && decide (l[k] < l[k + 1])) := by simp [riseAt, hlt, hlt']
      simp (disch := first | omega | simp) [wrap_i64, le_most, lt_omega, le_omega, ne_omega, allLen, hlt, hlt', hnn, encI]
      refine CallK.of (c83 _ _ _) (by first | exact .inl rfl | exact .inr (by simp)) (by simp) ?_
      simp (disch := first | omega | simp) [wrap_i64, le_most, lt_omega, le_omega, ne_omega, allLen, hlt, hlt', hnn, encI]
      (first | refine Gd.dec (fun h4 => ?_) (fun h4 => ?_) | refine Gd.intro (fun h4 => ?_) (fun h4 => ?_)) <;> simp (disch := first | omega | simp) [wrap_i64, le_most, lt_omega, le_omega, ne_omega, allLen, h4]
      · simp (disch := first | omega | simp) [wrap_i64, le_most, lt_omega, le_omega, ne_omega, allLen, hlt, hlt', hnn, encI]
        (first | refine Gd.dec (fun h5 => ?_) (fun h5 => ?_) | refine Gd.intro (fun h5 => ?_) (fun h5 => ?_)) <;> simp (disch := first | omega | simp) [wrap_i64, le_most, lt_omega, le_omega, ne_omega, allLen, h5]
        · rw [rises_false hlt (by rw [hd, h4]; simp; omega)]
        · (refine ⟨⟨k + 1 + 1, by omega, all_step hr (by rw [hd, h4]; simp; omega)⟩, by (simp; try omega), ?_⟩; constructor <;> (simp (disch := first | omega | simp) [wrap_i64, le_most, lt_omega, le_omega, ne_omega, allLen]) <;> (try omega))
      · rw [rises_false hlt (by rw [hd, h4]; rfl)]
  · obtain rfl : k = l.length := by omega
    simp (disch := first | omega | simp) [wrap_i64, le_most, lt_omega, le_omega, ne_omega, allLen, rises_true hr]
end Go.Vai
