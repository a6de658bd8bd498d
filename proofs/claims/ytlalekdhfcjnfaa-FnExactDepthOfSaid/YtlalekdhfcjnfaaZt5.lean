import Derived.Test.YtlalekdhfcjnfaaZt4
set_option linter.unusedVariables false
set_option linter.unusedSimpArgs false
set_option maxHeartbeats 4000000
namespace Go.Vai
theorem c14 (ls : List Ly) (h : (ls.length : Int) ≤ 1048576) : PC E 14 [.i (.sl (ls.map encL))] [.i (.bool ((mrun ls).ok && decide ((mrun ls).op.length = 0)))] := by
  refine PC_start hE Proofs.Try.func14 rfl rfl Proofs.Try.ntmps14 (by kernel_rfl) (by kernel_rfl) (by simp) ?_
  simp (disch := first | omega | simp) [wrap_i64, le_most, lt_omega, le_omega, allLen]
  refine CallK.of (c56 ls h) (.inl rfl) (by simp) ?_
  simp (disch := first | omega | simp) [wrap_i64, le_most, lt_omega, le_omega, allLen]
theorem c16 (ls : List Ly) (h : (ls.length : Int) ≤ 1048576) : PC E 16 [.i (.sl (ls.map encL))] [.i (.bool ((mrun ls).ok && decide ((mrun ls).op.length = 0)))] := by
  refine PC_start hE Proofs.Try.func16 rfl rfl Proofs.Try.ntmps16 (by kernel_rfl) (by kernel_rfl) (by simp) ?_
  simp (disch := first | omega | simp) [wrap_i64, le_most, lt_omega, le_omega, allLen]
  refine CallK.of (c58 ls h) (.inl rfl) (by simp) ?_
  simp (disch := first | omega | simp) [wrap_i64, le_most, lt_omega, le_omega, allLen]
theorem c18 (ls : List Ly) (h : (ls.length : Int) ≤ 1048576) : PC E 18 [.i (.sl (ls.map encL))] [.i (.int .i64 (mrun ls).most)] := by
  refine PC_start hE Proofs.Try.func18 rfl rfl Proofs.Try.ntmps18 (by kernel_rfl) (by kernel_rfl) (by simp) ?_
  simp (disch := first | omega | simp) [wrap_i64, le_most, lt_omega, le_omega, allLen]
  refine CallK.of (c56 ls h) (.inl rfl) (by simp) ?_
  simp (disch := first | omega | simp) [wrap_i64, le_most, lt_omega, le_omega, allLen]
theorem c19 (ls : List Ly) (h : (ls.length : Int) ≤ 1048576) : PC E 19 [.i (.sl (ls.map encL))] [.i (.int .i64 (mrun ls).most)] := by
  refine PC_start hE Proofs.Try.func19 rfl rfl Proofs.Try.ntmps19 (by kernel_rfl) (by kernel_rfl) (by simp) ?_
  simp (disch := first | omega | simp) [wrap_i64, le_most, lt_omega, le_omega, allLen]
  refine CallK.of (c58 ls h) (.inl rfl) (by simp) ?_
  simp (disch := first | omega | simp) [wrap_i64, le_most, lt_omega, le_omega, allLen]
theorem c17 (ls ms : List Ly) (h : (ls.length : Int) ≤ 1048576) (hm : (ms.length : Int) ≤ 1048576) : PC E 17 [.i (.sl (ls.map encL)), .i (.sl (ms.map encL))] [.i (.bool (decide (ls = ms)))] := by
  refine PC_start hE Proofs.Try.func17 rfl rfl Proofs.Try.ntmps17 (by kernel_rfl) (by kernel_rfl) (by simp) ?_
  simp (disch := first | omega | simp) [wrap_i64, le_most, lt_omega, le_omega, allLen]
  (first | refine Gd.dec (fun h1 => ?_) (fun h1 => ?_) | refine Gd.intro (fun h1 => ?_) (fun h1 => ?_)) <;> simp (disch := first | omega | simp) [wrap_i64, le_most, lt_omega, le_omega, allLen, h1]
  rotate_left
  · intro e; subst e; exact h1 rfl
  refine XL.by hE (ι := { k : Nat // k ≤ ls.length ∧ ls.take k = ms.take k }) (fun p => ⟨[(5, .i (.int .i64 p.1)), (0, .i (.sl (ls.map encL))), (1, .i (.sl (ms.map encL)))], []⟩) (fun p => ls.length - p.1) ⟨0, by simp⟩
    ⟨by simp, by simp, by simp⟩ (by kernel_rfl) ?_
  rintro ⟨k, hk, he⟩
  have hl : ls.length = ms.length := by omega
  by_cases hlt : k < ls.length
  · have hlt' : k < ms.length := by omega
    simp (disch := first | omega | simp) [wrap_i64, le_most, lt_omega, le_omega, allLen, hlt, hlt']
    refine CallK.of (c59 _ _) (.inl rfl) (by simp) ?_
    simp (disch := first | omega | simp) [wrap_i64, le_most, lt_omega, le_omega, allLen, hlt, hlt']
    (first | refine Gd.dec (fun h4 => ?_) (fun h4 => ?_) | refine Gd.intro (fun h4 => ?_) (fun h4 => ?_)) <;> simp (disch := first | omega | simp) [wrap_i64, le_most, lt_omega, le_omega, allLen, h4]
    · have : ls.take (k + 1) = ms.take (k + 1) := by rw [List.take_succ_eq_append_getElem hlt, List.take_succ_eq_append_getElem hlt', he, h4]
      (refine ⟨⟨k + 1, by omega, this⟩, by (simp; try omega), ?_⟩; constructor <;> (simp (disch := first | omega | simp) [wrap_i64, le_most, lt_omega, le_omega, allLen]) <;> (try omega))
    · intro e; subst e; exact h4 rfl
  · obtain rfl : k = ls.length := by omega
    rw [List.take_of_length_le (by omega), List.take_of_length_le (by omega)] at he
    simp (disch := first | omega | simp) [wrap_i64, le_most, lt_omega, le_omega, allLen, hl, he]
theorem c3 (ls : List Ly) (h : (ls.length : Int) ≤ 9223372036854775807) : PC E 3 [.i (.sl (ls.map encL))] [.i (.bool true)] := by
  refine PC_start hE Proofs.Try.func3 rfl rfl Proofs.Try.ntmps3 (by kernel_rfl) (by kernel_rfl) (by simp) ?_
  simp (disch := first | omega | simp) [wrap_i64, le_most, lt_omega, le_omega, allLen]
  refine CallK.of (c13 ls 1048576 (by omega) (by omega) h) (.inl rfl) (by simp) ?_
  simp (disch := first | omega | simp) [wrap_i64, le_most, lt_omega, le_omega, allLen]
  (first | refine Gd.dec (fun h1 => ?_) (fun h1 => ?_) | refine Gd.intro (fun h1 => ?_) (fun h1 => ?_)) <;> simp (disch := first | omega | simp) [wrap_i64, le_most, lt_omega, le_omega, allLen, h1]
  have h : (ls.length : Int) ≤ 1048576 := by split at h1 <;> omega
  refine CallK.of (c15 ls h) (.inl rfl) (by simp) ?_
  simp (disch := first | omega | simp) [wrap_i64, le_most, lt_omega, le_omega, allLen]
  refine CallK.of (c14 ls h) (.inr (by simp)) (by simp) ?_
  simp (disch := first | omega | simp) [wrap_i64, le_most, lt_omega, le_omega, allLen]
  refine CallK.of (c15 ls h) (.inl rfl) (by simp) ?_
  simp (disch := first | omega | simp) [wrap_i64, le_most, lt_omega, le_omega, allLen]
  refine CallK.of (c16 ls h) (.inr (by simp)) (by simp) ?_
  simp (disch := first | omega | simp) [wrap_i64, le_most, lt_omega, le_omega, allLen]
  refine CallK.of (c15 ls h) (.inl rfl) (by simp) ?_
  simp (disch := first | omega | simp) [wrap_i64, le_most, lt_omega, le_omega, allLen]
  refine CallK.of (c17 ls ls h h) (.inr (by simp)) (by simp) ?_
  simp (disch := first | omega | simp) [wrap_i64, le_most, lt_omega, le_omega, allLen]
theorem c4 (ls : List Ly) (h : (ls.length : Int) ≤ 9223372036854775807) : PC E 4 [.i (.sl (ls.map encL))] [.i (.bool true)] := by
  refine PC_start hE Proofs.Try.func4 rfl rfl Proofs.Try.ntmps4 (by kernel_rfl) (by kernel_rfl) (by simp) ?_
  simp (disch := first | omega | simp) [wrap_i64, le_most, lt_omega, le_omega, allLen]
  refine CallK.of (c13 ls 1048576 (by omega) (by omega) h) (.inl rfl) (by simp) ?_
  simp (disch := first | omega | simp) [wrap_i64, le_most, lt_omega, le_omega, allLen]
  (first | refine Gd.dec (fun h1 => ?_) (fun h1 => ?_) | refine Gd.intro (fun h1 => ?_) (fun h1 => ?_)) <;> simp (disch := first | omega | simp) [wrap_i64, le_most, lt_omega, le_omega, allLen, h1]
  have h : (ls.length : Int) ≤ 1048576 := by split at h1 <;> omega
  refine CallK.of (c15 ls h) (.inl rfl) (by simp) ?_
  simp (disch := first | omega | simp) [wrap_i64, le_most, lt_omega, le_omega, allLen]
  refine CallK.of (c18 ls h) (.inr (by simp)) (by simp) ?_
  simp (disch := first | omega | simp) [wrap_i64, le_most, lt_omega, le_omega, allLen]
  refine CallK.of (c15 ls h) (.inl rfl) (by simp) ?_
  simp (disch := first | omega | simp) [wrap_i64, le_most, lt_omega, le_omega, allLen]
  refine CallK.of (c19 ls h) (.inr (by simp)) (by simp) ?_
  simp (disch := first | omega | simp) [wrap_i64, le_most, lt_omega, le_omega, allLen]
  refine CallK.of (c15 ls h) (.inl rfl) (by simp) ?_
  simp (disch := first | omega | simp) [wrap_i64, le_most, lt_omega, le_omega, allLen]
  refine CallK.of (c17 ls ls h h) (.inr (by simp)) (by simp) ?_
  simp (disch := first | omega | simp) [wrap_i64, le_most, lt_omega, le_omega, allLen]
end Go.Vai
