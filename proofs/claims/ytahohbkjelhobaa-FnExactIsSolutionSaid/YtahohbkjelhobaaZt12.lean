import Derived.Test.YtahohbkjelhobaaZt10
set_option linter.unusedVariables false
set_option linter.unusedSimpArgs false
set_option maxHeartbeats 4000000
namespace Go.Vai
/-- A rule. -/
structure Ru where
  kind : Int
  vars : List Int
  signs : List Int
  deriving DecidableEq
def encR (x : Ru) : List IV := [.int .i64 x.kind, .sl (x.vars.map encI), .sl (x.signs.map encI)]
@[simp] theorem encR_len (x : Ru) : (encR x).length = 3 := rfl
@[simp] theorem encR_take (x : Ru) : (encR x).take 3 = encR x := rfl
def Ru.sz (x : Ru) : Nat := x.vars.length + x.signs.length
theorem typedR {n : Nat} {el : List IV} (h : Typed E n 45 el) : ∃ x, el = encR x ∧ x.vars.length ≤ maxLen ∧ x.signs.length ≤ maxLen := by
  cases n with
  | zero => exact h.elim
  | succ n =>
    simp only [Typed, k45, fieldsT] at h
    obtain ⟨a0, b0, rfl, h0, a1, b1, rfl, h1, a2, b2, rfl, h2, rfl⟩ := h
    obtain ⟨x0, rfl⟩ := typedI h0
    obtain ⟨x1, rfl, l1⟩ := typedSlice k23 (fun _ _ => typedI) h1
    obtain ⟨x2, rfl, l2⟩ := typedSlice k23 (fun _ _ => typedI) h2
    exact ⟨⟨x0, x1, x2⟩, rfl, l1, l2⟩
theorem c24 (x : Ru) (h1 : (x.sz : Int) ≤ 1048576) : PC E 24 [.agg (encR x)] [.agg (encR x)] := by
  unfold Ru.sz at h1
  refine PC_start hE Proofs.Try.func24 rfl rfl Proofs.Try.ntmps24 (by kernel_rfl) (by kernel_rfl) (by simp) ?_
  simp (disch := first | omega | simp) [wrap_i64, le_most, lt_omega, le_omega, ne_omega, allLen, encR]
  refine CallK.of ((c13 x.vars (by omega)).imm) (by first | exact .inl rfl | exact .inr (by simp)) (by simp) ?_
  simp (disch := first | omega | simp) [wrap_i64, le_most, lt_omega, le_omega, ne_omega, allLen]
  refine CallK.of ((c13 x.signs (by omega)).imm) (by first | exact .inl rfl | exact .inr (by simp)) (by simp) ?_
  simp (disch := first | omega | simp) [wrap_i64, le_most, lt_omega, le_omega, ne_omega, allLen]
theorem c22 (x : Ru) (n : Int) (h0 : 0 ≤ n) (h1 : n ≤ 1048576) (h2 : x.vars.length ≤ maxLen) (h3 : x.signs.length ≤ maxLen) :
    PC E 22 [.agg (encR x), .i (.int .i64 n)] [.i (.int .i64 (if n - x.sz < 0 then -1 else n - x.sz))] := by
  have m : maxLen = 9223372036854775807 := by decide
  refine PC_start hE Proofs.Try.func22 rfl rfl Proofs.Try.ntmps22 (by kernel_rfl) (by kernel_rfl) (by simp) ?_
  unfold Ru.sz
  simp (disch := first | omega | simp) [wrap_i64, le_most, lt_omega, le_omega, ne_omega, allLen, encR]
  refine CallK.of (c54 x.vars n h0 h1 (by omega)) (by first | exact .inl rfl | exact .inr (by simp)) (by simp) ?_
  simp (disch := first | omega | simp) [wrap_i64, le_most, lt_omega, le_omega, ne_omega, allLen]
  (first | refine Gd.dec (fun h4 => ?_) (fun h4 => ?_) | refine Gd.intro (fun h4 => ?_) (fun h4 => ?_)) <;> simp (disch := first | omega | simp) [wrap_i64, le_most, lt_omega, le_omega, ne_omega, allLen, h4]
  have h5 : ¬ n - x.vars.length < 0 := by split at h4 <;> omega
  rw [if_neg h5]
  refine CallK.of (c54 x.signs (n - x.vars.length) (by omega) (by omega) (by omega)) (by first | exact .inl rfl | exact .inr (by simp)) (by simp) ?_
  simp (disch := first | omega | simp) [wrap_i64, le_most, lt_omega, le_omega, ne_omega, allLen]
  (first | refine Gd.dec (fun h6 => ?_) (fun h6 => ?_) | refine Gd.intro (fun h6 => ?_) (fun h6 => ?_)) <;> simp (disch := first | omega | simp) [wrap_i64, le_most, lt_omega, le_omega, ne_omega, allLen, h6]
  have h7 : ¬ n - x.vars.length - x.signs.length < 0 := by split at h6 <;> omega
  rw [if_neg h7, if_neg (by omega)]
  omega
theorem c26 (x y : Ru) (h1 : (x.sz : Int) ≤ 1048576) (h2 : (y.sz : Int) ≤ 1048576) : PC E 26 [.agg (encR x), .agg (encR y)] [.i (.bool (decide (x = y)))] := by
  unfold Ru.sz at h1 h2
  refine PC_start hE Proofs.Try.func26 rfl rfl Proofs.Try.ntmps26 (by kernel_rfl) (by kernel_rfl) (by simp) ?_
  obtain ⟨k, a, b⟩ := x
  obtain ⟨k', a', b'⟩ := y
  simp at h1 h2
  simp (disch := first | omega | simp) [wrap_i64, le_most, lt_omega, le_omega, ne_omega, allLen, encR]
  (first | refine Gd.dec (fun h5 => ?_) (fun h5 => ?_) | refine Gd.intro (fun h5 => ?_) (fun h5 => ?_)) <;> simp (disch := first | omega | simp) [wrap_i64, le_most, lt_omega, le_omega, ne_omega, allLen, h5]
  refine CallK.of (c16 _ _ (by omega) (by omega)) (by first | exact .inl rfl | exact .inr (by simp)) (by simp) ?_
  simp (disch := first | omega | simp) [wrap_i64, le_most, lt_omega, le_omega, ne_omega, allLen]
  (first | refine Gd.dec (fun h8 => ?_) (fun h8 => ?_) | refine Gd.intro (fun h8 => ?_) (fun h8 => ?_)) <;> simp (disch := first | omega | simp) [wrap_i64, le_most, lt_omega, le_omega, ne_omega, allLen, h8]
  refine CallK.of (c16 _ _ (by omega) (by omega)) (by first | exact .inl rfl | exact .inr (by simp)) (by simp) ?_
  simp (disch := first | omega | simp) [wrap_i64, le_most, lt_omega, le_omega, ne_omega, allLen]
  (first | refine Gd.dec (fun h9 => ?_) (fun h9 => ?_) | refine Gd.intro (fun h9 => ?_) (fun h9 => ?_)) <;> simp (disch := first | omega | simp) [wrap_i64, le_most, lt_omega, le_omega, ne_omega, allLen, h9]
end Go.Vai
