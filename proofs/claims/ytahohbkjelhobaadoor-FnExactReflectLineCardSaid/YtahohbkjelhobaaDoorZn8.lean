import Derived.Test.YtahohbkjelhobaaDoorZn7
set_option linter.unusedVariables false
set_option linter.unusedSimpArgs false
set_option maxHeartbeats 4000000
namespace Go.Vai
theorem typedZ {n : Nat} {el : List IV} (h : Typed E n 2 el) : ∃ x, el = [.int .i64 x] ∧ -9223372036854775808 ≤ x ∧ x ≤ 9223372036854775807 := by
  cases n with
  | zero => exact h.elim
  | succ n =>
    simp only [Typed, k2] at h
    obtain ⟨x, rfl, hw⟩ := h
    refine ⟨x, rfl, ?_⟩
    simp only [Lit.wf, Bool.and_eq_true, decide_eq_true_eq] at hw
    have h1 : IntKind.i64.min = -9223372036854775808 := by decide
    have h2 : IntKind.i64.max = 9223372036854775807 := by decide
    omega
theorem typedNu {n : Nat} {el : List IV} (h : Typed E n 23 el) : ∃ x : Nu, el = encN x ∧ x.i64 := by
  cases n with
  | zero => exact h.elim
  | succ n =>
    simp only [Typed, k23, fieldsT] at h
    obtain ⟨a0, b0, rfl, h0, a1, b1, rfl, h1, a2, b2, rfl, h2, rfl⟩ := h
    obtain ⟨x0, rfl, l0⟩ := typedZ h0
    obtain ⟨x1, rfl, l1⟩ := typedZ h1
    obtain ⟨x2, rfl, l2⟩ := typedZ h2
    exact ⟨⟨x0, x1, x2⟩, rfl, l0, l1, l2⟩
theorem typedPt {n : Nat} {el : List IV} (h : Typed E n 35 el) : ∃ p : Pt, el = encP p ∧ p.x.i64 ∧ p.y.i64 := by
  cases n with
  | zero => exact h.elim
  | succ n =>
    simp only [Typed, k35, fieldsT] at h
    obtain ⟨a0, b0, rfl, h0, a1, b1, rfl, h1, rfl⟩ := h
    obtain ⟨x, rfl, hx⟩ := typedNu h0
    obtain ⟨y, rfl, hy⟩ := typedNu h1
    exact ⟨⟨x, y⟩, rfl, hx, hy⟩
theorem typedLi {n : Nat} {el : List IV} (h : Typed E n 25 el) : ∃ l : Li, el = encLi l ∧ l.off.i64 := by
  cases n with
  | zero => exact h.elim
  | succ n =>
    simp only [Typed, k25, fieldsT] at h
    obtain ⟨a0, b0, rfl, h0, a1, b1, rfl, h1, rfl⟩ := h
    obtain ⟨x, rfl, hx⟩ := typedZ h0
    obtain ⟨y, rfl, hy⟩ := typedNu h1
    exact ⟨⟨x, y⟩, rfl, hy⟩
theorem c22 (x : Nu) : PC E 22 [.agg (encN x)] [.agg (encN x)] := by
  refine PC_start hE Proofs.Tryd.func22 rfl rfl Proofs.Tryd.ntmps22 (by kernel_rfl) (by kernel_rfl) (by simp) ?_
  simp (disch := first | omega | simp) [wrap_i64, le_most, lt_omega, le_omega, ne_omega, allLen, encN]
theorem c28 (x y : Nu) : PC E 28 [.agg (encN x), .agg (encN y)] [.i (.bool (decide (x = y)))] := by
  refine PC_start hE Proofs.Tryd.func28 rfl rfl Proofs.Tryd.ntmps28 (by kernel_rfl) (by kernel_rfl) (by simp) ?_
  obtain ⟨a, b, k⟩ := x
  obtain ⟨a', b', k'⟩ := y
  simp (disch := first | omega | simp) [wrap_i64, le_most, lt_omega, le_omega, ne_omega, allLen, encN]
  (first | refine Gd.dec (fun h0 => ?_) (fun h0 => ?_) | refine Gd.intro (fun h0 => ?_) (fun h0 => ?_)) <;> simp (disch := first | omega | simp) [wrap_i64, le_most, lt_omega, le_omega, ne_omega, allLen, h0]
  (first | refine Gd.dec (fun h1 => ?_) (fun h1 => ?_) | refine Gd.intro (fun h1 => ?_) (fun h1 => ?_)) <;> simp (disch := first | omega | simp) [wrap_i64, le_most, lt_omega, le_omega, ne_omega, allLen, h1]
  (first | refine Gd.dec (fun h2 => ?_) (fun h2 => ?_) | refine Gd.intro (fun h2 => ?_) (fun h2 => ?_)) <;> simp (disch := first | omega | simp) [wrap_i64, le_most, lt_omega, le_omega, ne_omega, allLen, h2]
theorem c11 (p : Pt) : PC E 11 [.agg (encP p)] [.agg (encP p)] := by
  refine PC_start hE Proofs.Tryd.func11 rfl rfl Proofs.Tryd.ntmps11 (by kernel_rfl) (by kernel_rfl) (by simp) ?_
  simp (disch := first | omega | simp) [wrap_i64, le_most, lt_omega, le_omega, ne_omega, allLen, encP]
  refine CallK.of (c22 p.x) (by first | exact .inl rfl | exact .inr (by simp)) (by simp) ?_
  simp (disch := first | omega | simp) [wrap_i64, le_most, lt_omega, le_omega, ne_omega, allLen, encN]
  refine CallK.of (c22 p.y) (by first | exact .inl rfl | exact .inr (by simp)) (by simp) ?_
  simp (disch := first | omega | simp) [wrap_i64, le_most, lt_omega, le_omega, ne_omega, allLen, encN]
theorem c7 (l : Li) : PC E 7 [.agg (encLi l)] [.agg (encLi l)] := by
  refine PC_start hE Proofs.Tryd.func7 rfl rfl Proofs.Tryd.ntmps7 (by kernel_rfl) (by kernel_rfl) (by simp) ?_
  simp (disch := first | omega | simp) [wrap_i64, le_most, lt_omega, le_omega, ne_omega, allLen, encLi]
  refine CallK.of (c22 l.off) (by first | exact .inl rfl | exact .inr (by simp)) (by simp) ?_
  simp (disch := first | omega | simp) [wrap_i64, le_most, lt_omega, le_omega, ne_omega, allLen, encN]
theorem c9 (x y : Li) : PC E 9 [.agg (encLi x), .agg (encLi y)] [.i (.bool (decide (x = y)))] := by
  refine PC_start hE Proofs.Tryd.func9 rfl rfl Proofs.Tryd.ntmps9 (by kernel_rfl) (by kernel_rfl) (by simp) ?_
  obtain ⟨a, b⟩ := x
  obtain ⟨a', b'⟩ := y
  simp (disch := first | omega | simp) [wrap_i64, le_most, lt_omega, le_omega, ne_omega, allLen, encLi]
  (first | refine Gd.dec (fun h0 => ?_) (fun h0 => ?_) | refine Gd.intro (fun h0 => ?_) (fun h0 => ?_)) <;> simp (disch := first | omega | simp) [wrap_i64, le_most, lt_omega, le_omega, ne_omega, allLen, h0]
  refine CallK.of (c28 b b') (by first | exact .inl rfl | exact .inr (by simp)) (by simp) ?_
  simp (disch := first | omega | simp) [wrap_i64, le_most, lt_omega, le_omega, ne_omega, allLen]
  (first | refine Gd.dec (fun h1 => ?_) (fun h1 => ?_) | refine Gd.intro (fun h1 => ?_) (fun h1 => ?_)) <;> simp (disch := first | omega | simp) [wrap_i64, le_most, lt_omega, le_omega, ne_omega, allLen, h1]
end Go.Vai
