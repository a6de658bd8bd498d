import Derived.Test.YtlalekdhfcjnfaaZt25
import Derived.Test.YtlalekdhfcjnfaaZt18
set_option linter.unusedVariables false
set_option linter.unusedSimpArgs false
set_option maxHeartbeats 4000000
namespace Go.Vai
theorem typedI64 {n : Nat} {el : List IV} (h : Typed E n 2 el) : ∃ x, el = encI x ∧ i64B x := by
  cases n with
  | zero => exact h.elim
  | succ n =>
    simp only [Typed, k2] at h
    obtain ⟨x, rfl, hw⟩ := h
    refine ⟨x, rfl, ?_⟩
    simp only [Lit.wf, Bool.and_eq_true, decide_eq_true_eq] at hw
    have h1 : IntKind.i64.min = -9223372036854775808 := by decide
    have h2 : IntKind.i64.max = 9223372036854775807 := by decide
    unfold i64B; omega
theorem typedC64 {n : Nat} {el : List IV} (h : Typed E n 44 el) : ∃ x, el = encC x ∧ x.order.length ≤ maxLen ∧ x.nodes.length ≤ maxLen ∧ (∀ v ∈ x.order, i64B v) ∧ i64B x.b := by
  cases n with
  | zero => exact h.elim
  | succ n =>
    simp only [Typed, k44, fieldsT] at h
    obtain ⟨a0, b0, rfl, h0, a1, b1, rfl, h1, a2, b2, rfl, h2, a3, b3, rfl, h3, a4, b4, rfl, h4, rfl⟩ := h
    obtain ⟨x0, rfl⟩ := typedI h0
    obtain ⟨x1, rfl⟩ := typedI h1
    obtain ⟨x2, rfl, l2⟩ := typedI64 h2
    obtain ⟨x3, rfl, l3, r3⟩ := typedSlice' (enc := encI) k42 (fun _ _ => typedI64) h3
    obtain ⟨x4, rfl, l4⟩ := typedSlice k35 (fun _ _ => typedNd) h4
    exact ⟨⟨x0, x1, x2, x3, x4⟩, rfl, l3, l4, r3, l2⟩
/-- A certificate has its form. -/
def certB (x : Ct) : Bool :=
  if x.kind = 1 then decide (x.nodes = []) && decide (x.a = 0) && decide (x.b = 0) && antiAll x.order (fsz x.order.length) && decide (0 < fsz x.order.length)
  else if x.kind = 2 then decide (x.order = []) && decide (x.nodes = []) && inB x.a 0 39 && inB x.b 1 3
  else if x.kind = 3 then decide (x.order = []) && decide (x.nodes = []) && inB x.a 0 69 && inB x.b 0 69 && decide (x.a < x.b)
  else if x.kind = 4 then decide (x.order = []) && decide (x.a = 0) && decide (x.b = 0) && inB x.nodes.length 1 500 && x.nodes.all nodeB
  else false
theorem inB_iff {n lo hi : Int} : inB n lo hi = true ↔ lo ≤ n ∧ n ≤ hi := by simp [inB]
theorem c55 (x : Ct) (h1 : (x.order.length : Int) ≤ 1048576) (h2 : (x.nodes.length : Int) ≤ 1048576) : PC E 55 [.agg (encC x)] [.i (.bool (certB x))] := by
  obtain ⟨kind, a, b, order, nodes⟩ := x
  simp only at h1 h2
  refine PC_start hE Proofs.Try.func55 rfl rfl Proofs.Try.ntmps55 (by kernel_rfl) (by kernel_rfl) (by simp) ?_
  by_cases k1 : kind = 1
  · subst k1
    simp (disch := first | omega | simp) [wrap_i64, le_most, lt_omega, le_omega, ne_omega, allLen, encC]
    (first | refine Gd.dec (fun n1 => ?_) (fun n1 => ?_) | refine Gd.intro (fun n1 => ?_) (fun n1 => ?_)) <;> simp (disch := first | omega | simp) [wrap_i64, le_most, lt_omega, le_omega, ne_omega, allLen, n1]
    · rcases nodes with _ | ⟨y, t⟩
      · simp at n1
      · simp [certB]
    · obtain rfl : nodes = [] := by cases nodes with
        | nil => rfl
        | cons y t => exact absurd (by simp) n1
      simp (disch := first | omega | simp) [wrap_i64, le_most, lt_omega, le_omega, ne_omega, allLen]
      (first | refine Gd.dec (fun a1 => ?_) (fun a1 => ?_) | refine Gd.intro (fun a1 => ?_) (fun a1 => ?_)) <;> simp (disch := first | omega | simp) [wrap_i64, le_most, lt_omega, le_omega, ne_omega, allLen, a1]
      · (first | refine Gd.dec (fun b1 => ?_) (fun b1 => ?_) | refine Gd.intro (fun b1 => ?_) (fun b1 => ?_)) <;> simp (disch := first | omega | simp) [wrap_i64, le_most, lt_omega, le_omega, ne_omega, allLen, b1]
        · refine CallK.of (c90 order h1) (by first | exact .inl rfl | exact .inr (by simp)) (by simp) ?_
          simp (disch := first | omega | simp) [wrap_i64, le_most, lt_omega, le_omega, ne_omega, allLen]
          simp [certB, a1, b1]
        · simp [certB, a1, b1]
      · simp [certB, a1]
  · simp (disch := first | omega | simp) [wrap_i64, le_most, lt_omega, le_omega, ne_omega, allLen, encC, k1]
    (first | refine Gd.dec (fun o1 => ?_) (fun o1 => ?_) | refine Gd.intro (fun o1 => ?_) (fun o1 => ?_)) <;> simp (disch := first | omega | simp) [wrap_i64, le_most, lt_omega, le_omega, ne_omega, allLen, o1]
    · rcases order with _ | ⟨y, t⟩
      · simp at o1
      · simp [certB, k1]
    · obtain rfl : order = [] := by cases order with
        | nil => rfl
        | cons y t => exact absurd (by simp) o1
      by_cases k4 : kind = 4
      · subst k4
        simp (disch := first | omega | simp) [wrap_i64, le_most, lt_omega, le_omega, ne_omega, allLen]
        (first | refine Gd.dec (fun a1 => ?_) (fun a1 => ?_) | refine Gd.intro (fun a1 => ?_) (fun a1 => ?_)) <;> simp (disch := first | omega | simp) [wrap_i64, le_most, lt_omega, le_omega, ne_omega, allLen, a1]
        · (first | refine Gd.dec (fun b1 => ?_) (fun b1 => ?_) | refine Gd.intro (fun b1 => ?_) (fun b1 => ?_)) <;> simp (disch := first | omega | simp) [wrap_i64, le_most, lt_omega, le_omega, ne_omega, allLen, b1]
          · refine CallK.of (c91 nodes) (by first | exact .inl rfl | exact .inr (by simp)) (by simp) ?_
            simp (disch := first | omega | simp) [wrap_i64, le_most, lt_omega, le_omega, ne_omega, allLen]
            refine CallK.of (c71 _ _ _) (by first | exact .inl rfl | exact .inr (by simp)) (by simp) ?_
            simp (disch := first | omega | simp) [wrap_i64, le_most, lt_omega, le_omega, ne_omega, allLen]
            (first | refine Gd.dec (fun l1 => ?_) (fun l1 => ?_) | refine Gd.intro (fun l1 => ?_) (fun l1 => ?_)) <;> simp (disch := first | omega | simp) [wrap_i64, le_most, lt_omega, le_omega, ne_omega, allLen, l1]
            · refine CallK.of (c92 nodes 93 [] (fun s => !nodeB s) (fun x _ => c93 x) h2) (by first | exact .inl rfl | exact .inr (by simp)) (by simp) ?_
              simp (disch := first | omega | simp) [wrap_i64, le_most, lt_omega, le_omega, ne_omega, allLen]
              simp [certB, a1, b1, l1, List.not_all_eq_any_not]
            · simp [certB, a1, b1, l1]
          · simp [certB, a1, b1]
        · simp [certB, a1]
      · simp (disch := first | omega | simp) [wrap_i64, le_most, lt_omega, le_omega, ne_omega, allLen, k4]
        (first | refine Gd.dec (fun n1 => ?_) (fun n1 => ?_) | refine Gd.intro (fun n1 => ?_) (fun n1 => ?_)) <;> simp (disch := first | omega | simp) [wrap_i64, le_most, lt_omega, le_omega, ne_omega, allLen, n1]
        · rcases nodes with _ | ⟨y, t⟩
          · simp at n1
          · simp [certB, k1, k4]
        · obtain rfl : nodes = [] := by cases nodes with
            | nil => rfl
            | cons y t => exact absurd (by simp) n1
          simp (disch := first | omega | simp) [wrap_i64, le_most, lt_omega, le_omega, ne_omega, allLen, k1, k4]
          (first | refine Gd.dec (fun k2 => ?_) (fun k2 => ?_) | refine Gd.intro (fun k2 => ?_) (fun k2 => ?_)) <;> simp (disch := first | omega | simp) [wrap_i64, le_most, lt_omega, le_omega, ne_omega, allLen, k2]
          · refine CallK.of (c71 _ _ _) (by first | exact .inl rfl | exact .inr (by simp)) (by simp) ?_
            simp (disch := first | omega | simp) [wrap_i64, le_most, lt_omega, le_omega, ne_omega, allLen]
            (first | refine Gd.dec (fun a1 => ?_) (fun a1 => ?_) | refine Gd.intro (fun a1 => ?_) (fun a1 => ?_)) <;> simp (disch := first | omega | simp) [wrap_i64, le_most, lt_omega, le_omega, ne_omega, allLen, a1]
            · refine CallK.of (c71 _ _ _) (by first | exact .inl rfl | exact .inr (by simp)) (by simp) ?_
              simp (disch := first | omega | simp) [wrap_i64, le_most, lt_omega, le_omega, ne_omega, allLen]
              simp [certB, k2, a1]
            · simp [certB, k2, a1]
          · (first | refine Gd.dec (fun k3 => ?_) (fun k3 => ?_) | refine Gd.intro (fun k3 => ?_) (fun k3 => ?_)) <;> simp (disch := first | omega | simp) [wrap_i64, le_most, lt_omega, le_omega, ne_omega, allLen, k3]
            · refine CallK.of (c71 _ _ _) (by first | exact .inl rfl | exact .inr (by simp)) (by simp) ?_
              simp (disch := first | omega | simp) [wrap_i64, le_most, lt_omega, le_omega, ne_omega, allLen]
              (first | refine Gd.dec (fun a1 => ?_) (fun a1 => ?_) | refine Gd.intro (fun a1 => ?_) (fun a1 => ?_)) <;> simp (disch := first | omega | simp) [wrap_i64, le_most, lt_omega, le_omega, ne_omega, allLen, a1]
              · refine CallK.of (c71 _ _ _) (by first | exact .inl rfl | exact .inr (by simp)) (by simp) ?_
                simp (disch := first | omega | simp) [wrap_i64, le_most, lt_omega, le_omega, ne_omega, allLen]
                (first | refine Gd.dec (fun b1 => ?_) (fun b1 => ?_) | refine Gd.intro (fun b1 => ?_) (fun b1 => ?_)) <;> simp (disch := first | omega | simp) [wrap_i64, le_most, lt_omega, le_omega, ne_omega, allLen, b1]
                · simp [certB, k3, a1, b1]
                · simp [certB, k3, a1, b1]
              · simp [certB, k3, a1]
            · simp [certB, k1, k2, k3, k4]
theorem c89 (x : Ct) (hb : i64B x.b) (ho : ∀ v ∈ x.order, i64B v) (h1 : (x.order.length : Int) ≤ 1048576) (h2 : (x.nodes.length : Int) ≤ 1048576) : PC E 89 [.i (.ptr (encC x))] [.i (.bool (certB x))] := by
  obtain ⟨kind, a, b, order, nodes⟩ := x
  simp only at h1 h2 hb ho
  have hw : -9223372036854775808 ≤ b ∧ b ≤ 9223372036854775807 := hb
  refine PC_start hE Proofs.Try.func89 rfl rfl Proofs.Try.ntmps89 (by kernel_rfl) (by kernel_rfl) (by simp) ?_
  by_cases k1 : kind = 1
  · subst k1
    simp (disch := first | omega | simp) [wrap_i64, le_most, lt_omega, le_omega, ne_omega, allLen, encC]
    (first | refine Gd.dec (fun n1 => ?_) (fun n1 => ?_) | refine Gd.intro (fun n1 => ?_) (fun n1 => ?_)) <;> simp (disch := first | omega | simp) [wrap_i64, le_most, lt_omega, le_omega, ne_omega, allLen, n1]
    · rcases nodes with _ | ⟨y, t⟩
      · simp at n1
      · simp [certB]
    · obtain rfl : nodes = [] := by cases nodes with
        | nil => rfl
        | cons y t => exact absurd (by simp) n1
      simp (disch := first | omega | simp) [wrap_i64, le_most, lt_omega, le_omega, ne_omega, allLen]
      (first | refine Gd.dec (fun a1 => ?_) (fun a1 => ?_) | refine Gd.intro (fun a1 => ?_) (fun a1 => ?_)) <;> simp (disch := first | omega | simp) [wrap_i64, le_most, lt_omega, le_omega, ne_omega, allLen, a1]
      · (first | refine Gd.dec (fun b1 => ?_) (fun b1 => ?_) | refine Gd.intro (fun b1 => ?_) (fun b1 => ?_)) <;> simp (disch := first | omega | simp) [wrap_i64, le_most, lt_omega, le_omega, ne_omega, allLen, b1]
        · refine CallK.of (c108 order h1) (by first | exact .inl rfl | exact .inr (by simp)) (by simp) ?_
          simp (disch := first | omega | simp) [wrap_i64, le_most, lt_omega, le_omega, ne_omega, allLen, anti_eq ho]
          simp [certB, a1, b1]
        · simp [certB, a1, b1]
      · simp [certB, a1]
  · simp (disch := first | omega | simp) [wrap_i64, le_most, lt_omega, le_omega, ne_omega, allLen, encC, k1]
    (first | refine Gd.dec (fun o1 => ?_) (fun o1 => ?_) | refine Gd.intro (fun o1 => ?_) (fun o1 => ?_)) <;> simp (disch := first | omega | simp) [wrap_i64, le_most, lt_omega, le_omega, ne_omega, allLen, o1]
    · rcases order with _ | ⟨y, t⟩
      · simp at o1
      · simp [certB, k1]
    · obtain rfl : order = [] := by cases order with
        | nil => rfl
        | cons y t => exact absurd (by simp) o1
      by_cases k4 : kind = 4
      · subst k4
        simp (disch := first | omega | simp) [wrap_i64, le_most, lt_omega, le_omega, ne_omega, allLen]
        refine XL.by hE (ι := { k : Nat // k ≤ nodes.length ∧ ∀ (j : Nat) (hj : j < nodes.length), j < k → nodeB nodes[j] = true }) (fun k => ⟨[(0, .i (.ptr [.int .i64 4, .int .i64 a, .int .i64 b, .sl [], .sl (nodes.map encNd)])), (3, .i (.int .i64 k.1))], []⟩)
          (fun k => nodes.length - k.1) ⟨0, Nat.zero_le _, by simp⟩ ⟨by simp, by simp, by simp⟩ (by kernel_rfl) ?_
        rintro ⟨k, hk, hno⟩
        by_cases hlt : k < nodes.length
        · simp (disch := first | omega | simp) [wrap_i64, le_most, lt_omega, le_omega, ne_omega, allLen, hlt]
          refine CallK.of (c109 nodes[k]) (by first | exact .inl rfl | exact .inr (by simp)) (by simp) ?_
          simp (disch := first | omega | simp) [wrap_i64, le_most, lt_omega, le_omega, ne_omega, allLen, hlt]
          (first | refine Gd.dec (fun h4 => ?_) (fun h4 => ?_) | refine Gd.intro (fun h4 => ?_) (fun h4 => ?_)) <;> simp (disch := first | omega | simp) [wrap_i64, le_most, lt_omega, le_omega, ne_omega, allLen, h4]
          · (refine ⟨⟨k + 1, by omega, step_yes (p := nodeB) hno hlt h4⟩, by (simp; try omega), ?_⟩; constructor <;> (simp (disch := first | omega | simp) [wrap_i64, le_most, lt_omega, le_omega, ne_omega, allLen]) <;> (try omega))
          · have := all_false_of (p := nodeB) hlt h4
            simp [certB, this]
        · have hal := all_true_of (p := nodeB) (l := nodes) fun j hj => hno j hj (by omega)
          simp (disch := first | omega | simp) [wrap_i64, le_most, lt_omega, le_omega, ne_omega, allLen, hlt]
          (first | refine Gd.dec (fun a1 => ?_) (fun a1 => ?_) | refine Gd.intro (fun a1 => ?_) (fun a1 => ?_)) <;> simp (disch := first | omega | simp) [wrap_i64, le_most, lt_omega, le_omega, ne_omega, allLen, a1]
          · (first | refine Gd.dec (fun b1 => ?_) (fun b1 => ?_) | refine Gd.intro (fun b1 => ?_) (fun b1 => ?_)) <;> simp (disch := first | omega | simp) [wrap_i64, le_most, lt_omega, le_omega, ne_omega, allLen, b1]
            · refine CallK.of (c98 _ _ _) (by first | exact .inl rfl | exact .inr (by simp)) (by simp) ?_
              simp (disch := first | omega | simp) [wrap_i64, le_most, lt_omega, le_omega, ne_omega, allLen]
              simp [certB, a1, b1, hal]
            · simp [certB, a1, b1]
          · simp [certB, a1]
      · simp (disch := first | omega | simp) [wrap_i64, le_most, lt_omega, le_omega, ne_omega, allLen, k4]
        (first | refine Gd.dec (fun n1 => ?_) (fun n1 => ?_) | refine Gd.intro (fun n1 => ?_) (fun n1 => ?_)) <;> simp (disch := first | omega | simp) [wrap_i64, le_most, lt_omega, le_omega, ne_omega, allLen, n1]
        · rcases nodes with _ | ⟨y, t⟩
          · simp at n1
          · simp [certB, k1, k4]
        · obtain rfl : nodes = [] := by cases nodes with
            | nil => rfl
            | cons y t => exact absurd (by simp) n1
          simp (disch := first | omega | simp) [wrap_i64, le_most, lt_omega, le_omega, ne_omega, allLen, k1, k4]
          (first | refine Gd.dec (fun k2 => ?_) (fun k2 => ?_) | refine Gd.intro (fun k2 => ?_) (fun k2 => ?_)) <;> simp (disch := first | omega | simp) [wrap_i64, le_most, lt_omega, le_omega, ne_omega, allLen, k2]
          · refine CallK.of (c98 _ _ _) (by first | exact .inl rfl | exact .inr (by simp)) (by simp) ?_
            simp (disch := first | omega | simp) [wrap_i64, le_most, lt_omega, le_omega, ne_omega, allLen]
            (first | refine Gd.dec (fun a1 => ?_) (fun a1 => ?_) | refine Gd.intro (fun a1 => ?_) (fun a1 => ?_)) <;> simp (disch := first | omega | simp) [wrap_i64, le_most, lt_omega, le_omega, ne_omega, allLen, a1]
            · refine CallK.of (c98 _ _ _) (by first | exact .inl rfl | exact .inr (by simp)) (by simp) ?_
              simp (disch := first | omega | simp) [wrap_i64, le_most, lt_omega, le_omega, ne_omega, allLen]
              simp [certB, k2, a1]
            · simp [certB, k2, a1]
          · (first | refine Gd.dec (fun k3 => ?_) (fun k3 => ?_) | refine Gd.intro (fun k3 => ?_) (fun k3 => ?_)) <;> simp (disch := first | omega | simp) [wrap_i64, le_most, lt_omega, le_omega, ne_omega, allLen, k3]
            · refine CallK.of (c98 _ _ _) (by first | exact .inl rfl | exact .inr (by simp)) (by simp) ?_
              simp (disch := first | omega | simp) [wrap_i64, le_most, lt_omega, le_omega, ne_omega, allLen]
              (first | refine Gd.dec (fun b1 => ?_) (fun b1 => ?_) | refine Gd.intro (fun b1 => ?_) (fun b1 => ?_)) <;> simp (disch := first | omega | simp) [wrap_i64, le_most, lt_omega, le_omega, ne_omega, allLen, b1]
              · have hbb := inB_iff.1 b1
                simp (disch := first | omega | simp) [wrap_i64, le_most, lt_omega, le_omega, ne_omega, allLen]
                refine CallK.of (c98 _ _ _) (by first | exact .inl rfl | exact .inr (by simp)) (by simp) ?_
                simp (disch := first | omega | simp) [wrap_i64, le_most, lt_omega, le_omega, ne_omega, allLen]
                simp [certB, k3, b1]
                rw [Bool.eq_iff_iff]
                simp [inB]
                omega
              · simp [certB, k3, b1]
            · simp [certB, k1, k2, k3, k4]
theorem c54 (x : Ct) (hb : i64B x.b) (ho : ∀ v ∈ x.order, i64B v) (h1 : (x.order.length : Int) ≤ 1048576) (h2 : (x.nodes.length : Int) ≤ 1048576) : PC E 54 [.agg (encC x)] [.i (.bool (certB x))] := by
  refine PC_start hE Proofs.Try.func54 rfl rfl Proofs.Try.ntmps54 (by kernel_rfl) (by kernel_rfl) (by simp) ?_
  simp (disch := first | omega | simp) [wrap_i64, le_most, lt_omega, le_omega, ne_omega, allLen]
  refine CallK.of (c89 x hb ho h1 h2) (by first | exact .inl rfl | exact .inr (by simp)) (by simp) ?_
  simp (disch := first | omega | simp) [wrap_i64, le_most, lt_omega, le_omega, ne_omega, allLen]
theorem c12 (x : Ct) (hb : i64B x.b) (ho : ∀ v ∈ x.order, i64B v) (h1 : x.order.length ≤ maxLen) (h2 : x.nodes.length ≤ maxLen) : PC E 12 [.agg (encC x)] [.i (.bool true)] := by
  have m : maxLen = 9223372036854775807 := by decide
  refine PC_start hE Proofs.Try.func12 rfl rfl Proofs.Try.ntmps12 (by kernel_rfl) (by kernel_rfl) (by simp) ?_
  simp (disch := first | omega | simp) [wrap_i64, le_most, lt_omega, le_omega, ne_omega, allLen, encC]
  refine CallK.of (c27 x 1048576 (by omega) (by omega) (by omega) (by omega)) (by first | exact .inl rfl | exact .inr (by simp)) (by simp) ?_
  simp (disch := first | omega | simp) [wrap_i64, le_most, lt_omega, le_omega, ne_omega, allLen]
  (first | refine Gd.dec (fun h5 => ?_) (fun h5 => ?_) | refine Gd.intro (fun h5 => ?_) (fun h5 => ?_)) <;> simp (disch := first | omega | simp) [wrap_i64, le_most, lt_omega, le_omega, ne_omega, allLen, h5]
  have h6 : ¬ (1048576 : Int) - x.order.length - x.nodes.length < 0 := by split at h5 <;> omega
  refine CallK.of (c29 x (by omega) (by omega)) (by first | exact .inl rfl | exact .inr (by simp)) (by simp) ?_
  simp (disch := first | omega | simp) [wrap_i64, le_most, lt_omega, le_omega, ne_omega, allLen, encC]
  refine CallK.of (c54 x hb ho (by omega) (by omega)) (by first | exact .inl rfl | exact .inr (by simp)) (by simp) ?_
  simp (disch := first | omega | simp) [wrap_i64, le_most, lt_omega, le_omega, ne_omega, allLen, encC]
  refine CallK.of (c29 x (by omega) (by omega)) (by first | exact .inl rfl | exact .inr (by simp)) (by simp) ?_
  simp (disch := first | omega | simp) [wrap_i64, le_most, lt_omega, le_omega, ne_omega, allLen, encC]
  refine CallK.of (c55 x (by omega) (by omega)) (by first | exact .inl rfl | exact .inr (by simp)) (by simp) ?_
  simp (disch := first | omega | simp) [wrap_i64, le_most, lt_omega, le_omega, ne_omega, allLen, encC]
  refine CallK.of (c29 x (by omega) (by omega)) (by first | exact .inl rfl | exact .inr (by simp)) (by simp) ?_
  simp (disch := first | omega | simp) [wrap_i64, le_most, lt_omega, le_omega, ne_omega, allLen, encC]
  refine CallK.of (c31 x x (by omega) (by omega) (by omega) (by omega)) (by first | exact .inl rfl | exact .inr (by simp)) (by simp) ?_
  simp (disch := first | omega | simp) [wrap_i64, le_most, lt_omega, le_omega, ne_omega, allLen, encC]
end Go.Vai
