import Derived.Test.YtahohbkjelhobaaZt16
set_option linter.unusedVariables false
set_option linter.unusedSimpArgs false
set_option maxHeartbeats 4000000
namespace Go.Vai
theorem all_true_of {α : Type} {p : α → Bool} {l : List α} (h : ∀ (j : Nat) (hj : j < l.length), p l[j] = true) : l.all p = true := by
  rw [List.all_eq_true]
  intro x hx
  obtain ⟨j, hj, rfl⟩ := List.getElem_of_mem hx
  exact h j hj
theorem all_false_of {α : Type} {p : α → Bool} {l : List α} {j : Nat} (hj : j < l.length) (h : p l[j] = false) : l.all p = false := by
  rw [← Bool.not_eq_true, List.all_eq_true]
  intro hx
  rw [hx _ (List.getElem_mem hj)] at h; simp at h
theorem step_yes {α : Type} {p : α → Bool} {xs : List α} {k : Nat} (hno : ∀ (j : Nat) (hj : j < xs.length), j < k → p xs[j] = true) (hk : k < xs.length) (h : p xs[k] = true) :
    ∀ (j : Nat) (hj : j < xs.length), j < k + 1 → p xs[j] = true := fun j hj hjk => by
  rcases Nat.lt_succ_iff_lt_or_eq.1 hjk with hj' | rfl
  · exact hno j hj hj'
  · exact h
theorem c84 (x : Ru) (vars : Int) (h : (x.sz : Int) ≤ 1048576) (hb : 0 ≤ vars ∧ vars ≤ 200) : PC E 84 [.i (.ptr (encR x)), .i (.int .i64 vars)] [.i (.bool (rv x vars))] := by
  unfold Ru.sz at h
  refine PC_start hE Proofs.Try.func84 rfl rfl Proofs.Try.ntmps84 (by kernel_rfl) (by kernel_rfl) (by simp) ?_
  simp (disch := first | omega | simp) [wrap_i64, le_most, lt_omega, le_omega, ne_omega, allLen, encR]
  refine CallK.of (c83 _ _ _) (by first | exact .inl rfl | exact .inr (by simp)) (by simp) ?_
  simp (disch := first | omega | simp) [wrap_i64, le_most, lt_omega, le_omega, ne_omega, allLen]
  (first | refine Gd.dec (fun h2 => ?_) (fun h2 => ?_) | refine Gd.intro (fun h2 => ?_) (fun h2 => ?_)) <;> simp (disch := first | omega | simp) [wrap_i64, le_most, lt_omega, le_omega, ne_omega, allLen, h2]
  rotate_left
  · simp [rv, h2]
  (first | refine Gd.dec (fun h3 => ?_) (fun h3 => ?_) | refine Gd.intro (fun h3 => ?_) (fun h3 => ?_)) <;> simp (disch := first | omega | simp) [wrap_i64, le_most, lt_omega, le_omega, ne_omega, allLen, h3]
  rotate_left
  · simp [rv, h2, h3]
  (first | refine Gd.dec (fun h4 => ?_) (fun h4 => ?_) | refine Gd.intro (fun h4 => ?_) (fun h4 => ?_)) <;> simp (disch := first | omega | simp) [wrap_i64, le_most, lt_omega, le_omega, ne_omega, allLen, h4]
  rotate_left
  · simp [rv, h2, h3, h4]
  refine CallK.of (c105 _ _ _ (by omega)) (by first | exact .inl rfl | exact .inr (by simp)) (by simp) ?_
  simp (disch := first | omega | simp) [wrap_i64, le_most, lt_omega, le_omega, ne_omega, allLen]
  (first | refine Gd.dec (fun h5 => ?_) (fun h5 => ?_) | refine Gd.intro (fun h5 => ?_) (fun h5 => ?_)) <;> simp (disch := first | omega | simp) [wrap_i64, le_most, lt_omega, le_omega, ne_omega, allLen, h5]
  rotate_left
  · simp [rv, h2, h3, h4, h5]
  refine XL.by hE (ι := { k : Nat // k ≤ x.signs.length ∧ ∀ (j : Nat) (hj : j < x.signs.length), j < k → unitB x.signs[j] = true }) (fun k => ⟨[(0, .i (.ptr (encR x))), (5, .i (.int .i64 k.1))], []⟩)
    (fun k => x.signs.length - k.1) ⟨0, Nat.zero_le _, by simp⟩ ⟨by simp [encR], by simp, by simp⟩ (by kernel_rfl) ?_
  rintro ⟨k, hk, hr⟩
  by_cases hlt : k < x.signs.length
  · simp (disch := first | omega | simp) [wrap_i64, le_most, lt_omega, le_omega, ne_omega, allLen, hlt, encR, encI]
    (first | refine Gd.dec (fun h6 => ?_) (fun h6 => ?_) | refine Gd.intro (fun h6 => ?_) (fun h6 => ?_)) <;> simp (disch := first | omega | simp) [wrap_i64, le_most, lt_omega, le_omega, ne_omega, allLen, h6]
    · (refine ⟨⟨k + 1, by omega, step_yes hr hlt (by simp [unitB, h6])⟩, by (simp; try omega), ?_⟩; constructor <;> (simp (disch := first | omega | simp) [wrap_i64, le_most, lt_omega, le_omega, ne_omega, allLen, encR]) <;> (try omega))
    · simp (disch := first | omega | simp) [wrap_i64, le_most, lt_omega, le_omega, ne_omega, allLen, hlt, encI]
      (first | refine Gd.dec (fun h7 => ?_) (fun h7 => ?_) | refine Gd.intro (fun h7 => ?_) (fun h7 => ?_)) <;> simp (disch := first | omega | simp) [wrap_i64, le_most, lt_omega, le_omega, ne_omega, allLen, h7]
      · (refine ⟨⟨k + 1, by omega, step_yes hr hlt (by simp [unitB, h7])⟩, by (simp; try omega), ?_⟩; constructor <;> (simp (disch := first | omega | simp) [wrap_i64, le_most, lt_omega, le_omega, ne_omega, allLen, encR]) <;> (try omega))
      · simp [rv, all_false_of hlt (show unitB x.signs[k] = false by simp [unitB, h6, h7])]
  · simp (disch := first | omega | simp) [wrap_i64, le_most, lt_omega, le_omega, ne_omega, allLen, hlt, encR]
    simp [rv, h2, h3, h4, h5]
    have := all_true_of (p := unitB) (l := x.signs) fun j hj => hr j hj (by omega)
    simpa using this
theorem c42 (ls : List Ru) (vars : Int) (h : (ls.length : Int) ≤ 1048576) (hr : (rsum ls : Int) ≤ 1048576) :
    PC E 42 [.i (.sl (ls.map encR)), .i (.int .i64 vars)] [.i (.bool (decide ((ls.length : Int) ≤ 3000) && (inB vars 0 200 && ls.all fun x => rv x vars)))] := by
  refine PC_start hE Proofs.Try.func42 rfl rfl Proofs.Try.ntmps42 (by kernel_rfl) (by kernel_rfl) (by simp) ?_
  simp (disch := first | omega | simp) [wrap_i64, le_most, lt_omega, le_omega, ne_omega, allLen]
  (first | refine Gd.dec (fun h1 => ?_) (fun h1 => ?_) | refine Gd.intro (fun h1 => ?_) (fun h1 => ?_)) <;> simp (disch := first | omega | simp) [wrap_i64, le_most, lt_omega, le_omega, ne_omega, allLen, h1]
  · intro h; omega
  have h1' : (ls.length : Int) ≤ 3000 := by omega
  refine CallK.of (c83 _ _ _) (by first | exact .inl rfl | exact .inr (by simp)) (by simp) ?_
  simp (disch := first | omega | simp) [wrap_i64, le_most, lt_omega, le_omega, ne_omega, allLen]
  (first | refine Gd.dec (fun h2 => ?_) (fun h2 => ?_) | refine Gd.intro (fun h2 => ?_) (fun h2 => ?_)) <;> simp (disch := first | omega | simp) [wrap_i64, le_most, lt_omega, le_omega, ne_omega, allLen, h2]
  have hb : 0 ≤ vars ∧ vars ≤ 200 := by simpa [inB] using h2
  refine XL.by hE (ι := { k : Nat // k ≤ ls.length ∧ ∀ (j : Nat) (hj : j < ls.length), j < k → rv ls[j] vars = true }) (fun k => ⟨[(0, .i (.sl (ls.map encR))), (1, .i (.int .i64 vars)), (5, .i (.int .i64 k.1))], []⟩)
    (fun k => ls.length - k.1) ⟨0, Nat.zero_le _, by simp⟩ ⟨by simp, by simp, by simp⟩ (by kernel_rfl) ?_
  rintro ⟨k, hk, hno⟩
  by_cases hlt : k < ls.length
  · have hg := rsum_get hlt
    simp (disch := first | omega | simp) [wrap_i64, le_most, lt_omega, le_omega, ne_omega, allLen, hlt]
    refine CallK.of (c84 ls[k] vars (by omega) hb) (by first | exact .inl rfl | exact .inr (by simp)) (by simp) ?_
    simp (disch := first | omega | simp) [wrap_i64, le_most, lt_omega, le_omega, ne_omega, allLen, hlt]
    (first | refine Gd.dec (fun h4 => ?_) (fun h4 => ?_) | refine Gd.intro (fun h4 => ?_) (fun h4 => ?_)) <;> simp (disch := first | omega | simp) [wrap_i64, le_most, lt_omega, le_omega, ne_omega, allLen, h4]
    · (refine ⟨⟨k + 1, by omega, step_yes (p := fun x => rv x vars) hno hlt h4⟩, by (simp; try omega), ?_⟩; constructor <;> (simp (disch := first | omega | simp) [wrap_i64, le_most, lt_omega, le_omega, ne_omega, allLen]) <;> (try omega))
    · exact ⟨ls[k], List.getElem_mem _, h4⟩
  · have := all_true_of (p := fun x => rv x vars) (l := ls) fun j hj => hno j hj (by omega)
    simp at this
    simp (disch := first | omega | simp) [wrap_i64, le_most, lt_omega, le_omega, ne_omega, allLen, hlt, h2]
    exact this
theorem c86 (x : Ru) (vars : Int) (h : (x.sz : Int) ≤ 1048576) : PC E 86 [.agg (encR x), .i (.ptr [.int .i64 vars])] [.i (.bool (!(inB vars 0 200 && rv x vars)))] := by
  refine PC_start hE Proofs.Try.func86 rfl rfl Proofs.Try.ntmps86 (by kernel_rfl) (by kernel_rfl) (by simp) ?_
  simp (disch := first | omega | simp) [wrap_i64, le_most, lt_omega, le_omega, ne_omega, allLen]
  refine CallK.of (c68 x vars h) (by first | exact .inl rfl | exact .inr (by simp)) (by simp) ?_
  simp (disch := first | omega | simp) [wrap_i64, le_most, lt_omega, le_omega, ne_omega, allLen]
theorem c46 (ls : List Ru) (vars : Int) (h : (ls.length : Int) ≤ 1048576) (hr : (rsum ls : Int) ≤ 1048576) :
    PC E 46 [.i (.sl (ls.map encR)), .i (.int .i64 vars)] [.i (.bool (decide ((ls.length : Int) ≤ 3000) && (inB vars 0 200 && ls.all fun x => rv x vars)))] := by
  refine PC_start hE Proofs.Try.func46 rfl rfl Proofs.Try.ntmps46 (by kernel_rfl) (by kernel_rfl) (by simp) ?_
  simp (disch := first | omega | simp) [wrap_i64, le_most, lt_omega, le_omega, ne_omega, allLen]
  refine CallK.of (c85 _ _ _) (by first | exact .inl rfl | exact .inr (by simp)) (by simp) ?_
  simp (disch := first | omega | simp) [wrap_i64, le_most, lt_omega, le_omega, ne_omega, allLen]
  (first | refine Gd.dec (fun h1 => ?_) (fun h1 => ?_) | refine Gd.intro (fun h1 => ?_) (fun h1 => ?_)) <;> simp (disch := first | omega | simp) [wrap_i64, le_most, lt_omega, le_omega, ne_omega, allLen, h1]
  (first | refine Gd.dec (fun h2 => ?_) (fun h2 => ?_) | refine Gd.intro (fun h2 => ?_) (fun h2 => ?_)) <;> simp (disch := first | omega | simp) [wrap_i64, le_most, lt_omega, le_omega, ne_omega, allLen, h2]
  have cc := c49 ls 86 [.ptr [.int .i64 vars]] (fun x => !(inB vars 0 200 && rv x vars))
    (fun x hx => c86 x vars (by obtain ⟨j, hj, rfl⟩ := List.getElem_of_mem hx; have := rsum_get hj; omega)) h
  refine CallK.of (cc) (by first | exact .inl rfl | exact .inr (by simp)) (by simp) ?_
  simp (disch := first | omega | simp) [wrap_i64, le_most, lt_omega, le_omega, ne_omega, allLen, h1, h2, List.not_any_eq_all_not]
end Go.Vai
