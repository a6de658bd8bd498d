import Derived.Test.YtahohbkjelhobaaZt12
set_option linter.unusedVariables false
set_option linter.unusedSimpArgs false
set_option maxHeartbeats 4000000
namespace Go.Vai
/-- The first place at which p holds; -1 if there is none. -/
def fidx {α : Type} (p : α → Bool) (xs : List α) : Int := match xs.findIdx? p with
  | some i => i
  | none => -1
theorem fidx_at {α : Type} {p : α → Bool} {xs : List α} {k : Nat} (hk : k < xs.length) (hno : ∀ (j : Nat) (hj : j < xs.length), j < k → p xs[j] = false) (h : p xs[k] = true) : fidx p xs = k := by
  have : xs.findIdx? p = some k := by
    rw [List.findIdx?_eq_some_iff_getElem]
    exact ⟨hk, h, fun j hj => by simpa using hno j (by omega) hj⟩
  simp [fidx, this]
theorem fidx_none {α : Type} {p : α → Bool} {xs : List α} (hno : ∀ (j : Nat) (hj : j < xs.length), p xs[j] = false) : fidx p xs = -1 := by
  have : xs.findIdx? p = none := by
    rw [List.findIdx?_eq_none_iff]
    intro x hx
    obtain ⟨j, hj, rfl⟩ := List.getElem_of_mem hx
    exact hno j hj
  simp [fidx, this]
theorem step_no {α : Type} {p : α → Bool} {xs : List α} {k : Nat} (hno : ∀ (j : Nat) (hj : j < xs.length), j < k → p xs[j] = false) (hk : k < xs.length) (h : p xs[k] = false) :
    ∀ (j : Nat) (hj : j < xs.length), j < k + 1 → p xs[j] = false := fun j hj hjk => by
  rcases Nat.lt_succ_iff_lt_or_eq.1 hjk with hj' | rfl
  · exact hno j hj hj'
  · exact h
theorem fidx_any {α : Type} {p : α → Bool} {xs : List α} : decide (0 ≤ fidx p xs) = xs.any p := by
  unfold fidx
  cases h : xs.findIdx? p with
  | none =>
    rw [List.findIdx?_eq_none_iff] at h
    simp
    intro x hx; exact h x hx
  | some i =>
    rw [List.findIdx?_eq_some_iff_getElem] at h
    obtain ⟨hi, hp, -⟩ := h
    simp
    exact ⟨xs[i], List.getElem_mem _, hp⟩
@[simp] theorem immL_caps (H : List (Nat × Obj)) : ∀ caps : List IV, immL H (caps.map .i) = some (caps.map .i)
  | [] => rfl
  | x :: l => by simp [immL_caps H l]
theorem c90 (xs : List Ru) (g : FuncId) (caps : List IV) (p : Ru → Bool) (hp : ∀ x ∈ xs, PC E g (.agg (encR x) :: caps.map .i) [.i (.bool (p x))]) (h : (xs.length : Int) ≤ 1048576) :
    PC E 90 [.i (.sl (xs.map encR)), .i (.fn g caps)] [.i (.int .i64 (fidx p xs))] := by
  refine PC_start hE Proofs.Try.func90 rfl rfl Proofs.Try.ntmps90 (by kernel_rfl) (by kernel_rfl) (by simp) ?_
  simp (disch := first | omega | simp) [wrap_i64, le_most, lt_omega, le_omega, ne_omega, allLen]
  refine XL.by hE (ι := { k : Nat // k ≤ xs.length ∧ ∀ (j : Nat) (hj : j < xs.length), j < k → p xs[j] = false }) (fun k => ⟨[(0, .i (.sl (xs.map encR))), (1, .i (.fn g caps)), (7, .i (.int .i64 xs.length)), (8, .i (.int .i64 k.1))], []⟩)
    (fun k => xs.length - k.1) ⟨0, Nat.zero_le _, by simp⟩ ⟨by simp, by simp, by simp⟩ (by kernel_rfl) ?_
  rintro ⟨k, hk, hno⟩
  by_cases hlt : k < xs.length
  · simp (disch := first | omega | simp) [wrap_i64, le_most, lt_omega, le_omega, ne_omega, allLen, hlt]
    refine CallK.of (hp xs[k] (List.getElem_mem _)) (by first | exact .inl rfl | exact .inr (by simp)) (by simp) ?_
    simp (disch := first | omega | simp) [wrap_i64, le_most, lt_omega, le_omega, ne_omega, allLen, hlt]
    (first | refine Gd.dec (fun h4 => ?_) (fun h4 => ?_) | refine Gd.intro (fun h4 => ?_) (fun h4 => ?_)) <;> simp (disch := first | omega | simp) [wrap_i64, le_most, lt_omega, le_omega, ne_omega, allLen, h4]
    · simp [fidx_at hlt hno h4]
    · (refine ⟨⟨k + 1, by omega, step_no hno hlt h4⟩, by (simp; try omega), ?_⟩; constructor <;> (simp (disch := first | omega | simp) [wrap_i64, le_most, lt_omega, le_omega, ne_omega, allLen]) <;> (try omega))
  · obtain rfl : k = xs.length := by omega
    simp (disch := first | omega | simp) [wrap_i64, le_most, lt_omega, le_omega, ne_omega, allLen, fidx_none fun j hj => hno j hj hj]
theorem c49 (xs : List Ru) (g : FuncId) (caps : List IV) (p : Ru → Bool) (hp : ∀ x ∈ xs, PC E g (.agg (encR x) :: caps.map .i) [.i (.bool (p x))]) (h : (xs.length : Int) ≤ 1048576) :
    PC E 49 [.i (.sl (xs.map encR)), .i (.fn g caps)] [.i (.bool (xs.any p))] := by
  refine PC_start hE Proofs.Try.func49 rfl rfl Proofs.Try.ntmps49 (by kernel_rfl) (by kernel_rfl) (by simp) ?_
  simp (disch := first | omega | simp) [wrap_i64, le_most, lt_omega, le_omega, ne_omega, allLen]
  refine CallK.of (c90 xs g caps p hp h) (by first | exact .inl rfl | exact .inr (by simp)) (by simp) ?_
  simp (disch := first | omega | simp) [wrap_i64, le_most, lt_omega, le_omega, ne_omega, allLen, fidx_any]
theorem c106 (xs : List Int) (g : FuncId) (caps : List IV) (p : Int → Bool) (hp : ∀ x ∈ xs, PC E g (.i (.int .i64 x) :: caps.map .i) [.i (.bool (p x))]) (h : (xs.length : Int) ≤ 1048576) :
    PC E 106 [.i (.sl (xs.map encI)), .i (.fn g caps)] [.i (.int .i64 (fidx p xs))] := by
  refine PC_start hE Proofs.Try.func106 rfl rfl Proofs.Try.ntmps106 (by kernel_rfl) (by kernel_rfl) (by simp) ?_
  simp (disch := first | omega | simp) [wrap_i64, le_most, lt_omega, le_omega, ne_omega, allLen]
  refine XL.by hE (ι := { k : Nat // k ≤ xs.length ∧ ∀ (j : Nat) (hj : j < xs.length), j < k → p xs[j] = false }) (fun k => ⟨[(0, .i (.sl (xs.map encI))), (1, .i (.fn g caps)), (7, .i (.int .i64 xs.length)), (8, .i (.int .i64 k.1))], []⟩)
    (fun k => xs.length - k.1) ⟨0, Nat.zero_le _, by simp⟩ ⟨by simp, by simp, by simp⟩ (by kernel_rfl) ?_
  rintro ⟨k, hk, hno⟩
  by_cases hlt : k < xs.length
  · simp (disch := first | omega | simp) [wrap_i64, le_most, lt_omega, le_omega, ne_omega, allLen, hlt, encI]
    refine CallK.of (hp xs[k] (List.getElem_mem _)) (by first | exact .inl rfl | exact .inr (by simp)) (by simp) ?_
    simp (disch := first | omega | simp) [wrap_i64, le_most, lt_omega, le_omega, ne_omega, allLen, hlt, encI]
    (first | refine Gd.dec (fun h4 => ?_) (fun h4 => ?_) | refine Gd.intro (fun h4 => ?_) (fun h4 => ?_)) <;> simp (disch := first | omega | simp) [wrap_i64, le_most, lt_omega, le_omega, ne_omega, allLen, h4]
    · simp [fidx_at hlt hno h4]
    · (refine ⟨⟨k + 1, by omega, step_no hno hlt h4⟩, by (simp; try omega), ?_⟩; constructor <;> (simp (disch := first | omega | simp) [wrap_i64, le_most, lt_omega, le_omega, ne_omega, allLen]) <;> (try omega))
  · obtain rfl : k = xs.length := by omega
    simp (disch := first | omega | simp) [wrap_i64, le_most, lt_omega, le_omega, ne_omega, allLen, fidx_none fun j hj => hno j hj hj]
theorem c87 (xs : List Int) (g : FuncId) (caps : List IV) (p : Int → Bool) (hp : ∀ x ∈ xs, PC E g (.i (.int .i64 x) :: caps.map .i) [.i (.bool (p x))]) (h : (xs.length : Int) ≤ 1048576) :
    PC E 87 [.i (.sl (xs.map encI)), .i (.fn g caps)] [.i (.bool (xs.any p))] := by
  refine PC_start hE Proofs.Try.func87 rfl rfl Proofs.Try.ntmps87 (by kernel_rfl) (by kernel_rfl) (by simp) ?_
  simp (disch := first | omega | simp) [wrap_i64, le_most, lt_omega, le_omega, ne_omega, allLen]
  refine CallK.of (c106 xs g caps p hp h) (by first | exact .inl rfl | exact .inr (by simp)) (by simp) ?_
  simp (disch := first | omega | simp) [wrap_i64, le_most, lt_omega, le_omega, ne_omega, allLen, fidx_any]
end Go.Vai
