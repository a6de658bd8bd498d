import Derived.Test.YtlalekdhfcjnfaaZt24
set_option linter.unusedVariables false
set_option linter.unusedSimpArgs false
set_option maxHeartbeats 4000000
namespace Go.Vai
def antiAt (o : List Int) (n i k : Nat) : Bool := inB (o.getD (i * n + k) 0) (-1) 1 && decide (o.getD (i * n + k) 0 = IntKind.i64.wrap (-(o.getD (k * n + i) 0)))
def allN (n : Nat) (p : Nat → Bool) : Bool := (List.range n).all p
theorem allN_true {n : Nat} {p : Nat → Bool} (h : ∀ j, j < n → p j = true) : allN n p = true := by simp [allN]; exact h
theorem allN_false {n : Nat} {p : Nat → Bool} {j : Nat} (hj : j < n) (h : p j = false) : allN n p = false := by
  simp [allN]; exact ⟨j, hj, h⟩
theorem allN_get {n : Nat} {p : Nat → Bool} (h : allN n p = true) {j : Nat} (hj : j < n) : p j = true := by
  simp [allN] at h; exact h j hj
def antiAll (o : List Int) (n : Nat) : Bool := allN n fun i => allN n fun k => antiAt o n i k
def antiLow (o : List Int) (n : Nat) : Bool := allN n fun i => allN (i + 1) fun k => antiAt o n i k
theorem sq_lt {n i k l : Nat} (hi : i < n) (hk : k < n) (h : n * n = l) : i * n + k < l := by
  have := Nat.mul_le_mul_right n (show i + 1 ≤ n by omega)
  rw [Nat.add_mul, Nat.one_mul] at this; omega
theorem step_all {k : Nat} {p : Nat → Bool} (h : ∀ j, j < k → p j = true) (hk : p k = true) : ∀ j, j < k + 1 → p j = true := fun j hj => by
  rcases Nat.lt_succ_iff_lt_or_eq.1 hj with h1 | rfl
  · exact h j h1
  · exact hk
theorem c90 (o : List Int) (h : (o.length : Int) ≤ 1048576) : PC E 90 [.i (.sl (o.map encI))] [.i (.bool (antiAll o (fsz o.length) && decide (0 < fsz o.length)))] := by
  refine PC_start hE Proofs.Try.func90 rfl rfl Proofs.Try.ntmps90 (by kernel_rfl) (by kernel_rfl) (by simp) ?_
  simp (disch := first | omega | simp) [wrap_i64, le_most, lt_omega, le_omega, ne_omega, allLen]
  refine CallK.of (c110 o h) (by first | exact .inl rfl | exact .inr (by simp)) (by simp) ?_
  have hn := fsz_spec o.length
  generalize fsz o.length = n at hn
  have hn24 : n ≤ 24 := by rcases hn with ⟨h1, -⟩ | ⟨-, h1, -⟩ <;> omega
  have hsq : 0 < n → n * n = o.length := fun h0 => by rcases hn with ⟨h1, -⟩ | ⟨-, -, h1⟩ <;> omega
  simp (disch := first | omega | simp) [wrap_i64, le_most, lt_omega, le_omega, ne_omega, allLen]
  refine XL.by hE (ι := { k : Nat // k ≤ n ∧ ∀ j, j < k → (allN n fun k => antiAt o n j k) = true }) (fun k => ⟨[(0, .i (.sl (o.map encI))), (3, .i (.int .i64 n)), (9, .i (.int .i64 n)), (10, .i (.int .i64 k.1))], []⟩)
    (fun k => n - k.1) ⟨0, Nat.zero_le _, fun j hj => by omega⟩ ⟨by simp, by simp, by simp⟩ (by kernel_rfl) ?_
  rintro ⟨i, hi, hri⟩
  by_cases hlt : i < n
  · simp (disch := first | omega | simp) [wrap_i64, le_most, lt_omega, le_omega, ne_omega, allLen, hlt]
    refine XL.by hE (ι := { k : Nat // k ≤ n ∧ ∀ j, j < k → antiAt o n i j = true }) (fun k => ⟨[(0, .i (.sl (o.map encI))), (3, .i (.int .i64 n)), (4, .i (.int .i64 i)), (9, .i (.int .i64 n)), (10, .i (.int .i64 i)), (13, .i (.int .i64 n)), (14, .i (.int .i64 k.1))], []⟩)
      (fun k => n - k.1) ⟨0, Nat.zero_le _, fun j hj => by omega⟩ ⟨by simp, by simp, by simp⟩ (by kernel_rfl) ?_
    rintro ⟨k, hk, hrk⟩
    by_cases hlt2 : k < n
    · have b1 := sq_lt hlt hlt2 (hsq (by omega))
      have b2 := sq_lt hlt2 hlt (hsq (by omega))
      obtain ⟨q, hq⟩ : ∃ q : Nat, q = i * n := ⟨_, rfl⟩
      obtain ⟨r, hr⟩ : ∃ r : Nat, r = k * n := ⟨_, rfl⟩
      have e1 : (i : Int) * (n : Int) = (q : Int) := by rw [hq]; simp
      have e2 : (k : Int) * (n : Int) = (r : Int) := by rw [hr]; simp
      rw [← hq] at b1
      rw [← hr] at b2
      have hA : antiAt o n i k = (inB o[q + k] (-1) 1 && decide (o[q + k] = IntKind.i64.wrap (-o[r + i]))) := by
        simp [antiAt, ← hq, ← hr, b1, b2]
      have t1 : ((q : Int) + (k : Int)).toNat = q + k := by omega
      have t2 : ((r : Int) + (i : Int)).toNat = r + i := by omega
      have n1 : ¬ ((q : Int) + (k : Int) < 0) := by omega
      have n2 : ¬ ((r : Int) + (i : Int) < 0) := by omega
      simp (disch := first | omega | simp) [wrap_i64, le_most, lt_omega, le_omega, ne_omega, allLen, hlt2, e1, e2, t1, t2, n1, n2, b1, b2, encI]
      refine CallK.of (c71 _ _ _) (by first | exact .inl rfl | exact .inr (by simp)) (by simp) ?_
      simp (disch := first | omega | simp) [wrap_i64, le_most, lt_omega, le_omega, ne_omega, allLen, hlt2, e1, e2, t1, t2, n1, n2, b1, b2, encI]
      (first | refine Gd.dec (fun h4 => ?_) (fun h4 => ?_) | refine Gd.intro (fun h4 => ?_) (fun h4 => ?_)) <;> simp (disch := first | omega | simp) [wrap_i64, le_most, lt_omega, le_omega, ne_omega, allLen, h4]
      · simp (disch := first | omega | simp) [wrap_i64, le_most, lt_omega, le_omega, ne_omega, allLen, hlt2, e1, e2, t1, t2, n1, n2, b1, b2, encI]
        (first | refine Gd.dec (fun h5 => ?_) (fun h5 => ?_) | refine Gd.intro (fun h5 => ?_) (fun h5 => ?_)) <;> simp (disch := first | omega | simp) [wrap_i64, le_most, lt_omega, le_omega, ne_omega, allLen, h5]
        · (refine ⟨⟨k + 1, by omega, step_all hrk (by rw [hA, h4]; simp [h5])⟩, by (simp; try omega), ?_⟩; constructor <;> (simp (disch := first | omega | simp) [wrap_i64, le_most, lt_omega, le_omega, ne_omega, allLen]) <;> (try omega))
        · have : antiAll o n = false := allN_false hlt (allN_false hlt2 (by rw [hA]; simp [h5]))
          simp [this]
      · have : antiAll o n = false := allN_false hlt (allN_false hlt2 (by rw [hA, h4]; rfl))
        simp [this]
    · simp (disch := first | omega | simp) [wrap_i64, le_most, lt_omega, le_omega, ne_omega, allLen, hlt2]
      obtain rfl : k = n := by omega
      (refine ⟨⟨i + 1, by omega, step_all hri (allN_true hrk)⟩, by (simp; try omega), ?_⟩; constructor <;> (simp (disch := first | omega | simp) [wrap_i64, le_most, lt_omega, le_omega, ne_omega, allLen]) <;> (try omega))
  · simp (disch := first | omega | simp) [wrap_i64, le_most, lt_omega, le_omega, ne_omega, allLen, hlt]
    obtain rfl : i = n := by omega
    have : antiAll o i = true := allN_true hri
    simp [this]
theorem c108 (o : List Int) (h : (o.length : Int) ≤ 1048576) : PC E 108 [.i (.sl (o.map encI))] [.i (.bool (antiLow o (fsz o.length) && decide (0 < fsz o.length)))] := by
  refine PC_start hE Proofs.Try.func108 rfl rfl Proofs.Try.ntmps108 (by kernel_rfl) (by kernel_rfl) (by simp) ?_
  simp (disch := first | omega | simp) [wrap_i64, le_most, lt_omega, le_omega, ne_omega, allLen]
  refine CallK.of (c116 o h) (by first | exact .inl rfl | exact .inr (by simp)) (by simp) ?_
  have hn := fsz_spec o.length
  generalize fsz o.length = n at hn
  have hn24 : n ≤ 24 := by rcases hn with ⟨h1, -⟩ | ⟨-, h1, -⟩ <;> omega
  have hsq : 0 < n → n * n = o.length := fun h0 => by rcases hn with ⟨h1, -⟩ | ⟨-, -, h1⟩ <;> omega
  simp (disch := first | omega | simp) [wrap_i64, le_most, lt_omega, le_omega, ne_omega, allLen]
  refine XL.by hE (ι := { k : Nat // k ≤ n ∧ ∀ j, j < k → (allN (j + 1) fun k => antiAt o n j k) = true }) (fun k => ⟨[(0, .i (.sl (o.map encI))), (3, .i (.int .i64 n)), (4, .i (.int .i64 k.1))], []⟩)
    (fun k => n - k.1) ⟨0, Nat.zero_le _, fun j hj => by omega⟩ ⟨by simp, by simp, by simp⟩ (by kernel_rfl) ?_
  rintro ⟨i, hi, hri⟩
  by_cases hlt : i < n
  · simp (disch := first | omega | simp) [wrap_i64, le_most, lt_omega, le_omega, ne_omega, allLen, hlt]
    refine XL.by hE (ι := { k : Nat // k ≤ i + 1 ∧ ∀ j, j < k → antiAt o n i j = true }) (fun k => ⟨[(0, .i (.sl (o.map encI))), (3, .i (.int .i64 n)), (4, .i (.int .i64 i)), (5, .i (.int .i64 k.1))], []⟩)
      (fun k => n - k.1) ⟨0, Nat.zero_le _, fun j hj => by omega⟩ ⟨by simp, by simp, by simp⟩ (by kernel_rfl) ?_
    rintro ⟨k, hk, hrk⟩
    by_cases hlt2 : k ≤ i
    · have hlt3 : k < n := by omega
      have b1 := sq_lt hlt hlt3 (hsq (by omega))
      have b2 := sq_lt hlt3 hlt (hsq (by omega))
      obtain ⟨q, hq⟩ : ∃ q : Nat, q = i * n := ⟨_, rfl⟩
      obtain ⟨r, hr⟩ : ∃ r : Nat, r = k * n := ⟨_, rfl⟩
      have e1 : (i : Int) * (n : Int) = (q : Int) := by rw [hq]; simp
      have e2 : (k : Int) * (n : Int) = (r : Int) := by rw [hr]; simp
      rw [← hq] at b1
      rw [← hr] at b2
      have hA : antiAt o n i k = (inB o[q + k] (-1) 1 && decide (o[q + k] = IntKind.i64.wrap (-o[r + i]))) := by
        simp [antiAt, ← hq, ← hr, b1, b2]
      have t1 : ((q : Int) + (k : Int)).toNat = q + k := by omega
      have t2 : ((r : Int) + (i : Int)).toNat = r + i := by omega
      have n1 : ¬ ((q : Int) + (k : Int) < 0) := by omega
      have n2 : ¬ ((r : Int) + (i : Int) < 0) := by omega
      simp (disch := first | omega | simp) [wrap_i64, le_most, lt_omega, le_omega, ne_omega, allLen, hlt2, e1, e2, t1, t2, n1, n2, b1, b2, encI]
      refine CallK.of (c98 _ _ _) (by first | exact .inl rfl | exact .inr (by simp)) (by simp) ?_
      simp (disch := first | omega | simp) [wrap_i64, le_most, lt_omega, le_omega, ne_omega, allLen, hlt2, e1, e2, t1, t2, n1, n2, b1, b2, encI]
      (first | refine Gd.dec (fun h4 => ?_) (fun h4 => ?_) | refine Gd.intro (fun h4 => ?_) (fun h4 => ?_)) <;> simp (disch := first | omega | simp) [wrap_i64, le_most, lt_omega, le_omega, ne_omega, allLen, h4]
      · simp (disch := first | omega | simp) [wrap_i64, le_most, lt_omega, le_omega, ne_omega, allLen, hlt2, e1, e2, t1, t2, n1, n2, b1, b2, encI]
        (first | refine Gd.dec (fun h5 => ?_) (fun h5 => ?_) | refine Gd.intro (fun h5 => ?_) (fun h5 => ?_)) <;> simp (disch := first | omega | simp) [wrap_i64, le_most, lt_omega, le_omega, ne_omega, allLen, h5]
        · (refine ⟨⟨k + 1, by omega, step_all hrk (by rw [hA, h4]; simp [h5])⟩, by (simp; try omega), ?_⟩; constructor <;> (simp (disch := first | omega | simp) [wrap_i64, le_most, lt_omega, le_omega, ne_omega, allLen]) <;> (try omega))
        · have : antiLow o n = false := allN_false hlt (allN_false (j := k) (by omega) (by rw [hA]; simp [h5]))
          simp [this]
      · have : antiLow o n = false := allN_false hlt (allN_false (j := k) (by omega) (by rw [hA, h4]; rfl))
        simp [this]
    · simp (disch := first | omega | simp) [wrap_i64, le_most, lt_omega, le_omega, ne_omega, allLen, hlt2]
      obtain rfl : k = i + 1 := by omega
      (refine ⟨⟨i + 1, by omega, step_all hri (allN_true hrk)⟩, by (simp; try omega), ?_⟩; constructor <;> (simp (disch := first | omega | simp) [wrap_i64, le_most, lt_omega, le_omega, ne_omega, allLen]) <;> (try omega))
  · simp (disch := first | omega | simp) [wrap_i64, le_most, lt_omega, le_omega, ne_omega, allLen, hlt]
    obtain rfl : i = n := by omega
    have : antiLow o i = true := allN_true hri
    simp [this]
def i64B (x : Int) : Prop := -9223372036854775808 ≤ x ∧ x ≤ 9223372036854775807
theorem anti_eq {o : List Int} (ho : ∀ x ∈ o, i64B x) : antiLow o (fsz o.length) = antiAll o (fsz o.length) := by
  have hn := fsz_spec o.length
  generalize fsz o.length = n at hn
  have hsq : 0 < n → n * n = o.length := fun h0 => by rcases hn with ⟨h1, -⟩ | ⟨-, -, h1⟩ <;> omega
  rw [Bool.eq_iff_iff]
  constructor
  · intro h
    refine allN_true fun i hi => allN_true fun k hk => ?_
    by_cases hki : k ≤ i
    · exact allN_get (allN_get h hi) (by omega)
    · have h1 := allN_get (allN_get h hk) (j := i) (by omega)
      have b1 := sq_lt hi hk (hsq (by omega))
      have b2 := sq_lt hk hi (hsq (by omega))
      have r1 := ho _ (List.getElem_mem b1)
      simp only [antiAt, List.getD_eq_getElem?_getD, List.getElem?_eq_getElem b1, List.getElem?_eq_getElem b2, Option.getD_some, Bool.and_eq_true, decide_eq_true_eq, inB] at h1 ⊢
      generalize o[i * n + k] = x at *
      generalize o[k * n + i] = y at *
      unfold i64B at r1
      have hw : ∀ z : Int, i64B z → z = -9223372036854775808 ∨ IntKind.i64.wrap (-z) = -z := fun z hz => by
        unfold i64B at hz
        by_cases h0 : z = -9223372036854775808
        · exact .inl h0
        · exact .inr (wrap_i64 (by omega) (by omega))
      obtain ⟨⟨h2, h3⟩, h4⟩ := h1
      rw [h4] at h2 h3 ⊢
      rcases hw x r1 with rfl | h5
      · have : IntKind.i64.wrap (- -9223372036854775808) = -9223372036854775808 := by decide
        rw [this] at h2; omega
      · rw [h5] at h2 h3 ⊢
        rw [wrap_i64 (by omega) (by omega)]
        omega
  · intro h
    exact allN_true fun i hi => allN_true fun k hk => allN_get (allN_get h hi) (by omega)
end Go.Vai
