import Derived.Test.YtahohbkjelhobaaDoorZn4
set_option linter.unusedVariables false
set_option linter.unusedSimpArgs false
set_option maxHeartbeats 4000000
namespace Go.Vai
theorem c83 (x : Int) (h0 : -9223372036854775808 < x) (h1 : x ≤ 9223372036854775807) :
    PC E 83 [.i (.int .i64 x)] [.i (.int .u64 (x * x / 18446744073709551616)), .i (.int .u64 (x * x % 18446744073709551616))] := by
  refine PC_start hE Proofs.Tryd.func83 rfl rfl Proofs.Tryd.ntmps83 (by kernel_rfl) (by kernel_rfl) (by simp) ?_
  rw [← natAbs_sq x]
  obtain ⟨u, hu⟩ : ∃ u : Int, u = x.natAbs := ⟨_, rfl⟩
  have hu0 : 0 ≤ u := by omega
  have hu1 : u ≤ 9223372036854775807 := by omega
  rw [← hu]
  obtain ⟨a, ha⟩ : ∃ a, a = u % 4294967296 := ⟨_, rfl⟩
  obtain ⟨b, hb⟩ : ∃ b, b = u / 4294967296 := ⟨_, rfl⟩
  have hue : u = b * 4294967296 + a := by omega
  have b1 : 0 ≤ a * a ∧ a * a ≤ 18446744065119617025 := ⟨Int.mul_nonneg (by omega) (by omega), by have := Int.mul_le_mul (show a ≤ 4294967295 by omega) (show a ≤ 4294967295 by omega) (by omega) (by omega : (0 : Int) ≤ 4294967295); omega⟩
  have b2 : 0 ≤ 2 * a * b ∧ 2 * a * b ≤ 18446744060824649730 := ⟨Int.mul_nonneg (by omega) (by omega), by have := Int.mul_le_mul (show 2 * a ≤ 8589934590 by omega) (show b ≤ 2147483647 by omega) (by omega) (by omega : (0 : Int) ≤ 8589934590); omega⟩
  have b3 : 0 ≤ b * b ∧ b * b ≤ 4611686014132420609 := ⟨Int.mul_nonneg (by omega) (by omega), by have := Int.mul_le_mul (show b ≤ 2147483647 by omega) (show b ≤ 2147483647 by omega) (by omega) (by omega : (0 : Int) ≤ 2147483647); omega⟩
  have huu : u * u = b * b * 18446744073709551616 + 2 * a * b * 4294967296 + a * a := by
    rw [hue]
    simp only [Int.add_mul, Int.mul_add]
    have e1 : b * 4294967296 * (b * 4294967296) = b * b * 18446744073709551616 := by
      rw [Int.mul_assoc, Int.mul_left_comm 4294967296 b, ← Int.mul_assoc]; rfl
    have e2 : b * 4294967296 * a = a * b * 4294967296 := by rw [Int.mul_right_comm, Int.mul_comm b a]
    have e3 : a * (b * 4294967296) = a * b * 4294967296 := by rw [Int.mul_assoc]
    have e4 : 2 * a * b = 2 * (a * b) := Int.mul_assoc ..
    rw [e1, e2, e3, e4]; omega
  have A : andI .u64 u 4294967295 = a := by rw [andI_u32, ha]
  have B : shrI .u64 u 32 = b := by rw [shrI_u32, hb]
  generalize hP : u * u = P at *
  generalize hp : a * a = p at *
  generalize hq : 2 * a * b = q at *
  generalize hs : b * b = s at *
  have ax : 0 ≤ a ∧ a ≤ 4294967295 := by omega
  have bx : 0 ≤ b ∧ b ≤ 2147483647 := by omega
  have t1 : (q * 4294967296 % 18446744073709551616) = q % 4294967296 * 4294967296 := by omega
  by_cases hx : x < 0
  · have hw : IntKind.u64.wrap (-x) = u := by rw [wrap_u64] <;> omega
    simp (disch := first | omega | simp) [wrap_i64, le_most, lt_omega, le_omega, ne_omega, allLen, hx, hw, A, B, hp, hq, hs, shrI_u32, shlI_u32, wrap_u64, t1]
    simp only [wrap_u]
    (first | refine Gd.dec (fun h2 => ?_) (fun h2 => ?_) | refine Gd.intro (fun h2 => ?_) (fun h2 => ?_)) <;> simp (disch := first | omega | simp) [wrap_i64, le_most, lt_omega, le_omega, ne_omega, allLen, h2]
    · simp only [hs, wrap_u]; exact ⟨by omega, by omega⟩
    · simp only [hs, wrap_u]; exact ⟨by omega, by omega⟩
  · have hw : IntKind.u64.wrap x = u := by rw [wrap_u64] <;> omega
    simp (disch := first | omega | simp) [wrap_i64, le_most, lt_omega, le_omega, ne_omega, allLen, hx, hw, A, B, hp, hq, hs, shrI_u32, shlI_u32, wrap_u64, t1]
    simp only [wrap_u]
    (first | refine Gd.dec (fun h2 => ?_) (fun h2 => ?_) | refine Gd.intro (fun h2 => ?_) (fun h2 => ?_)) <;> simp (disch := first | omega | simp) [wrap_i64, le_most, lt_omega, le_omega, ne_omega, allLen, h2]
    · simp only [hs, wrap_u]; exact ⟨by omega, by omega⟩
    · simp only [hs, wrap_u]; exact ⟨by omega, by omega⟩
theorem c75 (a b : Int) (ha0 : -9223372036854775808 < a) (ha1 : a ≤ 9223372036854775807) (hb0 : -9223372036854775808 < b) (hb1 : b ≤ 9223372036854775807) :
    PC E 75 [.i (.int .i64 a), .i (.int .i64 b)] [.i (.bool (decide (a * a < 2 * (b * b))))] := by
  refine PC_start hE Proofs.Tryd.func75 rfl rfl Proofs.Tryd.ntmps75 (by kernel_rfl) (by kernel_rfl) (by simp) ?_
  have sa := sq_bound (a := a) (by omega) ha1
  have sb := sq_bound (a := b) (by omega) hb1
  rw [natAbs_sq] at sa sb
  simp (disch := first | omega | simp) [wrap_i64, le_most, lt_omega, le_omega, ne_omega, allLen]
  refine CallK.of (c83 a ha0 ha1) (by first | exact .inl rfl | exact .inr (by simp)) (by simp) ?_
  simp (disch := first | omega | simp) [wrap_i64, le_most, lt_omega, le_omega, ne_omega, allLen]
  refine CallK.of (c83 b hb0 hb1) (by first | exact .inl rfl | exact .inr (by simp)) (by simp) ?_
  generalize a * a = p at *
  generalize b * b = q at *
  simp (disch := first | omega | simp) [wrap_i64, le_most, lt_omega, le_omega, ne_omega, allLen, shrI_u63, wrap_u64]
  (first | refine Gd.dec (fun h1 => ?_) (fun h1 => ?_) | refine Gd.intro (fun h1 => ?_) (fun h1 => ?_)) <;> simp (disch := first | omega | simp) [wrap_i64, le_most, lt_omega, le_omega, ne_omega, allLen, h1]
  (first | refine Gd.dec (fun h2 => ?_) (fun h2 => ?_) | refine Gd.intro (fun h2 => ?_) (fun h2 => ?_)) <;> simp (disch := first | omega | simp) [wrap_i64, le_most, lt_omega, le_omega, ne_omega, allLen, h2]
  all_goals simp only [wrap_u]
  all_goals omega
theorem irrN : ∀ (m n : Nat), n * n = 2 * (m * m) → m = 0 := by
  intro m
  induction m using Nat.strongRecOn with
  | _ m ih =>
    intro n h
    by_cases hm : m = 0
    · exact hm
    · exfalso
      have hn : n % 2 = 0 := by
        have h2 : (n * n) % 2 = 0 := by omega
        rw [Nat.mul_mod] at h2
        rcases Nat.mod_two_eq_zero_or_one n with h3 | h3
        · exact h3
        · rw [h3] at h2; omega
      obtain ⟨t, rfl⟩ : ∃ t, n = 2 * t := ⟨n / 2, by omega⟩
      have h4 : 2 * t * (2 * t) = 4 * (t * t) := by rw [Nat.mul_mul_mul_comm]
      rw [h4] at h
      have h5 : m * m = 2 * (t * t) := by omega
      have hlt : t < m := by
        rcases Nat.lt_or_ge t m with h6 | h6
        · exact h6
        · have := Nat.mul_le_mul h6 h6
          have : 0 < m * m := Nat.mul_pos (by omega) (by omega)
          omega
      have ht := ih t hlt m h5
      rw [ht] at h5
      have : 0 < m * m := Nat.mul_pos (by omega) (by omega)
      omega
theorem irr {a b : Int} (h : a * a = 2 * (b * b)) : b = 0 := by
  have h1 : a.natAbs * a.natAbs = 2 * (b.natAbs * b.natAbs) := by
    have e1 := natAbs_sq a
    have e2 := natAbs_sq b
    have : ((a.natAbs * a.natAbs : Nat) : Int) = ((2 * (b.natAbs * b.natAbs) : Nat) : Int) := by
      rw [Int.natCast_mul, Int.natCast_mul, Int.natCast_mul, e1, e2]; exact h
    exact Int.ofNat_inj.1 this
  have := irrN _ _ h1
  omega
theorem c62 (x : Nu) (h : x.i64) (ha : x.a ≠ -9223372036854775808) (hb : x.b ≠ -9223372036854775808) : PC E 62 [.agg (encN x)] [.i (.int .i64 (nsign x))] := by
  obtain ⟨⟨ha1, ha2⟩, ⟨hb1, hb2⟩, hk1, hk2⟩ := h
  have hir := irr (a := x.a) (b := x.b)
  refine PC_start hE Proofs.Tryd.func62 rfl rfl Proofs.Tryd.ntmps62 (by kernel_rfl) (by kernel_rfl) (by simp) ?_
  unfold nsign sgn
  by_cases a0 : x.a = 0
  · by_cases b0 : x.b = 0
    · simp (disch := first | omega | simp) [wrap_i64, le_most, lt_omega, le_omega, ne_omega, allLen, encN, a0, b0]
    · by_cases bp : 0 < x.b
      · have : 0 ≤ x.b := by omega
        simp (disch := first | omega | simp) [wrap_i64, le_most, lt_omega, le_omega, ne_omega, allLen, encN, a0, b0, bp, this]
      · have t1 : ¬ 0 ≤ x.b := by omega
        have t2 : x.b ≤ 0 := by omega
        have t3 : x.b < 0 := by omega
        simp (disch := first | omega | simp) [wrap_i64, le_most, lt_omega, le_omega, ne_omega, allLen, encN, a0, b0, bp, t1, t2, t3]
  · by_cases ap : 0 < x.a
    · by_cases bp : 0 ≤ x.b
      · have t1 : 0 ≤ x.a := by omega
        simp (disch := first | omega | simp) [wrap_i64, le_most, lt_omega, le_omega, ne_omega, allLen, encN, a0, ap, t1, bp]
      · have t1 : 0 ≤ x.a := by omega
        have t2 : ¬ x.a ≤ 0 := by omega
        have t3 : ¬ 0 < x.b := by omega
        have t4 : x.b < 0 := by omega
        simp (disch := first | omega | simp) [wrap_i64, le_most, lt_omega, le_omega, ne_omega, allLen, encN, a0, ap, t1, bp, t2]
        refine CallK.of (c75 x.a x.b (by omega) ha2 (by omega) hb2) (by first | exact .inl rfl | exact .inr (by simp)) (by simp) ?_
        simp (disch := first | omega | simp) [wrap_i64, le_most, lt_omega, le_omega, ne_omega, allLen, t3]
        (first | refine Gd.dec (fun h1 => ?_) (fun h1 => ?_) | refine Gd.intro (fun h1 => ?_) (fun h1 => ?_)) <;> simp (disch := first | omega | simp) [wrap_i64, le_most, lt_omega, le_omega, ne_omega, allLen, h1]
    · have an : x.a < 0 := by omega
      have t1 : ¬ 0 ≤ x.a := by omega
      have t2 : x.a ≤ 0 := by omega
      by_cases bp : x.b ≤ 0
      · simp (disch := first | omega | simp) [wrap_i64, le_most, lt_omega, le_omega, ne_omega, allLen, encN, a0, ap, an, t1, t2, bp]
      · have t3 : 0 < x.b := by omega
        simp (disch := first | omega | simp) [wrap_i64, le_most, lt_omega, le_omega, ne_omega, allLen, encN, a0, ap, t1, bp, t2]
        refine CallK.of (c75 x.a x.b (by omega) ha2 (by omega) hb2) (by first | exact .inl rfl | exact .inr (by simp)) (by simp) ?_
        simp (disch := first | omega | simp) [wrap_i64, le_most, lt_omega, le_omega, ne_omega, allLen, t3]
        (first | refine Gd.dec (fun h1 => ?_) (fun h1 => ?_) | refine Gd.intro (fun h1 => ?_) (fun h1 => ?_)) <;> simp (disch := first | omega | simp) [wrap_i64, le_most, lt_omega, le_omega, ne_omega, allLen, h1]
end Go.Vai
