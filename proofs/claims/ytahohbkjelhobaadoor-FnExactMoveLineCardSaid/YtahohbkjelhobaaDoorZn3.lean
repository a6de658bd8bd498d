import Derived.Test.YtahohbkjelhobaaDoorZn2
set_option linter.unusedVariables false
set_option linter.unusedSimpArgs false
set_option maxHeartbeats 4000000
namespace Go.Vai
theorem wrap_u (n : Int) : IntKind.u64.wrap n = n % 18446744073709551616 := rfl
theorem wrap_u64 {n : Int} (h0 : 0 ≤ n) (h : n ≤ 18446744073709551615) : IntKind.u64.wrap n = n := by rw [wrap_u]; omega
theorem shrI_u32 (a : Int) : shrI .u64 a 32 = a / 4294967296 := by
  unfold shrI
  show a.fdiv (2 ^ 32) = _
  rw [Int.fdiv_eq_ediv_of_nonneg _ (by decide)]; rfl
theorem shrI_u63 (a : Int) : shrI .u64 a 63 = a / 9223372036854775808 := by
  unfold shrI
  show a.fdiv (2 ^ 63) = _
  rw [Int.fdiv_eq_ediv_of_nonneg _ (by decide)]; rfl
theorem shlI_u1 (a : Int) : shlI .u64 a 1 = (a * 2) % 18446744073709551616 := by
  unfold shlI; rw [wrap_u]; rfl
theorem shlI_u32 (a : Int) : shlI .u64 a 32 = (a * 4294967296) % 18446744073709551616 := by
  unfold shlI; rw [wrap_u]; rfl
theorem andI_u32 (a : Int) : andI .u64 a 4294967295 = a % 4294967296 := by
  unfold andI
  have hb : IntKind.u64.bits = 64 := rfl
  rw [hb, wrap_u]
  have h1 : (BitVec.ofInt 64 a &&& BitVec.ofInt 64 4294967295).toNat = (a % 18446744073709551616).toNat % 4294967296 := by
    rw [BitVec.toNat_and]
    have : (BitVec.ofInt 64 4294967295).toNat = 2 ^ 32 - 1 := rfl
    rw [this, Nat.and_two_pow_sub_one_eq_mod, BitVec.toNat_ofInt]
    rfl
  rw [h1]; omega
/-- An even number, and 0 or 1. -/
theorem orI_u {h c : Int} (h0 : 0 ≤ h) (h1 : h < 18446744073709551616) (he : h % 2 = 0) (hc : c = 0 ∨ c = 1) : orI .u64 h c = h + c := by
  unfold orI
  have hb : IntKind.u64.bits = 64 := rfl
  rw [hb, wrap_u]
  have e1 : (BitVec.ofInt 64 h ||| BitVec.ofInt 64 c).toNat = h.toNat ||| c.toNat := by
    rw [BitVec.toNat_or, BitVec.toNat_ofInt, BitVec.toNat_ofInt]
    congr 1 <;> omega
  rw [e1]
  have e2 : h.toNat = 2 * (h.toNat / 2) := by omega
  have e3 : h.toNat ||| c.toNat = h.toNat + c.toNat := by
    rcases hc with rfl | rfl
    · simp
    · rw [e2]
      have := Nat.two_pow_add_eq_or_of_lt (i := 1) (b := 1) (by decide) (h.toNat / 2)
      simpa using this.symm
  rw [e3]; omega
theorem c84 (x y : Int) (hx0 : 0 ≤ x) (hx1 : x ≤ 18446744073709551615) (hy0 : 0 ≤ y) (hy1 : y ≤ 18446744073709551615) :
    PC E 84 [.i (.int .u64 x), .i (.int .u64 y)] [.i (.int .u64 (x * y / 18446744073709551616)), .i (.int .u64 (x * y % 18446744073709551616))] := by
  refine PC_start hE Proofs.Tryd.func84 rfl rfl Proofs.Tryd.ntmps84 (by kernel_rfl) (by kernel_rfl) (by simp) ?_
  obtain ⟨a, ha⟩ : ∃ a, a = x % 4294967296 := ⟨_, rfl⟩
  obtain ⟨b, hb⟩ : ∃ b, b = x / 4294967296 := ⟨_, rfl⟩
  obtain ⟨c, hc⟩ : ∃ c, c = y % 4294967296 := ⟨_, rfl⟩
  obtain ⟨d, hd⟩ : ∃ d, d = y / 4294967296 := ⟨_, rfl⟩
  have hxe : x = b * 4294967296 + a := by omega
  have hye : y = d * 4294967296 + c := by omega
  have bnd : ∀ u v : Int, 0 ≤ u → u ≤ 4294967295 → 0 ≤ v → v ≤ 4294967295 → 0 ≤ u * v ∧ u * v ≤ 18446744065119617025 := fun u v h1 h2 h3 h4 =>
    ⟨Int.mul_nonneg h1 h3, by have := Int.mul_le_mul h2 h4 h3 (by omega : (0 : Int) ≤ 4294967295); omega⟩
  have b1 := bnd a c (by omega) (by omega) (by omega) (by omega)
  have b2 := bnd b c (by omega) (by omega) (by omega) (by omega)
  have b3 := bnd a d (by omega) (by omega) (by omega) (by omega)
  have b4 := bnd b d (by omega) (by omega) (by omega) (by omega)
  have hxy : x * y = b * d * 18446744073709551616 + (b * c + a * d) * 4294967296 + a * c := by
    rw [hxe, hye]
    simp only [Int.add_mul, Int.mul_add]
    have e1 : b * 4294967296 * (d * 4294967296) = b * d * 18446744073709551616 := by
      rw [Int.mul_assoc, Int.mul_left_comm 4294967296 d, ← Int.mul_assoc]; rfl
    have e2 : b * 4294967296 * c = b * c * 4294967296 := by rw [Int.mul_right_comm]
    have e3 : a * (d * 4294967296) = a * d * 4294967296 := by rw [Int.mul_assoc]
    rw [e1, e2, e3]; omega
  have A : andI .u64 x 4294967295 = a := by rw [andI_u32, ha]
  have B : shrI .u64 x 32 = b := by rw [shrI_u32, hb]
  have C : andI .u64 y 4294967295 = c := by rw [andI_u32, hc]
  have D : shrI .u64 y 32 = d := by rw [shrI_u32, hd]
  generalize hP : x * y = P at *
  generalize hp : a * c = p at *
  generalize hq : b * c = q at *
  generalize hr : a * d = r at *
  generalize hs : b * d = s at *
  simp (disch := first | omega | simp) [wrap_i64, le_most, lt_omega, le_omega, ne_omega, allLen, A, B, C, D, hP, hp, hq, hr, hs, shrI_u32, andI_u32, wrap_u64]
  simp only [wrap_u]
  exact ⟨by omega, trivial⟩
def sgn (n : Int) : Int := if 0 < n then 1 else if n < 0 then -1 else 0
theorem c85 (n : Int) (h0 : -9223372036854775808 < n) (h1 : n ≤ 9223372036854775807) : PC E 85 [.i (.int .i64 n)] [.i (.int .i64 n.natAbs)] := by
  refine PC_start hE Proofs.Tryd.func85 rfl rfl Proofs.Tryd.ntmps85 (by kernel_rfl) (by kernel_rfl) (by simp) ?_
  simp (disch := first | omega | simp) [wrap_i64, le_most, lt_omega, le_omega, ne_omega, allLen]
  split <;> omega
theorem c76 (n : Int) (h0 : -9223372036854775808 ≤ n) (h1 : n ≤ 9223372036854775807) : PC E 76 [.i (.int .i64 n)] [.i (.int .i64 (sgn n))] := by
  refine PC_start hE Proofs.Tryd.func76 rfl rfl Proofs.Tryd.ntmps76 (by kernel_rfl) (by kernel_rfl) (by simp) ?_
  simp (disch := first | omega | simp) [wrap_i64, le_most, lt_omega, le_omega, ne_omega, allLen, sgn]
  split <;> split <;> (try split) <;> omega
theorem sq_bound {a : Int} (h0 : -9223372036854775808 ≤ a) (h1 : a ≤ 9223372036854775807) : 0 ≤ (a.natAbs : Int) * a.natAbs ∧ (a.natAbs : Int) * a.natAbs ≤ 85070591730234615865843651857942052864 := by
  have h2 : (a.natAbs : Int) ≤ 9223372036854775808 := by omega
  exact ⟨Int.mul_nonneg (by omega) (by omega), Int.mul_le_mul h2 h2 (by omega) (by omega)⟩
theorem natAbs_sq (a : Int) : (a.natAbs : Int) * a.natAbs = a * a := Int.natAbs_mul_self' a
theorem c77 (a b : Int) (ha0 : -9223372036854775808 < a) (ha1 : a ≤ 9223372036854775807) (hb0 : -9223372036854775808 < b) (hb1 : b ≤ 9223372036854775807) :
    PC E 77 [.i (.int .i64 a), .i (.int .i64 b)] [.i (.bool (decide (2 * (b * b) < a * a)))] := by
  refine PC_start hE Proofs.Tryd.func77 rfl rfl Proofs.Tryd.ntmps77 (by kernel_rfl) (by kernel_rfl) (by simp) ?_
  have wa : IntKind.u64.wrap (a.natAbs : Int) = a.natAbs := wrap_u64 (by omega) (by omega)
  have wb : IntKind.u64.wrap (b.natAbs : Int) = b.natAbs := wrap_u64 (by omega) (by omega)
  have sa := sq_bound (a := a) (by omega) ha1
  have sb := sq_bound (a := b) (by omega) hb1
  simp (disch := first | omega | simp) [wrap_i64, le_most, lt_omega, le_omega, ne_omega, allLen]
  refine CallK.of (c85 a ha0 ha1) (by first | exact .inl rfl | exact .inr (by simp)) (by simp) ?_
  simp (disch := first | omega | simp) [wrap_i64, le_most, lt_omega, le_omega, ne_omega, allLen, wa]
  refine CallK.of (c85 a ha0 ha1) (by first | exact .inl rfl | exact .inr (by simp)) (by simp) ?_
  simp (disch := first | omega | simp) [wrap_i64, le_most, lt_omega, le_omega, ne_omega, allLen, wa]
  refine CallK.of (c84 a.natAbs a.natAbs (by omega) (by omega) (by omega) (by omega)) (by first | exact .inl rfl | exact .inr (by simp)) (by simp) ?_
  simp (disch := first | omega | simp) [wrap_i64, le_most, lt_omega, le_omega, ne_omega, allLen]
  refine CallK.of (c85 b hb0 hb1) (by first | exact .inl rfl | exact .inr (by simp)) (by simp) ?_
  simp (disch := first | omega | simp) [wrap_i64, le_most, lt_omega, le_omega, ne_omega, allLen, wb]
  refine CallK.of (c85 b hb0 hb1) (by first | exact .inl rfl | exact .inr (by simp)) (by simp) ?_
  simp (disch := first | omega | simp) [wrap_i64, le_most, lt_omega, le_omega, ne_omega, allLen, wb]
  refine CallK.of (c84 b.natAbs b.natAbs (by omega) (by omega) (by omega) (by omega)) (by first | exact .inl rfl | exact .inr (by simp)) (by simp) ?_
  rw [← natAbs_sq a, ← natAbs_sq b]
  generalize (a.natAbs : Int) * a.natAbs = p at *
  generalize (b.natAbs : Int) * b.natAbs = q at *
  have ho : orI .u64 (q / 18446744073709551616 * 2 % 18446744073709551616) (shrI .u64 (q % 18446744073709551616) 63) = q / 18446744073709551616 * 2 + q % 18446744073709551616 / 9223372036854775808 := by
    rw [shrI_u63, orI_u] <;> omega
  simp (disch := first | omega | simp) [wrap_i64, le_most, lt_omega, le_omega, ne_omega, allLen, ho, shlI_u1]
  (first | refine Gd.dec (fun h1 => ?_) (fun h1 => ?_) | refine Gd.intro (fun h1 => ?_) (fun h1 => ?_)) <;> simp (disch := first | omega | simp) [wrap_i64, le_most, lt_omega, le_omega, ne_omega, allLen, h1]
  (first | refine Gd.dec (fun h2 => ?_) (fun h2 => ?_) | refine Gd.intro (fun h2 => ?_) (fun h2 => ?_)) <;> simp (disch := first | omega | simp) [wrap_i64, le_most, lt_omega, le_omega, ne_omega, allLen, h2]
  omega
/-- The sign. -/
def nsign (x : Nu) : Int := if sgn x.a = sgn x.b ∨ sgn x.b = 0 then sgn x.a else if sgn x.a = 0 ∨ ¬ (2 * (x.b * x.b) < x.a * x.a) then sgn x.b else sgn x.a
theorem c66 (x : Nu) (h : x.i64) (ha : x.a ≠ -9223372036854775808) (hb : x.b ≠ -9223372036854775808) : PC E 66 [.agg (encN x)] [.i (.int .i64 (nsign x))] := by
  obtain ⟨⟨ha1, ha2⟩, ⟨hb1, hb2⟩, hk1, hk2⟩ := h
  refine PC_start hE Proofs.Tryd.func66 rfl rfl Proofs.Tryd.ntmps66 (by kernel_rfl) (by kernel_rfl) (by simp) ?_
  simp (disch := first | omega | simp) [wrap_i64, le_most, lt_omega, le_omega, ne_omega, allLen, encN]
  refine CallK.of (c76 x.a ha1 ha2) (by first | exact .inl rfl | exact .inr (by simp)) (by simp) ?_
  simp (disch := first | omega | simp) [wrap_i64, le_most, lt_omega, le_omega, ne_omega, allLen]
  refine CallK.of (c76 x.b hb1 hb2) (by first | exact .inl rfl | exact .inr (by simp)) (by simp) ?_
  simp (disch := first | omega | simp) [wrap_i64, le_most, lt_omega, le_omega, ne_omega, allLen]
  (first | refine Gd.dec (fun h1 => ?_) (fun h1 => ?_) | refine Gd.intro (fun h1 => ?_) (fun h1 => ?_)) <;> simp (disch := first | omega | simp) [wrap_i64, le_most, lt_omega, le_omega, ne_omega, allLen, h1]
  · simp [nsign, h1]
  (first | refine Gd.dec (fun h2 => ?_) (fun h2 => ?_) | refine Gd.intro (fun h2 => ?_) (fun h2 => ?_)) <;> simp (disch := first | omega | simp) [wrap_i64, le_most, lt_omega, le_omega, ne_omega, allLen, h2]
  · simp [nsign, h2]
  (first | refine Gd.dec (fun h3 => ?_) (fun h3 => ?_) | refine Gd.intro (fun h3 => ?_) (fun h3 => ?_)) <;> simp (disch := first | omega | simp) [wrap_i64, le_most, lt_omega, le_omega, ne_omega, allLen, h3]
  · simp [nsign, h1, h2, h3]
    exact fun e => h2 e.symm
  refine CallK.of (c77 x.a x.b (by omega) ha2 (by omega) hb2) (by first | exact .inl rfl | exact .inr (by simp)) (by simp) ?_
  simp (disch := first | omega | simp) [wrap_i64, le_most, lt_omega, le_omega, ne_omega, allLen]
  (first | refine Gd.dec (fun h4 => ?_) (fun h4 => ?_) | refine Gd.intro (fun h4 => ?_) (fun h4 => ?_)) <;> simp (disch := first | omega | simp) [wrap_i64, le_most, lt_omega, le_omega, ne_omega, allLen, h4]
  · simp [nsign, h1, h2, h3, h4]
  · simp [nsign, h1, h2, h3, h4]
end Go.Vai
