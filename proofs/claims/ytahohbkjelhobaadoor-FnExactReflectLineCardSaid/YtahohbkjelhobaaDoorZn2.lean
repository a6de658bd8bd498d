import Derived.Test.YtahohbkjelhobaaDoorZn1
import Derived.Test.YtahohbkjelhobaaDoorZt0
set_option linter.unusedVariables false
set_option linter.unusedSimpArgs false
set_option maxHeartbeats 4000000
namespace Go.Vai
theorem c74 (x : Nu) (h : x.i64) (h0 : 0 ≤ x.k) : PC E 74 [.agg (encN x)] [.agg (encN (low x))] := by
  refine PC_start hE Proofs.Tryd.func74 rfl rfl Proofs.Tryd.ntmps74 (by kernel_rfl) (by kernel_rfl) (by simp) ?_
  simp (disch := first | omega | simp) [wrap_i64, le_most, lt_omega, le_omega, ne_omega, allLen]
  refine XL.by hE (ι := { y : Nu // y.i64 ∧ 0 ≤ y.k ∧ low y = low x }) (fun y => ⟨[(1, .ptr 1 0 0), (2, .ptr 2 0 0)], [(1, ⟨3, [encN y.1]⟩), (2, ⟨3, [[.int .i64 0, .int .i64 0, .int .i64 0]]⟩)]⟩)
    (fun y => y.1.k.toNat) ⟨x, h, h0, rfl⟩ ⟨by simp, by simp, by simp⟩ (by kernel_rfl) ?_
  rintro ⟨⟨a, b, k⟩, hi, hk, hl⟩
  obtain ⟨⟨ha1, ha2⟩, ⟨hb1, hb2⟩, hk1, hk2⟩ := hi
  simp only at ha1 ha2 hb1 hb2 hk1 hk2 hk
  by_cases hkp : 0 < k
  · by_cases hpa : a % 2 = 0
    · by_cases hpb : b % 2 = 0
      · have ta := tdiv2 hpa
        have tb := tdiv2 hpb
        have hs := low_step (x := ⟨a, b, k⟩) hkp hpa hpb
        simp only at hs
        simp (disch := first | omega | simp) [wrap_i64, le_most, lt_omega, le_omega, ne_omega, allLen, encN, hkp, andI_one, hpa, hpb, ta, tb]
        by_cases za : a / 2 = 0
        · by_cases zb : b / 2 = 0
          · simp (disch := first | omega | simp) [wrap_i64, le_most, lt_omega, le_omega, ne_omega, allLen, za, zb]
            have hz : low ⟨0, 0, 0⟩ = low x := by
              rw [← hl, ← hs]
              unfold low
              simp [za, zb]
            (refine ⟨⟨⟨0, 0, 0⟩, by unfold Nu.i64; simp, by simp, hz⟩, by (simp; try omega), ?_⟩; constructor <;> (simp (disch := first | omega | simp) [wrap_i64, le_most, lt_omega, le_omega, ne_omega, allLen, encN]) <;> (try omega))
          · simp (disch := first | omega | simp) [wrap_i64, le_most, lt_omega, le_omega, ne_omega, allLen, za, zb]
            (refine ⟨⟨⟨a / 2, b / 2, k - 1⟩, by unfold Nu.i64; simp only; omega, by simp only; omega, by rw [hs, hl]⟩, by (simp; try omega), ?_⟩; constructor <;> (simp (disch := first | omega | simp) [wrap_i64, le_most, lt_omega, le_omega, ne_omega, allLen, encN, za]) <;> (try omega))
        · simp (disch := first | omega | simp) [wrap_i64, le_most, lt_omega, le_omega, ne_omega, allLen, za]
          (refine ⟨⟨⟨a / 2, b / 2, k - 1⟩, by unfold Nu.i64; simp only; omega, by simp only; omega, by rw [hs, hl]⟩, by (simp; try omega), ?_⟩; constructor <;> (simp (disch := first | omega | simp) [wrap_i64, le_most, lt_omega, le_omega, ne_omega, allLen, encN]) <;> (try omega))
      · have he := low_end (x := ⟨a, b, k⟩) (by simp only; omega) (by simp only; omega)
        simp (disch := first | omega | simp) [wrap_i64, le_most, lt_omega, le_omega, ne_omega, allLen, encN, hkp, andI_one, hpa, hpb]
        rw [← hl, he]
        exact ⟨rfl, rfl, rfl⟩
    · have he := low_end (x := ⟨a, b, k⟩) (by simp only; omega) (by simp only; omega)
      simp (disch := first | omega | simp) [wrap_i64, le_most, lt_omega, le_omega, ne_omega, allLen, encN, hkp, andI_one, hpa]
      rw [← hl, he]
      exact ⟨rfl, rfl, rfl⟩
  · have he := low_end (x := ⟨a, b, k⟩) (by simp only; omega) (by simp only; omega)
    simp (disch := first | omega | simp) [wrap_i64, le_most, lt_omega, le_omega, ne_omega, allLen, encN, hkp]
    rw [← hl, he]
    exact ⟨rfl, rfl, rfl⟩
theorem c73 (x : Nu) (h : x.i64) (ha : x.a ≠ -9223372036854775808) (hb : x.b ≠ -9223372036854775808) : PC E 73 [.agg (encN x)] [.agg (encN (nneg x))] := by
  obtain ⟨⟨ha1, ha2⟩, ⟨hb1, hb2⟩, hk1, hk2⟩ := h
  refine PC_start hE Proofs.Tryd.func73 rfl rfl Proofs.Tryd.ntmps73 (by kernel_rfl) (by kernel_rfl) (by simp) ?_
  simp (disch := first | omega | simp) [wrap_i64, le_most, lt_omega, le_omega, ne_omega, allLen, encN, nneg]
theorem NB.i64 {K M : Nat} {x : Nu} (h : NB K M x) (hM : M ≤ 4611686018427387904) (hK : K ≤ 60) : x.i64 := by
  have := h.abs; have := h.k0; have := h.k1
  unfold Nu.i64; omega
theorem c60 (x y : Nu) {K M M' : Nat} (h : NB K M x) (h' : NB K M' y) (hK : K ≤ 60) (hM : M + M' ≤ 4611686018427387904) : PC E 60 [.agg (encN x), .agg (encN y)] [.agg (encN (nadd x y))] := by
  refine PC_start hE Proofs.Tryd.func60 rfl rfl Proofs.Tryd.ntmps60 (by kernel_rfl) (by kernel_rfl) (by simp) ?_
  have hp := h.pre_add h'
  have k0 := h.k0; have k0' := h'.k0; have k1 := h.k1; have k1' := h'.k1
  obtain ⟨a1, b1⟩ := h.shift (m := max x.k y.k) (by omega) (by omega)
  obtain ⟨a2, b2⟩ := h'.shift (m := max x.k y.k) (by omega) (by omega)
  have q1 := Nat.le_trans (le_mul_pow _ _) a1
  have q2 := Nat.le_trans (le_mul_pow _ _) a2
  have q3 := Nat.le_trans (le_mul_pow _ _) b1
  have q4 := Nat.le_trans (le_mul_pow _ _) b2
  have hd : nadd x y = low ⟨x.a * pw (max x.k y.k - x.k) + y.a * pw (max x.k y.k - y.k), x.b * pw (max x.k y.k - x.k) + y.b * pw (max x.k y.k - y.k), max x.k y.k⟩ := rfl
  rw [hd]
  have em : (if x.k < y.k then y.k else x.k) = max x.k y.k := by split <;> omega
  have hm0 : x.k ≤ max x.k y.k := by omega
  have hm1 : y.k ≤ max x.k y.k := by omega
  have hm2 : max x.k y.k ≤ 60 := by omega
  generalize max x.k y.k = m at *
  have e1 := shlI_pw (a := x.a) (s := m - x.k) (by omega) (by omega) (by omega)
  have e2 := shlI_pw (a := y.a) (s := m - y.k) (by omega) (by omega) (by omega)
  have e3 := shlI_pw (a := x.b) (s := m - x.k) (by omega) (by omega) (by omega)
  have e4 := shlI_pw (a := y.b) (s := m - y.k) (by omega) (by omega) (by omega)
  have n1 : ¬ (m - x.k < 0) := by omega
  have n2 : ¬ (m - y.k < 0) := by omega
  have hi := hp.i64 hM hK
  generalize x.a * pw (m - x.k) = A1 at *
  generalize y.a * pw (m - y.k) = A2 at *
  generalize x.b * pw (m - x.k) = B1 at *
  generalize y.b * pw (m - y.k) = B2 at *
  simp (disch := first | omega | simp) [wrap_i64, le_most, lt_omega, le_omega, ne_omega, allLen, encN, em, n1, n2, e1, e2, e3, e4]
  refine CallK.of (c74 ⟨A1 + A2, B1 + B2, m⟩ hi hp.k0) (by first | exact .inl rfl | exact .inr (by simp)) (by simp) ?_
  simp (disch := first | omega | simp) [wrap_i64, le_most, lt_omega, le_omega, ne_omega, allLen, encN]
theorem NB.ne {K M : Nat} {x : Nu} (h : NB K M x) (hM : M ≤ 4611686018427387904) : x.a ≠ -9223372036854775808 ∧ x.b ≠ -9223372036854775808 := by
  have := h.abs; omega
theorem c56 (x y : Nu) {K M M' : Nat} (h : NB K M x) (h' : NB K M' y) (hK : K ≤ 60) (hM : M + M' ≤ 4611686018427387904) : PC E 56 [.agg (encN x), .agg (encN y)] [.agg (encN (nsub x y))] := by
  refine PC_start hE Proofs.Tryd.func56 rfl rfl Proofs.Tryd.ntmps56 (by kernel_rfl) (by kernel_rfl) (by simp) ?_
  simp (disch := first | omega | simp) [wrap_i64, le_most, lt_omega, le_omega, ne_omega, allLen]
  refine CallK.of (c73 y (h'.i64 (by omega) hK) (h'.ne (by omega)).1 (h'.ne (by omega)).2) (by first | exact .inl rfl | exact .inr (by simp)) (by simp) ?_
  simp (disch := first | omega | simp) [wrap_i64, le_most, lt_omega, le_omega, ne_omega, allLen]
  refine CallK.of (c60 x (nneg y) h h'.neg hK hM) (by first | exact .inl rfl | exact .inr (by simp)) (by simp) ?_
  simp (disch := first | omega | simp) [wrap_i64, le_most, lt_omega, le_omega, ne_omega, allLen, encN, nsub]
theorem c72 (x y : Nu) {K K' M M' : Nat} (h : NB K M x) (h' : NB K' M' y) (hK : K + K' ≤ 60) (hM : 3 * (M * M') ≤ 4611686018427387904) (h2 : M ≤ 2305843009213693952) : PC E 72 [.agg (encN x), .agg (encN y)] [.agg (encN (nmul x y))] := by
  refine PC_start hE Proofs.Tryd.func72 rfl rfl Proofs.Tryd.ntmps72 (by kernel_rfl) (by kernel_rfl) (by simp) ?_
  have hp := h.pre_mul h'
  have hi := hp.i64 hM hK
  have k0 := h.k0; have k0' := h'.k0; have k1 := h.k1; have k1' := h'.k1
  obtain ⟨xa, xb⟩ := h.abs
  obtain ⟨ya, yb⟩ := h'.abs
  have m1 := Nat.mul_le_mul xa ya
  have m2 := Nat.mul_le_mul xb yb
  have m3 := Nat.mul_le_mul xa yb
  have m4 := Nat.mul_le_mul xb ya
  rw [← Int.natAbs_mul] at m1 m2 m3 m4
  have hd : nmul x y = low ⟨x.a * y.a + 2 * x.b * y.b, x.a * y.b + x.b * y.a, x.k + y.k⟩ := rfl
  rw [hd]
  have e2 : 2 * x.b * y.b = 2 * (x.b * y.b) := Int.mul_assoc ..
  have e3 : 2 * x.b * y.b = 2 * (x.b * y.b) := Int.mul_assoc ..
  simp only [e2] at hi hp ⊢
  generalize hP : M * M' = P at *
  generalize hq1 : x.a * y.a = p1 at *
  generalize hq2 : x.b * y.b = p2 at *
  generalize hq3 : x.a * y.b = p3 at *
  generalize hq4 : x.b * y.a = p4 at *
  simp (disch := first | omega | simp) [wrap_i64, le_most, lt_omega, le_omega, ne_omega, allLen, encN, hq1, hq2, hq3, hq4, e3]
  refine CallK.of (c74 ⟨p1 + 2 * p2, p3 + p4, x.k + y.k⟩ hi hp.k0) (by first | exact .inl rfl | exact .inr (by simp)) (by simp) ?_
  simp (disch := first | omega | simp) [wrap_i64, le_most, lt_omega, le_omega, ne_omega, allLen, encN]
/-- A number within the limits. -/
def vN (x : Nu) : Bool := inB x.a (-131072) 131072 && (inB x.b (-131072) 131072 && (inB x.k 0 10 && (decide (x.k = 0) || (decide (x.a % 2 = 1) || decide (x.b % 2 = 1)))))
theorem c27 (x : Nu) : PC E 27 [.agg (encN x)] [.i (.bool (vN x))] := by
  refine PC_start hE Proofs.Tryd.func27 rfl rfl Proofs.Tryd.ntmps27 (by kernel_rfl) (by kernel_rfl) (by simp) ?_
  simp (disch := first | omega | simp) [wrap_i64, le_most, lt_omega, le_omega, ne_omega, allLen, encN]
  refine CallK.of (c53 _ _ _) (by first | exact .inl rfl | exact .inr (by simp)) (by simp) ?_
  simp (disch := first | omega | simp) [wrap_i64, le_most, lt_omega, le_omega, ne_omega, allLen]
  generalize h1 : inB x.a (-131072) 131072 = q1
  cases q1
  · simp (disch := first | omega | simp) [wrap_i64, le_most, lt_omega, le_omega, ne_omega, allLen]
    simp [vN, h1]
  simp (disch := first | omega | simp) [wrap_i64, le_most, lt_omega, le_omega, ne_omega, allLen]
  refine CallK.of (c53 _ _ _) (by first | exact .inl rfl | exact .inr (by simp)) (by simp) ?_
  simp (disch := first | omega | simp) [wrap_i64, le_most, lt_omega, le_omega, ne_omega, allLen]
  generalize h2 : inB x.b (-131072) 131072 = q2
  cases q2
  · simp (disch := first | omega | simp) [wrap_i64, le_most, lt_omega, le_omega, ne_omega, allLen]
    simp [vN, h2]
  simp (disch := first | omega | simp) [wrap_i64, le_most, lt_omega, le_omega, ne_omega, allLen]
  refine CallK.of (c53 _ _ _) (by first | exact .inl rfl | exact .inr (by simp)) (by simp) ?_
  simp (disch := first | omega | simp) [wrap_i64, le_most, lt_omega, le_omega, ne_omega, allLen]
  generalize h3 : inB x.k 0 10 = q3
  cases q3
  · simp (disch := first | omega | simp) [wrap_i64, le_most, lt_omega, le_omega, ne_omega, allLen]
    simp [vN, h3]
  simp (disch := first | omega | simp) [wrap_i64, le_most, lt_omega, le_omega, ne_omega, allLen, andI_one]
  (first | refine Gd.dec (fun h4 => ?_) (fun h4 => ?_) | refine Gd.intro (fun h4 => ?_) (fun h4 => ?_)) <;> simp (disch := first | omega | simp) [wrap_i64, le_most, lt_omega, le_omega, ne_omega, allLen, h4]
  · have e0 : inB 0 0 10 = true := rfl
    simp [vN, h1, h2, h4, e0]
  (first | refine Gd.dec (fun h5 => ?_) (fun h5 => ?_) | refine Gd.intro (fun h5 => ?_) (fun h5 => ?_)) <;> simp (disch := first | omega | simp) [wrap_i64, le_most, lt_omega, le_omega, ne_omega, allLen, h5]
  · rw [andI_one] at h5
    simp [vN, h1, h2, h3, h5]
  rw [andI_one] at h5
  simp [vN, h1, h2, h3, h4, h5, andI_one]
end Go.Vai
