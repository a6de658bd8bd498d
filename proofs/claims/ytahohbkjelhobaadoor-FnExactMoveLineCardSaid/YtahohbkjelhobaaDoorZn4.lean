import Derived.Test.YtahohbkjelhobaaDoorZn3
set_option linter.unusedVariables false
set_option linter.unusedSimpArgs false
set_option maxHeartbeats 4000000
namespace Go.Vai
theorem c52 (x : Nu) (h : x.i64) (h0 : 0 ≤ x.k) : PC E 52 [.agg (encN x)] [.agg (encN (low x))] := by
  refine PC_start hE Proofs.Tryd.func52 rfl rfl Proofs.Tryd.ntmps52 (by kernel_rfl) (by kernel_rfl) (by simp) ?_
  by_cases hz : x.a = 0 ∧ x.b = 0
  · have hl : low x = ⟨0, 0, 0⟩ := by unfold low; rw [if_pos hz]
    simp (disch := first | omega | simp) [wrap_i64, le_most, lt_omega, le_omega, ne_omega, allLen, encN, hz.1, hz.2, hl]
  by_cases hz1 : x.a = 0
  · have hz2 : ¬ x.b = 0 := fun h => hz ⟨hz1, h⟩
    simp (disch := first | omega | simp) [wrap_i64, le_most, lt_omega, le_omega, ne_omega, allLen, encN, hz1, hz2]
    refine XL.by hE (ι := { y : Nu // y.i64 ∧ 0 ≤ y.k ∧ low y = low x ∧ ¬ (y.a = 0 ∧ y.b = 0) }) (fun y => ⟨[(1, .ptr 1 0 0), (2, .ptr 2 0 0)], [(1, ⟨3, [encN y.1]⟩), (2, ⟨3, [[.int .i64 0, .int .i64 0, .int .i64 0]]⟩)]⟩)
      (fun y => y.1.k.toNat) ⟨x, h, h0, rfl, hz⟩ ⟨by simp, by simp [encN, hz1], by simp⟩ (by kernel_rfl) ?_
    rintro ⟨⟨a, b, k⟩, hi, hk, hl, hnz⟩
    obtain ⟨⟨ha1, ha2⟩, ⟨hb1, hb2⟩, hk1, hk2⟩ := hi
    simp only at ha1 ha2 hb1 hb2 hk1 hk2 hk hnz
    by_cases hkp : 0 < k
    · by_cases hpa : a % 2 = 0
      · by_cases hpb : b % 2 = 0
        · have ta := tdiv2 hpa
          have tb := tdiv2 hpb
          have hs := low_step (x := ⟨a, b, k⟩) hkp hpa hpb
          simp only at hs
          simp (disch := first | omega | simp) [wrap_i64, le_most, lt_omega, le_omega, ne_omega, allLen, encN, hkp, tmod2, hpa, hpb, ta, tb]
          (refine ⟨⟨⟨a / 2, b / 2, k - 1⟩, by unfold Nu.i64; simp only; omega, by simp only; omega, by rw [hs, hl], by simp only; omega⟩, by (simp; try omega), ?_⟩; constructor <;> (simp (disch := first | omega | simp) [wrap_i64, le_most, lt_omega, le_omega, ne_omega, allLen, encN]) <;> (try omega))
        · have he := low_end (x := ⟨a, b, k⟩) (by simp only; omega) (by simp only; omega)
          simp (disch := first | omega | simp) [wrap_i64, le_most, lt_omega, le_omega, ne_omega, allLen, encN, hkp, tmod2, hpa, hpb]
          rw [← hl, he]
          exact ⟨rfl, rfl, rfl⟩
      · have he := low_end (x := ⟨a, b, k⟩) (by simp only; omega) (by simp only; omega)
        simp (disch := first | omega | simp) [wrap_i64, le_most, lt_omega, le_omega, ne_omega, allLen, encN, hkp, tmod2, hpa]
        rw [← hl, he]
        exact ⟨rfl, rfl, rfl⟩
    · have he := low_end (x := ⟨a, b, k⟩) (by simp only; omega) (by simp only; omega)
      simp (disch := first | omega | simp) [wrap_i64, le_most, lt_omega, le_omega, ne_omega, allLen, encN, hkp]
      rw [← hl, he]
      exact ⟨rfl, rfl, rfl⟩
  · simp (disch := first | omega | simp) [wrap_i64, le_most, lt_omega, le_omega, ne_omega, allLen, encN, hz1]
    refine XL.by hE (ι := { y : Nu // y.i64 ∧ 0 ≤ y.k ∧ low y = low x ∧ ¬ (y.a = 0 ∧ y.b = 0) }) (fun y => ⟨[(1, .ptr 1 0 0), (2, .ptr 2 0 0)], [(1, ⟨3, [encN y.1]⟩), (2, ⟨3, [[.int .i64 0, .int .i64 0, .int .i64 0]]⟩)]⟩)
      (fun y => y.1.k.toNat) ⟨x, h, h0, rfl, hz⟩ ⟨by simp, by simp [encN], by simp⟩ (by kernel_rfl) ?_
    rintro ⟨⟨a, b, k⟩, hi, hk, hl, hnz⟩
    obtain ⟨⟨ha1, ha2⟩, ⟨hb1, hb2⟩, hk1, hk2⟩ := hi
    simp only at ha1 ha2 hb1 hb2 hk1 hk2 hk hnz
    by_cases hkp : 0 < k
    · by_cases hpa : a % 2 = 0
      · by_cases hpb : b % 2 = 0
        · have ta := tdiv2 hpa
          have tb := tdiv2 hpb
          have hs := low_step (x := ⟨a, b, k⟩) hkp hpa hpb
          simp only at hs
          simp (disch := first | omega | simp) [wrap_i64, le_most, lt_omega, le_omega, ne_omega, allLen, encN, hkp, tmod2, hpa, hpb, ta, tb]
          (refine ⟨⟨⟨a / 2, b / 2, k - 1⟩, by unfold Nu.i64; simp only; omega, by simp only; omega, by rw [hs, hl], by simp only; omega⟩, by (simp; try omega), ?_⟩; constructor <;> (simp (disch := first | omega | simp) [wrap_i64, le_most, lt_omega, le_omega, ne_omega, allLen, encN]) <;> (try omega))
        · have he := low_end (x := ⟨a, b, k⟩) (by simp only; omega) (by simp only; omega)
          simp (disch := first | omega | simp) [wrap_i64, le_most, lt_omega, le_omega, ne_omega, allLen, encN, hkp, tmod2, hpa, hpb]
          rw [← hl, he]
          exact ⟨rfl, rfl, rfl⟩
      · have he := low_end (x := ⟨a, b, k⟩) (by simp only; omega) (by simp only; omega)
        simp (disch := first | omega | simp) [wrap_i64, le_most, lt_omega, le_omega, ne_omega, allLen, encN, hkp, tmod2, hpa]
        rw [← hl, he]
        exact ⟨rfl, rfl, rfl⟩
    · have he := low_end (x := ⟨a, b, k⟩) (by simp only; omega) (by simp only; omega)
      simp (disch := first | omega | simp) [wrap_i64, le_most, lt_omega, le_omega, ne_omega, allLen, encN, hkp]
      rw [← hl, he]
      exact ⟨rfl, rfl, rfl⟩
theorem c50 (x : Nu) : PC E 50 [.agg (encN x)] [.agg (encN x)] := by
  refine PC_start hE Proofs.Tryd.func50 rfl rfl Proofs.Tryd.ntmps50 (by kernel_rfl) (by kernel_rfl) (by simp) ?_
  simp (disch := first | omega | simp) [wrap_i64, le_most, lt_omega, le_omega, ne_omega, allLen, encN]
theorem c71 (x : Nu) (h : x.i64) (ha : x.a ≠ -9223372036854775808) (hb : x.b ≠ -9223372036854775808) : PC E 71 [.agg (encN x)] [.agg (encN (nneg x))] := by
  obtain ⟨⟨ha1, ha2⟩, ⟨hb1, hb2⟩, hk1, hk2⟩ := h
  refine PC_start hE Proofs.Tryd.func71 rfl rfl Proofs.Tryd.ntmps71 (by kernel_rfl) (by kernel_rfl) (by simp) ?_
  simp (disch := first | omega | simp) [wrap_i64, le_most, lt_omega, le_omega, ne_omega, allLen, encN, nneg]
theorem c42 (x : Nu) : PC E 42 [.agg (encN x)] [.i (.bool (vN x))] := by
  refine PC_start hE Proofs.Tryd.func42 rfl rfl Proofs.Tryd.ntmps42 (by kernel_rfl) (by kernel_rfl) (by simp) ?_
  simp (disch := first | omega | simp) [wrap_i64, le_most, lt_omega, le_omega, ne_omega, allLen, encN]
  refine CallK.of (c41 _ _ _) (by first | exact .inl rfl | exact .inr (by simp)) (by simp) ?_
  simp (disch := first | omega | simp) [wrap_i64, le_most, lt_omega, le_omega, ne_omega, allLen]
  generalize h1 : inB x.a (-131072) 131072 = q1
  cases q1
  · simp (disch := first | omega | simp) [wrap_i64, le_most, lt_omega, le_omega, ne_omega, allLen]
    simp [vN, h1]
  simp (disch := first | omega | simp) [wrap_i64, le_most, lt_omega, le_omega, ne_omega, allLen]
  refine CallK.of (c41 _ _ _) (by first | exact .inl rfl | exact .inr (by simp)) (by simp) ?_
  simp (disch := first | omega | simp) [wrap_i64, le_most, lt_omega, le_omega, ne_omega, allLen]
  generalize h2 : inB x.b (-131072) 131072 = q2
  cases q2
  · simp (disch := first | omega | simp) [wrap_i64, le_most, lt_omega, le_omega, ne_omega, allLen]
    simp [vN, h2]
  simp (disch := first | omega | simp) [wrap_i64, le_most, lt_omega, le_omega, ne_omega, allLen]
  refine CallK.of (c41 _ _ _) (by first | exact .inl rfl | exact .inr (by simp)) (by simp) ?_
  simp (disch := first | omega | simp) [wrap_i64, le_most, lt_omega, le_omega, ne_omega, allLen]
  generalize h3 : inB x.k 0 10 = q3
  cases q3
  · simp (disch := first | omega | simp) [wrap_i64, le_most, lt_omega, le_omega, ne_omega, allLen]
    simp [vN, h3]
  simp (disch := first | omega | simp) [wrap_i64, le_most, lt_omega, le_omega, ne_omega, allLen]
  (first | refine Gd.dec (fun h4 => ?_) (fun h4 => ?_) | refine Gd.intro (fun h4 => ?_) (fun h4 => ?_)) <;> simp (disch := first | omega | simp) [wrap_i64, le_most, lt_omega, le_omega, ne_omega, allLen, h4]
  · have e0 : inB 0 0 10 = true := rfl
    simp [vN, h1, h2, h4, e0]
  (first | refine Gd.dec (fun h5 => ?_) (fun h5 => ?_) | refine Gd.intro (fun h5 => ?_) (fun h5 => ?_)) <;> simp (disch := first | omega | simp) [wrap_i64, le_most, lt_omega, le_omega, ne_omega, allLen, h5]
  · rw [tmod2] at h5
    have : ¬ x.a % 2 = 1 := by omega
    simp [vN, h1, h2, h3, h4, this, tmod2]
    have e2 : (x.b % 2 = 0) = ¬ (x.b % 2 = 1) := by apply propext; omega
    simp [e2]
  · rw [tmod2] at h5
    have : x.a % 2 = 1 := by omega
    simp [vN, h1, h2, h3, this]
/-- A number in lowest form, if it keeps the limits. -/
def nok (x : Nu) : Bool := vN (low x)
def nnum (x : Nu) : Nu := if nok x = true then low x else ⟨0, 0, 0⟩
theorem c21 (x : Nu) (h : x.i64) (h0 : 0 ≤ x.k) : PC E 21 [.agg (encN x)] [.agg (encN (nnum x)), .i (.bool (nok x))] := by
  refine PC_start hE Proofs.Tryd.func21 rfl rfl Proofs.Tryd.ntmps21 (by kernel_rfl) (by kernel_rfl) (by simp) ?_
  simp (disch := first | omega | simp) [wrap_i64, le_most, lt_omega, le_omega, ne_omega, allLen]
  refine CallK.of (c52 x h h0) (by first | exact .inl rfl | exact .inr (by simp)) (by simp) ?_
  simp (disch := first | omega | simp) [wrap_i64, le_most, lt_omega, le_omega, ne_omega, allLen, encN]
  refine CallK.of (c42 (low x)) (by first | exact .inl rfl | exact .inr (by simp)) (by simp) ?_
  have e : vN (low x) = nok x := rfl
  rw [e]
  simp (disch := first | omega | simp) [wrap_i64, le_most, lt_omega, le_omega, ne_omega, allLen]
  (first | refine Gd.dec (fun h1 => ?_) (fun h1 => ?_) | refine Gd.intro (fun h1 => ?_) (fun h1 => ?_)) <;> simp (disch := first | omega | simp) [wrap_i64, le_most, lt_omega, le_omega, ne_omega, allLen, h1]
  · simp [nnum, h1]
  · simp [nnum, h1]
theorem pw_succ (a : Int) (j : Nat) : a * pw ((j : Int) + 1) = a * pw j * 2 := by
  unfold pw
  have : ((j : Int) + 1).toNat = (j : Int).toNat + 1 := by omega
  rw [this, Int.pow_succ, Int.mul_assoc]
theorem pw_zero (a : Int) : a * pw 0 = a := by unfold pw; simp
theorem c48 (x y : Nu) {K M M' : Nat} (h : NB K M x) (h' : NB K M' y) (hK : K ≤ 60) (hM : M + M' ≤ 4611686018427387904) : PC E 48 [.agg (encN x), .agg (encN y)] [.agg (encN (nadd x y))] := by
  refine PC_start hE Proofs.Tryd.func48 rfl rfl Proofs.Tryd.ntmps48 (by kernel_rfl) (by kernel_rfl) (by simp) ?_
  have hp := h.pre_add h'
  have k0 := h.k0; have k0' := h'.k0; have k1 := h.k1; have k1' := h'.k1
  have sx : ∀ j : Nat, x.k + j ≤ max x.k y.k → (x.a * pw j).natAbs ≤ M ∧ (x.b * pw j).natAbs ≤ M := fun j hj => by
    obtain ⟨q1, q2⟩ := h.shift (m := x.k + j) (by omega) (by omega)
    have e : x.k + j - x.k = (j : Int) := by omega
    rw [e] at q1 q2
    exact ⟨Nat.le_trans (le_mul_pow _ _) q1, Nat.le_trans (le_mul_pow _ _) q2⟩
  have sy : ∀ j : Nat, y.k + j ≤ max x.k y.k → (y.a * pw j).natAbs ≤ M' ∧ (y.b * pw j).natAbs ≤ M' := fun j hj => by
    obtain ⟨q1, q2⟩ := h'.shift (m := y.k + j) (by omega) (by omega)
    have e : y.k + j - y.k = (j : Int) := by omega
    rw [e] at q1 q2
    exact ⟨Nat.le_trans (le_mul_pow _ _) q1, Nat.le_trans (le_mul_pow _ _) q2⟩
  simp (disch := first | omega | simp) [wrap_i64, le_most, lt_omega, le_omega, ne_omega, allLen]
  refine XL.by hE (ι := { j : Nat // x.k + j ≤ max x.k y.k }) (fun j => ⟨[(2, .ptr 2 0 0), (3, .ptr 3 0 0), (4, .ptr 4 0 0)], [(2, ⟨3, [[.int .i64 (x.a * pw j.1), .int .i64 (x.b * pw j.1), .int .i64 (x.k + j.1)]]⟩), (3, ⟨3, [encN y]⟩), (4, ⟨3, [[.int .i64 0, .int .i64 0, .int .i64 0]]⟩)]⟩)
    (fun j => (max x.k y.k - x.k - j.1).toNat) ⟨0, by omega⟩ ⟨by simp, by simp [encN, pw_zero], by simp⟩ (by kernel_rfl) ?_
  rintro ⟨j, hj⟩
  obtain ⟨s1, s2⟩ := sx j hj
  by_cases hlt : x.k + j < y.k
  · obtain ⟨t1, t2⟩ := sx (j + 1) (by omega)
    rw [show ((j + 1 : Nat) : Int) = (j : Int) + 1 by omega, pw_succ] at t1 t2
    have r1 := pw_succ x.a j
    have r2 := pw_succ x.b j
    generalize hA : x.a * pw j = A at *
    generalize hB : x.b * pw j = B at *
    simp (disch := first | omega | simp) [wrap_i64, le_most, lt_omega, le_omega, ne_omega, allLen, hlt, encN]
    (refine ⟨⟨j + 1, by omega⟩, by (simp; try omega), ?_⟩; constructor <;> (simp (disch := first | omega | simp) [wrap_i64, le_most, lt_omega, le_omega, ne_omega, allLen, r1, r2, encN]) <;> (try omega))
  · have hjm : x.k + (j : Int) = max x.k y.k := by omega
    have hje : (j : Int) = max x.k y.k - x.k := by omega
    have hd : nadd x y = low ⟨x.a * pw (max x.k y.k - x.k) + y.a * pw (max x.k y.k - y.k), x.b * pw (max x.k y.k - x.k) + y.b * pw (max x.k y.k - y.k), max x.k y.k⟩ := rfl
    rw [← hje] at hd hp
    rw [hd]
    generalize hA : x.a * pw j = A at *
    generalize hB : x.b * pw j = B at *
    simp (disch := first | omega | simp) [wrap_i64, le_most, lt_omega, le_omega, ne_omega, allLen, hlt, encN]
    refine XL.by hE (ι := { i : Nat // y.k + i ≤ max x.k y.k }) (fun i => ⟨[(2, .ptr 2 0 0), (3, .ptr 3 0 0), (4, .ptr 4 0 0)], [(2, ⟨3, [[.int .i64 A, .int .i64 B, .int .i64 (x.k + j)]]⟩), (3, ⟨3, [[.int .i64 (y.a * pw i.1), .int .i64 (y.b * pw i.1), .int .i64 (y.k + i.1)]]⟩), (4, ⟨3, [[.int .i64 0, .int .i64 0, .int .i64 0]]⟩)]⟩)
      (fun i => (max x.k y.k - y.k - i.1).toNat) ⟨0, by omega⟩ ⟨by simp, by simp [encN, pw_zero], by simp⟩ (by kernel_rfl) ?_
    rintro ⟨i, hi⟩
    obtain ⟨u1, u2⟩ := sy i hi
    by_cases hlt2 : y.k + i < x.k + j
    · obtain ⟨t1, t2⟩ := sy (i + 1) (by omega)
      rw [show ((i + 1 : Nat) : Int) = (i : Int) + 1 by omega, pw_succ] at t1 t2
      have r1 := pw_succ y.a i
      have r2 := pw_succ y.b i
      generalize hC : y.a * pw i = C at *
      generalize hD : y.b * pw i = D at *
      simp (disch := first | omega | simp) [wrap_i64, le_most, lt_omega, le_omega, ne_omega, allLen, hlt2, encN]
      (refine ⟨⟨i + 1, by omega⟩, by (simp; try omega), ?_⟩; constructor <;> (simp (disch := first | omega | simp) [wrap_i64, le_most, lt_omega, le_omega, ne_omega, allLen, r1, r2, encN]) <;> (try omega))
    · have hie : (i : Int) = max x.k y.k - y.k := by omega
      rw [← hie] at hp ⊢
      generalize hC : y.a * pw i = C at *
      generalize hD : y.b * pw i = D at *
      have hi64 := hp.i64 hM hK
      simp (disch := first | omega | simp) [wrap_i64, le_most, lt_omega, le_omega, ne_omega, allLen, hlt2, encN]
      simp only [hjm]
      refine CallK.of (c52 ⟨A + C, B + D, max x.k y.k⟩ hi64 hp.k0) (by first | exact .inl rfl | exact .inr (by simp)) (by simp) ?_
      simp (disch := first | omega | simp) [wrap_i64, le_most, lt_omega, le_omega, ne_omega, allLen, encN]
theorem c45 (x y : Nu) {K M M' : Nat} (h : NB K M x) (h' : NB K M' y) (hK : K ≤ 60) (hM : M + M' ≤ 4611686018427387904) : PC E 45 [.agg (encN x), .agg (encN y)] [.agg (encN (nsub x y))] := by
  refine PC_start hE Proofs.Tryd.func45 rfl rfl Proofs.Tryd.ntmps45 (by kernel_rfl) (by kernel_rfl) (by simp) ?_
  simp (disch := first | omega | simp) [wrap_i64, le_most, lt_omega, le_omega, ne_omega, allLen]
  refine CallK.of (c71 y (h'.i64 (by omega) hK) (h'.ne (by omega)).1 (h'.ne (by omega)).2) (by first | exact .inl rfl | exact .inr (by simp)) (by simp) ?_
  simp (disch := first | omega | simp) [wrap_i64, le_most, lt_omega, le_omega, ne_omega, allLen]
  refine CallK.of (c48 x (nneg y) h h'.neg hK hM) (by first | exact .inl rfl | exact .inr (by simp)) (by simp) ?_
  simp (disch := first | omega | simp) [wrap_i64, le_most, lt_omega, le_omega, ne_omega, allLen, encN, nsub]
theorem c49 (x y : Nu) {K K' M M' : Nat} (h : NB K M x) (h' : NB K' M' y) (hK : K + K' ≤ 60) (hM : 3 * (M * M') ≤ 4611686018427387904) (h2 : M ≤ 2305843009213693952) : PC E 49 [.agg (encN x), .agg (encN y)] [.agg (encN (nmul x y))] := by
  refine PC_start hE Proofs.Tryd.func49 rfl rfl Proofs.Tryd.ntmps49 (by kernel_rfl) (by kernel_rfl) (by simp) ?_
  have hp := h.pre_mul h'
  have hi := hp.i64 hM hK
  have k0 := h.k0; have k0' := h'.k0; have k1 := h.k1; have k1' := h'.k1
  obtain ⟨xa, xb⟩ := h.abs
  obtain ⟨ya, yb⟩ := h'.abs
  have m1 := Nat.mul_le_mul xa ya
  have m2 := Nat.mul_le_mul xb yb
  have m3 := Nat.mul_le_mul xa yb
  have m4 := Nat.mul_le_mul xb ya
  rw [← Int.natAbs_mul] at m1 m2 m3 m4
  have hd : nmul x y = low ⟨x.a * y.a + 2 * x.b * y.b, x.a * y.b + x.b * y.a, x.k + y.k⟩ := rfl
  rw [hd]
  have e2 : 2 * x.b * y.b = 2 * (x.b * y.b) := Int.mul_assoc ..
  have e3 : 2 * x.b * y.b = 2 * (x.b * y.b) := Int.mul_assoc ..
  simp only [e2] at hi hp ⊢
  generalize hP : M * M' = P at *
  generalize hq1 : x.a * y.a = p1 at *
  generalize hq2 : x.b * y.b = p2 at *
  generalize hq3 : x.a * y.b = p3 at *
  generalize hq4 : x.b * y.a = p4 at *
  simp (disch := first | omega | simp) [wrap_i64, le_most, lt_omega, le_omega, ne_omega, allLen, encN, hq1, hq2, hq3, hq4, e3]
  refine CallK.of (c52 ⟨p1 + 2 * p2, p3 + p4, x.k + y.k⟩ hi hp.k0) (by first | exact .inl rfl | exact .inr (by simp)) (by simp) ?_
  simp (disch := first | omega | simp) [wrap_i64, le_most, lt_omega, le_omega, ne_omega, allLen, encN]
end Go.Vai
