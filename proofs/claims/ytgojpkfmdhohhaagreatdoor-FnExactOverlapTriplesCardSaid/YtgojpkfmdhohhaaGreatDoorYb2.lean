/- Merged texts of this claim: Zn4, Zn5. -/
import Derived.Test.YtgojpkfmdhohhaaGreatDoorYb1
set_option linter.unusedVariables false
set_option linter.unusedSimpArgs false
set_option maxHeartbeats 4000000
namespace Go.Vai
theorem c108 (x : Nu) (h : x.i64) (h0 : 0 ≤ x.k) : PC E 108 [.agg (encN x)] [.agg (encN (low x))] := by
  refine PC_start hE Proofs.Tryz.func108 rfl rfl Proofs.Tryz.ntmps108 (by kernel_rfl) (by kernel_rfl) (by simp) ?_
  by_cases hz : x.a = 0 ∧ x.b = 0
  · have hl : low x = ⟨0, 0, 0⟩ := by unfold low; rw [if_pos hz]
    simp (maxSteps := 1000000) (disch := first | (exact DrawOk.mk (by decide +kernel)) | omega | simp) [wrap_i64, le_most, lt_omega, le_omega, ne_omega, allLen, encN, hz.1, hz.2, hl]
  by_cases hz1 : x.a = 0
  · have hz2 : ¬ x.b = 0 := fun h => hz ⟨hz1, h⟩
    simp (maxSteps := 1000000) (disch := first | (exact DrawOk.mk (by decide +kernel)) | omega | simp) [wrap_i64, le_most, lt_omega, le_omega, ne_omega, allLen, encN, hz1, hz2]
    refine XL.by hE (ι := { y : Nu // y.i64 ∧ 0 ≤ y.k ∧ low y = low x ∧ ¬ (y.a = 0 ∧ y.b = 0) }) (fun y => ⟨[(1, .ptr 1 0 0), (2, .ptr 2 0 0)], [(1, ⟨3, [encN y.1]⟩), (2, ⟨3, [[.int .i64 0, .int .i64 0, .int .i64 0]]⟩)]⟩)
      (fun y => y.1.k.toNat) ⟨x, h, h0, rfl, hz⟩ ⟨by simp, by simp [encN, hz1], by simp⟩ (by kernel_rfl) ?_
    rintro ⟨⟨a, b, k⟩, hi, hk, hl, hnz⟩
    obtain ⟨⟨ha1, ha2⟩, ⟨hb1, hb2⟩, hk1, hk2⟩ := hi
    simp only at ha1 ha2 hb1 hb2 hk1 hk2 hk hnz
    by_cases hkp : 0 < k
    · by_cases hpa : a % 2 = 0
      · by_cases hpb : b % 2 = 0
        · have ta := tdiv2 hpa
          have tb := tdiv2 hpb
          have hs := low_step (x := ⟨a, b, k⟩) hkp hpa hpb
          simp only at hs
          simp (maxSteps := 1000000) (disch := first | (exact DrawOk.mk (by decide +kernel)) | omega | simp) [wrap_i64, le_most, lt_omega, le_omega, ne_omega, allLen, encN, hkp, tmod2, hpa, hpb, ta, tb]
          (refine ⟨⟨⟨a / 2, b / 2, k - 1⟩, by unfold Nu.i64; simp only; omega, by simp only; omega, by rw [hs, hl], by simp only; omega⟩, by (simp; try omega), ?_⟩; constructor <;> (simp (maxSteps := 1000000) (disch := first | (exact DrawOk.mk (by decide +kernel)) | omega | simp) [wrap_i64, le_most, lt_omega, le_omega, ne_omega, allLen, encN]) <;> (try omega))
        · have he := low_end (x := ⟨a, b, k⟩) (by simp only; omega) (by simp only; omega)
          simp (maxSteps := 1000000) (disch := first | (exact DrawOk.mk (by decide +kernel)) | omega | simp) [wrap_i64, le_most, lt_omega, le_omega, ne_omega, allLen, encN, hkp, tmod2, hpa, hpb]
          rw [← hl, he]
          exact ⟨rfl, rfl, rfl⟩
      · have he := low_end (x := ⟨a, b, k⟩) (by simp only; omega) (by simp only; omega)
        simp (maxSteps := 1000000) (disch := first | (exact DrawOk.mk (by decide +kernel)) | omega | simp) [wrap_i64, le_most, lt_omega, le_omega, ne_omega, allLen, encN, hkp, tmod2, hpa]
        rw [← hl, he]
        exact ⟨rfl, rfl, rfl⟩
    · have he := low_end (x := ⟨a, b, k⟩) (by simp only; omega) (by simp only; omega)
      simp (maxSteps := 1000000) (disch := first | (exact DrawOk.mk (by decide +kernel)) | omega | simp) [wrap_i64, le_most, lt_omega, le_omega, ne_omega, allLen, encN, hkp]
      rw [← hl, he]
      exact ⟨rfl, rfl, rfl⟩
  · simp (maxSteps := 1000000) (disch := first | (exact DrawOk.mk (by decide +kernel)) | omega | simp) [wrap_i64, le_most, lt_omega, le_omega, ne_omega, allLen, encN, hz1]
    refine XL.by hE (ι := { y : Nu // y.i64 ∧ 0 ≤ y.k ∧ low y = low x ∧ ¬ (y.a = 0 ∧ y.b = 0) }) (fun y => ⟨[(1, .ptr 1 0 0), (2, .ptr 2 0 0)], [(1, ⟨3, [encN y.1]⟩), (2, ⟨3, [[.int .i64 0, .int .i64 0, .int .i64 0]]⟩)]⟩)
      (fun y => y.1.k.toNat) ⟨x, h, h0, rfl, hz⟩ ⟨by simp, by simp [encN], by simp⟩ (by kernel_rfl) ?_
    rintro ⟨⟨a, b, k⟩, hi, hk, hl, hnz⟩
    obtain ⟨⟨ha1, ha2⟩, ⟨hb1, hb2⟩, hk1, hk2⟩ := hi
    simp only at ha1 ha2 hb1 hb2 hk1 hk2 hk hnz
    by_cases hkp : 0 < k
    · by_cases hpa : a % 2 = 0
      · by_cases hpb : b % 2 = 0
        · have ta := tdiv2 hpa
          have tb := tdiv2 hpb
          have hs := low_step (x := ⟨a, b, k⟩) hkp hpa hpb
          simp only at hs
          simp (maxSteps := 1000000) (disch := first | (exact DrawOk.mk (by decide +kernel)) | omega | simp) [wrap_i64, le_most, lt_omega, le_omega, ne_omega, allLen, encN, hkp, tmod2, hpa, hpb, ta, tb]
          (refine ⟨⟨⟨a / 2, b / 2, k - 1⟩, by unfold Nu.i64; simp only; omega, by simp only; omega, by rw [hs, hl], by simp only; omega⟩, by (simp; try omega), ?_⟩; constructor <;> (simp (maxSteps := 1000000) (disch := first | (exact DrawOk.mk (by decide +kernel)) | omega | simp) [wrap_i64, le_most, lt_omega, le_omega, ne_omega, allLen, encN]) <;> (try omega))
        · have he := low_end (x := ⟨a, b, k⟩) (by simp only; omega) (by simp only; omega)
          simp (maxSteps := 1000000) (disch := first | (exact DrawOk.mk (by decide +kernel)) | omega | simp) [wrap_i64, le_most, lt_omega, le_omega, ne_omega, allLen, encN, hkp, tmod2, hpa, hpb]
          rw [← hl, he]
          exact ⟨rfl, rfl, rfl⟩
      · have he := low_end (x := ⟨a, b, k⟩) (by simp only; omega) (by simp only; omega)
        simp (maxSteps := 1000000) (disch := first | (exact DrawOk.mk (by decide +kernel)) | omega | simp) [wrap_i64, le_most, lt_omega, le_omega, ne_omega, allLen, encN, hkp, tmod2, hpa]
        rw [← hl, he]
        exact ⟨rfl, rfl, rfl⟩
    · have he := low_end (x := ⟨a, b, k⟩) (by simp only; omega) (by simp only; omega)
      simp (maxSteps := 1000000) (disch := first | (exact DrawOk.mk (by decide +kernel)) | omega | simp) [wrap_i64, le_most, lt_omega, le_omega, ne_omega, allLen, encN, hkp]
      rw [← hl, he]
      exact ⟨rfl, rfl, rfl⟩
theorem c80 (x : Nu) : PC E 80 [.agg (encN x)] [.agg (encN x)] := by
  refine PC_start hE Proofs.Tryz.func80 rfl rfl Proofs.Tryz.ntmps80 (by kernel_rfl) (by kernel_rfl) (by simp) ?_
  simp (maxSteps := 1000000) (disch := first | (exact DrawOk.mk (by decide +kernel)) | omega | simp) [wrap_i64, le_most, lt_omega, le_omega, ne_omega, allLen, encN]
theorem c97 (x : Nu) (h : x.i64) (ha : x.a ≠ -9223372036854775808) (hb : x.b ≠ -9223372036854775808) : PC E 97 [.agg (encN x)] [.agg (encN (nneg x))] := by
  obtain ⟨⟨ha1, ha2⟩, ⟨hb1, hb2⟩, hk1, hk2⟩ := h
  refine PC_start hE Proofs.Tryz.func97 rfl rfl Proofs.Tryz.ntmps97 (by kernel_rfl) (by kernel_rfl) (by simp) ?_
  simp (maxSteps := 1000000) (disch := first | (exact DrawOk.mk (by decide +kernel)) | omega | simp) [wrap_i64, le_most, lt_omega, le_omega, ne_omega, allLen, encN, nneg]
theorem c66 (x : Nu) : PC E 66 [.agg (encN x)] [.i (.bool (vN x))] := by
  refine PC_start hE Proofs.Tryz.func66 rfl rfl Proofs.Tryz.ntmps66 (by kernel_rfl) (by kernel_rfl) (by simp) ?_
  simp (maxSteps := 1000000) (disch := first | (exact DrawOk.mk (by decide +kernel)) | omega | simp) [wrap_i64, le_most, lt_omega, le_omega, ne_omega, allLen, encN]
  refine CallK.of (c31 _ _ _) (by first | exact .inl rfl | exact .inr (by simp)) (by simp) ?_
  simp (maxSteps := 1000000) (disch := first | (exact DrawOk.mk (by decide +kernel)) | omega | simp) [wrap_i64, le_most, lt_omega, le_omega, ne_omega, allLen]
  generalize h1 : inB x.a (-131072) 131072 = q1
  cases q1
  · simp (maxSteps := 1000000) (disch := first | (exact DrawOk.mk (by decide +kernel)) | omega | simp) [wrap_i64, le_most, lt_omega, le_omega, ne_omega, allLen]
    simp [vN, h1]
  simp (maxSteps := 1000000) (disch := first | (exact DrawOk.mk (by decide +kernel)) | omega | simp) [wrap_i64, le_most, lt_omega, le_omega, ne_omega, allLen]
  refine CallK.of (c31 _ _ _) (by first | exact .inl rfl | exact .inr (by simp)) (by simp) ?_
  simp (maxSteps := 1000000) (disch := first | (exact DrawOk.mk (by decide +kernel)) | omega | simp) [wrap_i64, le_most, lt_omega, le_omega, ne_omega, allLen]
  generalize h2 : inB x.b (-131072) 131072 = q2
  cases q2
  · simp (maxSteps := 1000000) (disch := first | (exact DrawOk.mk (by decide +kernel)) | omega | simp) [wrap_i64, le_most, lt_omega, le_omega, ne_omega, allLen]
    simp [vN, h2]
  simp (maxSteps := 1000000) (disch := first | (exact DrawOk.mk (by decide +kernel)) | omega | simp) [wrap_i64, le_most, lt_omega, le_omega, ne_omega, allLen]
  refine CallK.of (c31 _ _ _) (by first | exact .inl rfl | exact .inr (by simp)) (by simp) ?_
  simp (maxSteps := 1000000) (disch := first | (exact DrawOk.mk (by decide +kernel)) | omega | simp) [wrap_i64, le_most, lt_omega, le_omega, ne_omega, allLen]
  generalize h3 : inB x.k 0 10 = q3
  cases q3
  · simp (maxSteps := 1000000) (disch := first | (exact DrawOk.mk (by decide +kernel)) | omega | simp) [wrap_i64, le_most, lt_omega, le_omega, ne_omega, allLen]
    simp [vN, h3]
  simp (maxSteps := 1000000) (disch := first | (exact DrawOk.mk (by decide +kernel)) | omega | simp) [wrap_i64, le_most, lt_omega, le_omega, ne_omega, allLen]
  (first | refine Gd.dec (fun h4 => ?_) (fun h4 => ?_) | refine Gd.intro (fun h4 => ?_) (fun h4 => ?_)) <;> simp (maxSteps := 1000000) (disch := first | (exact DrawOk.mk (by decide +kernel)) | omega | simp) [wrap_i64, le_most, lt_omega, le_omega, ne_omega, allLen, h4]
  · have e0 : inB 0 0 10 = true := rfl
    simp [vN, h1, h2, h4, e0]
  (first | refine Gd.dec (fun h5 => ?_) (fun h5 => ?_) | refine Gd.intro (fun h5 => ?_) (fun h5 => ?_)) <;> simp (maxSteps := 1000000) (disch := first | (exact DrawOk.mk (by decide +kernel)) | omega | simp) [wrap_i64, le_most, lt_omega, le_omega, ne_omega, allLen, h5]
  · rw [tmod2] at h5
    have : ¬ x.a % 2 = 1 := by omega
    simp [vN, h1, h2, h3, h4, this, tmod2]
    have e2 : (x.b % 2 = 0) = ¬ (x.b % 2 = 1) := by apply propext; omega
    simp [e2]
  · rw [tmod2] at h5
    have : x.a % 2 = 1 := by omega
    simp [vN, h1, h2, h3, this]
/-- A number in lowest form, if it keeps the limits. -/
def nok (x : Nu) : Bool := vN (low x)
def nnum (x : Nu) : Nu := if nok x = true then low x else ⟨0, 0, 0⟩
theorem pw_succ (a : Int) (j : Nat) : a * pw ((j : Int) + 1) = a * pw j * 2 := by
  unfold pw
  have : ((j : Int) + 1).toNat = (j : Int).toNat + 1 := by omega
  rw [this, Int.pow_succ, Int.mul_assoc]
theorem pw_zero (a : Int) : a * pw 0 = a := by unfold pw; simp
theorem c94 (x y : Nu) {K M M' : Nat} (h : NB K M x) (h' : NB K M' y) (hK : K ≤ 60) (hM : M + M' ≤ 4611686018427387904) : PC E 94 [.agg (encN x), .agg (encN y)] [.agg (encN (nadd x y))] := by
  refine PC_start hE Proofs.Tryz.func94 rfl rfl Proofs.Tryz.ntmps94 (by kernel_rfl) (by kernel_rfl) (by simp) ?_
  have hp := h.pre_add h'
  have k0 := h.k0; have k0' := h'.k0; have k1 := h.k1; have k1' := h'.k1
  have sx : ∀ j : Nat, x.k + j ≤ max x.k y.k → (x.a * pw j).natAbs ≤ M ∧ (x.b * pw j).natAbs ≤ M := fun j hj => by
    obtain ⟨q1, q2⟩ := h.shift (m := x.k + j) (by omega) (by omega)
    have e : x.k + j - x.k = (j : Int) := by omega
    rw [e] at q1 q2
    exact ⟨Nat.le_trans (le_mul_pow _ _) q1, Nat.le_trans (le_mul_pow _ _) q2⟩
  have sy : ∀ j : Nat, y.k + j ≤ max x.k y.k → (y.a * pw j).natAbs ≤ M' ∧ (y.b * pw j).natAbs ≤ M' := fun j hj => by
    obtain ⟨q1, q2⟩ := h'.shift (m := y.k + j) (by omega) (by omega)
    have e : y.k + j - y.k = (j : Int) := by omega
    rw [e] at q1 q2
    exact ⟨Nat.le_trans (le_mul_pow _ _) q1, Nat.le_trans (le_mul_pow _ _) q2⟩
  simp (maxSteps := 1000000) (disch := first | (exact DrawOk.mk (by decide +kernel)) | omega | simp) [wrap_i64, le_most, lt_omega, le_omega, ne_omega, allLen]
  refine XL.by hE (ι := { j : Nat // x.k + j ≤ max x.k y.k }) (fun j => ⟨[(2, .ptr 2 0 0), (3, .ptr 3 0 0), (4, .ptr 4 0 0)], [(2, ⟨3, [[.int .i64 (x.a * pw j.1), .int .i64 (x.b * pw j.1), .int .i64 (x.k + j.1)]]⟩), (3, ⟨3, [encN y]⟩), (4, ⟨3, [[.int .i64 0, .int .i64 0, .int .i64 0]]⟩)]⟩)
    (fun j => (max x.k y.k - x.k - j.1).toNat) ⟨0, by omega⟩ ⟨by simp, by simp [encN, pw_zero], by simp⟩ (by kernel_rfl) ?_
  rintro ⟨j, hj⟩
  obtain ⟨s1, s2⟩ := sx j hj
  by_cases hlt : x.k + j < y.k
  · obtain ⟨t1, t2⟩ := sx (j + 1) (by omega)
    rw [show ((j + 1 : Nat) : Int) = (j : Int) + 1 by omega, pw_succ] at t1 t2
    have r1 := pw_succ x.a j
    have r2 := pw_succ x.b j
    generalize hA : x.a * pw j = A at *
    generalize hB : x.b * pw j = B at *
    simp (maxSteps := 1000000) (disch := first | (exact DrawOk.mk (by decide +kernel)) | omega | simp) [wrap_i64, le_most, lt_omega, le_omega, ne_omega, allLen, hlt, encN]
    (refine ⟨⟨j + 1, by omega⟩, by (simp; try omega), ?_⟩; constructor <;> (simp (maxSteps := 1000000) (disch := first | (exact DrawOk.mk (by decide +kernel)) | omega | simp) [wrap_i64, le_most, lt_omega, le_omega, ne_omega, allLen, r1, r2, encN]) <;> (try omega))
  · have hjm : x.k + (j : Int) = max x.k y.k := by omega
    have hje : (j : Int) = max x.k y.k - x.k := by omega
    have hd : nadd x y = low ⟨x.a * pw (max x.k y.k - x.k) + y.a * pw (max x.k y.k - y.k), x.b * pw (max x.k y.k - x.k) + y.b * pw (max x.k y.k - y.k), max x.k y.k⟩ := rfl
    rw [← hje] at hd hp
    rw [hd]
    generalize hA : x.a * pw j = A at *
    generalize hB : x.b * pw j = B at *
    simp (maxSteps := 1000000) (disch := first | (exact DrawOk.mk (by decide +kernel)) | omega | simp) [wrap_i64, le_most, lt_omega, le_omega, ne_omega, allLen, hlt, encN]
    refine XL.by hE (ι := { i : Nat // y.k + i ≤ max x.k y.k }) (fun i => ⟨[(2, .ptr 2 0 0), (3, .ptr 3 0 0), (4, .ptr 4 0 0)], [(2, ⟨3, [[.int .i64 A, .int .i64 B, .int .i64 (x.k + j)]]⟩), (3, ⟨3, [[.int .i64 (y.a * pw i.1), .int .i64 (y.b * pw i.1), .int .i64 (y.k + i.1)]]⟩), (4, ⟨3, [[.int .i64 0, .int .i64 0, .int .i64 0]]⟩)]⟩)
      (fun i => (max x.k y.k - y.k - i.1).toNat) ⟨0, by omega⟩ ⟨by simp, by simp [encN, pw_zero], by simp⟩ (by kernel_rfl) ?_
    rintro ⟨i, hi⟩
    obtain ⟨u1, u2⟩ := sy i hi
    by_cases hlt2 : y.k + i < x.k + j
    · obtain ⟨t1, t2⟩ := sy (i + 1) (by omega)
      rw [show ((i + 1 : Nat) : Int) = (i : Int) + 1 by omega, pw_succ] at t1 t2
      have r1 := pw_succ y.a i
      have r2 := pw_succ y.b i
      generalize hC : y.a * pw i = C at *
      generalize hD : y.b * pw i = D at *
      simp (maxSteps := 1000000) (disch := first | (exact DrawOk.mk (by decide +kernel)) | omega | simp) [wrap_i64, le_most, lt_omega, le_omega, ne_omega, allLen, hlt2, encN]
      (refine ⟨⟨i + 1, by omega⟩, by (simp; try omega), ?_⟩; constructor <;> (simp (maxSteps := 1000000) (disch := first | (exact DrawOk.mk (by decide +kernel)) | omega | simp) [wrap_i64, le_most, lt_omega, le_omega, ne_omega, allLen, r1, r2, encN]) <;> (try omega))
    · have hie : (i : Int) = max x.k y.k - y.k := by omega
      rw [← hie] at hp ⊢
      generalize hC : y.a * pw i = C at *
      generalize hD : y.b * pw i = D at *
      have hi64 := hp.i64 hM hK
      simp (maxSteps := 1000000) (disch := first | (exact DrawOk.mk (by decide +kernel)) | omega | simp) [wrap_i64, le_most, lt_omega, le_omega, ne_omega, allLen, hlt2, encN]
      simp only [hjm]
      refine CallK.of (c108 ⟨A + C, B + D, max x.k y.k⟩ hi64 hp.k0) (by first | exact .inl rfl | exact .inr (by simp)) (by simp) ?_
      simp (maxSteps := 1000000) (disch := first | (exact DrawOk.mk (by decide +kernel)) | omega | simp) [wrap_i64, le_most, lt_omega, le_omega, ne_omega, allLen, encN]
theorem c77 (x y : Nu) {K M M' : Nat} (h : NB K M x) (h' : NB K M' y) (hK : K ≤ 60) (hM : M + M' ≤ 4611686018427387904) : PC E 77 [.agg (encN x), .agg (encN y)] [.agg (encN (nsub x y))] := by
  refine PC_start hE Proofs.Tryz.func77 rfl rfl Proofs.Tryz.ntmps77 (by kernel_rfl) (by kernel_rfl) (by simp) ?_
  simp (maxSteps := 1000000) (disch := first | (exact DrawOk.mk (by decide +kernel)) | omega | simp) [wrap_i64, le_most, lt_omega, le_omega, ne_omega, allLen]
  refine CallK.of (c97 y (h'.i64 (by omega) hK) (h'.ne (by omega)).1 (h'.ne (by omega)).2) (by first | exact .inl rfl | exact .inr (by simp)) (by simp) ?_
  simp (maxSteps := 1000000) (disch := first | (exact DrawOk.mk (by decide +kernel)) | omega | simp) [wrap_i64, le_most, lt_omega, le_omega, ne_omega, allLen]
  refine CallK.of (c94 x (nneg y) h h'.neg hK hM) (by first | exact .inl rfl | exact .inr (by simp)) (by simp) ?_
  simp (maxSteps := 1000000) (disch := first | (exact DrawOk.mk (by decide +kernel)) | omega | simp) [wrap_i64, le_most, lt_omega, le_omega, ne_omega, allLen, encN, nsub]
theorem c95 (x y : Nu) {K K' M M' : Nat} (h : NB K M x) (h' : NB K' M' y) (hK : K + K' ≤ 60) (hM : 3 * (M * M') ≤ 4611686018427387904) (h2 : M ≤ 2305843009213693952) : PC E 95 [.agg (encN x), .agg (encN y)] [.agg (encN (nmul x y))] := by
  refine PC_start hE Proofs.Tryz.func95 rfl rfl Proofs.Tryz.ntmps95 (by kernel_rfl) (by kernel_rfl) (by simp) ?_
  have hp := h.pre_mul h'
  have hi := hp.i64 hM hK
  have k0 := h.k0; have k0' := h'.k0; have k1 := h.k1; have k1' := h'.k1
  obtain ⟨xa, xb⟩ := h.abs
  obtain ⟨ya, yb⟩ := h'.abs
  have m1 := Nat.mul_le_mul xa ya
  have m2 := Nat.mul_le_mul xb yb
  have m3 := Nat.mul_le_mul xa yb
  have m4 := Nat.mul_le_mul xb ya
  rw [← Int.natAbs_mul] at m1 m2 m3 m4
  have hd : nmul x y = low ⟨x.a * y.a + 2 * x.b * y.b, x.a * y.b + x.b * y.a, x.k + y.k⟩ := rfl
  rw [hd]
  have e2 : 2 * x.b * y.b = 2 * (x.b * y.b) := Int.mul_assoc ..
  have e3 : 2 * x.b * y.b = 2 * (x.b * y.b) := Int.mul_assoc ..
  simp only [e2] at hi hp ⊢
  generalize hP : M * M' = P at *
  generalize hq1 : x.a * y.a = p1 at *
  generalize hq2 : x.b * y.b = p2 at *
  generalize hq3 : x.a * y.b = p3 at *
  generalize hq4 : x.b * y.a = p4 at *
  simp (maxSteps := 1000000) (disch := first | (exact DrawOk.mk (by decide +kernel)) | omega | simp) [wrap_i64, le_most, lt_omega, le_omega, ne_omega, allLen, encN, hq1, hq2, hq3, hq4, e3]
  refine CallK.of (c108 ⟨p1 + 2 * p2, p3 + p4, x.k + y.k⟩ hi hp.k0) (by first | exact .inl rfl | exact .inr (by simp)) (by simp) ?_
  simp (maxSteps := 1000000) (disch := first | (exact DrawOk.mk (by decide +kernel)) | omega | simp) [wrap_i64, le_most, lt_omega, le_omega, ne_omega, allLen, encN]
end Go.Vai
set_option linter.unusedVariables false
set_option linter.unusedSimpArgs false
set_option maxHeartbeats 4000000
namespace Go.Vai
theorem c109 (x : Int) (h0 : -9223372036854775808 < x) (h1 : x ≤ 9223372036854775807) :
    PC E 109 [.i (.int .i64 x)] [.i (.int .u64 (x * x / 18446744073709551616)), .i (.int .u64 (x * x % 18446744073709551616))] := by
  refine PC_start hE Proofs.Tryz.func109 rfl rfl Proofs.Tryz.ntmps109 (by kernel_rfl) (by kernel_rfl) (by simp) ?_
  rw [← natAbs_sq x]
  obtain ⟨u, hu⟩ : ∃ u : Int, u = x.natAbs := ⟨_, rfl⟩
  have hu0 : 0 ≤ u := by omega
  have hu1 : u ≤ 9223372036854775807 := by omega
  rw [← hu]
  obtain ⟨a, ha⟩ : ∃ a, a = u % 4294967296 := ⟨_, rfl⟩
  obtain ⟨b, hb⟩ : ∃ b, b = u / 4294967296 := ⟨_, rfl⟩
  have hue : u = b * 4294967296 + a := by omega
  have b1 : 0 ≤ a * a ∧ a * a ≤ 18446744065119617025 := ⟨Int.mul_nonneg (by omega) (by omega), by have := Int.mul_le_mul (show a ≤ 4294967295 by omega) (show a ≤ 4294967295 by omega) (by omega) (by omega : (0 : Int) ≤ 4294967295); omega⟩
  have b2 : 0 ≤ 2 * a * b ∧ 2 * a * b ≤ 18446744060824649730 := ⟨Int.mul_nonneg (by omega) (by omega), by have := Int.mul_le_mul (show 2 * a ≤ 8589934590 by omega) (show b ≤ 2147483647 by omega) (by omega) (by omega : (0 : Int) ≤ 8589934590); omega⟩
  have b3 : 0 ≤ b * b ∧ b * b ≤ 4611686014132420609 := ⟨Int.mul_nonneg (by omega) (by omega), by have := Int.mul_le_mul (show b ≤ 2147483647 by omega) (show b ≤ 2147483647 by omega) (by omega) (by omega : (0 : Int) ≤ 2147483647); omega⟩
  have huu : u * u = b * b * 18446744073709551616 + 2 * a * b * 4294967296 + a * a := by
    rw [hue]
    simp only [Int.add_mul, Int.mul_add]
    have e1 : b * 4294967296 * (b * 4294967296) = b * b * 18446744073709551616 := by
      rw [Int.mul_assoc, Int.mul_left_comm 4294967296 b, ← Int.mul_assoc]; rfl
    have e2 : b * 4294967296 * a = a * b * 4294967296 := by rw [Int.mul_right_comm, Int.mul_comm b a]
    have e3 : a * (b * 4294967296) = a * b * 4294967296 := by rw [Int.mul_assoc]
    have e4 : 2 * a * b = 2 * (a * b) := Int.mul_assoc ..
    rw [e1, e2, e3, e4]; omega
  have A : andI .u64 u 4294967295 = a := by rw [andI_u32, ha]
  have B : shrI .u64 u 32 = b := by rw [shrI_u32, hb]
  generalize hP : u * u = P at *
  generalize hp : a * a = p at *
  generalize hq : 2 * a * b = q at *
  generalize hs : b * b = s at *
  have ax : 0 ≤ a ∧ a ≤ 4294967295 := by omega
  have bx : 0 ≤ b ∧ b ≤ 2147483647 := by omega
  have t1 : (q * 4294967296 % 18446744073709551616) = q % 4294967296 * 4294967296 := by omega
  by_cases hx : x < 0
  · have hw : IntKind.u64.wrap (-x) = u := by rw [wrap_u64] <;> omega
    simp (maxSteps := 1000000) (disch := first | (exact DrawOk.mk (by decide +kernel)) | omega | simp) [wrap_i64, le_most, lt_omega, le_omega, ne_omega, allLen, hx, hw, A, B, hp, hq, hs, shrI_u32, shlI_u32, wrap_u64, t1]
    simp only [wrap_u]
    (first | refine Gd.dec (fun h2 => ?_) (fun h2 => ?_) | refine Gd.intro (fun h2 => ?_) (fun h2 => ?_)) <;> simp (maxSteps := 1000000) (disch := first | (exact DrawOk.mk (by decide +kernel)) | omega | simp) [wrap_i64, le_most, lt_omega, le_omega, ne_omega, allLen, h2]
    · simp only [hs, wrap_u]; exact ⟨by omega, by omega⟩
    · simp only [hs, wrap_u]; exact ⟨by omega, by omega⟩
  · have hw : IntKind.u64.wrap x = u := by rw [wrap_u64] <;> omega
    simp (maxSteps := 1000000) (disch := first | (exact DrawOk.mk (by decide +kernel)) | omega | simp) [wrap_i64, le_most, lt_omega, le_omega, ne_omega, allLen, hx, hw, A, B, hp, hq, hs, shrI_u32, shlI_u32, wrap_u64, t1]
    simp only [wrap_u]
    (first | refine Gd.dec (fun h2 => ?_) (fun h2 => ?_) | refine Gd.intro (fun h2 => ?_) (fun h2 => ?_)) <;> simp (maxSteps := 1000000) (disch := first | (exact DrawOk.mk (by decide +kernel)) | omega | simp) [wrap_i64, le_most, lt_omega, le_omega, ne_omega, allLen, h2]
    · simp only [hs, wrap_u]; exact ⟨by omega, by omega⟩
    · simp only [hs, wrap_u]; exact ⟨by omega, by omega⟩
theorem c96 (a b : Int) (ha0 : -9223372036854775808 < a) (ha1 : a ≤ 9223372036854775807) (hb0 : -9223372036854775808 < b) (hb1 : b ≤ 9223372036854775807) :
    PC E 96 [.i (.int .i64 a), .i (.int .i64 b)] [.i (.bool (decide (a * a < 2 * (b * b))))] := by
  refine PC_start hE Proofs.Tryz.func96 rfl rfl Proofs.Tryz.ntmps96 (by kernel_rfl) (by kernel_rfl) (by simp) ?_
  have sa := sq_bound (a := a) (by omega) ha1
  have sb := sq_bound (a := b) (by omega) hb1
  rw [natAbs_sq] at sa sb
  simp (maxSteps := 1000000) (disch := first | (exact DrawOk.mk (by decide +kernel)) | omega | simp) [wrap_i64, le_most, lt_omega, le_omega, ne_omega, allLen]
  refine CallK.of (c109 a ha0 ha1) (by first | exact .inl rfl | exact .inr (by simp)) (by simp) ?_
  simp (maxSteps := 1000000) (disch := first | (exact DrawOk.mk (by decide +kernel)) | omega | simp) [wrap_i64, le_most, lt_omega, le_omega, ne_omega, allLen]
  refine CallK.of (c109 b hb0 hb1) (by first | exact .inl rfl | exact .inr (by simp)) (by simp) ?_
  generalize a * a = p at *
  generalize b * b = q at *
  simp (maxSteps := 1000000) (disch := first | (exact DrawOk.mk (by decide +kernel)) | omega | simp) [wrap_i64, le_most, lt_omega, le_omega, ne_omega, allLen, shrI_u63, wrap_u64]
  (first | refine Gd.dec (fun h1 => ?_) (fun h1 => ?_) | refine Gd.intro (fun h1 => ?_) (fun h1 => ?_)) <;> simp (maxSteps := 1000000) (disch := first | (exact DrawOk.mk (by decide +kernel)) | omega | simp) [wrap_i64, le_most, lt_omega, le_omega, ne_omega, allLen, h1]
  (first | refine Gd.dec (fun h2 => ?_) (fun h2 => ?_) | refine Gd.intro (fun h2 => ?_) (fun h2 => ?_)) <;> simp (maxSteps := 1000000) (disch := first | (exact DrawOk.mk (by decide +kernel)) | omega | simp) [wrap_i64, le_most, lt_omega, le_omega, ne_omega, allLen, h2]
  all_goals simp only [wrap_u]
  all_goals omega
theorem irrN : ∀ (m n : Nat), n * n = 2 * (m * m) → m = 0 := by
  intro m
  induction m using Nat.strongRecOn with
  | _ m ih =>
    intro n h
    by_cases hm : m = 0
    · exact hm
    · exfalso
      have hn : n % 2 = 0 := by
        have h2 : (n * n) % 2 = 0 := by omega
        rw [Nat.mul_mod] at h2
        rcases Nat.mod_two_eq_zero_or_one n with h3 | h3
        · exact h3
        · rw [h3] at h2; omega
      obtain ⟨t, rfl⟩ : ∃ t, n = 2 * t := ⟨n / 2, by omega⟩
      have h4 : 2 * t * (2 * t) = 4 * (t * t) := by rw [Nat.mul_mul_mul_comm]
      rw [h4] at h
      have h5 : m * m = 2 * (t * t) := by omega
      have hlt : t < m := by
        rcases Nat.lt_or_ge t m with h6 | h6
        · exact h6
        · have := Nat.mul_le_mul h6 h6
          have : 0 < m * m := Nat.mul_pos (by omega) (by omega)
          omega
      have ht := ih t hlt m h5
      rw [ht] at h5
      have : 0 < m * m := Nat.mul_pos (by omega) (by omega)
      omega
theorem irr {a b : Int} (h : a * a = 2 * (b * b)) : b = 0 := by
  have h1 : a.natAbs * a.natAbs = 2 * (b.natAbs * b.natAbs) := by
    have e1 := natAbs_sq a
    have e2 := natAbs_sq b
    have : ((a.natAbs * a.natAbs : Nat) : Int) = ((2 * (b.natAbs * b.natAbs) : Nat) : Int) := by
      rw [Int.natCast_mul, Int.natCast_mul, Int.natCast_mul, e1, e2]; exact h
    exact Int.ofNat_inj.1 this
  have := irrN _ _ h1
  omega
theorem c76 (x : Nu) (h : x.i64) (ha : x.a ≠ -9223372036854775808) (hb : x.b ≠ -9223372036854775808) : PC E 76 [.agg (encN x)] [.i (.int .i64 (nsign x))] := by
  obtain ⟨⟨ha1, ha2⟩, ⟨hb1, hb2⟩, hk1, hk2⟩ := h
  have hir := irr (a := x.a) (b := x.b)
  refine PC_start hE Proofs.Tryz.func76 rfl rfl Proofs.Tryz.ntmps76 (by kernel_rfl) (by kernel_rfl) (by simp) ?_
  unfold nsign sgn
  by_cases a0 : x.a = 0
  · by_cases b0 : x.b = 0
    · simp (maxSteps := 1000000) (disch := first | (exact DrawOk.mk (by decide +kernel)) | omega | simp) [wrap_i64, le_most, lt_omega, le_omega, ne_omega, allLen, encN, a0, b0]
    · by_cases bp : 0 < x.b
      · have : 0 ≤ x.b := by omega
        simp (maxSteps := 1000000) (disch := first | (exact DrawOk.mk (by decide +kernel)) | omega | simp) [wrap_i64, le_most, lt_omega, le_omega, ne_omega, allLen, encN, a0, b0, bp, this]
      · have t1 : ¬ 0 ≤ x.b := by omega
        have t2 : x.b ≤ 0 := by omega
        have t3 : x.b < 0 := by omega
        simp (maxSteps := 1000000) (disch := first | (exact DrawOk.mk (by decide +kernel)) | omega | simp) [wrap_i64, le_most, lt_omega, le_omega, ne_omega, allLen, encN, a0, b0, bp, t1, t2, t3]
  · by_cases ap : 0 < x.a
    · by_cases bp : 0 ≤ x.b
      · have t1 : 0 ≤ x.a := by omega
        simp (maxSteps := 1000000) (disch := first | (exact DrawOk.mk (by decide +kernel)) | omega | simp) [wrap_i64, le_most, lt_omega, le_omega, ne_omega, allLen, encN, a0, ap, t1, bp]
      · have t1 : 0 ≤ x.a := by omega
        have t2 : ¬ x.a ≤ 0 := by omega
        have t3 : ¬ 0 < x.b := by omega
        have t4 : x.b < 0 := by omega
        simp (maxSteps := 1000000) (disch := first | (exact DrawOk.mk (by decide +kernel)) | omega | simp) [wrap_i64, le_most, lt_omega, le_omega, ne_omega, allLen, encN, a0, ap, t1, bp, t2]
        refine CallK.of (c96 x.a x.b (by omega) ha2 (by omega) hb2) (by first | exact .inl rfl | exact .inr (by simp)) (by simp) ?_
        simp (maxSteps := 1000000) (disch := first | (exact DrawOk.mk (by decide +kernel)) | omega | simp) [wrap_i64, le_most, lt_omega, le_omega, ne_omega, allLen, t3]
        (first | refine Gd.dec (fun h1 => ?_) (fun h1 => ?_) | refine Gd.intro (fun h1 => ?_) (fun h1 => ?_)) <;> simp (maxSteps := 1000000) (disch := first | (exact DrawOk.mk (by decide +kernel)) | omega | simp) [wrap_i64, le_most, lt_omega, le_omega, ne_omega, allLen, h1]
    · have an : x.a < 0 := by omega
      have t1 : ¬ 0 ≤ x.a := by omega
      have t2 : x.a ≤ 0 := by omega
      by_cases bp : x.b ≤ 0
      · simp (maxSteps := 1000000) (disch := first | (exact DrawOk.mk (by decide +kernel)) | omega | simp) [wrap_i64, le_most, lt_omega, le_omega, ne_omega, allLen, encN, a0, ap, an, t1, t2, bp]
      · have t3 : 0 < x.b := by omega
        simp (maxSteps := 1000000) (disch := first | (exact DrawOk.mk (by decide +kernel)) | omega | simp) [wrap_i64, le_most, lt_omega, le_omega, ne_omega, allLen, encN, a0, ap, t1, bp, t2]
        refine CallK.of (c96 x.a x.b (by omega) ha2 (by omega) hb2) (by first | exact .inl rfl | exact .inr (by simp)) (by simp) ?_
        simp (maxSteps := 1000000) (disch := first | (exact DrawOk.mk (by decide +kernel)) | omega | simp) [wrap_i64, le_most, lt_omega, le_omega, ne_omega, allLen, t3]
        (first | refine Gd.dec (fun h1 => ?_) (fun h1 => ?_) | refine Gd.intro (fun h1 => ?_) (fun h1 => ?_)) <;> simp (maxSteps := 1000000) (disch := first | (exact DrawOk.mk (by decide +kernel)) | omega | simp) [wrap_i64, le_most, lt_omega, le_omega, ne_omega, allLen, h1]
end Go.Vai
