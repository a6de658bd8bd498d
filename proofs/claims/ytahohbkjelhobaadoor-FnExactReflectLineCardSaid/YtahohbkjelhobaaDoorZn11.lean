import Derived.Test.YtahohbkjelhobaaDoorZn10
set_option linter.unusedVariables false
set_option linter.unusedSimpArgs false
set_option maxHeartbeats 4000000
namespace Go.Vai
theorem c30 (w : Pt) {K M : Nat} (hw : PB K M w) (hK : K ≤ 60) (hM : 6 * M ≤ 4611686018427387904) : PC E 30 [.agg (encP w)] [.i (.int .i64 (dirR w))] := by
  refine PC_start hE Proofs.Tryd.func30 rfl rfl Proofs.Tryd.ntmps30 (by kernel_rfl) (by kernel_rfl) (by simp) ?_
  simp (disch := first | omega | simp) [wrap_i64, le_most, lt_omega, le_omega, ne_omega, allLen]
  refine XL.by hE (ι := { d : Nat // d ≤ 16 ∧ ∀ j, j < d → isDir w j = false }) (fun d => ⟨[(1, .ptr 1 0 0), (3, .i (.int .i64 d.1))], [(1, ⟨6, [encP w]⟩)]⟩)
    (fun d => 16 - d.1) ⟨0, by omega, fun j hj => by omega⟩ ⟨by simp, by simp, by simp⟩ (by kernel_rfl) ?_
  rintro ⟨d, hd, hno⟩
  by_cases hlt : d < 16
  · have hlt' : (d : Int) < 16 := by omega
    have hv := vec_PB (d := (d : Int)) (by omega) (by omega)
    have hdd := hv.dot hw
    simp only [Nat.zero_add, Nat.one_mul] at hdd
    have hz : nz (ndot (vec (((d : Int) + 4) % 16)) w) = decide (pcross (vec d) w = ⟨0, 0, 0⟩) := by
      rw [dot_turn (by omega) (by omega)]
      exact nz_low (low_nsub (hv.1.mul hw.2).k0)
    have hm : ((d : Int)) % 16 = d := by omega
    simp (disch := first | omega | simp) [wrap_i64, le_most, lt_omega, le_omega, ne_omega, allLen, hlt']
    refine CallK.of (c46 ((d : Int) + 4) w hw hK hM (by omega) (by omega)) (by first | exact .inl rfl | exact .inr (by simp)) (by simp) ?_
    simp (disch := first | omega | simp) [wrap_i64, le_most, lt_omega, le_omega, ne_omega, allLen]
    refine CallK.of (c61 (ndot (vec (((d : Int) + 4) % 16)) w)) (by first | exact .inl rfl | exact .inr (by simp)) (by simp) ?_
    rw [hz]
    simp (disch := first | omega | simp) [wrap_i64, le_most, lt_omega, le_omega, ne_omega, allLen]
    (first | refine Gd.dec (fun h1 => ?_) (fun h1 => ?_) | refine Gd.intro (fun h1 => ?_) (fun h1 => ?_)) <;> simp (disch := first | omega | simp) [wrap_i64, le_most, lt_omega, le_omega, ne_omega, allLen, h1]
    · refine CallK.of (c46 (d : Int) w hw hK hM (by omega) (by omega)) (by first | exact .inl rfl | exact .inr (by simp)) (by simp) ?_
      rw [hm]
      simp (disch := first | omega | simp) [wrap_i64, le_most, lt_omega, le_omega, ne_omega, allLen]
      refine CallK.of (c62 _ (hdd.i64 (by omega) (by omega)) (hdd.ne (by omega)).1 (hdd.ne (by omega)).2) (by first | exact .inl rfl | exact .inr (by simp)) (by simp) ?_
      simp (disch := first | omega | simp) [wrap_i64, le_most, lt_omega, le_omega, ne_omega, allLen]
      (first | refine Gd.dec (fun h2 => ?_) (fun h2 => ?_) | refine Gd.intro (fun h2 => ?_) (fun h2 => ?_)) <;> simp (disch := first | omega | simp) [wrap_i64, le_most, lt_omega, le_omega, ne_omega, allLen, h2]
      · rw [dirR_at hlt (by simp [isDir, h1, h2]) hno]
      · (refine ⟨⟨d + 1, by omega, not_step hno (by simp [isDir, h2])⟩, by (simp; try omega), ?_⟩; constructor <;> (simp (disch := first | omega | simp) [wrap_i64, le_most, lt_omega, le_omega, ne_omega, allLen]) <;> (try omega))
    · (refine ⟨⟨d + 1, by omega, not_step hno (by simp [isDir, h1])⟩, by (simp; try omega), ?_⟩; constructor <;> (simp (disch := first | omega | simp) [wrap_i64, le_most, lt_omega, le_omega, ne_omega, allLen]) <;> (try omega))
  · have hlt' : ¬ (d : Int) < 16 := by omega
    simp (disch := first | omega | simp) [wrap_i64, le_most, lt_omega, le_omega, ne_omega, allLen, hlt']
    rw [dirR_none fun j hj => hno j (by omega)]
/-- The line through two points, and a code. -/
def thruC (p q : Pt) : Int := if (vP p && vP q) = false then 1 else if dirR (pminus q p) < 0 then 7 else if vN (lat p (dirR (pminus q p) % 8)).off = true then 0 else 2
def thruR (p q : Pt) : Li := if thruC p q = 0 then lat p (dirR (pminus q p) % 8) else ⟨0, ⟨0, 0, 0⟩⟩
theorem tmod8 {d : Int} (h : 0 ≤ d) : d.tmod 8 = d % 8 := Int.tmod_eq_emod_of_nonneg h
theorem c12 (p q : Pt) : PC E 12 [.agg (encP p), .agg (encP q)] [.agg (encLi (thruR p q)), .i (.int .i64 (thruC p q))] := by
  refine PC_start hE Proofs.Tryd.func12 rfl rfl Proofs.Tryd.ntmps12 (by kernel_rfl) (by kernel_rfl) (by simp) ?_
  simp (disch := first | omega | simp) [wrap_i64, le_most, lt_omega, le_omega, ne_omega, allLen]
  refine CallK.of (c34 p) (by first | exact .inl rfl | exact .inr (by simp)) (by simp) ?_
  simp (disch := first | omega | simp) [wrap_i64, le_most, lt_omega, le_omega, ne_omega, allLen]
  generalize h1 : vP p = q1
  cases q1
  · simp (disch := first | omega | simp) [wrap_i64, le_most, lt_omega, le_omega, ne_omega, allLen]
    simp [thruR, thruC, h1, encLi]
  simp (disch := first | omega | simp) [wrap_i64, le_most, lt_omega, le_omega, ne_omega, allLen]
  refine CallK.of (c34 q) (by first | exact .inl rfl | exact .inr (by simp)) (by simp) ?_
  simp (disch := first | omega | simp) [wrap_i64, le_most, lt_omega, le_omega, ne_omega, allLen]
  (first | refine Gd.dec (fun h2 => ?_) (fun h2 => ?_) | refine Gd.intro (fun h2 => ?_) (fun h2 => ?_)) <;> simp (disch := first | omega | simp) [wrap_i64, le_most, lt_omega, le_omega, ne_omega, allLen, h2]
  rotate_left
  · simp [thruR, thruC, h2, encLi]
  refine CallK.of (c35 p q (vP_bound h2) (vP_bound h1) (by decide) (by decide)) (by first | exact .inl rfl | exact .inr (by simp)) (by simp) ?_
  have hr := dirR_range (pminus q p)
  have hC : thruC p q = if dirR (pminus q p) < 0 then 7 else if vN (lat p (dirR (pminus q p) % 8)).off = true then 0 else 2 := by simp [thruC, h1, h2]
  unfold thruR
  rw [hC]
  generalize dirR (pminus q p) = d at *
  simp (disch := first | omega | simp) [wrap_i64, le_most, lt_omega, le_omega, ne_omega, allLen]
  (first | refine Gd.dec (fun h3 => ?_) (fun h3 => ?_) | refine Gd.intro (fun h3 => ?_) (fun h3 => ?_)) <;> simp (disch := first | omega | simp) [wrap_i64, le_most, lt_omega, le_omega, ne_omega, allLen, h3]
  · simp [encLi]
  have t8 := tmod8 (d := d) (by omega)
  simp (disch := first | omega | simp) [wrap_i64, le_most, lt_omega, le_omega, ne_omega, allLen, t8]
  refine CallK.of (c24 p (d % 8) (vP_bound h1) (by decide) (by decide) (by omega) (by omega)) (by first | exact .inl rfl | exact .inr (by simp)) (by simp) ?_
  simp (disch := first | omega | simp) [wrap_i64, le_most, lt_omega, le_omega, ne_omega, allLen, encLi]
  refine CallK.of (c27 (lat p (d % 8)).off) (by first | exact .inl rfl | exact .inr (by simp)) (by simp) ?_
  simp (disch := first | omega | simp) [wrap_i64, le_most, lt_omega, le_omega, ne_omega, allLen]
  (first | refine Gd.dec (fun h4 => ?_) (fun h4 => ?_) | refine Gd.intro (fun h4 => ?_) (fun h4 => ?_)) <;> simp (disch := first | omega | simp) [wrap_i64, le_most, lt_omega, le_omega, ne_omega, allLen, h4]
theorem c10 (p q : Pt) : PC E 10 [.agg (encP p), .agg (encP q)] [.agg (encLi (thruR p q)), .i (.int .i64 (thruC p q))] := by
  refine PC_start hE Proofs.Tryd.func10 rfl rfl Proofs.Tryd.ntmps10 (by kernel_rfl) (by kernel_rfl) (by simp) ?_
  simp (disch := first | omega | simp) [wrap_i64, le_most, lt_omega, le_omega, ne_omega, allLen]
  refine CallK.of (c29 p) (by first | exact .inl rfl | exact .inr (by simp)) (by simp) ?_
  simp (disch := first | omega | simp) [wrap_i64, le_most, lt_omega, le_omega, ne_omega, allLen]
  generalize h1 : vP p = q1
  cases q1
  · simp (disch := first | omega | simp) [wrap_i64, le_most, lt_omega, le_omega, ne_omega, allLen]
    simp [thruR, thruC, h1, encLi]
  simp (disch := first | omega | simp) [wrap_i64, le_most, lt_omega, le_omega, ne_omega, allLen]
  refine CallK.of (c29 q) (by first | exact .inl rfl | exact .inr (by simp)) (by simp) ?_
  simp (disch := first | omega | simp) [wrap_i64, le_most, lt_omega, le_omega, ne_omega, allLen]
  (first | refine Gd.dec (fun h2 => ?_) (fun h2 => ?_) | refine Gd.intro (fun h2 => ?_) (fun h2 => ?_)) <;> simp (disch := first | omega | simp) [wrap_i64, le_most, lt_omega, le_omega, ne_omega, allLen, h2]
  rotate_left
  · simp [thruR, thruC, h2, encLi]
  refine CallK.of (c32 q) (by first | exact .inl rfl | exact .inr (by simp)) (by simp) ?_
  simp (disch := first | omega | simp) [wrap_i64, le_most, lt_omega, le_omega, ne_omega, allLen]
  refine CallK.of (c32 p) (by first | exact .inl rfl | exact .inr (by simp)) (by simp) ?_
  simp (disch := first | omega | simp) [wrap_i64, le_most, lt_omega, le_omega, ne_omega, allLen]
  refine CallK.of (c31 q p (vP_bound h2) (vP_bound h1) (by decide) (by decide)) (by first | exact .inl rfl | exact .inr (by simp)) (by simp) ?_
  simp (disch := first | omega | simp) [wrap_i64, le_most, lt_omega, le_omega, ne_omega, allLen]
  refine CallK.of (c30 (pminus q p) ((vP_bound h2).minus (vP_bound h1)) (by decide) (by decide)) (by first | exact .inl rfl | exact .inr (by simp)) (by simp) ?_
  have hr := dirR_range (pminus q p)
  have hC : thruC p q = if dirR (pminus q p) < 0 then 7 else if vN (lat p (dirR (pminus q p) % 8)).off = true then 0 else 2 := by simp [thruC, h1, h2]
  unfold thruR
  rw [hC]
  generalize dirR (pminus q p) = d at *
  simp (disch := first | omega | simp) [wrap_i64, le_most, lt_omega, le_omega, ne_omega, allLen]
  (first | refine Gd.dec (fun h3 => ?_) (fun h3 => ?_) | refine Gd.intro (fun h3 => ?_) (fun h3 => ?_)) <;> simp (disch := first | omega | simp) [wrap_i64, le_most, lt_omega, le_omega, ne_omega, allLen, h3]
  · simp [encLi]
  have t8 := tmod8 (d := d) (by omega)
  simp (disch := first | omega | simp) [wrap_i64, le_most, lt_omega, le_omega, ne_omega, allLen, t8]
  refine CallK.of (c33 p (d % 8)) (by first | exact .inl rfl | exact .inr (by simp)) (by simp) ?_
  have e0 : inB (d % 8) 0 7 = true := inB_iff.2 ⟨by omega, by omega⟩
  have hk : latOk p (d % 8) = vN (lat p (d % 8)).off := by simp [latOk, h1, e0]
  unfold latR
  rw [hk]
  simp (disch := first | omega | simp) [wrap_i64, le_most, lt_omega, le_omega, ne_omega, allLen]
  (first | refine Gd.dec (fun h4 => ?_) (fun h4 => ?_) | refine Gd.intro (fun h4 => ?_) (fun h4 => ?_)) <;> simp (disch := first | omega | simp) [wrap_i64, le_most, lt_omega, le_omega, ne_omega, allLen, h4]
  simp [encLi]
theorem c4 (p q : Pt) : PC E 4 [.agg (encP p), .agg (encP q)] [.i (.bool true)] := by
  refine PC_start hE Proofs.Tryd.func4 rfl rfl Proofs.Tryd.ntmps4 (by kernel_rfl) (by kernel_rfl) (by simp) ?_
  simp (disch := first | omega | simp) [wrap_i64, le_most, lt_omega, le_omega, ne_omega, allLen]
  refine CallK.of (c11 p) (by first | exact .inl rfl | exact .inr (by simp)) (by simp) ?_
  simp (disch := first | omega | simp) [wrap_i64, le_most, lt_omega, le_omega, ne_omega, allLen]
  refine CallK.of (c11 q) (by first | exact .inl rfl | exact .inr (by simp)) (by simp) ?_
  simp (disch := first | omega | simp) [wrap_i64, le_most, lt_omega, le_omega, ne_omega, allLen]
  refine CallK.of (c10 p q) (by first | exact .inl rfl | exact .inr (by simp)) (by simp) ?_
  simp (disch := first | omega | simp) [wrap_i64, le_most, lt_omega, le_omega, ne_omega, allLen]
  refine CallK.of (c11 p) (by first | exact .inl rfl | exact .inr (by simp)) (by simp) ?_
  simp (disch := first | omega | simp) [wrap_i64, le_most, lt_omega, le_omega, ne_omega, allLen]
  refine CallK.of (c11 q) (by first | exact .inl rfl | exact .inr (by simp)) (by simp) ?_
  simp (disch := first | omega | simp) [wrap_i64, le_most, lt_omega, le_omega, ne_omega, allLen]
  refine CallK.of (c12 p q) (by first | exact .inl rfl | exact .inr (by simp)) (by simp) ?_
  simp (disch := first | omega | simp) [wrap_i64, le_most, lt_omega, le_omega, ne_omega, allLen]
  refine CallK.of (c9 (thruR p q) (thruR p q)) (by first | exact .inl rfl | exact .inr (by simp)) (by simp) ?_
  simp (disch := first | omega | simp) [wrap_i64, le_most, lt_omega, le_omega, ne_omega, allLen]
end Go.Vai
