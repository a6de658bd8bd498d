/- Merged texts of this claim: Zn11, Zn12. -/
import Derived.Test.YtgojpkfmdhohhaaGreatDoorYb4
set_option linter.unusedVariables false
set_option linter.unusedSimpArgs false
set_option maxHeartbeats 4000000
namespace Go.Vai
theorem c58 (w : Pt) {K M : Nat} (hw : PB K M w) (hK : K ≤ 60) (hM : 6 * M ≤ 4611686018427387904) : PC E 58 [.agg (encP w)] [.i (.int .i64 (dirR w))] := by
  refine PC_start hE Proofs.Tryz.func58 rfl rfl Proofs.Tryz.ntmps58 (by kernel_rfl) (by kernel_rfl) (by simp) ?_
  simp (maxSteps := 1000000) (disch := first | (exact DrawOk.mk (by decide +kernel)) | omega | simp) [wrap_i64, le_most, lt_omega, le_omega, ne_omega, allLen]
  refine XL.by hE (ι := { d : Nat // d ≤ 16 ∧ ∀ j, j < d → isDir w j = false }) (fun d => ⟨[(1, .ptr 1 0 0), (3, .i (.int .i64 d.1))], [(1, ⟨6, [encP w]⟩)]⟩)
    (fun d => 16 - d.1) ⟨0, by omega, fun j hj => by omega⟩ ⟨by simp, by simp, by simp⟩ (by kernel_rfl) ?_
  rintro ⟨d, hd, hno⟩
  by_cases hlt : d < 16
  · have hlt' : (d : Int) < 16 := by omega
    have hv := vec_PB (d := (d : Int)) (by omega) (by omega)
    have hdd := hv.dot hw
    simp only [Nat.zero_add, Nat.one_mul] at hdd
    have hz : nz (ndot (vec (((d : Int) + 4) % 16)) w) = decide (pcross (vec d) w = ⟨0, 0, 0⟩) := by
      rw [dot_turn (by omega) (by omega)]
      exact nz_low (low_nsub (hv.1.mul hw.2).k0)
    have hm : ((d : Int)) % 16 = d := by omega
    simp (maxSteps := 1000000) (disch := first | (exact DrawOk.mk (by decide +kernel)) | omega | simp) [wrap_i64, le_most, lt_omega, le_omega, ne_omega, allLen, hlt']
    refine CallK.of (c75 ((d : Int) + 4) w hw hK hM (by omega) (by omega)) (by first | exact .inl rfl | exact .inr (by simp)) (by simp) ?_
    simp (maxSteps := 1000000) (disch := first | (exact DrawOk.mk (by decide +kernel)) | omega | simp) [wrap_i64, le_most, lt_omega, le_omega, ne_omega, allLen]
    refine CallK.of (c74 (ndot (vec (((d : Int) + 4) % 16)) w)) (by first | exact .inl rfl | exact .inr (by simp)) (by simp) ?_
    rw [hz]
    simp (maxSteps := 1000000) (disch := first | (exact DrawOk.mk (by decide +kernel)) | omega | simp) [wrap_i64, le_most, lt_omega, le_omega, ne_omega, allLen]
    (first | refine Gd.dec (fun h1 => ?_) (fun h1 => ?_) | refine Gd.intro (fun h1 => ?_) (fun h1 => ?_)) <;> simp (maxSteps := 1000000) (disch := first | (exact DrawOk.mk (by decide +kernel)) | omega | simp) [wrap_i64, le_most, lt_omega, le_omega, ne_omega, allLen, h1]
    · refine CallK.of (c75 (d : Int) w hw hK hM (by omega) (by omega)) (by first | exact .inl rfl | exact .inr (by simp)) (by simp) ?_
      rw [hm]
      simp (maxSteps := 1000000) (disch := first | (exact DrawOk.mk (by decide +kernel)) | omega | simp) [wrap_i64, le_most, lt_omega, le_omega, ne_omega, allLen]
      refine CallK.of (c76 _ (hdd.i64 (by omega) (by omega)) (hdd.ne (by omega)).1 (hdd.ne (by omega)).2) (by first | exact .inl rfl | exact .inr (by simp)) (by simp) ?_
      simp (maxSteps := 1000000) (disch := first | (exact DrawOk.mk (by decide +kernel)) | omega | simp) [wrap_i64, le_most, lt_omega, le_omega, ne_omega, allLen]
      (first | refine Gd.dec (fun h2 => ?_) (fun h2 => ?_) | refine Gd.intro (fun h2 => ?_) (fun h2 => ?_)) <;> simp (maxSteps := 1000000) (disch := first | (exact DrawOk.mk (by decide +kernel)) | omega | simp) [wrap_i64, le_most, lt_omega, le_omega, ne_omega, allLen, h2]
      · rw [dirR_at hlt (by simp [isDir, h1, h2]) hno]
      · (refine ⟨⟨d + 1, by omega, not_step hno (by simp [isDir, h2])⟩, by (simp; try omega), ?_⟩; constructor <;> (simp (maxSteps := 1000000) (disch := first | (exact DrawOk.mk (by decide +kernel)) | omega | simp) [wrap_i64, le_most, lt_omega, le_omega, ne_omega, allLen]) <;> (try omega))
    · (refine ⟨⟨d + 1, by omega, not_step hno (by simp [isDir, h1])⟩, by (simp; try omega), ?_⟩; constructor <;> (simp (maxSteps := 1000000) (disch := first | (exact DrawOk.mk (by decide +kernel)) | omega | simp) [wrap_i64, le_most, lt_omega, le_omega, ne_omega, allLen]) <;> (try omega))
  · have hlt' : ¬ (d : Int) < 16 := by omega
    simp (maxSteps := 1000000) (disch := first | (exact DrawOk.mk (by decide +kernel)) | omega | simp) [wrap_i64, le_most, lt_omega, le_omega, ne_omega, allLen, hlt']
    rw [dirR_none fun j hj => hno j (by omega)]
/-- The line through two points, and a code. -/
def thruC (p q : Pt) : Int := if (vP p && vP q) = false then 1 else if dirR (pminus q p) < 0 then 7 else if vN (lat p (dirR (pminus q p) % 8)).off = true then 0 else 2
def thruR (p q : Pt) : Li := if thruC p q = 0 then lat p (dirR (pminus q p) % 8) else ⟨0, ⟨0, 0, 0⟩⟩
theorem tmod8 {d : Int} (h : 0 ≤ d) : d.tmod 8 = d % 8 := Int.tmod_eq_emod_of_nonneg h
end Go.Vai
set_option linter.unusedVariables false
set_option linter.unusedSimpArgs false
set_option maxHeartbeats 4000000
namespace Go.Vai
/-! ### Feet, reflections -/
def sqE (d : Int) : Nat := if d % 4 = 0 then 0 else if d % 2 = 0 then 2 else 3
theorem sq_Dv {d : Int} (h0 : 0 ≤ d) (h1 : d ≤ 15) : Dv (ndot (vec d) (vec d)) 1 (sqE d) := by
  rcases dir16 h0 h1 with rfl | rfl | rfl | rfl | rfl | rfl | rfl | rfl | rfl | rfl | rfl | rfl | rfl | rfl | rfl | rfl <;>
    exact ⟨by decide, by decide, by decide, .inl rfl, by decide, by decide⟩
theorem ndiv_neg (x y : Nu) (s : Int) (e : Nat) : ndiv (nneg x) y s e = nneg (ndiv x y s e) := by
  unfold ndiv
  rw [← low_neg]
  simp only [nneg]
  congr 2
  · rw [← Int.mul_neg]; congr 1; simp only [Int.neg_mul]; omega
  · rw [← Int.mul_neg]; congr 1; simp only [Int.neg_mul]; omega
/-- A number over the square of a direction's vector. -/
def ndsq (x : Nu) (d : Int) : Nu := ndiv x (ndot (vec d) (vec d)) 1 (sqE d)
theorem NB.dsq {K M : Nat} {x : Nu} (h : NB K M x) {d : Int} (h0 : 0 ≤ d) (h1 : d ≤ 15) : NB (K + 3) (96 * M) (ndsq x d) := (h.div (sq_Dv h0 h1)).mono (by omega)
theorem PB.up {K K' M : Nat} {p : Pt} (h : PB K M p) (hK : K ≤ K') : PB K' (M * 2 ^ (K' - K)) p := ⟨h.1.up hK, h.2.up hK⟩
def footP (l : Li) : Pt := ptimes (vec (l.dir + 4)) (ndsq l.off (l.dir + 4))
theorem foot_PB {l : Li} {M : Nat} (h : NB 10 M l.off) (h0 : 0 ≤ l.dir) (h1 : l.dir ≤ 7) : PB 13 (288 * M) (footP l) := by
  have := (vec_PB (d := l.dir + 4) (by omega) (by omega)).times (h.dsq (d := l.dir + 4) (by omega) (by omega))
  simp only [Nat.zero_add, Nat.one_mul] at this
  exact this.mono (by omega)
def reflU (l : Li) (p : Pt) : Nu := ndsq (nsub l.off (ndot (vec (l.dir + 4)) p)) (l.dir + 4)
def reflP (l : Li) (p : Pt) : Pt := pplus p (ptimes (vec (l.dir + 4)) (nadd (reflU l p) (reflU l p)))
/-- The reference's way to reflect. -/
theorem refl_eq (l : Li) (p : Pt) : pminus p ⟨nmul (nadd (nneg (reflU l p)) (nneg (reflU l p))) (vec (l.dir + 4)).x, nmul (nadd (nneg (reflU l p)) (nneg (reflU l p))) (vec (l.dir + 4)).y⟩ = reflP l p := by
  unfold pminus reflP pplus ptimes nsub
  simp only [← nneg_nadd, nmul_neg_l, nneg_nneg]
  rw [nmul_comm _ (vec (l.dir + 4)).x, nmul_comm _ (vec (l.dir + 4)).y]
theorem andI_7 (a : Int) : andI .i64 a 7 = a % 8 := by
  unfold andI
  have hb : IntKind.i64.bits = 64 := rfl
  rw [hb]
  have h1 : (BitVec.ofInt 64 a &&& BitVec.ofInt 64 7).toNat = (a % 18446744073709551616).toNat % 8 := by
    rw [BitVec.toNat_and]
    have : (BitVec.ofInt 64 7).toNat = 2 ^ 3 - 1 := rfl
    rw [this, Nat.and_two_pow_sub_one_eq_mod, BitVec.toNat_ofInt]
    rfl
  rw [h1, wrap_i64] <;> omega
theorem andI_15 (a : Int) : andI .i64 a 15 = a % 16 := by
  unfold andI
  have hb : IntKind.i64.bits = 64 := rfl
  rw [hb]
  have h1 : (BitVec.ofInt 64 a &&& BitVec.ofInt 64 15).toNat = (a % 18446744073709551616).toNat % 16 := by
    rw [BitVec.toNat_and]
    have : (BitVec.ofInt 64 15).toNat = 2 ^ 4 - 1 := rfl
    rw [this, Nat.and_two_pow_sub_one_eq_mod, BitVec.toNat_ofInt]
    rfl
  rw [h1, wrap_i64] <;> omega
theorem c61 (p : Pt) (d : Int) {K M : Nat} (h : PB K M p) (hK : K ≤ 60) (hM : 6 * M ≤ 4611686018427387904) (h0 : -4611686018427387904 ≤ d) (h1 : d ≤ 4611686018427387904) :
    PC E 61 [.agg (encP p), .i (.int .i64 d)] [.agg (encLi (lat p (d % 8)))] := by
  refine PC_start hE Proofs.Tryz.func61 rfl rfl Proofs.Tryz.ntmps61 (by kernel_rfl) (by kernel_rfl) (by simp) ?_
  have e1 : (d % 16).tmod 8 = d % 8 := by rw [Int.tmod_eq_emod_of_nonneg (by omega)]; omega
  simp (maxSteps := 1000000) (disch := first | (exact DrawOk.mk (by decide +kernel)) | omega | simp) [wrap_i64, le_most, lt_omega, le_omega, ne_omega, allLen]
  refine CallK.of (c50 d h0 h1) (by first | exact .inl rfl | exact .inr (by simp)) (by simp) ?_
  simp (maxSteps := 1000000) (disch := first | (exact DrawOk.mk (by decide +kernel)) | omega | simp) [wrap_i64, le_most, lt_omega, le_omega, ne_omega, allLen, e1]
  refine CallK.of (c75 (d % 8 + 4) p h hK hM (by omega) (by omega)) (by first | exact .inl rfl | exact .inr (by simp)) (by simp) ?_
  rw [mod16 (d := d % 8 + 4) (by omega) (by omega)]
  simp (maxSteps := 1000000) (disch := first | (exact DrawOk.mk (by decide +kernel)) | omega | simp) [wrap_i64, le_most, lt_omega, le_omega, ne_omega, allLen, encN, encLi, lat]
/-- A line reflected in a line. -/
def rlOk (l m : Li) : Bool := vL l && vL m && vN (lat (reflP l (footP m)) ((2 * l.dir - m.dir) % 8)).off
def rlR (l m : Li) : Li := if rlOk l m = true then lat (reflP l (footP m)) ((2 * l.dir - m.dir) % 8) else ⟨0, ⟨0, 0, 0⟩⟩
theorem vL_bound {l : Li} (h : vL l = true) : 0 ≤ l.dir ∧ l.dir ≤ 7 ∧ NB 10 134217728 l.off := by
  simp only [vL, Bool.and_eq_true, inB_iff] at h
  exact ⟨h.1.1, h.1.2, vN_bound h.2⟩
theorem refl_PB {l : Li} {p : Pt} {K M M' : Nat} (h : PB K M p) (h' : NB K M' l.off) (h0 : 0 ≤ l.dir) (h1 : l.dir ≤ 7) : PB (K + 3) (4000 * (M + M')) (reflP l p) := by
  have hv := vec_PB (d := l.dir + 4) (by omega) (by omega)
  have hd := hv.dot h
  simp only [Nat.zero_add, Nat.one_mul] at hd
  have hu := (h'.sub hd).dsq (d := l.dir + 4) (by omega) (by omega)
  have ht := hv.times (hu.add hu)
  simp only [Nat.zero_add, Nat.one_mul] at ht
  have hpu := h.up (K' := K + 3) (by omega)
  have e3 : K + 3 - K = 3 := by omega
  rw [e3] at hpu
  exact (hpu.plus ht).mono (by omega)
theorem NB.up13 {M : Nat} {x : Nu} (h : NB 10 M x) : NB 13 (8 * M) x := (h.up (K' := 13) (by decide)).mono (by simp; omega)
end Go.Vai
