/- Merged texts of this claim: Zn6, Zn7, Zn8. -/
import Derived.Test.YtgojpkfmdhohhaaGreatDoorYb2
set_option linter.unusedVariables false
set_option linter.unusedSimpArgs false
set_option maxHeartbeats 4000000
namespace Go.Vai
structure Pt where
  x : Nu
  y : Nu
  deriving DecidableEq, Inhabited
def encP (p : Pt) : List IV := [.int .i64 p.x.a, .int .i64 p.x.b, .int .i64 p.x.k, .int .i64 p.y.a, .int .i64 p.y.b, .int .i64 p.y.k]
@[simp] theorem encP_len (x : Pt) : (encP x).length = 6 := rfl
@[simp] theorem encP_take (x : Pt) : (encP x).take 6 = encP x := rfl
structure Li where
  dir : Int
  off : Nu
  deriving DecidableEq, Inhabited
def encLi (l : Li) : List IV := [.int .i64 l.dir, .int .i64 l.off.a, .int .i64 l.off.b, .int .i64 l.off.k]
@[simp] theorem encLi_len (x : Li) : (encLi x).length = 4 := rfl
@[simp] theorem encLi_take (x : Li) : (encLi x).take 4 = encLi x := rfl
/-- The vectors of the directions. -/
def vecL : List Pt := [⟨⟨1, 0, 0⟩, ⟨0, 0, 0⟩⟩, ⟨⟨1, 0, 0⟩, ⟨-1, 1, 0⟩⟩, ⟨⟨1, 0, 0⟩, ⟨1, 0, 0⟩⟩, ⟨⟨-1, 1, 0⟩, ⟨1, 0, 0⟩⟩, ⟨⟨0, 0, 0⟩, ⟨1, 0, 0⟩⟩, ⟨⟨1, -1, 0⟩, ⟨1, 0, 0⟩⟩, ⟨⟨-1, 0, 0⟩, ⟨1, 0, 0⟩⟩, ⟨⟨-1, 0, 0⟩, ⟨-1, 1, 0⟩⟩, ⟨⟨-1, 0, 0⟩, ⟨0, 0, 0⟩⟩, ⟨⟨-1, 0, 0⟩, ⟨1, -1, 0⟩⟩, ⟨⟨-1, 0, 0⟩, ⟨-1, 0, 0⟩⟩, ⟨⟨1, -1, 0⟩, ⟨-1, 0, 0⟩⟩, ⟨⟨0, 0, 0⟩, ⟨-1, 0, 0⟩⟩, ⟨⟨-1, 1, 0⟩, ⟨-1, 0, 0⟩⟩, ⟨⟨1, 0, 0⟩, ⟨-1, 0, 0⟩⟩, ⟨⟨1, 0, 0⟩, ⟨1, -1, 0⟩⟩]
def vec (d : Int) : Pt := vecL.getD d.toNat default
theorem dir8 {d : Int} (h0 : 0 ≤ d) (h1 : d ≤ 7) : d = 0 ∨ d = 1 ∨ d = 2 ∨ d = 3 ∨ d = 4 ∨ d = 5 ∨ d = 6 ∨ d = 7 := by omega
theorem dir16 {d : Int} (h0 : 0 ≤ d) (h1 : d ≤ 15) : d = 0 ∨ d = 1 ∨ d = 2 ∨ d = 3 ∨ d = 4 ∨ d = 5 ∨ d = 6 ∨ d = 7 ∨ d = 8 ∨ d = 9 ∨ d = 10 ∨ d = 11 ∨ d = 12 ∨ d = 13 ∨ d = 14 ∨ d = 15 := by omega
theorem vec_bound (d : Int) (h0 : 0 ≤ d) (h1 : d ≤ 15) : NB 0 1 (vec d).x ∧ NB 0 1 (vec d).y := by
  rcases dir16 h0 h1 with rfl | rfl | rfl | rfl | rfl | rfl | rfl | rfl | rfl | rfl | rfl | rfl | rfl | rfl | rfl | rfl <;>
    exact ⟨⟨by decide, by decide, by decide, by decide⟩, ⟨by decide, by decide, by decide, by decide⟩⟩
theorem NB.i64z {x : Nu} (h : NB 0 1 x) : x.i64 := h.i64 (by decide) (by decide)
theorem c88 (d : Int) (h0 : 0 ≤ d) (h1 : d ≤ 15) : PC E 88 [.i (.int .i64 d)] [.agg (encP (vec d))] := by
  refine PC_start hE Proofs.Tryz.func88 rfl rfl Proofs.Tryz.ntmps88 (by kernel_rfl) (by kernel_rfl) (by simp) ?_
  rcases dir16 h0 h1 with rfl | rfl | rfl | rfl | rfl | rfl | rfl | rfl | rfl | rfl | rfl | rfl | rfl | rfl | rfl | rfl
  · simp (maxSteps := 1000000) (disch := first | (exact DrawOk.mk (by decide +kernel)) | omega | simp) [wrap_i64, le_most, lt_omega, le_omega, ne_omega, allLen, gv0, encP, vec, vecL]
  · simp (maxSteps := 1000000) (disch := first | (exact DrawOk.mk (by decide +kernel)) | omega | simp) [wrap_i64, le_most, lt_omega, le_omega, ne_omega, allLen, gv0, encP, vec, vecL]
  · simp (maxSteps := 1000000) (disch := first | (exact DrawOk.mk (by decide +kernel)) | omega | simp) [wrap_i64, le_most, lt_omega, le_omega, ne_omega, allLen, gv0, encP, vec, vecL]
  · simp (maxSteps := 1000000) (disch := first | (exact DrawOk.mk (by decide +kernel)) | omega | simp) [wrap_i64, le_most, lt_omega, le_omega, ne_omega, allLen, gv0, encP, vec, vecL]
  · simp (maxSteps := 1000000) (disch := first | (exact DrawOk.mk (by decide +kernel)) | omega | simp) [wrap_i64, le_most, lt_omega, le_omega, ne_omega, allLen, gv0, encP, vec, vecL]
  · simp (maxSteps := 1000000) (disch := first | (exact DrawOk.mk (by decide +kernel)) | omega | simp) [wrap_i64, le_most, lt_omega, le_omega, ne_omega, allLen, gv0, encP, vec, vecL]
  · simp (maxSteps := 1000000) (disch := first | (exact DrawOk.mk (by decide +kernel)) | omega | simp) [wrap_i64, le_most, lt_omega, le_omega, ne_omega, allLen, gv0, encP, vec, vecL]
  · simp (maxSteps := 1000000) (disch := first | (exact DrawOk.mk (by decide +kernel)) | omega | simp) [wrap_i64, le_most, lt_omega, le_omega, ne_omega, allLen, gv0, encP, vec, vecL]
  · simp (maxSteps := 1000000) (disch := first | (exact DrawOk.mk (by decide +kernel)) | omega | simp) [wrap_i64, le_most, lt_omega, le_omega, ne_omega, allLen, gv0]
    refine CallK.of (c104 (vec 0).x (vec_bound 0 (by decide) (by decide)).1.i64z (by decide) (by decide)) (by first | exact .inl rfl | exact .inr (by simp)) (by simp) ?_
    simp (maxSteps := 1000000) (disch := first | (exact DrawOk.mk (by decide +kernel)) | omega | simp) [wrap_i64, le_most, lt_omega, le_omega, ne_omega, allLen]
    refine CallK.of (c104 (vec 0).y (vec_bound 0 (by decide) (by decide)).2.i64z (by decide) (by decide)) (by first | exact .inl rfl | exact .inr (by simp)) (by simp) ?_
    simp (maxSteps := 1000000) (disch := first | (exact DrawOk.mk (by decide +kernel)) | omega | simp) [wrap_i64, le_most, lt_omega, le_omega, ne_omega, allLen, encP, encN, vec, vecL, nneg]
  · simp (maxSteps := 1000000) (disch := first | (exact DrawOk.mk (by decide +kernel)) | omega | simp) [wrap_i64, le_most, lt_omega, le_omega, ne_omega, allLen, gv0]
    refine CallK.of (c104 (vec 1).x (vec_bound 1 (by decide) (by decide)).1.i64z (by decide) (by decide)) (by first | exact .inl rfl | exact .inr (by simp)) (by simp) ?_
    simp (maxSteps := 1000000) (disch := first | (exact DrawOk.mk (by decide +kernel)) | omega | simp) [wrap_i64, le_most, lt_omega, le_omega, ne_omega, allLen]
    refine CallK.of (c104 (vec 1).y (vec_bound 1 (by decide) (by decide)).2.i64z (by decide) (by decide)) (by first | exact .inl rfl | exact .inr (by simp)) (by simp) ?_
    simp (maxSteps := 1000000) (disch := first | (exact DrawOk.mk (by decide +kernel)) | omega | simp) [wrap_i64, le_most, lt_omega, le_omega, ne_omega, allLen, encP, encN, vec, vecL, nneg]
  · simp (maxSteps := 1000000) (disch := first | (exact DrawOk.mk (by decide +kernel)) | omega | simp) [wrap_i64, le_most, lt_omega, le_omega, ne_omega, allLen, gv0]
    refine CallK.of (c104 (vec 2).x (vec_bound 2 (by decide) (by decide)).1.i64z (by decide) (by decide)) (by first | exact .inl rfl | exact .inr (by simp)) (by simp) ?_
    simp (maxSteps := 1000000) (disch := first | (exact DrawOk.mk (by decide +kernel)) | omega | simp) [wrap_i64, le_most, lt_omega, le_omega, ne_omega, allLen]
    refine CallK.of (c104 (vec 2).y (vec_bound 2 (by decide) (by decide)).2.i64z (by decide) (by decide)) (by first | exact .inl rfl | exact .inr (by simp)) (by simp) ?_
    simp (maxSteps := 1000000) (disch := first | (exact DrawOk.mk (by decide +kernel)) | omega | simp) [wrap_i64, le_most, lt_omega, le_omega, ne_omega, allLen, encP, encN, vec, vecL, nneg]
  · simp (maxSteps := 1000000) (disch := first | (exact DrawOk.mk (by decide +kernel)) | omega | simp) [wrap_i64, le_most, lt_omega, le_omega, ne_omega, allLen, gv0]
    refine CallK.of (c104 (vec 3).x (vec_bound 3 (by decide) (by decide)).1.i64z (by decide) (by decide)) (by first | exact .inl rfl | exact .inr (by simp)) (by simp) ?_
    simp (maxSteps := 1000000) (disch := first | (exact DrawOk.mk (by decide +kernel)) | omega | simp) [wrap_i64, le_most, lt_omega, le_omega, ne_omega, allLen]
    refine CallK.of (c104 (vec 3).y (vec_bound 3 (by decide) (by decide)).2.i64z (by decide) (by decide)) (by first | exact .inl rfl | exact .inr (by simp)) (by simp) ?_
    simp (maxSteps := 1000000) (disch := first | (exact DrawOk.mk (by decide +kernel)) | omega | simp) [wrap_i64, le_most, lt_omega, le_omega, ne_omega, allLen, encP, encN, vec, vecL, nneg]
  · simp (maxSteps := 1000000) (disch := first | (exact DrawOk.mk (by decide +kernel)) | omega | simp) [wrap_i64, le_most, lt_omega, le_omega, ne_omega, allLen, gv0]
    refine CallK.of (c104 (vec 4).x (vec_bound 4 (by decide) (by decide)).1.i64z (by decide) (by decide)) (by first | exact .inl rfl | exact .inr (by simp)) (by simp) ?_
    simp (maxSteps := 1000000) (disch := first | (exact DrawOk.mk (by decide +kernel)) | omega | simp) [wrap_i64, le_most, lt_omega, le_omega, ne_omega, allLen]
    refine CallK.of (c104 (vec 4).y (vec_bound 4 (by decide) (by decide)).2.i64z (by decide) (by decide)) (by first | exact .inl rfl | exact .inr (by simp)) (by simp) ?_
    simp (maxSteps := 1000000) (disch := first | (exact DrawOk.mk (by decide +kernel)) | omega | simp) [wrap_i64, le_most, lt_omega, le_omega, ne_omega, allLen, encP, encN, vec, vecL, nneg]
  · simp (maxSteps := 1000000) (disch := first | (exact DrawOk.mk (by decide +kernel)) | omega | simp) [wrap_i64, le_most, lt_omega, le_omega, ne_omega, allLen, gv0]
    refine CallK.of (c104 (vec 5).x (vec_bound 5 (by decide) (by decide)).1.i64z (by decide) (by decide)) (by first | exact .inl rfl | exact .inr (by simp)) (by simp) ?_
    simp (maxSteps := 1000000) (disch := first | (exact DrawOk.mk (by decide +kernel)) | omega | simp) [wrap_i64, le_most, lt_omega, le_omega, ne_omega, allLen]
    refine CallK.of (c104 (vec 5).y (vec_bound 5 (by decide) (by decide)).2.i64z (by decide) (by decide)) (by first | exact .inl rfl | exact .inr (by simp)) (by simp) ?_
    simp (maxSteps := 1000000) (disch := first | (exact DrawOk.mk (by decide +kernel)) | omega | simp) [wrap_i64, le_most, lt_omega, le_omega, ne_omega, allLen, encP, encN, vec, vecL, nneg]
  · simp (maxSteps := 1000000) (disch := first | (exact DrawOk.mk (by decide +kernel)) | omega | simp) [wrap_i64, le_most, lt_omega, le_omega, ne_omega, allLen, gv0]
    refine CallK.of (c104 (vec 6).x (vec_bound 6 (by decide) (by decide)).1.i64z (by decide) (by decide)) (by first | exact .inl rfl | exact .inr (by simp)) (by simp) ?_
    simp (maxSteps := 1000000) (disch := first | (exact DrawOk.mk (by decide +kernel)) | omega | simp) [wrap_i64, le_most, lt_omega, le_omega, ne_omega, allLen]
    refine CallK.of (c104 (vec 6).y (vec_bound 6 (by decide) (by decide)).2.i64z (by decide) (by decide)) (by first | exact .inl rfl | exact .inr (by simp)) (by simp) ?_
    simp (maxSteps := 1000000) (disch := first | (exact DrawOk.mk (by decide +kernel)) | omega | simp) [wrap_i64, le_most, lt_omega, le_omega, ne_omega, allLen, encP, encN, vec, vecL, nneg]
  · simp (maxSteps := 1000000) (disch := first | (exact DrawOk.mk (by decide +kernel)) | omega | simp) [wrap_i64, le_most, lt_omega, le_omega, ne_omega, allLen, gv0]
    refine CallK.of (c104 (vec 7).x (vec_bound 7 (by decide) (by decide)).1.i64z (by decide) (by decide)) (by first | exact .inl rfl | exact .inr (by simp)) (by simp) ?_
    simp (maxSteps := 1000000) (disch := first | (exact DrawOk.mk (by decide +kernel)) | omega | simp) [wrap_i64, le_most, lt_omega, le_omega, ne_omega, allLen]
    refine CallK.of (c104 (vec 7).y (vec_bound 7 (by decide) (by decide)).2.i64z (by decide) (by decide)) (by first | exact .inl rfl | exact .inr (by simp)) (by simp) ?_
    simp (maxSteps := 1000000) (disch := first | (exact DrawOk.mk (by decide +kernel)) | omega | simp) [wrap_i64, le_most, lt_omega, le_omega, ne_omega, allLen, encP, encN, vec, vecL, nneg]
theorem c50 (d : Int) (h0 : -4611686018427387904 ≤ d) (h1 : d ≤ 4611686018427387904) : PC E 50 [.i (.int .i64 d)] [.i (.int .i64 (d % 16))] := by
  refine PC_start hE Proofs.Tryz.func50 rfl rfl Proofs.Tryz.ntmps50 (by kernel_rfl) (by kernel_rfl) (by simp) ?_
  have e1 : -16 < d.tmod 16 ∧ d.tmod 16 < 16 := by
    rw [Int.tmod_eq_emod]; split <;> simp <;> omega
  have e2 : (d.tmod 16 + 16).tmod 16 = d % 16 := by
    rw [Int.tmod_eq_emod_of_nonneg (by omega), Int.tmod_eq_emod]
    split <;> simp <;> omega
  simp (maxSteps := 1000000) (disch := first | (exact DrawOk.mk (by decide +kernel)) | omega | simp) [wrap_i64, le_most, lt_omega, le_omega, ne_omega, allLen, e2]
theorem c93 (d : Int) (h0 : -4611686018427387904 ≤ d) (h1 : d ≤ 4611686018427387904) : PC E 93 [.i (.int .i64 d)] [.agg (encP (vec (d % 16)))] := by
  refine PC_start hE Proofs.Tryz.func93 rfl rfl Proofs.Tryz.ntmps93 (by kernel_rfl) (by kernel_rfl) (by simp) ?_
  simp (maxSteps := 1000000) (disch := first | (exact DrawOk.mk (by decide +kernel)) | omega | simp) [wrap_i64, le_most, lt_omega, le_omega, ne_omega, allLen]
  refine CallK.of (c50 d h0 h1) (by first | exact .inl rfl | exact .inr (by simp)) (by simp) ?_
  have hd0 : 0 ≤ d % 16 := by omega
  have hd1 : d % 16 ≤ 15 := by omega
  generalize d % 16 = e at *
  rcases dir16 hd0 hd1 with rfl | rfl | rfl | rfl | rfl | rfl | rfl | rfl | rfl | rfl | rfl | rfl | rfl | rfl | rfl | rfl
  all_goals simp (maxSteps := 1000000) (disch := first | (exact DrawOk.mk (by decide +kernel)) | omega | simp) [wrap_i64, le_most, lt_omega, le_omega, ne_omega, allLen, encP, vec, vecL]
end Go.Vai
set_option linter.unusedVariables false
set_option linter.unusedSimpArgs false
set_option maxHeartbeats 4000000
namespace Go.Vai
def vP (p : Pt) : Bool := vN p.x && vN p.y
def vL (l : Li) : Bool := inB l.dir 0 7 && vN l.off
theorem vN_bound {x : Nu} (h : vN x = true) : NB 10 134217728 x := by
  simp only [vN, Bool.and_eq_true, inB_iff] at h
  obtain ⟨h1, h2, h3, -⟩ := h
  have e : 2 ^ (10 - x.k.toNat) ≤ 1024 := by
    have := Nat.pow_le_pow_right (n := 2) (by decide) (show 10 - x.k.toNat ≤ 10 by omega)
    simpa using this
  have m1 := Nat.mul_le_mul (show x.a.natAbs ≤ 131072 by omega) e
  have m2 := Nat.mul_le_mul (show x.b.natAbs ≤ 131072 by omega) e
  exact ⟨by omega, by omega, by omega, by omega⟩
def ndot (p q : Pt) : Nu := nadd (nmul p.x q.x) (nmul p.y q.y)
/-- A point whose parts are within M at the scale of 2^K. -/
def PB (K M : Nat) (p : Pt) : Prop := NB K M p.x ∧ NB K M p.y
theorem vP_bound {p : Pt} (h : vP p = true) : PB 10 134217728 p := by
  simp only [vP, Bool.and_eq_true] at h
  exact ⟨vN_bound h.1, vN_bound h.2⟩
theorem PB.dot {K K' M M' : Nat} {p q : Pt} (h : PB K M p) (h' : PB K' M' q) : NB (K + K') (6 * (M * M')) (ndot p q) :=
  ((h.1.mul h'.1).add (h.2.mul h'.2)).mono (by omega)
theorem vec_PB {d : Int} (h0 : 0 ≤ d) (h1 : d ≤ 15) : PB 0 1 (vec d) := vec_bound d h0 h1
theorem c70 (p : Pt) : PC E 70 [.agg (encP p)] [.i (.bool (vP p))] := by
  refine PC_start hE Proofs.Tryz.func70 rfl rfl Proofs.Tryz.ntmps70 (by kernel_rfl) (by kernel_rfl) (by simp) ?_
  simp (maxSteps := 1000000) (disch := first | (exact DrawOk.mk (by decide +kernel)) | omega | simp) [wrap_i64, le_most, lt_omega, le_omega, ne_omega, allLen, encP]
  refine CallK.of (c86 p.x) (by first | exact .inl rfl | exact .inr (by simp)) (by simp) ?_
  simp (maxSteps := 1000000) (disch := first | (exact DrawOk.mk (by decide +kernel)) | omega | simp) [wrap_i64, le_most, lt_omega, le_omega, ne_omega, allLen]
  (first | refine Gd.dec (fun h1 => ?_) (fun h1 => ?_) | refine Gd.intro (fun h1 => ?_) (fun h1 => ?_)) <;> simp (maxSteps := 1000000) (disch := first | (exact DrawOk.mk (by decide +kernel)) | omega | simp) [wrap_i64, le_most, lt_omega, le_omega, ne_omega, allLen, h1]
  rotate_left
  · simp [vP, h1]
  refine CallK.of (c86 p.y) (by first | exact .inl rfl | exact .inr (by simp)) (by simp) ?_
  simp (maxSteps := 1000000) (disch := first | (exact DrawOk.mk (by decide +kernel)) | omega | simp) [wrap_i64, le_most, lt_omega, le_omega, ne_omega, allLen]
  simp [vP, h1]
theorem c47 (p : Pt) : PC E 47 [.agg (encP p)] [.i (.bool (vP p))] := by
  refine PC_start hE Proofs.Tryz.func47 rfl rfl Proofs.Tryz.ntmps47 (by kernel_rfl) (by kernel_rfl) (by simp) ?_
  simp (maxSteps := 1000000) (disch := first | (exact DrawOk.mk (by decide +kernel)) | omega | simp) [wrap_i64, le_most, lt_omega, le_omega, ne_omega, allLen, encP]
  refine CallK.of (c66 p.x) (by first | exact .inl rfl | exact .inr (by simp)) (by simp) ?_
  simp (maxSteps := 1000000) (disch := first | (exact DrawOk.mk (by decide +kernel)) | omega | simp) [wrap_i64, le_most, lt_omega, le_omega, ne_omega, allLen]
  (first | refine Gd.dec (fun h1 => ?_) (fun h1 => ?_) | refine Gd.intro (fun h1 => ?_) (fun h1 => ?_)) <;> simp (maxSteps := 1000000) (disch := first | (exact DrawOk.mk (by decide +kernel)) | omega | simp) [wrap_i64, le_most, lt_omega, le_omega, ne_omega, allLen, h1]
  rotate_left
  · simp [vP, h1]
  refine CallK.of (c66 p.y) (by first | exact .inl rfl | exact .inr (by simp)) (by simp) ?_
  simp (maxSteps := 1000000) (disch := first | (exact DrawOk.mk (by decide +kernel)) | omega | simp) [wrap_i64, le_most, lt_omega, le_omega, ne_omega, allLen]
  simp [vP, h1]
theorem c90 (p q : Pt) {K K' M M' : Nat} (h : PB K M p) (h' : PB K' M' q) (hK : K + K' ≤ 60) (hM : 6 * (M * M') ≤ 4611686018427387904) (h2 : M ≤ 2305843009213693952) :
    PC E 90 [.agg (encP p), .agg (encP q)] [.agg (encN (ndot p q))] := by
  refine PC_start hE Proofs.Tryz.func90 rfl rfl Proofs.Tryz.ntmps90 (by kernel_rfl) (by kernel_rfl) (by simp) ?_
  simp (maxSteps := 1000000) (disch := first | (exact DrawOk.mk (by decide +kernel)) | omega | simp) [wrap_i64, le_most, lt_omega, le_omega, ne_omega, allLen, encP]
  refine CallK.of (c101 p.x q.x h.1 h'.1 hK (by omega) h2) (by first | exact .inl rfl | exact .inr (by simp)) (by simp) ?_
  simp (maxSteps := 1000000) (disch := first | (exact DrawOk.mk (by decide +kernel)) | omega | simp) [wrap_i64, le_most, lt_omega, le_omega, ne_omega, allLen, encP]
  refine CallK.of (c101 p.y q.y h.2 h'.2 hK (by omega) h2) (by first | exact .inl rfl | exact .inr (by simp)) (by simp) ?_
  simp (maxSteps := 1000000) (disch := first | (exact DrawOk.mk (by decide +kernel)) | omega | simp) [wrap_i64, le_most, lt_omega, le_omega, ne_omega, allLen, encP]
  refine CallK.of (c105 (nmul p.x q.x) (nmul p.y q.y) (h.1.mul h'.1) (h.2.mul h'.2) hK (by omega)) (by first | exact .inl rfl | exact .inr (by simp)) (by simp) ?_
  simp (maxSteps := 1000000) (disch := first | (exact DrawOk.mk (by decide +kernel)) | omega | simp) [wrap_i64, le_most, lt_omega, le_omega, ne_omega, allLen, encN, ndot]
theorem c99 (l : Li) (h0 : 0 ≤ l.dir) (h1 : l.dir ≤ 11) : PC E 99 [.agg (encLi l)] [.agg (encP (vec (l.dir + 4)))] := by
  refine PC_start hE Proofs.Tryz.func99 rfl rfl Proofs.Tryz.ntmps99 (by kernel_rfl) (by kernel_rfl) (by simp) ?_
  simp (maxSteps := 1000000) (disch := first | (exact DrawOk.mk (by decide +kernel)) | omega | simp) [wrap_i64, le_most, lt_omega, le_omega, ne_omega, allLen, encLi]
  refine CallK.of (c88 (l.dir + 4) (by omega) (by omega)) (by first | exact .inl rfl | exact .inr (by simp)) (by simp) ?_
  simp (maxSteps := 1000000) (disch := first | (exact DrawOk.mk (by decide +kernel)) | omega | simp) [wrap_i64, le_most, lt_omega, le_omega, ne_omega, allLen, encP]
def lat (p : Pt) (d : Int) : Li := ⟨d, ndot (vec (d + 4)) p⟩
theorem c81 (p : Pt) (d : Int) {K M : Nat} (h : PB K M p) (hK : K ≤ 60) (hM : 6 * M ≤ 4611686018427387904) (h0 : 0 ≤ d) (h1 : d ≤ 11) :
    PC E 81 [.agg (encP p), .i (.int .i64 d)] [.agg (encLi (lat p d))] := by
  refine PC_start hE Proofs.Tryz.func81 rfl rfl Proofs.Tryz.ntmps81 (by kernel_rfl) (by kernel_rfl) (by simp) ?_
  simp (maxSteps := 1000000) (disch := first | (exact DrawOk.mk (by decide +kernel)) | omega | simp) [wrap_i64, le_most, lt_omega, le_omega, ne_omega, allLen]
  refine CallK.of (c99 ⟨d, ⟨0, 0, 0⟩⟩ h0 h1) (by first | exact .inl rfl | exact .inr (by simp)) (by simp) ?_
  simp (maxSteps := 1000000) (disch := first | (exact DrawOk.mk (by decide +kernel)) | omega | simp) [wrap_i64, le_most, lt_omega, le_omega, ne_omega, allLen]
  refine CallK.of (c90 (vec (d + 4)) p (vec_PB (by omega) (by omega)) h (by omega) (by omega) (by decide)) (by first | exact .inl rfl | exact .inr (by simp)) (by simp) ?_
  simp (maxSteps := 1000000) (disch := first | (exact DrawOk.mk (by decide +kernel)) | omega | simp) [wrap_i64, le_most, lt_omega, le_omega, ne_omega, allLen, encN, encLi, lat]
theorem c82 (l : Li) (p : Pt) {K M M' : Nat} (h : PB K M p) (h' : NB K M' l.off) (hK : K ≤ 60) (hM : 6 * M + M' ≤ 4611686018427387904) (h0 : 0 ≤ l.dir) (h1 : l.dir ≤ 11) :
    PC E 82 [.agg (encLi l), .agg (encP p)] [.i (.int .i64 (nsign (nsub (ndot (vec (l.dir + 4)) p) l.off)))] := by
  refine PC_start hE Proofs.Tryz.func82 rfl rfl Proofs.Tryz.ntmps82 (by kernel_rfl) (by kernel_rfl) (by simp) ?_
  simp (maxSteps := 1000000) (disch := first | (exact DrawOk.mk (by decide +kernel)) | omega | simp) [wrap_i64, le_most, lt_omega, le_omega, ne_omega, allLen]
  refine CallK.of (c99 l h0 h1) (by first | exact .inl rfl | exact .inr (by simp)) (by simp) ?_
  simp (maxSteps := 1000000) (disch := first | (exact DrawOk.mk (by decide +kernel)) | omega | simp) [wrap_i64, le_most, lt_omega, le_omega, ne_omega, allLen]
  have hd := (vec_PB (d := l.dir + 4) (by omega) (by omega)).dot h
  simp only [Nat.zero_add, Nat.one_mul] at hd
  refine CallK.of (c90 (vec (l.dir + 4)) p (vec_PB (by omega) (by omega)) h (by omega) (by omega) (by decide)) (by first | exact .inl rfl | exact .inr (by simp)) (by simp) ?_
  simp (maxSteps := 1000000) (disch := first | (exact DrawOk.mk (by decide +kernel)) | omega | simp) [wrap_i64, le_most, lt_omega, le_omega, ne_omega, allLen, encLi]
  refine CallK.of (c100 (ndot (vec (l.dir + 4)) p) l.off hd h' hK hM) (by first | exact .inl rfl | exact .inr (by simp)) (by simp) ?_
  simp (maxSteps := 1000000) (disch := first | (exact DrawOk.mk (by decide +kernel)) | omega | simp) [wrap_i64, le_most, lt_omega, le_omega, ne_omega, allLen]
  have hs := hd.sub h'
  refine CallK.of (c91 _ (hs.i64 hM hK) (hs.ne hM).1 (hs.ne hM).2) (by first | exact .inl rfl | exact .inr (by simp)) (by simp) ?_
  simp (maxSteps := 1000000) (disch := first | (exact DrawOk.mk (by decide +kernel)) | omega | simp) [wrap_i64, le_most, lt_omega, le_omega, ne_omega, allLen]
theorem c62 (p : Pt) : PC E 62 [.agg (encP p)] [.agg (encP p)] := by
  refine PC_start hE Proofs.Tryz.func62 rfl rfl Proofs.Tryz.ntmps62 (by kernel_rfl) (by kernel_rfl) (by simp) ?_
  simp (maxSteps := 1000000) (disch := first | (exact DrawOk.mk (by decide +kernel)) | omega | simp) [wrap_i64, le_most, lt_omega, le_omega, ne_omega, allLen, encP]
  refine CallK.of (c80 p.x) (by first | exact .inl rfl | exact .inr (by simp)) (by simp) ?_
  simp (maxSteps := 1000000) (disch := first | (exact DrawOk.mk (by decide +kernel)) | omega | simp) [wrap_i64, le_most, lt_omega, le_omega, ne_omega, allLen]
  refine CallK.of (c80 p.y) (by first | exact .inl rfl | exact .inr (by simp)) (by simp) ?_
  simp (maxSteps := 1000000) (disch := first | (exact DrawOk.mk (by decide +kernel)) | omega | simp) [wrap_i64, le_most, lt_omega, le_omega, ne_omega, allLen, encN]
theorem c75 (d : Int) (p : Pt) {K M : Nat} (h : PB K M p) (hK : K ≤ 60) (hM : 6 * M ≤ 4611686018427387904) (h0 : -4611686018427387904 ≤ d) (h1 : d ≤ 4611686018427387904) :
    PC E 75 [.i (.int .i64 d), .agg (encP p)] [.agg (encN (ndot (vec (d % 16)) p))] := by
  refine PC_start hE Proofs.Tryz.func75 rfl rfl Proofs.Tryz.ntmps75 (by kernel_rfl) (by kernel_rfl) (by simp) ?_
  have hv := vec_PB (d := d % 16) (by omega) (by omega)
  simp (maxSteps := 1000000) (disch := first | (exact DrawOk.mk (by decide +kernel)) | omega | simp) [wrap_i64, le_most, lt_omega, le_omega, ne_omega, allLen]
  refine CallK.of (c93 d h0 h1) (by first | exact .inl rfl | exact .inr (by simp)) (by simp) ?_
  simp (maxSteps := 1000000) (disch := first | (exact DrawOk.mk (by decide +kernel)) | omega | simp) [wrap_i64, le_most, lt_omega, le_omega, ne_omega, allLen]
  refine CallK.of (c62 (vec (d % 16))) (by first | exact .inl rfl | exact .inr (by simp)) (by simp) ?_
  simp (maxSteps := 1000000) (disch := first | (exact DrawOk.mk (by decide +kernel)) | omega | simp) [wrap_i64, le_most, lt_omega, le_omega, ne_omega, allLen, encP]
  have b1 := hv.1.mul h.1
  have b2 := hv.2.mul h.2
  simp only [Nat.zero_add, Nat.one_mul] at b1 b2
  refine CallK.of (c95 (vec (d % 16)).x p.x hv.1 h.1 (by omega) (by omega) (by decide)) (by first | exact .inl rfl | exact .inr (by simp)) (by simp) ?_
  simp (maxSteps := 1000000) (disch := first | (exact DrawOk.mk (by decide +kernel)) | omega | simp) [wrap_i64, le_most, lt_omega, le_omega, ne_omega, allLen, encP]
  refine CallK.of (c95 (vec (d % 16)).y p.y hv.2 h.2 (by omega) (by omega) (by decide)) (by first | exact .inl rfl | exact .inr (by simp)) (by simp) ?_
  simp (maxSteps := 1000000) (disch := first | (exact DrawOk.mk (by decide +kernel)) | omega | simp) [wrap_i64, le_most, lt_omega, le_omega, ne_omega, allLen, encP]
  refine CallK.of (c94 _ _ b1 b2 hK (by omega)) (by first | exact .inl rfl | exact .inr (by simp)) (by simp) ?_
  simp (maxSteps := 1000000) (disch := first | (exact DrawOk.mk (by decide +kernel)) | omega | simp) [wrap_i64, le_most, lt_omega, le_omega, ne_omega, allLen, encN, ndot]
theorem mod16 {d : Int} (h0 : 0 ≤ d) (h1 : d ≤ 15) : d % 16 = d := by omega
theorem c78 (l : Li) (p : Pt) {K M M' : Nat} (h : PB K M p) (h' : NB K M' l.off) (hK : K ≤ 60) (hM : 6 * M + M' ≤ 4611686018427387904) (h0 : 0 ≤ l.dir) (h1 : l.dir ≤ 11) :
    PC E 78 [.agg (encLi l), .agg (encP p)] [.i (.int .i64 (nsign (nsub (ndot (vec (l.dir + 4)) p) l.off)))] := by
  refine PC_start hE Proofs.Tryz.func78 rfl rfl Proofs.Tryz.ntmps78 (by kernel_rfl) (by kernel_rfl) (by simp) ?_
  have hd := (vec_PB (d := l.dir + 4) (by omega) (by omega)).dot h
  simp only [Nat.zero_add, Nat.one_mul] at hd
  simp (maxSteps := 1000000) (disch := first | (exact DrawOk.mk (by decide +kernel)) | omega | simp) [wrap_i64, le_most, lt_omega, le_omega, ne_omega, allLen, encLi]
  refine CallK.of (c75 (l.dir + 4) p h hK (by omega) (by omega) (by omega)) (by first | exact .inl rfl | exact .inr (by simp)) (by simp) ?_
  rw [mod16 (by omega) (by omega)]
  simp (maxSteps := 1000000) (disch := first | (exact DrawOk.mk (by decide +kernel)) | omega | simp) [wrap_i64, le_most, lt_omega, le_omega, ne_omega, allLen]
  refine CallK.of (c77 (ndot (vec (l.dir + 4)) p) l.off hd h' hK hM) (by first | exact .inl rfl | exact .inr (by simp)) (by simp) ?_
  simp (maxSteps := 1000000) (disch := first | (exact DrawOk.mk (by decide +kernel)) | omega | simp) [wrap_i64, le_most, lt_omega, le_omega, ne_omega, allLen]
  have hs := hd.sub h'
  refine CallK.of (c76 _ (hs.i64 hM hK) (hs.ne hM).1 (hs.ne hM).2) (by first | exact .inl rfl | exact .inr (by simp)) (by simp) ?_
  simp (maxSteps := 1000000) (disch := first | (exact DrawOk.mk (by decide +kernel)) | omega | simp) [wrap_i64, le_most, lt_omega, le_omega, ne_omega, allLen]
/-- On which side of a line a point is; 0 if they are not valid. -/
def sideR (l : Li) (p : Pt) : Int := if (vL l && vP p) = true then nsign (nsub (ndot (vec (l.dir + 4)) p) l.off) else 0
/-- The line through a point with a direction. -/
def latOk (p : Pt) (d : Int) : Bool := vP p && inB d 0 7 && vN (lat p d).off
def latR (p : Pt) (d : Int) : Li := if latOk p d = true then lat p d else ⟨0, ⟨0, 0, 0⟩⟩
theorem isLowF : ∀ (n : Nat) (x : Nu), n = x.k.toNat → 0 ≤ x.k → ¬ (0 < (lowF n x).k ∧ (lowF n x).a % 2 = 0 ∧ (lowF n x).b % 2 = 0)
  | 0, x, h, h0 => by simp only [lowF]; omega
  | n + 1, x, h, h0 => by
    simp only [lowF]
    split
    · exact isLowF n _ (by simp only; omega) (by simp only; omega)
    · assumption
theorem lowF_nz : ∀ (n : Nat) (x : Nu), ¬ (x.a = 0 ∧ x.b = 0) → ¬ ((lowF n x).a = 0 ∧ (lowF n x).b = 0)
  | 0, x, h => h
  | n + 1, x, h => by
    simp only [lowF]
    split
    · exact lowF_nz n _ (by simp only; omega)
    · exact h
theorem low_low {x : Nu} (h0 : 0 ≤ x.k) : low (low x) = low x := by
  refine low_end ?_ ?_
  · unfold low; split
    · simp
    · exact isLowF _ x rfl h0
  · intro hz
    unfold low at hz ⊢
    split at hz
    · rename_i h; rw [if_pos h]
    · rename_i h; exact absurd hz (lowF_nz _ x h)
theorem low_nadd {x y : Nu} (h : 0 ≤ x.k) : low (nadd x y) = nadd x y := low_low (by simp only; omega)
theorem nnum_low {x : Nu} (h : low x = x) : nok x = vN x := by unfold nok; rw [h]
end Go.Vai
set_option linter.unusedVariables false
set_option linter.unusedSimpArgs false
set_option maxHeartbeats 4000000
namespace Go.Vai
theorem typedZ {n : Nat} {el : List IV} (h : Typed E n 2 el) : ∃ x, el = [.int .i64 x] ∧ -9223372036854775808 ≤ x ∧ x ≤ 9223372036854775807 := by
  cases n with
  | zero => exact h.elim
  | succ n =>
    simp only [Typed, k2] at h
    obtain ⟨x, rfl, hw⟩ := h
    refine ⟨x, rfl, ?_⟩
    simp only [Lit.wf, Bool.and_eq_true, decide_eq_true_eq] at hw
    have h1 : IntKind.i64.min = -9223372036854775808 := by decide
    have h2 : IntKind.i64.max = 9223372036854775807 := by decide
    omega
theorem typedNu {n : Nat} {el : List IV} (h : Typed E n 62 el) : ∃ x : Nu, el = encN x ∧ x.i64 := by
  cases n with
  | zero => exact h.elim
  | succ n =>
    simp only [Typed, k62, fieldsT] at h
    obtain ⟨a0, b0, rfl, h0, a1, b1, rfl, h1, a2, b2, rfl, h2, rfl⟩ := h
    obtain ⟨x0, rfl, l0⟩ := typedZ h0
    obtain ⟨x1, rfl, l1⟩ := typedZ h1
    obtain ⟨x2, rfl, l2⟩ := typedZ h2
    exact ⟨⟨x0, x1, x2⟩, rfl, l0, l1, l2⟩
theorem typedPt {n : Nat} {el : List IV} (h : Typed E n 64 el) : ∃ p : Pt, el = encP p ∧ p.x.i64 ∧ p.y.i64 := by
  cases n with
  | zero => exact h.elim
  | succ n =>
    simp only [Typed, k64, fieldsT] at h
    obtain ⟨a0, b0, rfl, h0, a1, b1, rfl, h1, rfl⟩ := h
    obtain ⟨x, rfl, hx⟩ := typedNu h0
    obtain ⟨y, rfl, hy⟩ := typedNu h1
    exact ⟨⟨x, y⟩, rfl, hx, hy⟩
theorem c51 (x : Nu) : PC E 51 [.agg (encN x)] [.agg (encN x)] := by
  refine PC_start hE Proofs.Tryz.func51 rfl rfl Proofs.Tryz.ntmps51 (by kernel_rfl) (by kernel_rfl) (by simp) ?_
  simp (maxSteps := 1000000) (disch := first | (exact DrawOk.mk (by decide +kernel)) | omega | simp) [wrap_i64, le_most, lt_omega, le_omega, ne_omega, allLen, encN]
theorem c57 (x y : Nu) : PC E 57 [.agg (encN x), .agg (encN y)] [.i (.bool (decide (x = y)))] := by
  refine PC_start hE Proofs.Tryz.func57 rfl rfl Proofs.Tryz.ntmps57 (by kernel_rfl) (by kernel_rfl) (by simp) ?_
  obtain ⟨a, b, k⟩ := x
  obtain ⟨a', b', k'⟩ := y
  simp (maxSteps := 1000000) (disch := first | (exact DrawOk.mk (by decide +kernel)) | omega | simp) [wrap_i64, le_most, lt_omega, le_omega, ne_omega, allLen, encN]
  (first | refine Gd.dec (fun h0 => ?_) (fun h0 => ?_) | refine Gd.intro (fun h0 => ?_) (fun h0 => ?_)) <;> simp (maxSteps := 1000000) (disch := first | (exact DrawOk.mk (by decide +kernel)) | omega | simp) [wrap_i64, le_most, lt_omega, le_omega, ne_omega, allLen, h0]
  (first | refine Gd.dec (fun h1 => ?_) (fun h1 => ?_) | refine Gd.intro (fun h1 => ?_) (fun h1 => ?_)) <;> simp (maxSteps := 1000000) (disch := first | (exact DrawOk.mk (by decide +kernel)) | omega | simp) [wrap_i64, le_most, lt_omega, le_omega, ne_omega, allLen, h1]
  (first | refine Gd.dec (fun h2 => ?_) (fun h2 => ?_) | refine Gd.intro (fun h2 => ?_) (fun h2 => ?_)) <;> simp (maxSteps := 1000000) (disch := first | (exact DrawOk.mk (by decide +kernel)) | omega | simp) [wrap_i64, le_most, lt_omega, le_omega, ne_omega, allLen, h2]
theorem c34 (p : Pt) : PC E 34 [.agg (encP p)] [.agg (encP p)] := by
  refine PC_start hE Proofs.Tryz.func34 rfl rfl Proofs.Tryz.ntmps34 (by kernel_rfl) (by kernel_rfl) (by simp) ?_
  simp (maxSteps := 1000000) (disch := first | (exact DrawOk.mk (by decide +kernel)) | omega | simp) [wrap_i64, le_most, lt_omega, le_omega, ne_omega, allLen, encP]
  refine CallK.of (c51 p.x) (by first | exact .inl rfl | exact .inr (by simp)) (by simp) ?_
  simp (maxSteps := 1000000) (disch := first | (exact DrawOk.mk (by decide +kernel)) | omega | simp) [wrap_i64, le_most, lt_omega, le_omega, ne_omega, allLen, encN]
  refine CallK.of (c51 p.y) (by first | exact .inl rfl | exact .inr (by simp)) (by simp) ?_
  simp (maxSteps := 1000000) (disch := first | (exact DrawOk.mk (by decide +kernel)) | omega | simp) [wrap_i64, le_most, lt_omega, le_omega, ne_omega, allLen, encN]
theorem c41 (x y : Pt) : PC E 41 [.agg (encP x), .agg (encP y)] [.i (.bool (decide (x = y)))] := by
  refine PC_start hE Proofs.Tryz.func41 rfl rfl Proofs.Tryz.ntmps41 (by kernel_rfl) (by kernel_rfl) (by simp) ?_
  obtain ⟨a, b⟩ := x
  obtain ⟨a', b'⟩ := y
  simp (maxSteps := 1000000) (disch := first | (exact DrawOk.mk (by decide +kernel)) | omega | simp) [wrap_i64, le_most, lt_omega, le_omega, ne_omega, allLen, encP]
  refine CallK.of (c57 a a') (by first | exact .inl rfl | exact .inr (by simp)) (by simp) ?_
  simp (maxSteps := 1000000) (disch := first | (exact DrawOk.mk (by decide +kernel)) | omega | simp) [wrap_i64, le_most, lt_omega, le_omega, ne_omega, allLen]
  (first | refine Gd.dec (fun h0 => ?_) (fun h0 => ?_) | refine Gd.intro (fun h0 => ?_) (fun h0 => ?_)) <;> simp (maxSteps := 1000000) (disch := first | (exact DrawOk.mk (by decide +kernel)) | omega | simp) [wrap_i64, le_most, lt_omega, le_omega, ne_omega, allLen, h0]
  refine CallK.of (c57 b b') (by first | exact .inl rfl | exact .inr (by simp)) (by simp) ?_
  simp (maxSteps := 1000000) (disch := first | (exact DrawOk.mk (by decide +kernel)) | omega | simp) [wrap_i64, le_most, lt_omega, le_omega, ne_omega, allLen]
  (first | refine Gd.dec (fun h1 => ?_) (fun h1 => ?_) | refine Gd.intro (fun h1 => ?_) (fun h1 => ?_)) <;> simp (maxSteps := 1000000) (disch := first | (exact DrawOk.mk (by decide +kernel)) | omega | simp) [wrap_i64, le_most, lt_omega, le_omega, ne_omega, allLen, h1]
end Go.Vai
