import Derived.Test.YtahohbkjelhobaaDoorZn5
set_option linter.unusedVariables false
set_option linter.unusedSimpArgs false
set_option maxHeartbeats 4000000
namespace Go.Vai
structure Pt where
  x : Nu
  y : Nu
  deriving DecidableEq, Inhabited
def encP (p : Pt) : List IV := [.int .i64 p.x.a, .int .i64 p.x.b, .int .i64 p.x.k, .int .i64 p.y.a, .int .i64 p.y.b, .int .i64 p.y.k]
@[simp] theorem encP_len (x : Pt) : (encP x).length = 6 := rfl
@[simp] theorem encP_take (x : Pt) : (encP x).take 6 = encP x := rfl
structure Li where
  dir : Int
  off : Nu
  deriving DecidableEq, Inhabited
def encLi (l : Li) : List IV := [.int .i64 l.dir, .int .i64 l.off.a, .int .i64 l.off.b, .int .i64 l.off.k]
@[simp] theorem encLi_len (x : Li) : (encLi x).length = 4 := rfl
@[simp] theorem encLi_take (x : Li) : (encLi x).take 4 = encLi x := rfl
/-- The vectors of the directions. -/
def vecL : List Pt := [⟨⟨1, 0, 0⟩, ⟨0, 0, 0⟩⟩, ⟨⟨1, 0, 0⟩, ⟨-1, 1, 0⟩⟩, ⟨⟨1, 0, 0⟩, ⟨1, 0, 0⟩⟩, ⟨⟨-1, 1, 0⟩, ⟨1, 0, 0⟩⟩, ⟨⟨0, 0, 0⟩, ⟨1, 0, 0⟩⟩, ⟨⟨1, -1, 0⟩, ⟨1, 0, 0⟩⟩, ⟨⟨-1, 0, 0⟩, ⟨1, 0, 0⟩⟩, ⟨⟨-1, 0, 0⟩, ⟨-1, 1, 0⟩⟩, ⟨⟨-1, 0, 0⟩, ⟨0, 0, 0⟩⟩, ⟨⟨-1, 0, 0⟩, ⟨1, -1, 0⟩⟩, ⟨⟨-1, 0, 0⟩, ⟨-1, 0, 0⟩⟩, ⟨⟨1, -1, 0⟩, ⟨-1, 0, 0⟩⟩, ⟨⟨0, 0, 0⟩, ⟨-1, 0, 0⟩⟩, ⟨⟨-1, 1, 0⟩, ⟨-1, 0, 0⟩⟩, ⟨⟨1, 0, 0⟩, ⟨-1, 0, 0⟩⟩, ⟨⟨1, 0, 0⟩, ⟨1, -1, 0⟩⟩]
def vec (d : Int) : Pt := vecL.getD d.toNat default
theorem dir8 {d : Int} (h0 : 0 ≤ d) (h1 : d ≤ 7) : d = 0 ∨ d = 1 ∨ d = 2 ∨ d = 3 ∨ d = 4 ∨ d = 5 ∨ d = 6 ∨ d = 7 := by omega
theorem dir16 {d : Int} (h0 : 0 ≤ d) (h1 : d ≤ 15) : d = 0 ∨ d = 1 ∨ d = 2 ∨ d = 3 ∨ d = 4 ∨ d = 5 ∨ d = 6 ∨ d = 7 ∨ d = 8 ∨ d = 9 ∨ d = 10 ∨ d = 11 ∨ d = 12 ∨ d = 13 ∨ d = 14 ∨ d = 15 := by omega
theorem vec_bound (d : Int) (h0 : 0 ≤ d) (h1 : d ≤ 15) : NB 0 1 (vec d).x ∧ NB 0 1 (vec d).y := by
  rcases dir16 h0 h1 with rfl | rfl | rfl | rfl | rfl | rfl | rfl | rfl | rfl | rfl | rfl | rfl | rfl | rfl | rfl | rfl <;>
    exact ⟨⟨by decide, by decide, by decide, by decide⟩, ⟨by decide, by decide, by decide, by decide⟩⟩
theorem NB.i64z {x : Nu} (h : NB 0 1 x) : x.i64 := h.i64 (by decide) (by decide)
theorem c64 (d : Int) (h0 : 0 ≤ d) (h1 : d ≤ 15) : PC E 64 [.i (.int .i64 d)] [.agg (encP (vec d))] := by
  refine PC_start hE Proofs.Tryd.func64 rfl rfl Proofs.Tryd.ntmps64 (by kernel_rfl) (by kernel_rfl) (by simp) ?_
  rcases dir16 h0 h1 with rfl | rfl | rfl | rfl | rfl | rfl | rfl | rfl | rfl | rfl | rfl | rfl | rfl | rfl | rfl | rfl
  · simp (disch := first | omega | simp) [wrap_i64, le_most, lt_omega, le_omega, ne_omega, allLen, gv0, encP, vec, vecL]
  · simp (disch := first | omega | simp) [wrap_i64, le_most, lt_omega, le_omega, ne_omega, allLen, gv0, encP, vec, vecL]
  · simp (disch := first | omega | simp) [wrap_i64, le_most, lt_omega, le_omega, ne_omega, allLen, gv0, encP, vec, vecL]
  · simp (disch := first | omega | simp) [wrap_i64, le_most, lt_omega, le_omega, ne_omega, allLen, gv0, encP, vec, vecL]
  · simp (disch := first | omega | simp) [wrap_i64, le_most, lt_omega, le_omega, ne_omega, allLen, gv0, encP, vec, vecL]
  · simp (disch := first | omega | simp) [wrap_i64, le_most, lt_omega, le_omega, ne_omega, allLen, gv0, encP, vec, vecL]
  · simp (disch := first | omega | simp) [wrap_i64, le_most, lt_omega, le_omega, ne_omega, allLen, gv0, encP, vec, vecL]
  · simp (disch := first | omega | simp) [wrap_i64, le_most, lt_omega, le_omega, ne_omega, allLen, gv0, encP, vec, vecL]
  · simp (disch := first | omega | simp) [wrap_i64, le_most, lt_omega, le_omega, ne_omega, allLen, gv0]
    refine CallK.of (c73 (vec 0).x (vec_bound 0 (by decide) (by decide)).1.i64z (by decide) (by decide)) (by first | exact .inl rfl | exact .inr (by simp)) (by simp) ?_
    simp (disch := first | omega | simp) [wrap_i64, le_most, lt_omega, le_omega, ne_omega, allLen]
    refine CallK.of (c73 (vec 0).y (vec_bound 0 (by decide) (by decide)).2.i64z (by decide) (by decide)) (by first | exact .inl rfl | exact .inr (by simp)) (by simp) ?_
    simp (disch := first | omega | simp) [wrap_i64, le_most, lt_omega, le_omega, ne_omega, allLen, encP, encN, vec, vecL, nneg]
  · simp (disch := first | omega | simp) [wrap_i64, le_most, lt_omega, le_omega, ne_omega, allLen, gv0]
    refine CallK.of (c73 (vec 1).x (vec_bound 1 (by decide) (by decide)).1.i64z (by decide) (by decide)) (by first | exact .inl rfl | exact .inr (by simp)) (by simp) ?_
    simp (disch := first | omega | simp) [wrap_i64, le_most, lt_omega, le_omega, ne_omega, allLen]
    refine CallK.of (c73 (vec 1).y (vec_bound 1 (by decide) (by decide)).2.i64z (by decide) (by decide)) (by first | exact .inl rfl | exact .inr (by simp)) (by simp) ?_
    simp (disch := first | omega | simp) [wrap_i64, le_most, lt_omega, le_omega, ne_omega, allLen, encP, encN, vec, vecL, nneg]
  · simp (disch := first | omega | simp) [wrap_i64, le_most, lt_omega, le_omega, ne_omega, allLen, gv0]
    refine CallK.of (c73 (vec 2).x (vec_bound 2 (by decide) (by decide)).1.i64z (by decide) (by decide)) (by first | exact .inl rfl | exact .inr (by simp)) (by simp) ?_
    simp (disch := first | omega | simp) [wrap_i64, le_most, lt_omega, le_omega, ne_omega, allLen]
    refine CallK.of (c73 (vec 2).y (vec_bound 2 (by decide) (by decide)).2.i64z (by decide) (by decide)) (by first | exact .inl rfl | exact .inr (by simp)) (by simp) ?_
    simp (disch := first | omega | simp) [wrap_i64, le_most, lt_omega, le_omega, ne_omega, allLen, encP, encN, vec, vecL, nneg]
  · simp (disch := first | omega | simp) [wrap_i64, le_most, lt_omega, le_omega, ne_omega, allLen, gv0]
    refine CallK.of (c73 (vec 3).x (vec_bound 3 (by decide) (by decide)).1.i64z (by decide) (by decide)) (by first | exact .inl rfl | exact .inr (by simp)) (by simp) ?_
    simp (disch := first | omega | simp) [wrap_i64, le_most, lt_omega, le_omega, ne_omega, allLen]
    refine CallK.of (c73 (vec 3).y (vec_bound 3 (by decide) (by decide)).2.i64z (by decide) (by decide)) (by first | exact .inl rfl | exact .inr (by simp)) (by simp) ?_
    simp (disch := first | omega | simp) [wrap_i64, le_most, lt_omega, le_omega, ne_omega, allLen, encP, encN, vec, vecL, nneg]
  · simp (disch := first | omega | simp) [wrap_i64, le_most, lt_omega, le_omega, ne_omega, allLen, gv0]
    refine CallK.of (c73 (vec 4).x (vec_bound 4 (by decide) (by decide)).1.i64z (by decide) (by decide)) (by first | exact .inl rfl | exact .inr (by simp)) (by simp) ?_
    simp (disch := first | omega | simp) [wrap_i64, le_most, lt_omega, le_omega, ne_omega, allLen]
    refine CallK.of (c73 (vec 4).y (vec_bound 4 (by decide) (by decide)).2.i64z (by decide) (by decide)) (by first | exact .inl rfl | exact .inr (by simp)) (by simp) ?_
    simp (disch := first | omega | simp) [wrap_i64, le_most, lt_omega, le_omega, ne_omega, allLen, encP, encN, vec, vecL, nneg]
  · simp (disch := first | omega | simp) [wrap_i64, le_most, lt_omega, le_omega, ne_omega, allLen, gv0]
    refine CallK.of (c73 (vec 5).x (vec_bound 5 (by decide) (by decide)).1.i64z (by decide) (by decide)) (by first | exact .inl rfl | exact .inr (by simp)) (by simp) ?_
    simp (disch := first | omega | simp) [wrap_i64, le_most, lt_omega, le_omega, ne_omega, allLen]
    refine CallK.of (c73 (vec 5).y (vec_bound 5 (by decide) (by decide)).2.i64z (by decide) (by decide)) (by first | exact .inl rfl | exact .inr (by simp)) (by simp) ?_
    simp (disch := first | omega | simp) [wrap_i64, le_most, lt_omega, le_omega, ne_omega, allLen, encP, encN, vec, vecL, nneg]
  · simp (disch := first | omega | simp) [wrap_i64, le_most, lt_omega, le_omega, ne_omega, allLen, gv0]
    refine CallK.of (c73 (vec 6).x (vec_bound 6 (by decide) (by decide)).1.i64z (by decide) (by decide)) (by first | exact .inl rfl | exact .inr (by simp)) (by simp) ?_
    simp (disch := first | omega | simp) [wrap_i64, le_most, lt_omega, le_omega, ne_omega, allLen]
    refine CallK.of (c73 (vec 6).y (vec_bound 6 (by decide) (by decide)).2.i64z (by decide) (by decide)) (by first | exact .inl rfl | exact .inr (by simp)) (by simp) ?_
    simp (disch := first | omega | simp) [wrap_i64, le_most, lt_omega, le_omega, ne_omega, allLen, encP, encN, vec, vecL, nneg]
  · simp (disch := first | omega | simp) [wrap_i64, le_most, lt_omega, le_omega, ne_omega, allLen, gv0]
    refine CallK.of (c73 (vec 7).x (vec_bound 7 (by decide) (by decide)).1.i64z (by decide) (by decide)) (by first | exact .inl rfl | exact .inr (by simp)) (by simp) ?_
    simp (disch := first | omega | simp) [wrap_i64, le_most, lt_omega, le_omega, ne_omega, allLen]
    refine CallK.of (c73 (vec 7).y (vec_bound 7 (by decide) (by decide)).2.i64z (by decide) (by decide)) (by first | exact .inl rfl | exact .inr (by simp)) (by simp) ?_
    simp (disch := first | omega | simp) [wrap_i64, le_most, lt_omega, le_omega, ne_omega, allLen, encP, encN, vec, vecL, nneg]
theorem c51 (d : Int) (h0 : -4611686018427387904 ≤ d) (h1 : d ≤ 4611686018427387904) : PC E 51 [.i (.int .i64 d)] [.i (.int .i64 (d % 16))] := by
  refine PC_start hE Proofs.Tryd.func51 rfl rfl Proofs.Tryd.ntmps51 (by kernel_rfl) (by kernel_rfl) (by simp) ?_
  have e1 : -16 < d.tmod 16 ∧ d.tmod 16 < 16 := by
    rw [Int.tmod_eq_emod]; split <;> simp <;> omega
  have e2 : (d.tmod 16 + 16).tmod 16 = d % 16 := by
    rw [Int.tmod_eq_emod_of_nonneg (by omega), Int.tmod_eq_emod]
    split <;> simp <;> omega
  simp (disch := first | omega | simp) [wrap_i64, le_most, lt_omega, le_omega, ne_omega, allLen, e2]
theorem c43 (d : Int) (h0 : -4611686018427387904 ≤ d) (h1 : d ≤ 4611686018427387904) : PC E 43 [.i (.int .i64 d)] [.agg (encP (vec (d % 16)))] := by
  refine PC_start hE Proofs.Tryd.func43 rfl rfl Proofs.Tryd.ntmps43 (by kernel_rfl) (by kernel_rfl) (by simp) ?_
  simp (disch := first | omega | simp) [wrap_i64, le_most, lt_omega, le_omega, ne_omega, allLen]
  refine CallK.of (c51 d h0 h1) (by first | exact .inl rfl | exact .inr (by simp)) (by simp) ?_
  have hd0 : 0 ≤ d % 16 := by omega
  have hd1 : d % 16 ≤ 15 := by omega
  generalize d % 16 = e at *
  rcases dir16 hd0 hd1 with rfl | rfl | rfl | rfl | rfl | rfl | rfl | rfl | rfl | rfl | rfl | rfl | rfl | rfl | rfl | rfl
  all_goals simp (disch := first | omega | simp) [wrap_i64, le_most, lt_omega, le_omega, ne_omega, allLen, encP, vec, vecL]
end Go.Vai
