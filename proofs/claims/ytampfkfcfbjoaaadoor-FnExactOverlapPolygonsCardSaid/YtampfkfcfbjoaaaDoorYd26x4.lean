/- Merged texts of this claim: Zn10, Zn11, Zn12, Zg1, Zg2, Zp1. -/
import Derived.Test.YtampfkfcfbjoaaaDoorYd26x3
import Derived.Test.YtampfkfcfbjoaaaDoorZv5b
set_option linter.unusedVariables false
set_option linter.unusedSimpArgs false
set_option maxHeartbeats 4000000
namespace Go.Vai
@[simp] theorem eqlNu (x y : Nu) : eqOp E .eql 43 (encN x) (encN y) = some (.i (.bool (decide (x = y)))) := by
  obtain ⟨a, b, k⟩ := x
  obtain ⟨a', b', k'⟩ := y
  simp [encN, eqOp, eqA, eqFs, partA]
def pminus (p q : Pt) : Pt := ⟨nsub p.x q.x, nsub p.y q.y⟩
def pplus (p q : Pt) : Pt := ⟨nadd p.x q.x, nadd p.y q.y⟩
def ptimes (p : Pt) (t : Nu) : Pt := ⟨nmul p.x t, nmul p.y t⟩
def pcross (p q : Pt) : Nu := nsub (nmul p.x q.y) (nmul p.y q.x)
theorem PB.minus {K M M' : Nat} {p q : Pt} (h : PB K M p) (h' : PB K M' q) : PB K (M + M') (pminus p q) := ⟨h.1.sub h'.1, h.2.sub h'.2⟩
theorem PB.plus {K M M' : Nat} {p q : Pt} (h : PB K M p) (h' : PB K M' q) : PB K (M + M') (pplus p q) := ⟨h.1.add h'.1, h.2.add h'.2⟩
theorem PB.times {K K' M M' : Nat} {p : Pt} {t : Nu} (h : PB K M p) (h' : NB K' M' t) : PB (K + K') (3 * (M * M')) (ptimes p t) := ⟨h.1.mul h', h.2.mul h'⟩
theorem PB.cross {K K' M M' : Nat} {p q : Pt} (h : PB K M p) (h' : PB K' M' q) : NB (K + K') (6 * (M * M')) (pcross p q) :=
  ((h.1.mul h'.2).sub (h.2.mul h'.1)).mono (by omega)
theorem PB.mono {K M M' : Nat} {p : Pt} (h : PB K M p) (hM : M ≤ M') : PB K M' p := ⟨h.1.mono hM, h.2.mono hM⟩
theorem c114 (p q : Pt) {K M M' : Nat} (h : PB K M p) (h' : PB K M' q) (hK : K ≤ 60) (hM : M + M' ≤ 4611686018427387904) : PC E 114 [.agg (encP p), .agg (encP q)] [.agg (encP (pminus p q))] := by
  refine PC_start hE Proofs.Tryd.func114 rfl rfl Proofs.Tryd.ntmps114 (by kernel_rfl) (by kernel_rfl) (by simp) ?_
  simp (maxSteps := 1000000) (disch := first | (exact DrawOk.mk (by kernel_rfl)) | omega | simp) [wrap_i64, le_most, lt_omega, le_omega, ne_omega, allLen, encP]
  refine CallK.of (c129 p.x q.x h.1 h'.1 hK hM) (by first | exact .inl rfl | exact .inr (by simp)) (by simp) ?_
  simp (maxSteps := 1000000) (disch := first | (exact DrawOk.mk (by kernel_rfl)) | omega | simp) [wrap_i64, le_most, lt_omega, le_omega, ne_omega, allLen, encP]
  refine CallK.of (c129 p.y q.y h.2 h'.2 hK hM) (by first | exact .inl rfl | exact .inr (by simp)) (by simp) ?_
  simp (maxSteps := 1000000) (disch := first | (exact DrawOk.mk (by kernel_rfl)) | omega | simp) [wrap_i64, le_most, lt_omega, le_omega, ne_omega, allLen, encN, pminus]
theorem c115 (p q : Pt) {K K' M M' : Nat} (h : PB K M p) (h' : PB K' M' q) (hK : K + K' ≤ 60) (hM : 6 * (M * M') ≤ 4611686018427387904) (h2 : M ≤ 2305843009213693952) :
    PC E 115 [.agg (encP p), .agg (encP q)] [.agg (encN (pcross p q))] := by
  refine PC_start hE Proofs.Tryd.func115 rfl rfl Proofs.Tryd.ntmps115 (by kernel_rfl) (by kernel_rfl) (by simp) ?_
  simp (maxSteps := 1000000) (disch := first | (exact DrawOk.mk (by kernel_rfl)) | omega | simp) [wrap_i64, le_most, lt_omega, le_omega, ne_omega, allLen, encP]
  refine CallK.of (c130 p.x q.y h.1 h'.2 hK (by omega) h2) (by first | exact .inl rfl | exact .inr (by simp)) (by simp) ?_
  simp (maxSteps := 1000000) (disch := first | (exact DrawOk.mk (by kernel_rfl)) | omega | simp) [wrap_i64, le_most, lt_omega, le_omega, ne_omega, allLen, encP]
  refine CallK.of (c130 p.y q.x h.2 h'.1 hK (by omega) h2) (by first | exact .inl rfl | exact .inr (by simp)) (by simp) ?_
  simp (maxSteps := 1000000) (disch := first | (exact DrawOk.mk (by kernel_rfl)) | omega | simp) [wrap_i64, le_most, lt_omega, le_omega, ne_omega, allLen, encP]
  refine CallK.of (c129 (nmul p.x q.y) (nmul p.y q.x) (h.1.mul h'.2) (h.2.mul h'.1) hK (by omega)) (by first | exact .inl rfl | exact .inr (by simp)) (by simp) ?_
  simp (maxSteps := 1000000) (disch := first | (exact DrawOk.mk (by kernel_rfl)) | omega | simp) [wrap_i64, le_most, lt_omega, le_omega, ne_omega, allLen, encN, pcross]
theorem c78 (p q : Pt) {K M M' : Nat} (h : PB K M p) (h' : PB K M' q) (hK : K ≤ 60) (hM : M + M' ≤ 4611686018427387904) : PC E 78 [.agg (encP p), .agg (encP q)] [.agg (encP (pminus p q))] := by
  refine PC_start hE Proofs.Tryd.func78 rfl rfl Proofs.Tryd.ntmps78 (by kernel_rfl) (by kernel_rfl) (by simp) ?_
  simp (maxSteps := 1000000) (disch := first | (exact DrawOk.mk (by kernel_rfl)) | omega | simp) [wrap_i64, le_most, lt_omega, le_omega, ne_omega, allLen, encP]
  refine CallK.of (c87 p.x q.x h.1 h'.1 hK hM) (by first | exact .inl rfl | exact .inr (by simp)) (by simp) ?_
  simp (maxSteps := 1000000) (disch := first | (exact DrawOk.mk (by kernel_rfl)) | omega | simp) [wrap_i64, le_most, lt_omega, le_omega, ne_omega, allLen, encP]
  refine CallK.of (c87 p.y q.y h.2 h'.2 hK hM) (by first | exact .inl rfl | exact .inr (by simp)) (by simp) ?_
  simp (maxSteps := 1000000) (disch := first | (exact DrawOk.mk (by kernel_rfl)) | omega | simp) [wrap_i64, le_most, lt_omega, le_omega, ne_omega, allLen, encN, pminus]
def nz (x : Nu) : Bool := decide (x.a = 0) && decide (x.b = 0)
theorem c107 (x : Nu) : PC E 107 [.agg (encN x)] [.i (.bool (nz x))] := by
  refine PC_start hE Proofs.Tryd.func107 rfl rfl Proofs.Tryd.ntmps107 (by kernel_rfl) (by kernel_rfl) (by simp) ?_
  simp (maxSteps := 1000000) (disch := first | (exact DrawOk.mk (by kernel_rfl)) | omega | simp) [wrap_i64, le_most, lt_omega, le_omega, ne_omega, allLen, encN, nz]
  (first | refine Gd.dec (fun h1 => ?_) (fun h1 => ?_) | refine Gd.intro (fun h1 => ?_) (fun h1 => ?_)) <;> simp (maxSteps := 1000000) (disch := first | (exact DrawOk.mk (by kernel_rfl)) | omega | simp) [wrap_i64, le_most, lt_omega, le_omega, ne_omega, allLen, h1]
/-! ### Directions -/
theorem vec_turn {d : Int} (h0 : 0 ≤ d) (h1 : d ≤ 15) : vec ((d + 4) % 16) = ⟨nneg (vec d).y, (vec d).x⟩ := by
  rcases dir16 h0 h1 with rfl | rfl | rfl | rfl | rfl | rfl | rfl | rfl | rfl | rfl | rfl | rfl | rfl | rfl | rfl | rfl <;> decide
theorem dot_turn {d : Int} (h0 : 0 ≤ d) (h1 : d ≤ 15) (w : Pt) : ndot (vec ((d + 4) % 16)) w = pcross (vec d) w := by
  rw [vec_turn h0 h1]
  unfold ndot pcross nsub
  simp only
  rw [nmul_neg_l, nadd_comm]
theorem nz_low {x : Nu} (h : low x = x) : nz x = decide (x = ⟨0, 0, 0⟩) := by
  rw [Bool.eq_iff_iff]
  simp only [nz, Bool.and_eq_true, decide_eq_true_eq]
  constructor
  · intro hz
    rw [← h]; unfold low; rw [if_pos hz]
  · rintro rfl; exact ⟨rfl, rfl⟩
theorem low_nsub {x y : Nu} (h : 0 ≤ x.k) : low (nsub x y) = nsub x y := low_nadd h
/-- Does a vector have a direction? -/
def isDir (w : Pt) (d : Nat) : Bool := decide (pcross (vec d) w = ⟨0, 0, 0⟩) && decide (0 < nsign (ndot (vec d) w))
def dirR (w : Pt) : Int := match (List.range 16).find? (isDir w) with
  | some d => d
  | none => -1
theorem dirR_at {w : Pt} {d : Nat} (hd : d < 16) (h : isDir w d = true) (hno : ∀ j, j < d → isDir w j = false) : dirR w = d := by
  have : (List.range 16).find? (isDir w) = some d := by
    rw [List.find?_range_eq_some]
    exact ⟨h, by simpa using hd, fun j hj => by simpa using hno j hj⟩
  simp [dirR, this]
theorem dirR_none {w : Pt} (hno : ∀ j, j < 16 → isDir w j = false) : dirR w = -1 := by
  have : (List.range 16).find? (isDir w) = none := by
    rw [List.find?_eq_none]
    intro j hj
    simp [hno j (by simpa using hj)]
  simp [dirR, this]
theorem dirR_range (w : Pt) : -1 ≤ dirR w ∧ dirR w ≤ 15 := by
  unfold dirR
  split
  · rename_i d h
    have := List.mem_of_find?_eq_some h
    simp at this; omega
  · omega
theorem not_step {p : Nat → Bool} {k : Nat} (h : ∀ j, j < k → p j = false) (hk : p k = false) : ∀ j, j < k + 1 → p j = false := fun j hj => by
  rcases Nat.lt_succ_iff_lt_or_eq.1 hj with h1 | rfl
  · exact h j h1
  · exact hk
theorem c90 (p q : Pt) {K M M' : Nat} (h : PB K M q) (h' : PB K M' p) (hK : K ≤ 60) (hM : 6 * (M + M') ≤ 4611686018427387904) : PC E 90 [.agg (encP p), .agg (encP q)] [.i (.int .i64 (dirR (pminus q p)))] := by
  refine PC_start hE Proofs.Tryd.func90 rfl rfl Proofs.Tryd.ntmps90 (by kernel_rfl) (by kernel_rfl) (by simp) ?_
  have hw := h.minus h'
  simp (maxSteps := 1000000) (disch := first | (exact DrawOk.mk (by kernel_rfl)) | omega | simp) [wrap_i64, le_most, lt_omega, le_omega, ne_omega, allLen]
  refine CallK.of (c114 q p h h' hK (by omega)) (by first | exact .inl rfl | exact .inr (by simp)) (by simp) ?_
  simp (maxSteps := 1000000) (disch := first | (exact DrawOk.mk (by kernel_rfl)) | omega | simp) [wrap_i64, le_most, lt_omega, le_omega, ne_omega, allLen]
  generalize pminus q p = w at *
  refine XL.by hE (ι := { d : Nat // d ≤ 16 ∧ ∀ j, j < d → isDir w j = false }) (fun d => ⟨[(5, .ptr 5 0 0), (11, .i (.int .i64 d.1))], [(5, ⟨6, [encP w]⟩)]⟩)
    (fun d => 16 - d.1) ⟨0, by omega, fun j hj => by omega⟩ ⟨by simp, by simp, by simp⟩ (by kernel_rfl) ?_
  rintro ⟨d, hd, hno⟩
  by_cases hlt : d < 16
  · have hlt' : (d : Int) < 16 := by omega
    have hv := vec_PB (d := (d : Int)) (by omega) (by omega)
    have hdd := hv.dot hw
    simp only [Nat.zero_add, Nat.one_mul] at hdd
    simp (maxSteps := 1000000) (disch := first | (exact DrawOk.mk (by kernel_rfl)) | omega | simp) [wrap_i64, le_most, lt_omega, le_omega, ne_omega, allLen, hlt']
    refine CallK.of (c94 (d : Int) (by omega) (by omega)) (by first | exact .inl rfl | exact .inr (by simp)) (by simp) ?_
    simp (maxSteps := 1000000) (disch := first | (exact DrawOk.mk (by kernel_rfl)) | omega | simp) [wrap_i64, le_most, lt_omega, le_omega, ne_omega, allLen]
    refine CallK.of (c115 (vec d) w hv hw (by omega) (by omega) (by decide)) (by first | exact .inl rfl | exact .inr (by simp)) (by simp) ?_
    have e0 : ([.int .i64 0, .int .i64 0, .int .i64 0] : List IV) = encN ⟨0, 0, 0⟩ := rfl
    simp (maxSteps := 1000000) (disch := first | (exact DrawOk.mk (by kernel_rfl)) | omega | simp) [wrap_i64, le_most, lt_omega, le_omega, ne_omega, allLen]
    rw [e0]
    simp (maxSteps := 1000000) (disch := first | (exact DrawOk.mk (by kernel_rfl)) | omega | simp) [wrap_i64, le_most, lt_omega, le_omega, ne_omega, allLen]
    (first | refine Gd.dec (fun h1 => ?_) (fun h1 => ?_) | refine Gd.intro (fun h1 => ?_) (fun h1 => ?_)) <;> simp (maxSteps := 1000000) (disch := first | (exact DrawOk.mk (by kernel_rfl)) | omega | simp) [wrap_i64, le_most, lt_omega, le_omega, ne_omega, allLen, h1]
    · refine CallK.of (c116 (vec d) w hv hw (by omega) (by omega) (by decide)) (by first | exact .inl rfl | exact .inr (by simp)) (by simp) ?_
      simp (maxSteps := 1000000) (disch := first | (exact DrawOk.mk (by kernel_rfl)) | omega | simp) [wrap_i64, le_most, lt_omega, le_omega, ne_omega, allLen]
      refine CallK.of (c117 _ (hdd.i64 (by omega) (by omega)) (hdd.ne (by omega)).1 (hdd.ne (by omega)).2) (by first | exact .inl rfl | exact .inr (by simp)) (by simp) ?_
      simp (maxSteps := 1000000) (disch := first | (exact DrawOk.mk (by kernel_rfl)) | omega | simp) [wrap_i64, le_most, lt_omega, le_omega, ne_omega, allLen]
      (first | refine Gd.dec (fun h2 => ?_) (fun h2 => ?_) | refine Gd.intro (fun h2 => ?_) (fun h2 => ?_)) <;> simp (maxSteps := 1000000) (disch := first | (exact DrawOk.mk (by kernel_rfl)) | omega | simp) [wrap_i64, le_most, lt_omega, le_omega, ne_omega, allLen, h2]
      · rw [dirR_at hlt (by simp [isDir, h1, h2]) hno]
      · (refine ⟨⟨d + 1, by omega, not_step hno (by simp [isDir, h2])⟩, by (simp; try omega), ?_⟩; constructor <;> (simp (maxSteps := 1000000) (disch := first | (exact DrawOk.mk (by kernel_rfl)) | omega | simp) [wrap_i64, le_most, lt_omega, le_omega, ne_omega, allLen]) <;> (try omega))
    · (refine ⟨⟨d + 1, by omega, not_step hno (by simp [isDir, h1])⟩, by (simp; try omega), ?_⟩; constructor <;> (simp (maxSteps := 1000000) (disch := first | (exact DrawOk.mk (by kernel_rfl)) | omega | simp) [wrap_i64, le_most, lt_omega, le_omega, ne_omega, allLen]) <;> (try omega))
  · have hlt' : ¬ (d : Int) < 16 := by omega
    simp (maxSteps := 1000000) (disch := first | (exact DrawOk.mk (by kernel_rfl)) | omega | simp) [wrap_i64, le_most, lt_omega, le_omega, ne_omega, allLen, hlt']
    rw [dirR_none fun j hj => hno j (by omega)]
end Go.Vai
set_option linter.unusedVariables false
set_option linter.unusedSimpArgs false
set_option maxHeartbeats 4000000
namespace Go.Vai
theorem c77 (w : Pt) {K M : Nat} (hw : PB K M w) (hK : K ≤ 60) (hM : 6 * M ≤ 4611686018427387904) : PC E 77 [.agg (encP w)] [.i (.int .i64 (dirR w))] := by
  refine PC_start hE Proofs.Tryd.func77 rfl rfl Proofs.Tryd.ntmps77 (by kernel_rfl) (by kernel_rfl) (by simp) ?_
  simp (maxSteps := 1000000) (disch := first | (exact DrawOk.mk (by kernel_rfl)) | omega | simp) [wrap_i64, le_most, lt_omega, le_omega, ne_omega, allLen]
  refine XL.by hE (ι := { d : Nat // d ≤ 16 ∧ ∀ j, j < d → isDir w j = false }) (fun d => ⟨[(1, .ptr 1 0 0), (3, .i (.int .i64 d.1))], [(1, ⟨6, [encP w]⟩)]⟩)
    (fun d => 16 - d.1) ⟨0, by omega, fun j hj => by omega⟩ ⟨by simp, by simp, by simp⟩ (by kernel_rfl) ?_
  rintro ⟨d, hd, hno⟩
  by_cases hlt : d < 16
  · have hlt' : (d : Int) < 16 := by omega
    have hv := vec_PB (d := (d : Int)) (by omega) (by omega)
    have hdd := hv.dot hw
    simp only [Nat.zero_add, Nat.one_mul] at hdd
    have hz : nz (ndot (vec (((d : Int) + 4) % 16)) w) = decide (pcross (vec d) w = ⟨0, 0, 0⟩) := by
      rw [dot_turn (by omega) (by omega)]
      exact nz_low (low_nsub (hv.1.mul hw.2).k0)
    have hm : ((d : Int)) % 16 = d := by omega
    simp (maxSteps := 1000000) (disch := first | (exact DrawOk.mk (by kernel_rfl)) | omega | simp) [wrap_i64, le_most, lt_omega, le_omega, ne_omega, allLen, hlt']
    refine CallK.of (c82 ((d : Int) + 4) w hw hK hM (by omega) (by omega)) (by first | exact .inl rfl | exact .inr (by simp)) (by simp) ?_
    simp (maxSteps := 1000000) (disch := first | (exact DrawOk.mk (by kernel_rfl)) | omega | simp) [wrap_i64, le_most, lt_omega, le_omega, ne_omega, allLen]
    refine CallK.of (c107 (ndot (vec (((d : Int) + 4) % 16)) w)) (by first | exact .inl rfl | exact .inr (by simp)) (by simp) ?_
    rw [hz]
    simp (maxSteps := 1000000) (disch := first | (exact DrawOk.mk (by kernel_rfl)) | omega | simp) [wrap_i64, le_most, lt_omega, le_omega, ne_omega, allLen]
    (first | refine Gd.dec (fun h1 => ?_) (fun h1 => ?_) | refine Gd.intro (fun h1 => ?_) (fun h1 => ?_)) <;> simp (maxSteps := 1000000) (disch := first | (exact DrawOk.mk (by kernel_rfl)) | omega | simp) [wrap_i64, le_most, lt_omega, le_omega, ne_omega, allLen, h1]
    · refine CallK.of (c82 (d : Int) w hw hK hM (by omega) (by omega)) (by first | exact .inl rfl | exact .inr (by simp)) (by simp) ?_
      rw [hm]
      simp (maxSteps := 1000000) (disch := first | (exact DrawOk.mk (by kernel_rfl)) | omega | simp) [wrap_i64, le_most, lt_omega, le_omega, ne_omega, allLen]
      refine CallK.of (c86 _ (hdd.i64 (by omega) (by omega)) (hdd.ne (by omega)).1 (hdd.ne (by omega)).2) (by first | exact .inl rfl | exact .inr (by simp)) (by simp) ?_
      simp (maxSteps := 1000000) (disch := first | (exact DrawOk.mk (by kernel_rfl)) | omega | simp) [wrap_i64, le_most, lt_omega, le_omega, ne_omega, allLen]
      (first | refine Gd.dec (fun h2 => ?_) (fun h2 => ?_) | refine Gd.intro (fun h2 => ?_) (fun h2 => ?_)) <;> simp (maxSteps := 1000000) (disch := first | (exact DrawOk.mk (by kernel_rfl)) | omega | simp) [wrap_i64, le_most, lt_omega, le_omega, ne_omega, allLen, h2]
      · rw [dirR_at hlt (by simp [isDir, h1, h2]) hno]
      · (refine ⟨⟨d + 1, by omega, not_step hno (by simp [isDir, h2])⟩, by (simp; try omega), ?_⟩; constructor <;> (simp (maxSteps := 1000000) (disch := first | (exact DrawOk.mk (by kernel_rfl)) | omega | simp) [wrap_i64, le_most, lt_omega, le_omega, ne_omega, allLen]) <;> (try omega))
    · (refine ⟨⟨d + 1, by omega, not_step hno (by simp [isDir, h1])⟩, by (simp; try omega), ?_⟩; constructor <;> (simp (maxSteps := 1000000) (disch := first | (exact DrawOk.mk (by kernel_rfl)) | omega | simp) [wrap_i64, le_most, lt_omega, le_omega, ne_omega, allLen]) <;> (try omega))
  · have hlt' : ¬ (d : Int) < 16 := by omega
    simp (maxSteps := 1000000) (disch := first | (exact DrawOk.mk (by kernel_rfl)) | omega | simp) [wrap_i64, le_most, lt_omega, le_omega, ne_omega, allLen, hlt']
    rw [dirR_none fun j hj => hno j (by omega)]
/-- The line through two points, and a code. -/
def thruC (p q : Pt) : Int := if (vP p && vP q) = false then 1 else if dirR (pminus q p) < 0 then 7 else if vN (lat p (dirR (pminus q p) % 8)).off = true then 0 else 2
def thruR (p q : Pt) : Li := if thruC p q = 0 then lat p (dirR (pminus q p) % 8) else ⟨0, ⟨0, 0, 0⟩⟩
theorem tmod8 {d : Int} (h : 0 ≤ d) : d.tmod 8 = d % 8 := Int.tmod_eq_emod_of_nonneg h
end Go.Vai
set_option linter.unusedVariables false
set_option linter.unusedSimpArgs false
set_option maxHeartbeats 4000000
namespace Go.Vai
/-! ### Feet, reflections -/
def sqE (d : Int) : Nat := if d % 4 = 0 then 0 else if d % 2 = 0 then 2 else 3
theorem sq_Dv {d : Int} (h0 : 0 ≤ d) (h1 : d ≤ 15) : Dv (ndot (vec d) (vec d)) 1 (sqE d) := by
  rcases dir16 h0 h1 with rfl | rfl | rfl | rfl | rfl | rfl | rfl | rfl | rfl | rfl | rfl | rfl | rfl | rfl | rfl | rfl <;>
    exact ⟨by decide, by decide, by decide, .inl rfl, by decide, by decide⟩
theorem ndiv_neg (x y : Nu) (s : Int) (e : Nat) : ndiv (nneg x) y s e = nneg (ndiv x y s e) := by
  unfold ndiv
  rw [← low_neg]
  simp only [nneg]
  congr 2
  · rw [← Int.mul_neg]; congr 1; simp only [Int.neg_mul]; omega
  · rw [← Int.mul_neg]; congr 1; simp only [Int.neg_mul]; omega
/-- A number over the square of a direction's vector. -/
def ndsq (x : Nu) (d : Int) : Nu := ndiv x (ndot (vec d) (vec d)) 1 (sqE d)
theorem NB.dsq {K M : Nat} {x : Nu} (h : NB K M x) {d : Int} (h0 : 0 ≤ d) (h1 : d ≤ 15) : NB (K + 3) (96 * M) (ndsq x d) := (h.div (sq_Dv h0 h1)).mono (by omega)
theorem PB.up {K K' M : Nat} {p : Pt} (h : PB K M p) (hK : K ≤ K') : PB K' (M * 2 ^ (K' - K)) p := ⟨h.1.up hK, h.2.up hK⟩
def footP (l : Li) : Pt := ptimes (vec (l.dir + 4)) (ndsq l.off (l.dir + 4))
theorem foot_PB {l : Li} {M : Nat} (h : NB 10 M l.off) (h0 : 0 ≤ l.dir) (h1 : l.dir ≤ 7) : PB 13 (288 * M) (footP l) := by
  have := (vec_PB (d := l.dir + 4) (by omega) (by omega)).times (h.dsq (d := l.dir + 4) (by omega) (by omega))
  simp only [Nat.zero_add, Nat.one_mul] at this
  exact this.mono (by omega)
def reflU (l : Li) (p : Pt) : Nu := ndsq (nsub l.off (ndot (vec (l.dir + 4)) p)) (l.dir + 4)
def reflP (l : Li) (p : Pt) : Pt := pplus p (ptimes (vec (l.dir + 4)) (nadd (reflU l p) (reflU l p)))
/-- The reference's way to reflect. -/
theorem refl_eq (l : Li) (p : Pt) : pminus p ⟨nmul (nadd (nneg (reflU l p)) (nneg (reflU l p))) (vec (l.dir + 4)).x, nmul (nadd (nneg (reflU l p)) (nneg (reflU l p))) (vec (l.dir + 4)).y⟩ = reflP l p := by
  unfold pminus reflP pplus ptimes nsub
  simp only [← nneg_nadd, nmul_neg_l, nneg_nneg]
  rw [nmul_comm _ (vec (l.dir + 4)).x, nmul_comm _ (vec (l.dir + 4)).y]
theorem andI_7 (a : Int) : andI .i64 a 7 = a % 8 := by
  unfold andI
  have hb : IntKind.i64.bits = 64 := rfl
  rw [hb]
  have h1 : (BitVec.ofInt 64 a &&& BitVec.ofInt 64 7).toNat = (a % 18446744073709551616).toNat % 8 := by
    rw [BitVec.toNat_and]
    have : (BitVec.ofInt 64 7).toNat = 2 ^ 3 - 1 := rfl
    rw [this, Nat.and_two_pow_sub_one_eq_mod, BitVec.toNat_ofInt]
    rfl
  rw [h1, wrap_i64] <;> omega
theorem andI_15 (a : Int) : andI .i64 a 15 = a % 16 := by
  unfold andI
  have hb : IntKind.i64.bits = 64 := rfl
  rw [hb]
  have h1 : (BitVec.ofInt 64 a &&& BitVec.ofInt 64 15).toNat = (a % 18446744073709551616).toNat % 16 := by
    rw [BitVec.toNat_and]
    have : (BitVec.ofInt 64 15).toNat = 2 ^ 4 - 1 := rfl
    rw [this, Nat.and_two_pow_sub_one_eq_mod, BitVec.toNat_ofInt]
    rfl
  rw [h1, wrap_i64] <;> omega
theorem c79 (p : Pt) (d : Int) {K M : Nat} (h : PB K M p) (hK : K ≤ 60) (hM : 6 * M ≤ 4611686018427387904) (h0 : -4611686018427387904 ≤ d) (h1 : d ≤ 4611686018427387904) :
    PC E 79 [.agg (encP p), .i (.int .i64 d)] [.agg (encLi (lat p (d % 8)))] := by
  refine PC_start hE Proofs.Tryd.func79 rfl rfl Proofs.Tryd.ntmps79 (by kernel_rfl) (by kernel_rfl) (by simp) ?_
  have e1 : (d % 16).tmod 8 = d % 8 := by rw [Int.tmod_eq_emod_of_nonneg (by omega)]; omega
  simp (maxSteps := 1000000) (disch := first | (exact DrawOk.mk (by kernel_rfl)) | omega | simp) [wrap_i64, le_most, lt_omega, le_omega, ne_omega, allLen]
  refine CallK.of (c67 d h0 h1) (by first | exact .inl rfl | exact .inr (by simp)) (by simp) ?_
  simp (maxSteps := 1000000) (disch := first | (exact DrawOk.mk (by kernel_rfl)) | omega | simp) [wrap_i64, le_most, lt_omega, le_omega, ne_omega, allLen, e1]
  refine CallK.of (c82 (d % 8 + 4) p h hK hM (by omega) (by omega)) (by first | exact .inl rfl | exact .inr (by simp)) (by simp) ?_
  rw [mod16 (d := d % 8 + 4) (by omega) (by omega)]
  simp (maxSteps := 1000000) (disch := first | (exact DrawOk.mk (by kernel_rfl)) | omega | simp) [wrap_i64, le_most, lt_omega, le_omega, ne_omega, allLen, encN, encLi, lat]
/-- A line reflected in a line. -/
def rlOk (l m : Li) : Bool := vL l && vL m && vN (lat (reflP l (footP m)) ((2 * l.dir - m.dir) % 8)).off
def rlR (l m : Li) : Li := if rlOk l m = true then lat (reflP l (footP m)) ((2 * l.dir - m.dir) % 8) else ⟨0, ⟨0, 0, 0⟩⟩
theorem vL_bound {l : Li} (h : vL l = true) : 0 ≤ l.dir ∧ l.dir ≤ 7 ∧ NB 10 134217728 l.off := by
  simp only [vL, Bool.and_eq_true, inB_iff] at h
  exact ⟨h.1.1, h.1.2, vN_bound h.2⟩
theorem refl_PB {l : Li} {p : Pt} {K M M' : Nat} (h : PB K M p) (h' : NB K M' l.off) (h0 : 0 ≤ l.dir) (h1 : l.dir ≤ 7) : PB (K + 3) (4000 * (M + M')) (reflP l p) := by
  have hv := vec_PB (d := l.dir + 4) (by omega) (by omega)
  have hd := hv.dot h
  simp only [Nat.zero_add, Nat.one_mul] at hd
  have hu := (h'.sub hd).dsq (d := l.dir + 4) (by omega) (by omega)
  have ht := hv.times (hu.add hu)
  simp only [Nat.zero_add, Nat.one_mul] at ht
  have hpu := h.up (K' := K + 3) (by omega)
  have e3 : K + 3 - K = 3 := by omega
  rw [e3] at hpu
  exact (hpu.plus ht).mono (by omega)
theorem NB.up13 {M : Nat} {x : Nu} (h : NB 10 M x) : NB 13 (8 * M) x := (h.up (K' := 13) (by decide)).mono (by simp; omega)
end Go.Vai
/- The values of numbers: a + b sqrt 2 with rational a and b. -/
set_option linter.unusedVariables false
set_option linter.unusedSimpArgs false
set_option maxHeartbeats 4000000
namespace Go.Vai
structure Q2 where
  a : Rat
  b : Rat
theorem Q2.ext' {x y : Q2} (h1 : x.a = y.a) (h2 : x.b = y.b) : x = y := by cases x; cases y; simp_all
namespace Q2
instance : Add Q2 := ⟨fun x y => ⟨x.a + y.a, x.b + y.b⟩⟩
instance : Mul Q2 := ⟨fun x y => ⟨x.a * y.a + 2 * (x.b * y.b), x.a * y.b + x.b * y.a⟩⟩
instance : Neg Q2 := ⟨fun x => ⟨-x.a, -x.b⟩⟩
instance : Sub Q2 := ⟨fun x y => ⟨x.a - y.a, x.b - y.b⟩⟩
instance : NatCast Q2 := ⟨fun n => ⟨(n : Rat), 0⟩⟩
instance : IntCast Q2 := ⟨fun n => ⟨(n : Rat), 0⟩⟩
instance (n : Nat) : OfNat Q2 n := ⟨⟨(n : Rat), 0⟩⟩
instance : SMul Nat Q2 := ⟨fun n x => ((n : Nat) : Q2) * x⟩
instance : SMul Int Q2 := ⟨fun n x => ((n : Int) : Q2) * x⟩
def pw : Q2 → Nat → Q2
  | _, 0 => ⟨1, 0⟩
  | x, n + 1 => pw x n * x
instance : HPow Q2 Nat Q2 := ⟨pw⟩
@[simp] theorem add_a (x y : Q2) : (x + y).a = x.a + y.a := rfl
@[simp] theorem add_b (x y : Q2) : (x + y).b = x.b + y.b := rfl
@[simp] theorem mul_a (x y : Q2) : (x * y).a = x.a * y.a + 2 * (x.b * y.b) := rfl
@[simp] theorem mul_b (x y : Q2) : (x * y).b = x.a * y.b + x.b * y.a := rfl
@[simp] theorem neg_a (x : Q2) : (-x).a = -x.a := rfl
@[simp] theorem neg_b (x : Q2) : (-x).b = -x.b := rfl
@[simp] theorem sub_a (x y : Q2) : (x - y).a = x.a - y.a := rfl
@[simp] theorem sub_b (x y : Q2) : (x - y).b = x.b - y.b := rfl
@[simp] theorem ofNat_a (n : Nat) : (OfNat.ofNat n : Q2).a = (n : Rat) := rfl
@[simp] theorem ofNat_b (n : Nat) : (OfNat.ofNat n : Q2).b = 0 := rfl
@[simp] theorem zero_a : (0 : Q2).a = 0 := by show ((0 : Nat) : Rat) = 0; rfl
@[simp] theorem zero_b : (0 : Q2).b = 0 := rfl
@[simp] theorem one_a : (1 : Q2).a = 1 := by show ((1 : Nat) : Rat) = 1; rfl
@[simp] theorem one_b : (1 : Q2).b = 0 := rfl
instance : Lean.Grind.CommRing Q2 where
  add_zero x := Q2.ext' (by simp; grind) (by simp; grind)
  add_comm x y := Q2.ext' (by simp; grind) (by simp; grind)
  add_assoc x y z := Q2.ext' (by simp; grind) (by simp; grind)
  mul_assoc x y z := Q2.ext' (by simp; grind) (by simp; grind)
  mul_one x := Q2.ext' (by simp; grind) (by simp; grind)
  one_mul x := Q2.ext' (by simp; grind) (by simp; grind)
  mul_comm x y := Q2.ext' (by simp; grind) (by simp; grind)
  left_distrib x y z := Q2.ext' (by simp; grind) (by simp; grind)
  right_distrib x y z := Q2.ext' (by simp; grind) (by simp; grind)
  zero_mul x := Q2.ext' (by simp; grind) (by simp; grind)
  mul_zero x := Q2.ext' (by simp; grind) (by simp; grind)
  pow_zero x := rfl
  pow_succ x n := rfl
  neg_add_cancel x := Q2.ext' (by simp; grind) (by simp; grind)
  sub_eq_add_neg x y := Q2.ext' (by simp; grind) (by simp; grind)
  ofNat_succ n := Q2.ext' (by show (((n + 1 : Nat)) : Rat) = (n : Rat) + ((1 : Nat) : Rat); simp) (by show (0 : Rat) = 0 + 0; grind)
  neg_zsmul i x := Q2.ext' (by show (((-i : Int)) : Rat) * x.a + 2 * (0 * x.b) = -(((i : Int) : Rat) * x.a + 2 * (0 * x.b)); grind) (by show (((-i : Int)) : Rat) * x.b + 0 * x.a = -(((i : Int) : Rat) * x.b + 0 * x.a); grind)
  intCast_neg i := Q2.ext' (by show (((-i : Int)) : Rat) = -((i : Int) : Rat); simp) (by show (0 : Rat) = -0; grind)
  zsmul_natCast_eq_nsmul n x := rfl
example (x y z : Q2) (h : x * y = z) (h2 : y * z = 1) : x * y * y = 1 := by grind
end Q2
end Go.Vai
/- The values of numbers: sums, products, quotients. -/
set_option linter.unusedVariables false
set_option linter.unusedSimpArgs false
set_option maxHeartbeats 4000000
namespace Go.Vai
def pr (k : Int) : Rat := ((pw k : Int) : Rat)
theorem pw_pos (k : Int) : 0 < pw k := by unfold pw; exact Int.pow_pos (by decide)
theorem pr_ne (k : Int) : pr k ≠ 0 := by
  unfold pr
  have := pw_pos k
  intro h
  have : pw k = 0 := by exact_mod_cast h
  omega
theorem pw_add {a b : Int} (h : 0 ≤ a) (h' : 0 ≤ b) : pw (a + b) = pw a * pw b := by
  unfold pw
  rw [Int.toNat_add h h', Int.pow_add]
theorem pr_add {a b : Int} (h : 0 ≤ a) (h' : 0 ≤ b) : pr (a + b) = pr a * pr b := by
  unfold pr; rw [pw_add h h']; push_cast; rfl
def val (x : Nu) : Q2 := ⟨x.a / pr x.k, x.b / pr x.k⟩
@[simp] theorem val_zero : val ⟨0, 0, 0⟩ = 0 := Q2.ext' (by simp [val]; grind) (by simp [val]; grind)
theorem val_scale (a b k : Int) (h : 0 ≤ k) (t : Nat) : val ⟨a * 2 ^ t, b * 2 ^ t, k + t⟩ = val ⟨a, b, k⟩ := by
  have e : pr (k + t) = pr k * ((2 ^ t : Int) : Rat) := by
    rw [pr_add h (by omega)]; congr 1
  have h1 := pr_ne k
  have h2 : ((2 ^ t : Int) : Rat) ≠ 0 := by
    intro hh
    have : (2 ^ t : Int) = 0 := by exact_mod_cast hh
    have := Int.pow_pos (n := 2) (m := t) (by decide)
    omega
  apply Q2.ext'
  · simp only [val, e]; push_cast at *; grind
  · simp only [val, e]; push_cast at *; grind
theorem val_low {x : Nu} (h : 0 ≤ x.k) : val (low x) = val x := by
  unfold low
  split
  · rename_i hz
    obtain ⟨a, b, k⟩ := x
    simp only at hz
    obtain ⟨rfl, rfl⟩ := hz
    apply Q2.ext' <;> simp [val] <;> grind
  · obtain ⟨t, h1, h2, h3⟩ := lowF_form x.k.toNat x rfl h
    have hk : 0 ≤ (lowF x.k.toNat x).k := (lowF_k rfl h).1
    have := val_scale (lowF x.k.toNat x).a (lowF x.k.toNat x).b (lowF x.k.toNat x).k hk t
    rw [← h1, ← h2, ← h3] at this
    exact this.symm
theorem val_nadd {x y : Nu} (h : 0 ≤ x.k) (h' : 0 ≤ y.k) : val (nadd x y) = val x + val y := by
  unfold nadd
  rw [val_low (by simp only; omega)]
  have e1 : pr (max x.k y.k) = pr (max x.k y.k - x.k) * pr x.k := by rw [← pr_add (by omega) h]; congr 1; omega
  have e2 : pr (max x.k y.k) = pr (max x.k y.k - y.k) * pr y.k := by rw [← pr_add (by omega) h']; congr 1; omega
  have n1 := pr_ne x.k
  have n2 := pr_ne y.k
  have n3 := pr_ne (max x.k y.k)
  apply Q2.ext'
  · simp only [val, Q2.add_a]
    rw [show ((x.a * pw (max x.k y.k - x.k) + y.a * pw (max x.k y.k - y.k) : Int) : Rat) = (x.a : Rat) * pr (max x.k y.k - x.k) + (y.a : Rat) * pr (max x.k y.k - y.k) by unfold pr; push_cast; rfl]
    grind
  · simp only [val, Q2.add_b]
    rw [show ((x.b * pw (max x.k y.k - x.k) + y.b * pw (max x.k y.k - y.k) : Int) : Rat) = (x.b : Rat) * pr (max x.k y.k - x.k) + (y.b : Rat) * pr (max x.k y.k - y.k) by unfold pr; push_cast; rfl]
    grind
theorem val_nneg (x : Nu) : val (nneg x) = -val x := by
  apply Q2.ext' <;> simp [val, nneg] <;> grind
theorem val_nsub {x y : Nu} (h : 0 ≤ x.k) (h' : 0 ≤ y.k) : val (nsub x y) = val x - val y := by
  unfold nsub
  rw [val_nadd h (show 0 ≤ (nneg y).k from h'), val_nneg]; grind
theorem val_nmul {x y : Nu} (h : 0 ≤ x.k) (h' : 0 ≤ y.k) : val (nmul x y) = val x * val y := by
  unfold nmul
  rw [val_low (by simp only; omega)]
  have e := pr_add h h'
  have n1 := pr_ne x.k
  have n2 := pr_ne y.k
  apply Q2.ext'
  · simp only [val, Q2.mul_a, e]; push_cast; grind
  · simp only [val, Q2.mul_b, e]; push_cast; grind
/-- A quotient times its divisor. -/
theorem val_ndiv {x y : Nu} {s : Int} {e : Nat} (h : 0 ≤ x.k) (hy : Dv y s e) : val (ndiv x y s e) * val y = val x := by
  unfold ndiv
  rw [val_low (by simp only; omega)]
  have e1 : pr (x.k + e) = pr x.k * ((2 ^ e : Int) : Rat) := by rw [pr_add h (by omega)]; congr 1
  have hk := hy.dk
  have e0 : pr y.k = 1 := by rw [hk]; rfl
  have n1 := pr_ne x.k
  have n2 : ((2 ^ e : Int) : Rat) ≠ 0 := by
    intro hh
    have : (2 ^ e : Int) = 0 := by exact_mod_cast hh
    have := Int.pow_pos (n := 2) (m := e) (by decide)
    omega
  have hs : (s : Rat) * s = 1 := by rcases hy.ds with rfl | rfl <;> grind
  have hn : (y.a : Rat) * y.a - 2 * (y.b * y.b) = s * ((2 ^ e : Int) : Rat) := by
    have := hy.dn
    exact_mod_cast congrArg (fun z : Int => (z : Rat)) this
  generalize ((2 ^ e : Int) : Rat) = w at *
  apply Q2.ext'
  · simp only [val, Q2.mul_a, e0, e1]; push_cast; grind
  · simp only [val, Q2.mul_b, e0, e1]; push_cast; grind
theorem val_inj {x y : Nu} (h : 0 ≤ x.k) (h' : 0 ≤ y.k) (hx : low x = x) (hy : low y = y) (he : val x = val y) : x = y := by
  have main : ∀ {x y : Nu}, 0 ≤ x.k → 0 ≤ y.k → low x = x → low y = y → val x = val y → x.k ≤ y.k → x = y := by
    intro x y h h' hx hy he hk
    obtain ⟨t, ht⟩ : ∃ t : Nat, y.k = x.k + t := ⟨(y.k - x.k).toNat, by omega⟩
    have e : pr y.k = pr x.k * ((2 ^ t : Int) : Rat) := by rw [ht, pr_add h (by omega)]; congr 1
    have n1 := pr_ne x.k
    have n2 := pr_ne y.k
    have ha : (x.a : Rat) / pr x.k = y.a / pr y.k := congrArg Q2.a he
    have hb : (x.b : Rat) / pr x.k = y.b / pr y.k := congrArg Q2.b he
    have ha' : y.a = x.a * 2 ^ t := by
      have : (y.a : Rat) = ((x.a * 2 ^ t : Int) : Rat) := by
        rw [e] at ha n2
        push_cast at *
        grind
      exact_mod_cast this
    have hb' : y.b = x.b * 2 ^ t := by
      have : (y.b : Rat) = ((x.b * 2 ^ t : Int) : Rat) := by
        rw [e] at hb n2
        push_cast at *
        grind
      exact_mod_cast this
    have := low_scale x.a x.b x.k h t
    rw [← ha', ← hb', ← ht] at this
    have hyy : (⟨y.a, y.b, y.k⟩ : Nu) = y := rfl
    have hxx : (⟨x.a, x.b, x.k⟩ : Nu) = x := rfl
    rw [hyy, hxx, hx, hy] at this
    exact this.symm
  rcases Int.le_total x.k y.k with hk | hk
  · exact main h h' hx hy he hk
  · exact (main h' h hy hx he.symm hk).symm
theorem val_eq_zero {x : Nu} : val x = 0 ↔ x.a = 0 ∧ x.b = 0 := by
  have n1 := pr_ne x.k
  constructor
  · intro h
    have ha : (x.a : Rat) / pr x.k = 0 := congrArg Q2.a h
    have hb : (x.b : Rat) / pr x.k = 0 := congrArg Q2.b h
    have ha' : (x.a : Rat) = 0 := by grind
    have hb' : (x.b : Rat) = 0 := by grind
    exact ⟨by exact_mod_cast ha', by exact_mod_cast hb'⟩
  · rintro ⟨h1, h2⟩
    apply Q2.ext' <;> simp [val, h1, h2] <;> grind
theorem sgn_zero {n : Int} : sgn n = 0 ↔ n = 0 := by
  unfold sgn
  split
  · constructor <;> intro <;> omega
  · split
    · constructor <;> intro <;> omega
    · constructor <;> intro <;> omega
theorem nsign_zero {x : Nu} : nsign x = 0 ↔ val x = 0 := by
  rw [val_eq_zero]
  unfold nsign
  constructor
  · intro h
    split at h
    · rename_i hc
      have h0 := sgn_zero.1 h
      rcases hc with hc | hc
      · rw [h] at hc; exact ⟨h0, sgn_zero.1 hc.symm⟩
      · exact ⟨h0, sgn_zero.1 hc⟩
    · rename_i hc
      split at h
      · exact absurd (.inr h) hc
      · rename_i hd
        exact absurd (.inl h) hd
  · rintro ⟨h1, h2⟩
    simp [h1, h2, sgn]
theorem nsub_zero {x y : Nu} (h : 0 ≤ x.k) (h' : 0 ≤ y.k) (hx : low x = x) (hy : low y = y) : nsign (nsub x y) = 0 ↔ x = y := by
  rw [nsign_zero, val_nsub h h']
  constructor
  · intro he; exact val_inj h h' hx hy (by grind)
  · rintro rfl; grind
end Go.Vai
/- Lists of points put together: slices.Grow of nothing, slices.Concat. -/
set_option linter.unusedVariables false
set_option linter.unusedSimpArgs false
set_option maxHeartbeats 4000000
namespace Go.Vai
theorem c135 (n : Int) (h0 : 0 ≤ n) (h1 : n ≤ 1099511627776) : PC E 135 [.esl, .i (.int .i64 n)] [.own 6 []] := by
  refine PC_start hE Proofs.Tryd.func135 rfl rfl Proofs.Tryd.ntmps135 (by kernel_rfl) (by kernel_rfl) (by simp) ?_
  have w0 : IntKind.i64.wrap 0 = 0 := by decide
  have w1 : IntKind.i64.wrap n = n := wrap_i64 (by omega) (by omega)
  have c0 : (0 : Int) - 0 = 0 := rfl
  simp (maxSteps := 1000000) (disch := first | (exact DrawOk.mk (by kernel_rfl)) | omega | simp) [wrap_i64, le_most, lt_omega, le_omega, ne_omega, allLen, show ¬ (n < 0) by omega, w0, w1]
  have hm1 : n ≤ most := by unfold most; omega
  have hm2 : 48 * n ≤ most := by unfold most; omega
  (first | refine Gd.dec (fun h2 => ?_) (fun h2 => ?_) | refine Gd.intro (fun h2 => ?_) (fun h2 => ?_)) <;> simp (maxSteps := 1000000) (disch := first | (exact DrawOk.mk (by kernel_rfl)) | omega | simp) [wrap_i64, le_most, lt_omega, le_omega, ne_omega, allLen, h2]
def encPs (l : List Pt) : List (List IV) := l.map encP
@[simp] theorem encPs_length (l : List Pt) : (encPs l).length = l.length := by simp [encPs]
def encPL (l : List Pt) : List IV := [.sl (encPs l)]
def sumLen (L : List (List Pt)) : Nat := (L.map List.length).sum
theorem sumLen_take {L : List (List Pt)} {k : Nat} (h : k < L.length) : sumLen (L.take (k + 1)) = sumLen (L.take k) + L[k].length := by
  unfold sumLen
  rw [List.take_succ_eq_append_getElem h, List.map_append, List.sum_append]
  simp
theorem sumLen_le (L : List (List Pt)) (k : Nat) : sumLen (L.take k) ≤ sumLen L := by
  have : sumLen L = sumLen (L.take k) + sumLen (L.drop k) := by
    unfold sumLen
    rw [← List.sum_append, ← List.map_append, List.take_append_drop]
  omega
theorem flat_take {L : List (List Pt)} {k : Nat} (h : k < L.length) : (L.take (k + 1)).flatten = (L.take k).flatten ++ L[k] := by
  rw [List.take_succ_eq_append_getElem h, List.flatten_append]
  simp
theorem flat_len (L : List (List Pt)) : L.flatten.length = sumLen L := by simp [sumLen, List.length_flatten]
theorem encPs_append (a b : List Pt) : encPs (a ++ b) = encPs a ++ encPs b := by simp [encPs]
theorem take_flat (L : List (List Pt)) : (encPs L.flatten).take (sumLen L) = encPs L.flatten := List.take_of_length_le (by rw [encPs_length, flat_len]; exact Nat.le_refl _)
theorem mem_encPs (l : List Pt) : (∀ x ∈ encPs l, x.length = 6) = True := by
  simp [encPs, encP]
theorem c126 (L : List (List Pt)) (hl : (L.length : Int) ≤ 1048576) (h : (sumLen L : Int) ≤ 1099511627776) : PC E 126 [.i (.sl (L.map encPL))] [.own 6 (encPs L.flatten)] := by
  refine PC_start hE Proofs.Tryd.func126 rfl rfl Proofs.Tryd.ntmps126 (by kernel_rfl) (by kernel_rfl) (by simp) ?_
  simp (maxSteps := 1000000) (disch := first | (exact DrawOk.mk (by kernel_rfl)) | omega | simp) [wrap_i64, le_most, lt_omega, le_omega, ne_omega, allLen]
  refine XL.by hE (ι := { k : Nat // k ≤ L.length }) (fun k => ⟨[(0, .i (.sl (L.map encPL))), (3, .i (.int .i64 (sumLen (L.take k.1)))), (9, .i (.sl (L.map encPL))), (10, .i (.int .i64 L.length)), (11, .i (.int .i64 k.1))], []⟩)
    (fun k => L.length - k.1) ⟨0, Nat.zero_le _⟩ ⟨by simp [sumLen], by simp, by simp⟩ (by kernel_rfl) ?_
  rintro ⟨k, hk⟩
  have hsk := sumLen_le L k
  by_cases hlt : k < L.length
  · have hsk1 := sumLen_le L (k + 1)
    rw [sumLen_take hlt] at hsk1
    have hw : IntKind.i64.wrap ((sumLen (L.take k) : Int) + L[k].length) = ((sumLen (L.take k) + L[k].length : Nat) : Int) := by rw [wrap_i64 (by omega) (by omega)]; simp
    simp (maxSteps := 1000000) (disch := first | (exact DrawOk.mk (by kernel_rfl)) | omega | simp) [wrap_i64, le_most, lt_omega, le_omega, ne_omega, allLen, hlt, encPL, hw, show ¬ ((sumLen (L.take k) : Int) + L[k].length < 0) by omega]
    (refine ⟨⟨k + 1, by omega⟩, by (simp; try omega), ?_⟩; constructor <;> (simp (maxSteps := 1000000) (disch := first | (exact DrawOk.mk (by kernel_rfl)) | omega | simp) [wrap_i64, le_most, lt_omega, le_omega, ne_omega, allLen, sumLen_take hlt]) <;> (try omega))
  · obtain rfl : k = L.length := by omega
    simp (maxSteps := 1000000) (disch := first | (exact DrawOk.mk (by kernel_rfl)) | omega | simp) [wrap_i64, le_most, lt_omega, le_omega, ne_omega, allLen]
    refine CallK.of (c135 (sumLen L) (by omega) (by omega)) (by first | exact .inl rfl | exact .inr (by simp)) (by simp) ?_
    simp (maxSteps := 1000000) (disch := first | (exact DrawOk.mk (by kernel_rfl)) | omega | simp) [wrap_i64, le_most, lt_omega, le_omega, ne_omega, allLen]
    refine XL.by hE (ι := { k : Nat // k ≤ L.length }) (fun k => ⟨[(6, .own 24 0 (sumLen (L.take k.1))), (25, .i (.sl (L.map encPL))), (26, .i (.int .i64 L.length)), (27, .i (.int .i64 k.1))], [(24, ⟨6, encPs (L.take k.1).flatten⟩)]⟩)
      (fun k => L.length - k.1) ⟨0, Nat.zero_le _⟩ ⟨by simp [sumLen], by simp [encPs], by simp⟩ (by kernel_rfl) ?_
    rintro ⟨k, hk2⟩
    have hsk := sumLen_le L k
    by_cases hlt : k < L.length
    · have hsk1 := sumLen_le L (k + 1)
      rw [sumLen_take hlt] at hsk1
      simp (maxSteps := 1000000) (disch := first | (exact DrawOk.mk (by kernel_rfl)) | omega | simp) [wrap_i64, le_most, lt_omega, le_omega, ne_omega, allLen, hlt, encPL, mem_encPs, most, show (sumLen (L.take k) : Int) + L[k].length ≤ 140737488355328 by omega, show ((sumLen (L.take k) : Int) + L[k].length) * 48 ≤ 140737488355328 by omega]
      (refine ⟨⟨k + 1, by omega⟩, by (simp; try omega), ?_⟩; constructor <;> (simp (maxSteps := 1000000) (disch := first | (exact DrawOk.mk (by kernel_rfl)) | omega | simp) [wrap_i64, le_most, lt_omega, le_omega, ne_omega, allLen, sumLen_take hlt, flat_take hlt, encPs_append, take_flat]) <;> (try omega))
    · obtain rfl : k = L.length := by omega
      simp (maxSteps := 1000000) (disch := first | (exact DrawOk.mk (by kernel_rfl)) | omega | simp) [wrap_i64, le_most, lt_omega, le_omega, ne_omega, allLen, take_flat]
end Go.Vai
