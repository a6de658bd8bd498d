import Derived.Test.YtahohbkjelhobaaDoorZn9
import Derived.Test.YtahohbkjelhobaaDoorZv5b
set_option linter.unusedVariables false
set_option linter.unusedSimpArgs false
set_option maxHeartbeats 4000000
namespace Go.Vai
@[simp] theorem eqlNu (x y : Nu) : eqOp E .eql 26 (encN x) (encN y) = some (.i (.bool (decide (x = y)))) := by
  obtain ⟨a, b, k⟩ := x
  obtain ⟨a', b', k'⟩ := y
  simp [encN, eqOp, eqA, eqFs, partA]
def pminus (p q : Pt) : Pt := ⟨nsub p.x q.x, nsub p.y q.y⟩
def pplus (p q : Pt) : Pt := ⟨nadd p.x q.x, nadd p.y q.y⟩
def ptimes (p : Pt) (t : Nu) : Pt := ⟨nmul p.x t, nmul p.y t⟩
def pcross (p q : Pt) : Nu := nsub (nmul p.x q.y) (nmul p.y q.x)
theorem PB.minus {K M M' : Nat} {p q : Pt} (h : PB K M p) (h' : PB K M' q) : PB K (M + M') (pminus p q) := ⟨h.1.sub h'.1, h.2.sub h'.2⟩
theorem PB.plus {K M M' : Nat} {p q : Pt} (h : PB K M p) (h' : PB K M' q) : PB K (M + M') (pplus p q) := ⟨h.1.add h'.1, h.2.add h'.2⟩
theorem PB.times {K K' M M' : Nat} {p : Pt} {t : Nu} (h : PB K M p) (h' : NB K' M' t) : PB (K + K') (3 * (M * M')) (ptimes p t) := ⟨h.1.mul h', h.2.mul h'⟩
theorem PB.cross {K K' M M' : Nat} {p q : Pt} (h : PB K M p) (h' : PB K' M' q) : NB (K + K') (6 * (M * M')) (pcross p q) :=
  ((h.1.mul h'.2).sub (h.2.mul h'.1)).mono (by omega)
theorem PB.mono {K M M' : Nat} {p : Pt} (h : PB K M p) (hM : M ≤ M') : PB K M' p := ⟨h.1.mono hM, h.2.mono hM⟩
theorem c63 (p q : Pt) {K M M' : Nat} (h : PB K M p) (h' : PB K M' q) (hK : K ≤ 60) (hM : M + M' ≤ 4611686018427387904) : PC E 63 [.agg (encP p), .agg (encP q)] [.agg (encP (pminus p q))] := by
  refine PC_start hE Proofs.Tryd.func63 rfl rfl Proofs.Tryd.ntmps63 (by kernel_rfl) (by kernel_rfl) (by simp) ?_
  simp (disch := first | omega | simp) [wrap_i64, le_most, lt_omega, le_omega, ne_omega, allLen, encP]
  refine CallK.of (c56 p.x q.x h.1 h'.1 hK hM) (by first | exact .inl rfl | exact .inr (by simp)) (by simp) ?_
  simp (disch := first | omega | simp) [wrap_i64, le_most, lt_omega, le_omega, ne_omega, allLen, encP]
  refine CallK.of (c56 p.y q.y h.2 h'.2 hK hM) (by first | exact .inl rfl | exact .inr (by simp)) (by simp) ?_
  simp (disch := first | omega | simp) [wrap_i64, le_most, lt_omega, le_omega, ne_omega, allLen, encN, pminus]
theorem c58 (p q : Pt) {K M M' : Nat} (h : PB K M p) (h' : PB K M' q) (hK : K ≤ 60) (hM : M + M' ≤ 4611686018427387904) : PC E 58 [.agg (encP p), .agg (encP q)] [.agg (encP (pplus p q))] := by
  refine PC_start hE Proofs.Tryd.func58 rfl rfl Proofs.Tryd.ntmps58 (by kernel_rfl) (by kernel_rfl) (by simp) ?_
  simp (disch := first | omega | simp) [wrap_i64, le_most, lt_omega, le_omega, ne_omega, allLen, encP]
  refine CallK.of (c60 p.x q.x h.1 h'.1 hK hM) (by first | exact .inl rfl | exact .inr (by simp)) (by simp) ?_
  simp (disch := first | omega | simp) [wrap_i64, le_most, lt_omega, le_omega, ne_omega, allLen, encP]
  refine CallK.of (c60 p.y q.y h.2 h'.2 hK hM) (by first | exact .inl rfl | exact .inr (by simp)) (by simp) ?_
  simp (disch := first | omega | simp) [wrap_i64, le_most, lt_omega, le_omega, ne_omega, allLen, encN, pplus]
theorem c59 (p : Pt) (t : Nu) {K K' M M' : Nat} (h : PB K M p) (h' : NB K' M' t) (hK : K + K' ≤ 60) (hM : 3 * (M * M') ≤ 4611686018427387904) (h2 : M ≤ 2305843009213693952) : PC E 59 [.agg (encP p), .agg (encN t)] [.agg (encP (ptimes p t))] := by
  refine PC_start hE Proofs.Tryd.func59 rfl rfl Proofs.Tryd.ntmps59 (by kernel_rfl) (by kernel_rfl) (by simp) ?_
  simp (disch := first | omega | simp) [wrap_i64, le_most, lt_omega, le_omega, ne_omega, allLen, encP]
  refine CallK.of (c72 p.x t h.1 h' hK hM h2) (by first | exact .inl rfl | exact .inr (by simp)) (by simp) ?_
  simp (disch := first | omega | simp) [wrap_i64, le_most, lt_omega, le_omega, ne_omega, allLen, encP]
  refine CallK.of (c72 p.y t h.2 h' hK hM h2) (by first | exact .inl rfl | exact .inr (by simp)) (by simp) ?_
  simp (disch := first | omega | simp) [wrap_i64, le_most, lt_omega, le_omega, ne_omega, allLen, encN, ptimes]
theorem c65 (p q : Pt) {K K' M M' : Nat} (h : PB K M p) (h' : PB K' M' q) (hK : K + K' ≤ 60) (hM : 6 * (M * M') ≤ 4611686018427387904) (h2 : M ≤ 2305843009213693952) :
    PC E 65 [.agg (encP p), .agg (encP q)] [.agg (encN (pcross p q))] := by
  refine PC_start hE Proofs.Tryd.func65 rfl rfl Proofs.Tryd.ntmps65 (by kernel_rfl) (by kernel_rfl) (by simp) ?_
  simp (disch := first | omega | simp) [wrap_i64, le_most, lt_omega, le_omega, ne_omega, allLen, encP]
  refine CallK.of (c72 p.x q.y h.1 h'.2 hK (by omega) h2) (by first | exact .inl rfl | exact .inr (by simp)) (by simp) ?_
  simp (disch := first | omega | simp) [wrap_i64, le_most, lt_omega, le_omega, ne_omega, allLen, encP]
  refine CallK.of (c72 p.y q.x h.2 h'.1 hK (by omega) h2) (by first | exact .inl rfl | exact .inr (by simp)) (by simp) ?_
  simp (disch := first | omega | simp) [wrap_i64, le_most, lt_omega, le_omega, ne_omega, allLen, encP]
  refine CallK.of (c56 (nmul p.x q.y) (nmul p.y q.x) (h.1.mul h'.2) (h.2.mul h'.1) hK (by omega)) (by first | exact .inl rfl | exact .inr (by simp)) (by simp) ?_
  simp (disch := first | omega | simp) [wrap_i64, le_most, lt_omega, le_omega, ne_omega, allLen, encN, pcross]
theorem c31 (p q : Pt) {K M M' : Nat} (h : PB K M p) (h' : PB K M' q) (hK : K ≤ 60) (hM : M + M' ≤ 4611686018427387904) : PC E 31 [.agg (encP p), .agg (encP q)] [.agg (encP (pminus p q))] := by
  refine PC_start hE Proofs.Tryd.func31 rfl rfl Proofs.Tryd.ntmps31 (by kernel_rfl) (by kernel_rfl) (by simp) ?_
  simp (disch := first | omega | simp) [wrap_i64, le_most, lt_omega, le_omega, ne_omega, allLen, encP]
  refine CallK.of (c45 p.x q.x h.1 h'.1 hK hM) (by first | exact .inl rfl | exact .inr (by simp)) (by simp) ?_
  simp (disch := first | omega | simp) [wrap_i64, le_most, lt_omega, le_omega, ne_omega, allLen, encP]
  refine CallK.of (c45 p.y q.y h.2 h'.2 hK hM) (by first | exact .inl rfl | exact .inr (by simp)) (by simp) ?_
  simp (disch := first | omega | simp) [wrap_i64, le_most, lt_omega, le_omega, ne_omega, allLen, encN, pminus]
theorem c78 (p q : Pt) {K M M' : Nat} (h : PB K M p) (h' : PB K M' q) (hK : K ≤ 60) (hM : M + M' ≤ 4611686018427387904) : PC E 78 [.agg (encP p), .agg (encP q)] [.agg (encP (pplus p q))] := by
  refine PC_start hE Proofs.Tryd.func78 rfl rfl Proofs.Tryd.ntmps78 (by kernel_rfl) (by kernel_rfl) (by simp) ?_
  simp (disch := first | omega | simp) [wrap_i64, le_most, lt_omega, le_omega, ne_omega, allLen, encP]
  refine CallK.of (c48 p.x q.x h.1 h'.1 hK hM) (by first | exact .inl rfl | exact .inr (by simp)) (by simp) ?_
  simp (disch := first | omega | simp) [wrap_i64, le_most, lt_omega, le_omega, ne_omega, allLen, encP]
  refine CallK.of (c48 p.y q.y h.2 h'.2 hK hM) (by first | exact .inl rfl | exact .inr (by simp)) (by simp) ?_
  simp (disch := first | omega | simp) [wrap_i64, le_most, lt_omega, le_omega, ne_omega, allLen, encN, pplus]
def nz (x : Nu) : Bool := decide (x.a = 0) && decide (x.b = 0)
theorem c61 (x : Nu) : PC E 61 [.agg (encN x)] [.i (.bool (nz x))] := by
  refine PC_start hE Proofs.Tryd.func61 rfl rfl Proofs.Tryd.ntmps61 (by kernel_rfl) (by kernel_rfl) (by simp) ?_
  simp (disch := first | omega | simp) [wrap_i64, le_most, lt_omega, le_omega, ne_omega, allLen, encN, nz]
  (first | refine Gd.dec (fun h1 => ?_) (fun h1 => ?_) | refine Gd.intro (fun h1 => ?_) (fun h1 => ?_)) <;> simp (disch := first | omega | simp) [wrap_i64, le_most, lt_omega, le_omega, ne_omega, allLen, h1]
/-! ### Directions -/
theorem vec_turn {d : Int} (h0 : 0 ≤ d) (h1 : d ≤ 15) : vec ((d + 4) % 16) = ⟨nneg (vec d).y, (vec d).x⟩ := by
  rcases dir16 h0 h1 with rfl | rfl | rfl | rfl | rfl | rfl | rfl | rfl | rfl | rfl | rfl | rfl | rfl | rfl | rfl | rfl <;> decide
theorem dot_turn {d : Int} (h0 : 0 ≤ d) (h1 : d ≤ 15) (w : Pt) : ndot (vec ((d + 4) % 16)) w = pcross (vec d) w := by
  rw [vec_turn h0 h1]
  unfold ndot pcross nsub
  simp only
  rw [nmul_neg_l, nadd_comm]
theorem nz_low {x : Nu} (h : low x = x) : nz x = decide (x = ⟨0, 0, 0⟩) := by
  rw [Bool.eq_iff_iff]
  simp only [nz, Bool.and_eq_true, decide_eq_true_eq]
  constructor
  · intro hz
    rw [← h]; unfold low; rw [if_pos hz]
  · rintro rfl; exact ⟨rfl, rfl⟩
theorem low_nsub {x y : Nu} (h : 0 ≤ x.k) : low (nsub x y) = nsub x y := low_nadd h
/-- Does a vector have a direction? -/
def isDir (w : Pt) (d : Nat) : Bool := decide (pcross (vec d) w = ⟨0, 0, 0⟩) && decide (0 < nsign (ndot (vec d) w))
def dirR (w : Pt) : Int := match (List.range 16).find? (isDir w) with
  | some d => d
  | none => -1
theorem dirR_at {w : Pt} {d : Nat} (hd : d < 16) (h : isDir w d = true) (hno : ∀ j, j < d → isDir w j = false) : dirR w = d := by
  have : (List.range 16).find? (isDir w) = some d := by
    rw [List.find?_range_eq_some]
    exact ⟨h, by simpa using hd, fun j hj => by simpa using hno j hj⟩
  simp [dirR, this]
theorem dirR_none {w : Pt} (hno : ∀ j, j < 16 → isDir w j = false) : dirR w = -1 := by
  have : (List.range 16).find? (isDir w) = none := by
    rw [List.find?_eq_none]
    intro j hj
    simp [hno j (by simpa using hj)]
  simp [dirR, this]
theorem dirR_range (w : Pt) : -1 ≤ dirR w ∧ dirR w ≤ 15 := by
  unfold dirR
  split
  · rename_i d h
    have := List.mem_of_find?_eq_some h
    simp at this; omega
  · omega
theorem not_step {p : Nat → Bool} {k : Nat} (h : ∀ j, j < k → p j = false) (hk : p k = false) : ∀ j, j < k + 1 → p j = false := fun j hj => by
  rcases Nat.lt_succ_iff_lt_or_eq.1 hj with h1 | rfl
  · exact h j h1
  · exact hk
theorem c35 (p q : Pt) {K M M' : Nat} (h : PB K M q) (h' : PB K M' p) (hK : K ≤ 60) (hM : 6 * (M + M') ≤ 4611686018427387904) : PC E 35 [.agg (encP p), .agg (encP q)] [.i (.int .i64 (dirR (pminus q p)))] := by
  refine PC_start hE Proofs.Tryd.func35 rfl rfl Proofs.Tryd.ntmps35 (by kernel_rfl) (by kernel_rfl) (by simp) ?_
  have hw := h.minus h'
  simp (disch := first | omega | simp) [wrap_i64, le_most, lt_omega, le_omega, ne_omega, allLen]
  refine CallK.of (c63 q p h h' hK (by omega)) (by first | exact .inl rfl | exact .inr (by simp)) (by simp) ?_
  simp (disch := first | omega | simp) [wrap_i64, le_most, lt_omega, le_omega, ne_omega, allLen]
  generalize pminus q p = w at *
  refine XL.by hE (ι := { d : Nat // d ≤ 16 ∧ ∀ j, j < d → isDir w j = false }) (fun d => ⟨[(5, .ptr 5 0 0), (11, .i (.int .i64 d.1))], [(5, ⟨6, [encP w]⟩)]⟩)
    (fun d => 16 - d.1) ⟨0, by omega, fun j hj => by omega⟩ ⟨by simp, by simp, by simp⟩ (by kernel_rfl) ?_
  rintro ⟨d, hd, hno⟩
  by_cases hlt : d < 16
  · have hlt' : (d : Int) < 16 := by omega
    have hv := vec_PB (d := (d : Int)) (by omega) (by omega)
    have hdd := hv.dot hw
    simp only [Nat.zero_add, Nat.one_mul] at hdd
    simp (disch := first | omega | simp) [wrap_i64, le_most, lt_omega, le_omega, ne_omega, allLen, hlt']
    refine CallK.of (c64 (d : Int) (by omega) (by omega)) (by first | exact .inl rfl | exact .inr (by simp)) (by simp) ?_
    simp (disch := first | omega | simp) [wrap_i64, le_most, lt_omega, le_omega, ne_omega, allLen]
    refine CallK.of (c65 (vec d) w hv hw (by omega) (by omega) (by decide)) (by first | exact .inl rfl | exact .inr (by simp)) (by simp) ?_
    have e0 : ([.int .i64 0, .int .i64 0, .int .i64 0] : List IV) = encN ⟨0, 0, 0⟩ := rfl
    simp (disch := first | omega | simp) [wrap_i64, le_most, lt_omega, le_omega, ne_omega, allLen]
    rw [e0]
    simp (disch := first | omega | simp) [wrap_i64, le_most, lt_omega, le_omega, ne_omega, allLen]
    (first | refine Gd.dec (fun h1 => ?_) (fun h1 => ?_) | refine Gd.intro (fun h1 => ?_) (fun h1 => ?_)) <;> simp (disch := first | omega | simp) [wrap_i64, le_most, lt_omega, le_omega, ne_omega, allLen, h1]
    · refine CallK.of (c55 (vec d) w hv hw (by omega) (by omega) (by decide)) (by first | exact .inl rfl | exact .inr (by simp)) (by simp) ?_
      simp (disch := first | omega | simp) [wrap_i64, le_most, lt_omega, le_omega, ne_omega, allLen]
      refine CallK.of (c66 _ (hdd.i64 (by omega) (by omega)) (hdd.ne (by omega)).1 (hdd.ne (by omega)).2) (by first | exact .inl rfl | exact .inr (by simp)) (by simp) ?_
      simp (disch := first | omega | simp) [wrap_i64, le_most, lt_omega, le_omega, ne_omega, allLen]
      (first | refine Gd.dec (fun h2 => ?_) (fun h2 => ?_) | refine Gd.intro (fun h2 => ?_) (fun h2 => ?_)) <;> simp (disch := first | omega | simp) [wrap_i64, le_most, lt_omega, le_omega, ne_omega, allLen, h2]
      · rw [dirR_at hlt (by simp [isDir, h1, h2]) hno]
      · (refine ⟨⟨d + 1, by omega, not_step hno (by simp [isDir, h2])⟩, by (simp; try omega), ?_⟩; constructor <;> (simp (disch := first | omega | simp) [wrap_i64, le_most, lt_omega, le_omega, ne_omega, allLen]) <;> (try omega))
    · (refine ⟨⟨d + 1, by omega, not_step hno (by simp [isDir, h1])⟩, by (simp; try omega), ?_⟩; constructor <;> (simp (disch := first | omega | simp) [wrap_i64, le_most, lt_omega, le_omega, ne_omega, allLen]) <;> (try omega))
  · have hlt' : ¬ (d : Int) < 16 := by omega
    simp (disch := first | omega | simp) [wrap_i64, le_most, lt_omega, le_omega, ne_omega, allLen, hlt']
    rw [dirR_none fun j hj => hno j (by omega)]
end Go.Vai
