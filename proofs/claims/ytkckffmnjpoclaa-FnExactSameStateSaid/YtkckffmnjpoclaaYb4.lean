/- Merged texts of this claim: Zn9, Zn10. -/
import Derived.Test.YtkckffmnjpoclaaYb3
import Derived.Test.YtkckffmnjpoclaaZv5b
set_option linter.unusedVariables false
set_option linter.unusedSimpArgs false
set_option maxHeartbeats 4000000
namespace Go.Vai
/-! ### Laws of the numbers -/
@[simp] theorem nneg_nneg (x : Nu) : nneg (nneg x) = x := by simp [nneg]
theorem lowF_neg : ∀ (n : Nat) (x : Nu), lowF n (nneg x) = nneg (lowF n x)
  | 0, x => rfl
  | n + 1, x => by
    simp only [lowF, nneg]
    have e1 : (-x.a % 2 = 0) = (x.a % 2 = 0) := by apply propext; omega
    have e2 : (-x.b % 2 = 0) = (x.b % 2 = 0) := by apply propext; omega
    simp only [e1, e2]
    split
    · rename_i h
      have h1 : -x.a / 2 = -(x.a / 2) := by omega
      have h2 : -x.b / 2 = -(x.b / 2) := by omega
      rw [h1, h2]
      exact lowF_neg n ⟨x.a / 2, x.b / 2, x.k - 1⟩
    · rfl
theorem low_neg (x : Nu) : low (nneg x) = nneg (low x) := by
  unfold low
  have e : ((nneg x).a = 0 ∧ (nneg x).b = 0) = (x.a = 0 ∧ x.b = 0) := by apply propext; simp only [nneg]; omega
  simp only [e]
  split
  · simp [nneg]
  · exact lowF_neg _ x
theorem nadd_comm (x y : Nu) : nadd x y = nadd y x := by
  unfold nadd
  rw [Int.max_comm x.k y.k, Int.add_comm (x.a * _), Int.add_comm (x.b * _)]
theorem nmul_comm (x y : Nu) : nmul x y = nmul y x := by
  unfold nmul
  congr 2
  · rw [Int.mul_comm x.a, Int.mul_right_comm]
  · rw [Int.add_comm, Int.mul_comm x.b, Int.mul_comm x.a]
  · exact Int.add_comm ..
theorem nneg_nadd (x y : Nu) : nneg (nadd x y) = nadd (nneg x) (nneg y) := by
  unfold nadd
  rw [← low_neg]
  simp only [nneg, Int.neg_mul, Int.neg_add]
theorem nmul_neg_l (x y : Nu) : nmul (nneg x) y = nneg (nmul x y) := by
  unfold nmul
  rw [← low_neg]
  simp only [nneg, Int.neg_mul, Int.neg_add, Int.mul_neg]
theorem nmul_neg_r (x y : Nu) : nmul x (nneg y) = nneg (nmul x y) := by rw [nmul_comm, nmul_neg_l, nmul_comm]
theorem nsub_swap (x y : Nu) : nsub x y = nneg (nsub y x) := by
  unfold nsub
  rw [nneg_nadd, nneg_nneg, nadd_comm]
/-- A number times a power of 2, over it. -/
theorem low_scale (a b k : Int) (h : 0 ≤ k) : ∀ t : Nat, low ⟨a * 2 ^ t, b * 2 ^ t, k + t⟩ = low ⟨a, b, k⟩
  | 0 => by simp
  | t + 1 => by
    rw [← low_scale a b k h t]
    have e1 : a * 2 ^ (t + 1) = a * 2 ^ t * 2 := by rw [Int.pow_succ, Int.mul_assoc]
    have e2 : b * 2 ^ (t + 1) = b * 2 ^ t * 2 := by rw [Int.pow_succ, Int.mul_assoc]
    rw [e1, e2]
    generalize a * 2 ^ t = A
    generalize b * 2 ^ t = B
    have := low_step (x := ⟨A * 2, B * 2, k + (t + 1 : Nat)⟩) (by simp only; omega) (by simp only; omega) (by simp only; omega)
    simp only at this
    rw [← this]
    congr 2 <;> omega
theorem lowF_form : ∀ (n : Nat) (x : Nu), n = x.k.toNat → 0 ≤ x.k → ∃ t : Nat, x.a = (lowF n x).a * 2 ^ t ∧ x.b = (lowF n x).b * 2 ^ t ∧ x.k = (lowF n x).k + t
  | 0, x, _, _ => ⟨0, by simp [lowF]⟩
  | n + 1, x, h, h0 => by
    simp only [lowF]
    split
    · rename_i hc
      obtain ⟨t, h1, h2, h3⟩ := lowF_form n ⟨x.a / 2, x.b / 2, x.k - 1⟩ (by simp only; omega) (by simp only; omega)
      simp only at h1 h2 h3
      refine ⟨t + 1, ?_, ?_, by omega⟩
      · rw [Int.pow_succ, ← Int.mul_assoc, ← h1]; omega
      · rw [Int.pow_succ, ← Int.mul_assoc, ← h2]; omega
    · exact ⟨0, by simp⟩
/-- What is reduced first may be multiplied and divided by a power of 2 later. -/
theorem low_after {x : Nu} (h : 0 ≤ x.k) (s : Int) (e : Nat) : low ⟨s * (low x).a, s * (low x).b, (low x).k + e⟩ = low ⟨s * x.a, s * x.b, x.k + e⟩ := by
  by_cases hz : x.a = 0 ∧ x.b = 0
  · have hl : low x = ⟨0, 0, 0⟩ := by unfold low; rw [if_pos hz]
    rw [hl, hz.1, hz.2]
    unfold low
    simp
  · have hl : low x = lowF x.k.toNat x := by unfold low; rw [if_neg hz]
    obtain ⟨t, h1, h2, h3⟩ := lowF_form x.k.toNat x rfl h
    rw [← hl] at h1 h2 h3
    have hk := low_k h
    have := low_scale (s * (low x).a) (s * (low x).b) ((low x).k + e) (by omega) t
    rw [← this]
    conv => rhs; rw [h1, h2, h3]
    congr 2
    · exact Int.mul_assoc ..
    · exact Int.mul_assoc ..
    · omega
/-! ### Quotients -/
def ndiv (x y : Nu) (s : Int) (e : Nat) : Nu := low ⟨s * (x.a * y.a - 2 * (x.b * y.b)), s * (x.b * y.a - x.a * y.b), x.k + e⟩
/-- A small divisor: its norm is a power of 2, or its negative. -/
structure Dv (y : Nu) (s : Int) (e : Nat) : Prop where
  dk : y.k = 0
  da : y.a.natAbs ≤ 4
  db : y.b.natAbs ≤ 4
  ds : s = 1 ∨ s = -1
  de : e ≤ 3
  dn : y.a * y.a - 2 * (y.b * y.b) = s * 2 ^ e
theorem pow_small {e : Nat} (h : e ≤ 3) : ((2 : Int) ^ e = 1 ∨ (2 : Int) ^ e = 2 ∨ (2 : Int) ^ e = 4 ∨ (2 : Int) ^ e = 8) := by
  have : e = 0 ∨ e = 1 ∨ e = 2 ∨ e = 3 := by omega
  rcases this with rfl | rfl | rfl | rfl <;> simp
theorem Dv.nb {y : Nu} {s : Int} {e : Nat} (h : Dv y s e) : NB 0 4 y := by
  have h1 := h.dk; have h2 := h.da; have h3 := h.db
  exact ⟨by omega, by rw [h1]; decide, by rw [h1]; simpa using h2, by rw [h1]; simpa using h3⟩
def nconj (y : Nu) : Nu := ⟨y.a, -y.b, 0⟩
theorem Dv.nbc {y : Nu} {s : Int} {e : Nat} (h : Dv y s e) : NB 0 4 (nconj y) := by
  have h2 := h.da; have h3 := h.db
  exact ⟨by simp [nconj], by simp [nconj], by simpa [nconj] using h2, by simpa [nconj] using h3⟩
theorem tdiv_unit {a s : Int} (h : s = 1 ∨ s = -1) : a.tdiv s = s * a := by
  rcases h with rfl | rfl <;> simp
theorem tmod_unit {a s : Int} (h : s = 1 ∨ s = -1) : a.tmod s = 0 := by
  rcases h with rfl | rfl <;> simp
theorem NB.scale {K M : Nat} {x : Nu} (h : NB K M x) {s : Int} (hs : s = 1 ∨ s = -1) {e : Nat} : NB (K + e) M ⟨s * x.a, s * x.b, x.k + e⟩ := by
  have h0 := h.k0; have h1 := h.k1
  have e1 : (x.k + (e : Int)).toNat = x.k.toNat + e := by omega
  have ea : (s * x.a).natAbs = x.a.natAbs := by rcases hs with rfl | rfl <;> simp
  have eb : (s * x.b).natAbs = x.b.natAbs := by rcases hs with rfl | rfl <;> simp
  have e2 : K + e - (x.k.toNat + e) = K - x.k.toNat := by omega
  refine ⟨by simp only; omega, by simp only; omega, ?_, ?_⟩
  · simp only [e1, ea, e2]; exact h.a
  · simp only [e1, eb, e2]; exact h.b
theorem div_pre (x y : Nu) : (⟨x.a * (nconj y).a + 2 * x.b * (nconj y).b, x.a * (nconj y).b + x.b * (nconj y).a, x.k + (nconj y).k⟩ : Nu) = ⟨x.a * y.a - 2 * (x.b * y.b), x.b * y.a - x.a * y.b, x.k⟩ := by
  simp only [nconj, Int.mul_neg, Int.add_zero, Int.mul_assoc]
  congr 1
  omega
theorem NB.div {K M : Nat} {x y : Nu} {s : Int} {e : Nat} (h : NB K M x) (hy : Dv y s e) : NB (K + 3) (12 * M * 8) (ndiv x y s e) := by
  have h1 := h.pre_mul hy.nbc
  rw [div_pre] at h1
  have h2 := (h1.scale hy.ds (e := e)).low
  have h3 := h2.up (K' := K + 0 + 3) (by have := hy.de; omega)
  refine NB.mono (h3 : NB (K + 3) _ (ndiv x y s e)) ?_
  have e1 : 2 ^ (K + 0 + 3 - (K + 0 + e)) ≤ 8 := by
    have := Nat.pow_le_pow_right (n := 2) (by decide) (show K + 0 + 3 - (K + 0 + e) ≤ 3 by omega)
    simpa using this
  have := Nat.mul_le_mul (Nat.le_refl (3 * (M * 4))) e1
  omega
def nv (s : Int) (e j : Nat) : Int := s * 2 ^ (e - j)
theorem nv_step {s : Int} {e j : Nat} (h : j < e) : nv s e j % 2 = 0 ∧ (nv s e j).tdiv 2 = nv s e (j + 1) := by
  have e1 : e - j = (e - (j + 1)) + 1 := by omega
  have e2 : nv s e j = nv s e (j + 1) * 2 := by unfold nv; rw [e1, Int.pow_succ, Int.mul_assoc]
  have h0 : nv s e j % 2 = 0 := by omega
  exact ⟨h0, by rw [tdiv2 h0]; omega⟩
theorem nv_end (s : Int) (e : Nat) : nv s e e = s := by simp [nv]
theorem nv_bound {s : Int} (hs : s = 1 ∨ s = -1) {e : Nat} (he : e ≤ 3) (j : Nat) : -8 ≤ nv s e j ∧ nv s e j ≤ 8 := by
  unfold nv
  have := pow_small (e := e - j) (by omega)
  rcases hs with rfl | rfl <;> omega
end Go.Vai
set_option linter.unusedVariables false
set_option linter.unusedSimpArgs false
set_option maxHeartbeats 4000000
namespace Go.Vai
@[simp] theorem eqlNu (x y : Nu) : eqOp E .eql 89 (encN x) (encN y) = some (.i (.bool (decide (x = y)))) := by
  obtain ⟨a, b, k⟩ := x
  obtain ⟨a', b', k'⟩ := y
  simp [encN, eqOp, eqA, eqFs, partA]
def pminus (p q : Pt) : Pt := ⟨nsub p.x q.x, nsub p.y q.y⟩
def pplus (p q : Pt) : Pt := ⟨nadd p.x q.x, nadd p.y q.y⟩
def ptimes (p : Pt) (t : Nu) : Pt := ⟨nmul p.x t, nmul p.y t⟩
def pcross (p q : Pt) : Nu := nsub (nmul p.x q.y) (nmul p.y q.x)
theorem PB.minus {K M M' : Nat} {p q : Pt} (h : PB K M p) (h' : PB K M' q) : PB K (M + M') (pminus p q) := ⟨h.1.sub h'.1, h.2.sub h'.2⟩
theorem PB.plus {K M M' : Nat} {p q : Pt} (h : PB K M p) (h' : PB K M' q) : PB K (M + M') (pplus p q) := ⟨h.1.add h'.1, h.2.add h'.2⟩
theorem PB.times {K K' M M' : Nat} {p : Pt} {t : Nu} (h : PB K M p) (h' : NB K' M' t) : PB (K + K') (3 * (M * M')) (ptimes p t) := ⟨h.1.mul h', h.2.mul h'⟩
theorem PB.cross {K K' M M' : Nat} {p q : Pt} (h : PB K M p) (h' : PB K' M' q) : NB (K + K') (6 * (M * M')) (pcross p q) :=
  ((h.1.mul h'.2).sub (h.2.mul h'.1)).mono (by omega)
theorem PB.mono {K M M' : Nat} {p : Pt} (h : PB K M p) (hM : M ≤ M') : PB K M' p := ⟨h.1.mono hM, h.2.mono hM⟩
def nz (x : Nu) : Bool := decide (x.a = 0) && decide (x.b = 0)
/-! ### Directions -/
theorem vec_turn {d : Int} (h0 : 0 ≤ d) (h1 : d ≤ 15) : vec ((d + 4) % 16) = ⟨nneg (vec d).y, (vec d).x⟩ := by
  rcases dir16 h0 h1 with rfl | rfl | rfl | rfl | rfl | rfl | rfl | rfl | rfl | rfl | rfl | rfl | rfl | rfl | rfl | rfl <;> decide
theorem dot_turn {d : Int} (h0 : 0 ≤ d) (h1 : d ≤ 15) (w : Pt) : ndot (vec ((d + 4) % 16)) w = pcross (vec d) w := by
  rw [vec_turn h0 h1]
  unfold ndot pcross nsub
  simp only
  rw [nmul_neg_l, nadd_comm]
theorem nz_low {x : Nu} (h : low x = x) : nz x = decide (x = ⟨0, 0, 0⟩) := by
  rw [Bool.eq_iff_iff]
  simp only [nz, Bool.and_eq_true, decide_eq_true_eq]
  constructor
  · intro hz
    rw [← h]; unfold low; rw [if_pos hz]
  · rintro rfl; exact ⟨rfl, rfl⟩
theorem low_nsub {x y : Nu} (h : 0 ≤ x.k) : low (nsub x y) = nsub x y := low_nadd h
/-- Does a vector have a direction? -/
def isDir (w : Pt) (d : Nat) : Bool := decide (pcross (vec d) w = ⟨0, 0, 0⟩) && decide (0 < nsign (ndot (vec d) w))
def dirR (w : Pt) : Int := match (List.range 16).find? (isDir w) with
  | some d => d
  | none => -1
theorem dirR_at {w : Pt} {d : Nat} (hd : d < 16) (h : isDir w d = true) (hno : ∀ j, j < d → isDir w j = false) : dirR w = d := by
  have : (List.range 16).find? (isDir w) = some d := by
    rw [List.find?_range_eq_some]
    exact ⟨h, by simpa using hd, fun j hj => by simpa using hno j hj⟩
  simp [dirR, this]
theorem dirR_none {w : Pt} (hno : ∀ j, j < 16 → isDir w j = false) : dirR w = -1 := by
  have : (List.range 16).find? (isDir w) = none := by
    rw [List.find?_eq_none]
    intro j hj
    simp [hno j (by simpa using hj)]
  simp [dirR, this]
theorem dirR_range (w : Pt) : -1 ≤ dirR w ∧ dirR w ≤ 15 := by
  unfold dirR
  split
  · rename_i d h
    have := List.mem_of_find?_eq_some h
    simp at this; omega
  · omega
theorem not_step {p : Nat → Bool} {k : Nat} (h : ∀ j, j < k → p j = false) (hk : p k = false) : ∀ j, j < k + 1 → p j = false := fun j hj => by
  rcases Nat.lt_succ_iff_lt_or_eq.1 hj with h1 | rfl
  · exact h j h1
  · exact hk
end Go.Vai
