/- Merged texts of this claim: Zn1, Zt0, Zn2, Zn3. -/
import Derived.Test.YtkljeldcjnpinaaZvE
import Derived.Test.YtkljeldcjnpinaaZv18
set_option linter.unusedVariables false
set_option linter.unusedSimpArgs false
set_option maxHeartbeats 4000000
namespace Go.Vai
/-! ### Machine numbers -/
def pw (n : Int) : Int := 2 ^ n.toNat
theorem andI_one (a : Int) : andI .i64 a 1 = a % 2 := by
  unfold andI
  have hb : IntKind.i64.bits = 64 := rfl
  rw [hb]
  have h1 : (BitVec.ofInt 64 a &&& BitVec.ofInt 64 1).toNat = (a % 18446744073709551616).toNat % 2 := by
    rw [BitVec.toNat_and]
    have : (BitVec.ofInt 64 1).toNat = 2 ^ 1 - 1 := rfl
    rw [this, Nat.and_two_pow_sub_one_eq_mod, BitVec.toNat_ofInt]
    rfl
  rw [h1, wrap_i64] <;> omega
theorem shlI_pw {a s : Int} (h0 : 0 ≤ s) (h1 : s ≤ 64) (h2 : (a * pw s).natAbs ≤ 9223372036854775807) : shlI .i64 a s = a * pw s := by
  unfold shlI
  have e : min s.toNat IntKind.i64.bits = s.toNat := by
    have : IntKind.i64.bits = 64 := rfl
    rw [this]; omega
  rw [e]
  show IntKind.i64.wrap (a * pw s) = a * pw s
  exact wrap_i64 (by omega) (by omega)
theorem tdiv2 {a : Int} (h : a % 2 = 0) : a.tdiv 2 = a / 2 := by
  rw [Int.tdiv_eq_ediv]
  split <;> omega
theorem tmod2 (a : Int) : (a.tmod 2 = 0) = (a % 2 = 0) := by
  apply propext
  rw [← Int.dvd_iff_tmod_eq_zero, ← Int.dvd_iff_emod_eq_zero]
/-- A number with parts, over a power of 2. -/
structure Nu where
  a : Int
  b : Int
  k : Int
  deriving DecidableEq, Inhabited
def encN (x : Nu) : List IV := [.int .i64 x.a, .int .i64 x.b, .int .i64 x.k]
@[simp] theorem encN_len (x : Nu) : (encN x).length = 3 := rfl
@[simp] theorem encN_take (x : Nu) : (encN x).take 3 = encN x := rfl
def Nu.i64 (x : Nu) : Prop := (-9223372036854775808 ≤ x.a ∧ x.a ≤ 9223372036854775807) ∧ (-9223372036854775808 ≤ x.b ∧ x.b ≤ 9223372036854775807) ∧ (-9223372036854775808 ≤ x.k ∧ x.k ≤ 9223372036854775807)
def lowF : Nat → Nu → Nu
  | 0, x => x
  | n + 1, x => if 0 < x.k ∧ x.a % 2 = 0 ∧ x.b % 2 = 0 then lowF n ⟨x.a / 2, x.b / 2, x.k - 1⟩ else x
/-- Lowest form. -/
def low (x : Nu) : Nu := if x.a = 0 ∧ x.b = 0 then ⟨0, 0, 0⟩ else lowF x.k.toNat x
theorem low_step {x : Nu} (h : 0 < x.k) (ha : x.a % 2 = 0) (hb : x.b % 2 = 0) : low ⟨x.a / 2, x.b / 2, x.k - 1⟩ = low x := by
  unfold low
  by_cases h0 : x.a = 0 ∧ x.b = 0
  · rw [if_pos h0, if_pos (by simp only; omega)]
  · rw [if_neg h0, if_neg (by simp only; omega)]
    have : x.k.toNat = (x.k - 1).toNat + 1 := by omega
    rw [this]
    simp only [lowF]
    rw [if_pos ⟨h, ha, hb⟩]
theorem low_end {x : Nu} (h : ¬ (0 < x.k ∧ x.a % 2 = 0 ∧ x.b % 2 = 0)) (h0 : x.a = 0 ∧ x.b = 0 → x.k = 0) : low x = x := by
  unfold low
  split
  · rename_i hz
    have := h0 hz
    obtain ⟨a, b, k⟩ := x
    simp only at *
    rw [hz.1, hz.2, this]
  · cases hk : x.k.toNat with
    | zero => rfl
    | succ n => simp only [lowF]; rw [if_neg h]
theorem lowF_k {n : Nat} : ∀ {x : Nu}, n = x.k.toNat → 0 ≤ x.k → 0 ≤ (lowF n x).k ∧ (lowF n x).k ≤ x.k := by
  induction n with
  | zero => intro x h h0; exact ⟨h0, Int.le_refl _⟩
  | succ n ih =>
    intro x h h0
    simp only [lowF]
    split
    · rename_i hc
      have := ih (x := ⟨x.a / 2, x.b / 2, x.k - 1⟩) (by simp only; omega) (by simp only; omega)
      simp only at this
      omega
    · exact ⟨h0, Int.le_refl _⟩
theorem low_k {x : Nu} (h : 0 ≤ x.k) : 0 ≤ (low x).k ∧ (low x).k ≤ x.k := by
  unfold low
  split
  · exact ⟨Int.le_refl _, h⟩
  · exact lowF_k rfl h
/-- Parts within M at the scale of 2^K. -/
structure NB (K M : Nat) (x : Nu) : Prop where
  k0 : 0 ≤ x.k
  k1 : x.k.toNat ≤ K
  a : x.a.natAbs * 2 ^ (K - x.k.toNat) ≤ M
  b : x.b.natAbs * 2 ^ (K - x.k.toNat) ≤ M
theorem NB.mono {K M M' : Nat} {x : Nu} (h : NB K M x) (hM : M ≤ M') : NB K M' x := ⟨h.k0, h.k1, Nat.le_trans h.a hM, Nat.le_trans h.b hM⟩
theorem NB.up {K K' M : Nat} {x : Nu} (h : NB K M x) (hK : K ≤ K') : NB K' (M * 2 ^ (K' - K)) x := by
  have e : K' - x.k.toNat = (K - x.k.toNat) + (K' - K) := by have := h.k1; omega
  refine ⟨h.k0, Nat.le_trans h.k1 hK, ?_, ?_⟩
  · rw [e, Nat.pow_add, ← Nat.mul_assoc]; exact Nat.mul_le_mul_right _ h.a
  · rw [e, Nat.pow_add, ← Nat.mul_assoc]; exact Nat.mul_le_mul_right _ h.b
theorem le_mul_pow (a n : Nat) : a ≤ a * 2 ^ n := Nat.le_mul_of_pos_right _ (Nat.two_pow_pos n)
theorem NB.abs {K M : Nat} {x : Nu} (h : NB K M x) : x.a.natAbs ≤ M ∧ x.b.natAbs ≤ M :=
  ⟨Nat.le_trans (le_mul_pow _ _) h.a, Nat.le_trans (le_mul_pow _ _) h.b⟩
theorem NB.lowF {K M : Nat} : ∀ (n : Nat) {x : Nu}, NB K M x → NB K M (Vai.lowF n x)
  | 0, x, h => h
  | n + 1, x, h => by
    simp only [Vai.lowF]
    split
    · rename_i hc
      refine NB.lowF n ⟨by simp only; omega, by simp only; have := h.k1; omega, ?_, ?_⟩
      · have e : K - (x.k - 1).toNat = (K - x.k.toNat) + 1 := by have := h.k1; omega
        have e2 : x.a.natAbs = (x.a / 2).natAbs * 2 := by omega
        have := h.a
        rw [e2, Nat.mul_assoc, ← Nat.pow_succ'] at this
        simp only; rw [e]; exact this
      · have e : K - (x.k - 1).toNat = (K - x.k.toNat) + 1 := by have := h.k1; omega
        have e2 : x.b.natAbs = (x.b / 2).natAbs * 2 := by omega
        have := h.b
        rw [e2, Nat.mul_assoc, ← Nat.pow_succ'] at this
        simp only; rw [e]; exact this
    · exact h
theorem NB.low {K M : Nat} {x : Nu} (h : NB K M x) : NB K M (Vai.low x) := by
  unfold Vai.low
  split
  · exact ⟨by simp, by simp, by simp, by simp⟩
  · exact h.lowF _
theorem NB.zero (K M : Nat) : NB K M ⟨0, 0, 0⟩ := ⟨by simp, by simp, by simp, by simp⟩
/-! ### Operations -/
def nadd (x y : Nu) : Nu := low ⟨x.a * pw (max x.k y.k - x.k) + y.a * pw (max x.k y.k - y.k), x.b * pw (max x.k y.k - x.k) + y.b * pw (max x.k y.k - y.k), max x.k y.k⟩
def nneg (x : Nu) : Nu := ⟨-x.a, -x.b, x.k⟩
def nsub (x y : Nu) : Nu := nadd x (nneg y)
def nmul (x y : Nu) : Nu := low ⟨x.a * y.a + 2 * x.b * y.b, x.a * y.b + x.b * y.a, x.k + y.k⟩
theorem NB.neg {K M : Nat} {x : Nu} (h : NB K M x) : NB K M (nneg x) := ⟨h.k0, h.k1, by simpa [nneg] using h.a, by simpa [nneg] using h.b⟩
theorem pw_abs (n : Int) : (pw n).natAbs = 2 ^ n.toNat := by simp [pw, Int.natAbs_pow]
theorem shift_le {K k m : Nat} {a : Int} (hk : k ≤ m) (hm : m ≤ K) : (a.natAbs * 2 ^ (m - k)) * 2 ^ (K - m) = a.natAbs * 2 ^ (K - k) := by
  rw [Nat.mul_assoc, ← Nat.pow_add]; congr 2; omega
theorem NB.shift {K M : Nat} {x : Nu} (h : NB K M x) {m : Int} (h1 : x.k ≤ m) (h2 : m.toNat ≤ K) :
    (x.a * pw (m - x.k)).natAbs * 2 ^ (K - m.toNat) ≤ M ∧ (x.b * pw (m - x.k)).natAbs * 2 ^ (K - m.toNat) ≤ M := by
  have h0 := h.k0
  have e : (m - x.k).toNat = m.toNat - x.k.toNat := by omega
  have e1 : x.k.toNat ≤ m.toNat := by omega
  rw [Int.natAbs_mul, Int.natAbs_mul, pw_abs, e, shift_le e1 h2, shift_le e1 h2]
  exact ⟨h.a, h.b⟩
theorem NB.pre_add {K M M' : Nat} {x y : Nu} (h : NB K M x) (h' : NB K M' y) : NB K (M + M') ⟨x.a * pw (max x.k y.k - x.k) + y.a * pw (max x.k y.k - y.k), x.b * pw (max x.k y.k - x.k) + y.b * pw (max x.k y.k - y.k), max x.k y.k⟩ := by
  have k0 := h.k0; have k0' := h'.k0; have k1 := h.k1; have k1' := h'.k1
  have hm : (max x.k y.k).toNat ≤ K := by omega
  obtain ⟨a1, b1⟩ := h.shift (m := max x.k y.k) (by omega) hm
  obtain ⟨a2, b2⟩ := h'.shift (m := max x.k y.k) (by omega) hm
  refine ⟨by simp only; omega, hm, ?_, ?_⟩
  · refine Nat.le_trans (Nat.mul_le_mul_right _ (Int.natAbs_add_le _ _)) ?_
    rw [Nat.add_mul]; exact Nat.add_le_add a1 a2
  · refine Nat.le_trans (Nat.mul_le_mul_right _ (Int.natAbs_add_le _ _)) ?_
    rw [Nat.add_mul]; exact Nat.add_le_add b1 b2
theorem NB.add {K M M' : Nat} {x y : Nu} (h : NB K M x) (h' : NB K M' y) : NB K (M + M') (nadd x y) := (h.pre_add h').low
theorem NB.sub {K M M' : Nat} {x y : Nu} (h : NB K M x) (h' : NB K M' y) : NB K (M + M') (nsub x y) := h.add h'.neg
theorem prod_le {K K' k k' M M' : Nat} {a c : Int} (ha : a.natAbs * 2 ^ (K - k) ≤ M) (hc : c.natAbs * 2 ^ (K' - k') ≤ M') (hk : k ≤ K) (hk' : k' ≤ K') : (a * c).natAbs * 2 ^ (K + K' - (k + k')) ≤ M * M' := by
  have e : K + K' - (k + k') = (K - k) + (K' - k') := by omega
  rw [e, Nat.pow_add, Int.natAbs_mul]
  calc a.natAbs * c.natAbs * (2 ^ (K - k) * 2 ^ (K' - k')) = (a.natAbs * 2 ^ (K - k)) * (c.natAbs * 2 ^ (K' - k')) := by ac_rfl
    _ ≤ M * M' := Nat.mul_le_mul ha hc
theorem NB.pre_mul {K K' M M' : Nat} {x y : Nu} (h : NB K M x) (h' : NB K' M' y) : NB (K + K') (3 * (M * M')) ⟨x.a * y.a + 2 * x.b * y.b, x.a * y.b + x.b * y.a, x.k + y.k⟩ := by
  have k0 := h.k0; have k0' := h'.k0; have k1 := h.k1; have k1' := h'.k1
  have e : (x.k + y.k).toNat = x.k.toNat + y.k.toNat := by omega
  have p1 := prod_le h.a h'.a k1 k1'
  have p2 := prod_le h.b h'.b k1 k1'
  have p3 := prod_le h.a h'.b k1 k1'
  have p4 := prod_le h.b h'.a k1 k1'
  refine ⟨by simp only; omega, by simp only; omega, ?_, ?_⟩
  · simp only [e]
    refine Nat.le_trans (Nat.mul_le_mul_right _ (Int.natAbs_add_le _ _)) ?_
    rw [Nat.add_mul, Int.mul_assoc, Int.natAbs_mul 2, Nat.mul_assoc]
    have : Int.natAbs 2 = 2 := rfl
    rw [this]; omega
  · simp only [e]
    refine Nat.le_trans (Nat.mul_le_mul_right _ (Int.natAbs_add_le _ _)) ?_
    rw [Nat.add_mul]; omega
theorem NB.mul {K K' M M' : Nat} {x y : Nu} (h : NB K M x) (h' : NB K' M' y) : NB (K + K') (3 * (M * M')) (nmul x y) := (h.pre_mul h').low
end Go.Vai
set_option linter.unusedVariables false
set_option linter.unusedSimpArgs false
set_option maxHeartbeats 4000000
namespace Go.Vai
def inB (n lo hi : Int) : Bool := decide (lo ≤ n) && decide (n ≤ hi)
theorem inB_iff {n lo hi : Int} : inB n lo hi = true ↔ lo ≤ n ∧ n ≤ hi := by simp [inB]
theorem c95 (n lo hi : Int) : PC E 95 [.i (.int .i64 n), .i (.int .i64 lo), .i (.int .i64 hi)] [.i (.bool (inB n lo hi))] := by
  refine PC_start hE Proofs.Try.func95 rfl rfl Proofs.Try.ntmps95 (by kernel_rfl) (by kernel_rfl) (by simp) ?_
  simp (maxSteps := 1000000) (disch := first | (exact DrawOk.mk (by decide +kernel)) | omega | simp) [wrap_i64, le_most, lt_omega, le_omega, ne_omega, allLen, inB]
  (first | refine Gd.dec (fun h1 => ?_) (fun h1 => ?_) | refine Gd.intro (fun h1 => ?_) (fun h1 => ?_)) <;> simp (maxSteps := 1000000) (disch := first | (exact DrawOk.mk (by decide +kernel)) | omega | simp) [wrap_i64, le_most, lt_omega, le_omega, ne_omega, allLen, h1]
theorem c93 (n lo hi : Int) : PC E 93 [.i (.int .i64 n), .i (.int .i64 lo), .i (.int .i64 hi)] [.i (.bool (inB n lo hi))] := by
  refine PC_start hE Proofs.Try.func93 rfl rfl Proofs.Try.ntmps93 (by kernel_rfl) (by kernel_rfl) (by simp) ?_
  simp (maxSteps := 1000000) (disch := first | (exact DrawOk.mk (by decide +kernel)) | omega | simp) [wrap_i64, le_most, lt_omega, le_omega, ne_omega, allLen, inB]
  (first | refine Gd.dec (fun h1 => ?_) (fun h1 => ?_) | refine Gd.intro (fun h1 => ?_) (fun h1 => ?_)) <;> simp (maxSteps := 1000000) (disch := first | (exact DrawOk.mk (by decide +kernel)) | omega | simp) [wrap_i64, le_most, lt_omega, le_omega, ne_omega, allLen, h1]
end Go.Vai
set_option linter.unusedVariables false
set_option linter.unusedSimpArgs false
set_option maxHeartbeats 4000000
namespace Go.Vai
theorem NB.i64 {K M : Nat} {x : Nu} (h : NB K M x) (hM : M ≤ 4611686018427387904) (hK : K ≤ 60) : x.i64 := by
  have := h.abs; have := h.k0; have := h.k1
  unfold Nu.i64; omega
theorem NB.ne {K M : Nat} {x : Nu} (h : NB K M x) (hM : M ≤ 4611686018427387904) : x.a ≠ -9223372036854775808 ∧ x.b ≠ -9223372036854775808 := by
  have := h.abs; omega
/-- A number within the limits. -/
def vN (x : Nu) : Bool := inB x.a (-131072) 131072 && (inB x.b (-131072) 131072 && (inB x.k 0 10 && (decide (x.k = 0) || (decide (x.a % 2 = 1) || decide (x.b % 2 = 1)))))
end Go.Vai
set_option linter.unusedVariables false
set_option linter.unusedSimpArgs false
set_option maxHeartbeats 4000000
namespace Go.Vai
theorem wrap_u (n : Int) : IntKind.u64.wrap n = n % 18446744073709551616 := rfl
theorem wrap_u64 {n : Int} (h0 : 0 ≤ n) (h : n ≤ 18446744073709551615) : IntKind.u64.wrap n = n := by rw [wrap_u]; omega
theorem shrI_u32 (a : Int) : shrI .u64 a 32 = a / 4294967296 := by
  unfold shrI
  show a.fdiv (2 ^ 32) = _
  rw [Int.fdiv_eq_ediv_of_nonneg _ (by decide)]; rfl
theorem shrI_u63 (a : Int) : shrI .u64 a 63 = a / 9223372036854775808 := by
  unfold shrI
  show a.fdiv (2 ^ 63) = _
  rw [Int.fdiv_eq_ediv_of_nonneg _ (by decide)]; rfl
theorem shlI_u1 (a : Int) : shlI .u64 a 1 = (a * 2) % 18446744073709551616 := by
  unfold shlI; rw [wrap_u]; rfl
theorem shlI_u32 (a : Int) : shlI .u64 a 32 = (a * 4294967296) % 18446744073709551616 := by
  unfold shlI; rw [wrap_u]; rfl
theorem andI_u32 (a : Int) : andI .u64 a 4294967295 = a % 4294967296 := by
  unfold andI
  have hb : IntKind.u64.bits = 64 := rfl
  rw [hb, wrap_u]
  have h1 : (BitVec.ofInt 64 a &&& BitVec.ofInt 64 4294967295).toNat = (a % 18446744073709551616).toNat % 4294967296 := by
    rw [BitVec.toNat_and]
    have : (BitVec.ofInt 64 4294967295).toNat = 2 ^ 32 - 1 := rfl
    rw [this, Nat.and_two_pow_sub_one_eq_mod, BitVec.toNat_ofInt]
    rfl
  rw [h1]; omega
/-- An even number, and 0 or 1. -/
theorem orI_u {h c : Int} (h0 : 0 ≤ h) (h1 : h < 18446744073709551616) (he : h % 2 = 0) (hc : c = 0 ∨ c = 1) : orI .u64 h c = h + c := by
  unfold orI
  have hb : IntKind.u64.bits = 64 := rfl
  rw [hb, wrap_u]
  have e1 : (BitVec.ofInt 64 h ||| BitVec.ofInt 64 c).toNat = h.toNat ||| c.toNat := by
    rw [BitVec.toNat_or, BitVec.toNat_ofInt, BitVec.toNat_ofInt]
    congr 1 <;> omega
  rw [e1]
  have e2 : h.toNat = 2 * (h.toNat / 2) := by omega
  have e3 : h.toNat ||| c.toNat = h.toNat + c.toNat := by
    rcases hc with rfl | rfl
    · simp
    · rw [e2]
      have := Nat.two_pow_add_eq_or_of_lt (i := 1) (b := 1) (by decide) (h.toNat / 2)
      simpa using this.symm
  rw [e3]; omega
def sgn (n : Int) : Int := if 0 < n then 1 else if n < 0 then -1 else 0
theorem sq_bound {a : Int} (h0 : -9223372036854775808 ≤ a) (h1 : a ≤ 9223372036854775807) : 0 ≤ (a.natAbs : Int) * a.natAbs ∧ (a.natAbs : Int) * a.natAbs ≤ 85070591730234615865843651857942052864 := by
  have h2 : (a.natAbs : Int) ≤ 9223372036854775808 := by omega
  exact ⟨Int.mul_nonneg (by omega) (by omega), Int.mul_le_mul h2 h2 (by omega) (by omega)⟩
theorem natAbs_sq (a : Int) : (a.natAbs : Int) * a.natAbs = a * a := Int.natAbs_mul_self' a
/-- The sign. -/
def nsign (x : Nu) : Int := if sgn x.a = sgn x.b ∨ sgn x.b = 0 then sgn x.a else if sgn x.a = 0 ∨ ¬ (2 * (x.b * x.b) < x.a * x.a) then sgn x.b else sgn x.a
end Go.Vai
