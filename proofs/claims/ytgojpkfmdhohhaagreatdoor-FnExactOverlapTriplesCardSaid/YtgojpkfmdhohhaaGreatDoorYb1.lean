/- Merged texts of this claim: Zn1, Zt0, Zn2, Zn3. -/
import Derived.Test.YtgojpkfmdhohhaaGreatDoorZvE
import Derived.Test.YtgojpkfmdhohhaaGreatDoorZv18
set_option linter.unusedVariables false
set_option linter.unusedSimpArgs false
set_option maxHeartbeats 4000000
namespace Go.Vai
/-! ### Machine numbers -/
def pw (n : Int) : Int := 2 ^ n.toNat
theorem andI_one (a : Int) : andI .i64 a 1 = a % 2 := by
  unfold andI
  have hb : IntKind.i64.bits = 64 := rfl
  rw [hb]
  have h1 : (BitVec.ofInt 64 a &&& BitVec.ofInt 64 1).toNat = (a % 18446744073709551616).toNat % 2 := by
    rw [BitVec.toNat_and]
    have : (BitVec.ofInt 64 1).toNat = 2 ^ 1 - 1 := rfl
    rw [this, Nat.and_two_pow_sub_one_eq_mod, BitVec.toNat_ofInt]
    rfl
  rw [h1, wrap_i64] <;> omega
theorem shlI_pw {a s : Int} (h0 : 0 ≤ s) (h1 : s ≤ 64) (h2 : (a * pw s).natAbs ≤ 9223372036854775807) : shlI .i64 a s = a * pw s := by
  unfold shlI
  have e : min s.toNat IntKind.i64.bits = s.toNat := by
    have : IntKind.i64.bits = 64 := rfl
    rw [this]; omega
  rw [e]
  show IntKind.i64.wrap (a * pw s) = a * pw s
  exact wrap_i64 (by omega) (by omega)
theorem tdiv2 {a : Int} (h : a % 2 = 0) : a.tdiv 2 = a / 2 := by
  rw [Int.tdiv_eq_ediv]
  split <;> omega
theorem tmod2 (a : Int) : (a.tmod 2 = 0) = (a % 2 = 0) := by
  apply propext
  rw [← Int.dvd_iff_tmod_eq_zero, ← Int.dvd_iff_emod_eq_zero]
/-- A number with parts, over a power of 2. -/
structure Nu where
  a : Int
  b : Int
  k : Int
  deriving DecidableEq, Inhabited
def encN (x : Nu) : List IV := [.int .i64 x.a, .int .i64 x.b, .int .i64 x.k]
@[simp] theorem encN_len (x : Nu) : (encN x).length = 3 := rfl
@[simp] theorem encN_take (x : Nu) : (encN x).take 3 = encN x := rfl
def Nu.i64 (x : Nu) : Prop := (-9223372036854775808 ≤ x.a ∧ x.a ≤ 9223372036854775807) ∧ (-9223372036854775808 ≤ x.b ∧ x.b ≤ 9223372036854775807) ∧ (-9223372036854775808 ≤ x.k ∧ x.k ≤ 9223372036854775807)
def lowF : Nat → Nu → Nu
  | 0, x => x
  | n + 1, x => if 0 < x.k ∧ x.a % 2 = 0 ∧ x.b % 2 = 0 then lowF n ⟨x.a / 2, x.b / 2, x.k - 1⟩ else x
/-- Lowest form. -/
def low (x : Nu) : Nu := if x.a = 0 ∧ x.b = 0 then ⟨0, 0, 0⟩ else lowF x.k.toNat x
theorem low_step {x : Nu} (h : 0 < x.k) (ha : x.a % 2 = 0) (hb : x.b % 2 = 0) : low ⟨x.a / 2, x.b / 2, x.k - 1⟩ = low x := by
  unfold low
  by_cases h0 : x.a = 0 ∧ x.b = 0
  · rw [if_pos h0, if_pos (by simp only; omega)]
  · rw [if_neg h0, if_neg (by simp only; omega)]
    have : x.k.toNat = (x.k - 1).toNat + 1 := by omega
    rw [this]
    simp only [lowF]
    rw [if_pos ⟨h, ha, hb⟩]
theorem low_end {x : Nu} (h : ¬ (0 < x.k ∧ x.a % 2 = 0 ∧ x.b % 2 = 0)) (h0 : x.a = 0 ∧ x.b = 0 → x.k = 0) : low x = x := by
  unfold low
  split
  · rename_i hz
    have := h0 hz
    obtain ⟨a, b, k⟩ := x
    simp only at *
    rw [hz.1, hz.2, this]
  · cases hk : x.k.toNat with
    | zero => rfl
    | succ n => simp only [lowF]; rw [if_neg h]
theorem lowF_k {n : Nat} : ∀ {x : Nu}, n = x.k.toNat → 0 ≤ x.k → 0 ≤ (lowF n x).k ∧ (lowF n x).k ≤ x.k := by
  induction n with
  | zero => intro x h h0; exact ⟨h0, Int.le_refl _⟩
  | succ n ih =>
    intro x h h0
    simp only [lowF]
    split
    · rename_i hc
      have := ih (x := ⟨x.a / 2, x.b / 2, x.k - 1⟩) (by simp only; omega) (by simp only; omega)
      simp only at this
      omega
    · exact ⟨h0, Int.le_refl _⟩
theorem low_k {x : Nu} (h : 0 ≤ x.k) : 0 ≤ (low x).k ∧ (low x).k ≤ x.k := by
  unfold low
  split
  · exact ⟨Int.le_refl _, h⟩
  · exact lowF_k rfl h
/-- Parts within M at the scale of 2^K. -/
structure NB (K M : Nat) (x : Nu) : Prop where
  k0 : 0 ≤ x.k
  k1 : x.k.toNat ≤ K
  a : x.a.natAbs * 2 ^ (K - x.k.toNat) ≤ M
  b : x.b.natAbs * 2 ^ (K - x.k.toNat) ≤ M
theorem NB.mono {K M M' : Nat} {x : Nu} (h : NB K M x) (hM : M ≤ M') : NB K M' x := ⟨h.k0, h.k1, Nat.le_trans h.a hM, Nat.le_trans h.b hM⟩
theorem NB.up {K K' M : Nat} {x : Nu} (h : NB K M x) (hK : K ≤ K') : NB K' (M * 2 ^ (K' - K)) x := by
  have e : K' - x.k.toNat = (K - x.k.toNat) + (K' - K) := by have := h.k1; omega
  refine ⟨h.k0, Nat.le_trans h.k1 hK, ?_, ?_⟩
  · rw [e, Nat.pow_add, ← Nat.mul_assoc]; exact Nat.mul_le_mul_right _ h.a
  · rw [e, Nat.pow_add, ← Nat.mul_assoc]; exact Nat.mul_le_mul_right _ h.b
theorem le_mul_pow (a n : Nat) : a ≤ a * 2 ^ n := Nat.le_mul_of_pos_right _ (Nat.two_pow_pos n)
theorem NB.abs {K M : Nat} {x : Nu} (h : NB K M x) : x.a.natAbs ≤ M ∧ x.b.natAbs ≤ M :=
  ⟨Nat.le_trans (le_mul_pow _ _) h.a, Nat.le_trans (le_mul_pow _ _) h.b⟩
theorem NB.lowF {K M : Nat} : ∀ (n : Nat) {x : Nu}, NB K M x → NB K M (Vai.lowF n x)
  | 0, x, h => h
  | n + 1, x, h => by
    simp only [Vai.lowF]
    split
    · rename_i hc
      refine NB.lowF n ⟨by simp only; omega, by simp only; have := h.k1; omega, ?_, ?_⟩
      · have e : K - (x.k - 1).toNat = (K - x.k.toNat) + 1 := by have := h.k1; omega
        have e2 : x.a.natAbs = (x.a / 2).natAbs * 2 := by omega
        have := h.a
        rw [e2, Nat.mul_assoc, ← Nat.pow_succ'] at this
        simp only; rw [e]; exact this
      · have e : K - (x.k - 1).toNat = (K - x.k.toNat) + 1 := by have := h.k1; omega
        have e2 : x.b.natAbs = (x.b / 2).natAbs * 2 := by omega
        have := h.b
        rw [e2, Nat.mul_assoc, ← Nat.pow_succ'] at this
        simp only; rw [e]; exact this
    · exact h
theorem NB.low {K M : Nat} {x : Nu} (h : NB K M x) : NB K M (Vai.low x) := by
  unfold Vai.low
  split
  · exact ⟨by simp, by simp, by simp, by simp⟩
  · exact h.lowF _
theorem NB.zero (K M : Nat) : NB K M ⟨0, 0, 0⟩ := ⟨by simp, by simp, by simp, by simp⟩
/-! ### Operations -/
def nadd (x y : Nu) : Nu := low ⟨x.a * pw (max x.k y.k - x.k) + y.a * pw (max x.k y.k - y.k), x.b * pw (max x.k y.k - x.k) + y.b * pw (max x.k y.k - y.k), max x.k y.k⟩
def nneg (x : Nu) : Nu := ⟨-x.a, -x.b, x.k⟩
def nsub (x y : Nu) : Nu := nadd x (nneg y)
def nmul (x y : Nu) : Nu := low ⟨x.a * y.a + 2 * x.b * y.b, x.a * y.b + x.b * y.a, x.k + y.k⟩
theorem NB.neg {K M : Nat} {x : Nu} (h : NB K M x) : NB K M (nneg x) := ⟨h.k0, h.k1, by simpa [nneg] using h.a, by simpa [nneg] using h.b⟩
theorem pw_abs (n : Int) : (pw n).natAbs = 2 ^ n.toNat := by simp [pw, Int.natAbs_pow]
theorem shift_le {K k m : Nat} {a : Int} (hk : k ≤ m) (hm : m ≤ K) : (a.natAbs * 2 ^ (m - k)) * 2 ^ (K - m) = a.natAbs * 2 ^ (K - k) := by
  rw [Nat.mul_assoc, ← Nat.pow_add]; congr 2; omega
theorem NB.shift {K M : Nat} {x : Nu} (h : NB K M x) {m : Int} (h1 : x.k ≤ m) (h2 : m.toNat ≤ K) :
    (x.a * pw (m - x.k)).natAbs * 2 ^ (K - m.toNat) ≤ M ∧ (x.b * pw (m - x.k)).natAbs * 2 ^ (K - m.toNat) ≤ M := by
  have h0 := h.k0
  have e : (m - x.k).toNat = m.toNat - x.k.toNat := by omega
  have e1 : x.k.toNat ≤ m.toNat := by omega
  rw [Int.natAbs_mul, Int.natAbs_mul, pw_abs, e, shift_le e1 h2, shift_le e1 h2]
  exact ⟨h.a, h.b⟩
theorem NB.pre_add {K M M' : Nat} {x y : Nu} (h : NB K M x) (h' : NB K M' y) : NB K (M + M') ⟨x.a * pw (max x.k y.k - x.k) + y.a * pw (max x.k y.k - y.k), x.b * pw (max x.k y.k - x.k) + y.b * pw (max x.k y.k - y.k), max x.k y.k⟩ := by
  have k0 := h.k0; have k0' := h'.k0; have k1 := h.k1; have k1' := h'.k1
  have hm : (max x.k y.k).toNat ≤ K := by omega
  obtain ⟨a1, b1⟩ := h.shift (m := max x.k y.k) (by omega) hm
  obtain ⟨a2, b2⟩ := h'.shift (m := max x.k y.k) (by omega) hm
  refine ⟨by simp only; omega, hm, ?_, ?_⟩
  · refine Nat.le_trans (Nat.mul_le_mul_right _ (Int.natAbs_add_le _ _)) ?_
    rw [Nat.add_mul]; exact Nat.add_le_add a1 a2
  · refine Nat.le_trans (Nat.mul_le_mul_right _ (Int.natAbs_add_le _ _)) ?_
    rw [Nat.add_mul]; exact Nat.add_le_add b1 b2
theorem NB.add {K M M' : Nat} {x y : Nu} (h : NB K M x) (h' : NB K M' y) : NB K (M + M') (nadd x y) := (h.pre_add h').low
theorem NB.sub {K M M' : Nat} {x y : Nu} (h : NB K M x) (h' : NB K M' y) : NB K (M + M') (nsub x y) := h.add h'.neg
theorem prod_le {K K' k k' M M' : Nat} {a c : Int} (ha : a.natAbs * 2 ^ (K - k) ≤ M) (hc : c.natAbs * 2 ^ (K' - k') ≤ M') (hk : k ≤ K) (hk' : k' ≤ K') : (a * c).natAbs * 2 ^ (K + K' - (k + k')) ≤ M * M' := by
  have e : K + K' - (k + k') = (K - k) + (K' - k') := by omega
  rw [e, Nat.pow_add, Int.natAbs_mul]
  calc a.natAbs * c.natAbs * (2 ^ (K - k) * 2 ^ (K' - k')) = (a.natAbs * 2 ^ (K - k)) * (c.natAbs * 2 ^ (K' - k')) := by ac_rfl
    _ ≤ M * M' := Nat.mul_le_mul ha hc
theorem NB.pre_mul {K K' M M' : Nat} {x y : Nu} (h : NB K M x) (h' : NB K' M' y) : NB (K + K') (3 * (M * M')) ⟨x.a * y.a + 2 * x.b * y.b, x.a * y.b + x.b * y.a, x.k + y.k⟩ := by
  have k0 := h.k0; have k0' := h'.k0; have k1 := h.k1; have k1' := h'.k1
  have e : (x.k + y.k).toNat = x.k.toNat + y.k.toNat := by omega
  have p1 := prod_le h.a h'.a k1 k1'
  have p2 := prod_le h.b h'.b k1 k1'
  have p3 := prod_le h.a h'.b k1 k1'
  have p4 := prod_le h.b h'.a k1 k1'
  refine ⟨by simp only; omega, by simp only; omega, ?_, ?_⟩
  · simp only [e]
    refine Nat.le_trans (Nat.mul_le_mul_right _ (Int.natAbs_add_le _ _)) ?_
    rw [Nat.add_mul, Int.mul_assoc, Int.natAbs_mul 2, Nat.mul_assoc]
    have : Int.natAbs 2 = 2 := rfl
    rw [this]; omega
  · simp only [e]
    refine Nat.le_trans (Nat.mul_le_mul_right _ (Int.natAbs_add_le _ _)) ?_
    rw [Nat.add_mul]; omega
theorem NB.mul {K K' M M' : Nat} {x y : Nu} (h : NB K M x) (h' : NB K' M' y) : NB (K + K') (3 * (M * M')) (nmul x y) := (h.pre_mul h').low
end Go.Vai
set_option linter.unusedVariables false
set_option linter.unusedSimpArgs false
set_option maxHeartbeats 4000000
namespace Go.Vai
def inB (n lo hi : Int) : Bool := decide (lo ≤ n) && decide (n ≤ hi)
theorem inB_iff {n lo hi : Int} : inB n lo hi = true ↔ lo ≤ n ∧ n ≤ hi := by simp [inB]
theorem c35 (n lo hi : Int) : PC E 35 [.i (.int .i64 n), .i (.int .i64 lo), .i (.int .i64 hi)] [.i (.bool (inB n lo hi))] := by
  refine PC_start hE Proofs.Tryz.func35 rfl rfl Proofs.Tryz.ntmps35 (by kernel_rfl) (by kernel_rfl) (by simp) ?_
  simp (maxSteps := 1000000) (disch := first | (exact DrawOk.mk (by decide +kernel)) | omega | simp) [wrap_i64, le_most, lt_omega, le_omega, ne_omega, allLen, inB]
  (first | refine Gd.dec (fun h1 => ?_) (fun h1 => ?_) | refine Gd.intro (fun h1 => ?_) (fun h1 => ?_)) <;> simp (maxSteps := 1000000) (disch := first | (exact DrawOk.mk (by decide +kernel)) | omega | simp) [wrap_i64, le_most, lt_omega, le_omega, ne_omega, allLen, h1]
theorem c31 (n lo hi : Int) : PC E 31 [.i (.int .i64 n), .i (.int .i64 lo), .i (.int .i64 hi)] [.i (.bool (inB n lo hi))] := by
  refine PC_start hE Proofs.Tryz.func31 rfl rfl Proofs.Tryz.ntmps31 (by kernel_rfl) (by kernel_rfl) (by simp) ?_
  simp (maxSteps := 1000000) (disch := first | (exact DrawOk.mk (by decide +kernel)) | omega | simp) [wrap_i64, le_most, lt_omega, le_omega, ne_omega, allLen, inB]
  (first | refine Gd.dec (fun h1 => ?_) (fun h1 => ?_) | refine Gd.intro (fun h1 => ?_) (fun h1 => ?_)) <;> simp (maxSteps := 1000000) (disch := first | (exact DrawOk.mk (by decide +kernel)) | omega | simp) [wrap_i64, le_most, lt_omega, le_omega, ne_omega, allLen, h1]
end Go.Vai
set_option linter.unusedVariables false
set_option linter.unusedSimpArgs false
set_option maxHeartbeats 4000000
namespace Go.Vai
theorem c110 (x : Nu) (h : x.i64) (h0 : 0 ≤ x.k) : PC E 110 [.agg (encN x)] [.agg (encN (low x))] := by
  refine PC_start hE Proofs.Tryz.func110 rfl rfl Proofs.Tryz.ntmps110 (by kernel_rfl) (by kernel_rfl) (by simp) ?_
  simp (maxSteps := 1000000) (disch := first | (exact DrawOk.mk (by decide +kernel)) | omega | simp) [wrap_i64, le_most, lt_omega, le_omega, ne_omega, allLen]
  refine XL.by hE (ι := { y : Nu // y.i64 ∧ 0 ≤ y.k ∧ low y = low x }) (fun y => ⟨[(1, .ptr 1 0 0), (2, .ptr 2 0 0)], [(1, ⟨3, [encN y.1]⟩), (2, ⟨3, [[.int .i64 0, .int .i64 0, .int .i64 0]]⟩)]⟩)
    (fun y => y.1.k.toNat) ⟨x, h, h0, rfl⟩ ⟨by simp, by simp, by simp⟩ (by kernel_rfl) ?_
  rintro ⟨⟨a, b, k⟩, hi, hk, hl⟩
  obtain ⟨⟨ha1, ha2⟩, ⟨hb1, hb2⟩, hk1, hk2⟩ := hi
  simp only at ha1 ha2 hb1 hb2 hk1 hk2 hk
  by_cases hkp : 0 < k
  · by_cases hpa : a % 2 = 0
    · by_cases hpb : b % 2 = 0
      · have ta := tdiv2 hpa
        have tb := tdiv2 hpb
        have hs := low_step (x := ⟨a, b, k⟩) hkp hpa hpb
        simp only at hs
        simp (maxSteps := 1000000) (disch := first | (exact DrawOk.mk (by decide +kernel)) | omega | simp) [wrap_i64, le_most, lt_omega, le_omega, ne_omega, allLen, encN, hkp, andI_one, hpa, hpb, ta, tb]
        by_cases za : a / 2 = 0
        · by_cases zb : b / 2 = 0
          · simp (maxSteps := 1000000) (disch := first | (exact DrawOk.mk (by decide +kernel)) | omega | simp) [wrap_i64, le_most, lt_omega, le_omega, ne_omega, allLen, za, zb]
            have hz : low ⟨0, 0, 0⟩ = low x := by
              rw [← hl, ← hs]
              unfold low
              simp [za, zb]
            (refine ⟨⟨⟨0, 0, 0⟩, by unfold Nu.i64; simp, by simp, hz⟩, by (simp; try omega), ?_⟩; constructor <;> (simp (maxSteps := 1000000) (disch := first | (exact DrawOk.mk (by decide +kernel)) | omega | simp) [wrap_i64, le_most, lt_omega, le_omega, ne_omega, allLen, encN]) <;> (try omega))
          · simp (maxSteps := 1000000) (disch := first | (exact DrawOk.mk (by decide +kernel)) | omega | simp) [wrap_i64, le_most, lt_omega, le_omega, ne_omega, allLen, za, zb]
            (refine ⟨⟨⟨a / 2, b / 2, k - 1⟩, by unfold Nu.i64; simp only; omega, by simp only; omega, by rw [hs, hl]⟩, by (simp; try omega), ?_⟩; constructor <;> (simp (maxSteps := 1000000) (disch := first | (exact DrawOk.mk (by decide +kernel)) | omega | simp) [wrap_i64, le_most, lt_omega, le_omega, ne_omega, allLen, encN, za]) <;> (try omega))
        · simp (maxSteps := 1000000) (disch := first | (exact DrawOk.mk (by decide +kernel)) | omega | simp) [wrap_i64, le_most, lt_omega, le_omega, ne_omega, allLen, za]
          (refine ⟨⟨⟨a / 2, b / 2, k - 1⟩, by unfold Nu.i64; simp only; omega, by simp only; omega, by rw [hs, hl]⟩, by (simp; try omega), ?_⟩; constructor <;> (simp (maxSteps := 1000000) (disch := first | (exact DrawOk.mk (by decide +kernel)) | omega | simp) [wrap_i64, le_most, lt_omega, le_omega, ne_omega, allLen, encN]) <;> (try omega))
      · have he := low_end (x := ⟨a, b, k⟩) (by simp only; omega) (by simp only; omega)
        simp (maxSteps := 1000000) (disch := first | (exact DrawOk.mk (by decide +kernel)) | omega | simp) [wrap_i64, le_most, lt_omega, le_omega, ne_omega, allLen, encN, hkp, andI_one, hpa, hpb]
        rw [← hl, he]
        exact ⟨rfl, rfl, rfl⟩
    · have he := low_end (x := ⟨a, b, k⟩) (by simp only; omega) (by simp only; omega)
      simp (maxSteps := 1000000) (disch := first | (exact DrawOk.mk (by decide +kernel)) | omega | simp) [wrap_i64, le_most, lt_omega, le_omega, ne_omega, allLen, encN, hkp, andI_one, hpa]
      rw [← hl, he]
      exact ⟨rfl, rfl, rfl⟩
  · have he := low_end (x := ⟨a, b, k⟩) (by simp only; omega) (by simp only; omega)
    simp (maxSteps := 1000000) (disch := first | (exact DrawOk.mk (by decide +kernel)) | omega | simp) [wrap_i64, le_most, lt_omega, le_omega, ne_omega, allLen, encN, hkp]
    rw [← hl, he]
    exact ⟨rfl, rfl, rfl⟩
theorem c104 (x : Nu) (h : x.i64) (ha : x.a ≠ -9223372036854775808) (hb : x.b ≠ -9223372036854775808) : PC E 104 [.agg (encN x)] [.agg (encN (nneg x))] := by
  obtain ⟨⟨ha1, ha2⟩, ⟨hb1, hb2⟩, hk1, hk2⟩ := h
  refine PC_start hE Proofs.Tryz.func104 rfl rfl Proofs.Tryz.ntmps104 (by kernel_rfl) (by kernel_rfl) (by simp) ?_
  simp (maxSteps := 1000000) (disch := first | (exact DrawOk.mk (by decide +kernel)) | omega | simp) [wrap_i64, le_most, lt_omega, le_omega, ne_omega, allLen, encN, nneg]
theorem NB.i64 {K M : Nat} {x : Nu} (h : NB K M x) (hM : M ≤ 4611686018427387904) (hK : K ≤ 60) : x.i64 := by
  have := h.abs; have := h.k0; have := h.k1
  unfold Nu.i64; omega
theorem c105 (x y : Nu) {K M M' : Nat} (h : NB K M x) (h' : NB K M' y) (hK : K ≤ 60) (hM : M + M' ≤ 4611686018427387904) : PC E 105 [.agg (encN x), .agg (encN y)] [.agg (encN (nadd x y))] := by
  refine PC_start hE Proofs.Tryz.func105 rfl rfl Proofs.Tryz.ntmps105 (by kernel_rfl) (by kernel_rfl) (by simp) ?_
  have hp := h.pre_add h'
  have k0 := h.k0; have k0' := h'.k0; have k1 := h.k1; have k1' := h'.k1
  obtain ⟨a1, b1⟩ := h.shift (m := max x.k y.k) (by omega) (by omega)
  obtain ⟨a2, b2⟩ := h'.shift (m := max x.k y.k) (by omega) (by omega)
  have q1 := Nat.le_trans (le_mul_pow _ _) a1
  have q2 := Nat.le_trans (le_mul_pow _ _) a2
  have q3 := Nat.le_trans (le_mul_pow _ _) b1
  have q4 := Nat.le_trans (le_mul_pow _ _) b2
  have hd : nadd x y = low ⟨x.a * pw (max x.k y.k - x.k) + y.a * pw (max x.k y.k - y.k), x.b * pw (max x.k y.k - x.k) + y.b * pw (max x.k y.k - y.k), max x.k y.k⟩ := rfl
  rw [hd]
  have em : (if x.k < y.k then y.k else x.k) = max x.k y.k := by split <;> omega
  have hm0 : x.k ≤ max x.k y.k := by omega
  have hm1 : y.k ≤ max x.k y.k := by omega
  have hm2 : max x.k y.k ≤ 60 := by omega
  generalize max x.k y.k = m at *
  have e1 := shlI_pw (a := x.a) (s := m - x.k) (by omega) (by omega) (by omega)
  have e2 := shlI_pw (a := y.a) (s := m - y.k) (by omega) (by omega) (by omega)
  have e3 := shlI_pw (a := x.b) (s := m - x.k) (by omega) (by omega) (by omega)
  have e4 := shlI_pw (a := y.b) (s := m - y.k) (by omega) (by omega) (by omega)
  have n1 : ¬ (m - x.k < 0) := by omega
  have n2 : ¬ (m - y.k < 0) := by omega
  have hi := hp.i64 hM hK
  generalize x.a * pw (m - x.k) = A1 at *
  generalize y.a * pw (m - y.k) = A2 at *
  generalize x.b * pw (m - x.k) = B1 at *
  generalize y.b * pw (m - y.k) = B2 at *
  simp (maxSteps := 1000000) (disch := first | (exact DrawOk.mk (by decide +kernel)) | omega | simp) [wrap_i64, le_most, lt_omega, le_omega, ne_omega, allLen, encN, em, n1, n2, e1, e2, e3, e4]
  refine CallK.of (c110 ⟨A1 + A2, B1 + B2, m⟩ hi hp.k0) (by first | exact .inl rfl | exact .inr (by simp)) (by simp) ?_
  simp (maxSteps := 1000000) (disch := first | (exact DrawOk.mk (by decide +kernel)) | omega | simp) [wrap_i64, le_most, lt_omega, le_omega, ne_omega, allLen, encN]
theorem NB.ne {K M : Nat} {x : Nu} (h : NB K M x) (hM : M ≤ 4611686018427387904) : x.a ≠ -9223372036854775808 ∧ x.b ≠ -9223372036854775808 := by
  have := h.abs; omega
theorem c100 (x y : Nu) {K M M' : Nat} (h : NB K M x) (h' : NB K M' y) (hK : K ≤ 60) (hM : M + M' ≤ 4611686018427387904) : PC E 100 [.agg (encN x), .agg (encN y)] [.agg (encN (nsub x y))] := by
  refine PC_start hE Proofs.Tryz.func100 rfl rfl Proofs.Tryz.ntmps100 (by kernel_rfl) (by kernel_rfl) (by simp) ?_
  simp (maxSteps := 1000000) (disch := first | (exact DrawOk.mk (by decide +kernel)) | omega | simp) [wrap_i64, le_most, lt_omega, le_omega, ne_omega, allLen]
  refine CallK.of (c104 y (h'.i64 (by omega) hK) (h'.ne (by omega)).1 (h'.ne (by omega)).2) (by first | exact .inl rfl | exact .inr (by simp)) (by simp) ?_
  simp (maxSteps := 1000000) (disch := first | (exact DrawOk.mk (by decide +kernel)) | omega | simp) [wrap_i64, le_most, lt_omega, le_omega, ne_omega, allLen]
  refine CallK.of (c105 x (nneg y) h h'.neg hK hM) (by first | exact .inl rfl | exact .inr (by simp)) (by simp) ?_
  simp (maxSteps := 1000000) (disch := first | (exact DrawOk.mk (by decide +kernel)) | omega | simp) [wrap_i64, le_most, lt_omega, le_omega, ne_omega, allLen, encN, nsub]
theorem c101 (x y : Nu) {K K' M M' : Nat} (h : NB K M x) (h' : NB K' M' y) (hK : K + K' ≤ 60) (hM : 3 * (M * M') ≤ 4611686018427387904) (h2 : M ≤ 2305843009213693952) : PC E 101 [.agg (encN x), .agg (encN y)] [.agg (encN (nmul x y))] := by
  refine PC_start hE Proofs.Tryz.func101 rfl rfl Proofs.Tryz.ntmps101 (by kernel_rfl) (by kernel_rfl) (by simp) ?_
  have hp := h.pre_mul h'
  have hi := hp.i64 hM hK
  have k0 := h.k0; have k0' := h'.k0; have k1 := h.k1; have k1' := h'.k1
  obtain ⟨xa, xb⟩ := h.abs
  obtain ⟨ya, yb⟩ := h'.abs
  have m1 := Nat.mul_le_mul xa ya
  have m2 := Nat.mul_le_mul xb yb
  have m3 := Nat.mul_le_mul xa yb
  have m4 := Nat.mul_le_mul xb ya
  rw [← Int.natAbs_mul] at m1 m2 m3 m4
  have hd : nmul x y = low ⟨x.a * y.a + 2 * x.b * y.b, x.a * y.b + x.b * y.a, x.k + y.k⟩ := rfl
  rw [hd]
  have e2 : 2 * x.b * y.b = 2 * (x.b * y.b) := Int.mul_assoc ..
  have e3 : 2 * x.b * y.b = 2 * (x.b * y.b) := Int.mul_assoc ..
  simp only [e2] at hi hp ⊢
  generalize hP : M * M' = P at *
  generalize hq1 : x.a * y.a = p1 at *
  generalize hq2 : x.b * y.b = p2 at *
  generalize hq3 : x.a * y.b = p3 at *
  generalize hq4 : x.b * y.a = p4 at *
  simp (maxSteps := 1000000) (disch := first | (exact DrawOk.mk (by decide +kernel)) | omega | simp) [wrap_i64, le_most, lt_omega, le_omega, ne_omega, allLen, encN, hq1, hq2, hq3, hq4, e3]
  refine CallK.of (c110 ⟨p1 + 2 * p2, p3 + p4, x.k + y.k⟩ hi hp.k0) (by first | exact .inl rfl | exact .inr (by simp)) (by simp) ?_
  simp (maxSteps := 1000000) (disch := first | (exact DrawOk.mk (by decide +kernel)) | omega | simp) [wrap_i64, le_most, lt_omega, le_omega, ne_omega, allLen, encN]
/-- A number within the limits. -/
def vN (x : Nu) : Bool := inB x.a (-131072) 131072 && (inB x.b (-131072) 131072 && (inB x.k 0 10 && (decide (x.k = 0) || (decide (x.a % 2 = 1) || decide (x.b % 2 = 1)))))
theorem c86 (x : Nu) : PC E 86 [.agg (encN x)] [.i (.bool (vN x))] := by
  refine PC_start hE Proofs.Tryz.func86 rfl rfl Proofs.Tryz.ntmps86 (by kernel_rfl) (by kernel_rfl) (by simp) ?_
  simp (maxSteps := 1000000) (disch := first | (exact DrawOk.mk (by decide +kernel)) | omega | simp) [wrap_i64, le_most, lt_omega, le_omega, ne_omega, allLen, encN]
  refine CallK.of (c35 _ _ _) (by first | exact .inl rfl | exact .inr (by simp)) (by simp) ?_
  simp (maxSteps := 1000000) (disch := first | (exact DrawOk.mk (by decide +kernel)) | omega | simp) [wrap_i64, le_most, lt_omega, le_omega, ne_omega, allLen]
  generalize h1 : inB x.a (-131072) 131072 = q1
  cases q1
  · simp (maxSteps := 1000000) (disch := first | (exact DrawOk.mk (by decide +kernel)) | omega | simp) [wrap_i64, le_most, lt_omega, le_omega, ne_omega, allLen]
    simp [vN, h1]
  simp (maxSteps := 1000000) (disch := first | (exact DrawOk.mk (by decide +kernel)) | omega | simp) [wrap_i64, le_most, lt_omega, le_omega, ne_omega, allLen]
  refine CallK.of (c35 _ _ _) (by first | exact .inl rfl | exact .inr (by simp)) (by simp) ?_
  simp (maxSteps := 1000000) (disch := first | (exact DrawOk.mk (by decide +kernel)) | omega | simp) [wrap_i64, le_most, lt_omega, le_omega, ne_omega, allLen]
  generalize h2 : inB x.b (-131072) 131072 = q2
  cases q2
  · simp (maxSteps := 1000000) (disch := first | (exact DrawOk.mk (by decide +kernel)) | omega | simp) [wrap_i64, le_most, lt_omega, le_omega, ne_omega, allLen]
    simp [vN, h2]
  simp (maxSteps := 1000000) (disch := first | (exact DrawOk.mk (by decide +kernel)) | omega | simp) [wrap_i64, le_most, lt_omega, le_omega, ne_omega, allLen]
  refine CallK.of (c35 _ _ _) (by first | exact .inl rfl | exact .inr (by simp)) (by simp) ?_
  simp (maxSteps := 1000000) (disch := first | (exact DrawOk.mk (by decide +kernel)) | omega | simp) [wrap_i64, le_most, lt_omega, le_omega, ne_omega, allLen]
  generalize h3 : inB x.k 0 10 = q3
  cases q3
  · simp (maxSteps := 1000000) (disch := first | (exact DrawOk.mk (by decide +kernel)) | omega | simp) [wrap_i64, le_most, lt_omega, le_omega, ne_omega, allLen]
    simp [vN, h3]
  simp (maxSteps := 1000000) (disch := first | (exact DrawOk.mk (by decide +kernel)) | omega | simp) [wrap_i64, le_most, lt_omega, le_omega, ne_omega, allLen, andI_one]
  (first | refine Gd.dec (fun h4 => ?_) (fun h4 => ?_) | refine Gd.intro (fun h4 => ?_) (fun h4 => ?_)) <;> simp (maxSteps := 1000000) (disch := first | (exact DrawOk.mk (by decide +kernel)) | omega | simp) [wrap_i64, le_most, lt_omega, le_omega, ne_omega, allLen, h4]
  · have e0 : inB 0 0 10 = true := rfl
    simp [vN, h1, h2, h4, e0]
  (first | refine Gd.dec (fun h5 => ?_) (fun h5 => ?_) | refine Gd.intro (fun h5 => ?_) (fun h5 => ?_)) <;> simp (maxSteps := 1000000) (disch := first | (exact DrawOk.mk (by decide +kernel)) | omega | simp) [wrap_i64, le_most, lt_omega, le_omega, ne_omega, allLen, h5]
  · rw [andI_one] at h5
    simp [vN, h1, h2, h3, h5]
  rw [andI_one] at h5
  simp [vN, h1, h2, h3, h4, h5, andI_one]
end Go.Vai
set_option linter.unusedVariables false
set_option linter.unusedSimpArgs false
set_option maxHeartbeats 4000000
namespace Go.Vai
theorem wrap_u (n : Int) : IntKind.u64.wrap n = n % 18446744073709551616 := rfl
theorem wrap_u64 {n : Int} (h0 : 0 ≤ n) (h : n ≤ 18446744073709551615) : IntKind.u64.wrap n = n := by rw [wrap_u]; omega
theorem shrI_u32 (a : Int) : shrI .u64 a 32 = a / 4294967296 := by
  unfold shrI
  show a.fdiv (2 ^ 32) = _
  rw [Int.fdiv_eq_ediv_of_nonneg _ (by decide)]; rfl
theorem shrI_u63 (a : Int) : shrI .u64 a 63 = a / 9223372036854775808 := by
  unfold shrI
  show a.fdiv (2 ^ 63) = _
  rw [Int.fdiv_eq_ediv_of_nonneg _ (by decide)]; rfl
theorem shlI_u1 (a : Int) : shlI .u64 a 1 = (a * 2) % 18446744073709551616 := by
  unfold shlI; rw [wrap_u]; rfl
theorem shlI_u32 (a : Int) : shlI .u64 a 32 = (a * 4294967296) % 18446744073709551616 := by
  unfold shlI; rw [wrap_u]; rfl
theorem andI_u32 (a : Int) : andI .u64 a 4294967295 = a % 4294967296 := by
  unfold andI
  have hb : IntKind.u64.bits = 64 := rfl
  rw [hb, wrap_u]
  have h1 : (BitVec.ofInt 64 a &&& BitVec.ofInt 64 4294967295).toNat = (a % 18446744073709551616).toNat % 4294967296 := by
    rw [BitVec.toNat_and]
    have : (BitVec.ofInt 64 4294967295).toNat = 2 ^ 32 - 1 := rfl
    rw [this, Nat.and_two_pow_sub_one_eq_mod, BitVec.toNat_ofInt]
    rfl
  rw [h1]; omega
/-- An even number, and 0 or 1. -/
theorem orI_u {h c : Int} (h0 : 0 ≤ h) (h1 : h < 18446744073709551616) (he : h % 2 = 0) (hc : c = 0 ∨ c = 1) : orI .u64 h c = h + c := by
  unfold orI
  have hb : IntKind.u64.bits = 64 := rfl
  rw [hb, wrap_u]
  have e1 : (BitVec.ofInt 64 h ||| BitVec.ofInt 64 c).toNat = h.toNat ||| c.toNat := by
    rw [BitVec.toNat_or, BitVec.toNat_ofInt, BitVec.toNat_ofInt]
    congr 1 <;> omega
  rw [e1]
  have e2 : h.toNat = 2 * (h.toNat / 2) := by omega
  have e3 : h.toNat ||| c.toNat = h.toNat + c.toNat := by
    rcases hc with rfl | rfl
    · simp
    · rw [e2]
      have := Nat.two_pow_add_eq_or_of_lt (i := 1) (b := 1) (by decide) (h.toNat / 2)
      simpa using this.symm
  rw [e3]; omega
theorem c111 (x y : Int) (hx0 : 0 ≤ x) (hx1 : x ≤ 18446744073709551615) (hy0 : 0 ≤ y) (hy1 : y ≤ 18446744073709551615) :
    PC E 111 [.i (.int .u64 x), .i (.int .u64 y)] [.i (.int .u64 (x * y / 18446744073709551616)), .i (.int .u64 (x * y % 18446744073709551616))] := by
  refine PC_start hE Proofs.Tryz.func111 rfl rfl Proofs.Tryz.ntmps111 (by kernel_rfl) (by kernel_rfl) (by simp) ?_
  obtain ⟨a, ha⟩ : ∃ a, a = x % 4294967296 := ⟨_, rfl⟩
  obtain ⟨b, hb⟩ : ∃ b, b = x / 4294967296 := ⟨_, rfl⟩
  obtain ⟨c, hc⟩ : ∃ c, c = y % 4294967296 := ⟨_, rfl⟩
  obtain ⟨d, hd⟩ : ∃ d, d = y / 4294967296 := ⟨_, rfl⟩
  have hxe : x = b * 4294967296 + a := by omega
  have hye : y = d * 4294967296 + c := by omega
  have bnd : ∀ u v : Int, 0 ≤ u → u ≤ 4294967295 → 0 ≤ v → v ≤ 4294967295 → 0 ≤ u * v ∧ u * v ≤ 18446744065119617025 := fun u v h1 h2 h3 h4 =>
    ⟨Int.mul_nonneg h1 h3, by have := Int.mul_le_mul h2 h4 h3 (by omega : (0 : Int) ≤ 4294967295); omega⟩
  have b1 := bnd a c (by omega) (by omega) (by omega) (by omega)
  have b2 := bnd b c (by omega) (by omega) (by omega) (by omega)
  have b3 := bnd a d (by omega) (by omega) (by omega) (by omega)
  have b4 := bnd b d (by omega) (by omega) (by omega) (by omega)
  have hxy : x * y = b * d * 18446744073709551616 + (b * c + a * d) * 4294967296 + a * c := by
    rw [hxe, hye]
    simp only [Int.add_mul, Int.mul_add]
    have e1 : b * 4294967296 * (d * 4294967296) = b * d * 18446744073709551616 := by
      rw [Int.mul_assoc, Int.mul_left_comm 4294967296 d, ← Int.mul_assoc]; rfl
    have e2 : b * 4294967296 * c = b * c * 4294967296 := by rw [Int.mul_right_comm]
    have e3 : a * (d * 4294967296) = a * d * 4294967296 := by rw [Int.mul_assoc]
    rw [e1, e2, e3]; omega
  have A : andI .u64 x 4294967295 = a := by rw [andI_u32, ha]
  have B : shrI .u64 x 32 = b := by rw [shrI_u32, hb]
  have C : andI .u64 y 4294967295 = c := by rw [andI_u32, hc]
  have D : shrI .u64 y 32 = d := by rw [shrI_u32, hd]
  generalize hP : x * y = P at *
  generalize hp : a * c = p at *
  generalize hq : b * c = q at *
  generalize hr : a * d = r at *
  generalize hs : b * d = s at *
  simp (maxSteps := 1000000) (disch := first | (exact DrawOk.mk (by decide +kernel)) | omega | simp) [wrap_i64, le_most, lt_omega, le_omega, ne_omega, allLen, A, B, C, D, hP, hp, hq, hr, hs, shrI_u32, andI_u32, wrap_u64]
  simp only [wrap_u]
  exact ⟨by omega, trivial⟩
def sgn (n : Int) : Int := if 0 < n then 1 else if n < 0 then -1 else 0
theorem c112 (n : Int) (h0 : -9223372036854775808 < n) (h1 : n ≤ 9223372036854775807) : PC E 112 [.i (.int .i64 n)] [.i (.int .i64 n.natAbs)] := by
  refine PC_start hE Proofs.Tryz.func112 rfl rfl Proofs.Tryz.ntmps112 (by kernel_rfl) (by kernel_rfl) (by simp) ?_
  simp (maxSteps := 1000000) (disch := first | (exact DrawOk.mk (by decide +kernel)) | omega | simp) [wrap_i64, le_most, lt_omega, le_omega, ne_omega, allLen]
  split <;> omega
theorem c106 (n : Int) (h0 : -9223372036854775808 ≤ n) (h1 : n ≤ 9223372036854775807) : PC E 106 [.i (.int .i64 n)] [.i (.int .i64 (sgn n))] := by
  refine PC_start hE Proofs.Tryz.func106 rfl rfl Proofs.Tryz.ntmps106 (by kernel_rfl) (by kernel_rfl) (by simp) ?_
  simp (maxSteps := 1000000) (disch := first | (exact DrawOk.mk (by decide +kernel)) | omega | simp) [wrap_i64, le_most, lt_omega, le_omega, ne_omega, allLen, sgn]
  split <;> split <;> (try split) <;> omega
theorem sq_bound {a : Int} (h0 : -9223372036854775808 ≤ a) (h1 : a ≤ 9223372036854775807) : 0 ≤ (a.natAbs : Int) * a.natAbs ∧ (a.natAbs : Int) * a.natAbs ≤ 85070591730234615865843651857942052864 := by
  have h2 : (a.natAbs : Int) ≤ 9223372036854775808 := by omega
  exact ⟨Int.mul_nonneg (by omega) (by omega), Int.mul_le_mul h2 h2 (by omega) (by omega)⟩
theorem natAbs_sq (a : Int) : (a.natAbs : Int) * a.natAbs = a * a := Int.natAbs_mul_self' a
theorem c107 (a b : Int) (ha0 : -9223372036854775808 < a) (ha1 : a ≤ 9223372036854775807) (hb0 : -9223372036854775808 < b) (hb1 : b ≤ 9223372036854775807) :
    PC E 107 [.i (.int .i64 a), .i (.int .i64 b)] [.i (.bool (decide (2 * (b * b) < a * a)))] := by
  refine PC_start hE Proofs.Tryz.func107 rfl rfl Proofs.Tryz.ntmps107 (by kernel_rfl) (by kernel_rfl) (by simp) ?_
  have wa : IntKind.u64.wrap (a.natAbs : Int) = a.natAbs := wrap_u64 (by omega) (by omega)
  have wb : IntKind.u64.wrap (b.natAbs : Int) = b.natAbs := wrap_u64 (by omega) (by omega)
  have sa := sq_bound (a := a) (by omega) ha1
  have sb := sq_bound (a := b) (by omega) hb1
  simp (maxSteps := 1000000) (disch := first | (exact DrawOk.mk (by decide +kernel)) | omega | simp) [wrap_i64, le_most, lt_omega, le_omega, ne_omega, allLen]
  refine CallK.of (c112 a ha0 ha1) (by first | exact .inl rfl | exact .inr (by simp)) (by simp) ?_
  simp (maxSteps := 1000000) (disch := first | (exact DrawOk.mk (by decide +kernel)) | omega | simp) [wrap_i64, le_most, lt_omega, le_omega, ne_omega, allLen, wa]
  refine CallK.of (c112 a ha0 ha1) (by first | exact .inl rfl | exact .inr (by simp)) (by simp) ?_
  simp (maxSteps := 1000000) (disch := first | (exact DrawOk.mk (by decide +kernel)) | omega | simp) [wrap_i64, le_most, lt_omega, le_omega, ne_omega, allLen, wa]
  refine CallK.of (c111 a.natAbs a.natAbs (by omega) (by omega) (by omega) (by omega)) (by first | exact .inl rfl | exact .inr (by simp)) (by simp) ?_
  simp (maxSteps := 1000000) (disch := first | (exact DrawOk.mk (by decide +kernel)) | omega | simp) [wrap_i64, le_most, lt_omega, le_omega, ne_omega, allLen]
  refine CallK.of (c112 b hb0 hb1) (by first | exact .inl rfl | exact .inr (by simp)) (by simp) ?_
  simp (maxSteps := 1000000) (disch := first | (exact DrawOk.mk (by decide +kernel)) | omega | simp) [wrap_i64, le_most, lt_omega, le_omega, ne_omega, allLen, wb]
  refine CallK.of (c112 b hb0 hb1) (by first | exact .inl rfl | exact .inr (by simp)) (by simp) ?_
  simp (maxSteps := 1000000) (disch := first | (exact DrawOk.mk (by decide +kernel)) | omega | simp) [wrap_i64, le_most, lt_omega, le_omega, ne_omega, allLen, wb]
  refine CallK.of (c111 b.natAbs b.natAbs (by omega) (by omega) (by omega) (by omega)) (by first | exact .inl rfl | exact .inr (by simp)) (by simp) ?_
  rw [← natAbs_sq a, ← natAbs_sq b]
  generalize (a.natAbs : Int) * a.natAbs = p at *
  generalize (b.natAbs : Int) * b.natAbs = q at *
  have ho : orI .u64 (q / 18446744073709551616 * 2 % 18446744073709551616) (shrI .u64 (q % 18446744073709551616) 63) = q / 18446744073709551616 * 2 + q % 18446744073709551616 / 9223372036854775808 := by
    rw [shrI_u63, orI_u] <;> omega
  simp (maxSteps := 1000000) (disch := first | (exact DrawOk.mk (by decide +kernel)) | omega | simp) [wrap_i64, le_most, lt_omega, le_omega, ne_omega, allLen, ho, shlI_u1]
  (first | refine Gd.dec (fun h1 => ?_) (fun h1 => ?_) | refine Gd.intro (fun h1 => ?_) (fun h1 => ?_)) <;> simp (maxSteps := 1000000) (disch := first | (exact DrawOk.mk (by decide +kernel)) | omega | simp) [wrap_i64, le_most, lt_omega, le_omega, ne_omega, allLen, h1]
  (first | refine Gd.dec (fun h2 => ?_) (fun h2 => ?_) | refine Gd.intro (fun h2 => ?_) (fun h2 => ?_)) <;> simp (maxSteps := 1000000) (disch := first | (exact DrawOk.mk (by decide +kernel)) | omega | simp) [wrap_i64, le_most, lt_omega, le_omega, ne_omega, allLen, h2]
  omega
/-- The sign. -/
def nsign (x : Nu) : Int := if sgn x.a = sgn x.b ∨ sgn x.b = 0 then sgn x.a else if sgn x.a = 0 ∨ ¬ (2 * (x.b * x.b) < x.a * x.a) then sgn x.b else sgn x.a
theorem c91 (x : Nu) (h : x.i64) (ha : x.a ≠ -9223372036854775808) (hb : x.b ≠ -9223372036854775808) : PC E 91 [.agg (encN x)] [.i (.int .i64 (nsign x))] := by
  obtain ⟨⟨ha1, ha2⟩, ⟨hb1, hb2⟩, hk1, hk2⟩ := h
  refine PC_start hE Proofs.Tryz.func91 rfl rfl Proofs.Tryz.ntmps91 (by kernel_rfl) (by kernel_rfl) (by simp) ?_
  simp (maxSteps := 1000000) (disch := first | (exact DrawOk.mk (by decide +kernel)) | omega | simp) [wrap_i64, le_most, lt_omega, le_omega, ne_omega, allLen, encN]
  refine CallK.of (c106 x.a ha1 ha2) (by first | exact .inl rfl | exact .inr (by simp)) (by simp) ?_
  simp (maxSteps := 1000000) (disch := first | (exact DrawOk.mk (by decide +kernel)) | omega | simp) [wrap_i64, le_most, lt_omega, le_omega, ne_omega, allLen]
  refine CallK.of (c106 x.b hb1 hb2) (by first | exact .inl rfl | exact .inr (by simp)) (by simp) ?_
  simp (maxSteps := 1000000) (disch := first | (exact DrawOk.mk (by decide +kernel)) | omega | simp) [wrap_i64, le_most, lt_omega, le_omega, ne_omega, allLen]
  (first | refine Gd.dec (fun h1 => ?_) (fun h1 => ?_) | refine Gd.intro (fun h1 => ?_) (fun h1 => ?_)) <;> simp (maxSteps := 1000000) (disch := first | (exact DrawOk.mk (by decide +kernel)) | omega | simp) [wrap_i64, le_most, lt_omega, le_omega, ne_omega, allLen, h1]
  · simp [nsign, h1]
  (first | refine Gd.dec (fun h2 => ?_) (fun h2 => ?_) | refine Gd.intro (fun h2 => ?_) (fun h2 => ?_)) <;> simp (maxSteps := 1000000) (disch := first | (exact DrawOk.mk (by decide +kernel)) | omega | simp) [wrap_i64, le_most, lt_omega, le_omega, ne_omega, allLen, h2]
  · simp [nsign, h2]
  (first | refine Gd.dec (fun h3 => ?_) (fun h3 => ?_) | refine Gd.intro (fun h3 => ?_) (fun h3 => ?_)) <;> simp (maxSteps := 1000000) (disch := first | (exact DrawOk.mk (by decide +kernel)) | omega | simp) [wrap_i64, le_most, lt_omega, le_omega, ne_omega, allLen, h3]
  · simp [nsign, h1, h2, h3]
    exact fun e => h2 e.symm
  refine CallK.of (c107 x.a x.b (by omega) ha2 (by omega) hb2) (by first | exact .inl rfl | exact .inr (by simp)) (by simp) ?_
  simp (maxSteps := 1000000) (disch := first | (exact DrawOk.mk (by decide +kernel)) | omega | simp) [wrap_i64, le_most, lt_omega, le_omega, ne_omega, allLen]
  (first | refine Gd.dec (fun h4 => ?_) (fun h4 => ?_) | refine Gd.intro (fun h4 => ?_) (fun h4 => ?_)) <;> simp (maxSteps := 1000000) (disch := first | (exact DrawOk.mk (by decide +kernel)) | omega | simp) [wrap_i64, le_most, lt_omega, le_omega, ne_omega, allLen, h4]
  · simp [nsign, h1, h2, h3, h4]
  · simp [nsign, h1, h2, h3, h4]
end Go.Vai
