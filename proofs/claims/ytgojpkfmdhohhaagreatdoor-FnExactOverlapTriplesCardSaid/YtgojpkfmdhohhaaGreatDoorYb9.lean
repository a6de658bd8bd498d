/- Merged texts of this claim: Zp5. -/
import Derived.Test.YtgojpkfmdhohhaaGreatDoorYb8
/- What two polygons have in common. -/
set_option linter.unusedVariables false
set_option linter.unusedSimpArgs false
set_option maxHeartbeats 4000000
namespace Go.Vai
def sideS (p q : Pt) : Int := if dirR (pminus q p) < 8 then 1 else -1
theorem sideS_or (p q : Pt) : sideS p q = 1 ∨ sideS p q = -1 := by unfold sideS; split <;> simp
def comN (a b : List Pt) : Nat → List Pt
  | 0 => a
  | k + 1 => partR (sideL (nth b k) (nxt b k)) (sideS (nth b k) (nxt b k)) (comN a b k)
theorem partR_nil (l : Li) (s : Int) : partR l s [] = [] := by simp [partR, hasN]
theorem comN_nil (a b : List Pt) {k : Nat} (h : comN a b k = []) : ∀ j, comN a b (k + j) = []
  | 0 => h
  | j + 1 => by show partR _ _ (comN a b (k + j)) = []; rw [comN_nil a b h j, partR_nil]
theorem rot0_len (l : List Pt) : (rot0 l).length = l.length := by
  unfold rot0; simp
  by_cases h : l = []
  · subst h; simp
  · have : least l < l.length := leastF_lt (Nat.le_refl _) (List.length_pos_iff.2 h)
    omega
theorem rot0_mem {l : List Pt} {p : Pt} (h : p ∈ rot0 l) : p ∈ l := by
  unfold rot0 at h
  rcases List.mem_append.1 h with h | h
  · exact List.mem_of_mem_drop h
  · exact List.mem_of_mem_take h
theorem partR_len (l : Li) (s : Int) (ps : List Pt) : (partR l s ps).length ≤ 2 * ps.length := by
  unfold partR
  split
  · rw [rot0_len]; exact cutN_len _ _ _ _
  · simp
theorem comN_len (a b : List Pt) : ∀ k, (comN a b k).length ≤ a.length * 2 ^ k
  | 0 => by simp [comN]
  | k + 1 => by
    have h1 := comN_len a b k
    have h2 := partR_len (sideL (nth b k) (nxt b k)) (sideS (nth b k) (nxt b k)) (comN a b k)
    have h3 : a.length * 2 ^ (k + 1) = 2 * (a.length * 2 ^ k) := by rw [Nat.pow_succ, ← Nat.mul_assoc]; omega
    show (partR _ _ _).length ≤ _
    omega
structure Com (K M M' : Nat) (a b : List Pt) : Prop where
  pa : ∀ p ∈ a, PB (K + 3) M' p
  pb : ∀ p ∈ b, PB (K + 3) M' p
  st : ∀ k, k < b.length → 0 ≤ dirR (pminus (nxt b k) (nth b k)) ∧ NB K M (sideL (nth b k) (nxt b k)).off ∧ Good K M (sideL (nth b k) (nxt b k)) (sideS (nth b k) (nxt b k)) (comN a b k)
theorem Com.pts {K M M' : Nat} {a b : List Pt} (h : Com K M M' a b) (hM : 576 * M ≤ M') : ∀ k, k ≤ b.length → ∀ p ∈ comN a b k, PB (K + 3) M' p
  | 0, _ => h.pa
  | k + 1, hk => by
    intro p hp
    obtain ⟨g1, g2, g3⟩ := h.st k (by omega)
    change p ∈ partR _ _ _ at hp
    unfold partR at hp
    split at hp
    · exact cutN_PB (Com.pts h hM k (by omega)) g2 (sideL_dir _ _).1 (sideL_dir _ _).2 g3 hM _ (Nat.le_refl _) p (rot0_mem hp)
    · simp at hp
def commonR (a b : List Pt) : List Pt := rot0 (comN a b b.length)
theorem commonR_nil {a b : List Pt} {k : Nat} (hk : k ≤ b.length) (h : comN a b k = []) : commonR a b = [] := by
  have := comN_nil a b h (b.length - k)
  rw [show k + (b.length - k) = b.length by omega] at this
  simp [commonR, this, rot0]
theorem c45 (a b : List Pt) {K M M' : Nat} (h : Com K M M' a b) (hM : 576 * M ≤ M') (hK : K ≤ 40)
    (hM' : 16 * M' ≤ 4611686018427387904) (hn : ((a.length * 2 ^ (b.length + 1) : Nat) : Int) ≤ 1099511627776) (hb : (b.length : Int) ≤ 1048576) :
    PC E 45 [.i (.sl (encPs a)), .i (.sl (encPs b))] [.own 6 (encPs (commonR a b))] := by
  have hlen : ∀ k, k ≤ b.length → ((2 * (comN a b k).length : Nat) : Int) ≤ 1099511627776 := by
    intro k hk
    have h1 := comN_len a b k
    have h2 : a.length * 2 ^ (b.length + 1) = a.length * 2 ^ k * 2 ^ (b.length + 1 - k) := by
      rw [Nat.mul_assoc, ← Nat.pow_add]; congr 2; omega
    have h3 : 2 ≤ 2 ^ (b.length + 1 - k) := by
      have := Nat.pow_le_pow_right (n := 2) (by decide) (show 1 ≤ b.length + 1 - k by omega)
      simpa using this
    have h4 := Nat.mul_le_mul_left (a.length * 2 ^ k) h3
    omega
  refine PC_start hE Proofs.Tryz.func45 rfl rfl Proofs.Tryz.ntmps45 (by kernel_rfl) (by kernel_rfl) (by simp) ?_
  simp (maxSteps := 1000000) (disch := first | (exact DrawOk.mk (by decide +kernel)) | omega | simp) [wrap_i64, le_most, lt_omega, le_omega, ne_omega, allLen]
  refine XL.by hE (ι := { k : Nat // k ≤ b.length }) (fun k => ⟨[(1, .i (.sl (encPs b))), (5, .i (.sl (encPs (comN a b k.1)))), (12, .i (.sl (encPs b))), (13, .i (.int .i64 b.length)), (14, .i (.int .i64 k.1))], []⟩)
    (fun k => b.length - k.1) ⟨0, Nat.zero_le _⟩ ⟨by simp [comN], by simp, by simp⟩ (by kernel_rfl) ?_
  rintro ⟨k, hk⟩
  have hln := hlen k hk
  have hpt := h.pts hM k hk
  by_cases hlt : k < b.length
  · have hmod : (k + 1) % b.length < b.length := Nat.mod_lt _ (by omega)
    have hp := h.pb _ (nth_mem hlt)
    have hq : PB (K + 3) M' (nxt b k) := h.pb _ (nth_mem hmod)
    obtain ⟨g1, g2, g3⟩ := h.st k hlt
    have eq2 : (encPs b)[(k + 1) % b.length]? = some (encP (nxt b k)) := encPs_get hmod
    have hne : ¬ b = [] := by rintro rfl; simp at hlt
    have rm : ((k : Int) + 1).tmod (b.length : Int) = (((k + 1) % b.length : Nat) : Int) := by
      rw [Int.tmod_eq_emod_of_nonneg (by omega)]; simp
    have hm0 : ¬ (((k : Int) + 1) % (b.length : Int) < 0) := by have := Int.emod_nonneg ((k : Int) + 1) (b := (b.length : Int)) (by omega); omega
    have hm1 : (((k : Int) + 1) % (b.length : Int)).toNat = (k + 1) % b.length := by
      have : ((k : Int) + 1) % (b.length : Int) = (((k + 1) % b.length : Nat) : Int) := by simp
      rw [this]; rfl
    have lP : ∀ p : Pt, (encP p).length = 6 := fun _ => rfl
    have lL : ∀ l : Li, (encLi l).length = 4 := fun _ => rfl
    have hpart := c64 (comN a b k) (sideL (nth b k) (nxt b k)) (sideS (nth b k) (nxt b k)) hpt g2 (sideL_dir _ _).1 (sideL_dir _ _).2 g3 hM hK hM' (sideS_or _ _) hln
    have hcn : comN a b (k + 1) = partR (sideL (nth b k) (nxt b k)) (sideS (nth b k) (nxt b k)) (comN a b k) := rfl
    rw [← hcn] at hpart
    have htk : List.take (comN a b (k + 1)).length (encPs (comN a b (k + 1))) = encPs (comN a b (k + 1)) := List.take_of_length_le (by simp)
    have hnil : comN a b (k + 1) = [] → commonR a b = [] := commonR_nil (by omega)
    simp (maxSteps := 1000000) (disch := first | (exact DrawOk.mk (by decide +kernel)) | omega | simp) [wrap_i64, le_most, lt_omega, le_omega, ne_omega, allLen, hlt, encPs_get hlt, hne, rm, hm0, hm1, hmod, eq2]
    refine CallK.of (c63 (nth b k) (nxt b k) hp hq (by omega) (by omega) g1) (by first | exact .inl rfl | exact .inr (by simp)) (by simp) ?_
    simp (maxSteps := 1000000) (disch := first | (exact DrawOk.mk (by decide +kernel)) | omega | simp) [wrap_i64, le_most, lt_omega, le_omega, ne_omega, allLen, lP, lL]
    (first | refine Gd.dec (fun h4 => ?_) (fun h4 => ?_) | refine Gd.intro (fun h4 => ?_) (fun h4 => ?_)) <;> simp (maxSteps := 1000000) (disch := first | (exact DrawOk.mk (by decide +kernel)) | omega | simp) [wrap_i64, le_most, lt_omega, le_omega, ne_omega, allLen, h4]
    · rw [show sideS (nth b k) (nxt b k) = 1 by simp [sideS, h4]] at hpart
      refine CallK.of (hpart) (by first | exact .inl rfl | exact .inr (by simp)) (by simp) ?_
      simp (maxSteps := 1000000) (disch := first | (exact DrawOk.mk (by decide +kernel)) | omega | simp) [wrap_i64, le_most, lt_omega, le_omega, ne_omega, allLen]
      (first | refine Gd.dec (fun h5 => ?_) (fun h5 => ?_) | refine Gd.intro (fun h5 => ?_) (fun h5 => ?_)) <;> simp (maxSteps := 1000000) (disch := first | (exact DrawOk.mk (by decide +kernel)) | omega | simp) [wrap_i64, le_most, lt_omega, le_omega, ne_omega, allLen, h5]
      · simp (maxSteps := 1000000) (disch := first | (exact DrawOk.mk (by decide +kernel)) | omega | simp) [wrap_i64, le_most, lt_omega, le_omega, ne_omega, allLen, hnil h5, encPs]
      · (refine ⟨⟨k + 1, by omega⟩, by (simp; try omega), ?_⟩; constructor <;> (simp (maxSteps := 1000000) (disch := first | (exact DrawOk.mk (by decide +kernel)) | omega | simp) [wrap_i64, le_most, lt_omega, le_omega, ne_omega, allLen, htk]) <;> (try omega))
    · rw [show sideS (nth b k) (nxt b k) = -1 by simp [sideS, h4]] at hpart
      refine CallK.of (hpart) (by first | exact .inl rfl | exact .inr (by simp)) (by simp) ?_
      simp (maxSteps := 1000000) (disch := first | (exact DrawOk.mk (by decide +kernel)) | omega | simp) [wrap_i64, le_most, lt_omega, le_omega, ne_omega, allLen]
      (first | refine Gd.dec (fun h5 => ?_) (fun h5 => ?_) | refine Gd.intro (fun h5 => ?_) (fun h5 => ?_)) <;> simp (maxSteps := 1000000) (disch := first | (exact DrawOk.mk (by decide +kernel)) | omega | simp) [wrap_i64, le_most, lt_omega, le_omega, ne_omega, allLen, h5]
      · simp (maxSteps := 1000000) (disch := first | (exact DrawOk.mk (by decide +kernel)) | omega | simp) [wrap_i64, le_most, lt_omega, le_omega, ne_omega, allLen, hnil h5, encPs]
      · (refine ⟨⟨k + 1, by omega⟩, by (simp; try omega), ?_⟩; constructor <;> (simp (maxSteps := 1000000) (disch := first | (exact DrawOk.mk (by decide +kernel)) | omega | simp) [wrap_i64, le_most, lt_omega, le_omega, ne_omega, allLen, htk]) <;> (try omega))
  · obtain rfl : k = b.length := by omega
    have hrot := c65 (comN a b b.length) hpt (by omega) (by omega) (by omega)
    have htk2 : List.take (rot0 (comN a b b.length)).length (encPs (rot0 (comN a b b.length))) = encPs (rot0 (comN a b b.length)) := List.take_of_length_le (by simp)
    simp (maxSteps := 1000000) (disch := first | (exact DrawOk.mk (by decide +kernel)) | omega | simp) [wrap_i64, le_most, lt_omega, le_omega, ne_omega, allLen]
    refine CallK.of (hrot) (by first | exact .inl rfl | exact .inr (by simp)) (by simp) ?_
    simp (maxSteps := 1000000) (disch := first | (exact DrawOk.mk (by decide +kernel)) | omega | simp) [wrap_i64, le_most, lt_omega, le_omega, ne_omega, allLen, commonR, htk2]
end Go.Vai
