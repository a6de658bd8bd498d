/- Merged texts of this claim: Zp7, Zp8, Zp9. -/
import Derived.Test.YtgojpkfmdhohhaaGreatDoorYb10
import Derived.Test.YtgojpkfmdhohhaaGreatDoorZv18
import Derived.Test.YtgojpkfmdhohhaaGreatDoorYb1
/- Polygons that overlap: both programs. -/
set_option linter.unusedVariables false
set_option linter.unusedSimpArgs false
set_option maxHeartbeats 4000000
namespace Go.Vai
theorem halfR_nil (l : Li) (s : Int) : halfR l s [] = [] := by simp [halfR, hasN]
theorem spcN_nil (a b : List Pt) {k : Nat} (h : spcN a b k = []) : ∀ j, spcN a b (k + j) = []
  | 0 => h
  | j + 1 => by show halfR _ _ (spcN a b (k + j)) = []; rw [spcN_nil a b h j, halfR_nil]
theorem halfR_len (l : Li) (s : Int) (ps : List Pt) : (halfR l s ps).length ≤ 2 * ps.length := by
  unfold halfR
  split
  · exact cutN_len _ _ _ _
  · simp
theorem spcN_len (a b : List Pt) : ∀ k, (spcN a b k).length ≤ a.length * 2 ^ k
  | 0 => by simp [spcN]
  | k + 1 => by
    have h1 := spcN_len a b k
    have h2 := halfR_len (sideL (nth b k) (nxt b k)) (sideS (nth b k) (nxt b k)) (spcN a b k)
    have h3 : a.length * 2 ^ (k + 1) = 2 * (a.length * 2 ^ k) := by rw [Nat.pow_succ, ← Nat.mul_assoc]; omega
    show (halfR _ _ _).length ≤ _
    omega
structure Spc (K M M' : Nat) (a b : List Pt) : Prop where
  pa : ∀ p ∈ a, PB (K + 3) M' p
  pb : ∀ p ∈ b, PB (K + 3) M' p
  st : ∀ k, k < b.length → 0 ≤ dirR (pminus (nxt b k) (nth b k)) ∧ NB K M (sideL (nth b k) (nxt b k)).off ∧ Good K M (sideL (nth b k) (nxt b k)) (sideS (nth b k) (nxt b k)) (spcN a b k)
theorem Spc.pts {K M M' : Nat} {a b : List Pt} (h : Spc K M M' a b) (hM : 576 * M ≤ M') : ∀ k, k ≤ b.length → ∀ p ∈ spcN a b k, PB (K + 3) M' p
  | 0, _ => h.pa
  | k + 1, hk => by
    intro p hp
    obtain ⟨g1, g2, g3⟩ := h.st k (by omega)
    change p ∈ halfR _ _ _ at hp
    unfold halfR at hp
    split at hp
    · exact cutN_PB (Spc.pts h hM k (by omega)) g2 (sideL_dir _ _).1 (sideL_dir _ _).2 g3 hM _ (Nat.le_refl _) p hp
    · simp at hp
theorem spcN_end {a b : List Pt} {k : Nat} (hk : k ≤ b.length) (h : spcN a b k = []) : spcN a b b.length = [] := by
  have := spcN_nil a b h (b.length - k)
  rwa [show k + (b.length - k) = b.length by omega] at this
theorem c42 (a b : List Pt) {K M M' : Nat} (h : Spc K M M' a b) (hM : 576 * M ≤ M') (hK : K ≤ 40)
    (hM' : 16 * M' ≤ 4611686018427387904) (hn : ((a.length * 2 ^ (b.length + 1) : Nat) : Int) ≤ 1099511627776) (hb : (b.length : Int) ≤ 1048576) :
    PC E 42 [.i (.sl (encPs a)), .i (.sl (encPs b))] [.i (.sl (encPs (spcN a b b.length)))] := by
  have hlen : ∀ k, k ≤ b.length → ((2 * (spcN a b k).length : Nat) : Int) ≤ 1099511627776 := by
    intro k hk
    have h1 := spcN_len a b k
    have h2 : a.length * 2 ^ (b.length + 1) = a.length * 2 ^ k * 2 ^ (b.length + 1 - k) := by
      rw [Nat.mul_assoc, ← Nat.pow_add]; congr 2; omega
    have h3 : 2 ≤ 2 ^ (b.length + 1 - k) := by
      have := Nat.pow_le_pow_right (n := 2) (by decide) (show 1 ≤ b.length + 1 - k by omega)
      simpa using this
    have h4 := Nat.mul_le_mul_left (a.length * 2 ^ k) h3
    omega
  refine PC_start hE Proofs.Tryz.func42 rfl rfl Proofs.Tryz.ntmps42 (by kernel_rfl) (by kernel_rfl) (by simp) ?_
  simp (maxSteps := 1000000) (disch := first | (exact DrawOk.mk (by decide +kernel)) | omega | simp) [wrap_i64, le_most, lt_omega, le_omega, ne_omega, allLen]
  refine XL.by hE (ι := { k : Nat // k ≤ b.length }) (fun k => ⟨[(0, .i (.sl (encPs (spcN a b k.1)))), (1, .i (.sl (encPs b))), (5, .i (.int .i64 k.1))], []⟩)
    (fun k => b.length - k.1) ⟨0, Nat.zero_le _⟩ ⟨by simp [spcN], by simp, by simp⟩ (by kernel_rfl) ?_
  rintro ⟨k, hk⟩
  have hln := hlen k hk
  have hpt := h.pts hM k hk
  by_cases hlt : k < b.length
  · have hmod : (k + 1) % b.length < b.length := Nat.mod_lt _ (by omega)
    have hp := h.pb _ (nth_mem hlt)
    have hq : PB (K + 3) M' (nxt b k) := h.pb _ (nth_mem hmod)
    obtain ⟨g1, g2, g3⟩ := h.st k hlt
    have eq2 : (encPs b)[(k + 1) % b.length]? = some (encP (nxt b k)) := encPs_get hmod
    have hne : ¬ b = [] := by rintro rfl; simp at hlt
    have rm : ((k : Int) + 1).tmod (b.length : Int) = (((k + 1) % b.length : Nat) : Int) := by
      rw [Int.tmod_eq_emod_of_nonneg (by omega)]; simp
    have hm0 : ¬ (((k : Int) + 1) % (b.length : Int) < 0) := by have := Int.emod_nonneg ((k : Int) + 1) (b := (b.length : Int)) (by omega); omega
    have hm1 : (((k : Int) + 1) % (b.length : Int)).toNat = (k + 1) % b.length := by
      have : ((k : Int) + 1) % (b.length : Int) = (((k + 1) % b.length : Nat) : Int) := by simp
      rw [this]; rfl
    have lP : ∀ p : Pt, (encP p).length = 6 := fun _ => rfl
    have lL : ∀ l : Li, (encLi l).length = 4 := fun _ => rfl
    have hhalf := c60 (spcN a b k) (sideL (nth b k) (nxt b k)) (sideS (nth b k) (nxt b k)) hpt g2 (sideL_dir _ _).1 (sideL_dir _ _).2 g3 hM hK hM' (sideS_or _ _) hln
    have hcn : spcN a b (k + 1) = halfR (sideL (nth b k) (nxt b k)) (sideS (nth b k) (nxt b k)) (spcN a b k) := rfl
    rw [← hcn] at hhalf
    have htk : List.take (spcN a b (k + 1)).length (encPs (spcN a b (k + 1))) = encPs (spcN a b (k + 1)) := List.take_of_length_le (by simp)
    have hdr := dirR_range (pminus (nxt b k) (nth b k))
    by_cases hz : spcN a b k = []
    · simp (maxSteps := 1000000) (disch := first | (exact DrawOk.mk (by decide +kernel)) | omega | simp) [wrap_i64, le_most, lt_omega, le_omega, ne_omega, allLen, hlt, hz, encPs, spcN_end hk hz]
    · have hz0 : 0 < (spcN a b k).length := List.length_pos_iff.2 hz
      simp (maxSteps := 1000000) (disch := first | (exact DrawOk.mk (by decide +kernel)) | omega | simp) [wrap_i64, le_most, lt_omega, le_omega, ne_omega, allLen, hlt, hz, hz0, encPs_get hlt, hne, rm, hm0, hm1, hmod, eq2]
      refine CallK.of (c59 (nxt b k) (nth b k) hq hp (by omega) (by omega)) (by first | exact .inl rfl | exact .inr (by simp)) (by simp) ?_
      simp (maxSteps := 1000000) (disch := first | (exact DrawOk.mk (by decide +kernel)) | omega | simp) [wrap_i64, le_most, lt_omega, le_omega, ne_omega, allLen]
      refine CallK.of (c58 _ (hq.minus hp) (by omega) (by omega)) (by first | exact .inl rfl | exact .inr (by simp)) (by simp) ?_
      simp (maxSteps := 1000000) (disch := first | (exact DrawOk.mk (by decide +kernel)) | omega | simp) [wrap_i64, le_most, lt_omega, le_omega, ne_omega, allLen]
      (first | refine Gd.dec (fun h4 => ?_) (fun h4 => ?_) | refine Gd.intro (fun h4 => ?_) (fun h4 => ?_)) <;> simp (maxSteps := 1000000) (disch := first | (exact DrawOk.mk (by decide +kernel)) | omega | simp) [wrap_i64, le_most, lt_omega, le_omega, ne_omega, allLen, h4]
      · rw [show sideS (nth b k) (nxt b k) = -1 by simp [sideS]; omega] at hhalf
        simp (maxSteps := 1000000) (disch := first | (exact DrawOk.mk (by decide +kernel)) | omega | simp) [wrap_i64, le_most, lt_omega, le_omega, ne_omega, allLen, hlt, encPs_get hlt]
        refine CallK.of (c61 (nth b k) (dirR (pminus (nxt b k) (nth b k))) hp (by omega) (by omega) (by omega) (by omega)) (by first | exact .inl rfl | exact .inr (by simp)) (by simp) ?_
        rw [thru_eq g1]
        simp (maxSteps := 1000000) (disch := first | (exact DrawOk.mk (by decide +kernel)) | omega | simp) [wrap_i64, le_most, lt_omega, le_omega, ne_omega, allLen]
        refine CallK.of (hhalf) (by first | exact .inl rfl | exact .inr (by simp)) (by simp) ?_
        simp (maxSteps := 1000000) (disch := first | (exact DrawOk.mk (by decide +kernel)) | omega | simp) [wrap_i64, le_most, lt_omega, le_omega, ne_omega, allLen]
        (refine ⟨⟨k + 1, by omega⟩, by (simp; try omega), ?_⟩; constructor <;> (simp (maxSteps := 1000000) (disch := first | (exact DrawOk.mk (by decide +kernel)) | omega | simp) [wrap_i64, le_most, lt_omega, le_omega, ne_omega, allLen, htk]) <;> (try omega))
      · rw [show sideS (nth b k) (nxt b k) = 1 by simp [sideS]; omega] at hhalf
        simp (maxSteps := 1000000) (disch := first | (exact DrawOk.mk (by decide +kernel)) | omega | simp) [wrap_i64, le_most, lt_omega, le_omega, ne_omega, allLen, hlt, encPs_get hlt]
        refine CallK.of (c61 (nth b k) (dirR (pminus (nxt b k) (nth b k))) hp (by omega) (by omega) (by omega) (by omega)) (by first | exact .inl rfl | exact .inr (by simp)) (by simp) ?_
        rw [thru_eq g1]
        simp (maxSteps := 1000000) (disch := first | (exact DrawOk.mk (by decide +kernel)) | omega | simp) [wrap_i64, le_most, lt_omega, le_omega, ne_omega, allLen]
        refine CallK.of (hhalf) (by first | exact .inl rfl | exact .inr (by simp)) (by simp) ?_
        simp (maxSteps := 1000000) (disch := first | (exact DrawOk.mk (by decide +kernel)) | omega | simp) [wrap_i64, le_most, lt_omega, le_omega, ne_omega, allLen]
        (refine ⟨⟨k + 1, by omega⟩, by (simp; try omega), ?_⟩; constructor <;> (simp (maxSteps := 1000000) (disch := first | (exact DrawOk.mk (by decide +kernel)) | omega | simp) [wrap_i64, le_most, lt_omega, le_omega, ne_omega, allLen, htk]) <;> (try omega))
  · obtain rfl : k = b.length := by omega
    simp (maxSteps := 1000000) (disch := first | (exact DrawOk.mk (by decide +kernel)) | omega | simp) [wrap_i64, le_most, lt_omega, le_omega, ne_omega, allLen]
theorem c43 (l : List Pt) (hl : (l.length : Int) ≤ 1048576) : PC E 43 [.i (.sl (encPs l))] [.own 6 (encPs l)] := by
  refine PC_start hE Proofs.Tryz.func43 rfl rfl Proofs.Tryz.ntmps43 (by kernel_rfl) (by kernel_rfl) (by simp) ?_
  simp (maxSteps := 1000000) (disch := first | (exact DrawOk.mk (by decide +kernel)) | omega | simp) [wrap_i64, le_most, lt_omega, le_omega, ne_omega, allLen]
  refine XL.by hE (ι := { k : Nat // k ≤ l.length }) (fun k => ⟨[(0, .i (.sl (encPs l))), (3, if k.1 = 0 then .esl else .own 19 0 k.1), (4, .i (.int .i64 k.1))], if k.1 = 0 then [] else [(19, ⟨6, encPs (l.take k.1)⟩)]⟩)
    (fun k => l.length - k.1) ⟨0, Nat.zero_le _⟩ ⟨by simp, by simp, by simp⟩ (by kernel_rfl) ?_
  rintro ⟨k, hk⟩
  have hln : (l.take k).length = k := by simp; omega
  by_cases hlt : k < l.length
  · have lP : ∀ p : Pt, (encP p).length = 6 := fun _ => rfl
    have hst : encPs (l.take (k + 1)) = encPs (l.take k) ++ [encP (nth l k)] := by
      rw [List.take_succ_eq_append_getElem hlt, encPs_append, nth_eq hlt]; rfl
    have htk : List.take k (encPs (l.take k)) = encPs (l.take k) := List.take_of_length_le (by simp; omega)
    by_cases h0 : k = 0
    · subst h0
      simp (maxSteps := 1000000) (disch := first | (exact DrawOk.mk (by decide +kernel)) | omega | simp) [wrap_i64, le_most, lt_omega, le_omega, ne_omega, allLen, hlt, encPs_get hlt]
      refine CallK.of (c62 (nth l 0)) (by first | exact .inl rfl | exact .inr (by simp)) (by simp) ?_
      simp (maxSteps := 1000000) (disch := first | (exact DrawOk.mk (by decide +kernel)) | omega | simp) [wrap_i64, le_most, lt_omega, le_omega, ne_omega, allLen, lP, most]
      have h10 : List.take 1 (List.map encP l) = [encP (nth l 0)] := by rw [← List.map_take]; simpa [encPs] using hst
      (refine ⟨⟨0 + 1, by omega⟩, by (simp; try omega), ?_⟩; constructor <;> (simp (maxSteps := 1000000) (disch := first | (exact DrawOk.mk (by decide +kernel)) | omega | simp) [wrap_i64, le_most, lt_omega, le_omega, ne_omega, allLen, encPs, h10]) <;> (try omega))
    · simp (maxSteps := 1000000) (disch := first | (exact DrawOk.mk (by decide +kernel)) | omega | simp) [wrap_i64, le_most, lt_omega, le_omega, ne_omega, allLen, hlt, encPs_get hlt, h0]
      refine CallK.of (c62 (nth l k)) (by first | exact .inl rfl | exact .inr (by simp)) (by simp) ?_
      simp (maxSteps := 1000000) (disch := first | (exact DrawOk.mk (by decide +kernel)) | omega | simp) [wrap_i64, le_most, lt_omega, le_omega, ne_omega, allLen, lP, most, show (k : Int) + 1 ≤ 140737488355328 by omega, show ((k : Int) + 1) * 48 ≤ 140737488355328 by omega]
      (refine ⟨⟨k + 1, by omega⟩, by (simp; try omega), ?_⟩; constructor <;> (simp (maxSteps := 1000000) (disch := first | (exact DrawOk.mk (by decide +kernel)) | omega | simp) [wrap_i64, le_most, lt_omega, le_omega, ne_omega, allLen, hst, htk]) <;> (try omega))
  · obtain rfl : k = l.length := by omega
    by_cases h0 : l = []
    · subst h0; simp (maxSteps := 1000000) (disch := first | (exact DrawOk.mk (by decide +kernel)) | omega | simp) [wrap_i64, le_most, lt_omega, le_omega, ne_omega, allLen, encPs]
    · have h0' : ¬ l.length = 0 := by simpa using h0
      have htk : List.take l.length (encPs l) = encPs l := List.take_of_length_le (by simp)
      simp (maxSteps := 1000000) (disch := first | (exact DrawOk.mk (by decide +kernel)) | omega | simp) [wrap_i64, le_most, lt_omega, le_omega, ne_omega, allLen, h0, h0', htk]
theorem take_encPs (l : List Pt) : List.take l.length (encPs l) = encPs l := List.take_of_length_le (by simp)
theorem c46 (a b : List Pt) {K M M' : Nat} (h : Com K M M' a b) (hM : 576 * M ≤ M') (hK : K ≤ 40)
    (hM' : 16 * M' ≤ 4611686018427387904) (hn : ((a.length * 2 ^ (b.length + 1) : Nat) : Int) ≤ 1099511627776) (hb : (b.length : Int) ≤ 1048576) :
    PC E 46 [.i (.sl (encPs a)), .i (.sl (encPs b))] [.i (.bool (decide (0 < (commonR a b).length)))] := by
  refine PC_start hE Proofs.Tryz.func46 rfl rfl Proofs.Tryz.ntmps46 (by kernel_rfl) (by kernel_rfl) (by simp) ?_
  simp (maxSteps := 1000000) (disch := first | (exact DrawOk.mk (by decide +kernel)) | omega | simp) [wrap_i64, le_most, lt_omega, le_omega, ne_omega, allLen]
  refine CallK.of (c45 a b h hM hK hM' hn hb) (by first | exact .inl rfl | exact .inr (by simp)) (by simp) ?_
  simp (maxSteps := 1000000) (disch := first | (exact DrawOk.mk (by decide +kernel)) | omega | simp) [wrap_i64, le_most, lt_omega, le_omega, ne_omega, allLen]
theorem c33 (a b : List Pt) {K M M' : Nat} (h : Spc K M M' a b) (hM : 576 * M ≤ M') (hK : K ≤ 40)
    (hM' : 16 * M' ≤ 4611686018427387904) (hn : ((a.length * 2 ^ (b.length + 1) : Nat) : Int) ≤ 1099511627776) (ha : (a.length : Int) ≤ 1048576) (hb : (b.length : Int) ≤ 1048576) :
    PC E 33 [.i (.sl (encPs a)), .i (.sl (encPs b))] [.i (.bool (decide (0 < (spcN a b b.length).length)))] := by
  refine PC_start hE Proofs.Tryz.func33 rfl rfl Proofs.Tryz.ntmps33 (by kernel_rfl) (by kernel_rfl) (by simp) ?_
  simp (maxSteps := 1000000) (disch := first | (exact DrawOk.mk (by decide +kernel)) | omega | simp) [wrap_i64, le_most, lt_omega, le_omega, ne_omega, allLen]
  refine CallK.of ((c43 a ha).imm) (by first | exact .inl rfl | exact .inr (by simp)) (by simp) ?_
  simp (maxSteps := 1000000) (disch := first | (exact DrawOk.mk (by decide +kernel)) | omega | simp) [wrap_i64, le_most, lt_omega, le_omega, ne_omega, allLen]
  refine CallK.of ((c43 b hb).imm) (by first | exact .inl rfl | exact .inr (by simp)) (by simp) ?_
  simp (maxSteps := 1000000) (disch := first | (exact DrawOk.mk (by decide +kernel)) | omega | simp) [wrap_i64, le_most, lt_omega, le_omega, ne_omega, allLen]
  refine CallK.of (c42 a b h hM hK hM' hn hb) (by first | exact .inl rfl | exact .inr (by simp)) (by simp) ?_
  simp (maxSteps := 1000000) (disch := first | (exact DrawOk.mk (by decide +kernel)) | omega | simp) [wrap_i64, le_most, lt_omega, le_omega, ne_omega, allLen]
end Go.Vai
/- Convex corners. -/
set_option linter.unusedVariables false
set_option linter.unusedSimpArgs false
set_option maxHeartbeats 4000000
namespace Go.Vai
theorem c72 (d : Int) : PC E 72 [.i (.int .i64 d)] [.i (.int .i64 (d % 16))] := by
  refine PC_start hE Proofs.Tryz.func72 rfl rfl Proofs.Tryz.ntmps72 (by kernel_rfl) (by kernel_rfl) (by simp) ?_
  simp (maxSteps := 1000000) (disch := first | (exact DrawOk.mk (by decide +kernel)) | omega | simp) [wrap_i64, le_most, lt_omega, le_omega, ne_omega, allLen, andI_15]
/-- The direction of a side, the one before it. -/
def dl (l : List Pt) (k : Nat) : Int := dirR (pminus (nxt l k) (nth l k))
def bef (l : List Pt) (k : Nat) : Int := if k = 0 then dirR (pminus (nth l 0) (nth l (l.length - 1))) else dl l (k - 1)
theorem dl_range (l : List Pt) (k : Nat) : -1 ≤ dl l k ∧ dl l k ≤ 15 := dirR_range _
theorem bef_range (l : List Pt) (k : Nat) : -1 ≤ bef l k ∧ bef l k ≤ 15 := by unfold bef; split <;> exact dirR_range _
def okI (l : List Pt) (k : Nat) : Bool := decide (0 ≤ dl l k) && decide (0 ≤ bef l k) && inB ((dl l k - bef l k) % 16) 1 7
def sumI (l : List Pt) : Nat → Int
  | 0 => 0
  | k + 1 => sumI l k + (dl l k - bef l k) % 16
theorem sumI_range (l : List Pt) : ∀ k, 0 ≤ sumI l k ∧ sumI l k ≤ 15 * k
  | 0 => by simp [sumI]
  | k + 1 => by have := sumI_range l k; simp only [sumI]; omega
def convI (l : List Pt) : Bool := decide (3 ≤ l.length) && (List.range l.length).all (okI l) && decide (sumI l l.length = 16)
theorem stepAll {f : Nat → Bool} {k : Nat} (h : ∀ j, j < k → f j = true) (hk : f k = true) : ∀ j, j < k + 1 → f j = true := fun j hj => by
  rcases Nat.lt_succ_iff_lt_or_eq.1 hj with h' | rfl
  · exact h j h'
  · exact hk
theorem convI_no {l : List Pt} {k : Nat} (hk : k < l.length) (h : okI l k = false) : convI l = false := by
  have : (List.range l.length).all (okI l) = false := by
    rw [← Bool.not_eq_true]; intro hr
    simp only [List.all_eq_true, List.mem_range] at hr
    rw [hr k hk] at h; simp at h
  simp [convI, this]
theorem convI_yes {l : List Pt} (h3 : 3 ≤ l.length) (h : ∀ j, j < l.length → okI l j = true) : convI l = decide (sumI l l.length = 16) := by
  have : (List.range l.length).all (okI l) = true := by simp only [List.all_eq_true, List.mem_range]; exact h
  simp [convI, this, h3]
theorem c55 (l : List Pt) {K M : Nat} (h : ∀ p ∈ l, PB K M p) (hK : K ≤ 60) (hM : 12 * M ≤ 4611686018427387904) (hl : (l.length : Int) ≤ 1048576) : PC E 55 [.i (.sl (encPs l))] [.i (.bool (convI l))] := by
  refine PC_start hE Proofs.Tryz.func55 rfl rfl Proofs.Tryz.ntmps55 (by kernel_rfl) (by kernel_rfl) (by simp) ?_
  simp (maxSteps := 1000000) (disch := first | (exact DrawOk.mk (by decide +kernel)) | omega | simp) [wrap_i64, le_most, lt_omega, le_omega, ne_omega, allLen]
  (first | refine Gd.dec (fun h3 => ?_) (fun h3 => ?_) | refine Gd.intro (fun h3 => ?_) (fun h3 => ?_)) <;> simp (maxSteps := 1000000) (disch := first | (exact DrawOk.mk (by decide +kernel)) | omega | simp) [wrap_i64, le_most, lt_omega, le_omega, ne_omega, allLen, h3]
  · have : convI l = false := by simp [convI]; omega
    rw [this]
  have hlp : 0 < l.length := by omega
  have hlm : l.length - 1 < l.length := by omega
  have ei : ((l.length : Int) - 1).toNat = l.length - 1 := by omega
  have en : ¬ ((l.length : Int) - 1 < 0) := by omega
  simp (maxSteps := 1000000) (disch := first | (exact DrawOk.mk (by decide +kernel)) | omega | simp) [wrap_i64, le_most, lt_omega, le_omega, ne_omega, allLen, encPs_get hlm, encPs_get hlp, hlp, hlm, ei, en]
  refine CallK.of (c71 (nth l (l.length - 1)) (nth l 0) (h _ (nth_mem hlp)) (h _ (nth_mem hlm)) hK (by omega)) (by first | exact .inl rfl | exact .inr (by simp)) (by simp) ?_
  simp (maxSteps := 1000000) (disch := first | (exact DrawOk.mk (by decide +kernel)) | omega | simp) [wrap_i64, le_most, lt_omega, le_omega, ne_omega, allLen]
  refine XL.by hE (ι := { k : Nat // k ≤ l.length ∧ ∀ j, j < k → okI l j = true }) (fun k => ⟨[(0, .i (.sl (encPs l))), (3, .i (.int .i64 l.length)), (4, .i (.int .i64 (sumI l k.1))), (5, .i (.int .i64 (bef l k.1))), (23, .i (.sl (encPs l))), (24, .i (.int .i64 l.length)), (25, .i (.int .i64 k.1))], []⟩)
    (fun k => l.length - k.1) ⟨0, Nat.zero_le _, by simp⟩ ⟨by simp [sumI, bef], by simp, by simp⟩ (by kernel_rfl) ?_
  rintro ⟨k, hk, hr⟩
  have hs := sumI_range l k
  by_cases hlt : k < l.length
  · have hmod : (k + 1) % l.length < l.length := Nat.mod_lt _ (by omega)
    have eq2 : (encPs l)[(k + 1) % l.length]? = some (encP (nxt l k)) := encPs_get hmod
    have hne : ¬ l = [] := by rintro rfl; simp at hlt
    have rm : ((k : Int) + 1).tmod (l.length : Int) = (((k + 1) % l.length : Nat) : Int) := by
      rw [Int.tmod_eq_emod_of_nonneg (by omega)]; simp
    have hm0 : ¬ (((k : Int) + 1) % (l.length : Int) < 0) := by have := Int.emod_nonneg ((k : Int) + 1) (b := (l.length : Int)) (by omega); omega
    have hm1 : (((k : Int) + 1) % (l.length : Int)).toNat = (k + 1) % l.length := by
      have : ((k : Int) + 1) % (l.length : Int) = (((k + 1) % l.length : Nat) : Int) := by simp
      rw [this]; rfl
    have hdl := dl_range l k
    have hbf := bef_range l k
    have hd : PC E 71 [.agg (encP (nth l k)), .agg (encP (nxt l k))] [.i (.int .i64 (dl l k))] := c71 (nth l k) (nxt l k) (h _ (nth_mem hmod)) (h _ (nth_mem hlt)) hK (by omega)
    have hb1 : bef l (k + 1) = dl l k := by simp [bef]
    have hs1 : sumI l (k + 1) = sumI l k + (dl l k - bef l k) % 16 := rfl
    have hok : okI l k = (decide (0 ≤ dl l k) && decide (0 ≤ bef l k) && inB ((dl l k - bef l k) % 16) 1 7) := rfl
    simp (maxSteps := 1000000) (disch := first | (exact DrawOk.mk (by decide +kernel)) | omega | simp) [wrap_i64, le_most, lt_omega, le_omega, ne_omega, allLen, hlt, encPs_get hlt, hne, rm, hm0, hm1, hmod, eq2]
    refine CallK.of (hd) (by first | exact .inl rfl | exact .inr (by simp)) (by simp) ?_
    simp (maxSteps := 1000000) (disch := first | (exact DrawOk.mk (by decide +kernel)) | omega | simp) [wrap_i64, le_most, lt_omega, le_omega, ne_omega, allLen]
    refine CallK.of (c72 (dl l k - bef l k)) (by first | exact .inl rfl | exact .inr (by simp)) (by simp) ?_
    simp (maxSteps := 1000000) (disch := first | (exact DrawOk.mk (by decide +kernel)) | omega | simp) [wrap_i64, le_most, lt_omega, le_omega, ne_omega, allLen]
    (first | refine Gd.dec (fun h4 => ?_) (fun h4 => ?_) | refine Gd.intro (fun h4 => ?_) (fun h4 => ?_)) <;> simp (maxSteps := 1000000) (disch := first | (exact DrawOk.mk (by decide +kernel)) | omega | simp) [wrap_i64, le_most, lt_omega, le_omega, ne_omega, allLen, h4]
    · rw [convI_no hlt (by rw [hok]; simp; omega)]
    · (first | refine Gd.dec (fun h5 => ?_) (fun h5 => ?_) | refine Gd.intro (fun h5 => ?_) (fun h5 => ?_)) <;> simp (maxSteps := 1000000) (disch := first | (exact DrawOk.mk (by decide +kernel)) | omega | simp) [wrap_i64, le_most, lt_omega, le_omega, ne_omega, allLen, h5]
      · rw [convI_no hlt (by rw [hok]; simp; omega)]
      · refine CallK.of (c35 _ _ _) (by first | exact .inl rfl | exact .inr (by simp)) (by simp) ?_
        simp (maxSteps := 1000000) (disch := first | (exact DrawOk.mk (by decide +kernel)) | omega | simp) [wrap_i64, le_most, lt_omega, le_omega, ne_omega, allLen]
        (first | refine Gd.dec (fun h6 => ?_) (fun h6 => ?_) | refine Gd.intro (fun h6 => ?_) (fun h6 => ?_)) <;> simp (maxSteps := 1000000) (disch := first | (exact DrawOk.mk (by decide +kernel)) | omega | simp) [wrap_i64, le_most, lt_omega, le_omega, ne_omega, allLen, h6]
        · (refine ⟨⟨k + 1, by omega, stepAll hr (by rw [hok, h6]; simp; omega)⟩, by (simp; try omega), ?_⟩; constructor <;> (simp (maxSteps := 1000000) (disch := first | (exact DrawOk.mk (by decide +kernel)) | omega | simp) [wrap_i64, le_most, lt_omega, le_omega, ne_omega, allLen, hs1, hb1]) <;> (try omega))
        · rw [convI_no hlt (by rw [hok, h6]; simp)]
  · obtain rfl : k = l.length := by omega
    simp (maxSteps := 1000000) (disch := first | (exact DrawOk.mk (by decide +kernel)) | omega | simp) [wrap_i64, le_most, lt_omega, le_omega, ne_omega, allLen, convI_yes (by omega) hr]
end Go.Vai
/- Valid polygons: the program's words. -/
set_option linter.unusedVariables false
set_option linter.unusedSimpArgs false
set_option maxHeartbeats 4000000
namespace Go.Vai
namespace Pq
/-- The first place at which p holds; -1 if there is none. -/
def fidx {α : Type} (p : α → Bool) (xs : List α) : Int := match xs.findIdx? p with
  | some i => i
  | none => -1
theorem fidx_at {α : Type} {p : α → Bool} {xs : List α} {k : Nat} (hk : k < xs.length) (hno : ∀ (j : Nat) (hj : j < xs.length), j < k → p xs[j] = false) (h : p xs[k] = true) : fidx p xs = k := by
  have : xs.findIdx? p = some k := by
    rw [List.findIdx?_eq_some_iff_getElem]
    exact ⟨hk, h, fun j hj => by simpa using hno j (by omega) hj⟩
  simp [fidx, this]
theorem fidx_none {α : Type} {p : α → Bool} {xs : List α} (hno : ∀ (j : Nat) (hj : j < xs.length), p xs[j] = false) : fidx p xs = -1 := by
  have : xs.findIdx? p = none := by
    rw [List.findIdx?_eq_none_iff]
    intro x hx
    obtain ⟨j, hj, rfl⟩ := List.getElem_of_mem hx
    exact hno j hj
  simp [fidx, this]
theorem step_no {α : Type} {p : α → Bool} {xs : List α} {k : Nat} (hno : ∀ (j : Nat) (hj : j < xs.length), j < k → p xs[j] = false) (hk : k < xs.length) (h : p xs[k] = false) :
    ∀ (j : Nat) (hj : j < xs.length), j < k + 1 → p xs[j] = false := fun j hj hjk => by
  rcases Nat.lt_succ_iff_lt_or_eq.1 hjk with hj' | rfl
  · exact hno j hj hj'
  · exact h
theorem fidx_any {α : Type} {p : α → Bool} {xs : List α} : decide (0 ≤ fidx p xs) = xs.any p := by
  unfold fidx
  cases h : xs.findIdx? p with
  | none =>
    rw [List.findIdx?_eq_none_iff] at h
    simp
    intro x hx; exact h x hx
  | some i =>
    rw [List.findIdx?_eq_some_iff_getElem] at h
    obtain ⟨hi, hp, -⟩ := h
    simp
    exact ⟨xs[i], List.getElem_mem _, hp⟩
@[simp] theorem immL_caps (H : List (Nat × Obj)) : ∀ caps : List IV, immL H (caps.map .i) = some (caps.map .i)
  | [] => rfl
  | x :: l => by simp [immL_caps H l]
theorem c85 (xs : List Pt) (g : FuncId) (caps : List IV) (p : Pt → Bool) (hp : ∀ x ∈ xs, PC E g (.agg (encP x) :: caps.map .i) [.i (.bool (p x))]) (h : (xs.length : Int) ≤ 1048576) :
    PC E 85 [.i (.sl (xs.map encP)), .i (.fn g caps)] [.i (.int .i64 (fidx p xs))] := by
  refine PC_start hE Proofs.Tryz.func85 rfl rfl Proofs.Tryz.ntmps85 (by kernel_rfl) (by kernel_rfl) (by simp) ?_
  simp (maxSteps := 1000000) (disch := first | (exact DrawOk.mk (by decide +kernel)) | omega | simp) [wrap_i64, le_most, lt_omega, le_omega, ne_omega, allLen]
  refine XL.by hE (ι := { k : Nat // k ≤ xs.length ∧ ∀ (j : Nat) (hj : j < xs.length), j < k → p xs[j] = false }) (fun k => ⟨[(0, .i (.sl (xs.map encP))), (1, .i (.fn g caps)), (7, .i (.int .i64 xs.length)), (8, .i (.int .i64 k.1))], []⟩)
    (fun k => xs.length - k.1) ⟨0, Nat.zero_le _, by simp⟩ ⟨by simp, by simp, by simp⟩ (by kernel_rfl) ?_
  rintro ⟨k, hk, hno⟩
  by_cases hlt : k < xs.length
  · simp (maxSteps := 1000000) (disch := first | (exact DrawOk.mk (by decide +kernel)) | omega | simp) [wrap_i64, le_most, lt_omega, le_omega, ne_omega, allLen, hlt]
    refine CallK.of (hp xs[k] (List.getElem_mem _)) (by first | exact .inl rfl | exact .inr (by simp)) (by simp) ?_
    simp (maxSteps := 1000000) (disch := first | (exact DrawOk.mk (by decide +kernel)) | omega | simp) [wrap_i64, le_most, lt_omega, le_omega, ne_omega, allLen, hlt]
    (first | refine Gd.dec (fun h4 => ?_) (fun h4 => ?_) | refine Gd.intro (fun h4 => ?_) (fun h4 => ?_)) <;> simp (maxSteps := 1000000) (disch := first | (exact DrawOk.mk (by decide +kernel)) | omega | simp) [wrap_i64, le_most, lt_omega, le_omega, ne_omega, allLen, h4]
    · simp [fidx_at hlt hno h4]
    · (refine ⟨⟨k + 1, by omega, step_no hno hlt h4⟩, by (simp; try omega), ?_⟩; constructor <;> (simp (maxSteps := 1000000) (disch := first | (exact DrawOk.mk (by decide +kernel)) | omega | simp) [wrap_i64, le_most, lt_omega, le_omega, ne_omega, allLen]) <;> (try omega))
  · obtain rfl : k = xs.length := by omega
    simp (maxSteps := 1000000) (disch := first | (exact DrawOk.mk (by decide +kernel)) | omega | simp) [wrap_i64, le_most, lt_omega, le_omega, ne_omega, allLen, fidx_none fun j hj => hno j hj hj]
theorem c68 (xs : List Pt) (g : FuncId) (caps : List IV) (p : Pt → Bool) (hp : ∀ x ∈ xs, PC E g (.agg (encP x) :: caps.map .i) [.i (.bool (p x))]) (h : (xs.length : Int) ≤ 1048576) :
    PC E 68 [.i (.sl (xs.map encP)), .i (.fn g caps)] [.i (.bool (xs.any p))] := by
  refine PC_start hE Proofs.Tryz.func68 rfl rfl Proofs.Tryz.ntmps68 (by kernel_rfl) (by kernel_rfl) (by simp) ?_
  simp (maxSteps := 1000000) (disch := first | (exact DrawOk.mk (by decide +kernel)) | omega | simp) [wrap_i64, le_most, lt_omega, le_omega, ne_omega, allLen]
  refine CallK.of (c85 xs g caps p hp h) (by first | exact .inl rfl | exact .inr (by simp)) (by simp) ?_
  simp (maxSteps := 1000000) (disch := first | (exact DrawOk.mk (by decide +kernel)) | omega | simp) [wrap_i64, le_most, lt_omega, le_omega, ne_omega, allLen, fidx_any]

end Pq
open Pq
theorem c69 (p : Pt) : PC E 69 [.agg (encP p)] [.i (.bool (!vP p))] := by
  refine PC_start hE Proofs.Tryz.func69 rfl rfl Proofs.Tryz.ntmps69 (by kernel_rfl) (by kernel_rfl) (by simp) ?_
  simp (maxSteps := 1000000) (disch := first | (exact DrawOk.mk (by decide +kernel)) | omega | simp) [wrap_i64, le_most, lt_omega, le_omega, ne_omega, allLen]
  refine CallK.of (c70 p) (by first | exact .inl rfl | exact .inr (by simp)) (by simp) ?_
  simp (maxSteps := 1000000) (disch := first | (exact DrawOk.mk (by decide +kernel)) | omega | simp) [wrap_i64, le_most, lt_omega, le_omega, ne_omega, allLen]
theorem c54 (l : List Pt) (h : (l.length : Int) ≤ 1048576) : PC E 54 [.i (.sl (encPs l))] [.i (.bool (l.all vP))] := by
  refine PC_start hE Proofs.Tryz.func54 rfl rfl Proofs.Tryz.ntmps54 (by kernel_rfl) (by kernel_rfl) (by simp) ?_
  simp (maxSteps := 1000000) (disch := first | (exact DrawOk.mk (by decide +kernel)) | omega | simp) [wrap_i64, le_most, lt_omega, le_omega, ne_omega, allLen]
  refine CallK.of (c68 l 69 [] (fun p => !vP p) (fun p _ => c69 p) h) (by first | exact .inl rfl | exact .inr (by simp)) (by simp) ?_
  simp (maxSteps := 1000000) (disch := first | (exact DrawOk.mk (by decide +kernel)) | omega | simp) [wrap_i64, le_most, lt_omega, le_omega, ne_omega, allLen, List.not_any_eq_all_not]
theorem c53 (l : List Pt) : PC E 53 [.i (.sl (encPs l))] [.i (.int .i64 l.length)] := by
  refine PC_start hE Proofs.Tryz.func53 rfl rfl Proofs.Tryz.ntmps53 (by kernel_rfl) (by kernel_rfl) (by simp) ?_
  simp (maxSteps := 1000000) (disch := first | (exact DrawOk.mk (by decide +kernel)) | omega | simp) [wrap_i64, le_most, lt_omega, le_omega, ne_omega, allLen]
def polI (l : List Pt) : Bool := inB l.length 3 16 && l.all vP && convI l && decide (least l = 0)
theorem allV {l : List Pt} (h : l.all vP = true) : ∀ p ∈ l, PB 10 134217728 p := fun p hp => vP_bound (List.all_eq_true.1 h p hp)
theorem c39 (l : List Pt) (h : (l.length : Int) ≤ 1048576) : PC E 39 [.i (.sl (encPs l))] [.i (.bool (polI l))] := by
  refine PC_start hE Proofs.Tryz.func39 rfl rfl Proofs.Tryz.ntmps39 (by kernel_rfl) (by kernel_rfl) (by simp) ?_
  simp (maxSteps := 1000000) (disch := first | (exact DrawOk.mk (by decide +kernel)) | omega | simp) [wrap_i64, le_most, lt_omega, le_omega, ne_omega, allLen]
  refine CallK.of (c53 l) (by first | exact .inl rfl | exact .inr (by simp)) (by simp) ?_
  simp (maxSteps := 1000000) (disch := first | (exact DrawOk.mk (by decide +kernel)) | omega | simp) [wrap_i64, le_most, lt_omega, le_omega, ne_omega, allLen]
  refine CallK.of (c35 _ _ _) (by first | exact .inl rfl | exact .inr (by simp)) (by simp) ?_
  simp (maxSteps := 1000000) (disch := first | (exact DrawOk.mk (by decide +kernel)) | omega | simp) [wrap_i64, le_most, lt_omega, le_omega, ne_omega, allLen]
  (first | refine Gd.dec (fun h1 => ?_) (fun h1 => ?_) | refine Gd.intro (fun h1 => ?_) (fun h1 => ?_)) <;> simp (maxSteps := 1000000) (disch := first | (exact DrawOk.mk (by decide +kernel)) | omega | simp) [wrap_i64, le_most, lt_omega, le_omega, ne_omega, allLen, h1]
  rotate_left
  · simp [polI, h1]
  refine CallK.of (c54 l h) (by first | exact .inl rfl | exact .inr (by simp)) (by simp) ?_
  simp (maxSteps := 1000000) (disch := first | (exact DrawOk.mk (by decide +kernel)) | omega | simp) [wrap_i64, le_most, lt_omega, le_omega, ne_omega, allLen]
  (first | refine Gd.dec (fun h2 => ?_) (fun h2 => ?_) | refine Gd.intro (fun h2 => ?_) (fun h2 => ?_)) <;> simp (maxSteps := 1000000) (disch := first | (exact DrawOk.mk (by decide +kernel)) | omega | simp) [wrap_i64, le_most, lt_omega, le_omega, ne_omega, allLen, h2]
  rotate_left
  · rw [show polI l = false by unfold polI; rw [h2]; simp]
  refine CallK.of (c55 l (allV h2) (by decide) (by decide) h) (by first | exact .inl rfl | exact .inr (by simp)) (by simp) ?_
  simp (maxSteps := 1000000) (disch := first | (exact DrawOk.mk (by decide +kernel)) | omega | simp) [wrap_i64, le_most, lt_omega, le_omega, ne_omega, allLen]
  (first | refine Gd.dec (fun h3 => ?_) (fun h3 => ?_) | refine Gd.intro (fun h3 => ?_) (fun h3 => ?_)) <;> simp (maxSteps := 1000000) (disch := first | (exact DrawOk.mk (by decide +kernel)) | omega | simp) [wrap_i64, le_most, lt_omega, le_omega, ne_omega, allLen, h3]
  rotate_left
  · rw [show polI l = false by unfold polI; rw [h3]; simp]
  refine CallK.of (c56 l (allV h2) (by decide) (by decide) (by omega)) (by first | exact .inl rfl | exact .inr (by simp)) (by simp) ?_
  simp (maxSteps := 1000000) (disch := first | (exact DrawOk.mk (by decide +kernel)) | omega | simp) [wrap_i64, le_most, lt_omega, le_omega, ne_omega, allLen]
  unfold polI; rw [h1, h2, h3]; simp
end Go.Vai
