/- Merged texts of this claim: Zh4, Zh5. -/
import Derived.Test.YtampfkfcfbjoaaaDoorYb16
/- Segments that cross polygons: the program's words. -/
set_option linter.unusedVariables false
set_option linter.unusedSimpArgs false
set_option maxHeartbeats 4000000
namespace Go.Vai
@[simp] theorem encN_len3 (x : Nu) : (encN x).length = 3 := rfl
@[simp] theorem encN_take3 (x : Nu) : List.take 3 (encN x) = encN x := rfl
@[simp] theorem encN_takeA (x : Nu) (l : List IV) : List.take 3 (encN x ++ l) = encN x := rfl
@[simp] theorem encP_takeA (x : Pt) (l : List IV) : List.take 6 (encP x ++ l) = encP x := rfl
theorem dotB {v p : Pt} {K M : Nat} (hv : PB 0 1 v) (hp : PB K M p) : NB K (6 * M) (ndot v p) := by
  have := hv.dot hp
  rwa [Nat.zero_add, Nat.one_mul] at this
theorem c120 (v p q : Pt) {K M : Nat} (hv : PB 0 1 v) (hp : PB K M p) (hq : PB K M q) (hK : K ≤ 60) (hM : 12 * M ≤ 4611686018427387904) :
    PC E 120 [.agg (encP v), .agg (encP p), .agg (encP q)] [.agg (encN (lo2 (ndot v p) (ndot v q))), .agg (encN (hi2 (ndot v p) (ndot v q)))] := by
  refine PC_start hE Proofs.Tryd.func120 rfl rfl Proofs.Tryd.ntmps120 (by kernel_rfl) (by kernel_rfl) (by simp) ?_
  simp (maxSteps := 1000000) (disch := first | (exact DrawOk.mk (by decide +kernel)) | omega | simp) [wrap_i64, le_most, lt_omega, le_omega, ne_omega, allLen]
  refine CallK.of (c116 v p hv hp (by omega) (by omega) (by decide)) (by first | exact .inl rfl | exact .inr (by simp)) (by simp) ?_
  simp (maxSteps := 1000000) (disch := first | (exact DrawOk.mk (by decide +kernel)) | omega | simp) [wrap_i64, le_most, lt_omega, le_omega, ne_omega, allLen]
  refine CallK.of (c116 v q hv hq (by omega) (by omega) (by decide)) (by first | exact .inl rfl | exact .inr (by simp)) (by simp) ?_
  simp (maxSteps := 1000000) (disch := first | (exact DrawOk.mk (by decide +kernel)) | omega | simp) [wrap_i64, le_most, lt_omega, le_omega, ne_omega, allLen]
  refine CallK.of (c121 (ndot v p) (ndot v q) (dotB hv hp) (dotB hv hq) hK (by omega)) (by first | exact .inl rfl | exact .inr (by simp)) (by simp) ?_
  simp (maxSteps := 1000000) (disch := first | (exact DrawOk.mk (by decide +kernel)) | omega | simp) [wrap_i64, le_most, lt_omega, le_omega, ne_omega, allLen]
  (first | refine Gd.dec (fun h1 => ?_) (fun h1 => ?_) | refine Gd.intro (fun h1 => ?_) (fun h1 => ?_)) <;> simp (maxSteps := 1000000) (disch := first | (exact DrawOk.mk (by decide +kernel)) | omega | simp) [wrap_i64, le_most, lt_omega, le_omega, ne_omega, allLen, h1]
  · refine Xc_late E _ _ _ 2 [1] [6, 7] (by kernel_rfl) (by kernel_rfl) ?_
    simp (maxSteps := 1000000) (disch := first | (exact DrawOk.mk (by decide +kernel)) | omega | simp) [wrap_i64, le_most, lt_omega, le_omega, ne_omega, allLen, lo2, hi2, h1]
  · refine Xc_late E _ _ _ 2 [1] [6, 7] (by kernel_rfl) (by kernel_rfl) ?_
    simp (maxSteps := 1000000) (disch := first | (exact DrawOk.mk (by decide +kernel)) | omega | simp) [wrap_i64, le_most, lt_omega, le_omega, ne_omega, allLen, lo2, hi2, h1]
theorem c93 (v p q x y : Pt) {K M : Nat} (hv : PB 0 1 v) (hp : PB K M p) (hq : PB K M q) (hx : PB K M x) (hy : PB K M y) (hK : K ≤ 60) (hM : 12 * M ≤ 4611686018427387904) :
    PC E 93 [.agg (encP v), .agg (encP p), .agg (encP q), .agg (encP x), .agg (encP y)]
      [.agg (encN (shLo (lo2 (ndot v p) (ndot v q)) (lo2 (ndot v x) (ndot v y)))), .agg (encN (shHi (hi2 (ndot v p) (ndot v q)) (hi2 (ndot v x) (ndot v y)))), .i (.bool (decide (ncmp (shLo (lo2 (ndot v p) (ndot v q)) (lo2 (ndot v x) (ndot v y))) (shHi (hi2 (ndot v p) (ndot v q)) (hi2 (ndot v x) (ndot v y))) < 0)))] := by
  have bl : ∀ {a b : Nu}, NB K (6 * M) a → NB K (6 * M) b → NB K (6 * M) (lo2 a b) ∧ NB K (6 * M) (hi2 a b) := fun {a b} ha hb => by
    unfold lo2 hi2; split <;> exact ⟨by assumption, by assumption⟩
  obtain ⟨b1, b2⟩ := bl (dotB hv hp) (dotB hv hq)
  obtain ⟨b3, b4⟩ := bl (dotB hv hx) (dotB hv hy)
  refine PC_start hE Proofs.Tryd.func93 rfl rfl Proofs.Tryd.ntmps93 (by kernel_rfl) (by kernel_rfl) (by simp) ?_
  simp (maxSteps := 1000000) (disch := first | (exact DrawOk.mk (by decide +kernel)) | omega | simp) [wrap_i64, le_most, lt_omega, le_omega, ne_omega, allLen]
  refine CallK.of (c120 v p q hv hp hq hK hM) (by first | exact .inl rfl | exact .inr (by simp)) (by simp) ?_
  simp (maxSteps := 1000000) (disch := first | (exact DrawOk.mk (by decide +kernel)) | omega | simp) [wrap_i64, le_most, lt_omega, le_omega, ne_omega, allLen]
  refine CallK.of (c120 v x y hv hx hy hK hM) (by first | exact .inl rfl | exact .inr (by simp)) (by simp) ?_
  generalize lo2 (ndot v p) (ndot v q) = a at *
  generalize hi2 (ndot v p) (ndot v q) = b at *
  generalize lo2 (ndot v x) (ndot v y) = c at *
  generalize hi2 (ndot v x) (ndot v y) = e at *
  simp (maxSteps := 1000000) (disch := first | (exact DrawOk.mk (by decide +kernel)) | omega | simp) [wrap_i64, le_most, lt_omega, le_omega, ne_omega, allLen]
  refine CallK.of (c121 c a b3 b1 hK (by omega)) (by first | exact .inl rfl | exact .inr (by simp)) (by simp) ?_
  simp (maxSteps := 1000000) (disch := first | (exact DrawOk.mk (by decide +kernel)) | omega | simp) [wrap_i64, le_most, lt_omega, le_omega, ne_omega, allLen]
  (first | refine Gd.dec (fun h1 => ?_) (fun h1 => ?_) | refine Gd.intro (fun h1 => ?_) (fun h1 => ?_)) <;> simp (maxSteps := 1000000) (disch := first | (exact DrawOk.mk (by decide +kernel)) | omega | simp) [wrap_i64, le_most, lt_omega, le_omega, ne_omega, allLen, h1]
  · refine CallK.of (c121 e b b4 b2 hK (by omega)) (by first | exact .inl rfl | exact .inr (by simp)) (by simp) ?_
    simp (maxSteps := 1000000) (disch := first | (exact DrawOk.mk (by decide +kernel)) | omega | simp) [wrap_i64, le_most, lt_omega, le_omega, ne_omega, allLen]
    (first | refine Gd.dec (fun h2 => ?_) (fun h2 => ?_) | refine Gd.intro (fun h2 => ?_) (fun h2 => ?_)) <;> simp (maxSteps := 1000000) (disch := first | (exact DrawOk.mk (by decide +kernel)) | omega | simp) [wrap_i64, le_most, lt_omega, le_omega, ne_omega, allLen, h2]
    · refine Xc_late E _ _ _ 6 [1, 5] [10, 11] (by kernel_rfl) (by kernel_rfl) ?_
      simp (maxSteps := 1000000) (disch := first | (exact DrawOk.mk (by decide +kernel)) | omega | simp) [wrap_i64, le_most, lt_omega, le_omega, ne_omega, allLen]
      refine CallK.of (c121 c e b3 b4 hK (by omega)) (by first | exact .inl rfl | exact .inr (by simp)) (by simp) ?_
      simp (maxSteps := 1000000) (disch := first | (exact DrawOk.mk (by decide +kernel)) | omega | simp) [wrap_i64, le_most, lt_omega, le_omega, ne_omega, allLen, shLo, shHi, h1, h2]
    · refine Xc_late E _ _ _ 6 [1, 5] [10, 11] (by kernel_rfl) (by kernel_rfl) ?_
      simp (maxSteps := 1000000) (disch := first | (exact DrawOk.mk (by decide +kernel)) | omega | simp) [wrap_i64, le_most, lt_omega, le_omega, ne_omega, allLen]
      refine CallK.of (c121 c b b3 b2 hK (by omega)) (by first | exact .inl rfl | exact .inr (by simp)) (by simp) ?_
      simp (maxSteps := 1000000) (disch := first | (exact DrawOk.mk (by decide +kernel)) | omega | simp) [wrap_i64, le_most, lt_omega, le_omega, ne_omega, allLen, shLo, shHi, h1, h2]
  · refine CallK.of (c121 e b b4 b2 hK (by omega)) (by first | exact .inl rfl | exact .inr (by simp)) (by simp) ?_
    simp (maxSteps := 1000000) (disch := first | (exact DrawOk.mk (by decide +kernel)) | omega | simp) [wrap_i64, le_most, lt_omega, le_omega, ne_omega, allLen]
    (first | refine Gd.dec (fun h2 => ?_) (fun h2 => ?_) | refine Gd.intro (fun h2 => ?_) (fun h2 => ?_)) <;> simp (maxSteps := 1000000) (disch := first | (exact DrawOk.mk (by decide +kernel)) | omega | simp) [wrap_i64, le_most, lt_omega, le_omega, ne_omega, allLen, h2]
    · refine Xc_late E _ _ _ 6 [1, 5] [10, 11] (by kernel_rfl) (by kernel_rfl) ?_
      simp (maxSteps := 1000000) (disch := first | (exact DrawOk.mk (by decide +kernel)) | omega | simp) [wrap_i64, le_most, lt_omega, le_omega, ne_omega, allLen]
      refine CallK.of (c121 a e b1 b4 hK (by omega)) (by first | exact .inl rfl | exact .inr (by simp)) (by simp) ?_
      simp (maxSteps := 1000000) (disch := first | (exact DrawOk.mk (by decide +kernel)) | omega | simp) [wrap_i64, le_most, lt_omega, le_omega, ne_omega, allLen, shLo, shHi, h1, h2]
    · refine Xc_late E _ _ _ 6 [1, 5] [10, 11] (by kernel_rfl) (by kernel_rfl) ?_
      simp (maxSteps := 1000000) (disch := first | (exact DrawOk.mk (by decide +kernel)) | omega | simp) [wrap_i64, le_most, lt_omega, le_omega, ne_omega, allLen]
      refine CallK.of (c121 a b b1 b2 hK (by omega)) (by first | exact .inl rfl | exact .inr (by simp)) (by simp) ?_
      simp (maxSteps := 1000000) (disch := first | (exact DrawOk.mk (by decide +kernel)) | omega | simp) [wrap_i64, le_most, lt_omega, le_omega, ne_omega, allLen, shLo, shHi, h1, h2]
end Go.Vai
/- The chord of a line in a valid polygon; a segment that crosses it: the program's words. -/
set_option linter.unusedVariables false
set_option linter.unusedSimpArgs false
set_option maxHeartbeats 4000000
namespace Go.Vai
@[simp] theorem encLi_len4 (l : Li) : (encLi l).length = 4 := rfl
def chordB (l : Li) (ps : List Pt) : Bool := decide (0 < (partR l 1 ps).length) && decide (0 < (partR l (-1) ps).length)
def z0 : Pt := ⟨⟨0, 0, 0⟩, ⟨0, 0, 0⟩⟩
def zc : List IV := [.int .i64 0, .int .i64 0, .int .i64 0, .int .i64 0, .int .i64 0, .int .i64 0]
theorem encP_z0 : encP z0 = zc := rfl
def chX (l : Li) (ps : List Pt) : Pt := if chordB l ps = true then nth (chordE l ps) 0 else z0
def chY (l : Li) (ps : List Pt) : Pt := if chordB l ps = true then nth (chordE l ps) ((chordE l ps).length - 1) else z0
/-- A valid polygon and a line. -/
structure Chd (l : Li) (ps : List Pt) : Prop where
  conv : Conv ps
  n16 : ps.length ≤ 16
  pb : ∀ p ∈ ps, PB (10 + 3) MP p
  ok : Lok l
  nb : NB 10 MM l.off
theorem Chd.good {l : Li} {ps : List Pt} (h : Chd l ps) (s : Int) : Good 10 MM l s ps := h.conv.toPoly.fine.good h.ok
theorem part_has {l : Li} {s : Int} {ps : List Pt} (h : 0 < (partR l s ps).length) : hasN l s ps ps.length = true := by
  unfold partR at h
  split at h
  · assumption
  · simp at h
theorem part_len (l : Li) (s : Int) (ps : List Pt) : (partR l s ps).length ≤ 2 * ps.length := by
  unfold partR
  split
  · rw [rot0_len]; exact cutN_len l s ps _
  · simp
theorem Chd.partB {l : Li} {ps : List Pt} (h : Chd l ps) {s : Int} : ∀ p ∈ partR l s ps, PB (10 + 3) MP p := by
  intro p hp
  unfold partR at hp
  split at hp
  · exact cutN_PB h.pb h.nb h.ok.d0 h.ok.d1 (h.good s) (by decide) _ (Nat.le_refl _) p (rot0_mem hp)
  · simp at hp
theorem Chd.two {l : Li} {ps : List Pt} (h : Chd l ps) (hb : chordB l ps = true) : ∃ x y, endsN l ps ps.length = [x, y] ∧ (chordE l ps = [x, y] ∨ chordE l ps = [y, x]) := by
  simp only [chordB, Bool.and_eq_true, decide_eq_true_eq] at hb
  exact chord_two (h.good 1) h.ok h.conv.pk (part_has hb.1) (ends_two h.conv h.ok (part_has hb.1) (part_has hb.2))
theorem Chd.part {l : Li} {ps : List Pt} (h : Chd l ps) (s : Int) (hs : s = 1 ∨ s = -1) : PC E 104 [.i (.sl (encPs ps)), .agg (encLi l), .i (.int .i64 s)] [.i (.sl (encPs (partR l s ps)))] :=
  (c104 ps l s h.pb h.nb h.ok.d0 h.ok.d1 (h.good s) (by decide) (by decide) (by decide) hs (by have := h.n16; omega)).imm
def filK (l : Li) (Q : List Pt) (k : Nat) : List Pt := (Q.take k).filter (onB l)
theorem filK_succ {l : Li} {Q : List Pt} {k : Nat} (hk : k < Q.length) : filK l Q (k + 1) = filK l Q k ++ if sd l (nth Q k) = 0 then [nth Q k] else [] := by
  unfold filK
  rw [List.take_succ_eq_append_getElem hk, List.filter_append, nth_eq hk]
  congr 1
  by_cases h : sd l Q[k] = 0
  · rw [if_pos h]; simp [onB, h]
  · rw [if_neg h]; simp [onB, h]
theorem filK_le (l : Li) (Q : List Pt) (k : Nat) : (filK l Q k).length ≤ Q.length := by
  unfold filK
  have h1 := List.length_filter_le (onB l) (Q.take k)
  have h2 : (Q.take k).length ≤ Q.length := by simp; omega
  omega
theorem c91 (ps : List Pt) (l : Li) (h : Chd l ps) : PC E 91 [.i (.sl (encPs ps)), .agg (encLi l)] [.agg (encP (chX l ps)), .agg (encP (chY l ps)), .i (.bool (chordB l ps))] := by
  have hln := h.n16
  refine PC_start hE Proofs.Tryd.func91 rfl rfl Proofs.Tryd.ntmps91 (by kernel_rfl) (by kernel_rfl) (by simp) ?_
  simp (maxSteps := 1000000) (disch := first | (exact DrawOk.mk (by decide +kernel)) | omega | simp) [wrap_i64, le_most, lt_omega, le_omega, ne_omega, allLen]
  refine CallK.of (h.part 1 (.inl rfl)) (by first | exact .inl rfl | exact .inr (by simp)) (by simp) ?_
  simp (maxSteps := 1000000) (disch := first | (exact DrawOk.mk (by decide +kernel)) | omega | simp) [wrap_i64, le_most, lt_omega, le_omega, ne_omega, allLen]
  (first | refine Gd.dec (fun h1 => ?_) (fun h1 => ?_) | refine Gd.intro (fun h1 => ?_) (fun h1 => ?_)) <;> simp (maxSteps := 1000000) (disch := first | (exact DrawOk.mk (by decide +kernel)) | omega | simp) [wrap_i64, le_most, lt_omega, le_omega, ne_omega, allLen, h1]
  · have hc : chordB l ps = false := by unfold chordB; rw [h1]; simp
    simp (maxSteps := 1000000) (disch := first | (exact DrawOk.mk (by decide +kernel)) | omega | simp) [wrap_i64, le_most, lt_omega, le_omega, ne_omega, allLen, chX, chY, hc, encP_z0, zc]
  refine CallK.of (h.part (-1) (.inr rfl)) (by first | exact .inl rfl | exact .inr (by simp)) (by simp) ?_
  simp (maxSteps := 1000000) (disch := first | (exact DrawOk.mk (by decide +kernel)) | omega | simp) [wrap_i64, le_most, lt_omega, le_omega, ne_omega, allLen]
  (first | refine Gd.dec (fun h2 => ?_) (fun h2 => ?_) | refine Gd.intro (fun h2 => ?_) (fun h2 => ?_)) <;> simp (maxSteps := 1000000) (disch := first | (exact DrawOk.mk (by decide +kernel)) | omega | simp) [wrap_i64, le_most, lt_omega, le_omega, ne_omega, allLen, h2]
  · have hc : chordB l ps = false := by unfold chordB; rw [h2]; simp
    simp (maxSteps := 1000000) (disch := first | (exact DrawOk.mk (by decide +kernel)) | omega | simp) [wrap_i64, le_most, lt_omega, le_omega, ne_omega, allLen, chX, chY, hc, encP_z0, zc]
  have hc : chordB l ps = true := by
    unfold chordB
    rw [decide_eq_true (List.length_pos_iff.2 (by simpa using h1)), decide_eq_true (List.length_pos_iff.2 (by simpa using h2))]; rfl
  refine CallK.of (h.part 1 (.inl rfl)) (by first | exact .inl rfl | exact .inr (by simp)) (by simp) ?_
  simp (maxSteps := 1000000) (disch := first | (exact DrawOk.mk (by decide +kernel)) | omega | simp) [wrap_i64, le_most, lt_omega, le_omega, ne_omega, allLen]
  have hQB := h.partB (s := 1)
  have hQl := part_len l 1 ps
  obtain ⟨x, y, hxy, hE2⟩ := h.two hc
  have hfin : filK l (partR l 1 ps) (partR l 1 ps).length = chordE l ps := by unfold filK chordE; rw [List.take_length]
  generalize hQ : partR l 1 ps = Q at *
  refine XL.by hE (ι := { k : Nat // k ≤ Q.length }) (fun k => ⟨[(3, .ptr 3 0 0), (4, .ptr 4 0 0), (5, .ptr 5 0 0), (7, if filK l Q k.1 = [] then .esl else .own 39 0 (filK l Q k.1).length), (26, .i (.sl (encPs Q))), (27, .i (.int .i64 Q.length)), (28, .i (.int .i64 k.1))],
      (3, ⟨4, [encLi l]⟩) :: (4, ⟨6, [zc]⟩) :: (5, ⟨6, [zc]⟩) :: (if filK l Q k.1 = [] then [] else [(39, ⟨6, encPs (filK l Q k.1)⟩)])⟩)
    (fun k => Q.length - k.1) ⟨0, Nat.zero_le _⟩ ⟨by simp [filK], by simp [filK, zc], by simp [filK]⟩ (by kernel_rfl) ?_
  rintro ⟨k, hk⟩
  have hfl := filK_le l Q k
  by_cases hlt : k < Q.length
  · have hst := filK_succ (l := l) hlt
    have hs : PC E 118 [.agg (encLi l), .agg (encP (nth Q k))] [.i (.int .i64 (sd l (nth Q k)))] :=
      c118 l (nth Q k) (hQB _ (nth_mem hlt)) (h.nb.up (K' := 13) (by decide)) (by decide) (by decide) h.ok.d0 (by have := h.ok.d1; omega)
    have tk : List.take (filK l Q k).length (List.map encP (filK l Q k)) = List.map encP (filK l Q k) := List.take_of_length_le (by simp)
    have big1 : ((filK l Q k).length : Int) + 1 ≤ 140737488355328 := by omega
    have big2 : (((filK l Q k).length : Int) + 1) * 48 ≤ 140737488355328 := by omega
    by_cases hF : filK l Q k = []
    · simp (maxSteps := 1000000) (disch := first | (exact DrawOk.mk (by decide +kernel)) | omega | simp) [wrap_i64, le_most, lt_omega, le_omega, ne_omega, allLen, hlt, encPs_get hlt, hF, zc]
      refine CallK.of (hs) (by first | exact .inl rfl | exact .inr (by simp)) (by simp) ?_
      simp (maxSteps := 1000000) (disch := first | (exact DrawOk.mk (by decide +kernel)) | omega | simp) [wrap_i64, le_most, lt_omega, le_omega, ne_omega, allLen]
      (first | refine Gd.dec (fun h4 => ?_) (fun h4 => ?_) | refine Gd.intro (fun h4 => ?_) (fun h4 => ?_)) <;> simp (maxSteps := 1000000) (disch := first | (exact DrawOk.mk (by decide +kernel)) | omega | simp) [wrap_i64, le_most, lt_omega, le_omega, ne_omega, allLen, h4]
      · rw [if_pos h4, hF] at hst
        try (simp (maxSteps := 1000000) (disch := first | (exact DrawOk.mk (by decide +kernel)) | omega | simp) [wrap_i64, le_most, lt_omega, le_omega, ne_omega, allLen, hlt, encPs_get hlt, hF, most, zc])
        (refine ⟨⟨k + 1, by omega⟩, by (simp; try omega), ?_⟩; constructor <;> (simp (maxSteps := 1000000) (disch := first | (exact DrawOk.mk (by decide +kernel)) | omega | simp) [wrap_i64, le_most, lt_omega, le_omega, ne_omega, allLen, hst, encPs, zc]) <;> (try omega))
      · rw [if_neg h4, hF] at hst
        (refine ⟨⟨k + 1, by omega⟩, by (simp; try omega), ?_⟩; constructor <;> (simp (maxSteps := 1000000) (disch := first | (exact DrawOk.mk (by decide +kernel)) | omega | simp) [wrap_i64, le_most, lt_omega, le_omega, ne_omega, allLen, hst, encPs, zc]) <;> (try omega))
    · simp (maxSteps := 1000000) (disch := first | (exact DrawOk.mk (by decide +kernel)) | omega | simp) [wrap_i64, le_most, lt_omega, le_omega, ne_omega, allLen, hlt, encPs_get hlt, hF, zc]
      refine CallK.of (hs) (by first | exact .inl rfl | exact .inr (by simp)) (by simp) ?_
      simp (maxSteps := 1000000) (disch := first | (exact DrawOk.mk (by decide +kernel)) | omega | simp) [wrap_i64, le_most, lt_omega, le_omega, ne_omega, allLen]
      (first | refine Gd.dec (fun h4 => ?_) (fun h4 => ?_) | refine Gd.intro (fun h4 => ?_) (fun h4 => ?_)) <;> simp (maxSteps := 1000000) (disch := first | (exact DrawOk.mk (by decide +kernel)) | omega | simp) [wrap_i64, le_most, lt_omega, le_omega, ne_omega, allLen, h4]
      · rw [if_pos h4] at hst
        try (simp (maxSteps := 1000000) (disch := first | (exact DrawOk.mk (by decide +kernel)) | omega | simp) [wrap_i64, le_most, lt_omega, le_omega, ne_omega, allLen, hlt, encPs_get hlt, hF, most, zc, big1, big2])
        (refine ⟨⟨k + 1, by omega⟩, by (simp; try omega), ?_⟩; constructor <;> (simp (maxSteps := 1000000) (disch := first | (exact DrawOk.mk (by decide +kernel)) | omega | simp) [wrap_i64, le_most, lt_omega, le_omega, ne_omega, allLen, hst, encPs, zc, tk]) <;> (try omega))
      · rw [if_neg h4, List.append_nil] at hst
        (refine ⟨⟨k + 1, by omega⟩, by (simp; try omega), ?_⟩; constructor <;> (simp (maxSteps := 1000000) (disch := first | (exact DrawOk.mk (by decide +kernel)) | omega | simp) [wrap_i64, le_most, lt_omega, le_omega, ne_omega, allLen, hst, hF, encPs, zc]) <;> (try omega))
  · obtain rfl : k = Q.length := by omega
    rw [hfin]
    obtain ⟨a, b, hab⟩ : ∃ a b, chordE l ps = [a, b] := by
      rcases hE2 with e | e
      · exact ⟨x, y, e⟩
      · exact ⟨y, x, e⟩
    have eX : chX l ps = a := by unfold chX; rw [if_pos hc, hab]; rfl
    have eY : chY l ps = b := by unfold chY; rw [if_pos hc, hab]; rfl
    rw [eX, eY, hc, hab]
    simp (maxSteps := 1000000) (disch := first | (exact DrawOk.mk (by decide +kernel)) | omega | simp) [wrap_i64, le_most, lt_omega, le_omega, ne_omega, allLen, zc, encPs]
    refine Xc_late E _ _ _ 9 [3, 4, 5, 6, 7, 8] [4, 5] (by kernel_rfl) (by kernel_rfl) ?_
    simp (maxSteps := 1000000) (disch := first | (exact DrawOk.mk (by decide +kernel)) | omega | simp) [wrap_i64, le_most, lt_omega, le_omega, ne_omega, allLen, zc, encPs]
def crossB (ps : List Pt) (p q : Pt) : Bool :=
  decide (0 ≤ dirR (pminus q p)) && (chordB (sideL p q) ps && shB (ndot (vec (dirR (pminus q p))) p) (ndot (vec (dirR (pminus q p))) q) (ndot (vec (dirR (pminus q p))) (chX (sideL p q) ps)) (ndot (vec (dirR (pminus q p))) (chY (sideL p q) ps)))
theorem Chd.end_PB {l : Li} {ps : List Pt} (h : Chd l ps) : PB (10 + 3) MP (chX l ps) ∧ PB (10 + 3) MP (chY l ps) := by
  have z : PB (10 + 3) MP z0 := ⟨⟨by decide, by decide, by decide, by decide⟩, ⟨by decide, by decide, by decide, by decide⟩⟩
  by_cases hc : chordB l ps = true
  · obtain ⟨x, y, -, hE2⟩ := h.two hc
    have hm : ∀ e ∈ chordE l ps, PB (10 + 3) MP e := fun e he => h.partB e ((List.mem_filter.1 he).1)
    unfold chX chY
    rw [if_pos hc, if_pos hc]
    rcases hE2 with e | e <;> rw [e] at hm ⊢ <;> exact ⟨hm _ (by simp [nth]), hm _ (by simp [nth])⟩
  · unfold chX chY
    rw [if_neg hc, if_neg hc]; exact ⟨z, z⟩
/-- A polygon and two points that are valid. -/
structure Crs (ps : List Pt) (p q : Pt) : Prop where
  conv : Conv ps
  n16 : ps.length ≤ 16
  hp : PB 10 134217728 p
  hq : PB 10 134217728 q
theorem Crs.chd {ps : List Pt} {p q : Pt} (h : Crs ps p q) : Chd (sideL p q) ps :=
  ⟨h.conv, h.n16, fun x hx => up13 (h.conv.v x hx), sideL_ok h.hp.pk, side_NB h.hp⟩
theorem c50 (ps : List Pt) (p q : Pt) (h : Crs ps p q) : PC E 50 [.i (.sl (encPs ps)), .agg (encP p), .agg (encP q)] [.i (.bool (crossB ps p q))] := by
  have hdr := dirR_range (pminus q p)
  have hch := h.chd
  obtain ⟨bx, byy⟩ := hch.end_PB
  refine PC_start hE Proofs.Tryd.func50 rfl rfl Proofs.Tryd.ntmps50 (by kernel_rfl) (by kernel_rfl) (by simp) ?_
  simp (maxSteps := 1000000) (disch := first | (exact DrawOk.mk (by decide +kernel)) | omega | simp) [wrap_i64, le_most, lt_omega, le_omega, ne_omega, allLen]
  refine CallK.of (c90 p q h.hq h.hp (by decide) (by decide)) (by first | exact .inl rfl | exact .inr (by simp)) (by simp) ?_
  simp (maxSteps := 1000000) (disch := first | (exact DrawOk.mk (by decide +kernel)) | omega | simp) [wrap_i64, le_most, lt_omega, le_omega, ne_omega, allLen]
  (first | refine Gd.dec (fun h1 => ?_) (fun h1 => ?_) | refine Gd.intro (fun h1 => ?_) (fun h1 => ?_)) <;> simp (maxSteps := 1000000) (disch := first | (exact DrawOk.mk (by decide +kernel)) | omega | simp) [wrap_i64, le_most, lt_omega, le_omega, ne_omega, allLen, h1]
  · rw [show crossB ps p q = false by unfold crossB; rw [decide_eq_false (by omega)]; rfl]
  have e1 : (dirR (pminus q p)).tmod 8 = dirR (pminus q p) % 8 := by rw [Int.tmod_eq_emod_of_nonneg (by omega)]
  simp (maxSteps := 1000000) (disch := first | (exact DrawOk.mk (by decide +kernel)) | omega | simp) [wrap_i64, le_most, lt_omega, le_omega, ne_omega, allLen, e1]
  refine CallK.of (c92 p (dirR (pminus q p) % 8) h.hp (by decide) (by decide) (by omega) (by omega)) (by first | exact .inl rfl | exact .inr (by simp)) (by simp) ?_
  rw [show lat p (dirR (pminus q p) % 8) = sideL p q from rfl]
  simp (maxSteps := 1000000) (disch := first | (exact DrawOk.mk (by decide +kernel)) | omega | simp) [wrap_i64, le_most, lt_omega, le_omega, ne_omega, allLen]
  refine CallK.of (c91 ps (sideL p q) hch) (by first | exact .inl rfl | exact .inr (by simp)) (by simp) ?_
  have hcr : crossB ps p q = (chordB (sideL p q) ps && shB (ndot (vec (dirR (pminus q p))) p) (ndot (vec (dirR (pminus q p))) q) (ndot (vec (dirR (pminus q p))) (chX (sideL p q) ps)) (ndot (vec (dirR (pminus q p))) (chY (sideL p q) ps))) := by
    unfold crossB; rw [decide_eq_true (by omega)]; rfl
  have hah := ahead h.hp.pk h.hq.pk (d := dirR (pminus q p)) (by omega) rfl
  generalize chX (sideL p q) ps = x at *
  generalize chY (sideL p q) ps = y at *
  generalize chordB (sideL p q) ps = ok at *
  simp (maxSteps := 1000000) (disch := first | (exact DrawOk.mk (by decide +kernel)) | omega | simp) [wrap_i64, le_most, lt_omega, le_omega, ne_omega, allLen]
  (first | refine Gd.dec (fun h2 => ?_) (fun h2 => ?_) | refine Gd.intro (fun h2 => ?_) (fun h2 => ?_)) <;> simp (maxSteps := 1000000) (disch := first | (exact DrawOk.mk (by decide +kernel)) | omega | simp) [wrap_i64, le_most, lt_omega, le_omega, ne_omega, allLen, h2]
  rotate_left
  · rw [hcr, h2]; rfl
  refine CallK.of (c94 (dirR (pminus q p)) (by omega) (by omega)) (by first | exact .inl rfl | exact .inr (by simp)) (by simp) ?_
  simp (maxSteps := 1000000) (disch := first | (exact DrawOk.mk (by decide +kernel)) | omega | simp) [wrap_i64, le_most, lt_omega, le_omega, ne_omega, allLen]
  refine CallK.of (c93 (vec (dirR (pminus q p))) p q x y (vec_PB (by omega) (by omega)) (up13 h.hp) (up13 h.hq) bx byy (by decide) (by decide)) (by first | exact .inl rfl | exact .inr (by simp)) (by simp) ?_
  have e2 : lo2 (ndot (vec (dirR (pminus q p))) p) (ndot (vec (dirR (pminus q p))) q) = ndot (vec (dirR (pminus q p))) p := by unfold lo2; rw [if_neg (by omega)]
  have e3 : hi2 (ndot (vec (dirR (pminus q p))) p) (ndot (vec (dirR (pminus q p))) q) = ndot (vec (dirR (pminus q p))) q := by unfold hi2; rw [if_neg (by omega)]
  rw [e2, e3]
  simp (maxSteps := 1000000) (disch := first | (exact DrawOk.mk (by decide +kernel)) | omega | simp) [wrap_i64, le_most, lt_omega, le_omega, ne_omega, allLen, hcr, h2, shB]
end Go.Vai
