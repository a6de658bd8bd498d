/- Merged texts of this claim: Zp11, Zg7, Zg9, Zg8, Zg10. -/
import Derived.Test.YtampfkfcfbjoaaaDoorYd26x9
import Derived.Test.YtampfkfcfbjoaaaDoorYd26x7
/- Valid polygons: the reference's words. -/
set_option linter.unusedVariables false
set_option linter.unusedSimpArgs false
set_option maxHeartbeats 4000000
namespace Go.Vai
def okP (l : List Pt) (j : Nat) : Bool := vP (nth l j) && (decide (j = 0) || decide (pcmp (nth l 0) (nth l j) < 0))
def turnS (l : List Pt) (k : Nat) : Int := (dl l ((k + 1) % l.length) - dl l k) % 16
def sumT (l : List Pt) : Nat → Int
  | 0 => 0
  | k + 1 => sumT l k + turnS l k
theorem sumT_range (l : List Pt) : ∀ k, 0 ≤ sumT l k ∧ sumT l k ≤ 15 * k
  | 0 => by simp [sumT]
  | k + 1 => by have := sumT_range l k; simp only [sumT, turnS]; omega
def ptsS (l : List Pt) : Bool := (List.range l.length).all (okP l)
def turnsS (l : List Pt) : Bool := (List.range l.length).all fun k => inB (turnS l k) 1 7
def polS (l : List Pt) : Bool := inB l.length 3 16 && ptsS l && sidesOk l && turnsS l && decide (sumT l l.length = 16)
theorem all_no {f : Nat → Bool} {n k : Nat} (hk : k < n) (h : f k = false) : (List.range n).all f = false := by
  rw [← Bool.not_eq_true]; intro hr
  simp only [List.all_eq_true, List.mem_range] at hr
  rw [hr k hk] at h; simp at h
theorem all_yes {f : Nat → Bool} {n : Nat} (h : ∀ j, j < n → f j = true) : (List.range n).all f = true := by
  simp only [List.all_eq_true, List.mem_range]; exact h
theorem ptsS_all {l : List Pt} (h : ∀ j, j < l.length → okP l j = true) : ∀ p ∈ l, PB 10 134217728 p := by
  intro p hp
  obtain ⟨j, hj, rfl⟩ := List.getElem_of_mem hp
  have := h j hj
  simp only [okP, Bool.and_eq_true] at this
  rw [nth_eq hj] at this
  exact vP_bound this.1
theorem dls_get {l : List Pt} {n k : Nat} (h : k < n) : ((dls l n).map enc1)[k]? = some [.int .i64 (dl l k)] := by
  simp [dls, h, enc1]
theorem c31 (l : List Pt) (hl : (l.length : Int) ≤ 1048576) : PC E 31 [.i (.sl (encPs l))] [.i (.bool (polS l))] := by
  refine PC_start hE Proofs.Tryd.func31 rfl rfl Proofs.Tryd.ntmps31 (by kernel_rfl) (by kernel_rfl) (by simp) ?_
  simp (maxSteps := 1000000) (disch := first | (exact DrawOk.mk (by kernel_rfl)) | omega | simp) [wrap_i64, le_most, lt_omega, le_omega, ne_omega, allLen]
  (first | refine Gd.dec (fun h3 => ?_) (fun h3 => ?_) | refine Gd.intro (fun h3 => ?_) (fun h3 => ?_)) <;> simp (maxSteps := 1000000) (disch := first | (exact DrawOk.mk (by kernel_rfl)) | omega | simp) [wrap_i64, le_most, lt_omega, le_omega, ne_omega, allLen, h3]
  · have : polS l = false := by unfold polS inB; rw [show decide (3 ≤ (l.length : Int)) = false by simp; omega]; simp
    rw [this]
  (first | refine Gd.dec (fun h16 => ?_) (fun h16 => ?_) | refine Gd.intro (fun h16 => ?_) (fun h16 => ?_)) <;> simp (maxSteps := 1000000) (disch := first | (exact DrawOk.mk (by kernel_rfl)) | omega | simp) [wrap_i64, le_most, lt_omega, le_omega, ne_omega, allLen, h16]
  · have : polS l = false := by unfold polS inB; rw [show decide ((l.length : Int) ≤ 16) = false by simp; omega]; simp
    rw [this]
  have hin : inB l.length 3 16 = true := by unfold inB; simp; omega
  refine XL.by hE (ι := { k : Nat // k ≤ l.length ∧ ∀ j, j < k → okP l j = true }) (fun k => ⟨[(0, .i (.sl (encPs l))), (3, .i (.int .i64 l.length)), (4, .i (.int .i64 k.1))], []⟩)
    (fun k => l.length - k.1) ⟨0, Nat.zero_le _, by simp⟩ ⟨by simp, by simp, by simp⟩ (by kernel_rfl) ?_
  rintro ⟨k, hk, hr⟩
  by_cases hlt : k < l.length
  · have hlp : 0 < l.length := by omega
    have hno : okP l k = false → polS l = false := fun hh => by unfold polS ptsS; rw [all_no hlt hh]; simp
    simp (maxSteps := 1000000) (disch := first | (exact DrawOk.mk (by kernel_rfl)) | omega | simp) [wrap_i64, le_most, lt_omega, le_omega, ne_omega, allLen, hlt, encPs_get hlt]
    refine CallK.of (c44 (nth l k)) (by first | exact .inl rfl | exact .inr (by simp)) (by simp) ?_
    simp (maxSteps := 1000000) (disch := first | (exact DrawOk.mk (by kernel_rfl)) | omega | simp) [wrap_i64, le_most, lt_omega, le_omega, ne_omega, allLen]
    (first | refine Gd.dec (fun h4 => ?_) (fun h4 => ?_) | refine Gd.intro (fun h4 => ?_) (fun h4 => ?_)) <;> simp (maxSteps := 1000000) (disch := first | (exact DrawOk.mk (by kernel_rfl)) | omega | simp) [wrap_i64, le_most, lt_omega, le_omega, ne_omega, allLen, h4]
    · by_cases h0 : k = 0
      · subst h0
        simp (maxSteps := 1000000) (disch := first | (exact DrawOk.mk (by kernel_rfl)) | omega | simp) [wrap_i64, le_most, lt_omega, le_omega, ne_omega, allLen]
        (refine ⟨⟨0 + 1, by omega, stepAll hr (by simp [okP, h4])⟩, by (simp; try omega), ?_⟩; constructor <;> (simp (maxSteps := 1000000) (disch := first | (exact DrawOk.mk (by kernel_rfl)) | omega | simp) [wrap_i64, le_most, lt_omega, le_omega, ne_omega, allLen]) <;> (try omega))
      · have h00 : 0 < k := by omega
        have hv0 : vP (nth l 0) = true := by have := hr 0 h00; simp only [okP, Bool.and_eq_true] at this; exact this.1
        simp (maxSteps := 1000000) (disch := first | (exact DrawOk.mk (by kernel_rfl)) | omega | simp) [wrap_i64, le_most, lt_omega, le_omega, ne_omega, allLen, hlt, h00, hlp, encPs_get hlt, encPs_get hlp]
        refine CallK.of (c65 (nth l 0) (nth l k) (vP_bound hv0) (vP_bound h4) (by decide) (by decide)) (by first | exact .inl rfl | exact .inr (by simp)) (by simp) ?_
        simp (maxSteps := 1000000) (disch := first | (exact DrawOk.mk (by kernel_rfl)) | omega | simp) [wrap_i64, le_most, lt_omega, le_omega, ne_omega, allLen]
        (first | refine Gd.dec (fun h5 => ?_) (fun h5 => ?_) | refine Gd.intro (fun h5 => ?_) (fun h5 => ?_)) <;> simp (maxSteps := 1000000) (disch := first | (exact DrawOk.mk (by kernel_rfl)) | omega | simp) [wrap_i64, le_most, lt_omega, le_omega, ne_omega, allLen, h5]
        · rw [hno (by simp [okP, h0]; omega)]
        · (refine ⟨⟨k + 1, by omega, stepAll hr (by simp [okP, h4]; omega)⟩, by (simp; try omega), ?_⟩; constructor <;> (simp (maxSteps := 1000000) (disch := first | (exact DrawOk.mk (by kernel_rfl)) | omega | simp) [wrap_i64, le_most, lt_omega, le_omega, ne_omega, allLen]) <;> (try omega))
    · rw [hno (by simp [okP, h4])]
  · obtain rfl : k = l.length := by omega
    have hpp := ptsS_all hr
    have hps : ptsS l = true := all_yes hr
    simp (maxSteps := 1000000) (disch := first | (exact DrawOk.mk (by kernel_rfl)) | omega | simp) [wrap_i64, le_most, lt_omega, le_omega, ne_omega, allLen]
    refine CallK.of ((c46 l hl).imm) (by first | exact .inl rfl | exact .inr (by simp)) (by simp) ?_
    simp (maxSteps := 1000000) (disch := first | (exact DrawOk.mk (by kernel_rfl)) | omega | simp) [wrap_i64, le_most, lt_omega, le_omega, ne_omega, allLen]
    refine CallK.of (c66 l hpp (by decide) (by decide) hl) (by first | exact .inl rfl | exact .inr (by simp)) (by simp) ?_
    simp (maxSteps := 1000000) (disch := first | (exact DrawOk.mk (by kernel_rfl)) | omega | simp) [wrap_i64, le_most, lt_omega, le_omega, ne_omega, allLen]
    (first | refine Gd.dec (fun h6 => ?_) (fun h6 => ?_) | refine Gd.intro (fun h6 => ?_) (fun h6 => ?_)) <;> simp (maxSteps := 1000000) (disch := first | (exact DrawOk.mk (by kernel_rfl)) | omega | simp) [wrap_i64, le_most, lt_omega, le_omega, ne_omega, allLen, h6]
    rotate_left
    · have : polS l = false := by unfold polS; rw [h6]; simp
      rw [this]
    have htd : List.take l.length (List.map enc1 (dls l l.length)) = List.map enc1 (dls l l.length) := List.take_of_length_le (by simp)
    refine XL.by hE (ι := { k : Nat // k ≤ l.length ∧ ∀ j, j < k → inB (turnS l j) 1 7 = true }) (fun k => ⟨[(3, .i (.int .i64 l.length)), (5, .i (.sl ((dls l l.length).map enc1))), (7, .i (.int .i64 (sumT l k.1))), (8, .i (.int .i64 k.1))], []⟩)
      (fun k => l.length - k.1) ⟨0, Nat.zero_le _, by simp⟩ ⟨by simp [sumT, h6, htd], by simp, by simp⟩ (by kernel_rfl) ?_
    rintro ⟨k, hk, hr⟩
    have hs := sumT_range l k
    by_cases hlt : k < l.length
    · have hmod : (k + 1) % l.length < l.length := Nat.mod_lt _ (by omega)
      have hne : ¬ l = [] := by rintro rfl; simp at hlt
      have rm : ((k : Int) + 1).tmod (l.length : Int) = (((k + 1) % l.length : Nat) : Int) := by
        rw [Int.tmod_eq_emod_of_nonneg (by omega)]; simp
      have hm0 : ¬ (((k : Int) + 1) % (l.length : Int) < 0) := by have := Int.emod_nonneg ((k : Int) + 1) (b := (l.length : Int)) (by omega); omega
      have hm1 : (((k : Int) + 1) % (l.length : Int)).toNat = (k + 1) % l.length := by
        have : ((k : Int) + 1) % (l.length : Int) = (((k + 1) % l.length : Nat) : Int) := by simp
        rw [this]; rfl
      have hd1 := dl_range l k
      have hd2 := dl_range l ((k + 1) % l.length)
      have g1 : ((dls l l.length).map enc1)[k]? = some [.int .i64 (dl l k)] := dls_get hlt
      have g2 : ((dls l l.length).map enc1)[(k + 1) % l.length]? = some [.int .i64 (dl l ((k + 1) % l.length))] := dls_get hmod
      have hs1 : sumT l (k + 1) = sumT l k + turnS l k := rfl
      have hts : (dl l ((k + 1) % l.length) - dl l k) % 16 = turnS l k := rfl
      have htr : 0 ≤ turnS l k ∧ turnS l k ≤ 15 := by unfold turnS; omega
      generalize (dls l l.length).map enc1 = D at *
      simp (maxSteps := 1000000) (disch := first | (exact DrawOk.mk (by kernel_rfl)) | omega | simp) [wrap_i64, le_most, lt_omega, le_omega, ne_omega, allLen, hlt, hne, rm, hm0, hm1, hmod, g1, g2]
      refine CallK.of (c67 (dl l ((k + 1) % l.length) - dl l k) (by omega) (by omega)) (by first | exact .inl rfl | exact .inr (by simp)) (by simp) ?_
      simp (maxSteps := 1000000) (disch := first | (exact DrawOk.mk (by kernel_rfl)) | omega | simp) [wrap_i64, le_most, lt_omega, le_omega, ne_omega, allLen, hts]
      refine CallK.of (c62 _ _ _) (by first | exact .inl rfl | exact .inr (by simp)) (by simp) ?_
      simp (maxSteps := 1000000) (disch := first | (exact DrawOk.mk (by kernel_rfl)) | omega | simp) [wrap_i64, le_most, lt_omega, le_omega, ne_omega, allLen]
      (first | refine Gd.dec (fun h7 => ?_) (fun h7 => ?_) | refine Gd.intro (fun h7 => ?_) (fun h7 => ?_)) <;> simp (maxSteps := 1000000) (disch := first | (exact DrawOk.mk (by kernel_rfl)) | omega | simp) [wrap_i64, le_most, lt_omega, le_omega, ne_omega, allLen, h7]
      · (refine ⟨⟨k + 1, by omega, stepAll hr h7⟩, by (simp; try omega), ?_⟩; constructor <;> (simp (maxSteps := 1000000) (disch := first | (exact DrawOk.mk (by kernel_rfl)) | omega | simp) [wrap_i64, le_most, lt_omega, le_omega, ne_omega, allLen, hs1]) <;> (try omega))
      · have : polS l = false := by unfold polS turnsS; rw [all_no (f := fun k => inB (turnS l k) 1 7) hlt h7]; simp
        rw [this]
    · obtain rfl : k = l.length := by omega
      have ht : turnsS l = true := all_yes hr
      simp (maxSteps := 1000000) (disch := first | (exact DrawOk.mk (by kernel_rfl)) | omega | simp) [wrap_i64, le_most, lt_omega, le_omega, ne_omega, allLen, polS, hin, hps, h6, ht]
end Go.Vai
/- Valid polygons: what the walks ask for holds. -/
set_option linter.unusedVariables false
set_option linter.unusedSimpArgs false
set_option maxHeartbeats 4000000
namespace Go.Vai
theorem sideL_ok {p q : Pt} (hp : PK p) : Lok (sideL p q) := lat_ok hp (by omega) (by omega)
theorem side_ends {p q : Pt} (hp : PK p) (hq : PK q) (h : 0 ≤ dirR (pminus q p)) : on (sideL p q) p ∧ on (sideL p q) q := by
  have h1 : on (sideL p q) p := lat_on _ hp
  refine ⟨h1, ?_⟩
  have hw : PK (pminus q p) := pk_minus hq
  have wx : val (pminus q p).x = val q.x - val p.x := val_nsub hq.1 hp.1
  have wy : val (pminus q p).y = val q.y - val p.y := val_nsub hq.2 hp.2
  obtain ⟨i, hi, hid, hdr⟩ : ∃ i, i < 16 ∧ isDir (pminus q p) i = true ∧ dirR (pminus q p) = (i : Int) := by
    unfold dirR at h ⊢
    cases hf : (List.range 16).find? (isDir (pminus q p)) with
    | none => rw [hf] at h; simp at h
    | some i => exact ⟨i, List.mem_range.1 (List.mem_of_find?_eq_some hf), List.find?_some hf, rfl⟩
  have hci : pcross (vec i) (pminus q p) = ⟨0, 0, 0⟩ := by
    unfold isDir at hid
    simp only [Bool.and_eq_true, decide_eq_true_eq] at hid
    exact hid.1
  have hz : val (pcross (vec i) (pminus q p)) = 0 := by rw [hci]; exact val_zero
  rw [val_pcross (vec_k i) hw, wx, wy] at hz
  have hd : (sideL p q).dir = (i : Int) % 8 := by unfold sideL lat; rw [hdr]
  have hv : val (vec ((i : Int) % 8)).x * (val q.y - val p.y) - val (vec ((i : Int) % 8)).y * (val q.x - val p.x) = 0 := by
    by_cases h8 : i < 8
    · rw [show (i : Int) % 8 = i by omega]; exact hz
    · have e : (i : Int) = (i : Int) % 8 + 8 := by omega
      rw [e, vec_half (by omega) (by omega)] at hz
      simp only [val_nneg] at hz
      grind
  have ht : vec ((sideL p q).dir + 4) = ⟨nneg (vec ((i : Int) % 8)).y, (vec ((i : Int) % 8)).x⟩ := by
    rw [hd]
    have := vec_turn (d := (i : Int) % 8) (by omega) (by omega)
    rwa [Int.emod_eq_of_lt (by omega) (by omega)] at this
  unfold on at h1 ⊢
  rw [ht] at h1 ⊢
  simp only [val_nneg] at h1 ⊢
  grind
def MM : Nat := 805306368
theorem side_NB {p q : Pt} (hp : PB 10 134217728 p) : NB 10 MM (sideL p q).off := by
  have := (vec_PB (d := dirR (pminus q p) % 8 + 4) (by omega) (by omega)).dot hp
  simp only [Nat.zero_add, Nat.one_mul] at this
  exact this
/-- A list of valid points each of which has a direction to the next one. -/
structure Poly (l : List Pt) : Prop where
  v : ∀ p ∈ l, PB 10 134217728 p
  d : ∀ k, k < l.length → 0 ≤ dl l k
theorem Poly.pk {l : List Pt} (h : Poly l) : ∀ p ∈ l, PK p := fun p hp => (h.v p hp).pk
def linesOf (l : List Pt) : List Li := (List.range l.length).map fun k => sideL (nth l k) (nxt l k)
theorem nxt_mem {l : List Pt} {k : Nat} (h : k < l.length) : nxt l k ∈ l := nth_mem (Nat.mod_lt _ (by omega))
theorem Poly.chain {l : List Pt} (h : Poly l) : SOk 10 MM (linesOf l) ∧ Chain (linesOf l) l := by
  refine ⟨fun L hL => ?_, fun k hk => ?_⟩
  · obtain ⟨k, hk, rfl⟩ := List.mem_map.1 hL
    have hk' := List.mem_range.1 hk
    exact ⟨sideL_ok (h.pk _ (nth_mem hk')), side_NB (h.v _ (nth_mem hk'))⟩
  · obtain ⟨e1, e2⟩ := side_ends (h.pk _ (nth_mem hk)) (h.pk _ (nxt_mem hk)) (h.d k hk)
    exact ⟨_, List.mem_map.2 ⟨k, List.mem_range.2 hk, rfl⟩, e1, e2⟩
theorem cutN_PK {l : Li} {s : Int} {ps : List Pt} (hl : Lok l) (hp : ∀ p ∈ ps, PK p) : ∀ k, k ≤ ps.length → ∀ p ∈ cutN l s ps k, PK p
  | 0, _ => by simp [cutN]
  | k + 1, hk => by
    intro p h
    simp only [cutN, List.mem_append] at h
    rcases h with h | h
    · exact cutN_PK hl hp k (by omega) p h
    · simp only [cutF, List.mem_append] at h
      rcases h with h | h
      · split at h
        · obtain rfl := List.mem_singleton.1 h; exact hp _ (nth_mem (by omega))
        · simp at h
      · split at h
        · obtain rfl := List.mem_singleton.1 h
          exact meet_k (sideL_ok (hp _ (nth_mem (by omega)))) hl
        · simp at h
theorem least_le (l : List Pt) : least l ≤ l.length := by
  by_cases h : l = []
  · subst h; simp [least, leastF]
  · exact Nat.le_of_lt (leastF_lt (Nat.le_refl _) (List.length_pos_iff.2 h))
/-- What a cutting line keeps: neighbours on common lines, points with coordinates in order. -/
def Fine (ps : List Pt) : Prop := ∃ S, SOk 10 MM S ∧ Chain S ps ∧ ∀ p ∈ ps, PK p
theorem Fine.half {ps : List Pt} {l : Li} {s : Int} (h : Fine ps) (hl : Lok l) (hn : NB 10 MM l.off) (hs : s = 1 ∨ s = -1) : Fine (halfR l s ps) := by
  obtain ⟨S, h1, h2, h3⟩ := h
  unfold halfR
  split
  · refine ⟨l :: S, fun L hL => ?_, h2.cut h1 hl hs h3, cutN_PK hl h3 _ (Nat.le_refl _)⟩
    rcases List.mem_cons.1 hL with rfl | hL
    · exact ⟨hl, hn⟩
    · exact h1 L hL
  · exact ⟨S, h1, fun k hk => by simp at hk, by simp⟩
theorem Fine.rot {ps : List Pt} (h : Fine ps) : Fine (rot0 ps) := by
  obtain ⟨S, h1, h2, h3⟩ := h
  exact ⟨S, h1, h2.rot (least_le ps), fun p hp => h3 p (rot0_mem hp)⟩
theorem partR_eq (l : Li) (s : Int) (ps : List Pt) : partR l s ps = if hasN l s ps ps.length = true then rot0 (halfR l s ps) else halfR l s ps := by
  unfold partR halfR; split <;> simp_all
theorem Fine.part {ps : List Pt} {l : Li} {s : Int} (h : Fine ps) (hl : Lok l) (hn : NB 10 MM l.off) (hs : s = 1 ∨ s = -1) : Fine (partR l s ps) := by
  rw [partR_eq]
  split
  · exact (h.half hl hn hs).rot
  · exact h.half hl hn hs
theorem Fine.good {ps : List Pt} {l : Li} {s : Int} (h : Fine ps) (hl : Lok l) : Good 10 MM l s ps := by
  obtain ⟨S, h1, h2, h3⟩ := h
  exact h2.good h1 hl h3
theorem Poly.fine {l : List Pt} (h : Poly l) : Fine l := ⟨_, h.chain.1, h.chain.2, h.pk⟩
theorem comN_fine {a b : List Pt} (ha : Fine a) (hb : Poly b) : ∀ k, k ≤ b.length → Fine (comN a b k)
  | 0, _ => ha
  | k + 1, hk => (comN_fine ha hb k (by omega)).part (sideL_ok (hb.pk _ (nth_mem (by omega)))) (side_NB (hb.v _ (nth_mem (by omega)))) (sideS_or _ _)
theorem spcN_fine {a b : List Pt} (ha : Fine a) (hb : Poly b) : ∀ k, k ≤ b.length → Fine (spcN a b k)
  | 0, _ => ha
  | k + 1, hk => (spcN_fine ha hb k (by omega)).half (sideL_ok (hb.pk _ (nth_mem (by omega)))) (side_NB (hb.v _ (nth_mem (by omega)))) (sideS_or _ _)
def MP : Nat := 576 * MM
theorem up13 {p : Pt} (h : PB 10 134217728 p) : PB (10 + 3) MP p := by
  have := h.up (K' := 13) (by decide)
  exact this.mono (by decide)
theorem com_of {a b : List Pt} (ha : Fine a) (pa : ∀ p ∈ a, PB (10 + 3) MP p) (hb : Poly b) : Com 10 MM MP a b :=
  ⟨pa, fun p hp => up13 (hb.v p hp), fun k hk => ⟨hb.d k hk, side_NB (hb.v _ (nth_mem hk)), (comN_fine ha hb k (by omega)).good (sideL_ok (hb.pk _ (nth_mem hk)))⟩⟩
theorem spc_of {a b : List Pt} (ha : Fine a) (pa : ∀ p ∈ a, PB (10 + 3) MP p) (hb : Poly b) : Spc 10 MM MP a b :=
  ⟨pa, fun p hp => up13 (hb.v p hp), fun k hk => ⟨hb.d k hk, side_NB (hb.v _ (nth_mem hk)), (spcN_fine ha hb k (by omega)).good (sideL_ok (hb.pk _ (nth_mem hk)))⟩⟩
end Go.Vai
/- The order of the values. -/
set_option linter.unusedVariables false
set_option linter.unusedSimpArgs false
set_option maxHeartbeats 4000000
namespace Go.Vai
/-- Positive: above 0 for both of two rational bounds of sqrt 2, and so between them. -/
def Pos (x : Q2) : Prop := ∃ r s : Rat, 0 < r ∧ r * r < 2 ∧ 0 < s ∧ 2 < s * s ∧ 0 < x.a + x.b * r ∧ 0 < x.a + x.b * s
theorem rs_lt {r s : Rat} (hr : 0 < r) (h : r * r < 2) (hs : 0 < s) (h' : 2 < s * s) : r < s := by
  rcases (Rat.le_total : s ≤ r ∨ r ≤ s) with hle | hlt
  · have h1 : s * s ≤ r * r := by
      have a := Rat.mul_le_mul_of_nonneg_left hle (Rat.le_of_lt hs)
      have b := Rat.mul_le_mul_of_nonneg_right hle (Rat.le_of_lt hr)
      grind
    grind
  · grind
/-- A linear function that is positive at both ends is positive between. -/
theorem lin_between {a b r s t : Rat} (h1 : 0 < a + b * r) (h2 : 0 < a + b * s) (hr : r ≤ t) (hs : t ≤ s) : 0 < a + b * t := by
  rcases (Rat.le_total : 0 ≤ b ∨ b ≤ 0) with hb | hb
  · have := Rat.mul_le_mul_of_nonneg_left hr hb
    grind
  · have := Rat.mul_le_mul_of_nonneg_left hs (show 0 ≤ -b by grind)
    grind
theorem Pos.add {x y : Q2} (hx : Pos x) (hy : Pos y) : Pos (x + y) := by
  obtain ⟨r, s, a1, a2, a3, a4, a5, a6⟩ := hx
  obtain ⟨r', s', b1, b2, b3, b4, b5, b6⟩ := hy
  have c1 := rs_lt a1 a2 b3 b4
  have c2 := rs_lt b1 b2 a3 a4
  have c3 := rs_lt a1 a2 a3 a4
  have c4 := rs_lt b1 b2 b3 b4
  rcases (Rat.le_total : r ≤ r' ∨ r' ≤ r) with h | h <;> rcases (Rat.le_total : s ≤ s' ∨ s' ≤ s) with g | g
  · refine ⟨r', s, b1, b2, a3, a4, ?_, ?_⟩
    · have := lin_between a5 a6 h (Rat.le_of_lt c2); simp only [Q2.add_a, Q2.add_b]; grind
    · have := lin_between b5 b6 (Rat.le_of_lt c2) g; simp only [Q2.add_a, Q2.add_b]; grind
  · refine ⟨r', s', b1, b2, b3, b4, ?_, ?_⟩
    · have := lin_between a5 a6 h (Rat.le_of_lt c2); simp only [Q2.add_a, Q2.add_b]; grind
    · have := lin_between a5 a6 (Rat.le_of_lt c1) g; simp only [Q2.add_a, Q2.add_b]; grind
  · refine ⟨r, s, a1, a2, a3, a4, ?_, ?_⟩
    · have := lin_between b5 b6 h (Rat.le_of_lt c1); simp only [Q2.add_a, Q2.add_b]; grind
    · have := lin_between b5 b6 (Rat.le_of_lt c2) g; simp only [Q2.add_a, Q2.add_b]; grind
  · refine ⟨r, s', a1, a2, b3, b4, ?_, ?_⟩
    · have := lin_between b5 b6 h (Rat.le_of_lt c1); simp only [Q2.add_a, Q2.add_b]; grind
    · have := lin_between a5 a6 (Rat.le_of_lt c1) g; simp only [Q2.add_a, Q2.add_b]; grind
theorem Pos.ne {x : Q2} (h : Pos x) : x ≠ 0 := by
  rintro rfl
  obtain ⟨r, s, a1, a2, a3, a4, a5, a6⟩ := h
  simp only [Q2.zero_a, Q2.zero_b] at a5
  grind
theorem pos_one {x : Q2} (ha : 0 ≤ x.a) (hb : 0 ≤ x.b) (h : 0 < x.a ∨ 0 < x.b) : Pos x := by
  refine ⟨1, 2, by grind, by grind, by grind, by grind, ?_, ?_⟩
  · rcases h with h | h <;> grind
  · rcases h with h | h <;> grind
theorem Pos.scale {x : Q2} (h : Pos x) {c : Rat} (hc : 0 < c) : Pos ⟨c * x.a, c * x.b⟩ := by
  obtain ⟨r, s, a1, a2, a3, a4, a5, a6⟩ := h
  refine ⟨r, s, a1, a2, a3, a4, ?_, ?_⟩
  · have := Rat.mul_pos hc a5; simp only; grind
  · have := Rat.mul_pos hc a6; simp only; grind
theorem inv_pos {r : Rat} (h : 0 < r) : 0 < 2 / r := by
  have := Rat.inv_pos.2 h
  rw [Rat.div_def]; exact Rat.mul_pos (by grind) this
theorem Pos.root {x : Q2} (h : Pos x) : Pos ⟨2 * x.b, x.a⟩ := by
  obtain ⟨r, s, a1, a2, a3, a4, a5, a6⟩ := h
  have i1 := inv_pos a1
  have i2 := inv_pos a3
  have e1 : (2 / r) * r = 2 := by grind
  have e2 : (2 / s) * s = 2 := by grind
  generalize 2 / r = u at *
  generalize 2 / s = v at *
  refine ⟨v, u, i2, ?_, i1, ?_, ?_, ?_⟩
  · have h1 := Rat.mul_pos i2 i2
    have h2 : (v * v) * (s * s) = 4 := by grind
    have h3 : 0 < (v * v) * (s * s - 2) := Rat.mul_pos h1 (by grind)
    grind
  · have h1 := Rat.mul_pos i1 i1
    have h2 : (u * u) * (r * r) = 4 := by grind
    have h3 : 0 < (u * u) * (2 - r * r) := Rat.mul_pos h1 (by grind)
    grind
  · have := Rat.mul_pos i2 a6
    have e : v * (x.a + x.b * s) = 2 * x.b + x.a * v := by grind
    rw [e] at this; exact this
  · have := Rat.mul_pos i1 a5
    have e : u * (x.a + x.b * r) = 2 * x.b + x.a * u := by grind
    rw [e] at this; exact this
/-- x above 0, by its norm: what nsign looks at. -/
theorem pos_left {a b : Rat} (ha : 0 < a) (hb : b < 0) (h : 2 * (b * b) < a * a) : Pos ⟨a, b⟩ := by
  have hb' : 0 < -b := by grind
  have i := Rat.inv_pos.2 hb'
  have ia := Rat.inv_pos.2 ha
  -- s0 = a / |b|; s = (s0 + 2 / s0) / 2
  obtain ⟨t, ht⟩ : ∃ t : Rat, t = a * (-b)⁻¹ := ⟨_, rfl⟩
  have t0 : 0 < t := by rw [ht]; exact Rat.mul_pos ha i
  have e1 : t * (-b) = a := by grind
  have bb : 0 < b * b := by have := Rat.mul_pos hb' hb'; grind
  have t2 : 2 < t * t := by
    have e : (t * t) * (b * b) = a * a := by grind
    rcases (Rat.le_total : t * t ≤ 2 ∨ 2 ≤ t * t) with g | g
    · have := Rat.mul_le_mul_of_nonneg_right g (Rat.le_of_lt bb)
      grind
    · rcases (Rat.le_total : t * t ≤ 2 ∨ 2 ≤ t * t) with g' | g'
      · have := Rat.mul_le_mul_of_nonneg_right g' (Rat.le_of_lt bb); grind
      · have hne : t * t ≠ 2 := by intro h2; rw [h2] at e; grind
        grind
  have v0 := inv_pos t0
  have e2 : (2 / t) * t = 2 := by grind
  generalize 2 / t = v at *
  have vt : v < t := by
    rcases (Rat.le_total : v ≤ t ∨ t ≤ v) with g | g
    · have hne : v ≠ t := by rintro rfl; grind
      grind
    · have := Rat.mul_le_mul_of_nonneg_right g (Rat.le_of_lt t0); grind
  refine ⟨1, (t + v) / 2, by grind, by grind, by grind, ?_, ?_, ?_⟩
  · have : 0 < (t - v) * (t - v) := Rat.mul_pos (by grind) (by grind)
    grind
  · simp only
    have : 1 < t := by
      rcases (Rat.le_total : t ≤ 1 ∨ 1 ≤ t) with g | g
      · have := Rat.mul_le_mul_of_nonneg_right g (Rat.le_of_lt t0); grind
      · have hne : t ≠ 1 := by rintro rfl; grind
        grind
    have := Rat.mul_pos (show 0 < t - 1 by grind) hb'
    grind
  · simp only
    have := Rat.mul_pos (show 0 < t - (t + v) / 2 by grind) hb'
    grind
theorem pos_right {a b : Rat} (ha : a < 0) (hb : 0 < b) (h : a * a < 2 * (b * b)) : Pos ⟨a, b⟩ := by
  have h1 : Pos ⟨2 * b, a⟩ := pos_left (by grind) ha (by grind)
  have h2 := h1.root.scale (c := 1 / 2) (by grind)
  simp only at h2
  have e1 : (1 / 2 : Rat) * (2 * a) = a := by grind
  have e2 : (1 / 2 : Rat) * (2 * b) = b := by grind
  rwa [e1, e2] at h2
theorem pr_pos (k : Int) : 0 < pr k := by
  unfold pr; exact_mod_cast pw_pos k
theorem sgn_one {n : Int} : sgn n = 1 ↔ 0 < n := by unfold sgn; split <;> (try split) <;> omega
theorem pos_int {a b : Int} (h : nsign ⟨a, b, 0⟩ = 1) : Pos ⟨(a : Rat), (b : Rat)⟩ := by
  unfold nsign at h
  simp only at h
  split at h
  · rename_i hc
    have ha := sgn_one.1 h
    rcases hc with hc | hc
    · have hb : 0 < b := sgn_one.1 (by rw [← hc]; exact h)
      exact pos_one (by simp only; exact_mod_cast Int.le_of_lt ha) (by simp only; exact_mod_cast Int.le_of_lt hb) (.inl (by simp only; exact_mod_cast ha))
    · have hb := sgn_zero.1 hc
      subst hb
      exact pos_one (by simp only; exact_mod_cast Int.le_of_lt ha) (by simp) (.inl (by simp only; exact_mod_cast ha))
  · rename_i hc
    split at h
    · rename_i hd
      have hb := sgn_one.1 h
      by_cases ha : a < 0
      · rcases hd with hd | hd
        · have := sgn_zero.1 hd; omega
        · have hle : a * a ≤ 2 * (b * b) := by omega
          have hne : a * a ≠ 2 * (b * b) := by
            intro he
            have := irr he
            omega
          have hlt : a * a < 2 * (b * b) := by omega
          exact pos_right (by exact_mod_cast ha) (by exact_mod_cast hb) (by exact_mod_cast hlt)
      · exact pos_one (by simp only; exact_mod_cast (show 0 ≤ a by omega)) (by simp only; exact_mod_cast Int.le_of_lt hb) (.inr (by simp only; exact_mod_cast hb))
    · rename_i hd
      have ha := sgn_one.1 h
      have hlt : 2 * (b * b) < a * a := by
        by_cases hx : 2 * (b * b) < a * a
        · exact hx
        · exact absurd (.inr hx) hd
      by_cases hb : b < 0
      · exact pos_left (by exact_mod_cast ha) (by exact_mod_cast hb) (by exact_mod_cast hlt)
      · exact pos_one (by simp only; exact_mod_cast Int.le_of_lt ha) (by simp only; exact_mod_cast (show 0 ≤ b by omega)) (.inl (by simp only; exact_mod_cast ha))
theorem pos_of {x : Nu} (h : nsign x = 1) : Pos (val x) := by
  have h1 := (pos_int (a := x.a) (b := x.b) h).scale (c := (pr x.k)⁻¹) (Rat.inv_pos.2 (pr_pos _))
  have e : val x = ⟨(pr x.k)⁻¹ * (x.a : Rat), (pr x.k)⁻¹ * (x.b : Rat)⟩ := by
    apply Q2.ext' <;> simp only [val, Rat.div_def] <;> grind
  rw [e]; exact h1
theorem Pos.mul {x : Q2} (h : Pos x) {u v : Rat} (hu : 0 ≤ u) (hv : 0 ≤ v) (hz : 0 < u ∨ 0 < v) : Pos (⟨u, v⟩ * x) := by
  have e : (⟨u, v⟩ * x : Q2) = ⟨u * x.a + 2 * (v * x.b), u * x.b + v * x.a⟩ := rfl
  rw [e]
  by_cases h1 : 0 < u <;> by_cases h2 : 0 < v
  · have := (h.scale h1).add (h.root.scale h2)
    have e2 : ((⟨u * x.a, u * x.b⟩ : Q2) + ⟨v * (2 * x.b), v * x.a⟩) = ⟨u * x.a + 2 * (v * x.b), u * x.b + v * x.a⟩ := Q2.ext' (by simp only [Q2.add_a]; grind) (by simp only [Q2.add_b])
    simp only at this
    rwa [e2] at this
  · have hv0 : v = 0 := by grind
    subst hv0
    have := h.scale h1
    have e2 : (⟨u * x.a + 2 * (0 * x.b), u * x.b + 0 * x.a⟩ : Q2) = ⟨u * x.a, u * x.b⟩ := Q2.ext' (by simp only; grind) (by simp only; grind)
    rw [e2]; exact this
  · have hu0 : u = 0 := by grind
    subst hu0
    have := h.root.scale h2
    have e2 : (⟨0 * x.a + 2 * (v * x.b), 0 * x.b + v * x.a⟩ : Q2) = ⟨v * (2 * x.b), v * x.a⟩ := Q2.ext' (by simp only; grind) (by simp only; grind)
    rw [e2]; exact this
  · exfalso; rcases hz with h | h <;> contradiction
def nnB (c : Nu) : Bool := decide (c.k = 0) && decide (0 ≤ c.a) && decide (0 ≤ c.b) && (decide (0 < c.a) || decide (0 < c.b))
theorem nn_mul {c : Nu} {x : Q2} (hc : nnB c = true) (h : Pos x) : Pos (val c * x) := by
  simp only [nnB, Bool.and_eq_true, Bool.or_eq_true, decide_eq_true_eq] at hc
  obtain ⟨⟨⟨h1, h2⟩, h3⟩, h4⟩ := hc
  have e0 : pr c.k = 1 := by rw [h1]; rfl
  have e : val c = ⟨(c.a : Rat), (c.b : Rat)⟩ := by apply Q2.ext' <;> simp only [val, e0] <;> grind
  rw [e]
  exact h.mul (by exact_mod_cast h2) (by exact_mod_cast h3) (by
    rcases h4 with h | h
    · exact .inl (by exact_mod_cast h)
    · exact .inr (by exact_mod_cast h))
/-- A number of norm with few digits that makes both the square of a direction and its product with another one plain. -/
def wN : Nu := ⟨1, 1, 0⟩
theorem sq_plain {t : Int} (h0 : 0 ≤ t) (h1 : t ≤ 15) : nnB (nmul wN (ndot (vec t) (vec t))) = true := by
  rcases dir16 h0 h1 with rfl | rfl | rfl | rfl | rfl | rfl | rfl | rfl | rfl | rfl | rfl | rfl | rfl | rfl | rfl | rfl <;> decide
theorem near_plain {t m : Int} (h0 : 0 ≤ t) (h1 : t ≤ 15) (g0 : 0 ≤ m) (g1 : m ≤ 15) (h : (m - t) % 16 ≤ 3 ∨ 13 ≤ (m - t) % 16) : nnB (nmul wN (ndot (vec m) (vec t))) = true := by
  rcases dir16 h0 h1 with rfl | rfl | rfl | rfl | rfl | rfl | rfl | rfl | rfl | rfl | rfl | rfl | rfl | rfl | rfl | rfl <;>
    rcases dir16 g0 g1 with rfl | rfl | rfl | rfl | rfl | rfl | rfl | rfl | rfl | rfl | rfl | rfl | rfl | rfl | rfl | rfl <;>
    first | (exfalso; omega) | decide
/-- A way of direction t goes forward along every direction less than a quarter away. -/
theorem dir_pos {w : Pt} {t m : Int} (hw : PK w) (h0 : 0 ≤ t) (h1 : t ≤ 15) (g0 : 0 ≤ m) (g1 : m ≤ 15) (h : (m - t) % 16 ≤ 3 ∨ 13 ≤ (m - t) % 16) (hd : dirR w = t) : Pos (val (ndot (vec m) w)) := by
  obtain ⟨i, hi, hid, hdr⟩ : ∃ i, i < 16 ∧ isDir w i = true ∧ dirR w = (i : Int) := by
    unfold dirR at hd ⊢
    cases hf : (List.range 16).find? (isDir w) with
    | none => rw [hf] at hd; simp at hd; omega
    | some i => exact ⟨i, List.mem_range.1 (List.mem_of_find?_eq_some hf), List.find?_some hf, rfl⟩
  have hit : (i : Int) = t := by omega
  unfold isDir at hid
  rw [hit] at hid
  simp only [Bool.and_eq_true, decide_eq_true_eq] at hid
  obtain ⟨hc, hp⟩ := hid
  have hvt := vec_k t
  have hvm := vec_k m
  have hpos : Pos (val (ndot (vec t) w)) := pos_of (by rcases nsign_range (ndot (vec t) w) with h | h | h <;> omega)
  have hz : val (pcross (vec t) w) = 0 := by rw [hc]; exact val_zero
  rw [val_pcross hvt hw] at hz
  have a1 := nn_mul (near_plain h0 h1 g0 g1 h) hpos
  have hwk : (0 : Int) ≤ wN.k := by decide
  have ktt : 0 ≤ (ndot (vec t) (vec t)).k := ndot_k hvt hvt
  have kmt : 0 ≤ (ndot (vec m) (vec t)).k := ndot_k hvm hvt
  rw [val_nmul hwk kmt, val_ndot hvm hvt, val_ndot hvt hw] at a1
  rcases nsign_range (ndot (vec m) w) with hs | hs | hs
  · exfalso
    have b1 := pos_of (x := nneg (ndot (vec m) w)) (by rw [nsign_neg, hs]; rfl)
    have b2 := nn_mul (sq_plain h0 h1) b1
    rw [val_nmul hwk ktt, val_ndot hvt hvt, val_nneg, val_ndot hvm hw] at b2
    have c := a1.add b2
    refine c.ne ?_
    grind
  · exfalso
    rw [nsign_zero, val_ndot hvm hw] at hs
    refine a1.ne ?_
    grind
  · exact pos_of hs
end Go.Vai
/- Turned lists are cut to turned lists. -/
set_option linter.unusedVariables false
set_option linter.unusedSimpArgs false
set_option maxHeartbeats 4000000
namespace Go.Vai
def Rot (x y : List Pt) : Prop := x.length = y.length ∧ ∃ c, ∀ k, k < x.length → nth y k = nth x ((k + c) % x.length)
theorem Rot.refl (x : List Pt) : Rot x x := ⟨rfl, 0, fun k hk => by rw [Nat.add_zero, Nat.mod_eq_of_lt hk]⟩
theorem Rot.trans {x y z : List Pt} (h : Rot x y) (h' : Rot y z) : Rot x z := by
  obtain ⟨e1, c1, h1⟩ := h
  obtain ⟨e2, c2, h2⟩ := h'
  refine ⟨e1.trans e2, c1 + c2, fun k hk => ?_⟩
  rw [h2 k (by omega), h1 _ (by rw [← e1]; exact Nat.mod_lt _ (by omega)), ← e1, Nat.mod_add_mod]
  congr 2; omega
theorem rot_of (l : List Pt) (c : Nat) (hc : c ≤ l.length) : Rot l (l.drop c ++ l.take c) := ⟨by simp; omega, c, fun k hk => nth_rot hc hk⟩
theorem rot_rot0 (l : List Pt) : Rot l (rot0 l) := rot_of l _ (least_le l)
theorem Rot.nil {x y : List Pt} (h : Rot x y) : x = [] ↔ y = [] := by
  rw [← List.length_eq_zero_iff, ← List.length_eq_zero_iff, h.1]
theorem nth_ext {x y : List Pt} (h : x.length = y.length) (h2 : ∀ k, k < x.length → nth x k = nth y k) : x = y := by
  apply List.ext_getElem h
  intro k a b
  have := h2 k a
  rwa [nth_eq a, nth_eq b] at this
theorem cutN_flat (l : Li) (s : Int) (ps : List Pt) : ∀ n, cutN l s ps n = (List.range n).flatMap fun k => cutF l s (nth ps k) (nxt ps k)
  | 0 => rfl
  | n + 1 => by rw [List.range_succ, List.flatMap_append, ← cutN_flat l s ps n]; simp [cutN]
theorem range_rot {n c : Nat} (hc : c < n) : (List.range n).map (fun k => (k + c) % n) = (List.range n).drop c ++ (List.range n).take c := by
  apply List.ext_getElem
  · simp; omega
  · intro k a b
    simp at a
    rw [List.getElem_map, List.getElem_range, List.getElem_append]
    split
    · rename_i h
      simp at h
      rw [List.getElem_drop, List.getElem_range, Nat.mod_eq_of_lt (by omega)]; omega
    · rename_i h
      simp at h
      rw [List.getElem_take, List.getElem_range, Nat.mod_eq_sub_mod (by omega), Nat.mod_eq_of_lt (by omega)]
      simp; omega
theorem Rot.cut {x y : List Pt} (h : Rot x y) (l : Li) (s : Int) : Rot (cutN l s x x.length) (cutN l s y y.length) := by
  obtain ⟨e, c0, h0⟩ := h
  by_cases hn : x.length = 0
  · rw [← e, hn]; exact Rot.refl _
  have hc : c0 % x.length < x.length := Nat.mod_lt _ (by omega)
  generalize hcc : c0 % x.length = c at hc
  have h1 : ∀ k, k < x.length → nth y k = nth x ((k + c) % x.length) := by
    intro k hk
    rw [h0 k hk, ← hcc, Nat.add_mod_mod]
  have hx : ∀ k, k < x.length → nxt y k = nxt x ((k + c) % x.length) := by
    intro k hk
    unfold nxt
    rw [← e, h1 _ (Nat.mod_lt _ (by omega)), Nat.mod_add_mod, Nat.mod_add_mod]
    congr 2; omega
  rw [cutN_flat, cutN_flat, ← e]
  have : (List.range x.length).flatMap (fun k => cutF l s (nth y k) (nxt y k)) = ((List.range x.length).map (fun k => (k + c) % x.length)).flatMap (fun k => cutF l s (nth x k) (nxt x k)) := by
    rw [List.flatMap_map]
    unfold List.flatMap
    congr 1
    apply List.map_congr_left
    intro k hk
    have hk' := List.mem_range.1 hk
    rw [h1 k hk', hx k hk']
  rw [this, range_rot hc, List.flatMap_append]
  generalize hA : (List.drop c (List.range x.length)).flatMap (fun k => cutF l s (nth x k) (nxt x k)) = A
  generalize hB : (List.take c (List.range x.length)).flatMap (fun k => cutF l s (nth x k) (nxt x k)) = B
  have hfull : (List.range x.length).flatMap (fun k => cutF l s (nth x k) (nxt x k)) = B ++ A := by
    rw [← hA, ← hB, ← List.flatMap_append, List.take_append_drop]
  rw [hfull]
  have := rot_of (B ++ A) B.length (by simp)
  simpa using this
theorem hasN_any (l : Li) (s : Int) (ps : List Pt) : ∀ n, hasN l s ps n = true ↔ ∃ k, k < n ∧ 0 < s * sd l (nth ps k)
  | 0 => by simp [hasN]
  | n + 1 => by
    simp only [hasN, Bool.or_eq_true, decide_eq_true_eq, hasN_any l s ps n]
    constructor
    · rintro (⟨k, h1, h2⟩ | h)
      · exact ⟨k, by omega, h2⟩
      · exact ⟨n, by omega, h⟩
    · rintro ⟨k, h1, h2⟩
      by_cases hk : k < n
      · exact .inl ⟨k, hk, h2⟩
      · obtain rfl : k = n := by omega
        exact .inr h2
theorem Rot.symm {x y : List Pt} (h : Rot x y) : Rot y x := by
  obtain ⟨e, c0, h0⟩ := h
  by_cases hn : x.length = 0
  · exact ⟨e.symm, 0, fun k hk => by omega⟩
  have hc : c0 % x.length < x.length := Nat.mod_lt _ (by omega)
  refine ⟨e.symm, x.length - c0 % x.length, fun k hk => ?_⟩
  rw [← e] at hk ⊢
  rw [h0 _ (Nat.mod_lt _ (by omega)), Nat.mod_add_mod]
  have : (k + (x.length - c0 % x.length) + c0) % x.length = k := by
    have h1 : (k + (x.length - c0 % x.length) + c0 % x.length) = k + x.length := by omega
    have h2 := Nat.add_mod_mod (k + (x.length - c0 % x.length)) c0 x.length
    rw [← h2, h1, Nat.add_mod_right, Nat.mod_eq_of_lt hk]
  rw [this]
theorem Rot.has {x y : List Pt} (h : Rot x y) (l : Li) (s : Int) : hasN l s x x.length = true → hasN l s y y.length = true := by
  rw [hasN_any, hasN_any]
  rintro ⟨k, hk, hp⟩
  obtain ⟨e, c, h'⟩ := h.symm
  have hk' : k < y.length := by have := h.1; omega
  refine ⟨(k + c) % y.length, Nat.mod_lt _ (by omega), ?_⟩
  rw [← h' k hk']; exact hp
theorem Rot.half {x y : List Pt} (h : Rot x y) (l : Li) (s : Int) : Rot (halfR l s x) (halfR l s y) := by
  unfold halfR
  by_cases hx : hasN l s x x.length = true
  · rw [if_pos hx, if_pos (h.has l s hx)]; exact h.cut l s
  · rw [if_neg hx, if_neg (fun hy => hx (h.symm.has l s hy))]; exact Rot.refl _
theorem com_spc (a b : List Pt) : ∀ k, Rot (spcN a b k) (comN a b k)
  | 0 => Rot.refl _
  | k + 1 => by
    have ih := (com_spc a b k).half (sideL (nth b k) (nxt b k)) (sideS (nth b k) (nxt b k))
    show Rot (halfR _ _ _) (partR _ _ _)
    rw [partR_eq]
    split
    · exact ih.trans (rot_rot0 _)
    · exact ih
theorem overlap_eq (a b : List Pt) : decide (0 < (commonR a b).length) = decide (0 < (spcN a b b.length).length) := by
  have h := (com_spc a b b.length).1
  unfold commonR
  rw [rot0_len, ← h]
end Go.Vai
/- A convex list meets its first corner once. -/
set_option linter.unusedVariables false
set_option linter.unusedSimpArgs false
set_option maxHeartbeats 4000000
namespace Go.Vai
def fv (m : Int) (p : Pt) : Q2 := val (vec m).x * val p.x + val (vec m).y * val p.y
theorem fv_way {m : Int} {p q : Pt} (hp : PK p) (hq : PK q) : fv m q = fv m p + val (ndot (vec m) (pminus q p)) := by
  have hw : PK (pminus q p) := pk_minus hq
  have wx : val (pminus q p).x = val q.x - val p.x := val_nsub hq.1 hp.1
  have wy : val (pminus q p).y = val q.y - val p.y := val_nsub hq.2 hp.2
  rw [val_ndot (vec_k m) hw, wx, wy]
  unfold fv; grind
/-- A quarter away there is no way forward. -/
theorem dir_zero {w : Pt} {t m : Int} (hw : PK w) (h0 : 0 ≤ t) (h1 : t ≤ 15) (g0 : 0 ≤ m) (g1 : m ≤ 15) (h : (m - t) % 16 = 12) (hd : dirR w = t) : val (ndot (vec m) w) = 0 := by
  obtain ⟨i, hi, hid, hdr⟩ : ∃ i, i < 16 ∧ isDir w i = true ∧ dirR w = (i : Int) := by
    unfold dirR at hd ⊢
    cases hf : (List.range 16).find? (isDir w) with
    | none => rw [hf] at hd; simp at hd; omega
    | some i => exact ⟨i, List.mem_range.1 (List.mem_of_find?_eq_some hf), List.find?_some hf, rfl⟩
  have hit : (i : Int) = t := by omega
  unfold isDir at hid
  rw [hit] at hid
  simp only [Bool.and_eq_true, decide_eq_true_eq] at hid
  have hvm := vec_k m
  have e := dot_turn g0 g1 w
  have et : (m + 4) % 16 = t := by omega
  rw [et] at e
  -- dot of t is the cross product of m; what is asked is the dot of m
  have e2 := dot_turn h0 h1 w
  rw [hid.1] at e2
  have em : vec m = ⟨(vec ((t + 4) % 16)).x, (vec ((t + 4) % 16)).y⟩ ∨ vec m = ⟨nneg (vec ((t + 4) % 16)).x, nneg (vec ((t + 4) % 16)).y⟩ := by
    have hm : m = (t + 12) % 16 := by omega
    subst hm
    rcases dir16 h0 h1 with rfl | rfl | rfl | rfl | rfl | rfl | rfl | rfl | rfl | rfl | rfl | rfl | rfl | rfl | rfl | rfl <;> first | exact .inl rfl | exact .inr rfl
  have hv4 := vec_k ((t + 4) % 16)
  have hz : val (ndot (vec ((t + 4) % 16)) w) = 0 := by rw [e2]; exact val_zero
  rw [val_ndot hv4 hw] at hz
  rw [val_ndot hvm hw]
  rcases em with em | em
  · rw [em]; exact hz
  · rw [em]; simp only [val_nneg]; grind
def dm (l : List Pt) (k : Nat) : Int := dl l (k % l.length)
def tau (l : List Pt) (k : Nat) : Int := (dm l (k + 1) - dm l k) % 16
def sg (l : List Pt) (j : Nat) : Nat → Int
  | 0 => 0
  | r + 1 => sg l j r + tau l (j + r)
theorem sg_mono (l : List Pt) (j : Nat) : ∀ r, 0 ≤ sg l j r ∧ sg l j r ≤ sg l j (r + 1)
  | 0 => by simp only [sg, tau]; omega
  | r + 1 => by have := sg_mono l j r; simp only [sg, tau] at *; omega
theorem dm_sg (l : List Pt) (j : Nat) : ∀ r, (dm l (j + r) - dm l j - sg l j r) % 16 = 0
  | 0 => by simp [sg]
  | r + 1 => by
    have := dm_sg l j r
    simp only [sg, tau]
    rw [show j + (r + 1) = j + r + 1 by omega]
    omega
theorem dm_side {l : List Pt} (k : Nat) (hn : 0 < l.length) : dirR (pminus (pt l (k + 1)) (pt l k)) = dm l k := by
  unfold dm dl pt nxt
  rw [Nat.mod_add_mod]
theorem chain_pos {l : List Pt} (h : Poly l) (hn : 0 < l.length) (j : Nat) (m : Int) (hm : m = (dm l j + 3) % 16) :
    ∀ r, sg l j r ≤ 7 → Pos (fv m (pt l (j + r + 1)) - fv m (pt l j)) := by
  have hpk : ∀ k, PK (pt l k) := fun k => h.pk _ (nth_mem (Nat.mod_lt _ hn))
  have hdm : ∀ k, 0 ≤ dm l k ∧ dm l k ≤ 15 := fun k => ⟨h.d _ (Nat.mod_lt _ hn), (dl_range l _).2⟩
  intro r
  induction r with
  | zero =>
    intro _
    have h1 := hdm j
    have hw := dir_pos (w := pminus (pt l (j + 1)) (pt l j)) (t := dm l j) (m := m) (pk_minus (hpk _)) h1.1 h1.2 (by omega) (by omega) (by omega) (dm_side j hn)
    have e := fv_way (m := m) (hpk j) (hpk (j + 1))
    have e2 : fv m (pt l (j + 0 + 1)) - fv m (pt l j) = val (ndot (vec m) (pminus (pt l (j + 1)) (pt l j))) := by
      show fv m (pt l (j + 1)) - fv m (pt l j) = _
      rw [e]; grind
    rw [e2]; exact hw
  | succ r ih =>
    intro hs
    have hmo := sg_mono l j r
    have hmo2 := sg_mono l j (r + 1)
    have ihp := ih (by omega)
    have h1 := hdm (j + (r + 1))
    have hg := dm_sg l j (r + 1)
    have hj := hdm j
    have e := fv_way (m := m) (hpk (j + r + 1)) (hpk (j + (r + 1) + 1))
    have hside : dirR (pminus (pt l (j + (r + 1) + 1)) (pt l (j + r + 1))) = dm l (j + (r + 1)) := dm_side (j + (r + 1)) hn
    by_cases h7 : sg l j (r + 1) = 7
    · have hz := dir_zero (w := pminus (pt l (j + (r + 1) + 1)) (pt l (j + r + 1))) (t := dm l (j + (r + 1))) (m := m) (pk_minus (hpk _)) h1.1 h1.2 (by omega) (by omega) (by omega) hside
      rw [hz] at e
      have e2 : fv m (pt l (j + (r + 1) + 1)) - fv m (pt l j) = fv m (pt l (j + r + 1)) - fv m (pt l j) := by rw [e]; grind
      rw [e2]; exact ihp
    · have hw := dir_pos (w := pminus (pt l (j + (r + 1) + 1)) (pt l (j + r + 1))) (t := dm l (j + (r + 1))) (m := m) (pk_minus (hpk _)) h1.1 h1.2 (by omega) (by omega) (by omega) hside
      have e2 : fv m (pt l (j + (r + 1) + 1)) - fv m (pt l j) = (fv m (pt l (j + r + 1)) - fv m (pt l j)) + val (ndot (vec m) (pminus (pt l (j + (r + 1) + 1)) (pt l (j + r + 1)))) := by rw [e]; grind
      rw [e2]; exact ihp.add hw
theorem chain_apart {l : List Pt} (h : Poly l) (hn : 0 < l.length) (j r : Nat) (hs : sg l j r ≤ 7) : pt l (j + r + 1) ≠ pt l j := by
  intro he
  have := (chain_pos h hn j _ rfl r hs).ne
  rw [he] at this
  exact this (by grind)
end Go.Vai
