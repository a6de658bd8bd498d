/- Merged texts of this claim: Zp5, Zg3, Zg4, Zg5, Zg6. -/
import Derived.Test.YtampfkfcfbjoaaaDoorYd26x6
import Derived.Test.YtampfkfcfbjoaaaDoorYd26x4
/- What two polygons have in common. -/
set_option linter.unusedVariables false
set_option linter.unusedSimpArgs false
set_option maxHeartbeats 4000000
namespace Go.Vai
def sideS (p q : Pt) : Int := if dirR (pminus q p) < 8 then 1 else -1
theorem sideS_or (p q : Pt) : sideS p q = 1 ∨ sideS p q = -1 := by unfold sideS; split <;> simp
def comN (a b : List Pt) : Nat → List Pt
  | 0 => a
  | k + 1 => partR (sideL (nth b k) (nxt b k)) (sideS (nth b k) (nxt b k)) (comN a b k)
theorem partR_nil (l : Li) (s : Int) : partR l s [] = [] := by simp [partR, hasN]
theorem comN_nil (a b : List Pt) {k : Nat} (h : comN a b k = []) : ∀ j, comN a b (k + j) = []
  | 0 => h
  | j + 1 => by show partR _ _ (comN a b (k + j)) = []; rw [comN_nil a b h j, partR_nil]
theorem rot0_len (l : List Pt) : (rot0 l).length = l.length := by
  unfold rot0; simp
  by_cases h : l = []
  · subst h; simp
  · have : least l < l.length := leastF_lt (Nat.le_refl _) (List.length_pos_iff.2 h)
    omega
theorem rot0_mem {l : List Pt} {p : Pt} (h : p ∈ rot0 l) : p ∈ l := by
  unfold rot0 at h
  rcases List.mem_append.1 h with h | h
  · exact List.mem_of_mem_drop h
  · exact List.mem_of_mem_take h
theorem partR_len (l : Li) (s : Int) (ps : List Pt) : (partR l s ps).length ≤ 2 * ps.length := by
  unfold partR
  split
  · rw [rot0_len]; exact cutN_len _ _ _ _
  · simp
theorem comN_len (a b : List Pt) : ∀ k, (comN a b k).length ≤ a.length * 2 ^ k
  | 0 => by simp [comN]
  | k + 1 => by
    have h1 := comN_len a b k
    have h2 := partR_len (sideL (nth b k) (nxt b k)) (sideS (nth b k) (nxt b k)) (comN a b k)
    have h3 : a.length * 2 ^ (k + 1) = 2 * (a.length * 2 ^ k) := by rw [Nat.pow_succ, ← Nat.mul_assoc]; omega
    show (partR _ _ _).length ≤ _
    omega
structure Com (K M M' : Nat) (a b : List Pt) : Prop where
  pa : ∀ p ∈ a, PB (K + 3) M' p
  pb : ∀ p ∈ b, PB (K + 3) M' p
  st : ∀ k, k < b.length → 0 ≤ dirR (pminus (nxt b k) (nth b k)) ∧ NB K M (sideL (nth b k) (nxt b k)).off ∧ Good K M (sideL (nth b k) (nxt b k)) (sideS (nth b k) (nxt b k)) (comN a b k)
theorem Com.pts {K M M' : Nat} {a b : List Pt} (h : Com K M M' a b) (hM : 576 * M ≤ M') : ∀ k, k ≤ b.length → ∀ p ∈ comN a b k, PB (K + 3) M' p
  | 0, _ => h.pa
  | k + 1, hk => by
    intro p hp
    obtain ⟨g1, g2, g3⟩ := h.st k (by omega)
    change p ∈ partR _ _ _ at hp
    unfold partR at hp
    split at hp
    · exact cutN_PB (Com.pts h hM k (by omega)) g2 (sideL_dir _ _).1 (sideL_dir _ _).2 g3 hM _ (Nat.le_refl _) p (rot0_mem hp)
    · simp at hp
def commonR (a b : List Pt) : List Pt := rot0 (comN a b b.length)
theorem commonR_nil {a b : List Pt} {k : Nat} (hk : k ≤ b.length) (h : comN a b k = []) : commonR a b = [] := by
  have := comN_nil a b h (b.length - k)
  rw [show k + (b.length - k) = b.length by omega] at this
  simp [commonR, this, rot0]
theorem c73 (a b : List Pt) {K M M' : Nat} (h : Com K M M' a b) (hM : 576 * M ≤ M') (hK : K ≤ 40)
    (hM' : 16 * M' ≤ 4611686018427387904) (hn : ((a.length * 2 ^ (b.length + 1) : Nat) : Int) ≤ 1099511627776) (hb : (b.length : Int) ≤ 1048576) :
    PC E 73 [.i (.sl (encPs a)), .i (.sl (encPs b))] [.own 6 (encPs (commonR a b))] := by
  have hlen : ∀ k, k ≤ b.length → ((2 * (comN a b k).length : Nat) : Int) ≤ 1099511627776 := by
    intro k hk
    have h1 := comN_len a b k
    have h2 : a.length * 2 ^ (b.length + 1) = a.length * 2 ^ k * 2 ^ (b.length + 1 - k) := by
      rw [Nat.mul_assoc, ← Nat.pow_add]; congr 2; omega
    have h3 : 2 ≤ 2 ^ (b.length + 1 - k) := by
      have := Nat.pow_le_pow_right (n := 2) (by decide) (show 1 ≤ b.length + 1 - k by omega)
      simpa using this
    have h4 := Nat.mul_le_mul_left (a.length * 2 ^ k) h3
    omega
  refine PC_start hE Proofs.Tryd.func73 rfl rfl Proofs.Tryd.ntmps73 (by kernel_rfl) (by kernel_rfl) (by simp) ?_
  simp (maxSteps := 1000000) (disch := first | (exact DrawOk.mk (by kernel_rfl)) | omega | simp) [wrap_i64, le_most, lt_omega, le_omega, ne_omega, allLen]
  refine XL.by hE (ι := { k : Nat // k ≤ b.length }) (fun k => ⟨[(1, .i (.sl (encPs b))), (5, .i (.sl (encPs (comN a b k.1)))), (12, .i (.sl (encPs b))), (13, .i (.int .i64 b.length)), (14, .i (.int .i64 k.1))], []⟩)
    (fun k => b.length - k.1) ⟨0, Nat.zero_le _⟩ ⟨by simp [comN], by simp, by simp⟩ (by kernel_rfl) ?_
  rintro ⟨k, hk⟩
  have hln := hlen k hk
  have hpt := h.pts hM k hk
  by_cases hlt : k < b.length
  · have hmod : (k + 1) % b.length < b.length := Nat.mod_lt _ (by omega)
    have hp := h.pb _ (nth_mem hlt)
    have hq : PB (K + 3) M' (nxt b k) := h.pb _ (nth_mem hmod)
    obtain ⟨g1, g2, g3⟩ := h.st k hlt
    have eq2 : (encPs b)[(k + 1) % b.length]? = some (encP (nxt b k)) := encPs_get hmod
    have hne : ¬ b = [] := by rintro rfl; simp at hlt
    have rm : ((k : Int) + 1).tmod (b.length : Int) = (((k + 1) % b.length : Nat) : Int) := by
      rw [Int.tmod_eq_emod_of_nonneg (by omega)]; simp
    have hm0 : ¬ (((k : Int) + 1) % (b.length : Int) < 0) := by have := Int.emod_nonneg ((k : Int) + 1) (b := (b.length : Int)) (by omega); omega
    have hm1 : (((k : Int) + 1) % (b.length : Int)).toNat = (k + 1) % b.length := by
      have : ((k : Int) + 1) % (b.length : Int) = (((k + 1) % b.length : Nat) : Int) := by simp
      rw [this]; rfl
    have lP : ∀ p : Pt, (encP p).length = 6 := fun _ => rfl
    have lL : ∀ l : Li, (encLi l).length = 4 := fun _ => rfl
    have hpart := c104 (comN a b k) (sideL (nth b k) (nxt b k)) (sideS (nth b k) (nxt b k)) hpt g2 (sideL_dir _ _).1 (sideL_dir _ _).2 g3 hM hK hM' (sideS_or _ _) hln
    have hcn : comN a b (k + 1) = partR (sideL (nth b k) (nxt b k)) (sideS (nth b k) (nxt b k)) (comN a b k) := rfl
    rw [← hcn] at hpart
    have htk : List.take (comN a b (k + 1)).length (encPs (comN a b (k + 1))) = encPs (comN a b (k + 1)) := List.take_of_length_le (by simp)
    have hnil : comN a b (k + 1) = [] → commonR a b = [] := commonR_nil (by omega)
    simp (maxSteps := 1000000) (disch := first | (exact DrawOk.mk (by kernel_rfl)) | omega | simp) [wrap_i64, le_most, lt_omega, le_omega, ne_omega, allLen, hlt, encPs_get hlt, hne, rm, hm0, hm1, hmod, eq2]
    refine CallK.of (c103 (nth b k) (nxt b k) hp hq (by omega) (by omega) g1) (by first | exact .inl rfl | exact .inr (by simp)) (by simp) ?_
    simp (maxSteps := 1000000) (disch := first | (exact DrawOk.mk (by kernel_rfl)) | omega | simp) [wrap_i64, le_most, lt_omega, le_omega, ne_omega, allLen, lP, lL]
    (first | refine Gd.dec (fun h4 => ?_) (fun h4 => ?_) | refine Gd.intro (fun h4 => ?_) (fun h4 => ?_)) <;> simp (maxSteps := 1000000) (disch := first | (exact DrawOk.mk (by kernel_rfl)) | omega | simp) [wrap_i64, le_most, lt_omega, le_omega, ne_omega, allLen, h4]
    · rw [show sideS (nth b k) (nxt b k) = 1 by simp [sideS, h4]] at hpart
      refine CallK.of (hpart) (by first | exact .inl rfl | exact .inr (by simp)) (by simp) ?_
      simp (maxSteps := 1000000) (disch := first | (exact DrawOk.mk (by kernel_rfl)) | omega | simp) [wrap_i64, le_most, lt_omega, le_omega, ne_omega, allLen]
      (first | refine Gd.dec (fun h5 => ?_) (fun h5 => ?_) | refine Gd.intro (fun h5 => ?_) (fun h5 => ?_)) <;> simp (maxSteps := 1000000) (disch := first | (exact DrawOk.mk (by kernel_rfl)) | omega | simp) [wrap_i64, le_most, lt_omega, le_omega, ne_omega, allLen, h5]
      · simp (maxSteps := 1000000) (disch := first | (exact DrawOk.mk (by kernel_rfl)) | omega | simp) [wrap_i64, le_most, lt_omega, le_omega, ne_omega, allLen, hnil h5, encPs]
      · (refine ⟨⟨k + 1, by omega⟩, by (simp; try omega), ?_⟩; constructor <;> (simp (maxSteps := 1000000) (disch := first | (exact DrawOk.mk (by kernel_rfl)) | omega | simp) [wrap_i64, le_most, lt_omega, le_omega, ne_omega, allLen, htk]) <;> (try omega))
    · rw [show sideS (nth b k) (nxt b k) = -1 by simp [sideS, h4]] at hpart
      refine CallK.of (hpart) (by first | exact .inl rfl | exact .inr (by simp)) (by simp) ?_
      simp (maxSteps := 1000000) (disch := first | (exact DrawOk.mk (by kernel_rfl)) | omega | simp) [wrap_i64, le_most, lt_omega, le_omega, ne_omega, allLen]
      (first | refine Gd.dec (fun h5 => ?_) (fun h5 => ?_) | refine Gd.intro (fun h5 => ?_) (fun h5 => ?_)) <;> simp (maxSteps := 1000000) (disch := first | (exact DrawOk.mk (by kernel_rfl)) | omega | simp) [wrap_i64, le_most, lt_omega, le_omega, ne_omega, allLen, h5]
      · simp (maxSteps := 1000000) (disch := first | (exact DrawOk.mk (by kernel_rfl)) | omega | simp) [wrap_i64, le_most, lt_omega, le_omega, ne_omega, allLen, hnil h5, encPs]
      · (refine ⟨⟨k + 1, by omega⟩, by (simp; try omega), ?_⟩; constructor <;> (simp (maxSteps := 1000000) (disch := first | (exact DrawOk.mk (by kernel_rfl)) | omega | simp) [wrap_i64, le_most, lt_omega, le_omega, ne_omega, allLen, htk]) <;> (try omega))
  · obtain rfl : k = b.length := by omega
    have hrot := c105 (comN a b b.length) hpt (by omega) (by omega) (by omega)
    have htk2 : List.take (rot0 (comN a b b.length)).length (encPs (rot0 (comN a b b.length))) = encPs (rot0 (comN a b b.length)) := List.take_of_length_le (by simp)
    simp (maxSteps := 1000000) (disch := first | (exact DrawOk.mk (by kernel_rfl)) | omega | simp) [wrap_i64, le_most, lt_omega, le_omega, ne_omega, allLen]
    refine CallK.of (hrot) (by first | exact .inl rfl | exact .inr (by simp)) (by simp) ?_
    simp (maxSteps := 1000000) (disch := first | (exact DrawOk.mk (by kernel_rfl)) | omega | simp) [wrap_i64, le_most, lt_omega, le_omega, ne_omega, allLen, commonR, htk2]
end Go.Vai
/- Points on lines: where two lines meet; the line of a side. -/
set_option linter.unusedVariables false
set_option linter.unusedSimpArgs false
set_option maxHeartbeats 4000000
namespace Go.Vai
theorem vec_k (d : Int) : 0 ≤ (vec d).x.k ∧ 0 ≤ (vec d).y.k := by
  unfold vec
  rcases Nat.lt_or_ge d.toNat 16 with h | h
  · generalize d.toNat = n at *
    have : n = 0 ∨ n = 1 ∨ n = 2 ∨ n = 3 ∨ n = 4 ∨ n = 5 ∨ n = 6 ∨ n = 7 ∨ n = 8 ∨ n = 9 ∨ n = 10 ∨ n = 11 ∨ n = 12 ∨ n = 13 ∨ n = 14 ∨ n = 15 := by omega
    rcases this with rfl | rfl | rfl | rfl | rfl | rfl | rfl | rfl | rfl | rfl | rfl | rfl | rfl | rfl | rfl | rfl <;> exact ⟨by decide, by decide⟩
  · have : vecL.getD d.toNat default = default := by
      rw [List.getD_eq_getElem?_getD, List.getElem?_eq_none (by simpa [vecL] using h)]; rfl
    rw [this]; exact ⟨by decide, by decide⟩
def PK (p : Pt) : Prop := 0 ≤ p.x.k ∧ 0 ≤ p.y.k
theorem PB.pk {K M : Nat} {p : Pt} (h : PB K M p) : PK p := ⟨h.1.k0, h.2.k0⟩
theorem nadd_k {x y : Nu} (h : 0 ≤ x.k) : 0 ≤ (nadd x y).k := (low_k (by simp only; omega)).1
theorem nmul_k {x y : Nu} (h : 0 ≤ x.k) (h' : 0 ≤ y.k) : 0 ≤ (nmul x y).k := (low_k (by simp only; omega)).1
theorem nsub_k {x y : Nu} (h : 0 ≤ x.k) : 0 ≤ (nsub x y).k := nadd_k h
theorem ndot_k {p q : Pt} (h : PK p) (h' : PK q) : 0 ≤ (ndot p q).k := nadd_k (nmul_k h.1 h'.1)
theorem low_ndot {p q : Pt} (h : PK p) (h' : PK q) : low (ndot p q) = ndot p q := low_nadd (nmul_k h.1 h'.1)
theorem val_ndot {p q : Pt} (h : PK p) (h' : PK q) : val (ndot p q) = val p.x * val q.x + val p.y * val q.y := by
  unfold ndot
  rw [val_nadd (nmul_k h.1 h'.1) (nmul_k h.2 h'.2), val_nmul h.1 h'.1, val_nmul h.2 h'.2]
theorem val_pcross {p q : Pt} (h : PK p) (h' : PK q) : val (pcross p q) = val p.x * val q.y - val p.y * val q.x := by
  unfold pcross
  rw [val_nsub (nmul_k h.1 h'.2) (nmul_k h.2 h'.1), val_nmul h.1 h'.2, val_nmul h.2 h'.1]
theorem pk_minus {p q : Pt} (h : PK p) : PK (pminus p q) := ⟨nadd_k h.1, nadd_k h.2⟩
/-- Lines as they come: a direction, a distance in lowest form. -/
structure Lok (l : Li) : Prop where
  d0 : 0 ≤ l.dir
  d1 : l.dir ≤ 7
  k0 : 0 ≤ l.off.k
  lw : low l.off = l.off
def on (l : Li) (p : Pt) : Prop := val (vec (l.dir + 4)).x * val p.x + val (vec (l.dir + 4)).y * val p.y = val l.off
theorem on_eq {l : Li} {p : Pt} (hl : Lok l) (hp : PK p) : on l p ↔ ndot (vec (l.dir + 4)) p = l.off := by
  have hv := vec_k (l.dir + 4)
  unfold on
  rw [← val_ndot hv hp]
  constructor
  · intro h; exact val_inj (ndot_k hv hp) hl.k0 (low_ndot hv hp) hl.lw h
  · intro h; rw [h]
theorem sd_zero {l : Li} {p : Pt} (hl : Lok l) (hp : PK p) : sd l p = 0 ↔ on l p := by
  have hv := vec_k (l.dir + 4)
  rw [on_eq hl hp]
  exact nsub_zero (ndot_k hv hp) hl.k0 (low_ndot hv hp) hl.lw
theorem lat_on {p : Pt} (d : Int) (hp : PK p) : on (lat p d) p := by
  unfold on lat
  exact (val_ndot (vec_k (d + 4)) hp).symm
theorem lat_ok {p : Pt} {d : Int} (hp : PK p) (h0 : 0 ≤ d) (h1 : d ≤ 7) : Lok (lat p d) := ⟨h0, h1, ndot_k (vec_k _) hp, low_ndot (vec_k _) hp⟩
theorem det_unit {l m : Li} (hl : Lok l) (hm : Lok m) (hne : l.dir ≠ m.dir) : ∃ i : Q2, val (detL l m) * i = 1 := by
  have hd := det_Dv hl.d0 hl.d1 hm.d0 hm.d1 hne
  have h1 : val (⟨1, 0, 0⟩ : Nu) = 1 := by apply Q2.ext' <;> simp [val, pr, pw] <;> grind
  have h2 := val_ndiv (x := ⟨1, 0, 0⟩) (by simp) hd
  exact ⟨val (ndiv ⟨1, 0, 0⟩ (detL l m) (dvS (detL l m)) (dvE (detL l m))), by grind⟩
theorem meet_k {l m : Li} (hl : Lok l) (hm : Lok m) : PK (meetP l m) := by
  have a := vec_k (l.dir + 4)
  have b := vec_k (m.dir + 4)
  refine ⟨?_, ?_⟩
  · show 0 ≤ (ndiv _ _ _ _).k
    unfold ndiv
    exact (low_k (by have := nadd_k (x := nmul l.off (vec (m.dir + 4)).y) (y := nneg (nmul m.off (vec (l.dir + 4)).y)) (nmul_k hl.k0 b.2); simp only [nsub]; omega)).1
  · show 0 ≤ (ndiv _ _ _ _).k
    unfold ndiv
    exact (low_k (by have := nadd_k (x := nmul m.off (vec (l.dir + 4)).x) (y := nneg (nmul l.off (vec (m.dir + 4)).x)) (nmul_k hm.k0 a.1); simp only [nsub]; omega)).1
/-- The point where two lines meet lies on both. -/
theorem meet_on {l m : Li} (hl : Lok l) (hm : Lok m) (hne : l.dir ≠ m.dir) : on l (meetP l m) ∧ on m (meetP l m) := by
  have a := vec_k (l.dir + 4)
  have b := vec_k (m.dir + 4)
  have hd := det_Dv hl.d0 hl.d1 hm.d0 hm.d1 hne
  obtain ⟨i, hi⟩ := det_unit hl hm hne
  have hD : val (detL l m) = val (vec (l.dir + 4)).x * val (vec (m.dir + 4)).y - val (vec (l.dir + 4)).y * val (vec (m.dir + 4)).x := val_pcross a b
  have k1 := nmul_k hl.k0 b.2
  have k2 := nmul_k hm.k0 a.2
  have k3 := nmul_k hm.k0 a.1
  have k4 := nmul_k hl.k0 b.1
  have hx : val (meetP l m).x * val (detL l m) = val l.off * val (vec (m.dir + 4)).y - val m.off * val (vec (l.dir + 4)).y := by
    show val (ndiv _ _ _ _) * _ = _
    rw [val_ndiv (nsub_k k1) hd, val_nsub k1 k2, val_nmul hl.k0 b.2, val_nmul hm.k0 a.2]
  have hy : val (meetP l m).y * val (detL l m) = val m.off * val (vec (l.dir + 4)).x - val l.off * val (vec (m.dir + 4)).x := by
    show val (ndiv _ _ _ _) * _ = _
    rw [val_ndiv (nsub_k k3) hd, val_nsub k3 k4, val_nmul hm.k0 a.1, val_nmul hl.k0 b.1]
  unfold on
  generalize val (meetP l m).x = X at *
  generalize val (meetP l m).y = Y at *
  generalize val (detL l m) = D at *
  generalize val (vec (l.dir + 4)).x = p at *
  generalize val (vec (l.dir + 4)).y = q at *
  generalize val (vec (m.dir + 4)).x = r at *
  generalize val (vec (m.dir + 4)).y = s at *
  generalize val l.off = u at *
  generalize val m.off = w at *
  constructor <;> grind
theorem dot_zero {d : Int} (h0 : 0 ≤ d) (h1 : d ≤ 7) {x y : Q2} (hc : val (vec d).x * y - val (vec d).y * x = 0) (hd : val (vec d).x * x + val (vec d).y * y = 0) : x = 0 ∧ y = 0 := by
  have hv := vec_k d
  have hs := sq_Dv (d := d) h0 (by omega)
  have h1' : val (⟨1, 0, 0⟩ : Nu) = 1 := by apply Q2.ext' <;> simp [val, pr, pw] <;> grind
  have h2 := val_ndiv (x := ⟨1, 0, 0⟩) (by simp) hs
  rw [val_ndot hv hv, h1'] at h2
  generalize val (ndiv _ _ _ _) = i at *
  generalize val (vec d).x = p at *
  generalize val (vec d).y = q at *
  constructor <;> grind
end Go.Vai
/- The line of a side is the line on which its ends lie. -/
set_option linter.unusedVariables false
set_option linter.unusedSimpArgs false
set_option maxHeartbeats 4000000
namespace Go.Vai
theorem det2 {i d : Int} (h0 : 0 ≤ i) (h1 : i ≤ 15) (g0 : 0 ≤ d) (g1 : d ≤ 7) (hne : i % 8 ≠ d) : Dv (pcross (vec i) (vec d)) (dvS (pcross (vec i) (vec d))) (dvE (pcross (vec i) (vec d))) := by
  rcases dir16 h0 h1 with rfl | rfl | rfl | rfl | rfl | rfl | rfl | rfl | rfl | rfl | rfl | rfl | rfl | rfl | rfl | rfl <;> rcases dir8 g0 g1 with rfl | rfl | rfl | rfl | rfl | rfl | rfl | rfl <;>
    first | exact absurd rfl hne | exact ⟨by decide, by decide, by decide, by decide, by decide, by decide⟩
theorem vec_half {d : Int} (h0 : 0 ≤ d) (h1 : d ≤ 7) : vec (d + 8) = ⟨nneg (vec d).x, nneg (vec d).y⟩ := by
  rcases dir8 h0 h1 with rfl | rfl | rfl | rfl | rfl | rfl | rfl | rfl <;> rfl
theorem sgn_neg (n : Int) : sgn (-n) = -sgn n := by
  unfold sgn
  split <;> split <;> (try split) <;> (try split) <;> omega
theorem nsign_neg (x : Nu) : nsign (nneg x) = -nsign x := by
  unfold nsign nneg
  simp only [sgn_neg, Int.neg_mul_neg]
  have e1 : (-sgn x.a = -sgn x.b ∨ -sgn x.b = 0) ↔ (sgn x.a = sgn x.b ∨ sgn x.b = 0) := by omega
  have e2 : (-sgn x.a = 0 ∨ ¬2 * (x.b * x.b) < x.a * x.a) ↔ (sgn x.a = 0 ∨ ¬2 * (x.b * x.b) < x.a * x.a) := by
    constructor <;> rintro (h | h) <;> first | exact .inr h | exact .inl (by omega)
  simp only [e1, e2]
  split
  · rfl
  · split <;> rfl
theorem zero_of {x : Nu} (h : val x = 0) (hl : low x = x) : x = ⟨0, 0, 0⟩ := by
  obtain ⟨h1, h2⟩ := val_eq_zero.1 h
  rw [← hl]; unfold low; rw [if_pos ⟨h1, h2⟩]
theorem low_pcross {p q : Pt} (h : PK p) (h' : PK q) : low (pcross p q) = pcross p q := low_nsub (nmul_k h.1 h'.2)
/-- Ends of a side that lie on a line, and not both at one place: the side's own line is that line. -/
theorem sideL_on {l : Li} {p q : Pt} (hl : Lok l) (hp : PK p) (hq : PK q) (h1 : on l p) (h2 : on l q) (hne : ¬ (val q.x = val p.x ∧ val q.y = val p.y)) : 0 ≤ dirR (pminus q p) ∧ sideL p q = l := by
  have hw : PK (pminus q p) := pk_minus hq
  have wx : val (pminus q p).x = val q.x - val p.x := val_nsub hq.1 hp.1
  have wy : val (pminus q p).y = val q.y - val p.y := val_nsub hq.2 hp.2
  have hwn : ¬ (val (pminus q p).x = 0 ∧ val (pminus q p).y = 0) := by
    rintro ⟨a, b⟩; exact hne ⟨by grind, by grind⟩
  have hv := vec_k l.dir
  have ht : vec (l.dir + 4) = ⟨nneg (vec l.dir).y, (vec l.dir).x⟩ := by
    have := vec_turn (d := l.dir) hl.d0 (by have := hl.d1; omega)
    rwa [Int.emod_eq_of_lt (by have := hl.d0; omega) (by have := hl.d1; omega)] at this
  unfold on at h1 h2
  rw [ht] at h1 h2
  simp only [val_nneg] at h1 h2
  have hc : val (vec l.dir).x * val (pminus q p).y - val (vec l.dir).y * val (pminus q p).x = 0 := by rw [wx, wy]; grind
  generalize hwe : pminus q p = w at *
  have hc0 : pcross (vec l.dir) w = ⟨0, 0, 0⟩ := zero_of (by rw [val_pcross hv hw]; exact hc) (low_pcross hv hw)
  have hd0 : nsign (ndot (vec l.dir) w) ≠ 0 := by
    rw [Ne, nsign_zero, val_ndot hv hw]
    intro hz; exact hwn (dot_zero hl.d0 hl.d1 hc hz)
  have hex : ∃ j, j < 16 ∧ isDir w j = true := by
    have e : ((l.dir.toNat : Nat) : Int) = l.dir := by have := hl.d0; omega
    rcases nsign_range (ndot (vec l.dir) w) with hs | hs | hs
    · refine ⟨l.dir.toNat + 8, by have := hl.d0; have := hl.d1; omega, ?_⟩
      have e8 : ((l.dir.toNat + 8 : Nat) : Int) = l.dir + 8 := by have := hl.d0; omega
      have hh := vec_half hl.d0 hl.d1
      have hv8 := vec_k (l.dir + 8)
      have hc8 : pcross (vec (l.dir + 8)) w = ⟨0, 0, 0⟩ := by
        refine zero_of ?_ (low_pcross hv8 hw)
        rw [val_pcross hv8 hw, hh]
        simp only [val_nneg]; grind
      have hd8 : ndot (vec (l.dir + 8)) w = nneg (ndot (vec l.dir) w) := by
        rw [hh]; unfold ndot
        simp only [nmul_neg_l, nneg_nadd]
      unfold isDir
      rw [e8, hc8, hd8, nsign_neg, hs]; simp
    · exact absurd hs hd0
    · refine ⟨l.dir.toNat, by have := hl.d0; have := hl.d1; omega, ?_⟩
      unfold isDir
      rw [e, hc0, hs]; simp
  obtain ⟨j, hj, hjd⟩ := hex
  have hfind : ∃ i, i < 16 ∧ isDir w i = true ∧ dirR w = (i : Int) := by
    unfold dirR
    cases hf : (List.range 16).find? (isDir w) with
    | none =>
      rw [List.find?_eq_none] at hf
      exact absurd hjd (hf j (List.mem_range.2 hj))
    | some i => exact ⟨i, List.mem_range.1 (List.mem_of_find?_eq_some hf), List.find?_some hf, rfl⟩
  obtain ⟨i, hi, hid, hdr⟩ := hfind
  have hci : pcross (vec i) w = ⟨0, 0, 0⟩ := by
    unfold isDir at hid
    simp only [Bool.and_eq_true, decide_eq_true_eq] at hid
    exact hid.1
  have hm : (i : Int) % 8 = l.dir := by
    by_cases hx : (i : Int) % 8 = l.dir
    · exact hx
    · exfalso
      have hD := det2 (i := (i : Int)) (by omega) (by omega) hl.d0 hl.d1 hx
      have hvi := vec_k (i : Int)
      have hz : val (pcross (vec i) w) = 0 := by rw [hci]; exact val_zero
      rw [val_pcross hvi hw] at hz
      have h1' : val (⟨1, 0, 0⟩ : Nu) = 1 := by apply Q2.ext' <;> simp [val, pr, pw] <;> grind
      have hu := val_ndiv (x := ⟨1, 0, 0⟩) (by simp) hD
      rw [h1', val_pcross hvi hv] at hu
      apply hwn
      generalize val (ndiv _ _ _ _) = I at *
      generalize val w.x = X at *
      generalize val w.y = Y at *
      generalize val (vec l.dir).x = a at *
      generalize val (vec l.dir).y = b at *
      generalize val (vec (i : Int)).x = c at *
      generalize val (vec (i : Int)).y = d at *
      constructor <;> grind
  refine ⟨by omega, ?_⟩
  unfold sideL
  rw [hwe, hdr, hm]
  have hon : on l p := by unfold on; rw [ht]; simp only [val_nneg]; exact h1
  have := (on_eq hl hp).1 hon
  unfold lat
  rw [this]
end Go.Vai
/- Lists whose neighbours lie on common lines: cutting them asks for good lines alone. -/
set_option linter.unusedVariables false
set_option linter.unusedSimpArgs false
set_option maxHeartbeats 4000000
namespace Go.Vai
theorem sd_same {l : Li} {p q : Pt} (hl : Lok l) (hp : PK p) (hq : PK q) (h : val (ndot (vec (l.dir + 4)) p) = val (ndot (vec (l.dir + 4)) q)) : sd l p = sd l q := by
  have hv := vec_k (l.dir + 4)
  have := val_inj (ndot_k hv hp) (ndot_k hv hq) (low_ndot hv hp) (low_ndot hv hq) h
  unfold sd; rw [this]
theorem not_opp (s d : Int) : ¬ s * d * (s * d) < 0 := by
  rcases Int.le_total 0 (s * d) with h | h
  · have := Int.mul_nonneg h h; omega
  · have := Int.mul_nonneg_of_nonpos_of_nonpos h h; omega
/-- Two points of a line on strictly opposite sides of another one. -/
theorem opp {l L : Li} {p q : Pt} {s : Int} (hl : Lok l) (hL : Lok L) (hp : PK p) (hq : PK q) (h1 : on L p) (h2 : on L q) (hx : s * sd l p * (s * sd l q) < 0) :
    ¬ (val q.x = val p.x ∧ val q.y = val p.y) ∧ L.dir ≠ l.dir := by
  have hv := vec_k (l.dir + 4)
  refine ⟨?_, ?_⟩
  · rintro ⟨e1, e2⟩
    rw [sd_same hl hp hq (by rw [val_ndot hv hp, val_ndot hv hq, e1, e2])] at hx
    exact not_opp _ _ hx
  · intro e
    unfold on at h1 h2
    rw [e] at h1 h2
    rw [sd_same hl hp hq (by rw [val_ndot hv hp, val_ndot hv hq, h1, h2])] at hx
    exact not_opp _ _ hx
def link (S : List Li) (p q : Pt) : Prop := ∃ L ∈ S, on L p ∧ on L q
theorem link.mono {S S' : List Li} {p q : Pt} (h : link S p q) (hs : ∀ L ∈ S, L ∈ S') : link S' p q := by
  obtain ⟨L, h1, h2⟩ := h; exact ⟨L, hs L h1, h2⟩
def SOk (K M : Nat) (S : List Li) : Prop := ∀ L ∈ S, Lok L ∧ NB K M L.off
def Chain (S : List Li) (ps : List Pt) : Prop := ∀ k, k < ps.length → link S (nth ps k) (nxt ps k)
theorem Chain.good {K M : Nat} {S : List Li} {ps : List Pt} {l : Li} {s : Int} (h : Chain S ps) (hS : SOk K M S) (hl : Lok l) (hp : ∀ p ∈ ps, PK p) : Good K M l s ps := by
  intro k hk hx
  have hmod : (k + 1) % ps.length < ps.length := Nat.mod_lt _ (by omega)
  obtain ⟨L, h1, h2, h3⟩ := h k hk
  have p1 := hp _ (nth_mem hk)
  have p2 : PK (nxt ps k) := hp _ (nth_mem hmod)
  obtain ⟨q1, q2⟩ := opp hl (hS L h1).1 p1 p2 h2 h3 hx
  obtain ⟨r1, r2⟩ := sideL_on (hS L h1).1 p1 p2 h2 h3 q1
  rw [r2]
  exact ⟨r1, q2, (hS L h1).2⟩
/-- Neighbours in a list, from its first to its last. -/
def Linked (R : Pt → Pt → Prop) (l : List Pt) : Prop := ∀ i, i + 1 < l.length → R (nth l i) (nth l (i + 1))
def lastOf (l : List Pt) : Pt := nth l (l.length - 1)
theorem nth_append_left {l m : List Pt} {i : Nat} (h : i < l.length) : nth (l ++ m) i = nth l i := by
  unfold nth; simp [List.getElem?_append_left h]
theorem nth_append_one (l : List Pt) (x : Pt) : nth (l ++ [x]) l.length = x := by
  unfold nth; simp
theorem last_snoc (l : List Pt) (x : Pt) : lastOf (l ++ [x]) = x := by
  unfold lastOf; rw [List.length_append]; simp [nth_append_one]
theorem Linked.snoc {R : Pt → Pt → Prop} {l : List Pt} {x : Pt} (h : Linked R l) (hx : l = [] ∨ R (lastOf l) x) : Linked R (l ++ [x]) := by
  intro i hi
  rw [List.length_append] at hi
  simp at hi
  by_cases h2 : i + 1 < l.length
  · rw [nth_append_left (by omega), nth_append_left h2]; exact h i h2
  · have e : i + 1 = l.length := by omega
    rcases hx with rfl | hx
    · simp at hi
    · rw [nth_append_left (by omega), e, nth_append_one]
      unfold lastOf at hx
      rwa [show l.length - 1 = i by omega] at hx
theorem cut_step {K M : Nat} {S : List Li} {l : Li} {s : Int} {p q : Pt} {out : List Pt} (hS : SOk K M S) (hl : Lok l) (hs : s = 1 ∨ s = -1) (hp : PK p) (hq : PK q) (hpq : link S p q)
    (hL : Linked (link (l :: S)) out) (hJ : out = [] ∨ (if 0 ≤ s * sd l p then link (l :: S) (lastOf out) p else on l (lastOf out))) :
    Linked (link (l :: S)) (out ++ cutF l s p q) ∧ (out ++ cutF l s p q = [] ∨ (if 0 ≤ s * sd l q then link (l :: S) (lastOf (out ++ cutF l s p q)) q else on l (lastOf (out ++ cutF l s p q)))) := by
  obtain ⟨L, hLS, o1, o2⟩ := hpq
  have hLm : L ∈ l :: S := List.mem_cons_of_mem _ hLS
  have hlm : l ∈ l :: S := List.mem_cons_self
  have hz : ∀ x, PK x → s * sd l x = 0 → on l x := by
    intro x hx h0
    refine (sd_zero hl hx).1 ?_
    rcases hs with rfl | rfl <;> omega
  have hmeet : s * sd l p * (s * sd l q) < 0 → on L (meetP (sideL p q) l) ∧ on l (meetP (sideL p q) l) := by
    intro hx
    obtain ⟨q1, q2⟩ := opp hl (hS L hLS).1 hp hq o1 o2 hx
    obtain ⟨r1, r2⟩ := sideL_on (hS L hLS).1 hp hq o1 o2 q1
    rw [r2]
    exact meet_on (hS L hLS).1 hl q2
  have hsp := sd_range l p
  have hsq := sd_range l q
  unfold cutF
  generalize hA : s * sd l p = A at *
  generalize hB : s * sd l q = B at *
  have hA3 : A = -1 ∨ A = 0 ∨ A = 1 := by rcases hs with rfl | rfl <;> omega
  have hB3 : B = -1 ∨ B = 0 ∨ B = 1 := by rcases hs with rfl | rfl <;> omega
  by_cases h1 : 0 ≤ A
  · rw [if_pos h1] at hJ
    have hL1 : Linked (link (l :: S)) (out ++ [p]) := hL.snoc hJ
    by_cases h2 : A * B < 0
    · obtain ⟨m1, m2⟩ := hmeet h2
      have hB0 : ¬ 0 ≤ B := by rcases hA3 with rfl | rfl | rfl <;> omega
      rw [if_pos h1, if_pos h2, if_neg hB0, ← List.append_assoc]
      refine ⟨hL1.snoc (.inr ?_), .inr ?_⟩
      · rw [last_snoc]; exact ⟨L, hLm, o1, m1⟩
      · rw [last_snoc]; exact m2
    · rw [if_pos h1, if_neg h2, List.append_nil]
      refine ⟨hL1, .inr ?_⟩
      rw [last_snoc]
      by_cases hB0 : 0 ≤ B
      · rw [if_pos hB0]; exact ⟨L, hLm, o1, o2⟩
      · rw [if_neg hB0]
        refine hz p hp ?_
        rw [hA]
        rcases hA3 with rfl | rfl | rfl <;> rcases hB3 with rfl | rfl | rfl <;> first | rfl | (exfalso; omega)
  · rw [if_neg h1] at hJ
    by_cases h2 : A * B < 0
    · obtain ⟨m1, m2⟩ := hmeet h2
      have hB0 : 0 ≤ B := by rcases hA3 with rfl | rfl | rfl <;> omega
      rw [if_neg h1, if_pos h2, if_pos hB0, List.nil_append]
      refine ⟨hL.snoc ?_, .inr ?_⟩
      · rcases hJ with h | h
        · exact .inl h
        · exact .inr ⟨l, hlm, h, m2⟩
      · rw [last_snoc]; exact ⟨L, hLm, m1, o2⟩
    · rw [if_neg h1, if_neg h2, List.append_nil, List.append_nil]
      refine ⟨hL, ?_⟩
      rcases hJ with h | h
      · exact .inl h
      · refine .inr ?_
        by_cases hB0 : 0 ≤ B
        · rw [if_pos hB0]
          refine ⟨l, hlm, h, hz q hq ?_⟩
          rw [hB]
          rcases hA3 with rfl | rfl | rfl <;> rcases hB3 with rfl | rfl | rfl <;> first | rfl | (exfalso; omega)
        · rw [if_neg hB0]; exact h
end Go.Vai
/- Cutting and turning keep neighbours on common lines. -/
set_option linter.unusedVariables false
set_option linter.unusedSimpArgs false
set_option maxHeartbeats 4000000
namespace Go.Vai
theorem nth_rot {l : List Pt} {c k : Nat} (hc : c ≤ l.length) (hk : k < l.length) : nth (l.drop c ++ l.take c) k = nth l ((k + c) % l.length) := by
  have hm : (k + c) % l.length < l.length := Nat.mod_lt _ (by omega)
  rw [nth_eq hm]
  have hlen : (l.drop c ++ l.take c).length = l.length := by simp; omega
  rw [nth_eq (by rw [hlen]; exact hk)]
  rw [List.getElem_append]
  split
  · rename_i h
    simp at h
    rw [List.getElem_drop]
    congr 1
    rw [Nat.mod_eq_of_lt (by omega)]; omega
  · rename_i h
    simp at h
    rw [List.getElem_take]
    congr 1
    rw [Nat.mod_eq_sub_mod (by omega), Nat.mod_eq_of_lt (by omega)]
    simp; omega
theorem Chain.rot {S : List Li} {l : List Pt} {c : Nat} (h : Chain S l) (hc : c ≤ l.length) : Chain S (l.drop c ++ l.take c) := by
  have hlen : (l.drop c ++ l.take c).length = l.length := by simp; omega
  intro k hk
  rw [hlen] at hk
  have hm : (k + c) % l.length < l.length := Nat.mod_lt _ (by omega)
  have hm1 : (k + 1) % l.length < l.length := Nat.mod_lt _ (by omega)
  have := h _ hm
  unfold nxt at this ⊢
  rw [hlen, nth_rot hc hk, nth_rot hc hm1]
  rw [show ((k + 1) % l.length + c) % l.length = ((k + c) % l.length + 1) % l.length by
    rw [Nat.mod_add_mod, Nat.mod_add_mod]; congr 1; omega]
  exact this
def pt (ps : List Pt) (k : Nat) : Pt := nth ps (k % ps.length)
theorem pt_lt {ps : List Pt} {k : Nat} (h : k < ps.length) : pt ps k = nth ps k := by unfold pt; rw [Nat.mod_eq_of_lt h]
theorem nxt_pt (ps : List Pt) (k : Nat) : nxt ps k = pt ps (k + 1) := rfl
structure Cut (S : List Li) (l : Li) (s : Int) (ps : List Pt) (k : Nat) : Prop where
  L : Linked (link (l :: S)) (cutN l s ps k)
  J : cutN l s ps k = [] ∨ (if 0 ≤ s * sd l (pt ps k) then link (l :: S) (lastOf (cutN l s ps k)) (pt ps k) else on l (lastOf (cutN l s ps k)))
  F : cutN l s ps k = [] ∨ (if 0 ≤ s * sd l (pt ps 0) then nth (cutN l s ps k) 0 = pt ps 0 else on l (nth (cutN l s ps k) 0))
  G : cutN l s ps k = [] → 0 < k → ¬ 0 ≤ s * sd l (pt ps 0) ∧ s * sd l (pt ps k) ≤ 0
theorem cut_path {K M : Nat} {S : List Li} {l : Li} {s : Int} {ps : List Pt} (hS : SOk K M S) (hl : Lok l) (hs : s = 1 ∨ s = -1) (hp : ∀ p ∈ ps, PK p) (hc : Chain S ps) :
    ∀ k, k ≤ ps.length → Cut S l s ps k
  | 0, _ => ⟨fun i hi => by simp [cutN] at hi, .inl rfl, .inl rfl, fun _ h => absurd h (by omega)⟩
  | k + 1, hk => by
    have ih := cut_path hS hl hs hp hc k (by omega)
    have hlt : k < ps.length := by omega
    have hmod : (k + 1) % ps.length < ps.length := Nat.mod_lt _ (by omega)
    have pp : PK (pt ps k) := by rw [pt_lt hlt]; exact hp _ (nth_mem hlt)
    have pq : PK (pt ps (k + 1)) := hp _ (nth_mem hmod)
    have hpq : link S (pt ps k) (pt ps (k + 1)) := by rw [pt_lt hlt]; exact hc k hlt
    obtain ⟨r1, r2⟩ := cut_step hS hl hs pp pq hpq ih.L ih.J
    have he : cutN l s ps (k + 1) = cutN l s ps k ++ cutF l s (pt ps k) (pt ps (k + 1)) := by rw [pt_lt hlt]; rfl
    refine ⟨by rw [he]; exact r1, by rw [he]; exact r2, ?_, ?_⟩
    · rw [he]
      by_cases h0 : cutN l s ps k = []
      · rw [h0, List.nil_append]
        by_cases hn : cutF l s (pt ps k) (pt ps (k + 1)) = []
        · exact .inl hn
        · refine .inr ?_
          have hx : ¬ 0 ≤ s * sd l (pt ps k) → on l (nth (cutF l s (pt ps k) (pt ps (k + 1))) 0) := by
            intro hA
            unfold cutF at hn ⊢
            rw [if_neg hA, List.nil_append] at hn ⊢
            split at hn
            · rename_i hx
              rw [if_pos hx]
              obtain ⟨L, hLS, o1, o2⟩ := hpq
              obtain ⟨q1, q2⟩ := opp hl (hS L hLS).1 pp pq o1 o2 hx
              obtain ⟨t1, t2⟩ := sideL_on (hS L hLS).1 pp pq o1 o2 q1
              show on l (meetP _ _)
              rw [t2]
              exact (meet_on (hS L hLS).1 hl q2).2
            · exact absurd rfl hn
          have hy : 0 ≤ s * sd l (pt ps k) → nth (cutF l s (pt ps k) (pt ps (k + 1))) 0 = pt ps k := by
            intro hA
            unfold cutF
            rw [if_pos hA]; rfl
          by_cases hk0 : k = 0
          · subst hk0
            by_cases hA : 0 ≤ s * sd l (pt ps 0)
            · rw [if_pos hA]; exact hy hA
            · rw [if_neg hA]; exact hx hA
          · obtain ⟨g1, g2⟩ := ih.G h0 (by omega)
            rw [if_neg g1]
            by_cases hA : 0 ≤ s * sd l (pt ps k)
            · rw [hy hA]
              refine (sd_zero hl pp).1 ?_
              rcases hs with rfl | rfl <;> omega
            · exact hx hA
      · rcases ih.F with h | h
        · exact absurd h h0
        · rw [nth_append_left (List.length_pos_iff.2 h0)]
          exact .inr h
    · intro hh _
      rw [he] at hh
      obtain ⟨h1, h2⟩ := List.append_eq_nil_iff.1 hh
      unfold cutF at h2
      obtain ⟨h3, h4⟩ := List.append_eq_nil_iff.1 h2
      have hA : ¬ 0 ≤ s * sd l (pt ps k) := by intro hA; rw [if_pos hA] at h3; simp at h3
      have hAB : ¬ s * sd l (pt ps k) * (s * sd l (pt ps (k + 1))) < 0 := by intro hx; rw [if_pos hx] at h4; simp at h4
      refine ⟨?_, ?_⟩
      · by_cases hk0 : k = 0
        · subst hk0; exact hA
        · exact (ih.G h1 (by omega)).1
      · have e1 := sd_range l (pt ps k)
        have e2 := sd_range l (pt ps (k + 1))
        generalize sd l (pt ps k) = a at *
        generalize sd l (pt ps (k + 1)) = b at *
        rcases hs with rfl | rfl <;> rcases e1 with rfl | rfl | rfl <;> rcases e2 with rfl | rfl | rfl <;> omega
theorem Chain.cut {K M : Nat} {S : List Li} {l : Li} {s : Int} {ps : List Pt} (hS : SOk K M S) (hl : Lok l) (hs : s = 1 ∨ s = -1) (hp : ∀ p ∈ ps, PK p) (hc : Chain S ps) : Chain (l :: S) (cutN l s ps ps.length) := by
  have h := cut_path hS hl hs hp hc ps.length (Nat.le_refl _)
  have e0 : pt ps ps.length = pt ps 0 := by unfold pt; simp
  have hJ := h.J
  have hF := h.F
  have hL := h.L
  rw [e0] at hJ
  generalize cutN l s ps ps.length = out at *
  intro k hk
  have hne : ¬ out = [] := by rintro rfl; simp at hk
  by_cases hlt : k + 1 < out.length
  · unfold nxt; rw [Nat.mod_eq_of_lt hlt]; exact hL k hlt
  · have e : k + 1 = out.length := by omega
    have e1 : nxt out k = nth out 0 := by unfold nxt; rw [e, Nat.mod_self]
    have e2 : nth out k = lastOf out := by unfold lastOf; congr 1; omega
    rw [e1, e2]
    rcases hJ with hJ | hJ
    · exact absurd hJ hne
    rcases hF with hF | hF
    · exact absurd hF hne
    by_cases hA : 0 ≤ s * sd l (pt ps 0)
    · rw [if_pos hA] at hJ hF; rw [hF]; exact hJ
    · rw [if_neg hA] at hJ hF
      exact ⟨l, List.mem_cons_self, hJ, hF⟩
end Go.Vai
