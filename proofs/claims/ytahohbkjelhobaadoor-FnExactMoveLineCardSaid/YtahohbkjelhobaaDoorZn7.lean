import Derived.Test.YtahohbkjelhobaaDoorZn6
set_option linter.unusedVariables false
set_option linter.unusedSimpArgs false
set_option maxHeartbeats 4000000
namespace Go.Vai
def vP (p : Pt) : Bool := vN p.x && vN p.y
def vL (l : Li) : Bool := inB l.dir 0 7 && vN l.off
theorem vN_bound {x : Nu} (h : vN x = true) : NB 10 134217728 x := by
  simp only [vN, Bool.and_eq_true, inB_iff] at h
  obtain ⟨h1, h2, h3, -⟩ := h
  have e : 2 ^ (10 - x.k.toNat) ≤ 1024 := by
    have := Nat.pow_le_pow_right (n := 2) (by decide) (show 10 - x.k.toNat ≤ 10 by omega)
    simpa using this
  have m1 := Nat.mul_le_mul (show x.a.natAbs ≤ 131072 by omega) e
  have m2 := Nat.mul_le_mul (show x.b.natAbs ≤ 131072 by omega) e
  exact ⟨by omega, by omega, by omega, by omega⟩
def ndot (p q : Pt) : Nu := nadd (nmul p.x q.x) (nmul p.y q.y)
/-- A point whose parts are within M at the scale of 2^K. -/
def PB (K M : Nat) (p : Pt) : Prop := NB K M p.x ∧ NB K M p.y
theorem vP_bound {p : Pt} (h : vP p = true) : PB 10 134217728 p := by
  simp only [vP, Bool.and_eq_true] at h
  exact ⟨vN_bound h.1, vN_bound h.2⟩
theorem PB.dot {K K' M M' : Nat} {p q : Pt} (h : PB K M p) (h' : PB K' M' q) : NB (K + K') (6 * (M * M')) (ndot p q) :=
  ((h.1.mul h'.1).add (h.2.mul h'.2)).mono (by omega)
theorem vec_PB {d : Int} (h0 : 0 ≤ d) (h1 : d ≤ 15) : PB 0 1 (vec d) := vec_bound d h0 h1
theorem c34 (p : Pt) : PC E 34 [.agg (encP p)] [.i (.bool (vP p))] := by
  refine PC_start hE Proofs.Tryd.func34 rfl rfl Proofs.Tryd.ntmps34 (by kernel_rfl) (by kernel_rfl) (by simp) ?_
  simp (disch := first | omega | simp) [wrap_i64, le_most, lt_omega, le_omega, ne_omega, allLen, encP]
  refine CallK.of (c27 p.x) (by first | exact .inl rfl | exact .inr (by simp)) (by simp) ?_
  simp (disch := first | omega | simp) [wrap_i64, le_most, lt_omega, le_omega, ne_omega, allLen]
  (first | refine Gd.dec (fun h1 => ?_) (fun h1 => ?_) | refine Gd.intro (fun h1 => ?_) (fun h1 => ?_)) <;> simp (disch := first | omega | simp) [wrap_i64, le_most, lt_omega, le_omega, ne_omega, allLen, h1]
  rotate_left
  · simp [vP, h1]
  refine CallK.of (c27 p.y) (by first | exact .inl rfl | exact .inr (by simp)) (by simp) ?_
  simp (disch := first | omega | simp) [wrap_i64, le_most, lt_omega, le_omega, ne_omega, allLen]
  simp [vP, h1]
theorem c23 (l : Li) : PC E 23 [.agg (encLi l)] [.i (.bool (vL l))] := by
  refine PC_start hE Proofs.Tryd.func23 rfl rfl Proofs.Tryd.ntmps23 (by kernel_rfl) (by kernel_rfl) (by simp) ?_
  simp (disch := first | omega | simp) [wrap_i64, le_most, lt_omega, le_omega, ne_omega, allLen, encLi]
  refine CallK.of (c53 _ _ _) (by first | exact .inl rfl | exact .inr (by simp)) (by simp) ?_
  simp (disch := first | omega | simp) [wrap_i64, le_most, lt_omega, le_omega, ne_omega, allLen]
  (first | refine Gd.dec (fun h1 => ?_) (fun h1 => ?_) | refine Gd.intro (fun h1 => ?_) (fun h1 => ?_)) <;> simp (disch := first | omega | simp) [wrap_i64, le_most, lt_omega, le_omega, ne_omega, allLen, h1]
  rotate_left
  · simp [vL, h1]
  refine CallK.of (c27 l.off) (by first | exact .inl rfl | exact .inr (by simp)) (by simp) ?_
  simp (disch := first | omega | simp) [wrap_i64, le_most, lt_omega, le_omega, ne_omega, allLen]
  simp [vL, h1]
theorem c29 (p : Pt) : PC E 29 [.agg (encP p)] [.i (.bool (vP p))] := by
  refine PC_start hE Proofs.Tryd.func29 rfl rfl Proofs.Tryd.ntmps29 (by kernel_rfl) (by kernel_rfl) (by simp) ?_
  simp (disch := first | omega | simp) [wrap_i64, le_most, lt_omega, le_omega, ne_omega, allLen, encP]
  refine CallK.of (c42 p.x) (by first | exact .inl rfl | exact .inr (by simp)) (by simp) ?_
  simp (disch := first | omega | simp) [wrap_i64, le_most, lt_omega, le_omega, ne_omega, allLen]
  (first | refine Gd.dec (fun h1 => ?_) (fun h1 => ?_) | refine Gd.intro (fun h1 => ?_) (fun h1 => ?_)) <;> simp (disch := first | omega | simp) [wrap_i64, le_most, lt_omega, le_omega, ne_omega, allLen, h1]
  rotate_left
  · simp [vP, h1]
  refine CallK.of (c42 p.y) (by first | exact .inl rfl | exact .inr (by simp)) (by simp) ?_
  simp (disch := first | omega | simp) [wrap_i64, le_most, lt_omega, le_omega, ne_omega, allLen]
  simp [vP, h1]
theorem c16 (l : Li) : PC E 16 [.agg (encLi l)] [.i (.bool (vL l))] := by
  refine PC_start hE Proofs.Tryd.func16 rfl rfl Proofs.Tryd.ntmps16 (by kernel_rfl) (by kernel_rfl) (by simp) ?_
  simp (disch := first | omega | simp) [wrap_i64, le_most, lt_omega, le_omega, ne_omega, allLen, encLi]
  refine CallK.of (c41 _ _ _) (by first | exact .inl rfl | exact .inr (by simp)) (by simp) ?_
  simp (disch := first | omega | simp) [wrap_i64, le_most, lt_omega, le_omega, ne_omega, allLen]
  (first | refine Gd.dec (fun h1 => ?_) (fun h1 => ?_) | refine Gd.intro (fun h1 => ?_) (fun h1 => ?_)) <;> simp (disch := first | omega | simp) [wrap_i64, le_most, lt_omega, le_omega, ne_omega, allLen, h1]
  rotate_left
  · simp [vL, h1]
  refine CallK.of (c42 l.off) (by first | exact .inl rfl | exact .inr (by simp)) (by simp) ?_
  simp (disch := first | omega | simp) [wrap_i64, le_most, lt_omega, le_omega, ne_omega, allLen]
  simp [vL, h1]
theorem c55 (p q : Pt) {K K' M M' : Nat} (h : PB K M p) (h' : PB K' M' q) (hK : K + K' ≤ 60) (hM : 6 * (M * M') ≤ 4611686018427387904) (h2 : M ≤ 2305843009213693952) :
    PC E 55 [.agg (encP p), .agg (encP q)] [.agg (encN (ndot p q))] := by
  refine PC_start hE Proofs.Tryd.func55 rfl rfl Proofs.Tryd.ntmps55 (by kernel_rfl) (by kernel_rfl) (by simp) ?_
  simp (disch := first | omega | simp) [wrap_i64, le_most, lt_omega, le_omega, ne_omega, allLen, encP]
  refine CallK.of (c72 p.x q.x h.1 h'.1 hK (by omega) h2) (by first | exact .inl rfl | exact .inr (by simp)) (by simp) ?_
  simp (disch := first | omega | simp) [wrap_i64, le_most, lt_omega, le_omega, ne_omega, allLen, encP]
  refine CallK.of (c72 p.y q.y h.2 h'.2 hK (by omega) h2) (by first | exact .inl rfl | exact .inr (by simp)) (by simp) ?_
  simp (disch := first | omega | simp) [wrap_i64, le_most, lt_omega, le_omega, ne_omega, allLen, encP]
  refine CallK.of (c60 (nmul p.x q.x) (nmul p.y q.y) (h.1.mul h'.1) (h.2.mul h'.2) hK (by omega)) (by first | exact .inl rfl | exact .inr (by simp)) (by simp) ?_
  simp (disch := first | omega | simp) [wrap_i64, le_most, lt_omega, le_omega, ne_omega, allLen, encN, ndot]
theorem c54 (l : Li) (h0 : 0 ≤ l.dir) (h1 : l.dir ≤ 11) : PC E 54 [.agg (encLi l)] [.agg (encP (vec (l.dir + 4)))] := by
  refine PC_start hE Proofs.Tryd.func54 rfl rfl Proofs.Tryd.ntmps54 (by kernel_rfl) (by kernel_rfl) (by simp) ?_
  simp (disch := first | omega | simp) [wrap_i64, le_most, lt_omega, le_omega, ne_omega, allLen, encLi]
  refine CallK.of (c64 (l.dir + 4) (by omega) (by omega)) (by first | exact .inl rfl | exact .inr (by simp)) (by simp) ?_
  simp (disch := first | omega | simp) [wrap_i64, le_most, lt_omega, le_omega, ne_omega, allLen, encP]
def lat (p : Pt) (d : Int) : Li := ⟨d, ndot (vec (d + 4)) p⟩
theorem c24 (p : Pt) (d : Int) {K M : Nat} (h : PB K M p) (hK : K ≤ 60) (hM : 6 * M ≤ 4611686018427387904) (h0 : 0 ≤ d) (h1 : d ≤ 11) :
    PC E 24 [.agg (encP p), .i (.int .i64 d)] [.agg (encLi (lat p d))] := by
  refine PC_start hE Proofs.Tryd.func24 rfl rfl Proofs.Tryd.ntmps24 (by kernel_rfl) (by kernel_rfl) (by simp) ?_
  simp (disch := first | omega | simp) [wrap_i64, le_most, lt_omega, le_omega, ne_omega, allLen]
  refine CallK.of (c54 ⟨d, ⟨0, 0, 0⟩⟩ h0 h1) (by first | exact .inl rfl | exact .inr (by simp)) (by simp) ?_
  simp (disch := first | omega | simp) [wrap_i64, le_most, lt_omega, le_omega, ne_omega, allLen]
  refine CallK.of (c55 (vec (d + 4)) p (vec_PB (by omega) (by omega)) h (by omega) (by omega) (by decide)) (by first | exact .inl rfl | exact .inr (by simp)) (by simp) ?_
  simp (disch := first | omega | simp) [wrap_i64, le_most, lt_omega, le_omega, ne_omega, allLen, encN, encLi, lat]
theorem c32 (p : Pt) : PC E 32 [.agg (encP p)] [.agg (encP p)] := by
  refine PC_start hE Proofs.Tryd.func32 rfl rfl Proofs.Tryd.ntmps32 (by kernel_rfl) (by kernel_rfl) (by simp) ?_
  simp (disch := first | omega | simp) [wrap_i64, le_most, lt_omega, le_omega, ne_omega, allLen, encP]
  refine CallK.of (c50 p.x) (by first | exact .inl rfl | exact .inr (by simp)) (by simp) ?_
  simp (disch := first | omega | simp) [wrap_i64, le_most, lt_omega, le_omega, ne_omega, allLen]
  refine CallK.of (c50 p.y) (by first | exact .inl rfl | exact .inr (by simp)) (by simp) ?_
  simp (disch := first | omega | simp) [wrap_i64, le_most, lt_omega, le_omega, ne_omega, allLen, encN]
theorem c18 (l : Li) : PC E 18 [.agg (encLi l)] [.agg (encLi l)] := by
  refine PC_start hE Proofs.Tryd.func18 rfl rfl Proofs.Tryd.ntmps18 (by kernel_rfl) (by kernel_rfl) (by simp) ?_
  simp (disch := first | omega | simp) [wrap_i64, le_most, lt_omega, le_omega, ne_omega, allLen, encLi]
  refine CallK.of (c50 l.off) (by first | exact .inl rfl | exact .inr (by simp)) (by simp) ?_
  simp (disch := first | omega | simp) [wrap_i64, le_most, lt_omega, le_omega, ne_omega, allLen, encN]
theorem c46 (d : Int) (p : Pt) {K M : Nat} (h : PB K M p) (hK : K ≤ 60) (hM : 6 * M ≤ 4611686018427387904) (h0 : -4611686018427387904 ≤ d) (h1 : d ≤ 4611686018427387904) :
    PC E 46 [.i (.int .i64 d), .agg (encP p)] [.agg (encN (ndot (vec (d % 16)) p))] := by
  refine PC_start hE Proofs.Tryd.func46 rfl rfl Proofs.Tryd.ntmps46 (by kernel_rfl) (by kernel_rfl) (by simp) ?_
  have hv := vec_PB (d := d % 16) (by omega) (by omega)
  simp (disch := first | omega | simp) [wrap_i64, le_most, lt_omega, le_omega, ne_omega, allLen]
  refine CallK.of (c43 d h0 h1) (by first | exact .inl rfl | exact .inr (by simp)) (by simp) ?_
  simp (disch := first | omega | simp) [wrap_i64, le_most, lt_omega, le_omega, ne_omega, allLen]
  refine CallK.of (c32 (vec (d % 16))) (by first | exact .inl rfl | exact .inr (by simp)) (by simp) ?_
  simp (disch := first | omega | simp) [wrap_i64, le_most, lt_omega, le_omega, ne_omega, allLen, encP]
  have b1 := hv.1.mul h.1
  have b2 := hv.2.mul h.2
  simp only [Nat.zero_add, Nat.one_mul] at b1 b2
  refine CallK.of (c49 (vec (d % 16)).x p.x hv.1 h.1 (by omega) (by omega) (by decide)) (by first | exact .inl rfl | exact .inr (by simp)) (by simp) ?_
  simp (disch := first | omega | simp) [wrap_i64, le_most, lt_omega, le_omega, ne_omega, allLen, encP]
  refine CallK.of (c49 (vec (d % 16)).y p.y hv.2 h.2 (by omega) (by omega) (by decide)) (by first | exact .inl rfl | exact .inr (by simp)) (by simp) ?_
  simp (disch := first | omega | simp) [wrap_i64, le_most, lt_omega, le_omega, ne_omega, allLen, encP]
  refine CallK.of (c48 _ _ b1 b2 hK (by omega)) (by first | exact .inl rfl | exact .inr (by simp)) (by simp) ?_
  simp (disch := first | omega | simp) [wrap_i64, le_most, lt_omega, le_omega, ne_omega, allLen, encN, ndot]
theorem mod16 {d : Int} (h0 : 0 ≤ d) (h1 : d ≤ 15) : d % 16 = d := by omega
/-- On which side of a line a point is; 0 if they are not valid. -/
def sideR (l : Li) (p : Pt) : Int := if (vL l && vP p) = true then nsign (nsub (ndot (vec (l.dir + 4)) p) l.off) else 0
/-- The line through a point with a direction. -/
def latOk (p : Pt) (d : Int) : Bool := vP p && inB d 0 7 && vN (lat p d).off
def latR (p : Pt) (d : Int) : Li := if latOk p d = true then lat p d else ⟨0, ⟨0, 0, 0⟩⟩
theorem isLowF : ∀ (n : Nat) (x : Nu), n = x.k.toNat → 0 ≤ x.k → ¬ (0 < (lowF n x).k ∧ (lowF n x).a % 2 = 0 ∧ (lowF n x).b % 2 = 0)
  | 0, x, h, h0 => by simp only [lowF]; omega
  | n + 1, x, h, h0 => by
    simp only [lowF]
    split
    · exact isLowF n _ (by simp only; omega) (by simp only; omega)
    · assumption
theorem lowF_nz : ∀ (n : Nat) (x : Nu), ¬ (x.a = 0 ∧ x.b = 0) → ¬ ((lowF n x).a = 0 ∧ (lowF n x).b = 0)
  | 0, x, h => h
  | n + 1, x, h => by
    simp only [lowF]
    split
    · exact lowF_nz n _ (by simp only; omega)
    · exact h
theorem low_low {x : Nu} (h0 : 0 ≤ x.k) : low (low x) = low x := by
  refine low_end ?_ ?_
  · unfold low; split
    · simp
    · exact isLowF _ x rfl h0
  · intro hz
    unfold low at hz ⊢
    split at hz
    · rename_i h; rw [if_pos h]
    · rename_i h; exact absurd hz (lowF_nz _ x h)
theorem low_nadd {x y : Nu} (h : 0 ≤ x.k) : low (nadd x y) = nadd x y := low_low (by simp only; omega)
theorem nnum_low {x : Nu} (h : low x = x) : nok x = vN x := by unfold nok; rw [h]
theorem c33 (p : Pt) (d : Int) : PC E 33 [.agg (encP p), .i (.int .i64 d)] [.agg (encLi (latR p d)), .i (.bool (latOk p d))] := by
  refine PC_start hE Proofs.Tryd.func33 rfl rfl Proofs.Tryd.ntmps33 (by kernel_rfl) (by kernel_rfl) (by simp) ?_
  simp (disch := first | omega | simp) [wrap_i64, le_most, lt_omega, le_omega, ne_omega, allLen]
  refine CallK.of (c29 p) (by first | exact .inl rfl | exact .inr (by simp)) (by simp) ?_
  simp (disch := first | omega | simp) [wrap_i64, le_most, lt_omega, le_omega, ne_omega, allLen]
  generalize h1 : vP p = q1
  cases q1
  · simp (disch := first | omega | simp) [wrap_i64, le_most, lt_omega, le_omega, ne_omega, allLen]
    simp [latR, latOk, h1, encLi]
  simp (disch := first | omega | simp) [wrap_i64, le_most, lt_omega, le_omega, ne_omega, allLen]
  refine CallK.of (c41 _ _ _) (by first | exact .inl rfl | exact .inr (by simp)) (by simp) ?_
  simp (disch := first | omega | simp) [wrap_i64, le_most, lt_omega, le_omega, ne_omega, allLen]
  (first | refine Gd.dec (fun h2 => ?_) (fun h2 => ?_) | refine Gd.intro (fun h2 => ?_) (fun h2 => ?_)) <;> simp (disch := first | omega | simp) [wrap_i64, le_most, lt_omega, le_omega, ne_omega, allLen, h2]
  rotate_left
  · simp [latR, latOk, h2, encLi]
  have hd := inB_iff.1 h2
  simp (disch := first | omega | simp) [wrap_i64, le_most, lt_omega, le_omega, ne_omega, allLen]
  refine CallK.of (c32 p) (by first | exact .inl rfl | exact .inr (by simp)) (by simp) ?_
  simp (disch := first | omega | simp) [wrap_i64, le_most, lt_omega, le_omega, ne_omega, allLen]
  refine CallK.of (c46 (d + 4) p (vP_bound h1) (by decide) (by decide) (by omega) (by omega)) (by first | exact .inl rfl | exact .inr (by simp)) (by simp) ?_
  rw [mod16 (by omega) (by omega)]
  have hv := vec_PB (d := d + 4) (by omega) (by omega)
  have hb := hv.dot (vP_bound h1)
  have hl : low (ndot (vec (d + 4)) p) = ndot (vec (d + 4)) p := low_nadd (hv.1.mul (vP_bound h1).1).k0
  have hn := nnum_low hl
  simp (disch := first | omega | simp) [wrap_i64, le_most, lt_omega, le_omega, ne_omega, allLen]
  refine CallK.of (c21 (ndot (vec (d + 4)) p) (hb.i64 (by decide) (by decide)) hb.k0) (by first | exact .inl rfl | exact .inr (by simp)) (by simp) ?_
  rw [hn]
  simp (disch := first | omega | simp) [wrap_i64, le_most, lt_omega, le_omega, ne_omega, allLen, encN]
  (first | refine Gd.dec (fun h3 => ?_) (fun h3 => ?_) | refine Gd.intro (fun h3 => ?_) (fun h3 => ?_)) <;> simp (disch := first | omega | simp) [wrap_i64, le_most, lt_omega, le_omega, ne_omega, allLen, h3]
  · simp [latR, latOk, h1, h2, h3, lat, nnum, hn, hl, encLi]
  · simp [latR, latOk, h1, h2, h3, lat, encLi]
end Go.Vai
