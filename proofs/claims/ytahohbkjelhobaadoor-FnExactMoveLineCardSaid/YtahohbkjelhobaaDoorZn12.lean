import Derived.Test.YtahohbkjelhobaaDoorZn11
set_option linter.unusedVariables false
set_option linter.unusedSimpArgs false
set_option maxHeartbeats 4000000
namespace Go.Vai
/-! ### Feet, reflections -/
def sqE (d : Int) : Nat := if d % 4 = 0 then 0 else if d % 2 = 0 then 2 else 3
theorem sq_Dv {d : Int} (h0 : 0 ≤ d) (h1 : d ≤ 15) : Dv (ndot (vec d) (vec d)) 1 (sqE d) := by
  rcases dir16 h0 h1 with rfl | rfl | rfl | rfl | rfl | rfl | rfl | rfl | rfl | rfl | rfl | rfl | rfl | rfl | rfl | rfl <;>
    exact ⟨by decide, by decide, by decide, .inl rfl, by decide, by decide⟩
theorem ndiv_neg (x y : Nu) (s : Int) (e : Nat) : ndiv (nneg x) y s e = nneg (ndiv x y s e) := by
  unfold ndiv
  rw [← low_neg]
  simp only [nneg]
  congr 2
  · rw [← Int.mul_neg]; congr 1; simp only [Int.neg_mul]; omega
  · rw [← Int.mul_neg]; congr 1; simp only [Int.neg_mul]; omega
/-- A number over the square of a direction's vector. -/
def ndsq (x : Nu) (d : Int) : Nu := ndiv x (ndot (vec d) (vec d)) 1 (sqE d)
theorem NB.dsq {K M : Nat} {x : Nu} (h : NB K M x) {d : Int} (h0 : 0 ≤ d) (h1 : d ≤ 15) : NB (K + 3) (96 * M) (ndsq x d) := (h.div (sq_Dv h0 h1)).mono (by omega)
theorem PB.up {K K' M : Nat} {p : Pt} (h : PB K M p) (hK : K ≤ K') : PB K' (M * 2 ^ (K' - K)) p := ⟨h.1.up hK, h.2.up hK⟩
def footP (l : Li) : Pt := ptimes (vec (l.dir + 4)) (ndsq l.off (l.dir + 4))
theorem foot_PB {l : Li} {M : Nat} (h : NB 10 M l.off) (h0 : 0 ≤ l.dir) (h1 : l.dir ≤ 7) : PB 13 (288 * M) (footP l) := by
  have := (vec_PB (d := l.dir + 4) (by omega) (by omega)).times (h.dsq (d := l.dir + 4) (by omega) (by omega))
  simp only [Nat.zero_add, Nat.one_mul] at this
  exact this.mono (by omega)
def reflU (l : Li) (p : Pt) : Nu := ndsq (nsub l.off (ndot (vec (l.dir + 4)) p)) (l.dir + 4)
def reflP (l : Li) (p : Pt) : Pt := pplus p (ptimes (vec (l.dir + 4)) (nadd (reflU l p) (reflU l p)))
theorem c26 (l : Li) {K M : Nat} (h : NB K M l.off) (hK : K ≤ 50) (hM : 288 * M ≤ 4611686018427387904) (h0 : 0 ≤ l.dir) (h1 : l.dir ≤ 7) :
    PC E 26 [.agg (encLi l)] [.agg (encP (footP l))] := by
  refine PC_start hE Proofs.Tryd.func26 rfl rfl Proofs.Tryd.ntmps26 (by kernel_rfl) (by kernel_rfl) (by simp) ?_
  have hv := vec_PB (d := l.dir + 4) (by omega) (by omega)
  have hb := h.dsq (d := l.dir + 4) (by omega) (by omega)
  simp (disch := first | omega | simp) [wrap_i64, le_most, lt_omega, le_omega, ne_omega, allLen]
  refine CallK.of (c54 l h0 (by omega)) (by first | exact .inl rfl | exact .inr (by simp)) (by simp) ?_
  simp (disch := first | omega | simp) [wrap_i64, le_most, lt_omega, le_omega, ne_omega, allLen]
  refine CallK.of (c55 (vec (l.dir + 4)) (vec (l.dir + 4)) hv hv (by decide) (by decide) (by decide)) (by first | exact .inl rfl | exact .inr (by simp)) (by simp) ?_
  simp (disch := first | omega | simp) [wrap_i64, le_most, lt_omega, le_omega, ne_omega, allLen, encLi]
  refine CallK.of (c57 l.off (ndot (vec (l.dir + 4)) (vec (l.dir + 4))) h (sq_Dv (by omega) (by omega)) hK (by omega)) (by first | exact .inl rfl | exact .inr (by simp)) (by simp) ?_
  simp (disch := first | omega | simp) [wrap_i64, le_most, lt_omega, le_omega, ne_omega, allLen, encP]
  refine CallK.of (c59 (vec (l.dir + 4)) (ndsq l.off (l.dir + 4)) hv hb (by omega) (by omega) (by decide)) (by first | exact .inl rfl | exact .inr (by simp)) (by simp) ?_
  simp (disch := first | omega | simp) [wrap_i64, le_most, lt_omega, le_omega, ne_omega, allLen, encP, footP]
theorem c25 (l : Li) (p : Pt) {K M M' : Nat} (h : PB K M p) (h' : NB K M' l.off) (hK : K ≤ 50) (hM : 4000 * (M + M') ≤ 4611686018427387904) (h0 : 0 ≤ l.dir) (h1 : l.dir ≤ 7) :
    PC E 25 [.agg (encLi l), .agg (encP p)] [.agg (encP (reflP l p))] := by
  refine PC_start hE Proofs.Tryd.func25 rfl rfl Proofs.Tryd.ntmps25 (by kernel_rfl) (by kernel_rfl) (by simp) ?_
  have hv := vec_PB (d := l.dir + 4) (by omega) (by omega)
  have hd := hv.dot h
  simp only [Nat.zero_add, Nat.one_mul] at hd
  have hs := h'.sub hd
  have hu := hs.dsq (d := l.dir + 4) (by omega) (by omega)
  have huu := hu.add hu
  have ht := hv.times huu
  simp only [Nat.zero_add, Nat.one_mul] at ht
  have hpu := h.up (K' := K + 3) (by omega)
  have e3 : K + 3 - K = 3 := by omega
  rw [e3] at hpu
  simp (disch := first | omega | simp) [wrap_i64, le_most, lt_omega, le_omega, ne_omega, allLen]
  refine CallK.of (c54 l h0 (by omega)) (by first | exact .inl rfl | exact .inr (by simp)) (by simp) ?_
  simp (disch := first | omega | simp) [wrap_i64, le_most, lt_omega, le_omega, ne_omega, allLen, encLi]
  refine CallK.of (c55 (vec (l.dir + 4)) p hv h (by omega) (by omega) (by decide)) (by first | exact .inl rfl | exact .inr (by simp)) (by simp) ?_
  simp (disch := first | omega | simp) [wrap_i64, le_most, lt_omega, le_omega, ne_omega, allLen]
  refine CallK.of (c56 l.off (ndot (vec (l.dir + 4)) p) h' hd (by omega) (by omega)) (by first | exact .inl rfl | exact .inr (by simp)) (by simp) ?_
  simp (disch := first | omega | simp) [wrap_i64, le_most, lt_omega, le_omega, ne_omega, allLen]
  refine CallK.of (c55 (vec (l.dir + 4)) (vec (l.dir + 4)) hv hv (by decide) (by decide) (by decide)) (by first | exact .inl rfl | exact .inr (by simp)) (by simp) ?_
  simp (disch := first | omega | simp) [wrap_i64, le_most, lt_omega, le_omega, ne_omega, allLen]
  refine CallK.of (c57 (nsub l.off (ndot (vec (l.dir + 4)) p)) (ndot (vec (l.dir + 4)) (vec (l.dir + 4))) hs (sq_Dv (by omega) (by omega)) hK (by omega)) (by first | exact .inl rfl | exact .inr (by simp)) (by simp) ?_
  simp (disch := first | omega | simp) [wrap_i64, le_most, lt_omega, le_omega, ne_omega, allLen]
  refine CallK.of (c60 (reflU l p) (reflU l p) hu hu (by omega) (by omega)) (by first | exact .inl rfl | exact .inr (by simp)) (by simp) ?_
  simp (disch := first | omega | simp) [wrap_i64, le_most, lt_omega, le_omega, ne_omega, allLen]
  refine CallK.of (c59 (vec (l.dir + 4)) (nadd (reflU l p) (reflU l p)) hv huu (by omega) (by omega) (by decide)) (by first | exact .inl rfl | exact .inr (by simp)) (by simp) ?_
  simp (disch := first | omega | simp) [wrap_i64, le_most, lt_omega, le_omega, ne_omega, allLen]
  refine CallK.of (c58 p (ptimes (vec (l.dir + 4)) (nadd (reflU l p) (reflU l p))) hpu ht (by omega) (by omega)) (by first | exact .inl rfl | exact .inr (by simp)) (by simp) ?_
  simp (disch := first | omega | simp) [wrap_i64, le_most, lt_omega, le_omega, ne_omega, allLen, encP, reflP]
theorem c47 (d : Int) (h0 : 0 ≤ d) (h1 : d ≤ 15) : PC E 47 [.i (.int .i64 d)] [.agg (encN (ndot (vec d) (vec d)))] := by
  refine PC_start hE Proofs.Tryd.func47 rfl rfl Proofs.Tryd.ntmps47 (by kernel_rfl) (by kernel_rfl) (by simp) ?_
  have hv := vec_PB h0 h1
  have b1 := hv.1.mul hv.1
  have b2 := hv.2.mul hv.2
  simp (disch := first | omega | simp) [wrap_i64, le_most, lt_omega, le_omega, ne_omega, allLen]
  refine CallK.of (c43 d (by omega) (by omega)) (by first | exact .inl rfl | exact .inr (by simp)) (by simp) ?_
  rw [mod16 h0 h1]
  simp (disch := first | omega | simp) [wrap_i64, le_most, lt_omega, le_omega, ne_omega, allLen]
  refine CallK.of (c32 (vec d)) (by first | exact .inl rfl | exact .inr (by simp)) (by simp) ?_
  simp (disch := first | omega | simp) [wrap_i64, le_most, lt_omega, le_omega, ne_omega, allLen, encP]
  refine CallK.of (c49 (vec d).x (vec d).x hv.1 hv.1 (by decide) (by decide) (by decide)) (by first | exact .inl rfl | exact .inr (by simp)) (by simp) ?_
  simp (disch := first | omega | simp) [wrap_i64, le_most, lt_omega, le_omega, ne_omega, allLen, encP]
  refine CallK.of (c49 (vec d).y (vec d).y hv.2 hv.2 (by decide) (by decide) (by decide)) (by first | exact .inl rfl | exact .inr (by simp)) (by simp) ?_
  simp (disch := first | omega | simp) [wrap_i64, le_most, lt_omega, le_omega, ne_omega, allLen, encP]
  refine CallK.of (c48 _ _ b1 b2 (by decide) (by decide)) (by first | exact .inl rfl | exact .inr (by simp)) (by simp) ?_
  simp (disch := first | omega | simp) [wrap_i64, le_most, lt_omega, le_omega, ne_omega, allLen, encN, ndot]
theorem c19 (l : Li) {K M : Nat} (h : NB K M l.off) (hK : K ≤ 50) (hM : 288 * M ≤ 4611686018427387904) (h0 : 0 ≤ l.dir) (h1 : l.dir ≤ 7) :
    PC E 19 [.agg (encLi l)] [.agg (encP (footP l))] := by
  refine PC_start hE Proofs.Tryd.func19 rfl rfl Proofs.Tryd.ntmps19 (by kernel_rfl) (by kernel_rfl) (by simp) ?_
  have hv := vec_PB (d := l.dir + 4) (by omega) (by omega)
  have hb := h.dsq (d := l.dir + 4) (by omega) (by omega)
  simp (disch := first | omega | simp) [wrap_i64, le_most, lt_omega, le_omega, ne_omega, allLen, encLi]
  refine CallK.of (c43 (l.dir + 4) (by omega) (by omega)) (by first | exact .inl rfl | exact .inr (by simp)) (by simp) ?_
  rw [mod16 (by omega) (by omega)]
  simp (disch := first | omega | simp) [wrap_i64, le_most, lt_omega, le_omega, ne_omega, allLen]
  refine CallK.of (c32 (vec (l.dir + 4))) (by first | exact .inl rfl | exact .inr (by simp)) (by simp) ?_
  simp (disch := first | omega | simp) [wrap_i64, le_most, lt_omega, le_omega, ne_omega, allLen]
  refine CallK.of (c47 (l.dir + 4) (by omega) (by omega)) (by first | exact .inl rfl | exact .inr (by simp)) (by simp) ?_
  simp (disch := first | omega | simp) [wrap_i64, le_most, lt_omega, le_omega, ne_omega, allLen]
  refine CallK.of (c44 l.off (ndot (vec (l.dir + 4)) (vec (l.dir + 4))) h (sq_Dv (by omega) (by omega)) hK (by omega)) (by first | exact .inl rfl | exact .inr (by simp)) (by simp) ?_
  simp (disch := first | omega | simp) [wrap_i64, le_most, lt_omega, le_omega, ne_omega, allLen, encP]
  refine CallK.of (c49 (ndsq l.off (l.dir + 4)) (vec (l.dir + 4)).x hb hv.1 (by omega) (by omega) (by omega)) (by first | exact .inl rfl | exact .inr (by simp)) (by simp) ?_
  simp (disch := first | omega | simp) [wrap_i64, le_most, lt_omega, le_omega, ne_omega, allLen, encP]
  refine CallK.of (c49 (ndsq l.off (l.dir + 4)) (vec (l.dir + 4)).y hb hv.2 (by omega) (by omega) (by omega)) (by first | exact .inl rfl | exact .inr (by simp)) (by simp) ?_
  rw [nmul_comm _ (vec (l.dir + 4)).x, nmul_comm _ (vec (l.dir + 4)).y]
  simp (disch := first | omega | simp) [wrap_i64, le_most, lt_omega, le_omega, ne_omega, allLen, encN, footP, ptimes]
/-- The reference's way to reflect. -/
theorem refl_eq (l : Li) (p : Pt) : pminus p ⟨nmul (nadd (nneg (reflU l p)) (nneg (reflU l p))) (vec (l.dir + 4)).x, nmul (nadd (nneg (reflU l p)) (nneg (reflU l p))) (vec (l.dir + 4)).y⟩ = reflP l p := by
  unfold pminus reflP pplus ptimes nsub
  simp only [← nneg_nadd, nmul_neg_l, nneg_nneg]
  rw [nmul_comm _ (vec (l.dir + 4)).x, nmul_comm _ (vec (l.dir + 4)).y]
theorem c17 (l : Li) (p : Pt) {K M M' : Nat} (h : PB K M p) (h' : NB K M' l.off) (hK : K ≤ 50) (hM : 4000 * (M + M') ≤ 4611686018427387904) (h0 : 0 ≤ l.dir) (h1 : l.dir ≤ 7) :
    PC E 17 [.agg (encLi l), .agg (encP p)] [.agg (encP (reflP l p))] := by
  refine PC_start hE Proofs.Tryd.func17 rfl rfl Proofs.Tryd.ntmps17 (by kernel_rfl) (by kernel_rfl) (by simp) ?_
  have hv := vec_PB (d := l.dir + 4) (by omega) (by omega)
  have hd := hv.dot h
  simp only [Nat.zero_add, Nat.one_mul] at hd
  have hs := hd.sub h'
  have hu := hs.dsq (d := l.dir + 4) (by omega) (by omega)
  have e : ndsq (nsub (ndot (vec (l.dir + 4)) p) l.off) (l.dir + 4) = nneg (reflU l p) := by
    unfold reflU ndsq
    rw [nsub_swap, ndiv_neg]
  have huu := hu.add hu
  have hpu := h.up (K' := K + 3) (by omega)
  have e3 : K + 3 - K = 3 := by omega
  rw [e3] at hpu
  have ht : PB (K + 3) (3 * (96 * (6 * M + M') + 96 * (6 * M + M'))) ⟨nmul (nadd (nneg (reflU l p)) (nneg (reflU l p))) (vec (l.dir + 4)).x, nmul (nadd (nneg (reflU l p)) (nneg (reflU l p))) (vec (l.dir + 4)).y⟩ := by
    rw [e] at huu
    exact ⟨(huu.mul hv.1).mono (by omega), (huu.mul hv.2).mono (by omega)⟩
  simp (disch := first | omega | simp) [wrap_i64, le_most, lt_omega, le_omega, ne_omega, allLen, encLi]
  refine CallK.of (c43 (l.dir + 4) (by omega) (by omega)) (by first | exact .inl rfl | exact .inr (by simp)) (by simp) ?_
  rw [mod16 (by omega) (by omega)]
  simp (disch := first | omega | simp) [wrap_i64, le_most, lt_omega, le_omega, ne_omega, allLen]
  refine CallK.of (c32 (vec (l.dir + 4))) (by first | exact .inl rfl | exact .inr (by simp)) (by simp) ?_
  simp (disch := first | omega | simp) [wrap_i64, le_most, lt_omega, le_omega, ne_omega, allLen]
  refine CallK.of (c46 (l.dir + 4) p h (by omega) (by omega) (by omega) (by omega)) (by first | exact .inl rfl | exact .inr (by simp)) (by simp) ?_
  rw [mod16 (by omega) (by omega)]
  simp (disch := first | omega | simp) [wrap_i64, le_most, lt_omega, le_omega, ne_omega, allLen]
  refine CallK.of (c45 (ndot (vec (l.dir + 4)) p) l.off hd h' (by omega) (by omega)) (by first | exact .inl rfl | exact .inr (by simp)) (by simp) ?_
  simp (disch := first | omega | simp) [wrap_i64, le_most, lt_omega, le_omega, ne_omega, allLen]
  refine CallK.of (c47 (l.dir + 4) (by omega) (by omega)) (by first | exact .inl rfl | exact .inr (by simp)) (by simp) ?_
  simp (disch := first | omega | simp) [wrap_i64, le_most, lt_omega, le_omega, ne_omega, allLen]
  refine CallK.of (c44 (nsub (ndot (vec (l.dir + 4)) p) l.off) (ndot (vec (l.dir + 4)) (vec (l.dir + 4))) hs (sq_Dv (by omega) (by omega)) hK (by omega)) (by first | exact .inl rfl | exact .inr (by simp)) (by simp) ?_
  have e' : ndiv (nsub (ndot (vec (l.dir + 4)) p) l.off) (ndot (vec (l.dir + 4)) (vec (l.dir + 4))) 1 (sqE (l.dir + 4)) = nneg (reflU l p) := e
  rw [e']
  rw [e] at hu huu
  simp (disch := first | omega | simp) [wrap_i64, le_most, lt_omega, le_omega, ne_omega, allLen]
  refine CallK.of (c48 (nneg (reflU l p)) (nneg (reflU l p)) hu hu (by omega) (by omega)) (by first | exact .inl rfl | exact .inr (by simp)) (by simp) ?_
  simp (disch := first | omega | simp) [wrap_i64, le_most, lt_omega, le_omega, ne_omega, allLen, encP]
  refine CallK.of (c49 (nadd (nneg (reflU l p)) (nneg (reflU l p))) (vec (l.dir + 4)).x huu hv.1 (by omega) (by omega) (by omega)) (by first | exact .inl rfl | exact .inr (by simp)) (by simp) ?_
  simp (disch := first | omega | simp) [wrap_i64, le_most, lt_omega, le_omega, ne_omega, allLen, encP]
  refine CallK.of (c49 (nadd (nneg (reflU l p)) (nneg (reflU l p))) (vec (l.dir + 4)).y huu hv.2 (by omega) (by omega) (by omega)) (by first | exact .inl rfl | exact .inr (by simp)) (by simp) ?_
  simp (disch := first | omega | simp) [wrap_i64, le_most, lt_omega, le_omega, ne_omega, allLen, encN]
  refine CallK.of (c31 p ⟨nmul (nadd (nneg (reflU l p)) (nneg (reflU l p))) (vec (l.dir + 4)).x, nmul (nadd (nneg (reflU l p)) (nneg (reflU l p))) (vec (l.dir + 4)).y⟩ hpu ht (by omega) (by omega)) (by first | exact .inl rfl | exact .inr (by simp)) (by simp) ?_
  rw [refl_eq]
  simp (disch := first | omega | simp) [wrap_i64, le_most, lt_omega, le_omega, ne_omega, allLen, encP]
theorem andI_7 (a : Int) : andI .i64 a 7 = a % 8 := by
  unfold andI
  have hb : IntKind.i64.bits = 64 := rfl
  rw [hb]
  have h1 : (BitVec.ofInt 64 a &&& BitVec.ofInt 64 7).toNat = (a % 18446744073709551616).toNat % 8 := by
    rw [BitVec.toNat_and]
    have : (BitVec.ofInt 64 7).toNat = 2 ^ 3 - 1 := rfl
    rw [this, Nat.and_two_pow_sub_one_eq_mod, BitVec.toNat_ofInt]
    rfl
  rw [h1, wrap_i64] <;> omega
theorem andI_15 (a : Int) : andI .i64 a 15 = a % 16 := by
  unfold andI
  have hb : IntKind.i64.bits = 64 := rfl
  rw [hb]
  have h1 : (BitVec.ofInt 64 a &&& BitVec.ofInt 64 15).toNat = (a % 18446744073709551616).toNat % 16 := by
    rw [BitVec.toNat_and]
    have : (BitVec.ofInt 64 15).toNat = 2 ^ 4 - 1 := rfl
    rw [this, Nat.and_two_pow_sub_one_eq_mod, BitVec.toNat_ofInt]
    rfl
  rw [h1, wrap_i64] <;> omega
theorem c20 (p : Pt) (d : Int) {K M : Nat} (h : PB K M p) (hK : K ≤ 60) (hM : 6 * M ≤ 4611686018427387904) (h0 : -4611686018427387904 ≤ d) (h1 : d ≤ 4611686018427387904) :
    PC E 20 [.agg (encP p), .i (.int .i64 d)] [.agg (encLi (lat p (d % 8)))] := by
  refine PC_start hE Proofs.Tryd.func20 rfl rfl Proofs.Tryd.ntmps20 (by kernel_rfl) (by kernel_rfl) (by simp) ?_
  have e1 : (d % 16).tmod 8 = d % 8 := by rw [Int.tmod_eq_emod_of_nonneg (by omega)]; omega
  simp (disch := first | omega | simp) [wrap_i64, le_most, lt_omega, le_omega, ne_omega, allLen]
  refine CallK.of (c51 d h0 h1) (by first | exact .inl rfl | exact .inr (by simp)) (by simp) ?_
  simp (disch := first | omega | simp) [wrap_i64, le_most, lt_omega, le_omega, ne_omega, allLen, e1]
  refine CallK.of (c46 (d % 8 + 4) p h hK hM (by omega) (by omega)) (by first | exact .inl rfl | exact .inr (by simp)) (by simp) ?_
  rw [mod16 (d := d % 8 + 4) (by omega) (by omega)]
  simp (disch := first | omega | simp) [wrap_i64, le_most, lt_omega, le_omega, ne_omega, allLen, encN, encLi, lat]
/-- A line reflected in a line. -/
def rlOk (l m : Li) : Bool := vL l && vL m && vN (lat (reflP l (footP m)) ((2 * l.dir - m.dir) % 8)).off
def rlR (l m : Li) : Li := if rlOk l m = true then lat (reflP l (footP m)) ((2 * l.dir - m.dir) % 8) else ⟨0, ⟨0, 0, 0⟩⟩
theorem vL_bound {l : Li} (h : vL l = true) : 0 ≤ l.dir ∧ l.dir ≤ 7 ∧ NB 10 134217728 l.off := by
  simp only [vL, Bool.and_eq_true, inB_iff] at h
  exact ⟨h.1.1, h.1.2, vN_bound h.2⟩
theorem refl_PB {l : Li} {p : Pt} {K M M' : Nat} (h : PB K M p) (h' : NB K M' l.off) (h0 : 0 ≤ l.dir) (h1 : l.dir ≤ 7) : PB (K + 3) (4000 * (M + M')) (reflP l p) := by
  have hv := vec_PB (d := l.dir + 4) (by omega) (by omega)
  have hd := hv.dot h
  simp only [Nat.zero_add, Nat.one_mul] at hd
  have hu := (h'.sub hd).dsq (d := l.dir + 4) (by omega) (by omega)
  have ht := hv.times (hu.add hu)
  simp only [Nat.zero_add, Nat.one_mul] at ht
  have hpu := h.up (K' := K + 3) (by omega)
  have e3 : K + 3 - K = 3 := by omega
  rw [e3] at hpu
  exact (hpu.plus ht).mono (by omega)
theorem NB.up13 {M : Nat} {x : Nu} (h : NB 10 M x) : NB 13 (8 * M) x := (h.up (K' := 13) (by decide)).mono (by simp; omega)
theorem c8 (l m : Li) : PC E 8 [.agg (encLi l), .agg (encLi m)] [.agg (encLi (rlR l m)), .i (.bool (rlOk l m))] := by
  refine PC_start hE Proofs.Tryd.func8 rfl rfl Proofs.Tryd.ntmps8 (by kernel_rfl) (by kernel_rfl) (by simp) ?_
  simp (disch := first | omega | simp) [wrap_i64, le_most, lt_omega, le_omega, ne_omega, allLen]
  refine CallK.of (c23 l) (by first | exact .inl rfl | exact .inr (by simp)) (by simp) ?_
  simp (disch := first | omega | simp) [wrap_i64, le_most, lt_omega, le_omega, ne_omega, allLen]
  generalize h1 : vL l = q1
  cases q1
  · simp (disch := first | omega | simp) [wrap_i64, le_most, lt_omega, le_omega, ne_omega, allLen]
    simp [rlR, rlOk, h1, encLi]
  simp (disch := first | omega | simp) [wrap_i64, le_most, lt_omega, le_omega, ne_omega, allLen]
  refine CallK.of (c23 m) (by first | exact .inl rfl | exact .inr (by simp)) (by simp) ?_
  simp (disch := first | omega | simp) [wrap_i64, le_most, lt_omega, le_omega, ne_omega, allLen]
  (first | refine Gd.dec (fun h2 => ?_) (fun h2 => ?_) | refine Gd.intro (fun h2 => ?_) (fun h2 => ?_)) <;> simp (disch := first | omega | simp) [wrap_i64, le_most, lt_omega, le_omega, ne_omega, allLen, h2]
  rotate_left
  · simp [rlR, rlOk, h2, encLi]
  obtain ⟨l0, l1, lb⟩ := vL_bound h1
  obtain ⟨m0, m1, mb⟩ := vL_bound h2
  have hf := foot_PB mb m0 m1
  have hr := refl_PB hf lb.up13 l0 l1
  refine CallK.of (c26 m mb (by decide) (by decide) m0 m1) (by first | exact .inl rfl | exact .inr (by simp)) (by simp) ?_
  simp (disch := first | omega | simp) [wrap_i64, le_most, lt_omega, le_omega, ne_omega, allLen]
  refine CallK.of (c25 l (footP m) hf lb.up13 (by decide) (by decide) l0 l1) (by first | exact .inl rfl | exact .inr (by simp)) (by simp) ?_
  simp (disch := first | omega | simp) [wrap_i64, le_most, lt_omega, le_omega, ne_omega, allLen, encLi, andI_7]
  refine CallK.of (c24 (reflP l (footP m)) ((2 * l.dir - m.dir) % 8) hr (by decide) (by decide) (by omega) (by omega)) (by first | exact .inl rfl | exact .inr (by simp)) (by simp) ?_
  simp (disch := first | omega | simp) [wrap_i64, le_most, lt_omega, le_omega, ne_omega, allLen, encLi]
  refine CallK.of (c27 (lat (reflP l (footP m)) ((2 * l.dir - m.dir) % 8)).off) (by first | exact .inl rfl | exact .inr (by simp)) (by simp) ?_
  simp (disch := first | omega | simp) [wrap_i64, le_most, lt_omega, le_omega, ne_omega, allLen]
  (first | refine Gd.dec (fun h3 => ?_) (fun h3 => ?_) | refine Gd.intro (fun h3 => ?_) (fun h3 => ?_)) <;> simp (disch := first | omega | simp) [wrap_i64, le_most, lt_omega, le_omega, ne_omega, allLen, h3]
  · simp [rlR, rlOk, h1, h2, h3]
  · simp [rlR, rlOk, h1, h2, h3]
theorem c6 (l m : Li) : PC E 6 [.agg (encLi l), .agg (encLi m)] [.agg (encLi (rlR l m)), .i (.bool (rlOk l m))] := by
  refine PC_start hE Proofs.Tryd.func6 rfl rfl Proofs.Tryd.ntmps6 (by kernel_rfl) (by kernel_rfl) (by simp) ?_
  simp (disch := first | omega | simp) [wrap_i64, le_most, lt_omega, le_omega, ne_omega, allLen]
  refine CallK.of (c16 l) (by first | exact .inl rfl | exact .inr (by simp)) (by simp) ?_
  simp (disch := first | omega | simp) [wrap_i64, le_most, lt_omega, le_omega, ne_omega, allLen]
  generalize h1 : vL l = q1
  cases q1
  · simp (disch := first | omega | simp) [wrap_i64, le_most, lt_omega, le_omega, ne_omega, allLen]
    simp [rlR, rlOk, h1, encLi]
  simp (disch := first | omega | simp) [wrap_i64, le_most, lt_omega, le_omega, ne_omega, allLen]
  refine CallK.of (c16 m) (by first | exact .inl rfl | exact .inr (by simp)) (by simp) ?_
  simp (disch := first | omega | simp) [wrap_i64, le_most, lt_omega, le_omega, ne_omega, allLen]
  (first | refine Gd.dec (fun h2 => ?_) (fun h2 => ?_) | refine Gd.intro (fun h2 => ?_) (fun h2 => ?_)) <;> simp (disch := first | omega | simp) [wrap_i64, le_most, lt_omega, le_omega, ne_omega, allLen, h2]
  rotate_left
  · simp [rlR, rlOk, h2, encLi]
  obtain ⟨l0, l1, lb⟩ := vL_bound h1
  obtain ⟨m0, m1, mb⟩ := vL_bound h2
  have hf := foot_PB mb m0 m1
  have hr := refl_PB hf lb.up13 l0 l1
  refine CallK.of (c18 l) (by first | exact .inl rfl | exact .inr (by simp)) (by simp) ?_
  simp (disch := first | omega | simp) [wrap_i64, le_most, lt_omega, le_omega, ne_omega, allLen]
  refine CallK.of (c18 m) (by first | exact .inl rfl | exact .inr (by simp)) (by simp) ?_
  simp (disch := first | omega | simp) [wrap_i64, le_most, lt_omega, le_omega, ne_omega, allLen]
  refine CallK.of (c19 m mb (by decide) (by decide) m0 m1) (by first | exact .inl rfl | exact .inr (by simp)) (by simp) ?_
  simp (disch := first | omega | simp) [wrap_i64, le_most, lt_omega, le_omega, ne_omega, allLen]
  refine CallK.of (c17 l (footP m) hf lb.up13 (by decide) (by decide) l0 l1) (by first | exact .inl rfl | exact .inr (by simp)) (by simp) ?_
  simp (disch := first | omega | simp) [wrap_i64, le_most, lt_omega, le_omega, ne_omega, allLen, encLi]
  refine CallK.of (c20 (reflP l (footP m)) (2 * l.dir - m.dir) hr (by decide) (by decide) (by omega) (by omega)) (by first | exact .inl rfl | exact .inr (by simp)) (by simp) ?_
  have hv := vec_PB (d := (2 * l.dir - m.dir) % 8 + 4) (by omega) (by omega)
  have hb := hv.dot hr
  have hl : low (ndot (vec ((2 * l.dir - m.dir) % 8 + 4)) (reflP l (footP m))) = ndot (vec ((2 * l.dir - m.dir) % 8 + 4)) (reflP l (footP m)) := low_nadd (hv.1.mul hr.1).k0
  have hn := nnum_low hl
  simp (disch := first | omega | simp) [wrap_i64, le_most, lt_omega, le_omega, ne_omega, allLen, encLi]
  refine CallK.of (c21 (lat (reflP l (footP m)) ((2 * l.dir - m.dir) % 8)).off (hb.i64 (by decide) (by decide)) hb.k0) (by first | exact .inl rfl | exact .inr (by simp)) (by simp) ?_
  have hn' : nok (lat (reflP l (footP m)) ((2 * l.dir - m.dir) % 8)).off = vN (lat (reflP l (footP m)) ((2 * l.dir - m.dir) % 8)).off := hn
  have hl' : low (lat (reflP l (footP m)) ((2 * l.dir - m.dir) % 8)).off = (lat (reflP l (footP m)) ((2 * l.dir - m.dir) % 8)).off := hl
  rw [hn']
  simp (disch := first | omega | simp) [wrap_i64, le_most, lt_omega, le_omega, ne_omega, allLen, encN]
  (first | refine Gd.dec (fun h3 => ?_) (fun h3 => ?_) | refine Gd.intro (fun h3 => ?_) (fun h3 => ?_)) <;> simp (disch := first | omega | simp) [wrap_i64, le_most, lt_omega, le_omega, ne_omega, allLen, h3]
  · simp [rlR, rlOk, h1, h2, h3, nnum, hn', hl', encLi]
  · simp [rlR, rlOk, h1, h2, h3, encLi]
theorem c3 (l m : Li) : PC E 3 [.agg (encLi l), .agg (encLi m)] [.i (.bool true)] := by
  refine PC_start hE Proofs.Tryd.func3 rfl rfl Proofs.Tryd.ntmps3 (by kernel_rfl) (by kernel_rfl) (by simp) ?_
  simp (disch := first | omega | simp) [wrap_i64, le_most, lt_omega, le_omega, ne_omega, allLen]
  refine CallK.of (c7 l) (by first | exact .inl rfl | exact .inr (by simp)) (by simp) ?_
  simp (disch := first | omega | simp) [wrap_i64, le_most, lt_omega, le_omega, ne_omega, allLen]
  refine CallK.of (c7 m) (by first | exact .inl rfl | exact .inr (by simp)) (by simp) ?_
  simp (disch := first | omega | simp) [wrap_i64, le_most, lt_omega, le_omega, ne_omega, allLen]
  refine CallK.of (c6 l m) (by first | exact .inl rfl | exact .inr (by simp)) (by simp) ?_
  simp (disch := first | omega | simp) [wrap_i64, le_most, lt_omega, le_omega, ne_omega, allLen]
  refine CallK.of (c7 l) (by first | exact .inl rfl | exact .inr (by simp)) (by simp) ?_
  simp (disch := first | omega | simp) [wrap_i64, le_most, lt_omega, le_omega, ne_omega, allLen]
  refine CallK.of (c7 m) (by first | exact .inl rfl | exact .inr (by simp)) (by simp) ?_
  simp (disch := first | omega | simp) [wrap_i64, le_most, lt_omega, le_omega, ne_omega, allLen]
  refine CallK.of (c8 l m) (by first | exact .inl rfl | exact .inr (by simp)) (by simp) ?_
  simp (disch := first | omega | simp) [wrap_i64, le_most, lt_omega, le_omega, ne_omega, allLen]
  refine CallK.of (c9 (rlR l m) (rlR l m)) (by first | exact .inl rfl | exact .inr (by simp)) (by simp) ?_
  simp (disch := first | omega | simp) [wrap_i64, le_most, lt_omega, le_omega, ne_omega, allLen]
end Go.Vai
