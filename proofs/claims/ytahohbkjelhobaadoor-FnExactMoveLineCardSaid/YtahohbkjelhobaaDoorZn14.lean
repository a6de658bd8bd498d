import Derived.Test.YtahohbkjelhobaaDoorZn13
set_option linter.unusedVariables false
set_option linter.unusedSimpArgs false
set_option maxHeartbeats 4000000
namespace Go.Vai
theorem c80 (m : Mo) (p : Pt) {K M : Nat} (h : PB K M p) (hK : K ≤ 50) (hM : 6 * M ≤ 4611686018427387904) (h0 : 0 ≤ m.turn) (h1 : m.turn ≤ 7) : PC E 80 [.agg (encMo m), .agg (encP p)] [.agg (encP (rot (flipP m.flip p) m.turn))] := by
  refine PC_start hE Proofs.Tryd.func80 rfl rfl Proofs.Tryd.ntmps80 (by kernel_rfl) (by kernel_rfl) (by simp) ?_
  have hf := h.flip m.flip
  have i4 := h.2.i64 (by omega) (by omega)
  have j4 := h.2.ne (by omega)
  obtain ⟨t, f, s⟩ := m
  simp only at h0 h1 hf
  cases f
  · simp (disch := first | omega | simp) [wrap_i64, le_most, lt_omega, le_omega, ne_omega, allLen, encMo]
    refine CallK.of (c86 p t h hK hM h0 h1) (by first | exact .inl rfl | exact .inr (by simp)) (by simp) ?_
    simp (disch := first | omega | simp) [wrap_i64, le_most, lt_omega, le_omega, ne_omega, allLen, encP, flipP]
  · simp (disch := first | omega | simp) [wrap_i64, le_most, lt_omega, le_omega, ne_omega, allLen, encMo, encP]
    refine CallK.of (c73 p.y i4 j4.1 j4.2) (by first | exact .inl rfl | exact .inr (by simp)) (by simp) ?_
    simp (disch := first | omega | simp) [wrap_i64, le_most, lt_omega, le_omega, ne_omega, allLen, encN]
    refine CallK.of (c86 (flipP true p) t hf hK hM h0 h1) (by first | exact .inl rfl | exact .inr (by simp)) (by simp) ?_
    simp (disch := first | omega | simp) [wrap_i64, le_most, lt_omega, le_omega, ne_omega, allLen, encP]
theorem c81 (m : Mo) : PC E 81 [.agg (encMo m)] [.agg (encP m.sh)] := by
  refine PC_start hE Proofs.Tryd.func81 rfl rfl Proofs.Tryd.ntmps81 (by kernel_rfl) (by kernel_rfl) (by simp) ?_
  simp (disch := first | omega | simp) [wrap_i64, le_most, lt_omega, le_omega, ne_omega, allLen, encMo, encP]
theorem PB.mov {K M M' : Nat} {p : Pt} {m : Mo} (h : PB K M p) (h' : PB (K + 1) M' m.sh) : PB (K + 1) (6 * M + M') (mov m p) := ((h.flip m.flip).rot m.turn).plus h'
theorem c69 (m : Mo) (p : Pt) {K M M' : Nat} (h : PB K M p) (h' : PB (K + 1) M' m.sh) (hK : K ≤ 50) (hM : 6 * M + M' ≤ 4611686018427387904) (h0 : 0 ≤ m.turn) (h1 : m.turn ≤ 7) :
    PC E 69 [.agg (encMo m), .agg (encP p)] [.agg (encP (mov m p))] := by
  refine PC_start hE Proofs.Tryd.func69 rfl rfl Proofs.Tryd.ntmps69 (by kernel_rfl) (by kernel_rfl) (by simp) ?_
  simp (disch := first | omega | simp) [wrap_i64, le_most, lt_omega, le_omega, ne_omega, allLen]
  refine CallK.of (c80 m p h hK (by omega) h0 h1) (by first | exact .inl rfl | exact .inr (by simp)) (by simp) ?_
  simp (disch := first | omega | simp) [wrap_i64, le_most, lt_omega, le_omega, ne_omega, allLen]
  refine CallK.of (c81 m) (by first | exact .inl rfl | exact .inr (by simp)) (by simp) ?_
  simp (disch := first | omega | simp) [wrap_i64, le_most, lt_omega, le_omega, ne_omega, allLen]
  refine CallK.of (c58 (rot (flipP m.flip p) m.turn) m.sh ((h.flip m.flip).rot m.turn) h' (by omega) (by omega)) (by first | exact .inl rfl | exact .inr (by simp)) (by simp) ?_
  simp (disch := first | omega | simp) [wrap_i64, le_most, lt_omega, le_omega, ne_omega, allLen, encP, mov]
theorem c82 (d : Int) : PC E 82 [.i (.int .i64 d)] [.i (.int .i64 (d % 16))] := by
  refine PC_start hE Proofs.Tryd.func82 rfl rfl Proofs.Tryd.ntmps82 (by kernel_rfl) (by kernel_rfl) (by simp) ?_
  simp (disch := first | omega | simp) [wrap_i64, le_most, lt_omega, le_omega, ne_omega, allLen, andI_15]
theorem c70 (m : Mo) (d : Int) (h0 : 0 ≤ m.turn) (h1 : m.turn ≤ 7) (d0 : -1000 ≤ d) (d1 : d ≤ 1000) : PC E 70 [.agg (encMo m), .i (.int .i64 d)] [.i (.int .i64 (dirM m d % 16))] := by
  refine PC_start hE Proofs.Tryd.func70 rfl rfl Proofs.Tryd.ntmps70 (by kernel_rfl) (by kernel_rfl) (by simp) ?_
  obtain ⟨t, f, s⟩ := m
  simp only at h0 h1
  cases f
  · simp (disch := first | omega | simp) [wrap_i64, le_most, lt_omega, le_omega, ne_omega, allLen, encMo]
    refine CallK.of (c82 (d + 2 * t)) (by first | exact .inl rfl | exact .inr (by simp)) (by simp) ?_
    simp (disch := first | omega | simp) [wrap_i64, le_most, lt_omega, le_omega, ne_omega, allLen, dirM]
  · simp (disch := first | omega | simp) [wrap_i64, le_most, lt_omega, le_omega, ne_omega, allLen, encMo]
    refine CallK.of (c82 (-d + 2 * t)) (by first | exact .inl rfl | exact .inr (by simp)) (by simp) ?_
    simp (disch := first | omega | simp) [wrap_i64, le_most, lt_omega, le_omega, ne_omega, allLen, dirM]
theorem tmod8' {d : Int} (h : 0 ≤ d) : d.tmod 8 = d % 8 := Int.tmod_eq_emod_of_nonneg h
theorem sh_PB {m : Mo} (h : vM m = true) : 0 ≤ m.turn ∧ m.turn ≤ 7 ∧ PB 10 134217728 m.sh := by
  simp only [vM, Bool.and_eq_true, inB_iff] at h
  exact ⟨h.1.1, h.1.2, vN_bound h.2.1, vN_bound h.2.2⟩
theorem PB.up14 {M : Nat} {p : Pt} (h : PB 10 M p) : PB 14 (16 * M) p := (h.up (K' := 14) (by decide)).mono (by simp; omega)
def mLine (m : Mo) (l : Li) : Li := lat (mov m (footP l)) (dirM m l.dir % 8)
theorem c40 (m : Mo) (l : Li) (hm : vM m = true) (hl : vL l = true) : PC E 40 [.agg (encMo m), .agg (encLi l)] [.agg (encLi (mLine m l))] := by
  refine PC_start hE Proofs.Tryd.func40 rfl rfl Proofs.Tryd.ntmps40 (by kernel_rfl) (by kernel_rfl) (by simp) ?_
  obtain ⟨m0, m1, ms⟩ := sh_PB hm
  obtain ⟨l0, l1, lb⟩ := vL_bound hl
  have hf := foot_PB lb l0 l1
  have hv := hf.mov (m := m) ms.up14
  have e1 : (dirM m l.dir % 16).tmod 8 = dirM m l.dir % 8 := by rw [tmod8' (by omega)]; omega
  simp (disch := first | omega | simp) [wrap_i64, le_most, lt_omega, le_omega, ne_omega, allLen]
  refine CallK.of (c26 l lb (by decide) (by decide) l0 l1) (by first | exact .inl rfl | exact .inr (by simp)) (by simp) ?_
  simp (disch := first | omega | simp) [wrap_i64, le_most, lt_omega, le_omega, ne_omega, allLen]
  refine CallK.of (c69 m (footP l) hf ms.up14 (by decide) (by decide) m0 m1) (by first | exact .inl rfl | exact .inr (by simp)) (by simp) ?_
  simp (disch := first | omega | simp) [wrap_i64, le_most, lt_omega, le_omega, ne_omega, allLen, encLi]
  refine CallK.of (c70 m l.dir m0 m1 (by omega) (by omega)) (by first | exact .inl rfl | exact .inr (by simp)) (by simp) ?_
  simp (disch := first | omega | simp) [wrap_i64, le_most, lt_omega, le_omega, ne_omega, allLen, e1]
  refine CallK.of (c24 (mov m (footP l)) (dirM m l.dir % 8) hv (by decide) (by decide) (by omega) (by omega)) (by first | exact .inl rfl | exact .inr (by simp)) (by simp) ?_
  simp (disch := first | omega | simp) [wrap_i64, le_most, lt_omega, le_omega, ne_omega, allLen, encLi, mLine]
theorem c39 (m : Mo) : PC E 39 [.agg (encMo m)] [.i (.bool (vM m))] := by
  refine PC_start hE Proofs.Tryd.func39 rfl rfl Proofs.Tryd.ntmps39 (by kernel_rfl) (by kernel_rfl) (by simp) ?_
  simp (disch := first | omega | simp) [wrap_i64, le_most, lt_omega, le_omega, ne_omega, allLen, encMo]
  refine CallK.of (c53 _ _ _) (by first | exact .inl rfl | exact .inr (by simp)) (by simp) ?_
  simp (disch := first | omega | simp) [wrap_i64, le_most, lt_omega, le_omega, ne_omega, allLen]
  generalize h1 : inB m.turn 0 7 = q1
  cases q1
  · simp (disch := first | omega | simp) [wrap_i64, le_most, lt_omega, le_omega, ne_omega, allLen]
    simp [vM, h1]
  simp (disch := first | omega | simp) [wrap_i64, le_most, lt_omega, le_omega, ne_omega, allLen]
  refine CallK.of (c27 m.sh.x) (by first | exact .inl rfl | exact .inr (by simp)) (by simp) ?_
  simp (disch := first | omega | simp) [wrap_i64, le_most, lt_omega, le_omega, ne_omega, allLen]
  generalize h2 : vN m.sh.x = q2
  cases q2
  · simp (disch := first | omega | simp) [wrap_i64, le_most, lt_omega, le_omega, ne_omega, allLen]
    simp [vM, h2]
  simp (disch := first | omega | simp) [wrap_i64, le_most, lt_omega, le_omega, ne_omega, allLen]
  refine CallK.of (c27 m.sh.y) (by first | exact .inl rfl | exact .inr (by simp)) (by simp) ?_
  simp (disch := first | omega | simp) [wrap_i64, le_most, lt_omega, le_omega, ne_omega, allLen]
  simp [vM, h1, h2]
theorem c36 (m : Mo) : PC E 36 [.agg (encMo m)] [.i (.bool (vM m))] := by
  refine PC_start hE Proofs.Tryd.func36 rfl rfl Proofs.Tryd.ntmps36 (by kernel_rfl) (by kernel_rfl) (by simp) ?_
  simp (disch := first | omega | simp) [wrap_i64, le_most, lt_omega, le_omega, ne_omega, allLen, encMo]
  refine CallK.of (c41 _ _ _) (by first | exact .inl rfl | exact .inr (by simp)) (by simp) ?_
  simp (disch := first | omega | simp) [wrap_i64, le_most, lt_omega, le_omega, ne_omega, allLen]
  generalize h1 : inB m.turn 0 7 = q1
  cases q1
  · simp (disch := first | omega | simp) [wrap_i64, le_most, lt_omega, le_omega, ne_omega, allLen]
    simp [vM, h1]
  simp (disch := first | omega | simp) [wrap_i64, le_most, lt_omega, le_omega, ne_omega, allLen]
  refine CallK.of (c42 m.sh.x) (by first | exact .inl rfl | exact .inr (by simp)) (by simp) ?_
  simp (disch := first | omega | simp) [wrap_i64, le_most, lt_omega, le_omega, ne_omega, allLen]
  generalize h2 : vN m.sh.x = q2
  cases q2
  · simp (disch := first | omega | simp) [wrap_i64, le_most, lt_omega, le_omega, ne_omega, allLen]
    simp [vM, h2]
  simp (disch := first | omega | simp) [wrap_i64, le_most, lt_omega, le_omega, ne_omega, allLen]
  refine CallK.of (c42 m.sh.y) (by first | exact .inl rfl | exact .inr (by simp)) (by simp) ?_
  simp (disch := first | omega | simp) [wrap_i64, le_most, lt_omega, le_omega, ne_omega, allLen]
  simp [vM, h1, h2]
theorem c38 (m : Mo) : PC E 38 [.agg (encMo m)] [.agg (encMo m)] := by
  refine PC_start hE Proofs.Tryd.func38 rfl rfl Proofs.Tryd.ntmps38 (by kernel_rfl) (by kernel_rfl) (by simp) ?_
  simp (disch := first | omega | simp) [wrap_i64, le_most, lt_omega, le_omega, ne_omega, allLen, encMo]
  refine CallK.of (c50 m.sh.x) (by first | exact .inl rfl | exact .inr (by simp)) (by simp) ?_
  simp (disch := first | omega | simp) [wrap_i64, le_most, lt_omega, le_omega, ne_omega, allLen]
  refine CallK.of (c50 m.sh.y) (by first | exact .inl rfl | exact .inr (by simp)) (by simp) ?_
  simp (disch := first | omega | simp) [wrap_i64, le_most, lt_omega, le_omega, ne_omega, allLen, encN]
theorem c68 (m : Mo) (d : Int) (h0 : 0 ≤ m.turn) (h1 : m.turn ≤ 7) (d0 : -1000 ≤ d) (d1 : d ≤ 1000) : PC E 68 [.agg (encMo m), .i (.int .i64 d)] [.i (.int .i64 (dirM m d % 16))] := by
  refine PC_start hE Proofs.Tryd.func68 rfl rfl Proofs.Tryd.ntmps68 (by kernel_rfl) (by kernel_rfl) (by simp) ?_
  obtain ⟨t, f, s⟩ := m
  simp only at h0 h1
  cases f
  · simp (disch := first | omega | simp) [wrap_i64, le_most, lt_omega, le_omega, ne_omega, allLen, encMo]
    refine CallK.of (c51 (d + 2 * t) (by omega) (by omega)) (by first | exact .inl rfl | exact .inr (by simp)) (by simp) ?_
    simp (disch := first | omega | simp) [wrap_i64, le_most, lt_omega, le_omega, ne_omega, allLen, dirM]
  · simp (disch := first | omega | simp) [wrap_i64, le_most, lt_omega, le_omega, ne_omega, allLen, encMo]
    refine CallK.of (c51 (-d + 2 * t) (by omega) (by omega)) (by first | exact .inl rfl | exact .inr (by simp)) (by simp) ?_
    simp (disch := first | omega | simp) [wrap_i64, le_most, lt_omega, le_omega, ne_omega, allLen, dirM]
theorem tdiv2' {a : Int} (h : 0 ≤ a) : a.tdiv 2 = a / 2 := by rw [Int.tdiv_eq_ediv_of_nonneg h]
theorem tmod2' {a : Int} (h : 0 ≤ a) : a.tmod 2 = a % 2 := Int.tmod_eq_emod_of_nonneg h
theorem c79 (t : Int) (f : Bool) (p : Pt) {K M : Nat} (h : PB K M p) (hK : K ≤ 50) (hM : 6 * M ≤ 4611686018427387904) (h0 : 0 ≤ t) (h1 : t ≤ 7) :
    PC E 79 [.i (.int .i64 t), .i (.bool f), .agg (encP p)] [.agg (encP (rot (flipP f p) t))] := by
  refine PC_start hE Proofs.Tryd.func79 rfl rfl Proofs.Tryd.ntmps79 (by kernel_rfl) (by kernel_rfl) (by simp) ?_
  have hf := h.flip f
  have i4 := h.2.i64 (by omega) (by omega)
  have j4 := h.2.ne (by omega)
  have t2 := tdiv2' h0
  obtain ⟨q, hq⟩ : ∃ q : Nat, (q : Int) = t / 2 := ⟨(t / 2).toNat, by omega⟩
  have hr : rot (flipP f p) t = if t % 2 = 1 then halfP (quartN q (flipP f p)) else quartN q (flipP f p) := by
    unfold rot
    have : (t / 2).toNat = q := by omega
    rw [this]
    split
    · exact quartN_half _ _
    · rfl
  rw [hr]
  cases f
  · simp (disch := first | omega | simp) [wrap_i64, le_most, lt_omega, le_omega, ne_omega, allLen, t2]
    refine XL.by hE (ι := { j : Nat // j ≤ q }) (fun j => ⟨[(0, .i (.int .i64 t)), (5, .ptr 5 0 0), (6, .ptr 6 0 0), (7, .i (.int .i64 ((q : Int) - j.1)))], [(5, ⟨6, [encP (quartN j.1 (flipP false p))]⟩), (6, ⟨6, [[.int .i64 0, .int .i64 0, .int .i64 0, .int .i64 0, .int .i64 0, .int .i64 0]]⟩)]⟩)
      (fun j => q - j.1) ⟨0, by omega⟩ ⟨by simp [hq], by simp [quartN, flipP], by simp⟩ (by kernel_rfl) ?_
    rintro ⟨j, hj⟩
    have hqj := hf.quartN j
    have hnj := hqj.2.ne (by omega)
    have hij := hqj.2.i64 (by omega) (by omega)
    by_cases hlt : j < q
    · have hlt' : 0 < (q : Int) - j := by omega
      simp (disch := first | omega | simp) [wrap_i64, le_most, lt_omega, le_omega, ne_omega, allLen, hlt', encP]
      refine CallK.of (c71 (quartN j (flipP false p)).y hij hnj.1 hnj.2) (by first | exact .inl rfl | exact .inr (by simp)) (by simp) ?_
      simp (disch := first | omega | simp) [wrap_i64, le_most, lt_omega, le_omega, ne_omega, allLen, encN]
      (refine ⟨⟨j + 1, by omega⟩, by (simp; try omega), ?_⟩; constructor <;> (simp (disch := first | omega | simp) [wrap_i64, le_most, lt_omega, le_omega, ne_omega, allLen, encP, quartN, quart, nneg]) <;> (try omega))
    · obtain rfl : j = q := by omega
      have hlt' : ¬ 0 < (j : Int) - j := by omega
      have n1 := hqj.1.sub hqj.2
      have n2 := hqj.1.add hqj.2
      simp (disch := first | omega | simp) [wrap_i64, le_most, lt_omega, le_omega, ne_omega, allLen, hlt', tmod2' h0]
      by_cases ho : t % 2 = 1
      · have hof : ¬ (t % 2 = 0) := by omega
        simp (disch := first | omega | simp) [wrap_i64, le_most, lt_omega, le_omega, ne_omega, allLen, ho, encP]
        refine CallK.of (c45 (quartN j (flipP false p)).x (quartN j (flipP false p)).y hqj.1 hqj.2 (by omega) (by omega)) (by first | exact .inl rfl | exact .inr (by simp)) (by simp) ?_
        simp (disch := first | omega | simp) [wrap_i64, le_most, lt_omega, le_omega, ne_omega, allLen]
        refine CallK.of (c49 (nsub (quartN j (flipP false p)).x (quartN j (flipP false p)).y) hlf n1 hlf_nb (by omega) (by omega) (by omega)) (by first | exact .inl rfl | exact .inr (by simp)) (by simp) ?_
        simp (disch := first | omega | simp) [wrap_i64, le_most, lt_omega, le_omega, ne_omega, allLen, encP]
        refine CallK.of (c48 (quartN j (flipP false p)).x (quartN j (flipP false p)).y hqj.1 hqj.2 (by omega) (by omega)) (by first | exact .inl rfl | exact .inr (by simp)) (by simp) ?_
        simp (disch := first | omega | simp) [wrap_i64, le_most, lt_omega, le_omega, ne_omega, allLen]
        refine CallK.of (c49 (nadd (quartN j (flipP false p)).x (quartN j (flipP false p)).y) hlf n2 hlf_nb (by omega) (by omega) (by omega)) (by first | exact .inl rfl | exact .inr (by simp)) (by simp) ?_
        simp (disch := first | omega | simp) [wrap_i64, le_most, lt_omega, le_omega, ne_omega, allLen, encN, halfP]
      · simp (disch := first | omega | simp) [wrap_i64, le_most, lt_omega, le_omega, ne_omega, allLen, ho, encP]
  · simp (disch := first | omega | simp) [wrap_i64, le_most, lt_omega, le_omega, ne_omega, allLen, encP]
    refine CallK.of (c71 p.y i4 j4.1 j4.2) (by first | exact .inl rfl | exact .inr (by simp)) (by simp) ?_
    simp (disch := first | omega | simp) [wrap_i64, le_most, lt_omega, le_omega, ne_omega, allLen, t2, encN]
    refine XL.by hE (ι := { j : Nat // j ≤ q }) (fun j => ⟨[(0, .i (.int .i64 t)), (5, .ptr 5 0 0), (6, .ptr 6 0 0), (7, .i (.int .i64 ((q : Int) - j.1)))], [(5, ⟨6, [encP (quartN j.1 (flipP true p))]⟩), (6, ⟨6, [[.int .i64 0, .int .i64 0, .int .i64 0, .int .i64 0, .int .i64 0, .int .i64 0]]⟩)]⟩)
      (fun j => q - j.1) ⟨0, by omega⟩ ⟨by simp [hq], by simp [quartN, flipP, encP], by simp⟩ (by kernel_rfl) ?_
    rintro ⟨j, hj⟩
    have hqj := hf.quartN j
    have hnj := hqj.2.ne (by omega)
    have hij := hqj.2.i64 (by omega) (by omega)
    by_cases hlt : j < q
    · have hlt' : 0 < (q : Int) - j := by omega
      simp (disch := first | omega | simp) [wrap_i64, le_most, lt_omega, le_omega, ne_omega, allLen, hlt', encP]
      refine CallK.of (c71 (quartN j (flipP true p)).y hij hnj.1 hnj.2) (by first | exact .inl rfl | exact .inr (by simp)) (by simp) ?_
      simp (disch := first | omega | simp) [wrap_i64, le_most, lt_omega, le_omega, ne_omega, allLen, encN]
      (refine ⟨⟨j + 1, by omega⟩, by (simp; try omega), ?_⟩; constructor <;> (simp (disch := first | omega | simp) [wrap_i64, le_most, lt_omega, le_omega, ne_omega, allLen, encP, quartN, quart, nneg]) <;> (try omega))
    · obtain rfl : j = q := by omega
      have hlt' : ¬ 0 < (j : Int) - j := by omega
      have n1 := hqj.1.sub hqj.2
      have n2 := hqj.1.add hqj.2
      simp (disch := first | omega | simp) [wrap_i64, le_most, lt_omega, le_omega, ne_omega, allLen, hlt', tmod2' h0]
      by_cases ho : t % 2 = 1
      · have hof : ¬ (t % 2 = 0) := by omega
        simp (disch := first | omega | simp) [wrap_i64, le_most, lt_omega, le_omega, ne_omega, allLen, ho, encP]
        refine CallK.of (c45 (quartN j (flipP true p)).x (quartN j (flipP true p)).y hqj.1 hqj.2 (by omega) (by omega)) (by first | exact .inl rfl | exact .inr (by simp)) (by simp) ?_
        simp (disch := first | omega | simp) [wrap_i64, le_most, lt_omega, le_omega, ne_omega, allLen]
        refine CallK.of (c49 (nsub (quartN j (flipP true p)).x (quartN j (flipP true p)).y) hlf n1 hlf_nb (by omega) (by omega) (by omega)) (by first | exact .inl rfl | exact .inr (by simp)) (by simp) ?_
        simp (disch := first | omega | simp) [wrap_i64, le_most, lt_omega, le_omega, ne_omega, allLen, encP]
        refine CallK.of (c48 (quartN j (flipP true p)).x (quartN j (flipP true p)).y hqj.1 hqj.2 (by omega) (by omega)) (by first | exact .inl rfl | exact .inr (by simp)) (by simp) ?_
        simp (disch := first | omega | simp) [wrap_i64, le_most, lt_omega, le_omega, ne_omega, allLen]
        refine CallK.of (c49 (nadd (quartN j (flipP true p)).x (quartN j (flipP true p)).y) hlf n2 hlf_nb (by omega) (by omega) (by omega)) (by first | exact .inl rfl | exact .inr (by simp)) (by simp) ?_
        simp (disch := first | omega | simp) [wrap_i64, le_most, lt_omega, le_omega, ne_omega, allLen, encN, halfP]
      · simp (disch := first | omega | simp) [wrap_i64, le_most, lt_omega, le_omega, ne_omega, allLen, ho, encP]
theorem c67 (m : Mo) (p : Pt) {K M M' : Nat} (h : PB K M p) (h' : PB (K + 1) M' m.sh) (hK : K ≤ 50) (hM : 6 * M + M' ≤ 4611686018427387904) (h0 : 0 ≤ m.turn) (h1 : m.turn ≤ 7) :
    PC E 67 [.agg (encMo m), .agg (encP p)] [.agg (encP (mov m p))] := by
  refine PC_start hE Proofs.Tryd.func67 rfl rfl Proofs.Tryd.ntmps67 (by kernel_rfl) (by kernel_rfl) (by simp) ?_
  simp (disch := first | omega | simp) [wrap_i64, le_most, lt_omega, le_omega, ne_omega, allLen, encMo]
  refine CallK.of (c79 m.turn m.flip p h hK (by omega) h0 h1) (by first | exact .inl rfl | exact .inr (by simp)) (by simp) ?_
  simp (disch := first | omega | simp) [wrap_i64, le_most, lt_omega, le_omega, ne_omega, allLen]
  refine CallK.of (c78 (rot (flipP m.flip p) m.turn) m.sh ((h.flip m.flip).rot m.turn) h' (by omega) (by omega)) (by first | exact .inl rfl | exact .inr (by simp)) (by simp) ?_
  simp (disch := first | omega | simp) [wrap_i64, le_most, lt_omega, le_omega, ne_omega, allLen, encP, mov]
theorem c37 (m : Mo) (l : Li) (hm : vM m = true) (hl : vL l = true) : PC E 37 [.agg (encMo m), .agg (encLi l)] [.agg (encLi (mLine m l))] := by
  refine PC_start hE Proofs.Tryd.func37 rfl rfl Proofs.Tryd.ntmps37 (by kernel_rfl) (by kernel_rfl) (by simp) ?_
  obtain ⟨m0, m1, ms⟩ := sh_PB hm
  obtain ⟨l0, l1, lb⟩ := vL_bound hl
  have hf := foot_PB lb l0 l1
  have hv := hf.mov (m := m) ms.up14
  have e1 : dirM m l.dir % 16 % 8 = dirM m l.dir % 8 := by omega
  simp (disch := first | omega | simp) [wrap_i64, le_most, lt_omega, le_omega, ne_omega, allLen]
  refine CallK.of (c19 l lb (by decide) (by decide) l0 l1) (by first | exact .inl rfl | exact .inr (by simp)) (by simp) ?_
  simp (disch := first | omega | simp) [wrap_i64, le_most, lt_omega, le_omega, ne_omega, allLen]
  refine CallK.of (c67 m (footP l) hf ms.up14 (by decide) (by decide) m0 m1) (by first | exact .inl rfl | exact .inr (by simp)) (by simp) ?_
  simp (disch := first | omega | simp) [wrap_i64, le_most, lt_omega, le_omega, ne_omega, allLen, encLi]
  refine CallK.of (c68 m l.dir m0 m1 (by omega) (by omega)) (by first | exact .inl rfl | exact .inr (by simp)) (by simp) ?_
  simp (disch := first | omega | simp) [wrap_i64, le_most, lt_omega, le_omega, ne_omega, allLen]
  refine CallK.of (c20 (mov m (footP l)) (dirM m l.dir % 16) hv (by decide) (by decide) (by omega) (by omega)) (by first | exact .inl rfl | exact .inr (by simp)) (by simp) ?_
  rw [e1]
  simp (disch := first | omega | simp) [wrap_i64, le_most, lt_omega, le_omega, ne_omega, allLen, encLi, mLine]
def mlOk (m : Mo) (l : Li) : Bool := vM m && vL l && vN (mLine m l).off
def mlR (m : Mo) (l : Li) : Li := if mlOk m l = true then mLine m l else ⟨0, ⟨0, 0, 0⟩⟩
theorem c15 (m : Mo) (l : Li) : PC E 15 [.agg (encMo m), .agg (encLi l)] [.agg (encLi (mlR m l)), .i (.bool (mlOk m l))] := by
  refine PC_start hE Proofs.Tryd.func15 rfl rfl Proofs.Tryd.ntmps15 (by kernel_rfl) (by kernel_rfl) (by simp) ?_
  simp (disch := first | omega | simp) [wrap_i64, le_most, lt_omega, le_omega, ne_omega, allLen]
  refine CallK.of (c39 m) (by first | exact .inl rfl | exact .inr (by simp)) (by simp) ?_
  simp (disch := first | omega | simp) [wrap_i64, le_most, lt_omega, le_omega, ne_omega, allLen]
  generalize h1 : vM m = q1
  cases q1
  · simp (disch := first | omega | simp) [wrap_i64, le_most, lt_omega, le_omega, ne_omega, allLen]
    simp [mlR, mlOk, h1, encLi]
  simp (disch := first | omega | simp) [wrap_i64, le_most, lt_omega, le_omega, ne_omega, allLen]
  refine CallK.of (c23 l) (by first | exact .inl rfl | exact .inr (by simp)) (by simp) ?_
  simp (disch := first | omega | simp) [wrap_i64, le_most, lt_omega, le_omega, ne_omega, allLen]
  (first | refine Gd.dec (fun h2 => ?_) (fun h2 => ?_) | refine Gd.intro (fun h2 => ?_) (fun h2 => ?_)) <;> simp (disch := first | omega | simp) [wrap_i64, le_most, lt_omega, le_omega, ne_omega, allLen, h2]
  rotate_left
  · simp [mlR, mlOk, h2, encLi]
  refine CallK.of (c40 m l h1 h2) (by first | exact .inl rfl | exact .inr (by simp)) (by simp) ?_
  simp (disch := first | omega | simp) [wrap_i64, le_most, lt_omega, le_omega, ne_omega, allLen, encLi]
  refine CallK.of (c27 (mLine m l).off) (by first | exact .inl rfl | exact .inr (by simp)) (by simp) ?_
  simp (disch := first | omega | simp) [wrap_i64, le_most, lt_omega, le_omega, ne_omega, allLen]
  (first | refine Gd.dec (fun h3 => ?_) (fun h3 => ?_) | refine Gd.intro (fun h3 => ?_) (fun h3 => ?_)) <;> simp (disch := first | omega | simp) [wrap_i64, le_most, lt_omega, le_omega, ne_omega, allLen, h3]
  · simp [mlR, mlOk, h1, h2, h3]
  · simp [mlR, mlOk, h1, h2, h3]
theorem c13 (m : Mo) (l : Li) : PC E 13 [.agg (encMo m), .agg (encLi l)] [.agg (encLi (mlR m l)), .i (.bool (mlOk m l))] := by
  refine PC_start hE Proofs.Tryd.func13 rfl rfl Proofs.Tryd.ntmps13 (by kernel_rfl) (by kernel_rfl) (by simp) ?_
  simp (disch := first | omega | simp) [wrap_i64, le_most, lt_omega, le_omega, ne_omega, allLen]
  refine CallK.of (c36 m) (by first | exact .inl rfl | exact .inr (by simp)) (by simp) ?_
  simp (disch := first | omega | simp) [wrap_i64, le_most, lt_omega, le_omega, ne_omega, allLen]
  generalize h1 : vM m = q1
  cases q1
  · simp (disch := first | omega | simp) [wrap_i64, le_most, lt_omega, le_omega, ne_omega, allLen]
    simp [mlR, mlOk, h1, encLi]
  simp (disch := first | omega | simp) [wrap_i64, le_most, lt_omega, le_omega, ne_omega, allLen]
  refine CallK.of (c16 l) (by first | exact .inl rfl | exact .inr (by simp)) (by simp) ?_
  simp (disch := first | omega | simp) [wrap_i64, le_most, lt_omega, le_omega, ne_omega, allLen]
  (first | refine Gd.dec (fun h2 => ?_) (fun h2 => ?_) | refine Gd.intro (fun h2 => ?_) (fun h2 => ?_)) <;> simp (disch := first | omega | simp) [wrap_i64, le_most, lt_omega, le_omega, ne_omega, allLen, h2]
  rotate_left
  · simp [mlR, mlOk, h2, encLi]
  obtain ⟨m0, m1, ms⟩ := sh_PB h1
  obtain ⟨l0, l1, lb⟩ := vL_bound h2
  have hf := foot_PB lb l0 l1
  have hv := hf.mov (m := m) ms.up14
  refine CallK.of (c38 m) (by first | exact .inl rfl | exact .inr (by simp)) (by simp) ?_
  simp (disch := first | omega | simp) [wrap_i64, le_most, lt_omega, le_omega, ne_omega, allLen]
  refine CallK.of (c18 l) (by first | exact .inl rfl | exact .inr (by simp)) (by simp) ?_
  simp (disch := first | omega | simp) [wrap_i64, le_most, lt_omega, le_omega, ne_omega, allLen]
  refine CallK.of (c37 m l h1 h2) (by first | exact .inl rfl | exact .inr (by simp)) (by simp) ?_
  have hw := vec_PB (d := dirM m l.dir % 8 + 4) (by omega) (by omega)
  have hb : NB 14 _ (mLine m l).off := hw.dot hv
  have hl' : low (mLine m l).off = (mLine m l).off := low_nadd (hw.1.mul hv.1).k0
  have hn' := nnum_low hl'
  simp (disch := first | omega | simp) [wrap_i64, le_most, lt_omega, le_omega, ne_omega, allLen, encLi]
  refine CallK.of (c21 (mLine m l).off (hb.i64 (by decide) (by decide)) hb.k0) (by first | exact .inl rfl | exact .inr (by simp)) (by simp) ?_
  rw [hn']
  simp (disch := first | omega | simp) [wrap_i64, le_most, lt_omega, le_omega, ne_omega, allLen, encN]
  (first | refine Gd.dec (fun h3 => ?_) (fun h3 => ?_) | refine Gd.intro (fun h3 => ?_) (fun h3 => ?_)) <;> simp (disch := first | omega | simp) [wrap_i64, le_most, lt_omega, le_omega, ne_omega, allLen, h3]
  · simp [mlR, mlOk, h1, h2, h3, nnum, hn', hl', encLi]
  · simp [mlR, mlOk, h1, h2, h3, encLi]
theorem c14 (m : Mo) : PC E 14 [.agg (encMo m)] [.agg (encMo m)] := by
  refine PC_start hE Proofs.Tryd.func14 rfl rfl Proofs.Tryd.ntmps14 (by kernel_rfl) (by kernel_rfl) (by simp) ?_
  simp (disch := first | omega | simp) [wrap_i64, le_most, lt_omega, le_omega, ne_omega, allLen, encMo]
  refine CallK.of (c22 m.sh.x) (by first | exact .inl rfl | exact .inr (by simp)) (by simp) ?_
  simp (disch := first | omega | simp) [wrap_i64, le_most, lt_omega, le_omega, ne_omega, allLen, encN]
  refine CallK.of (c22 m.sh.y) (by first | exact .inl rfl | exact .inr (by simp)) (by simp) ?_
  simp (disch := first | omega | simp) [wrap_i64, le_most, lt_omega, le_omega, ne_omega, allLen, encN]
theorem typedMo {n : Nat} {el : List IV} (h : Typed E n 43 el) : ∃ m : Mo, el = encMo m := by
  cases n with
  | zero => exact h.elim
  | succ n =>
    simp only [Typed, k43, fieldsT] at h
    obtain ⟨a0, b0, rfl, h0, a1, b1, rfl, h1, a2, b2, rfl, h2, a3, b3, rfl, h3, rfl⟩ := h
    obtain ⟨x, rfl, -⟩ := typedZ h0
    obtain ⟨y, rfl, -⟩ := typedNu h2
    obtain ⟨z, rfl, -⟩ := typedNu h3
    cases n with
    | zero => exact h1.elim
    | succ n =>
      simp only [Typed, k4] at h1
      obtain ⟨b, rfl⟩ := h1
      exact ⟨⟨x, b, ⟨y, z⟩⟩, rfl⟩
theorem c5 (m : Mo) (l : Li) : PC E 5 [.agg (encMo m), .agg (encLi l)] [.i (.bool true)] := by
  refine PC_start hE Proofs.Tryd.func5 rfl rfl Proofs.Tryd.ntmps5 (by kernel_rfl) (by kernel_rfl) (by simp) ?_
  simp (disch := first | omega | simp) [wrap_i64, le_most, lt_omega, le_omega, ne_omega, allLen]
  refine CallK.of (c14 m) (by first | exact .inl rfl | exact .inr (by simp)) (by simp) ?_
  simp (disch := first | omega | simp) [wrap_i64, le_most, lt_omega, le_omega, ne_omega, allLen]
  refine CallK.of (c7 l) (by first | exact .inl rfl | exact .inr (by simp)) (by simp) ?_
  simp (disch := first | omega | simp) [wrap_i64, le_most, lt_omega, le_omega, ne_omega, allLen]
  refine CallK.of (c13 m l) (by first | exact .inl rfl | exact .inr (by simp)) (by simp) ?_
  simp (disch := first | omega | simp) [wrap_i64, le_most, lt_omega, le_omega, ne_omega, allLen]
  refine CallK.of (c14 m) (by first | exact .inl rfl | exact .inr (by simp)) (by simp) ?_
  simp (disch := first | omega | simp) [wrap_i64, le_most, lt_omega, le_omega, ne_omega, allLen]
  refine CallK.of (c7 l) (by first | exact .inl rfl | exact .inr (by simp)) (by simp) ?_
  simp (disch := first | omega | simp) [wrap_i64, le_most, lt_omega, le_omega, ne_omega, allLen]
  refine CallK.of (c15 m l) (by first | exact .inl rfl | exact .inr (by simp)) (by simp) ?_
  simp (disch := first | omega | simp) [wrap_i64, le_most, lt_omega, le_omega, ne_omega, allLen]
  refine CallK.of (c9 (mlR m l) (mlR m l)) (by first | exact .inl rfl | exact .inr (by simp)) (by simp) ?_
  simp (disch := first | omega | simp) [wrap_i64, le_most, lt_omega, le_omega, ne_omega, allLen]
end Go.Vai
