/- Merged texts of this claim: Zx7, Zx8. -/
import Derived.Test.YtkljeldcjnpinaaYb33
/- The violated rules. -/
set_option linter.unusedVariables false
set_option linter.unusedSimpArgs false
set_option maxHeartbeats 4000000
namespace Go.Vai
def violT (rs : List Ru) (vs : List Int) (k : Nat) : List Int := ((List.range k).filter fun i => decide (hol (ruAt rs (i : Nat)) vs < 0)).map fun i : Nat => (i : Int)
def violV (rs : List Ru) (vs : List Int) : List Int := if (rulesB rs vs.length && valsB vs) = true then violT rs vs rs.length else []
def codeV (rs : List Ru) (vs : List Int) : Int := if (rulesB rs vs.length && valsB vs) = true then 0 else 1
theorem ruAt_get {rs : List Ru} {k : Nat} (h : k < rs.length) : ruAt rs k = rs[k] := by simp [ruAt, h]
theorem violT_step {rs : List Ru} {vs : List Int} {k : Nat} (h : k < rs.length) : violT rs vs (k + 1) = violT rs vs k ++ if hol rs[k] vs < 0 then [(k : Int)] else [] := by
  simp only [violT, List.range_succ, List.filter_append, List.map_append, List.filter_cons, List.filter_nil, ruAt_get h]
  by_cases hh : hol rs[k] vs < 0 <;> simp [hh]
theorem violT_len (rs : List Ru) (vs : List Int) (k : Nat) : (violT rs vs k).length ≤ k := by
  simp only [violT, List.length_map]
  exact Nat.le_trans (List.length_filter_le _ _) (by simp)
theorem rulesB_get {rs : List Ru} {n : Int} (h : rulesB rs n = true) {k : Nat} (hk : k < rs.length) : rv rs[k] n = true := by
  simp only [rulesB, Bool.and_eq_true, List.all_eq_true] at h
  exact h.2.2 _ (List.getElem_mem hk)
theorem rulesB_len {rs : List Ru} {n : Int} (h : rulesB rs n = true) : (rs.length : Int) ≤ 3000 := by
  simp only [rulesB, Bool.and_eq_true, decide_eq_true_eq] at h
  exact h.1
theorem rv_small {r : Ru} {n : Int} (h : rv r n = true) : (r.vars.length : Int) ≤ 1048576 := by
  simp only [rv, Bool.and_eq_true, decide_eq_true_eq] at h
  have := h.1; simp [inB] at this; omega
theorem c30 (rs : List Ru) (vs : List Int) (h : (rs.length : Int) ≤ 1048576) (hr : (rsum rs : Int) ≤ 1048576) (hv : (vs.length : Int) ≤ 1048576) :
    PC E 30 [.i (.sl (rs.map encR)), .i (.sl (vs.map encI))] [.own 1 ((violV rs vs).map encI), .i (.int .i64 (codeV rs vs))] := by
  refine PC_start hE Proofs.Try.func30 rfl rfl Proofs.Try.ntmps30 (by kernel_rfl) (by kernel_rfl) (by simp) ?_
  simp (maxSteps := 1000000) (disch := first | (exact DrawOk.mk (by decide +kernel)) | omega | simp) [wrap_i64, le_most, lt_omega, le_omega, ne_omega, allLen]
  refine CallK.of (c68 _) (by first | exact .inl rfl | exact .inr (by simp)) (by simp) ?_
  simp (maxSteps := 1000000) (disch := first | (exact DrawOk.mk (by decide +kernel)) | omega | simp) [wrap_i64, le_most, lt_omega, le_omega, ne_omega, allLen]
  refine CallK.of (c74 rs _ h hr) (by first | exact .inl rfl | exact .inr (by simp)) (by simp) ?_
  rw [← rulesB]
  unfold violV codeV
  cases hq : rulesB rs vs.length
  · simp (maxSteps := 1000000) (disch := first | (exact DrawOk.mk (by decide +kernel)) | omega | simp) [wrap_i64, le_most, lt_omega, le_omega, ne_omega, allLen]
  · simp (maxSteps := 1000000) (disch := first | (exact DrawOk.mk (by decide +kernel)) | omega | simp) [wrap_i64, le_most, lt_omega, le_omega, ne_omega, allLen]
    refine CallK.of (c69 vs hv) (by first | exact .inl rfl | exact .inr (by simp)) (by simp) ?_
    cases hw : valsB vs
    · simp (maxSteps := 1000000) (disch := first | (exact DrawOk.mk (by decide +kernel)) | omega | simp) [wrap_i64, le_most, lt_omega, le_omega, ne_omega, allLen]
    · have h3 := rulesB_len hq
      simp (maxSteps := 1000000) (disch := first | (exact DrawOk.mk (by decide +kernel)) | omega | simp) [wrap_i64, le_most, lt_omega, le_omega, ne_omega, allLen]
      refine XL.by hE (ι := { k : Nat // k ≤ rs.length }) (fun k => ⟨[(1, .i (.sl (vs.map encI))), (6, .own 33 0 (violT rs vs k.1).length), (19, .i (.sl (rs.map encR))), (20, .i (.int .i64 rs.length)), (21, .i (.int .i64 k.1))], [(33, ⟨1, (violT rs vs k.1).map encI⟩)]⟩)
        (fun k => rs.length - k.1) ⟨0, Nat.zero_le _⟩ ⟨by simp [violT], by simp [violT], by simp⟩ (by kernel_rfl) ?_
      rintro ⟨k, hk⟩
      by_cases hlt : k < rs.length
      · have hrv := rulesB_get hq hlt
        have hf := rfit_of hrv hw
        have hst := violT_step (vs := vs) hlt
        have hl := violT_len rs vs k
        have hh : ihol rs[k].kind (terms rs[k] vs) = hol rs[k] vs := rfl
        simp (maxSteps := 1000000) (disch := first | (exact DrawOk.mk (by decide +kernel)) | omega | simp) [wrap_i64, le_most, lt_omega, le_omega, ne_omega, allLen, hlt]
        refine CallK.of (c75 rs[k] vs hf (rv_small hrv)) (by first | exact .inl rfl | exact .inr (by simp)) (by simp) ?_
        rw [hh]
        simp (maxSteps := 1000000) (disch := first | (exact DrawOk.mk (by decide +kernel)) | omega | simp) [wrap_i64, le_most, lt_omega, le_omega, ne_omega, allLen]
        (first | refine Gd.dec (fun h4 => ?_) (fun h4 => ?_) | refine Gd.intro (fun h4 => ?_) (fun h4 => ?_)) <;> simp (maxSteps := 1000000) (disch := first | (exact DrawOk.mk (by decide +kernel)) | omega | simp) [wrap_i64, le_most, lt_omega, le_omega, ne_omega, allLen, h4]
        · rw [if_pos h4] at hst
          (refine ⟨⟨k + 1, by omega⟩, by (simp; try omega), ?_⟩; constructor <;> (simp (maxSteps := 1000000) (disch := first | (exact DrawOk.mk (by decide +kernel)) | omega | simp) [wrap_i64, le_most, lt_omega, le_omega, ne_omega, allLen, hst, encI]) <;> (try omega))
        · rw [if_neg h4, List.append_nil] at hst
          (refine ⟨⟨k + 1, by omega⟩, by (simp; try omega), ?_⟩; constructor <;> (simp (maxSteps := 1000000) (disch := first | (exact DrawOk.mk (by decide +kernel)) | omega | simp) [wrap_i64, le_most, lt_omega, le_omega, ne_omega, allLen, hst]) <;> (try omega))
      · obtain rfl : k = rs.length := by omega
        have hl := violT_len rs vs rs.length
        simp (maxSteps := 1000000) (disch := first | (exact DrawOk.mk (by decide +kernel)) | omega | simp) [wrap_i64, le_most, lt_omega, le_omega, ne_omega, allLen]
theorem c28 (rs : List Ru) (vs : List Int) (h : (rs.length : Int) ≤ 1048576) (hr : (rsum rs : Int) ≤ 1048576) (hv : (vs.length : Int) ≤ 1048576) :
    PC E 28 [.i (.sl (rs.map encR)), .i (.sl (vs.map encI))] [.own 1 ((violV rs vs).map encI), .i (.int .i64 (codeV rs vs))] := by
  refine PC_start hE Proofs.Try.func28 rfl rfl Proofs.Try.ntmps28 (by kernel_rfl) (by kernel_rfl) (by simp) ?_
  simp (maxSteps := 1000000) (disch := first | (exact DrawOk.mk (by decide +kernel)) | omega | simp) [wrap_i64, le_most, lt_omega, le_omega, ne_omega, allLen]
  refine CallK.of (c72 rs _ h hr) (by first | exact .inl rfl | exact .inr (by simp)) (by simp) ?_
  rw [← rulesB]
  unfold violV codeV
  cases hq : rulesB rs vs.length
  · simp (maxSteps := 1000000) (disch := first | (exact DrawOk.mk (by decide +kernel)) | omega | simp) [wrap_i64, le_most, lt_omega, le_omega, ne_omega, allLen]
  · simp (maxSteps := 1000000) (disch := first | (exact DrawOk.mk (by decide +kernel)) | omega | simp) [wrap_i64, le_most, lt_omega, le_omega, ne_omega, allLen]
    refine CallK.of (c64 vs hv) (by first | exact .inl rfl | exact .inr (by simp)) (by simp) ?_
    cases hw : valsB vs
    · simp (maxSteps := 1000000) (disch := first | (exact DrawOk.mk (by decide +kernel)) | omega | simp) [wrap_i64, le_most, lt_omega, le_omega, ne_omega, allLen]
    · have h3 := rulesB_len hq
      simp (maxSteps := 1000000) (disch := first | (exact DrawOk.mk (by decide +kernel)) | omega | simp) [wrap_i64, le_most, lt_omega, le_omega, ne_omega, allLen]
      refine XL.by hE (ι := { k : Nat // k ≤ rs.length }) (fun k => ⟨[(1, .i (.sl (vs.map encI))), (6, .own 34 0 (violT rs vs k.1).length), (0, .i (.sl (rs.map encR))), (7, .i (.int .i64 k.1))], [(34, ⟨1, (violT rs vs k.1).map encI⟩)]⟩)
        (fun k => rs.length - k.1) ⟨0, Nat.zero_le _⟩ ⟨by simp [violT], by simp [violT], by simp⟩ (by kernel_rfl) ?_
      rintro ⟨k, hk⟩
      by_cases hlt : k < rs.length
      · have hrv := rulesB_get hq hlt
        have hf := rfit_of hrv hw
        have hst := violT_step (vs := vs) hlt
        have hl := violT_len rs vs k
        simp (maxSteps := 1000000) (disch := first | (exact DrawOk.mk (by decide +kernel)) | omega | simp) [wrap_i64, le_most, lt_omega, le_omega, ne_omega, allLen, hlt]
        refine CallK.of (c73 rs[k] vs hf (rv_small hrv)) (by first | exact .inl rfl | exact .inr (by simp)) (by simp) ?_
        rw [shol_hol hrv hf]
        simp (maxSteps := 1000000) (disch := first | (exact DrawOk.mk (by decide +kernel)) | omega | simp) [wrap_i64, le_most, lt_omega, le_omega, ne_omega, allLen]
        (first | refine Gd.dec (fun h4 => ?_) (fun h4 => ?_) | refine Gd.intro (fun h4 => ?_) (fun h4 => ?_)) <;> simp (maxSteps := 1000000) (disch := first | (exact DrawOk.mk (by decide +kernel)) | omega | simp) [wrap_i64, le_most, lt_omega, le_omega, ne_omega, allLen, h4]
        · rw [if_pos h4] at hst
          (refine ⟨⟨k + 1, by omega⟩, by (simp; try omega), ?_⟩; constructor <;> (simp (maxSteps := 1000000) (disch := first | (exact DrawOk.mk (by decide +kernel)) | omega | simp) [wrap_i64, le_most, lt_omega, le_omega, ne_omega, allLen, hst, encI]) <;> (try omega))
        · rw [if_neg h4, List.append_nil] at hst
          (refine ⟨⟨k + 1, by omega⟩, by (simp; try omega), ?_⟩; constructor <;> (simp (maxSteps := 1000000) (disch := first | (exact DrawOk.mk (by decide +kernel)) | omega | simp) [wrap_i64, le_most, lt_omega, le_omega, ne_omega, allLen, hst]) <;> (try omega))
      · obtain rfl : k = rs.length := by omega
        have hl := violT_len rs vs rs.length
        simp (maxSteps := 1000000) (disch := first | (exact DrawOk.mk (by decide +kernel)) | omega | simp) [wrap_i64, le_most, lt_omega, le_omega, ne_omega, allLen]
theorem c34 (n : Nat) (k : Int) (h0 : 0 ≤ k) (h1 : k + n ≤ 1099511627776) : PC E 34 [.i (.sl ((marks k n).map encI)), .i (.int .i64 k)] [.i (.int .i64 (k + n))] := by
  refine PC_start hE Proofs.Try.func34 rfl rfl Proofs.Try.ntmps34 (by kernel_rfl) (by kernel_rfl) (by simp) ?_
  simp (maxSteps := 1000000) (disch := first | (exact DrawOk.mk (by decide +kernel)) | omega | simp) [wrap_i64, le_most, lt_omega, le_omega, ne_omega, allLen]
  refine XL.by hE (ι := { q : Nat // q ≤ n }) (fun q => ⟨[(0, .i (.sl ((marks k n).map encI))), (1, .i (.int .i64 (k + q.1))), (5, .i (.int .i64 q.1))], []⟩)
    (fun q => n - q.1) ⟨0, Nat.zero_le _⟩ ⟨by simp, by simp, by simp⟩ (by kernel_rfl) ?_
  rintro ⟨q, hq⟩
  by_cases hlt : q < n
  · have hg : (marks k n)[q]? = some (k + q) := by simp [marks, hlt]
    simp (maxSteps := 1000000) (disch := first | (exact DrawOk.mk (by decide +kernel)) | omega | simp) [wrap_i64, le_most, lt_omega, le_omega, ne_omega, allLen, hlt, encI, hg]
    (refine ⟨⟨q + 1, by omega⟩, by (simp; try omega), ?_⟩; constructor <;> (simp (maxSteps := 1000000) (disch := first | (exact DrawOk.mk (by decide +kernel)) | omega | simp) [wrap_i64, le_most, lt_omega, le_omega, ne_omega, allLen]) <;> (try omega))
  · obtain rfl : q = n := by omega
    simp (maxSteps := 1000000) (disch := first | (exact DrawOk.mk (by decide +kernel)) | omega | simp) [wrap_i64, le_most, lt_omega, le_omega, ne_omega, allLen, hlt]
end Go.Vai
/- The law of ViolatedRules. -/
set_option linter.unusedVariables false
set_option linter.unusedSimpArgs false
set_option maxHeartbeats 4000000
set_option maxRecDepth 20000
namespace Go.Vai
open Go.RowKit (Below)
theorem c6 (ls : List Ru) (vs : List Int) (h : ls.length ≤ maxLen) (hf : ∀ x ∈ ls, x.fine) (hv : vs.length ≤ maxLen) : PC E 6 [.i (.sl (ls.map encR)), .i (.sl (vs.map encI))] [.i (.bool true)] := by
  refine law_start hE Proofs.Try.func6 rfl rfl Proofs.Try.ntmps6 (by kernel_rfl) (by simp) fun F w a hx hf0 => ?_
  -- is it too long?
  by_cases hbig : (vs.length : Int) ≤ 1048576 ∧ (ls.length : Int) + rsum ls ≤ 1048576
  rotate_left
  · refine segEnd hE hx (Back.refl _ _) hf0 (by kernel_rfl) ?_
    simp (maxSteps := 1000000) (disch := first | (exact DrawOk.mk (by decide +kernel)) | omega | simp) [wrap_i64, le_most, lt_omega, le_omega, ne_omega, allLen]
    (first | refine Gd.dec (fun h1 => ?_) (fun h1 => ?_) | refine Gd.intro (fun h1 => ?_) (fun h1 => ?_)) <;> simp (maxSteps := 1000000) (disch := first | (exact DrawOk.mk (by decide +kernel)) | omega | simp) [wrap_i64, le_most, lt_omega, le_omega, ne_omega, allLen, h1]
    refine CallK.of (c27 ls 1048576 (by omega) (by omega) h hf) (by first | exact .inl rfl | exact .inr (by simp)) (by simp) ?_
    simp (maxSteps := 1000000) (disch := first | (exact DrawOk.mk (by decide +kernel)) | omega | simp) [wrap_i64, le_most, lt_omega, le_omega, ne_omega, allLen]
  obtain ⟨g3, g4⟩ := hbig
  have g1 : (ls.length : Int) ≤ 1048576 := by omega
  have g2 : (rsum ls : Int) ≤ 1048576 := by omega
  have hvl := violT_len ls vs ls.length
  have hvl2 : (violV ls vs).length ≤ ls.length := by unfold violV; split <;> first | omega | simp
  generalize hV : violV ls vs = V at *
  generalize hC : codeV ls vs = C at *
  refine seg hE 5 ⟨[(0, .i (.sl (ls.map encR))), (1, .i (.sl (vs.map encI))), (6, .own 30 0 V.length), (7, .i (.int .i64 C))], [(30, ⟨1, V.map encI⟩)]⟩ hx (Back.refl _ _) hf0 (by kernel_rfl) (by kernel_rfl) ?_ fun a w1 hf1 => ?_
  · have e0 : ¬ ((1048576 : Int) < vs.length) := by omega
    simp (maxSteps := 1000000) (disch := first | (exact DrawOk.mk (by decide +kernel)) | omega | simp) [wrap_i64, le_most, lt_omega, le_omega, ne_omega, allLen, cutN, e0]
    refine CallK.of (c27 ls 1048576 (by omega) (by omega) h hf) (by first | exact .inl rfl | exact .inr (by simp)) (by simp) ?_
    have e : ¬ ((1048576 : Int) - ls.length - rsum ls < 0) := by omega
    simp (maxSteps := 1000000) (disch := first | (exact DrawOk.mk (by decide +kernel)) | omega | simp) [wrap_i64, le_most, lt_omega, le_omega, ne_omega, allLen, e]
    refine CallK.of (c29 ls g1 g2) (by first | exact .inl rfl | exact .inr (by simp)) (by simp) ?_
    simp (maxSteps := 1000000) (disch := first | (exact DrawOk.mk (by decide +kernel)) | omega | simp) [wrap_i64, le_most, lt_omega, le_omega, ne_omega, allLen]
    refine CallK.of (c23 vs g3) (by first | exact .inl rfl | exact .inr (by simp)) (by simp) ?_
    simp (maxSteps := 1000000) (disch := first | (exact DrawOk.mk (by decide +kernel)) | omega | simp) [wrap_i64, le_most, lt_omega, le_omega, ne_omega, allLen]
    refine CallK.of (c28 ls vs g1 g2 g3) (by first | exact .inl rfl | exact .inr (by simp)) (by simp) ?_
    rw [hV, hC]
    simp (maxSteps := 1000000) (disch := first | (exact DrawOk.mk (by decide +kernel)) | omega | simp) [wrap_i64, le_most, lt_omega, le_omega, ne_omega, allLen]
    exact ⟨by simp (maxSteps := 1000000) (disch := first | (exact DrawOk.mk (by decide +kernel)) | omega | simp) [wrap_i64, le_most, lt_omega, le_omega, ne_omega, allLen], by simp (maxSteps := 1000000) (disch := first | (exact DrawOk.mk (by decide +kernel)) | omega | simp) [wrap_i64, le_most, lt_omega, le_omega, ne_omega, allLen], by simp (maxSteps := 1000000) (disch := first | (exact DrawOk.mk (by decide +kernel)) | omega | simp) [wrap_i64, le_most, lt_omega, le_omega, ne_omega, allLen]⟩
  simp only [restN]
  refine wp_seq (region_hand hE 1 (S1 := ⟨[(33, .i (.sl (ls.map encR))), (0, .i (.sl (ls.map encR))), (1, .i (.sl (vs.map encI))), (6, .own 30 0 V.length), (7, .i (.int .i64 C))], [(30, ⟨1, V.map encI⟩)]⟩) hx hf1 (by kernel_rfl) rfl rfl ?_ fun a w2 hf2 => ?_)
  · simp (maxSteps := 1000000) (disch := first | (exact DrawOk.mk (by decide +kernel)) | omega | simp) [wrap_i64, le_most, lt_omega, le_omega, ne_omega, allLen]
    exact ⟨by simp (maxSteps := 1000000) (disch := first | (exact DrawOk.mk (by decide +kernel)) | omega | simp) [wrap_i64, le_most, lt_omega, le_omega, ne_omega, allLen], by simp (maxSteps := 1000000) (disch := first | (exact DrawOk.mk (by decide +kernel)) | omega | simp) [wrap_i64, le_most, lt_omega, le_omega, ne_omega, allLen], by simp (maxSteps := 1000000) (disch := first | (exact DrawOk.mk (by decide +kernel)) | omega | simp) [wrap_i64, le_most, lt_omega, le_omega, ne_omega, allLen]⟩
  refine Oper.wp_mono ?_ (deepCall_wp hx hf2 (d := 34) rfl (by decide) (vs := [.i (.sl (ls.map encR))]) (by simp) (by simp) rfl (PDRules ls g1 g2) [(0, .i (.sl (ls.map encR))), (1, .i (.sl (vs.map encI)))] (by simp [fixB]) _)
  rintro a' w' ⟨z1, F1, R1, v1, us, hz1, hx1, hb1, h01, hFR1, hG1, hm1, ht1, hps, hf3⟩
  have hp0 := hps (0, .i (.sl (ls.map encR))) (by simp)
  have hp1 := hps (1, .i (.sl (vs.map encI))) (by simp)
  simp only at hp0 hp1
  subst hz1
  simp only [pinT, List.map_cons, List.map_nil, List.cons_append, List.nil_append] at hf3
  generalize us 0 = u0 at *
  generalize us 1 = u1 at *
  clear hps hf2 hf1 hf0
  refine ⟨z1, _, _, ⟨[(0, .pin u0 (.i (.sl (ls.map encR)))), (1, .pin u1 (.i (.sl (vs.map encI)))), (8, .pin v1 (.i (.sl (ls.map encR)))), (6, .own 30 0 V.length), (7, .i (.int .i64 C))], [(30, ⟨1, V.map encI⟩)]⟩, hx1, hf3, ?_, fun a w3 hf4 => ?_⟩
  · simp (maxSteps := 1000000) (disch := first | (exact DrawOk.mk (by decide +kernel)) | omega | simp) [wrap_i64, le_most, lt_omega, le_omega, ne_omega, allLen]
    exact ⟨by simp (maxSteps := 1000000) (disch := first | (exact DrawOk.mk (by decide +kernel)) | omega | simp) [wrap_i64, le_most, lt_omega, le_omega, ne_omega, allLen], by simp (maxSteps := 1000000) (disch := first | (exact DrawOk.mk (by decide +kernel)) | omega | simp) [wrap_i64, le_most, lt_omega, le_omega, ne_omega, allLen], by simp (maxSteps := 1000000) (disch := first | (exact DrawOk.mk (by decide +kernel)) | omega | simp) [wrap_i64, le_most, lt_omega, le_omega, ne_omega, allLen]⟩
  show Code.wp _ _ _ _ _
  refine seg hE 5 ⟨[(0, .pin u0 (.i (.sl (ls.map encR)))), (1, .pin u1 (.i (.sl (vs.map encI)))), (8, .pin v1 (.i (.sl (ls.map encR)))), (6, .own 30 0 V.length), (7, .i (.int .i64 C)), (9, .own 36 0 vs.length), (10, .own 40 0 V.length), (11, .i (.int .i64 C)), (12, .i (.int .i64 1))],
    [(30, ⟨1, V.map encI⟩), (36, ⟨1, vs.map encI⟩), (40, ⟨1, V.map encI⟩)]⟩ hx1 hb1 hf4 (by kernel_rfl) (by kernel_rfl) ?_ fun a w5 hf5 => ?_
  · simp (maxSteps := 1000000) (disch := first | (exact DrawOk.mk (by decide +kernel)) | omega | simp) [wrap_i64, le_most, lt_omega, le_omega, ne_omega, allLen, cutN]
    refine CallK.of (c23 vs g3) (by first | exact .inl rfl | exact .inr (by simp)) (by simp) ?_
    simp (maxSteps := 1000000) (disch := first | (exact DrawOk.mk (by decide +kernel)) | omega | simp) [wrap_i64, le_most, lt_omega, le_omega, ne_omega, allLen]
    refine CallK.of (c30 ls vs g1 g2 g3) (by first | exact .inl rfl | exact .inr (by simp)) (by simp) ?_
    rw [hV, hC]
    simp (maxSteps := 1000000) (disch := first | (exact DrawOk.mk (by decide +kernel)) | omega | simp) [wrap_i64, le_most, lt_omega, le_omega, ne_omega, allLen]
    refine CallK.of (c26 V V (by omega) (by omega)) (by first | exact .inl rfl | exact .inr (by simp)) (by simp) ?_
    simp (maxSteps := 1000000) (disch := first | (exact DrawOk.mk (by decide +kernel)) | omega | simp) [wrap_i64, le_most, lt_omega, le_omega, ne_omega, allLen]
    refine CallK.of (c29 ls g1 g2) (by first | exact .inl rfl | exact .inr (by simp)) (by simp) ?_
    simp (maxSteps := 1000000) (disch := first | (exact DrawOk.mk (by decide +kernel)) | omega | simp) [wrap_i64, le_most, lt_omega, le_omega, ne_omega, allLen]
    refine CallK.of (c31 ls ls g1 g1 g2 g2) (by first | exact .inl rfl | exact .inr (by simp)) (by simp) ?_
    simp (maxSteps := 1000000) (disch := first | (exact DrawOk.mk (by decide +kernel)) | omega | simp) [wrap_i64, le_most, lt_omega, le_omega, ne_omega, allLen]
    refine CallK.of (c23 vs g3) (by first | exact .inl rfl | exact .inr (by simp)) (by simp) ?_
    simp (maxSteps := 1000000) (disch := first | (exact DrawOk.mk (by decide +kernel)) | omega | simp) [wrap_i64, le_most, lt_omega, le_omega, ne_omega, allLen]
    refine CallK.of (c26 vs vs g3 g3) (by first | exact .inl rfl | exact .inr (by simp)) (by simp) ?_
    simp (maxSteps := 1000000) (disch := first | (exact DrawOk.mk (by decide +kernel)) | omega | simp) [wrap_i64, le_most, lt_omega, le_omega, ne_omega, allLen]
    exact ⟨by simp (maxSteps := 1000000) (disch := first | (exact DrawOk.mk (by decide +kernel)) | omega | simp) [wrap_i64, le_most, lt_omega, le_omega, ne_omega, allLen], by simp (maxSteps := 1000000) (disch := first | (exact DrawOk.mk (by decide +kernel)) | omega | simp) [wrap_i64, le_most, lt_omega, le_omega, ne_omega, allLen], by simp (maxSteps := 1000000) (disch := first | (exact DrawOk.mk (by decide +kernel)) | omega | simp) [wrap_i64, le_most, lt_omega, le_omega, ne_omega, allLen]⟩
  simp only [restN]
  refine wp_seq (region_hand hE 2 (S1 := ⟨[(62, .pin v1 (.i (.sl (ls.map encR)))), (63, .i (.int .i64 1)), (0, .pin u0 (.i (.sl (ls.map encR)))), (1, .pin u1 (.i (.sl (vs.map encI)))), (6, .own 30 0 V.length), (7, .i (.int .i64 C)), (9, .own 36 0 vs.length), (10, .own 40 0 V.length), (11, .i (.int .i64 C))],
    [(30, ⟨1, V.map encI⟩), (36, ⟨1, vs.map encI⟩), (40, ⟨1, V.map encI⟩)]⟩) hx1 hf5 (by kernel_rfl) rfl rfl ?_ fun a w6 hf6 => ?_)
  · simp (maxSteps := 1000000) (disch := first | (exact DrawOk.mk (by decide +kernel)) | omega | simp) [wrap_i64, le_most, lt_omega, le_omega, ne_omega, allLen]
    exact ⟨by simp (maxSteps := 1000000) (disch := first | (exact DrawOk.mk (by decide +kernel)) | omega | simp) [wrap_i64, le_most, lt_omega, le_omega, ne_omega, allLen], by simp (maxSteps := 1000000) (disch := first | (exact DrawOk.mk (by decide +kernel)) | omega | simp) [wrap_i64, le_most, lt_omega, le_omega, ne_omega, allLen], by simp (maxSteps := 1000000) (disch := first | (exact DrawOk.mk (by decide +kernel)) | omega | simp) [wrap_i64, le_most, lt_omega, le_omega, ne_omega, allLen]⟩
  have hfl : ∀ l : List Int, flatO ⟨1, l.map encI⟩ := fun l el hel => by
    obtain ⟨a, -, rfl⟩ := List.mem_map.1 hel
    exact flat_encI a
  refine Oper.wp_mono ?_ (meltCall_wp hx1 hb1 hf6 h01 hFR1 hG1 hm1 ht1 (d := 64) rfl (by decide) rfl (by simp [look_cons]) (by simp [look_cons]) (PWRules ls 1 (by omega) (by omega))
    [(0, .pin u0 (.i (.sl (ls.map encR)))), (1, .pin u1 (.i (.sl (vs.map encI)))), (6, .own 30 0 V.length), (7, .i (.int .i64 C)), (9, .own 36 0 vs.length), (10, .own 40 0 V.length), (11, .i (.int .i64 C))]
    ⟨⟨by simp [look_cons], .inr (.inr ⟨_, _, rfl, rfl, hp0⟩)⟩, ⟨by simp [look_cons], .inr (.inr ⟨_, _, rfl, rfl, hp1⟩)⟩, ⟨by simp [look_cons], .inr (.inl ⟨_, _, _, rfl⟩)⟩, ⟨by simp [look_cons], .inl ⟨_, rfl, rfl⟩⟩, ⟨by simp [look_cons], .inr (.inl ⟨_, _, _, rfl⟩)⟩, ⟨by simp [look_cons], .inr (.inl ⟨_, _, _, rfl⟩)⟩, ⟨by simp [look_cons], .inl ⟨_, rfl, rfl⟩⟩, trivial⟩
    ⟨hfl _, hfl _, hfl _, trivial⟩ _)
  rintro a' w' ⟨z2, hx2, hb2, hf7⟩
  refine ⟨z2, F1, _, ⟨[(0, .pin u0 (.i (.sl (ls.map encR)))), (1, .pin u1 (.i (.sl (vs.map encI)))), (12, .i (.int .i64 (1 + ls.length + rsum ls))), (6, .own 30 0 V.length), (7, .i (.int .i64 C)), (9, .own 36 0 vs.length), (10, .own 40 0 V.length), (11, .i (.int .i64 C))],
    [(30, ⟨1, V.map encI⟩), (36, ⟨1, vs.map encI⟩), (40, ⟨1, V.map encI⟩)]⟩, hx2, hf7, ?_, fun a w8 hf8 => ?_⟩
  · simp (maxSteps := 1000000) (disch := first | (exact DrawOk.mk (by decide +kernel)) | omega | simp) [wrap_i64, le_most, lt_omega, le_omega, ne_omega, allLen]
    exact ⟨by simp (maxSteps := 1000000) (disch := first | (exact DrawOk.mk (by decide +kernel)) | omega | simp) [wrap_i64, le_most, lt_omega, le_omega, ne_omega, allLen], by simp (maxSteps := 1000000) (disch := first | (exact DrawOk.mk (by decide +kernel)) | omega | simp) [wrap_i64, le_most, lt_omega, le_omega, ne_omega, allLen], by simp (maxSteps := 1000000) (disch := first | (exact DrawOk.mk (by decide +kernel)) | omega | simp) [wrap_i64, le_most, lt_omega, le_omega, ne_omega, allLen]⟩
  show Code.wp _ _ _ _ _
  refine segEnd hE hx2 hb2 hf8 (by kernel_rfl) ?_
  simp (maxSteps := 1000000) (disch := first | (exact DrawOk.mk (by decide +kernel)) | omega | simp) [wrap_i64, le_most, lt_omega, le_omega, ne_omega, allLen]
  refine MutK.of (c33 vs (1 + ls.length + rsum ls) (by omega) (by omega)) (by simp) (by simp) (by simp) (by simp) (by simp) ?_
  have e1 : ¬ ((1 : Int) + ls.length + rsum ls + vs.length < 0) := by omega
  simp (maxSteps := 1000000) (disch := first | (exact DrawOk.mk (by decide +kernel)) | omega | simp) [wrap_i64, le_most, lt_omega, le_omega, ne_omega, allLen, e1]
  refine CallK.of (c26 V V (by omega) (by omega)) (by first | exact .inl rfl | exact .inr (by simp)) (by simp) ?_
  simp (maxSteps := 1000000) (disch := first | (exact DrawOk.mk (by decide +kernel)) | omega | simp) [wrap_i64, le_most, lt_omega, le_omega, ne_omega, allLen]
  refine MutK.of (c33 V 1 (by omega) (by omega)) (by simp) (by simp) (by simp) (by simp) (by simp) ?_
  have htm : ((marks 1 V.length).map encI).take V.length = (marks 1 V.length).map encI := by rw [List.take_of_length_le (by simp)]
  simp (maxSteps := 1000000) (disch := first | (exact DrawOk.mk (by decide +kernel)) | omega | simp) [wrap_i64, le_most, lt_omega, le_omega, ne_omega, allLen, htm]
  refine CallK.of (c34 V.length 1 (by omega) (by omega)) (by first | exact .inl rfl | exact .inr (by simp)) (by simp) ?_
  have e2 : ¬ ((1 : Int) + V.length < 0) := by omega
  simp (maxSteps := 1000000) (disch := first | (exact DrawOk.mk (by decide +kernel)) | omega | simp) [wrap_i64, le_most, lt_omega, le_omega, ne_omega, allLen, e2]
  refine CallK.of (c29 ls g1 g2) (by first | exact .inl rfl | exact .inr (by simp)) (by simp) ?_
  simp (maxSteps := 1000000) (disch := first | (exact DrawOk.mk (by decide +kernel)) | omega | simp) [wrap_i64, le_most, lt_omega, le_omega, ne_omega, allLen]
  refine CallK.of (c23 vs g3) (by first | exact .inl rfl | exact .inr (by simp)) (by simp) ?_
  simp (maxSteps := 1000000) (disch := first | (exact DrawOk.mk (by decide +kernel)) | omega | simp) [wrap_i64, le_most, lt_omega, le_omega, ne_omega, allLen]
  refine CallK.of (c30 ls vs g1 g2 g3) (by first | exact .inl rfl | exact .inr (by simp)) (by simp) ?_
  rw [hV, hC]
  simp (maxSteps := 1000000) (disch := first | (exact DrawOk.mk (by decide +kernel)) | omega | simp) [wrap_i64, le_most, lt_omega, le_omega, ne_omega, allLen]
  refine CallK.of (c26 V V (by omega) (by omega)) (by first | exact .inl rfl | exact .inr (by simp)) (by simp) ?_
  simp (maxSteps := 1000000) (disch := first | (exact DrawOk.mk (by decide +kernel)) | omega | simp) [wrap_i64, le_most, lt_omega, le_omega, ne_omega, allLen, htm]
  refine CallK.of (c34 V.length 1 (by omega) (by omega)) (by first | exact .inl rfl | exact .inr (by simp)) (by simp) ?_
  simp (maxSteps := 1000000) (disch := first | (exact DrawOk.mk (by decide +kernel)) | omega | simp) [wrap_i64, le_most, lt_omega, le_omega, ne_omega, allLen, e2]
end Go.Vai
