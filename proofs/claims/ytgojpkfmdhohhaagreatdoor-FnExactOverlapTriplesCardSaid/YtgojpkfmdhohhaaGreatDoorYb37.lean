/- Merged texts of this claim: Zy3, Zy4. -/
import Derived.Test.YtgojpkfmdhohhaaGreatDoorYb36
/- Pairs of places that overlap: the program's list; marks of pairs. -/
set_option linter.unusedVariables false
set_option linter.unusedSimpArgs false
set_option maxHeartbeats 8000000
namespace Go.Vai
open Iq
theorem c12 (els : List (List IV)) (hr : ∀ el ∈ els, el.length = 2) (k : Int) (h0 : 0 ≤ k) (h1 : k + 2 * els.length ≤ 1099511627776) : PM E 12 [.sl ⟨2, els⟩, .i (.i (.int .i64 k))] [⟨2, (List.range els.length).map (m2 k)⟩] [.i (.int .i64 (k + 2 * els.length))] := by
  refine PM_start hE Proofs.Tryz.func12 rfl rfl Proofs.Tryz.ntmps12 (by kernel_rfl) (by kernel_rfl) (by simp) (by simp) ?_
  simp (maxSteps := 1000000) (disch := first | (exact DrawOk.mk (by decide +kernel)) | omega | simp) [wrap_i64, le_most, lt_omega, le_omega, ne_omega, allLen]
  refine XL.by hE (ι := { q : Nat // q ≤ els.length }) (fun q => ⟨[(0, .own 700000 0 els.length), (1, .i (.int .i64 (k + 2 * (q.1 : Int)))), (5, .i (.int .i64 q.1))], [(700000, ⟨2, mixR (m2 k) els q.1⟩)]⟩)
    (fun q => els.length - q.1) ⟨0, Nat.zero_le _⟩ ⟨by simp, by simp [mixR_zero], by simp⟩ (by kernel_rfl) ?_
  rintro ⟨q, hq⟩
  by_cases hlt : q < els.length
  · have hA := mixR_len (m2 k) els q (by omega)
    have hg := mixR_get (m2 k) els q (by omega)
    have hs : (mixR (m2 k) els q).set q (r2 (k + 2 * (q : Int))) = mixR (m2 k) els (q + 1) := mixR_set (m2 k) els q (by omega)
    have hl := hr _ (List.getElem_mem hlt)
    obtain ⟨x, y, hxy⟩ : ∃ x y, els[q] = [x, y] := by
      match els[q], hl with
      | [x, y], _ => exact ⟨x, y, rfl⟩
    rw [hxy] at hg
    obtain ⟨hg1, hg2⟩ := List.getElem?_eq_some_iff.1 hg
    unfold r2 at hs
    simp (maxSteps := 1000000) (disch := first | (exact DrawOk.mk (by decide +kernel)) | omega | simp) [wrap_i64, le_most, lt_omega, le_omega, ne_omega, allLen, hlt, hA, hg2]
    (refine ⟨⟨q + 1, by omega⟩, by (simp; try omega), ?_⟩; constructor <;> (simp (maxSteps := 1000000) (disch := first | (exact DrawOk.mk (by decide +kernel)) | omega | simp) [wrap_i64, le_most, lt_omega, le_omega, ne_omega, allLen, hs]) <;> (try omega))
  · obtain rfl : q = els.length := by omega
    have := mixR_all (m2 k) els
    simp (maxSteps := 1000000) (disch := first | (exact DrawOk.mk (by decide +kernel)) | omega | simp) [wrap_i64, le_most, lt_omega, le_omega, ne_omega, allLen, hlt, this]
theorem c13 (n : Nat) (k : Int) (h0 : 0 ≤ k) (h1 : k + 2 * n ≤ 1099511627776) : PC E 13 [.i (.sl ((List.range n).map (m2 k))), .i (.int .i64 k)] [.i (.int .i64 (k + 2 * n))] := by
  refine PC_start hE Proofs.Tryz.func13 rfl rfl Proofs.Tryz.ntmps13 (by kernel_rfl) (by kernel_rfl) (by simp) ?_
  simp (maxSteps := 1000000) (disch := first | (exact DrawOk.mk (by decide +kernel)) | omega | simp) [wrap_i64, le_most, lt_omega, le_omega, ne_omega, allLen]
  refine XL.by hE (ι := { q : Nat // q ≤ n }) (fun q => ⟨[(0, .i (.sl ((List.range n).map (m2 k)))), (1, .i (.int .i64 (k + 2 * (q.1 : Int)))), (5, .i (.int .i64 q.1))], []⟩)
    (fun q => n - q.1) ⟨0, Nat.zero_le _⟩ ⟨by simp, by simp, by simp⟩ (by kernel_rfl) ?_
  rintro ⟨q, hq⟩
  by_cases hlt : q < n
  · have hg : ((List.range n).map (m2 k))[q]? = some [.int .i64 (k + 2 * q), .int .i64 (k + 2 * q + 1)] := by simp [hlt, m2, r2]
    have hl : ((List.range n).map (m2 k)).length = n := by simp
    generalize (List.range n).map (m2 k) = A at *
    obtain ⟨hg1, hg2⟩ := List.getElem?_eq_some_iff.1 hg
    simp (maxSteps := 1000000) (disch := first | (exact DrawOk.mk (by decide +kernel)) | omega | simp) [wrap_i64, le_most, lt_omega, le_omega, ne_omega, allLen, hlt, hg2, hl]
    (refine ⟨⟨q + 1, by omega⟩, by (simp; try omega), ?_⟩; constructor <;> (simp (maxSteps := 1000000) (disch := first | (exact DrawOk.mk (by decide +kernel)) | omega | simp) [wrap_i64, le_most, lt_omega, le_omega, ne_omega, allLen]) <;> (try omega))
  · obtain rfl : q = n := by omega
    simp (maxSteps := 1000000) (disch := first | (exact DrawOk.mk (by decide +kernel)) | omega | simp) [wrap_i64, le_most, lt_omega, le_omega, ne_omega, allLen, hlt]
theorem c25 (p q : Nat × Nat) : PC E 25 [.agg (encPr p), .agg (encPr q)] [.i (.bool (decide (p = q)))] := by
  obtain ⟨a, b⟩ := p
  obtain ⟨c, d⟩ := q
  refine PC_start hE Proofs.Tryz.func25 rfl rfl Proofs.Tryz.ntmps25 (by kernel_rfl) (by kernel_rfl) (by simp) ?_
  simp (maxSteps := 1000000) (disch := first | (exact DrawOk.mk (by decide +kernel)) | omega | simp) [wrap_i64, le_most, lt_omega, le_omega, ne_omega, allLen, encPr]
  (first | refine Gd.dec (fun h1 => ?_) (fun h1 => ?_) | refine Gd.intro (fun h1 => ?_) (fun h1 => ?_)) <;> simp (maxSteps := 1000000) (disch := first | (exact DrawOk.mk (by decide +kernel)) | omega | simp) [wrap_i64, le_most, lt_omega, le_omega, ne_omega, allLen, h1]
  · (first | refine Gd.dec (fun h2 => ?_) (fun h2 => ?_) | refine Gd.intro (fun h2 => ?_) (fun h2 => ?_)) <;> simp (maxSteps := 1000000) (disch := first | (exact DrawOk.mk (by decide +kernel)) | omega | simp) [wrap_i64, le_most, lt_omega, le_omega, ne_omega, allLen, h2]
    all_goals first | omega | (simp; omega)
  all_goals first | omega | (simp; omega)
theorem c9 (l : List (Nat × Nat)) (h : (l.length : Int) ≤ 1048576) : PC E 9 [.i (.sl (l.map encPr)), .i (.sl (l.map encPr))] [.i (.bool true)] := by
  refine PC_start hE Proofs.Tryz.func9 rfl rfl Proofs.Tryz.ntmps9 (by kernel_rfl) (by kernel_rfl) (by simp) ?_
  simp (maxSteps := 1000000) (disch := first | (exact DrawOk.mk (by decide +kernel)) | omega | simp) [wrap_i64, le_most, lt_omega, le_omega, ne_omega, allLen]
  refine XL.by hE (ι := { k : Nat // k ≤ l.length }) (fun k => ⟨[(5, .i (.int .i64 k.1)), (0, .i (.sl (l.map encPr))), (1, .i (.sl (l.map encPr)))], []⟩) (fun k => l.length - k.1) ⟨0, Nat.zero_le _⟩
    ⟨by simp, by simp, by simp⟩ (by kernel_rfl) ?_
  rintro ⟨k, hk⟩
  by_cases hlt : k < l.length
  · simp (maxSteps := 1000000) (disch := first | (exact DrawOk.mk (by decide +kernel)) | omega | simp) [wrap_i64, le_most, lt_omega, le_omega, ne_omega, allLen, hlt]
    refine CallK.of (c25 l[k] l[k]) (by first | exact .inl rfl | exact .inr (by simp)) (by simp) ?_
    simp (maxSteps := 1000000) (disch := first | (exact DrawOk.mk (by decide +kernel)) | omega | simp) [wrap_i64, le_most, lt_omega, le_omega, ne_omega, allLen]
    (refine ⟨⟨k + 1, by omega⟩, by (simp; try omega), ?_⟩; constructor <;> (simp (maxSteps := 1000000) (disch := first | (exact DrawOk.mk (by decide +kernel)) | omega | simp) [wrap_i64, le_most, lt_omega, le_omega, ne_omega, allLen]) <;> (try omega))
  · simp (maxSteps := 1000000) (disch := first | (exact DrawOk.mk (by decide +kernel)) | omega | simp) [wrap_i64, le_most, lt_omega, le_omega, ne_omega, allLen, hlt]
theorem c24 (ls : List (List Pt)) (h : ∀ l ∈ ls, polI l = true) (hn : ls.length ≤ 24) : PC E 24 [.i (.sl (ls.map encG))] [.own 2 ((allP ls ls.length).map encPr)] := by
  refine PC_start hE Proofs.Tryz.func24 rfl rfl Proofs.Tryz.ntmps24 (by kernel_rfl) (by kernel_rfl) (by simp) ?_
  simp (maxSteps := 1000000) (disch := first | (exact DrawOk.mk (by decide +kernel)) | omega | simp) [wrap_i64, le_most, lt_omega, le_omega, ne_omega, allLen]
  refine CallK.of (c36 ls) (by first | exact .inl rfl | exact .inr (by simp)) (by simp) ?_
  simp (maxSteps := 1000000) (disch := first | (exact DrawOk.mk (by decide +kernel)) | omega | simp) [wrap_i64, le_most, lt_omega, le_omega, ne_omega, allLen]
  refine XL.by hE (ι := { a : Nat // a ≤ ls.length }) (fun a => ⟨[(0, .i (.sl (ls.map encG))), (3, .own 29 0 (allP ls a.1).length), (7, .i (.int .i64 ls.length)), (8, .i (.int .i64 a.1))], [(29, ⟨2, (allP ls a.1).map encPr⟩)]⟩)
    (fun a => ls.length - a.1) ⟨0, Nat.zero_le _⟩ ⟨by simp [allP], by simp [allP], by simp⟩ (by kernel_rfl) ?_
  rintro ⟨a, ha⟩
  by_cases hlt : a < ls.length
  · have rz := accP_zero ls a
    simp (maxSteps := 1000000) (disch := first | (exact DrawOk.mk (by decide +kernel)) | omega | simp) [wrap_i64, le_most, lt_omega, le_omega, ne_omega, allLen, hlt]
    refine XL.by hE (ι := { b : Nat // a + 1 ≤ b ∧ b ≤ ls.length }) (fun b => ⟨[(0, .i (.sl (ls.map encG))), (3, .own 29 0 (accP ls a b.1).length), (4, .i (.int .i64 a)), (5, .i (.int .i64 b.1)), (7, .i (.int .i64 ls.length)), (8, .i (.int .i64 a))], [(29, ⟨2, (accP ls a b.1).map encPr⟩)]⟩)
      (fun b => ls.length - b.1) ⟨a + 1, Nat.le_refl _, by omega⟩ ⟨by simp [rz], by simp [rz], by simp⟩ (by kernel_rfl) ?_
    rintro ⟨b, hb1, hb2⟩
    have hRl := accP_len ls hlt hb2 hn
    by_cases hlb : b < ls.length
    · have hst := row_step ls (a := a) (b := b) (by omega)
      simp (maxSteps := 1000000) (disch := first | (exact DrawOk.mk (by decide +kernel)) | omega | simp) [wrap_i64, le_most, lt_omega, le_omega, ne_omega, allLen]
      refine CallK.of (c36 ls) (by first | exact .inl rfl | exact .inr (by simp)) (by simp) ?_
      simp (maxSteps := 1000000) (disch := first | (exact DrawOk.mk (by decide +kernel)) | omega | simp) [wrap_i64, le_most, lt_omega, le_omega, ne_omega, allLen, hlb]
      refine CallK.of (hc2 h hlt hlb) (by first | exact .inl rfl | exact .inr (by simp)) (by simp) ?_
      generalize ovG ls a b = c at *
      cases c
      · rw [if_neg (by simp), List.append_nil] at hst
        simp (maxSteps := 1000000) (disch := first | (exact DrawOk.mk (by decide +kernel)) | omega | simp) [wrap_i64, le_most, lt_omega, le_omega, ne_omega, allLen]
        (refine ⟨⟨b + 1, by omega, by omega⟩, by (simp; try omega), ?_⟩; constructor <;> (simp (maxSteps := 1000000) (disch := first | (exact DrawOk.mk (by decide +kernel)) | omega | simp) [wrap_i64, le_most, lt_omega, le_omega, ne_omega, allLen, hst]) <;> (try omega))
      · rw [if_pos rfl] at hst
        simp (maxSteps := 1000000) (disch := first | (exact DrawOk.mk (by decide +kernel)) | omega | simp) [wrap_i64, le_most, lt_omega, le_omega, ne_omega, allLen]
        (refine ⟨⟨b + 1, by omega, by omega⟩, by (simp; try omega), ?_⟩; constructor <;> (simp (maxSteps := 1000000) (disch := first | (exact DrawOk.mk (by decide +kernel)) | omega | simp) [wrap_i64, le_most, lt_omega, le_omega, ne_omega, allLen, hst, encPr]) <;> (try omega))
    · obtain rfl : b = ls.length := by omega
      have hst := accP_all ls a
      simp (maxSteps := 1000000) (disch := first | (exact DrawOk.mk (by decide +kernel)) | omega | simp) [wrap_i64, le_most, lt_omega, le_omega, ne_omega, allLen]
      refine CallK.of (c36 ls) (by first | exact .inl rfl | exact .inr (by simp)) (by simp) ?_
      simp (maxSteps := 1000000) (disch := first | (exact DrawOk.mk (by decide +kernel)) | omega | simp) [wrap_i64, le_most, lt_omega, le_omega, ne_omega, allLen]
      (refine ⟨⟨a + 1, by omega⟩, by (simp; try omega), ?_⟩; constructor <;> (simp (maxSteps := 1000000) (disch := first | (exact DrawOk.mk (by decide +kernel)) | omega | simp) [wrap_i64, le_most, lt_omega, le_omega, ne_omega, allLen, ← hst]) <;> (try omega))
  · obtain rfl : a = ls.length := by omega
    simp (maxSteps := 1000000) (disch := first | (exact DrawOk.mk (by decide +kernel)) | omega | simp) [wrap_i64, le_most, lt_omega, le_omega, ne_omega, allLen]
/-- The reference's list, as a new one. -/
theorem o21 (ls : List (List Pt)) (h : ∀ l ∈ ls, polI l = true) (hn : ls.length ≤ 24) : PC E 21 [.i (.sl (ls.map encG))] [.own 2 ((allP ls ls.length).map encPr)] := by
  refine PC_start hE Proofs.Tryz.func21 rfl rfl Proofs.Tryz.ntmps21 (by kernel_rfl) (by kernel_rfl) (by simp) ?_
  simp (maxSteps := 1000000) (disch := first | (exact DrawOk.mk (by decide +kernel)) | omega | simp) [wrap_i64, le_most, lt_omega, le_omega, ne_omega, allLen]
  refine XL.by hE (ι := { a : Nat // a ≤ ls.length }) (fun a => ⟨[(0, .i (.sl (ls.map encG))), (3, prS (allP ls a.1)), (4, .i (.int .i64 a.1))], prH (allP ls a.1)⟩)
    (fun a => ls.length - a.1) ⟨0, Nat.zero_le _⟩ ⟨by simp [prS, allP], by simp [prH, allP], by simp [prS, allP]⟩ (by kernel_rfl) ?_
  rintro ⟨a, ha⟩
  have hal := allP_len ls a
  have hab : (allP ls a).length ≤ 576 := Nat.le_trans hal (by have := Nat.mul_le_mul (show a ≤ 24 by omega) hn; omega)
  by_cases hlt : a < ls.length
  · have rz := accP_zero ls a
    rcases Classical.em (allP ls a = []) with h0 | h0 <;> simp (maxSteps := 1000000) (disch := first | (exact DrawOk.mk (by decide +kernel)) | omega | simp) [wrap_i64, le_most, lt_omega, le_omega, ne_omega, allLen, hlt, prS, prH, h0] <;>
      refine XL.by hE (ι := { b : Nat // a + 1 ≤ b ∧ b ≤ ls.length }) (fun b => ⟨[(0, .i (.sl (ls.map encG))), (3, prS (accP ls a b.1)), (4, .i (.int .i64 a)), (5, .i (.int .i64 b.1))], prH (accP ls a b.1)⟩)
        (fun b => ls.length - b.1) ⟨a + 1, Nat.le_refl _, by omega⟩ ⟨by simp [prS, h0, rz], by simp [prH, h0, rz], by simp [prS, prH, h0, rz]⟩ (by kernel_rfl) ?_
    all_goals
      rintro ⟨b, hb1, hb2⟩
      have hRl := accP_len ls hlt hb2 hn
      by_cases hlb : b < ls.length
      · have hst := row_step ls (a := a) (b := b) (by omega)
        have ga := getD_enc hlt
        have gb := getD_enc hlb
        have hov := o33 (getD_pol h hlt) (getD_pol h hlb)
        rw [show ovI (ls.getD a []) (ls.getD b []) = ovG ls a b from rfl] at hov
        generalize ovG ls a b = c at *
        generalize ls.getD a [] = A at *
        generalize ls.getD b [] = B at *
        have tk : List.take (accP ls a b).length (List.map encPr (accP ls a b)) = List.map encPr (accP ls a b) := List.take_of_length_le (by simp)
        have big1 : ((accP ls a b).length : Int) + 1 ≤ 140737488355328 := by omega
        have big2 : (((accP ls a b).length : Int) + 1) * 16 ≤ 140737488355328 := by omega
        rcases Classical.em (accP ls a b = []) with hR | hR
        · simp (maxSteps := 1000000) (disch := first | (exact DrawOk.mk (by decide +kernel)) | omega | simp) [wrap_i64, le_most, lt_omega, le_omega, ne_omega, allLen, hlt, hlb, ga, gb, prS, prH, hR]
          refine CallK.of (hov) (by first | exact .inl rfl | exact .inr (by simp)) (by simp) ?_
          simp (maxSteps := 1000000) (disch := first | (exact DrawOk.mk (by decide +kernel)) | omega | simp) [wrap_i64, le_most, lt_omega, le_omega, ne_omega, allLen]
          (first | refine Gd.dec (fun h4 => ?_) (fun h4 => ?_) | refine Gd.intro (fun h4 => ?_) (fun h4 => ?_)) <;> simp (maxSteps := 1000000) (disch := first | (exact DrawOk.mk (by decide +kernel)) | omega | simp) [wrap_i64, le_most, lt_omega, le_omega, ne_omega, allLen, h4]
          · rw [if_pos h4, hR, List.nil_append] at hst
            try (simp (maxSteps := 1000000) (disch := first | (exact DrawOk.mk (by decide +kernel)) | omega | simp) [wrap_i64, le_most, lt_omega, le_omega, ne_omega, allLen, most])
            (refine ⟨⟨b + 1, by omega, by omega⟩, by (simp; try omega), ?_⟩; constructor <;> (simp (maxSteps := 1000000) (disch := first | (exact DrawOk.mk (by decide +kernel)) | omega | simp) [wrap_i64, le_most, lt_omega, le_omega, ne_omega, allLen, hst, prS, prH, encPr]) <;> (try omega))
          · rw [if_neg (by rw [h4]; simp), hR, List.nil_append] at hst
            (refine ⟨⟨b + 1, by omega, by omega⟩, by (simp; try omega), ?_⟩; constructor <;> (simp (maxSteps := 1000000) (disch := first | (exact DrawOk.mk (by decide +kernel)) | omega | simp) [wrap_i64, le_most, lt_omega, le_omega, ne_omega, allLen, hst, prS, prH]) <;> (try omega))
        · simp (maxSteps := 1000000) (disch := first | (exact DrawOk.mk (by decide +kernel)) | omega | simp) [wrap_i64, le_most, lt_omega, le_omega, ne_omega, allLen, hlt, hlb, ga, gb, prS, prH, hR]
          refine CallK.of (hov) (by first | exact .inl rfl | exact .inr (by simp)) (by simp) ?_
          simp (maxSteps := 1000000) (disch := first | (exact DrawOk.mk (by decide +kernel)) | omega | simp) [wrap_i64, le_most, lt_omega, le_omega, ne_omega, allLen]
          (first | refine Gd.dec (fun h4 => ?_) (fun h4 => ?_) | refine Gd.intro (fun h4 => ?_) (fun h4 => ?_)) <;> simp (maxSteps := 1000000) (disch := first | (exact DrawOk.mk (by decide +kernel)) | omega | simp) [wrap_i64, le_most, lt_omega, le_omega, ne_omega, allLen, h4]
          · rw [if_pos h4] at hst
            try (simp (maxSteps := 1000000) (disch := first | (exact DrawOk.mk (by decide +kernel)) | omega | simp) [wrap_i64, le_most, lt_omega, le_omega, ne_omega, allLen, most, big1, big2])
            (refine ⟨⟨b + 1, by omega, by omega⟩, by (simp; try omega), ?_⟩; constructor <;> (simp (maxSteps := 1000000) (disch := first | (exact DrawOk.mk (by decide +kernel)) | omega | simp) [wrap_i64, le_most, lt_omega, le_omega, ne_omega, allLen, hst, prS, prH, encPr, tk]) <;> (try omega))
          · rw [if_neg (by rw [h4]; simp), List.append_nil] at hst
            (refine ⟨⟨b + 1, by omega, by omega⟩, by (simp; try omega), ?_⟩; constructor <;> (simp (maxSteps := 1000000) (disch := first | (exact DrawOk.mk (by decide +kernel)) | omega | simp) [wrap_i64, le_most, lt_omega, le_omega, ne_omega, allLen, hst, prS, prH, hR]) <;> (try omega))
      · obtain rfl : b = ls.length := by omega
        have hst := accP_all ls a
        rcases Classical.em (accP ls a ls.length = []) with hR | hR
        · simp (maxSteps := 1000000) (disch := first | (exact DrawOk.mk (by decide +kernel)) | omega | simp) [wrap_i64, le_most, lt_omega, le_omega, ne_omega, allLen, prS, prH, hR]
          (refine ⟨⟨a + 1, by omega⟩, by (simp; try omega), ?_⟩; constructor <;> (simp (maxSteps := 1000000) (disch := first | (exact DrawOk.mk (by decide +kernel)) | omega | simp) [wrap_i64, le_most, lt_omega, le_omega, ne_omega, allLen, ← hst, prS, prH, hR]) <;> (try omega))
        · simp (maxSteps := 1000000) (disch := first | (exact DrawOk.mk (by decide +kernel)) | omega | simp) [wrap_i64, le_most, lt_omega, le_omega, ne_omega, allLen, prS, prH, hR]
          (refine ⟨⟨a + 1, by omega⟩, by (simp; try omega), ?_⟩; constructor <;> (simp (maxSteps := 1000000) (disch := first | (exact DrawOk.mk (by decide +kernel)) | omega | simp) [wrap_i64, le_most, lt_omega, le_omega, ne_omega, allLen, ← hst, prS, prH, hR]) <;> (try omega))
  · obtain rfl : a = ls.length := by omega
    by_cases h0 : allP ls ls.length = []
    · simp (maxSteps := 1000000) (disch := first | (exact DrawOk.mk (by decide +kernel)) | omega | simp) [wrap_i64, le_most, lt_omega, le_omega, ne_omega, allLen, prS, prH, h0]
    · have tk : List.take (allP ls ls.length).length (List.map encPr (allP ls ls.length)) = List.map encPr (allP ls ls.length) := List.take_of_length_le (by simp)
      simp (maxSteps := 1000000) (disch := first | (exact DrawOk.mk (by decide +kernel)) | omega | simp) [wrap_i64, le_most, lt_omega, le_omega, ne_omega, allLen, prS, prH, h0, tk]
theorem plcB_spec {ls : List (List Pt)} (h : plcB ls = true) : (∀ l ∈ ls, polI l = true) ∧ ls.length ≤ 24 := by
  simp only [plcB, Bool.and_eq_true, List.all_eq_true] at h
  refine ⟨h.2, ?_⟩
  have := h.1; simp [inB] at this; omega
/-- The pairs of places. -/
def pairsV (ls : List (List Pt)) : List (Nat × Nat) := if plcB ls = true then allP ls ls.length else []
def codeP (ls : List (List Pt)) : Int := if plcB ls = true then 0 else 1
theorem c8 (ls : List (List Pt)) (h : (ls.length : Int) ≤ 1048576) (hr : (gsum ls : Int) ≤ 1048576) : PC E 8 [.i (.sl (ls.map encG))] [.own 2 ((pairsV ls).map encPr), .i (.int .i64 (codeP ls))] := by
  refine PC_start hE Proofs.Tryz.func8 rfl rfl Proofs.Tryz.ntmps8 (by kernel_rfl) (by kernel_rfl) (by simp) ?_
  simp (maxSteps := 1000000) (disch := first | (exact DrawOk.mk (by decide +kernel)) | omega | simp) [wrap_i64, le_most, lt_omega, le_omega, ne_omega, allLen]
  refine CallK.of (c23 ls h hr) (by first | exact .inl rfl | exact .inr (by simp)) (by simp) ?_
  unfold pairsV codeP
  cases hq : plcB ls
  · simp (maxSteps := 1000000) (disch := first | (exact DrawOk.mk (by decide +kernel)) | omega | simp) [wrap_i64, le_most, lt_omega, le_omega, ne_omega, allLen]
  · obtain ⟨h1, h2⟩ := plcB_spec hq
    simp (maxSteps := 1000000) (disch := first | (exact DrawOk.mk (by decide +kernel)) | omega | simp) [wrap_i64, le_most, lt_omega, le_omega, ne_omega, allLen]
    refine CallK.of (c24 ls h1 h2) (by first | exact .inl rfl | exact .inr (by simp)) (by simp) ?_
    simp (maxSteps := 1000000) (disch := first | (exact DrawOk.mk (by decide +kernel)) | omega | simp) [wrap_i64, le_most, lt_omega, le_omega, ne_omega, allLen]
theorem c6 (ls : List (List Pt)) (h : (ls.length : Int) ≤ 1048576) (hr : (gsum ls : Int) ≤ 1048576) : PC E 6 [.i (.sl (ls.map encG))] [.own 2 ((pairsV ls).map encPr), .i (.int .i64 (codeP ls))] := by
  refine PC_start hE Proofs.Tryz.func6 rfl rfl Proofs.Tryz.ntmps6 (by kernel_rfl) (by kernel_rfl) (by simp) ?_
  simp (maxSteps := 1000000) (disch := first | (exact DrawOk.mk (by decide +kernel)) | omega | simp) [wrap_i64, le_most, lt_omega, le_omega, ne_omega, allLen]
  refine CallK.of (c20 ls h hr) (by first | exact .inl rfl | exact .inr (by simp)) (by simp) ?_
  unfold pairsV codeP
  cases hq : plcB ls
  · simp (maxSteps := 1000000) (disch := first | (exact DrawOk.mk (by decide +kernel)) | omega | simp) [wrap_i64, le_most, lt_omega, le_omega, ne_omega, allLen]
  · obtain ⟨h1, h2⟩ := plcB_spec hq
    simp (maxSteps := 1000000) (disch := first | (exact DrawOk.mk (by decide +kernel)) | omega | simp) [wrap_i64, le_most, lt_omega, le_omega, ne_omega, allLen]
    refine CallK.of (o21 ls h1 h2) (by first | exact .inl rfl | exact .inr (by simp)) (by simp) ?_
    simp (maxSteps := 1000000) (disch := first | (exact DrawOk.mk (by decide +kernel)) | omega | simp) [wrap_i64, le_most, lt_omega, le_omega, ne_omega, allLen]
end Go.Vai
/- The law of OverlapPairs. -/
set_option linter.unusedVariables false
set_option linter.unusedSimpArgs false
set_option maxHeartbeats 8000000
set_option maxRecDepth 20000
namespace Go.Vai
open Go.RowKit (Below)
theorem flatPr (V : List (Nat × Nat)) : flatO ⟨2, V.map encPr⟩ := fun el hel => by
  obtain ⟨a, -, rfl⟩ := List.mem_map.1 hel
  intro x hx
  simp [encPr] at hx
  rcases hx with rfl | rfl <;> rfl
@[simp ↓] theorem flatPrA (V : List (Nat × Nat)) : (∀ el ∈ V.map encPr, flatC el) ↔ True := ⟨fun _ => trivial, fun _ => flatPr V⟩
theorem encPr2 (V : List (Nat × Nat)) : ∀ el ∈ V.map encPr, el.length = 2 := fun el hel => by
  obtain ⟨a, -, rfl⟩ := List.mem_map.1 hel; rfl
theorem pairsV_len (ls : List (List Pt)) : (pairsV ls).length ≤ 576 := by
  unfold pairsV
  split
  · rename_i h
    obtain ⟨-, h2⟩ := plcB_spec h
    have := allP_len ls ls.length
    have h3 := Nat.mul_le_mul h2 h2
    omega
  · simp
theorem flat_m2 (k : Int) (n : Nat) : ∀ a, a < n → flatC (m2 k a) := fun a _ x hx => by
  simp [m2, r2] at hx
  rcases hx with rfl | rfl <;> rfl
theorem c3 (ls : List (List Pt)) (h : ls.length ≤ maxLen) (hf : ∀ x ∈ ls, Gfine x) : PC E 3 [.i (.sl (ls.map encG))] [.i (.bool true)] := by
  refine law_start hE Proofs.Tryz.func3 rfl rfl Proofs.Tryz.ntmps3 (by kernel_rfl) (by simp) fun F w a hx hf0 => ?_
  by_cases hbig : (ls.length : Int) + gsum ls ≤ 1048576
  rotate_left
  · refine segEnd hE hx (Back.refl _ _) hf0 (by kernel_rfl) ?_
    simp (maxSteps := 1000000) (disch := first | (exact DrawOk.mk (by decide +kernel)) | omega | simp) [wrap_i64, le_most, lt_omega, le_omega, ne_omega, allLen]
    refine CallK.of (c5 ls 1048576 (by omega) (by omega) h hf) (by first | exact .inl rfl | exact .inr (by simp)) (by simp) ?_
    simp (maxSteps := 1000000) (disch := first | (exact DrawOk.mk (by decide +kernel)) | omega | simp) [wrap_i64, le_most, lt_omega, le_omega, ne_omega, allLen]
  have g1 : (ls.length : Int) ≤ 1048576 := by omega
  have g2 : (gsum ls : Int) ≤ 1048576 := by omega
  have hvl := pairsV_len ls
  generalize hV : pairsV ls = V at *
  generalize hC : codeP ls = C at *
  refine seg hE 4 ⟨[(0, .i (.sl (ls.map encG))), (4, .own 22 0 V.length), (5, .i (.int .i64 C))], [(22, ⟨2, V.map encPr⟩)]⟩ hx (Back.refl _ _) hf0 (by kernel_rfl) (by kernel_rfl) ?_ fun a w1 hf1 => ?_
  · simp (maxSteps := 1000000) (disch := first | (exact DrawOk.mk (by decide +kernel)) | omega | simp) [wrap_i64, le_most, lt_omega, le_omega, ne_omega, allLen, cutC]
    refine CallK.of (c5 ls 1048576 (by omega) (by omega) h hf) (by first | exact .inl rfl | exact .inr (by simp)) (by simp) ?_
    have e : ¬ ((1048576 : Int) - ls.length - gsum ls < 0) := by omega
    simp (maxSteps := 1000000) (disch := first | (exact DrawOk.mk (by decide +kernel)) | omega | simp) [wrap_i64, le_most, lt_omega, le_omega, ne_omega, allLen, e]
    refine CallK.of (c7 ls g1 g2) (by first | exact .inl rfl | exact .inr (by simp)) (by simp) ?_
    simp (maxSteps := 1000000) (disch := first | (exact DrawOk.mk (by decide +kernel)) | omega | simp) [wrap_i64, le_most, lt_omega, le_omega, ne_omega, allLen]
    refine CallK.of (c6 ls g1 g2) (by first | exact .inl rfl | exact .inr (by simp)) (by simp) ?_
    rw [hV, hC]
    simp (maxSteps := 1000000) (disch := first | (exact DrawOk.mk (by decide +kernel)) | omega | simp) [wrap_i64, le_most, lt_omega, le_omega, ne_omega, allLen]
    exact ⟨by simp (maxSteps := 1000000) (disch := first | (exact DrawOk.mk (by decide +kernel)) | omega | simp) [wrap_i64, le_most, lt_omega, le_omega, ne_omega, allLen], by simp (maxSteps := 1000000) (disch := first | (exact DrawOk.mk (by decide +kernel)) | omega | simp) [wrap_i64, le_most, lt_omega, le_omega, ne_omega, allLen], by simp (maxSteps := 1000000) (disch := first | (exact DrawOk.mk (by decide +kernel)) | omega | simp) [wrap_i64, le_most, lt_omega, le_omega, ne_omega, allLen]⟩
  simp only [restN]
  refine wp_seq (region_hand hE 1 (S1 := ⟨[(25, .i (.sl (ls.map encG))), (0, .i (.sl (ls.map encG))), (4, .own 22 0 V.length), (5, .i (.int .i64 C))], [(22, ⟨2, V.map encPr⟩)]⟩) hx hf1 (by kernel_rfl) rfl rfl ?_ fun a w2 hf2 => ?_)
  · simp (maxSteps := 1000000) (disch := first | (exact DrawOk.mk (by decide +kernel)) | omega | simp) [wrap_i64, le_most, lt_omega, le_omega, ne_omega, allLen]
    exact ⟨by simp (maxSteps := 1000000) (disch := first | (exact DrawOk.mk (by decide +kernel)) | omega | simp) [wrap_i64, le_most, lt_omega, le_omega, ne_omega, allLen], by simp (maxSteps := 1000000) (disch := first | (exact DrawOk.mk (by decide +kernel)) | omega | simp) [wrap_i64, le_most, lt_omega, le_omega, ne_omega, allLen], by simp (maxSteps := 1000000) (disch := first | (exact DrawOk.mk (by decide +kernel)) | omega | simp) [wrap_i64, le_most, lt_omega, le_omega, ne_omega, allLen]⟩
  refine Oper.wp_mono ?_ (deepCall_wp hx hf2 (d := 26) rfl (by decide) (vs := [.i (.sl (ls.map encG))]) (by simp) (by simp) rfl (PDPtss ls g1 g2) [(0, .i (.sl (ls.map encG)))] (by simp [fixB]) _)
  rintro a' w' ⟨z1, F1, R1, v1, us, hz1, hx1, hb1, h01, hFR1, hG1, hm1, ht1, hps, hf3⟩
  have hp0 := hps (0, .i (.sl (ls.map encG))) (by simp)
  simp only at hp0
  subst hz1
  simp only [pinT, List.map_cons, List.map_nil, List.cons_append, List.nil_append] at hf3
  generalize us 0 = u0 at *
  clear hps hf2 hf1 hf0
  refine ⟨z1, _, _, ⟨[(0, .pin u0 (.i (.sl (ls.map encG)))), (6, .pin v1 (.i (.sl (ls.map encG)))), (4, .own 22 0 V.length), (5, .i (.int .i64 C))], [(22, ⟨2, V.map encPr⟩)]⟩, hx1, hf3, ?_, fun a w3 hf4 => ?_⟩
  · simp (maxSteps := 1000000) (disch := first | (exact DrawOk.mk (by decide +kernel)) | omega | simp) [wrap_i64, le_most, lt_omega, le_omega, ne_omega, allLen]
    exact ⟨by simp (maxSteps := 1000000) (disch := first | (exact DrawOk.mk (by decide +kernel)) | omega | simp) [wrap_i64, le_most, lt_omega, le_omega, ne_omega, allLen], by simp (maxSteps := 1000000) (disch := first | (exact DrawOk.mk (by decide +kernel)) | omega | simp) [wrap_i64, le_most, lt_omega, le_omega, ne_omega, allLen], by simp (maxSteps := 1000000) (disch := first | (exact DrawOk.mk (by decide +kernel)) | omega | simp) [wrap_i64, le_most, lt_omega, le_omega, ne_omega, allLen]⟩
  show Code.wp _ _ _ _ _
  refine seg hE 3 ⟨[(0, .pin u0 (.i (.sl (ls.map encG)))), (6, .pin v1 (.i (.sl (ls.map encG)))), (4, .own 22 0 V.length), (5, .i (.int .i64 C)), (7, .own 29 0 V.length), (8, .i (.int .i64 C)), (9, .i (.int .i64 1))],
    [(22, ⟨2, V.map encPr⟩), (29, ⟨2, V.map encPr⟩)]⟩ hx1 hb1 hf4 (by kernel_rfl) (by kernel_rfl) ?_ fun a w5 hf5 => ?_
  · simp (maxSteps := 1000000) (disch := first | (exact DrawOk.mk (by decide +kernel)) | omega | simp) [wrap_i64, le_most, lt_omega, le_omega, ne_omega, allLen, cutC]
    refine CallK.of (c8 ls g1 g2) (by first | exact .inl rfl | exact .inr (by simp)) (by simp) ?_
    rw [hV, hC]
    simp (maxSteps := 1000000) (disch := first | (exact DrawOk.mk (by decide +kernel)) | omega | simp) [wrap_i64, le_most, lt_omega, le_omega, ne_omega, allLen]
    refine CallK.of (c9 V (by omega)) (by first | exact .inl rfl | exact .inr (by simp)) (by simp) ?_
    simp (maxSteps := 1000000) (disch := first | (exact DrawOk.mk (by decide +kernel)) | omega | simp) [wrap_i64, le_most, lt_omega, le_omega, ne_omega, allLen]
    refine CallK.of (c7 ls g1 g2) (by first | exact .inl rfl | exact .inr (by simp)) (by simp) ?_
    simp (maxSteps := 1000000) (disch := first | (exact DrawOk.mk (by decide +kernel)) | omega | simp) [wrap_i64, le_most, lt_omega, le_omega, ne_omega, allLen]
    refine CallK.of (c10 ls ls g1 g1 g2 g2) (by first | exact .inl rfl | exact .inr (by simp)) (by simp) ?_
    simp (maxSteps := 1000000) (disch := first | (exact DrawOk.mk (by decide +kernel)) | omega | simp) [wrap_i64, le_most, lt_omega, le_omega, ne_omega, allLen]
    exact ⟨by simp (maxSteps := 1000000) (disch := first | (exact DrawOk.mk (by decide +kernel)) | omega | simp) [wrap_i64, le_most, lt_omega, le_omega, ne_omega, allLen], by simp (maxSteps := 1000000) (disch := first | (exact DrawOk.mk (by decide +kernel)) | omega | simp) [wrap_i64, le_most, lt_omega, le_omega, ne_omega, allLen], by simp (maxSteps := 1000000) (disch := first | (exact DrawOk.mk (by decide +kernel)) | omega | simp) [wrap_i64, le_most, lt_omega, le_omega, ne_omega, allLen]⟩
  simp only [restN]
  refine wp_seq (region_hand hE 2 (S1 := ⟨[(46, .pin v1 (.i (.sl (ls.map encG)))), (47, .i (.int .i64 1)), (0, .pin u0 (.i (.sl (ls.map encG)))), (4, .own 22 0 V.length), (5, .i (.int .i64 C)), (7, .own 29 0 V.length), (8, .i (.int .i64 C))],
    [(22, ⟨2, V.map encPr⟩), (29, ⟨2, V.map encPr⟩)]⟩) hx1 hf5 (by kernel_rfl) rfl rfl ?_ fun a w6 hf6 => ?_)
  · simp (maxSteps := 1000000) (disch := first | (exact DrawOk.mk (by decide +kernel)) | omega | simp) [wrap_i64, le_most, lt_omega, le_omega, ne_omega, allLen]
    exact ⟨by simp (maxSteps := 1000000) (disch := first | (exact DrawOk.mk (by decide +kernel)) | omega | simp) [wrap_i64, le_most, lt_omega, le_omega, ne_omega, allLen], by simp (maxSteps := 1000000) (disch := first | (exact DrawOk.mk (by decide +kernel)) | omega | simp) [wrap_i64, le_most, lt_omega, le_omega, ne_omega, allLen], by simp (maxSteps := 1000000) (disch := first | (exact DrawOk.mk (by decide +kernel)) | omega | simp) [wrap_i64, le_most, lt_omega, le_omega, ne_omega, allLen]⟩
  refine Oper.wp_mono ?_ (meltCall_wp hx1 hb1 hf6 h01 hFR1 hG1 hm1 ht1 (d := 48) rfl (by decide) rfl (by simp [look_cons]) (by simp [look_cons]) (PWPtss ls 1 (by omega) (by omega) g1)
    [(0, .pin u0 (.i (.sl (ls.map encG)))), (4, .own 22 0 V.length), (5, .i (.int .i64 C)), (7, .own 29 0 V.length), (8, .i (.int .i64 C))]
    ⟨⟨by simp [look_cons], .inr (.inr ⟨_, _, rfl, rfl, hp0⟩)⟩, ⟨by simp [look_cons], .inr (.inl ⟨_, _, _, rfl⟩)⟩, ⟨by simp [look_cons], .inl ⟨_, rfl, rfl⟩⟩, ⟨by simp [look_cons], .inr (.inl ⟨_, _, _, rfl⟩)⟩, ⟨by simp [look_cons], .inl ⟨_, rfl, rfl⟩⟩, trivial⟩
    ⟨flatPr _, flatPr _, trivial⟩ _)
  rintro a' w' ⟨z2, hx2, hb2, hf7⟩
  refine ⟨z2, F1, _, ⟨[(0, .pin u0 (.i (.sl (ls.map encG)))), (9, .i (.int .i64 (1 + 6 * gsum ls))), (4, .own 22 0 V.length), (5, .i (.int .i64 C)), (7, .own 29 0 V.length), (8, .i (.int .i64 C))],
    [(22, ⟨2, V.map encPr⟩), (29, ⟨2, V.map encPr⟩)]⟩, hx2, hf7, ?_, fun a w8 hf8 => ?_⟩
  · simp (maxSteps := 1000000) (disch := first | (exact DrawOk.mk (by decide +kernel)) | omega | simp) [wrap_i64, le_most, lt_omega, le_omega, ne_omega, allLen]
    exact ⟨by simp (maxSteps := 1000000) (disch := first | (exact DrawOk.mk (by decide +kernel)) | omega | simp) [wrap_i64, le_most, lt_omega, le_omega, ne_omega, allLen], by simp (maxSteps := 1000000) (disch := first | (exact DrawOk.mk (by decide +kernel)) | omega | simp) [wrap_i64, le_most, lt_omega, le_omega, ne_omega, allLen], by simp (maxSteps := 1000000) (disch := first | (exact DrawOk.mk (by decide +kernel)) | omega | simp) [wrap_i64, le_most, lt_omega, le_omega, ne_omega, allLen]⟩
  show Code.wp _ _ _ _ _
  refine segEnd hE hx2 hb2 hf8 (by kernel_rfl) ?_
  have e1 : ¬ ((1 : Int) + 6 * gsum ls < 0) := by omega
  have e2 : ¬ ((1 : Int) + 2 * V.length < 0) := by omega
  have hml : (V.map encPr).length = V.length := by simp
  have cm := c12 (V.map encPr) (encPr2 V) 1 (by omega) (by rw [hml]; omega)
  rw [hml] at cm
  have htm : ((List.range V.length).map (m2 1)).take V.length = (List.range V.length).map (m2 1) := by rw [List.take_of_length_le (by simp)]
  have hfm := flat_m2 1 V.length
  simp (maxSteps := 1000000) (disch := first | (exact DrawOk.mk (by decide +kernel)) | omega | simp) [wrap_i64, le_most, lt_omega, le_omega, ne_omega, allLen, e1]
  refine CallK.of (c9 V (by omega)) (by first | exact .inl rfl | exact .inr (by simp)) (by simp) ?_
  simp (maxSteps := 1000000) (disch := first | (exact DrawOk.mk (by decide +kernel)) | omega | simp) [wrap_i64, le_most, lt_omega, le_omega, ne_omega, allLen]
  refine MutK.of cm (by simp) (by simp) (by simp) (by simp) (by simp) ?_
  simp (maxSteps := 1000000) (disch := first | (exact DrawOk.mk (by decide +kernel)) | omega | simp) [wrap_i64, le_most, lt_omega, le_omega, ne_omega, allLen, htm]
  refine CallK.of (c13 V.length 1 (by omega) (by omega)) (by first | exact .inl rfl | exact .inr (by simp)) (by simp) ?_
  simp (maxSteps := 1000000) (disch := first | (exact DrawOk.mk (by decide +kernel)) | omega | simp) [wrap_i64, le_most, lt_omega, le_omega, ne_omega, allLen, e2]
  refine CallK.of (c7 ls g1 g2) (by first | exact .inl rfl | exact .inr (by simp)) (by simp) ?_
  simp (maxSteps := 1000000) (disch := first | (exact DrawOk.mk (by decide +kernel)) | omega | simp) [wrap_i64, le_most, lt_omega, le_omega, ne_omega, allLen]
  refine CallK.of (c8 ls g1 g2) (by first | exact .inl rfl | exact .inr (by simp)) (by simp) ?_
  rw [hV, hC]
  simp (maxSteps := 1000000) (disch := first | (exact DrawOk.mk (by decide +kernel)) | omega | simp) [wrap_i64, le_most, lt_omega, le_omega, ne_omega, allLen]
  refine CallK.of (c9 V (by omega)) (by first | exact .inl rfl | exact .inr (by simp)) (by simp) ?_
  simp (maxSteps := 1000000) (disch := first | (exact DrawOk.mk (by decide +kernel)) | omega | simp) [wrap_i64, le_most, lt_omega, le_omega, ne_omega, allLen, htm]
  refine CallK.of (c13 V.length 1 (by omega) (by omega)) (by first | exact .inl rfl | exact .inr (by simp)) (by simp) ?_
  simp (maxSteps := 1000000) (disch := first | (exact DrawOk.mk (by decide +kernel)) | omega | simp) [wrap_i64, le_most, lt_omega, le_omega, ne_omega, allLen, e2]
end Go.Vai
