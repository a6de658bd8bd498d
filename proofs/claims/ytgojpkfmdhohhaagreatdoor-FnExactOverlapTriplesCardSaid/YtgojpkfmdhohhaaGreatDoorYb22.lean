/- Merged texts of this claim: Zp17, Zp18. -/
import Derived.Test.YtgojpkfmdhohhaaGreatDoorYb20
/- Orders of places: the law. -/
set_option linter.unusedVariables false
set_option linter.unusedSimpArgs false
set_option maxHeartbeats 8000000
namespace Go.Vai
open Iq
/-! ### Pairs that overlap -/
def encPr (p : Nat × Nat) : List IV := [.int .i64 p.1, .int .i64 p.2]
@[simp] theorem encPr_len (p : Nat × Nat) : (encPr p).length = 2 := rfl
def ovG (ls : List (List Pt)) (a b : Nat) : Bool := ovI (ls.getD a []) (ls.getD b [])
def rowP (ls : List (List Pt)) (a : Nat) : Nat → List (Nat × Nat)
  | 0 => []
  | b + 1 => rowP ls a b ++ if a < b ∧ ovG ls a b = true then [(a, b)] else []
def allP (ls : List (List Pt)) : Nat → List (Nat × Nat)
  | 0 => []
  | a + 1 => allP ls a ++ rowP ls a ls.length
theorem rowP_zero (ls : List (List Pt)) (a : Nat) : ∀ b, b ≤ a + 1 → rowP ls a b = []
  | 0, _ => rfl
  | b + 1, h => by
    simp only [rowP]
    rw [rowP_zero ls a b (by omega), if_neg (by omega)]; rfl
theorem rowP_len (ls : List (List Pt)) (a : Nat) : ∀ b, (rowP ls a b).length ≤ b
  | 0 => by simp [rowP]
  | b + 1 => by
    have := rowP_len ls a b
    simp only [rowP, List.length_append]
    split <;> simp <;> omega
theorem allP_len (ls : List (List Pt)) : ∀ a, (allP ls a).length ≤ a * ls.length
  | 0 => by simp [allP]
  | a + 1 => by
    have h1 := allP_len ls a
    have h2 := rowP_len ls a ls.length
    simp only [allP, List.length_append, Nat.add_mul, Nat.one_mul]; omega
theorem rowP_mem (ls : List (List Pt)) (a : Nat) (x : Nat × Nat) : ∀ b, x ∈ rowP ls a b ↔ x.1 = a ∧ a < x.2 ∧ x.2 < b ∧ ovG ls a x.2 = true
  | 0 => by simp [rowP]
  | b + 1 => by
    simp only [rowP, List.mem_append, rowP_mem ls a x b]
    obtain ⟨y, z⟩ := x
    by_cases hc : a < b ∧ ovG ls a b = true
    · rw [if_pos hc]
      simp only [List.mem_singleton, Prod.mk.injEq]
      constructor
      · rintro (⟨h1, h2, h3, h4⟩ | ⟨rfl, rfl⟩)
        · exact ⟨h1, h2, by omega, h4⟩
        · exact ⟨rfl, hc.1, by omega, hc.2⟩
      · rintro ⟨h1, h2, h3, h4⟩
        by_cases e : z = b
        · exact .inr ⟨h1, e⟩
        · exact .inl ⟨h1, h2, by omega, h4⟩
    · rw [if_neg hc]
      simp only [List.not_mem_nil, or_false]
      constructor
      · rintro ⟨h1, h2, h3, h4⟩; exact ⟨h1, h2, by omega, h4⟩
      · rintro ⟨h1, h2, h3, h4⟩
        refine ⟨h1, h2, ?_, h4⟩
        by_cases e : z = b
        · subst e; exact (hc ⟨h2, h4⟩).elim
        · omega
theorem allP_mem (ls : List (List Pt)) (x : Nat × Nat) : ∀ n, x ∈ allP ls n ↔ x.1 < n ∧ x.1 < x.2 ∧ x.2 < ls.length ∧ ovG ls x.1 x.2 = true
  | 0 => by simp [allP]
  | n + 1 => by
    simp only [allP, List.mem_append, allP_mem ls x n, rowP_mem]
    constructor
    · rintro (⟨h1, h2, h3, h4⟩ | ⟨h1, h2, h3, h4⟩)
      · exact ⟨by omega, h2, h3, h4⟩
      · rw [← h1] at h2 h4; exact ⟨by omega, h2, h3, h4⟩
    · rintro ⟨h1, h2, h3, h4⟩
      by_cases e : x.1 = n
      · exact .inr ⟨e, by omega, h3, by rw [← e]; exact h4⟩
      · exact .inl ⟨by omega, h2, h3, h4⟩
theorem getD_enc {ls : List (List Pt)} {k : Nat} (hk : k < ls.length) : (ls.map encG)[k]? = some [.sl (encPs (ls.getD k []))] := by
  simp [hk, encG]
theorem getD_pol {ls : List (List Pt)} (h : ∀ l ∈ ls, polI l = true) {k : Nat} (hk : k < ls.length) : polI (ls.getD k []) = true := by
  have : ls.getD k [] = ls[k] := by simp [hk]
  rw [this]; exact h _ (List.getElem_mem _)
def prS (l : List (Nat × Nat)) : AV := if l = [] then .esl else .own 35 0 l.length
def prH (l : List (Nat × Nat)) : List (Nat × Obj) := if l = [] then [] else [(35, ⟨2, l.map encPr⟩)]
def accP (ls : List (List Pt)) (a b : Nat) : List (Nat × Nat) := allP ls a ++ rowP ls a b
theorem row_step (ls : List (List Pt)) {a b : Nat} (h : a < b) : accP ls a (b + 1) = accP ls a b ++ if ovG ls a b = true then [(a, b)] else [] := by
  simp only [accP, rowP, List.append_assoc]
  congr 2
  by_cases hc : ovG ls a b = true
  · rw [if_pos hc, if_pos ⟨h, hc⟩]
  · rw [if_neg hc, if_neg (fun x => hc x.2)]
theorem accP_zero (ls : List (List Pt)) (a : Nat) : accP ls a (a + 1) = allP ls a := by
  unfold accP; rw [rowP_zero ls a (a + 1) (Nat.le_refl _), List.append_nil]
theorem accP_all (ls : List (List Pt)) (a : Nat) : accP ls a ls.length = allP ls (a + 1) := rfl
theorem accP_len (ls : List (List Pt)) {a b : Nat} (ha : a < ls.length) (hb : b ≤ ls.length) (hn : ls.length ≤ 24) : (accP ls a b).length ≤ 600 := by
  have h1 := allP_len ls a
  have h2 := rowP_len ls a b
  have h3 := Nat.mul_le_mul (show a ≤ 24 by omega) hn
  unfold accP
  rw [List.length_append]; omega
theorem c21 (ls : List (List Pt)) (h : ∀ l ∈ ls, polI l = true) (hn : ls.length ≤ 24) : PC E 21 [.i (.sl (ls.map encG))] [.i (.sl ((allP ls ls.length).map encPr))] := by
  refine PC_start hE Proofs.Tryz.func21 rfl rfl Proofs.Tryz.ntmps21 (by kernel_rfl) (by kernel_rfl) (by simp) ?_
  simp (maxSteps := 1000000) (disch := first | (exact DrawOk.mk (by decide +kernel)) | omega | simp) [wrap_i64, le_most, lt_omega, le_omega, ne_omega, allLen]
  refine XL.by hE (ι := { a : Nat // a ≤ ls.length }) (fun a => ⟨[(0, .i (.sl (ls.map encG))), (3, prS (allP ls a.1)), (4, .i (.int .i64 a.1))], prH (allP ls a.1)⟩)
    (fun a => ls.length - a.1) ⟨0, Nat.zero_le _⟩ ⟨by simp [prS, allP], by simp [prH, allP], by simp [prS, allP]⟩ (by kernel_rfl) ?_
  rintro ⟨a, ha⟩
  have hal := allP_len ls a
  have hab : (allP ls a).length ≤ 576 := Nat.le_trans hal (by have := Nat.mul_le_mul (show a ≤ 24 by omega) hn; omega)
  by_cases hlt : a < ls.length
  · have rz := accP_zero ls a
    rcases Classical.em (allP ls a = []) with h0 | h0 <;> simp (maxSteps := 1000000) (disch := first | (exact DrawOk.mk (by decide +kernel)) | omega | simp) [wrap_i64, le_most, lt_omega, le_omega, ne_omega, allLen, hlt, prS, prH, h0] <;>
      refine XL.by hE (ι := { b : Nat // a + 1 ≤ b ∧ b ≤ ls.length }) (fun b => ⟨[(0, .i (.sl (ls.map encG))), (3, prS (accP ls a b.1)), (4, .i (.int .i64 a)), (5, .i (.int .i64 b.1))], prH (accP ls a b.1)⟩)
        (fun b => ls.length - b.1) ⟨a + 1, Nat.le_refl _, by omega⟩ ⟨by simp [prS, h0, rz], by simp [prH, h0, rz], by simp [prS, prH, h0, rz]⟩ (by kernel_rfl) ?_
    all_goals
      rintro ⟨b, hb1, hb2⟩
      have hRl := accP_len ls hlt hb2 hn
      by_cases hlb : b < ls.length
      · have hst := row_step ls (a := a) (b := b) (by omega)
        have ga := getD_enc hlt
        have gb := getD_enc hlb
        have hov := o33 (getD_pol h hlt) (getD_pol h hlb)
        rw [show ovI (ls.getD a []) (ls.getD b []) = ovG ls a b from rfl] at hov
        generalize ovG ls a b = c at *
        generalize ls.getD a [] = A at *
        generalize ls.getD b [] = B at *
        have tk : List.take (accP ls a b).length (List.map encPr (accP ls a b)) = List.map encPr (accP ls a b) := List.take_of_length_le (by simp)
        have big1 : ((accP ls a b).length : Int) + 1 ≤ 140737488355328 := by omega
        have big2 : (((accP ls a b).length : Int) + 1) * 16 ≤ 140737488355328 := by omega
        rcases Classical.em (accP ls a b = []) with hR | hR
        · simp (maxSteps := 1000000) (disch := first | (exact DrawOk.mk (by decide +kernel)) | omega | simp) [wrap_i64, le_most, lt_omega, le_omega, ne_omega, allLen, hlt, hlb, ga, gb, prS, prH, hR]
          refine CallK.of (hov) (by first | exact .inl rfl | exact .inr (by simp)) (by simp) ?_
          simp (maxSteps := 1000000) (disch := first | (exact DrawOk.mk (by decide +kernel)) | omega | simp) [wrap_i64, le_most, lt_omega, le_omega, ne_omega, allLen]
          (first | refine Gd.dec (fun h4 => ?_) (fun h4 => ?_) | refine Gd.intro (fun h4 => ?_) (fun h4 => ?_)) <;> simp (maxSteps := 1000000) (disch := first | (exact DrawOk.mk (by decide +kernel)) | omega | simp) [wrap_i64, le_most, lt_omega, le_omega, ne_omega, allLen, h4]
          · rw [if_pos h4, hR, List.nil_append] at hst
            try (simp (maxSteps := 1000000) (disch := first | (exact DrawOk.mk (by decide +kernel)) | omega | simp) [wrap_i64, le_most, lt_omega, le_omega, ne_omega, allLen, most])
            (refine ⟨⟨b + 1, by omega, by omega⟩, by (simp; try omega), ?_⟩; constructor <;> (simp (maxSteps := 1000000) (disch := first | (exact DrawOk.mk (by decide +kernel)) | omega | simp) [wrap_i64, le_most, lt_omega, le_omega, ne_omega, allLen, hst, prS, prH, encPr]) <;> (try omega))
          · rw [if_neg (by rw [h4]; simp), hR, List.nil_append] at hst
            (refine ⟨⟨b + 1, by omega, by omega⟩, by (simp; try omega), ?_⟩; constructor <;> (simp (maxSteps := 1000000) (disch := first | (exact DrawOk.mk (by decide +kernel)) | omega | simp) [wrap_i64, le_most, lt_omega, le_omega, ne_omega, allLen, hst, prS, prH]) <;> (try omega))
        · simp (maxSteps := 1000000) (disch := first | (exact DrawOk.mk (by decide +kernel)) | omega | simp) [wrap_i64, le_most, lt_omega, le_omega, ne_omega, allLen, hlt, hlb, ga, gb, prS, prH, hR]
          refine CallK.of (hov) (by first | exact .inl rfl | exact .inr (by simp)) (by simp) ?_
          simp (maxSteps := 1000000) (disch := first | (exact DrawOk.mk (by decide +kernel)) | omega | simp) [wrap_i64, le_most, lt_omega, le_omega, ne_omega, allLen]
          (first | refine Gd.dec (fun h4 => ?_) (fun h4 => ?_) | refine Gd.intro (fun h4 => ?_) (fun h4 => ?_)) <;> simp (maxSteps := 1000000) (disch := first | (exact DrawOk.mk (by decide +kernel)) | omega | simp) [wrap_i64, le_most, lt_omega, le_omega, ne_omega, allLen, h4]
          · rw [if_pos h4] at hst
            try (simp (maxSteps := 1000000) (disch := first | (exact DrawOk.mk (by decide +kernel)) | omega | simp) [wrap_i64, le_most, lt_omega, le_omega, ne_omega, allLen, most, big1, big2])
            (refine ⟨⟨b + 1, by omega, by omega⟩, by (simp; try omega), ?_⟩; constructor <;> (simp (maxSteps := 1000000) (disch := first | (exact DrawOk.mk (by decide +kernel)) | omega | simp) [wrap_i64, le_most, lt_omega, le_omega, ne_omega, allLen, hst, prS, prH, encPr, tk]) <;> (try omega))
          · rw [if_neg (by rw [h4]; simp), List.append_nil] at hst
            (refine ⟨⟨b + 1, by omega, by omega⟩, by (simp; try omega), ?_⟩; constructor <;> (simp (maxSteps := 1000000) (disch := first | (exact DrawOk.mk (by decide +kernel)) | omega | simp) [wrap_i64, le_most, lt_omega, le_omega, ne_omega, allLen, hst, prS, prH, hR]) <;> (try omega))
      · obtain rfl : b = ls.length := by omega
        have hst := accP_all ls a
        rcases Classical.em (accP ls a ls.length = []) with hR | hR
        · simp (maxSteps := 1000000) (disch := first | (exact DrawOk.mk (by decide +kernel)) | omega | simp) [wrap_i64, le_most, lt_omega, le_omega, ne_omega, allLen, prS, prH, hR]
          (refine ⟨⟨a + 1, by omega⟩, by (simp; try omega), ?_⟩; constructor <;> (simp (maxSteps := 1000000) (disch := first | (exact DrawOk.mk (by decide +kernel)) | omega | simp) [wrap_i64, le_most, lt_omega, le_omega, ne_omega, allLen, ← hst, prS, prH, hR]) <;> (try omega))
        · simp (maxSteps := 1000000) (disch := first | (exact DrawOk.mk (by decide +kernel)) | omega | simp) [wrap_i64, le_most, lt_omega, le_omega, ne_omega, allLen, prS, prH, hR]
          (refine ⟨⟨a + 1, by omega⟩, by (simp; try omega), ?_⟩; constructor <;> (simp (maxSteps := 1000000) (disch := first | (exact DrawOk.mk (by decide +kernel)) | omega | simp) [wrap_i64, le_most, lt_omega, le_omega, ne_omega, allLen, ← hst, prS, prH, hR]) <;> (try omega))
  · obtain rfl : a = ls.length := by omega
    by_cases h0 : allP ls ls.length = []
    · simp (maxSteps := 1000000) (disch := first | (exact DrawOk.mk (by decide +kernel)) | omega | simp) [wrap_i64, le_most, lt_omega, le_omega, ne_omega, allLen, prS, prH, h0]
    · have tk : List.take (allP ls ls.length).length (List.map encPr (allP ls ls.length)) = List.map encPr (allP ls ls.length) := List.take_of_length_le (by simp)
      simp (maxSteps := 1000000) (disch := first | (exact DrawOk.mk (by decide +kernel)) | omega | simp) [wrap_i64, le_most, lt_omega, le_omega, ne_omega, allLen, prS, prH, h0, tk]
/-- The place of a pair; -1 if it is not there. -/
def pairAt (l : List (Nat × Nat)) (a b : Int) : Int := match l.findIdx? fun p => decide ((p.1 : Int) = a) && decide ((p.2 : Int) = b) with
  | some i => i
  | none => -1
theorem pairAt_mem (l : List (Nat × Nat)) (a b : Nat) : decide (0 ≤ pairAt l a b) = decide ((a, b) ∈ l) := by
  unfold pairAt
  cases hf : l.findIdx? fun p => decide ((p.1 : Int) = (a : Int)) && decide ((p.2 : Int) = (b : Int)) with
  | none =>
    rw [List.findIdx?_eq_none_iff] at hf
    have : (a, b) ∉ l := fun hm => by simpa using hf _ hm
    simp [this]
  | some i =>
    rw [List.findIdx?_eq_some_iff_getElem] at hf
    obtain ⟨hi, hp, -⟩ := hf
    simp only [Bool.and_eq_true, decide_eq_true_eq] at hp
    have hm : (a, b) ∈ l := by
      have e : l[i] = (a, b) := Prod.ext (by simpa using (by omega : l[i].1 = a)) (by simpa using (by omega : l[i].2 = b))
      rw [← e]; exact List.getElem_mem _
    simp [hm]
theorem c44 (l : List (Nat × Nat)) (a b : Int) (h : (l.length : Int) ≤ 1048576) : PC E 44 [.i (.sl (l.map encPr)), .i (.int .i64 a), .i (.int .i64 b)] [.i (.int .i64 (pairAt l a b))] := by
  refine PC_start hE Proofs.Tryz.func44 rfl rfl Proofs.Tryz.ntmps44 (by kernel_rfl) (by kernel_rfl) (by simp) ?_
  simp (maxSteps := 1000000) (disch := first | (exact DrawOk.mk (by decide +kernel)) | omega | simp) [wrap_i64, le_most, lt_omega, le_omega, ne_omega, allLen]
  refine XL.by hE (ι := { k : Nat // k ≤ l.length ∧ ∀ (j : Nat) (hj : j < l.length), j < k → (decide ((l[j].1 : Int) = a) && decide ((l[j].2 : Int) = b)) = false }) (fun k => ⟨[(0, .i (.sl (l.map encPr))), (1, .i (.int .i64 a)), (2, .i (.int .i64 b)), (7, .i (.int .i64 k.1))], []⟩)
    (fun k => l.length - k.1) ⟨0, Nat.zero_le _, by simp⟩ ⟨by simp, by simp, by simp⟩ (by kernel_rfl) ?_
  rintro ⟨k, hk, hno⟩
  by_cases hlt : k < l.length
  · have found : (decide ((l[k].1 : Int) = a) && decide ((l[k].2 : Int) = b)) = true → pairAt l a b = k := fun hp => by
      have : (l.findIdx? fun p => decide ((p.1 : Int) = a) && decide ((p.2 : Int) = b)) = some k := by
        rw [List.findIdx?_eq_some_iff_getElem]
        exact ⟨hlt, hp, fun j hj => by simpa using hno j (by omega) hj⟩
      simp [pairAt, this]
    have step : ¬ ((l[k].1 : Int) = a ∧ (l[k].2 : Int) = b) → ∀ (j : Nat) (hj : j < l.length), j < k + 1 → (decide ((l[j].1 : Int) = a) && decide ((l[j].2 : Int) = b)) = false := fun hc j hj hjk => by
      rcases Nat.lt_succ_iff_lt_or_eq.1 hjk with h' | rfl
      · exact hno j hj h'
      · rw [← Bool.not_eq_true]; simpa using hc
    simp (maxSteps := 1000000) (disch := first | (exact DrawOk.mk (by decide +kernel)) | omega | simp) [wrap_i64, le_most, lt_omega, le_omega, ne_omega, allLen, hlt, encPr]
    (first | refine Gd.dec (fun h4 => ?_) (fun h4 => ?_) | refine Gd.intro (fun h4 => ?_) (fun h4 => ?_)) <;> simp (maxSteps := 1000000) (disch := first | (exact DrawOk.mk (by decide +kernel)) | omega | simp) [wrap_i64, le_most, lt_omega, le_omega, ne_omega, allLen, h4]
    · simp (maxSteps := 1000000) (disch := first | (exact DrawOk.mk (by decide +kernel)) | omega | simp) [wrap_i64, le_most, lt_omega, le_omega, ne_omega, allLen, hlt, encPr]
      (first | refine Gd.dec (fun h5 => ?_) (fun h5 => ?_) | refine Gd.intro (fun h5 => ?_) (fun h5 => ?_)) <;> simp (maxSteps := 1000000) (disch := first | (exact DrawOk.mk (by decide +kernel)) | omega | simp) [wrap_i64, le_most, lt_omega, le_omega, ne_omega, allLen, h5]
      · rw [found (by simp [h4, h5])]
      · (refine ⟨⟨k + 1, by omega, step (fun x => h5 x.2)⟩, by (simp; try omega), ?_⟩; constructor <;> (simp (maxSteps := 1000000) (disch := first | (exact DrawOk.mk (by decide +kernel)) | omega | simp) [wrap_i64, le_most, lt_omega, le_omega, ne_omega, allLen, encPr]) <;> (try omega))
    · (refine ⟨⟨k + 1, by omega, step (fun x => h4 x.1)⟩, by (simp; try omega), ?_⟩; constructor <;> (simp (maxSteps := 1000000) (disch := first | (exact DrawOk.mk (by decide +kernel)) | omega | simp) [wrap_i64, le_most, lt_omega, le_omega, ne_omega, allLen, encPr]) <;> (try omega))
  · obtain rfl : k = l.length := by omega
    have : (l.findIdx? fun p => decide ((p.1 : Int) = a) && decide ((p.2 : Int) = b)) = none := by
      rw [List.findIdx?_eq_none_iff]
      intro x hx
      obtain ⟨j, hj, rfl⟩ := List.getElem_of_mem hx
      exact hno j hj hj
    simp (maxSteps := 1000000) (disch := first | (exact DrawOk.mk (by decide +kernel)) | omega | simp) [wrap_i64, le_most, lt_omega, le_omega, ne_omega, allLen, pairAt, this]
/-! ### Orders -/
def at2 (os : List Int) (n i k : Nat) : Int := os.getD (i * n + k) 0
def ordC (ls : List (List Pt)) (os : List Int) (i k : Nat) : Bool :=
  inB (at2 os ls.length i k) (-1) 1 && (decide (at2 os ls.length i k = -at2 os ls.length k i) && (!decide (i < k) || (decide (at2 os ls.length i k ≠ 0) == ovG ls i k)))
def ordB (ls : List (List Pt)) (os : List Int) : Bool := decide (os.length = ls.length * ls.length) && (List.range ls.length).all fun i => (List.range ls.length).all fun k => ordC ls os i k
def I64 (x : Int) : Prop := -9223372036854775808 ≤ x ∧ x ≤ 9223372036854775807
end Go.Vai
/- Orders of places: the law. -/
set_option linter.unusedVariables false
set_option linter.unusedSimpArgs false
set_option maxHeartbeats 8000000
namespace Go.Vai
open Iq
theorem hc2 {ls : List (List Pt)} (h : ∀ l ∈ ls, polI l = true) {i k : Nat} (hi : i < ls.length) (hk : k < ls.length) :
    PC E 40 [.i (.sl (ls.map encG)), .i (.sl [[.int .i64 i], [.int .i64 k]])] [.i (.bool (ovG ls i k))] :=
  c40 ls i [(k : Int)] ⟨h, by simp, fun f hf => by
    simp only [List.mem_cons, List.not_mem_nil, or_false] at hf
    rcases hf with rfl | rfl <;> omega⟩
theorem idx_lt {i k n : Nat} (hi : i < n) (hk : k < n) : i * n + k < n * n := by
  have := Nat.mul_le_mul_right n (show i + 1 ≤ n by omega)
  rw [Nat.add_mul, Nat.one_mul] at this
  omega
theorem at2_get {os : List Int} {n i k : Nat} (h : os.length = n * n) (hi : i < n) (hk : k < n) : (os.map encI)[i * n + k]? = some [.int .i64 (at2 os n i k)] := by
  have hl := idx_lt hi hk
  have hlt : i * n + k < os.length := by omega
  simp [at2, hlt, encI]
theorem at2_i64 {os : List Int} {n i k : Nat} (hb : ∀ x ∈ os, I64 x) (h : os.length = n * n) (hi : i < n) (hk : k < n) : I64 (at2 os n i k) := by
  have hl := idx_lt hi hk
  have hlt : i * n + k < os.length := by omega
  have : at2 os n i k = os[i * n + k] := by simp [at2, hlt]
  rw [this]; exact hb _ (List.getElem_mem _)
theorem at2_eq {os : List Int} {n i k : Nat} (hl : i * n + k < os.length) : os[i * n + k] = at2 os n i k := by simp [at2, hl]
/-- The opposite number, as it is reckoned. -/
theorem neg_w {y : Int} (h : I64 y) : ∃ W, IntKind.i64.wrap (-y) = W ∧ ((W = -y ∧ y ≠ -9223372036854775808) ∨ (y = -9223372036854775808 ∧ W = -9223372036854775808)) := by
  obtain ⟨h1, h2⟩ := h
  by_cases e : y = -9223372036854775808
  · subst e; exact ⟨_, rfl, .inr ⟨rfl, by decide⟩⟩
  · exact ⟨_, rfl, .inl ⟨wrap_i64 (by omega) (by omega), e⟩⟩
theorem ordB_no {ls : List (List Pt)} {os : List Int} {i k : Nat} (hi : i < ls.length) (hk : k < ls.length) (h : ordC ls os i k = false) : ordB ls os = false := by
  rw [← Bool.not_eq_true]; intro hr
  unfold ordB at hr
  simp only [Bool.and_eq_true, List.all_eq_true, List.mem_range] at hr
  rw [hr.2 i hi k hk] at h; simp at h
theorem ordB_yes {ls : List (List Pt)} {os : List Int} (h0 : os.length = ls.length * ls.length) (h : ∀ i, i < ls.length → ∀ k, k < ls.length → ordC ls os i k = true) : ordB ls os = true := by
  unfold ordB
  simp only [Bool.and_eq_true, List.all_eq_true, List.mem_range, decide_eq_true_eq]
  exact ⟨h0, h⟩
/-! ### The reference -/
def spcC (ls : List (List Pt)) (os : List Int) (i k : Nat) : Bool :=
  decide (at2 os ls.length k i = -at2 os ls.length i k) && (inB (at2 os ls.length i k) (-1) 1 && (decide (at2 os ls.length i k ≠ 0) == decide ((i, k) ∈ allP ls ls.length)))
theorem ord_spc {ls : List (List Pt)} {os : List Int} (h0 : os.length = ls.length * ls.length) : ordB ls os = true ↔ ∀ i, i < ls.length → ∀ k, i ≤ k → k < ls.length → spcC ls os i k = true := by
  unfold ordB
  simp only [Bool.and_eq_true, List.all_eq_true, List.mem_range, decide_eq_true_eq]
  constructor
  · rintro ⟨-, h⟩ i hi k hik hk
    have h1 := h i hi k hk
    simp only [ordC, Bool.and_eq_true, decide_eq_true_eq] at h1
    obtain ⟨a, b, c⟩ := h1
    unfold spcC
    rw [decide_eq_true (show at2 os ls.length k i = -at2 os ls.length i k by omega), a]
    by_cases e : i = k
    · subst e
      have hz : at2 os ls.length i i = 0 := by omega
      have hm : ¬ (i, i) ∈ allP ls ls.length := fun hm => by have := ((allP_mem ls (i, i) ls.length).1 hm).2.1; simp at this
      simp [hz, hm]
    · rw [decide_eq_true (show i < k by omega)] at c
      have hm : decide ((i, k) ∈ allP ls ls.length) = ovG ls i k := by
        rw [Bool.eq_iff_iff, decide_eq_true_eq, allP_mem]
        exact ⟨fun x => x.2.2.2, fun x => ⟨hi, by show i < k; omega, hk, x⟩⟩
      rw [hm]
      simpa using c
  · intro h
    refine ⟨h0, fun i hi k hk => ?_⟩
    unfold ordC
    rcases Nat.lt_trichotomy i k with e | e | e
    · have h1 := h i hi k (by omega) hk
      simp only [spcC, Bool.and_eq_true, decide_eq_true_eq] at h1
      obtain ⟨a, b, c⟩ := h1
      have hm : decide ((i, k) ∈ allP ls ls.length) = ovG ls i k := by
        rw [Bool.eq_iff_iff, decide_eq_true_eq, allP_mem]
        exact ⟨fun x => x.2.2.2, fun x => ⟨hi, by show i < k; omega, hk, x⟩⟩
      rw [hm] at c
      rw [b, decide_eq_true (show at2 os ls.length i k = -at2 os ls.length k i by omega), decide_eq_true e, c]; rfl
    · subst e
      have h1 := h i hi i (by omega) hk
      simp only [spcC, Bool.and_eq_true, decide_eq_true_eq] at h1
      obtain ⟨a, b, c⟩ := h1
      rw [b, decide_eq_true (show at2 os ls.length i i = -at2 os ls.length i i by omega)]
      simp
    · have h1 := h k hk i (by omega) hi
      simp only [spcC, Bool.and_eq_true, decide_eq_true_eq] at h1
      obtain ⟨a, b, c⟩ := h1
      have b' := (inB_iff ..).1 b
      rw [decide_eq_true (show at2 os ls.length i k = -at2 os ls.length k i by omega), decide_eq_false (show ¬ i < k by omega)]
      have : inB (at2 os ls.length i k) (-1) 1 = true := (inB_iff ..).2 (by omega)
      rw [this]; rfl
def vorB (ls : List (List Pt)) (os : List Int) : Bool := plcB ls && ordB ls os
theorem typedI6 {n : Nat} {el : List IV} (h : Typed E n 2 el) : ∃ x, el = encI x ∧ I64 x := by
  obtain ⟨x, he, h1, h2⟩ := typedZ h
  exact ⟨x, he, h1, h2⟩
end Go.Vai
