/- Merged texts of this claim: Zp17, Zp18. -/
import Derived.Test.YtampfkfcfbjoaaaDoorYb20
/- Orders of places: the law. -/
set_option linter.unusedVariables false
set_option linter.unusedSimpArgs false
set_option maxHeartbeats 8000000
namespace Go.Vai
open Iq
/-! ### Pairs that overlap -/
def encPr (p : Nat × Nat) : List IV := [.int .i64 p.1, .int .i64 p.2]
@[simp] theorem encPr_len (p : Nat × Nat) : (encPr p).length = 2 := rfl
def ovG (ls : List (List Pt)) (a b : Nat) : Bool := ovI (ls.getD a []) (ls.getD b [])
def rowP (ls : List (List Pt)) (a : Nat) : Nat → List (Nat × Nat)
  | 0 => []
  | b + 1 => rowP ls a b ++ if a < b ∧ ovG ls a b = true then [(a, b)] else []
def allP (ls : List (List Pt)) : Nat → List (Nat × Nat)
  | 0 => []
  | a + 1 => allP ls a ++ rowP ls a ls.length
theorem rowP_zero (ls : List (List Pt)) (a : Nat) : ∀ b, b ≤ a + 1 → rowP ls a b = []
  | 0, _ => rfl
  | b + 1, h => by
    simp only [rowP]
    rw [rowP_zero ls a b (by omega), if_neg (by omega)]; rfl
theorem rowP_len (ls : List (List Pt)) (a : Nat) : ∀ b, (rowP ls a b).length ≤ b
  | 0 => by simp [rowP]
  | b + 1 => by
    have := rowP_len ls a b
    simp only [rowP, List.length_append]
    split <;> simp <;> omega
theorem allP_len (ls : List (List Pt)) : ∀ a, (allP ls a).length ≤ a * ls.length
  | 0 => by simp [allP]
  | a + 1 => by
    have h1 := allP_len ls a
    have h2 := rowP_len ls a ls.length
    simp only [allP, List.length_append, Nat.add_mul, Nat.one_mul]; omega
theorem rowP_mem (ls : List (List Pt)) (a : Nat) (x : Nat × Nat) : ∀ b, x ∈ rowP ls a b ↔ x.1 = a ∧ a < x.2 ∧ x.2 < b ∧ ovG ls a x.2 = true
  | 0 => by simp [rowP]
  | b + 1 => by
    simp only [rowP, List.mem_append, rowP_mem ls a x b]
    obtain ⟨y, z⟩ := x
    by_cases hc : a < b ∧ ovG ls a b = true
    · rw [if_pos hc]
      simp only [List.mem_singleton, Prod.mk.injEq]
      constructor
      · rintro (⟨h1, h2, h3, h4⟩ | ⟨rfl, rfl⟩)
        · exact ⟨h1, h2, by omega, h4⟩
        · exact ⟨rfl, hc.1, by omega, hc.2⟩
      · rintro ⟨h1, h2, h3, h4⟩
        by_cases e : z = b
        · exact .inr ⟨h1, e⟩
        · exact .inl ⟨h1, h2, by omega, h4⟩
    · rw [if_neg hc]
      simp only [List.not_mem_nil, or_false]
      constructor
      · rintro ⟨h1, h2, h3, h4⟩; exact ⟨h1, h2, by omega, h4⟩
      · rintro ⟨h1, h2, h3, h4⟩
        refine ⟨h1, h2, ?_, h4⟩
        by_cases e : z = b
        · subst e; exact (hc ⟨h2, h4⟩).elim
        · omega
theorem allP_mem (ls : List (List Pt)) (x : Nat × Nat) : ∀ n, x ∈ allP ls n ↔ x.1 < n ∧ x.1 < x.2 ∧ x.2 < ls.length ∧ ovG ls x.1 x.2 = true
  | 0 => by simp [allP]
  | n + 1 => by
    simp only [allP, List.mem_append, allP_mem ls x n, rowP_mem]
    constructor
    · rintro (⟨h1, h2, h3, h4⟩ | ⟨h1, h2, h3, h4⟩)
      · exact ⟨by omega, h2, h3, h4⟩
      · rw [← h1] at h2 h4; exact ⟨by omega, h2, h3, h4⟩
    · rintro ⟨h1, h2, h3, h4⟩
      by_cases e : x.1 = n
      · exact .inr ⟨e, by omega, h3, by rw [← e]; exact h4⟩
      · exact .inl ⟨by omega, h2, h3, h4⟩
theorem getD_enc {ls : List (List Pt)} {k : Nat} (hk : k < ls.length) : (ls.map encG)[k]? = some [.sl (encPs (ls.getD k []))] := by
  simp [hk, encG]
theorem getD_pol {ls : List (List Pt)} (h : ∀ l ∈ ls, polI l = true) {k : Nat} (hk : k < ls.length) : polI (ls.getD k []) = true := by
  have : ls.getD k [] = ls[k] := by simp [hk]
  rw [this]; exact h _ (List.getElem_mem _)
def prS (l : List (Nat × Nat)) : AV := if l = [] then .esl else .own 35 0 l.length
def prH (l : List (Nat × Nat)) : List (Nat × Obj) := if l = [] then [] else [(35, ⟨2, l.map encPr⟩)]
def accP (ls : List (List Pt)) (a b : Nat) : List (Nat × Nat) := allP ls a ++ rowP ls a b
theorem row_step (ls : List (List Pt)) {a b : Nat} (h : a < b) : accP ls a (b + 1) = accP ls a b ++ if ovG ls a b = true then [(a, b)] else [] := by
  simp only [accP, rowP, List.append_assoc]
  congr 2
  by_cases hc : ovG ls a b = true
  · rw [if_pos hc, if_pos ⟨h, hc⟩]
  · rw [if_neg hc, if_neg (fun x => hc x.2)]
theorem accP_zero (ls : List (List Pt)) (a : Nat) : accP ls a (a + 1) = allP ls a := by
  unfold accP; rw [rowP_zero ls a (a + 1) (Nat.le_refl _), List.append_nil]
theorem accP_all (ls : List (List Pt)) (a : Nat) : accP ls a ls.length = allP ls (a + 1) := rfl
theorem accP_len (ls : List (List Pt)) {a b : Nat} (ha : a < ls.length) (hb : b ≤ ls.length) (hn : ls.length ≤ 24) : (accP ls a b).length ≤ 600 := by
  have h1 := allP_len ls a
  have h2 := rowP_len ls a b
  have h3 := Nat.mul_le_mul (show a ≤ 24 by omega) hn
  unfold accP
  rw [List.length_append]; omega
theorem c61 (ls : List (List Pt)) (h : ∀ l ∈ ls, polI l = true) (hn : ls.length ≤ 24) : PC E 61 [.i (.sl (ls.map encG))] [.i (.sl ((allP ls ls.length).map encPr))] := by
  refine PC_start hE Proofs.Tryd.func61 rfl rfl Proofs.Tryd.ntmps61 (by kernel_rfl) (by kernel_rfl) (by simp) ?_
  simp (maxSteps := 1000000) (disch := first | (exact DrawOk.mk (by decide +kernel)) | omega | simp) [wrap_i64, le_most, lt_omega, le_omega, ne_omega, allLen]
  refine XL.by hE (ι := { a : Nat // a ≤ ls.length }) (fun a => ⟨[(0, .i (.sl (ls.map encG))), (3, prS (allP ls a.1)), (4, .i (.int .i64 a.1))], prH (allP ls a.1)⟩)
    (fun a => ls.length - a.1) ⟨0, Nat.zero_le _⟩ ⟨by simp [prS, allP], by simp [prH, allP], by simp [prS, allP]⟩ (by kernel_rfl) ?_
  rintro ⟨a, ha⟩
  have hal := allP_len ls a
  have hab : (allP ls a).length ≤ 576 := Nat.le_trans hal (by have := Nat.mul_le_mul (show a ≤ 24 by omega) hn; omega)
  by_cases hlt : a < ls.length
  · have rz := accP_zero ls a
    rcases Classical.em (allP ls a = []) with h0 | h0 <;> simp (maxSteps := 1000000) (disch := first | (exact DrawOk.mk (by decide +kernel)) | omega | simp) [wrap_i64, le_most, lt_omega, le_omega, ne_omega, allLen, hlt, prS, prH, h0] <;>
      refine XL.by hE (ι := { b : Nat // a + 1 ≤ b ∧ b ≤ ls.length }) (fun b => ⟨[(0, .i (.sl (ls.map encG))), (3, prS (accP ls a b.1)), (4, .i (.int .i64 a)), (5, .i (.int .i64 b.1))], prH (accP ls a b.1)⟩)
        (fun b => ls.length - b.1) ⟨a + 1, Nat.le_refl _, by omega⟩ ⟨by simp [prS, h0, rz], by simp [prH, h0, rz], by simp [prS, prH, h0, rz]⟩ (by kernel_rfl) ?_
    all_goals
      rintro ⟨b, hb1, hb2⟩
      have hRl := accP_len ls hlt hb2 hn
      by_cases hlb : b < ls.length
      · have hst := row_step ls (a := a) (b := b) (by omega)
        have ga := getD_enc hlt
        have gb := getD_enc hlb
        have hov := o32 (getD_pol h hlt) (getD_pol h hlb)
        rw [show ovI (ls.getD a []) (ls.getD b []) = ovG ls a b from rfl] at hov
        generalize ovG ls a b = c at *
        generalize ls.getD a [] = A at *
        generalize ls.getD b [] = B at *
        have tk : List.take (accP ls a b).length (List.map encPr (accP ls a b)) = List.map encPr (accP ls a b) := List.take_of_length_le (by simp)
        have big1 : ((accP ls a b).length : Int) + 1 ≤ 140737488355328 := by omega
        have big2 : (((accP ls a b).length : Int) + 1) * 16 ≤ 140737488355328 := by omega
        rcases Classical.em (accP ls a b = []) with hR | hR
        · simp (maxSteps := 1000000) (disch := first | (exact DrawOk.mk (by decide +kernel)) | omega | simp) [wrap_i64, le_most, lt_omega, le_omega, ne_omega, allLen, hlt, hlb, ga, gb, prS, prH, hR]
          refine CallK.of (hov) (by first | exact .inl rfl | exact .inr (by simp)) (by simp) ?_
          simp (maxSteps := 1000000) (disch := first | (exact DrawOk.mk (by decide +kernel)) | omega | simp) [wrap_i64, le_most, lt_omega, le_omega, ne_omega, allLen]
          (first | refine Gd.dec (fun h4 => ?_) (fun h4 => ?_) | refine Gd.intro (fun h4 => ?_) (fun h4 => ?_)) <;> simp (maxSteps := 1000000) (disch := first | (exact DrawOk.mk (by decide +kernel)) | omega | simp) [wrap_i64, le_most, lt_omega, le_omega, ne_omega, allLen, h4]
          · rw [if_pos h4, hR, List.nil_append] at hst
            try (simp (maxSteps := 1000000) (disch := first | (exact DrawOk.mk (by decide +kernel)) | omega | simp) [wrap_i64, le_most, lt_omega, le_omega, ne_omega, allLen, most])
            (refine ⟨⟨b + 1, by omega, by omega⟩, by (simp; try omega), ?_⟩; constructor <;> (simp (maxSteps := 1000000) (disch := first | (exact DrawOk.mk (by decide +kernel)) | omega | simp) [wrap_i64, le_most, lt_omega, le_omega, ne_omega, allLen, hst, prS, prH, encPr]) <;> (try omega))
          · rw [if_neg (by rw [h4]; simp), hR, List.nil_append] at hst
            (refine ⟨⟨b + 1, by omega, by omega⟩, by (simp; try omega), ?_⟩; constructor <;> (simp (maxSteps := 1000000) (disch := first | (exact DrawOk.mk (by decide +kernel)) | omega | simp) [wrap_i64, le_most, lt_omega, le_omega, ne_omega, allLen, hst, prS, prH]) <;> (try omega))
        · simp (maxSteps := 1000000) (disch := first | (exact DrawOk.mk (by decide +kernel)) | omega | simp) [wrap_i64, le_most, lt_omega, le_omega, ne_omega, allLen, hlt, hlb, ga, gb, prS, prH, hR]
          refine CallK.of (hov) (by first | exact .inl rfl | exact .inr (by simp)) (by simp) ?_
          simp (maxSteps := 1000000) (disch := first | (exact DrawOk.mk (by decide +kernel)) | omega | simp) [wrap_i64, le_most, lt_omega, le_omega, ne_omega, allLen]
          (first | refine Gd.dec (fun h4 => ?_) (fun h4 => ?_) | refine Gd.intro (fun h4 => ?_) (fun h4 => ?_)) <;> simp (maxSteps := 1000000) (disch := first | (exact DrawOk.mk (by decide +kernel)) | omega | simp) [wrap_i64, le_most, lt_omega, le_omega, ne_omega, allLen, h4]
          · rw [if_pos h4] at hst
            try (simp (maxSteps := 1000000) (disch := first | (exact DrawOk.mk (by decide +kernel)) | omega | simp) [wrap_i64, le_most, lt_omega, le_omega, ne_omega, allLen, most, big1, big2])
            (refine ⟨⟨b + 1, by omega, by omega⟩, by (simp; try omega), ?_⟩; constructor <;> (simp (maxSteps := 1000000) (disch := first | (exact DrawOk.mk (by decide +kernel)) | omega | simp) [wrap_i64, le_most, lt_omega, le_omega, ne_omega, allLen, hst, prS, prH, encPr, tk]) <;> (try omega))
          · rw [if_neg (by rw [h4]; simp), List.append_nil] at hst
            (refine ⟨⟨b + 1, by omega, by omega⟩, by (simp; try omega), ?_⟩; constructor <;> (simp (maxSteps := 1000000) (disch := first | (exact DrawOk.mk (by decide +kernel)) | omega | simp) [wrap_i64, le_most, lt_omega, le_omega, ne_omega, allLen, hst, prS, prH, hR]) <;> (try omega))
      · obtain rfl : b = ls.length := by omega
        have hst := accP_all ls a
        rcases Classical.em (accP ls a ls.length = []) with hR | hR
        · simp (maxSteps := 1000000) (disch := first | (exact DrawOk.mk (by decide +kernel)) | omega | simp) [wrap_i64, le_most, lt_omega, le_omega, ne_omega, allLen, prS, prH, hR]
          (refine ⟨⟨a + 1, by omega⟩, by (simp; try omega), ?_⟩; constructor <;> (simp (maxSteps := 1000000) (disch := first | (exact DrawOk.mk (by decide +kernel)) | omega | simp) [wrap_i64, le_most, lt_omega, le_omega, ne_omega, allLen, ← hst, prS, prH, hR]) <;> (try omega))
        · simp (maxSteps := 1000000) (disch := first | (exact DrawOk.mk (by decide +kernel)) | omega | simp) [wrap_i64, le_most, lt_omega, le_omega, ne_omega, allLen, prS, prH, hR]
          (refine ⟨⟨a + 1, by omega⟩, by (simp; try omega), ?_⟩; constructor <;> (simp (maxSteps := 1000000) (disch := first | (exact DrawOk.mk (by decide +kernel)) | omega | simp) [wrap_i64, le_most, lt_omega, le_omega, ne_omega, allLen, ← hst, prS, prH, hR]) <;> (try omega))
  · obtain rfl : a = ls.length := by omega
    by_cases h0 : allP ls ls.length = []
    · simp (maxSteps := 1000000) (disch := first | (exact DrawOk.mk (by decide +kernel)) | omega | simp) [wrap_i64, le_most, lt_omega, le_omega, ne_omega, allLen, prS, prH, h0]
    · have tk : List.take (allP ls ls.length).length (List.map encPr (allP ls ls.length)) = List.map encPr (allP ls ls.length) := List.take_of_length_le (by simp)
      simp (maxSteps := 1000000) (disch := first | (exact DrawOk.mk (by decide +kernel)) | omega | simp) [wrap_i64, le_most, lt_omega, le_omega, ne_omega, allLen, prS, prH, h0, tk]
/-- The place of a pair; -1 if it is not there. -/
def pairAt (l : List (Nat × Nat)) (a b : Int) : Int := match l.findIdx? fun p => decide ((p.1 : Int) = a) && decide ((p.2 : Int) = b) with
  | some i => i
  | none => -1
theorem pairAt_mem (l : List (Nat × Nat)) (a b : Nat) : decide (0 ≤ pairAt l a b) = decide ((a, b) ∈ l) := by
  unfold pairAt
  cases hf : l.findIdx? fun p => decide ((p.1 : Int) = (a : Int)) && decide ((p.2 : Int) = (b : Int)) with
  | none =>
    rw [List.findIdx?_eq_none_iff] at hf
    have : (a, b) ∉ l := fun hm => by simpa using hf _ hm
    simp [this]
  | some i =>
    rw [List.findIdx?_eq_some_iff_getElem] at hf
    obtain ⟨hi, hp, -⟩ := hf
    simp only [Bool.and_eq_true, decide_eq_true_eq] at hp
    have hm : (a, b) ∈ l := by
      have e : l[i] = (a, b) := Prod.ext (by simpa using (by omega : l[i].1 = a)) (by simpa using (by omega : l[i].2 = b))
      rw [← e]; exact List.getElem_mem _
    simp [hm]
theorem c63 (l : List (Nat × Nat)) (a b : Int) (h : (l.length : Int) ≤ 1048576) : PC E 63 [.i (.sl (l.map encPr)), .i (.int .i64 a), .i (.int .i64 b)] [.i (.int .i64 (pairAt l a b))] := by
  refine PC_start hE Proofs.Tryd.func63 rfl rfl Proofs.Tryd.ntmps63 (by kernel_rfl) (by kernel_rfl) (by simp) ?_
  simp (maxSteps := 1000000) (disch := first | (exact DrawOk.mk (by decide +kernel)) | omega | simp) [wrap_i64, le_most, lt_omega, le_omega, ne_omega, allLen]
  refine XL.by hE (ι := { k : Nat // k ≤ l.length ∧ ∀ (j : Nat) (hj : j < l.length), j < k → (decide ((l[j].1 : Int) = a) && decide ((l[j].2 : Int) = b)) = false }) (fun k => ⟨[(0, .i (.sl (l.map encPr))), (1, .i (.int .i64 a)), (2, .i (.int .i64 b)), (7, .i (.int .i64 k.1))], []⟩)
    (fun k => l.length - k.1) ⟨0, Nat.zero_le _, by simp⟩ ⟨by simp, by simp, by simp⟩ (by kernel_rfl) ?_
  rintro ⟨k, hk, hno⟩
  by_cases hlt : k < l.length
  · have found : (decide ((l[k].1 : Int) = a) && decide ((l[k].2 : Int) = b)) = true → pairAt l a b = k := fun hp => by
      have : (l.findIdx? fun p => decide ((p.1 : Int) = a) && decide ((p.2 : Int) = b)) = some k := by
        rw [List.findIdx?_eq_some_iff_getElem]
        exact ⟨hlt, hp, fun j hj => by simpa using hno j (by omega) hj⟩
      simp [pairAt, this]
    have step : ¬ ((l[k].1 : Int) = a ∧ (l[k].2 : Int) = b) → ∀ (j : Nat) (hj : j < l.length), j < k + 1 → (decide ((l[j].1 : Int) = a) && decide ((l[j].2 : Int) = b)) = false := fun hc j hj hjk => by
      rcases Nat.lt_succ_iff_lt_or_eq.1 hjk with h' | rfl
      · exact hno j hj h'
      · rw [← Bool.not_eq_true]; simpa using hc
    simp (maxSteps := 1000000) (disch := first | (exact DrawOk.mk (by decide +kernel)) | omega | simp) [wrap_i64, le_most, lt_omega, le_omega, ne_omega, allLen, hlt, encPr]
    (first | refine Gd.dec (fun h4 => ?_) (fun h4 => ?_) | refine Gd.intro (fun h4 => ?_) (fun h4 => ?_)) <;> simp (maxSteps := 1000000) (disch := first | (exact DrawOk.mk (by decide +kernel)) | omega | simp) [wrap_i64, le_most, lt_omega, le_omega, ne_omega, allLen, h4]
    · simp (maxSteps := 1000000) (disch := first | (exact DrawOk.mk (by decide +kernel)) | omega | simp) [wrap_i64, le_most, lt_omega, le_omega, ne_omega, allLen, hlt, encPr]
      (first | refine Gd.dec (fun h5 => ?_) (fun h5 => ?_) | refine Gd.intro (fun h5 => ?_) (fun h5 => ?_)) <;> simp (maxSteps := 1000000) (disch := first | (exact DrawOk.mk (by decide +kernel)) | omega | simp) [wrap_i64, le_most, lt_omega, le_omega, ne_omega, allLen, h5]
      · rw [found (by simp [h4, h5])]
      · (refine ⟨⟨k + 1, by omega, step (fun x => h5 x.2)⟩, by (simp; try omega), ?_⟩; constructor <;> (simp (maxSteps := 1000000) (disch := first | (exact DrawOk.mk (by decide +kernel)) | omega | simp) [wrap_i64, le_most, lt_omega, le_omega, ne_omega, allLen, encPr]) <;> (try omega))
    · (refine ⟨⟨k + 1, by omega, step (fun x => h4 x.1)⟩, by (simp; try omega), ?_⟩; constructor <;> (simp (maxSteps := 1000000) (disch := first | (exact DrawOk.mk (by decide +kernel)) | omega | simp) [wrap_i64, le_most, lt_omega, le_omega, ne_omega, allLen, encPr]) <;> (try omega))
  · obtain rfl : k = l.length := by omega
    have : (l.findIdx? fun p => decide ((p.1 : Int) = a) && decide ((p.2 : Int) = b)) = none := by
      rw [List.findIdx?_eq_none_iff]
      intro x hx
      obtain ⟨j, hj, rfl⟩ := List.getElem_of_mem hx
      exact hno j hj hj
    simp (maxSteps := 1000000) (disch := first | (exact DrawOk.mk (by decide +kernel)) | omega | simp) [wrap_i64, le_most, lt_omega, le_omega, ne_omega, allLen, pairAt, this]
/-! ### Orders -/
def at2 (os : List Int) (n i k : Nat) : Int := os.getD (i * n + k) 0
def ordC (ls : List (List Pt)) (os : List Int) (i k : Nat) : Bool :=
  inB (at2 os ls.length i k) (-1) 1 && (decide (at2 os ls.length i k = -at2 os ls.length k i) && (!decide (i < k) || (decide (at2 os ls.length i k ≠ 0) == ovG ls i k)))
def ordB (ls : List (List Pt)) (os : List Int) : Bool := decide (os.length = ls.length * ls.length) && (List.range ls.length).all fun i => (List.range ls.length).all fun k => ordC ls os i k
def I64 (x : Int) : Prop := -9223372036854775808 ≤ x ∧ x ≤ 9223372036854775807
end Go.Vai
/- Orders of places: the law. -/
set_option linter.unusedVariables false
set_option linter.unusedSimpArgs false
set_option maxHeartbeats 8000000
namespace Go.Vai
open Iq
theorem hc2 {ls : List (List Pt)} (h : ∀ l ∈ ls, polI l = true) {i k : Nat} (hi : i < ls.length) (hk : k < ls.length) :
    PC E 60 [.i (.sl (ls.map encG)), .i (.sl [[.int .i64 i], [.int .i64 k]])] [.i (.bool (ovG ls i k))] :=
  c60 ls i [(k : Int)] ⟨h, by simp, fun f hf => by
    simp only [List.mem_cons, List.not_mem_nil, or_false] at hf
    rcases hf with rfl | rfl <;> omega⟩
theorem idx_lt {i k n : Nat} (hi : i < n) (hk : k < n) : i * n + k < n * n := by
  have := Nat.mul_le_mul_right n (show i + 1 ≤ n by omega)
  rw [Nat.add_mul, Nat.one_mul] at this
  omega
theorem at2_get {os : List Int} {n i k : Nat} (h : os.length = n * n) (hi : i < n) (hk : k < n) : (os.map encI)[i * n + k]? = some [.int .i64 (at2 os n i k)] := by
  have hl := idx_lt hi hk
  have hlt : i * n + k < os.length := by omega
  simp [at2, hlt, encI]
theorem at2_i64 {os : List Int} {n i k : Nat} (hb : ∀ x ∈ os, I64 x) (h : os.length = n * n) (hi : i < n) (hk : k < n) : I64 (at2 os n i k) := by
  have hl := idx_lt hi hk
  have hlt : i * n + k < os.length := by omega
  have : at2 os n i k = os[i * n + k] := by simp [at2, hlt]
  rw [this]; exact hb _ (List.getElem_mem _)
theorem at2_eq {os : List Int} {n i k : Nat} (hl : i * n + k < os.length) : os[i * n + k] = at2 os n i k := by simp [at2, hl]
/-- The opposite number, as it is reckoned. -/
theorem neg_w {y : Int} (h : I64 y) : ∃ W, IntKind.i64.wrap (-y) = W ∧ ((W = -y ∧ y ≠ -9223372036854775808) ∨ (y = -9223372036854775808 ∧ W = -9223372036854775808)) := by
  obtain ⟨h1, h2⟩ := h
  by_cases e : y = -9223372036854775808
  · subst e; exact ⟨_, rfl, .inr ⟨rfl, by decide⟩⟩
  · exact ⟨_, rfl, .inl ⟨wrap_i64 (by omega) (by omega), e⟩⟩
theorem ordB_no {ls : List (List Pt)} {os : List Int} {i k : Nat} (hi : i < ls.length) (hk : k < ls.length) (h : ordC ls os i k = false) : ordB ls os = false := by
  rw [← Bool.not_eq_true]; intro hr
  unfold ordB at hr
  simp only [Bool.and_eq_true, List.all_eq_true, List.mem_range] at hr
  rw [hr.2 i hi k hk] at h; simp at h
theorem ordB_yes {ls : List (List Pt)} {os : List Int} (h0 : os.length = ls.length * ls.length) (h : ∀ i, i < ls.length → ∀ k, k < ls.length → ordC ls os i k = true) : ordB ls os = true := by
  unfold ordB
  simp only [Bool.and_eq_true, List.all_eq_true, List.mem_range, decide_eq_true_eq]
  exact ⟨h0, h⟩
theorem c64 (ls : List (List Pt)) (os : List Int) (h : ∀ l ∈ ls, polI l = true) (hn : ls.length ≤ 24) (hb : ∀ x ∈ os, I64 x) (ho : (os.length : Int) ≤ 1048576) :
    PC E 64 [.i (.sl (ls.map encG)), .i (.sl (os.map encI))] [.i (.bool (ordB ls os))] := by
  have hnn : ls.length * ls.length ≤ 576 := Nat.mul_le_mul hn hn
  obtain ⟨N, hN, hN2⟩ : ∃ N : Nat, (ls.length : Int) * (ls.length : Int) = (N : Int) ∧ N = ls.length * ls.length := ⟨_, by push_cast; rfl, rfl⟩
  refine PC_start hE Proofs.Tryd.func64 rfl rfl Proofs.Tryd.ntmps64 (by kernel_rfl) (by kernel_rfl) (by simp) ?_
  simp (maxSteps := 1000000) (disch := first | (exact DrawOk.mk (by decide +kernel)) | omega | simp) [wrap_i64, le_most, lt_omega, le_omega, ne_omega, allLen]
  refine CallK.of (c59 ls) (by first | exact .inl rfl | exact .inr (by simp)) (by simp) ?_
  simp (maxSteps := 1000000) (disch := first | (exact DrawOk.mk (by decide +kernel)) | omega | simp) [wrap_i64, le_most, lt_omega, le_omega, ne_omega, allLen]
  refine CallK.of (c56 os) (by first | exact .inl rfl | exact .inr (by simp)) (by simp) ?_
  simp (maxSteps := 1000000) (disch := first | (exact DrawOk.mk (by decide +kernel)) | omega | simp) [wrap_i64, le_most, lt_omega, le_omega, ne_omega, allLen, hN]
  (first | refine Gd.dec (fun h1 => ?_) (fun h1 => ?_) | refine Gd.intro (fun h1 => ?_) (fun h1 => ?_)) <;> simp (maxSteps := 1000000) (disch := first | (exact DrawOk.mk (by decide +kernel)) | omega | simp) [wrap_i64, le_most, lt_omega, le_omega, ne_omega, allLen, h1]
  rotate_left
  · have : ordB ls os = false := by unfold ordB; rw [decide_eq_false (by omega)]; rfl
    rw [this]
  have h0 : os.length = ls.length * ls.length := by omega
  refine XL.by hE (ι := { i : Nat // i ≤ ls.length ∧ ∀ j, j < i → ∀ k, k < ls.length → ordC ls os j k = true }) (fun i => ⟨[(0, .i (.sl (ls.map encG))), (1, .i (.sl (os.map encI))), (5, .i (.int .i64 ls.length)), (17, .i (.int .i64 ls.length)), (18, .i (.int .i64 i.1))], []⟩)
    (fun i => ls.length - i.1) ⟨0, Nat.zero_le _, by simp⟩ ⟨by simp, by simp, by simp⟩ (by kernel_rfl) ?_
  rintro ⟨i, hi, hI⟩
  by_cases hlt : i < ls.length
  · simp (maxSteps := 1000000) (disch := first | (exact DrawOk.mk (by decide +kernel)) | omega | simp) [wrap_i64, le_most, lt_omega, le_omega, ne_omega, allLen, hlt]
    refine XL.by hE (ι := { k : Nat // k ≤ ls.length ∧ ∀ j, j < k → ordC ls os i j = true }) (fun k => ⟨[(0, .i (.sl (ls.map encG))), (1, .i (.sl (os.map encI))), (5, .i (.int .i64 ls.length)), (6, .i (.int .i64 i)), (17, .i (.int .i64 ls.length)), (18, .i (.int .i64 i)), (21, .i (.int .i64 ls.length)), (22, .i (.int .i64 k.1))], []⟩)
      (fun k => ls.length - k.1) ⟨0, Nat.zero_le _, by simp⟩ ⟨by simp, by simp, by simp⟩ (by kernel_rfl) ?_
    rintro ⟨k, hk, hK⟩
    by_cases hlk : k < ls.length
    · have b1 := idx_lt hlt hlk
      have b2 := idx_lt hlk hlt
      have g1 := at2_get h0 hlt hlk
      have g2 := at2_get h0 hlk hlt
      have i1 := at2_i64 hb h0 hlt hlk
      have i2 := at2_i64 hb h0 hlk hlt
      obtain ⟨W, hW, hWd⟩ := neg_w i2
      have hC : ordC ls os i k = (inB (at2 os ls.length i k) (-1) 1 && (decide (at2 os ls.length i k = -at2 os ls.length k i) && (!decide (i < k) || (decide (at2 os ls.length i k ≠ 0) == ovG ls i k)))) := rfl
      have hno : ordC ls os i k = false → ordB ls os = false := ordB_no hlt hlk
      obtain ⟨P, hP, hP2⟩ : ∃ P : Nat, (i : Int) * (ls.length : Int) = (P : Int) ∧ P = i * ls.length := ⟨_, by push_cast; rfl, rfl⟩
      obtain ⟨Q, hQ, hQ2⟩ : ∃ Q : Nat, (k : Int) * (ls.length : Int) = (Q : Int) ∧ Q = k * ls.length := ⟨_, by push_cast; rfl, rfl⟩
      have x1 : ∀ hl : i * ls.length + k < os.length, os[i * ls.length + k] = at2 os ls.length i k := fun hl => at2_eq hl
      have x2 : ∀ hl : k * ls.length + i < os.length, os[k * ls.length + i] = at2 os ls.length k i := fun hl => at2_eq hl
      rw [← hP2] at b1 g1
      rw [← hQ2] at b2 g2
      simp only [← hP2] at x1
      simp only [← hQ2] at x2
      have ip : ((P : Int) + (k : Int)).toNat = P + k := by omega
      have iq : ((Q : Int) + (i : Int)).toNat = Q + i := by omega
      have np : ¬ (P : Int) + (k : Int) < 0 := by omega
      have nq : ¬ (Q : Int) + (i : Int) < 0 := by omega
      have hcc := hc2 h hlt hlk
      generalize at2 os ls.length i k = x at *
      generalize at2 os ls.length k i = y at *
      have cont : ordC ls os i k = true → ∀ j, j < k + 1 → ordC ls os i j = true := fun hh j hj => by
        rcases Nat.lt_succ_iff_lt_or_eq.1 hj with h' | rfl
        · exact hK j h'
        · exact hh
      simp (maxSteps := 1000000) (disch := first | (exact DrawOk.mk (by decide +kernel)) | omega | simp) [wrap_i64, le_most, lt_omega, le_omega, ne_omega, allLen, hlk, hP, hQ, ip, iq, np, nq, x1, x2, hW, encI]
      refine CallK.of (c55 _ _ _) (by first | exact .inl rfl | exact .inr (by simp)) (by simp) ?_
      simp (maxSteps := 1000000) (disch := first | (exact DrawOk.mk (by decide +kernel)) | omega | simp) [wrap_i64, le_most, lt_omega, le_omega, ne_omega, allLen, hlk, hP, hQ, ip, iq, np, nq, x1, x2, hW, encI]
      (first | refine Gd.dec (fun h4 => ?_) (fun h4 => ?_) | refine Gd.intro (fun h4 => ?_) (fun h4 => ?_)) <;> simp (maxSteps := 1000000) (disch := first | (exact DrawOk.mk (by decide +kernel)) | omega | simp) [wrap_i64, le_most, lt_omega, le_omega, ne_omega, allLen, h4]
      rotate_left
      · rw [hno (by rw [hC, h4]; rfl)]
      have hin := (inB_iff ..).1 h4
      try (simp (maxSteps := 1000000) (disch := first | (exact DrawOk.mk (by decide +kernel)) | omega | simp) [wrap_i64, le_most, lt_omega, le_omega, ne_omega, allLen, hlk, hP, hQ, ip, iq, np, nq, x1, x2, hW, encI])
      (first | refine Gd.dec (fun h5 => ?_) (fun h5 => ?_) | refine Gd.intro (fun h5 => ?_) (fun h5 => ?_)) <;> simp (maxSteps := 1000000) (disch := first | (exact DrawOk.mk (by decide +kernel)) | omega | simp) [wrap_i64, le_most, lt_omega, le_omega, ne_omega, allLen, h5]
      rotate_left
      · refine hno ?_
        rw [hC, decide_eq_false (show ¬ x = -y by omega)]; simp
      have hxy : x = -y := by omega
      have hC2 : ordC ls os i k = (!decide (i < k) || (decide (x ≠ 0) == ovG ls i k)) := by
        rw [hC, h4, decide_eq_true hxy]; simp
      (first | refine Gd.dec (fun h6 => ?_) (fun h6 => ?_) | refine Gd.intro (fun h6 => ?_) (fun h6 => ?_)) <;> simp (maxSteps := 1000000) (disch := first | (exact DrawOk.mk (by decide +kernel)) | omega | simp) [wrap_i64, le_most, lt_omega, le_omega, ne_omega, allLen, h6]
      · rw [decide_eq_true h6] at hC2
        generalize ovG ls i k = c at *
        refine CallK.of (hcc) (by first | exact .inl rfl | exact .inr (by simp)) (by simp) ?_
        by_cases hz : W = 0
        · have hx0 : x = 0 := by omega
          cases c
          · simp (maxSteps := 1000000) (disch := first | (exact DrawOk.mk (by decide +kernel)) | omega | simp) [wrap_i64, le_most, lt_omega, le_omega, ne_omega, allLen, hz]
            (refine ⟨⟨k + 1, by omega, cont (by rw [hC2]; simp [hx0])⟩, by (simp; try omega), ?_⟩; constructor <;> (simp (maxSteps := 1000000) (disch := first | (exact DrawOk.mk (by decide +kernel)) | omega | simp) [wrap_i64, le_most, lt_omega, le_omega, ne_omega, allLen]) <;> (try omega))
          · simp (maxSteps := 1000000) (disch := first | (exact DrawOk.mk (by decide +kernel)) | omega | simp) [wrap_i64, le_most, lt_omega, le_omega, ne_omega, allLen, hz]
            exact hno (by rw [hC2]; simp [hx0])
        · have hx0 : ¬ x = 0 := by omega
          cases c
          · simp (maxSteps := 1000000) (disch := first | (exact DrawOk.mk (by decide +kernel)) | omega | simp) [wrap_i64, le_most, lt_omega, le_omega, ne_omega, allLen, hz]
            exact hno (by rw [hC2]; simp [hx0])
          · simp (maxSteps := 1000000) (disch := first | (exact DrawOk.mk (by decide +kernel)) | omega | simp) [wrap_i64, le_most, lt_omega, le_omega, ne_omega, allLen, hz]
            (refine ⟨⟨k + 1, by omega, cont (by rw [hC2]; simp [hx0])⟩, by (simp; try omega), ?_⟩; constructor <;> (simp (maxSteps := 1000000) (disch := first | (exact DrawOk.mk (by decide +kernel)) | omega | simp) [wrap_i64, le_most, lt_omega, le_omega, ne_omega, allLen]) <;> (try omega))
      · rw [decide_eq_false h6] at hC2
        (refine ⟨⟨k + 1, by omega, cont (by rw [hC2]; rfl)⟩, by (simp; try omega), ?_⟩; constructor <;> (simp (maxSteps := 1000000) (disch := first | (exact DrawOk.mk (by decide +kernel)) | omega | simp) [wrap_i64, le_most, lt_omega, le_omega, ne_omega, allLen]) <;> (try omega))
    · obtain rfl : k = ls.length := by omega
      simp (maxSteps := 1000000) (disch := first | (exact DrawOk.mk (by decide +kernel)) | omega | simp) [wrap_i64, le_most, lt_omega, le_omega, ne_omega, allLen]
      (refine ⟨⟨i + 1, by omega, fun j hj k hk => by
        rcases Nat.lt_succ_iff_lt_or_eq.1 hj with h' | rfl
        · exact hI j h' k hk
        · exact hK k hk⟩, by (simp; try omega), ?_⟩; constructor <;> (simp (maxSteps := 1000000) (disch := first | (exact DrawOk.mk (by decide +kernel)) | omega | simp) [wrap_i64, le_most, lt_omega, le_omega, ne_omega, allLen]) <;> (try omega))
  · obtain rfl : i = ls.length := by omega
    have := ordB_yes h0 hI
    simp (maxSteps := 1000000) (disch := first | (exact DrawOk.mk (by decide +kernel)) | omega | simp) [wrap_i64, le_most, lt_omega, le_omega, ne_omega, allLen, this]
/-! ### The reference -/
def spcC (ls : List (List Pt)) (os : List Int) (i k : Nat) : Bool :=
  decide (at2 os ls.length k i = -at2 os ls.length i k) && (inB (at2 os ls.length i k) (-1) 1 && (decide (at2 os ls.length i k ≠ 0) == decide ((i, k) ∈ allP ls ls.length)))
theorem ord_spc {ls : List (List Pt)} {os : List Int} (h0 : os.length = ls.length * ls.length) : ordB ls os = true ↔ ∀ i, i < ls.length → ∀ k, i ≤ k → k < ls.length → spcC ls os i k = true := by
  unfold ordB
  simp only [Bool.and_eq_true, List.all_eq_true, List.mem_range, decide_eq_true_eq]
  constructor
  · rintro ⟨-, h⟩ i hi k hik hk
    have h1 := h i hi k hk
    simp only [ordC, Bool.and_eq_true, decide_eq_true_eq] at h1
    obtain ⟨a, b, c⟩ := h1
    unfold spcC
    rw [decide_eq_true (show at2 os ls.length k i = -at2 os ls.length i k by omega), a]
    by_cases e : i = k
    · subst e
      have hz : at2 os ls.length i i = 0 := by omega
      have hm : ¬ (i, i) ∈ allP ls ls.length := fun hm => by have := ((allP_mem ls (i, i) ls.length).1 hm).2.1; simp at this
      simp [hz, hm]
    · rw [decide_eq_true (show i < k by omega)] at c
      have hm : decide ((i, k) ∈ allP ls ls.length) = ovG ls i k := by
        rw [Bool.eq_iff_iff, decide_eq_true_eq, allP_mem]
        exact ⟨fun x => x.2.2.2, fun x => ⟨hi, by show i < k; omega, hk, x⟩⟩
      rw [hm]
      simpa using c
  · intro h
    refine ⟨h0, fun i hi k hk => ?_⟩
    unfold ordC
    rcases Nat.lt_trichotomy i k with e | e | e
    · have h1 := h i hi k (by omega) hk
      simp only [spcC, Bool.and_eq_true, decide_eq_true_eq] at h1
      obtain ⟨a, b, c⟩ := h1
      have hm : decide ((i, k) ∈ allP ls ls.length) = ovG ls i k := by
        rw [Bool.eq_iff_iff, decide_eq_true_eq, allP_mem]
        exact ⟨fun x => x.2.2.2, fun x => ⟨hi, by show i < k; omega, hk, x⟩⟩
      rw [hm] at c
      rw [b, decide_eq_true (show at2 os ls.length i k = -at2 os ls.length k i by omega), decide_eq_true e, c]; rfl
    · subst e
      have h1 := h i hi i (by omega) hk
      simp only [spcC, Bool.and_eq_true, decide_eq_true_eq] at h1
      obtain ⟨a, b, c⟩ := h1
      rw [b, decide_eq_true (show at2 os ls.length i i = -at2 os ls.length i i by omega)]
      simp
    · have h1 := h k hk i (by omega) hi
      simp only [spcC, Bool.and_eq_true, decide_eq_true_eq] at h1
      obtain ⟨a, b, c⟩ := h1
      have b' := (inB_iff ..).1 b
      rw [decide_eq_true (show at2 os ls.length i k = -at2 os ls.length k i by omega), decide_eq_false (show ¬ i < k by omega)]
      have : inB (at2 os ls.length i k) (-1) 1 = true := (inB_iff ..).2 (by omega)
      rw [this]; rfl
def vorB (ls : List (List Pt)) (os : List Int) : Bool := plcB ls && ordB ls os
theorem c29 (ls : List (List Pt)) (os : List Int) (h : (ls.length : Int) ≤ 1048576) (hr : (gsum ls : Int) ≤ 1048576) (hb : ∀ x ∈ os, I64 x) (ho : (os.length : Int) ≤ 1048576) :
    PC E 29 [.i (.sl (ls.map encG)), .i (.sl (os.map encI))] [.i (.bool (vorB ls os))] := by
  refine PC_start hE Proofs.Tryd.func29 rfl rfl Proofs.Tryd.ntmps29 (by kernel_rfl) (by kernel_rfl) (by simp) ?_
  simp (maxSteps := 1000000) (disch := first | (exact DrawOk.mk (by decide +kernel)) | omega | simp) [wrap_i64, le_most, lt_omega, le_omega, ne_omega, allLen]
  refine CallK.of (c51 ls h hr) (by first | exact .inl rfl | exact .inr (by simp)) (by simp) ?_
  simp (maxSteps := 1000000) (disch := first | (exact DrawOk.mk (by decide +kernel)) | omega | simp) [wrap_i64, le_most, lt_omega, le_omega, ne_omega, allLen]
  (first | refine Gd.dec (fun h1 => ?_) (fun h1 => ?_) | refine Gd.intro (fun h1 => ?_) (fun h1 => ?_)) <;> simp (maxSteps := 1000000) (disch := first | (exact DrawOk.mk (by decide +kernel)) | omega | simp) [wrap_i64, le_most, lt_omega, le_omega, ne_omega, allLen, h1]
  rotate_left
  · simp [vorB, h1]
  have hpl := h1
  unfold plcB at hpl
  simp only [Bool.and_eq_true, List.all_eq_true] at hpl
  have hn24 := (inB_iff ..).1 hpl.1
  have hn : ls.length ≤ 24 := by omega
  have hpol := hpl.2
  have hnn : ls.length * ls.length ≤ 576 := Nat.mul_le_mul hn hn
  obtain ⟨N, hN, hN2⟩ : ∃ N : Nat, (ls.length : Int) * (ls.length : Int) = (N : Int) ∧ N = ls.length * ls.length := ⟨_, by push_cast; rfl, rfl⟩
  have hvor : vorB ls os = ordB ls os := by unfold vorB; rw [h1]; rfl
  simp (maxSteps := 1000000) (disch := first | (exact DrawOk.mk (by decide +kernel)) | omega | simp) [wrap_i64, le_most, lt_omega, le_omega, ne_omega, allLen, hN]
  (first | refine Gd.dec (fun h2 => ?_) (fun h2 => ?_) | refine Gd.intro (fun h2 => ?_) (fun h2 => ?_)) <;> simp (maxSteps := 1000000) (disch := first | (exact DrawOk.mk (by decide +kernel)) | omega | simp) [wrap_i64, le_most, lt_omega, le_omega, ne_omega, allLen, h2]
  rotate_left
  · rw [hvor]; unfold ordB; rw [decide_eq_false (by omega)]; rfl
  have h0 : os.length = ls.length * ls.length := by omega
  refine CallK.of (c61 ls hpol hn) (by first | exact .inl rfl | exact .inr (by simp)) (by simp) ?_
  have hpl2 : ((allP ls ls.length).length : Int) ≤ 1048576 := by have := allP_len ls ls.length; omega
  have hspc := ord_spc (ls := ls) h0
  have hpm : ∀ i k : Nat, decide (0 ≤ pairAt (allP ls ls.length) i k) = decide ((i, k) ∈ allP ls ls.length) := fun i k => pairAt_mem _ i k
  rw [hvor]
  generalize hpr : allP ls ls.length = pr at *
  simp (maxSteps := 1000000) (disch := first | (exact DrawOk.mk (by decide +kernel)) | omega | simp) [wrap_i64, le_most, lt_omega, le_omega, ne_omega, allLen]
  refine XL.by hE (ι := { i : Nat // i ≤ ls.length ∧ ∀ j, j < i → ∀ k, j ≤ k → k < ls.length → spcC ls os j k = true }) (fun i => ⟨[(1, .i (.sl (os.map encI))), (5, .i (.int .i64 ls.length)), (6, .i (.sl (pr.map encPr))), (7, .i (.int .i64 i.1))], []⟩)
    (fun i => ls.length - i.1) ⟨0, Nat.zero_le _, by simp⟩ ⟨by simp, by simp, by simp⟩ (by kernel_rfl) ?_
  rintro ⟨i, hi, hI⟩
  by_cases hlt : i < ls.length
  · simp (maxSteps := 1000000) (disch := first | (exact DrawOk.mk (by decide +kernel)) | omega | simp) [wrap_i64, le_most, lt_omega, le_omega, ne_omega, allLen, hlt]
    refine XL.by hE (ι := { k : Nat // i ≤ k ∧ k ≤ ls.length ∧ ∀ j, i ≤ j → j < k → spcC ls os i j = true }) (fun k => ⟨[(1, .i (.sl (os.map encI))), (5, .i (.int .i64 ls.length)), (6, .i (.sl (pr.map encPr))), (7, .i (.int .i64 i)), (8, .i (.int .i64 k.1))], []⟩)
      (fun k => ls.length - k.1) ⟨i, Nat.le_refl _, hi, by intro j h1 h2; omega⟩ ⟨by simp, by simp, by simp⟩ (by kernel_rfl) ?_
    rintro ⟨k, hik, hk, hK⟩
    by_cases hlk : k < ls.length
    · have b1 := idx_lt hlt hlk
      have b2 := idx_lt hlk hlt
      have i1 := at2_i64 hb h0 hlt hlk
      obtain ⟨W, hW, hWd⟩ := neg_w i1
      have hC : spcC ls os i k = (decide (at2 os ls.length k i = -at2 os ls.length i k) && (inB (at2 os ls.length i k) (-1) 1 && (decide (at2 os ls.length i k ≠ 0) == decide ((i, k) ∈ pr)))) := by unfold spcC; rw [hpr]
      have hno : spcC ls os i k = false → ordB ls os = false := fun hh => by
        rw [← Bool.not_eq_true]; intro ht
        have := hspc.1 ht i hlt k hik hlk
        rw [hh] at this; simp at this
      obtain ⟨P, hP, hP2⟩ : ∃ P : Nat, (i : Int) * (ls.length : Int) = (P : Int) ∧ P = i * ls.length := ⟨_, by push_cast; rfl, rfl⟩
      obtain ⟨Q, hQ, hQ2⟩ : ∃ Q : Nat, (k : Int) * (ls.length : Int) = (Q : Int) ∧ Q = k * ls.length := ⟨_, by push_cast; rfl, rfl⟩
      have x1 : ∀ hl : i * ls.length + k < os.length, os[i * ls.length + k] = at2 os ls.length i k := fun hl => at2_eq hl
      have x2 : ∀ hl : k * ls.length + i < os.length, os[k * ls.length + i] = at2 os ls.length k i := fun hl => at2_eq hl
      rw [← hP2] at b1
      rw [← hQ2] at b2
      simp only [← hP2] at x1
      simp only [← hQ2] at x2
      have ip : ((P : Int) + (k : Int)).toNat = P + k := by omega
      have iq : ((Q : Int) + (i : Int)).toNat = Q + i := by omega
      have np : ¬ (P : Int) + (k : Int) < 0 := by omega
      have nq : ¬ (Q : Int) + (i : Int) < 0 := by omega
      generalize at2 os ls.length i k = x at *
      generalize at2 os ls.length k i = y at *
      have cont : spcC ls os i k = true → ∀ j, i ≤ j → j < k + 1 → spcC ls os i j = true := fun hh j hj0 hj => by
        rcases Nat.lt_succ_iff_lt_or_eq.1 hj with h' | rfl
        · exact hK j hj0 h'
        · exact hh
      have hpk := hpm i k
      simp (maxSteps := 1000000) (disch := first | (exact DrawOk.mk (by decide +kernel)) | omega | simp) [wrap_i64, le_most, lt_omega, le_omega, ne_omega, allLen, hlk, hP, hQ, ip, iq, np, nq, x1, x2, hW, encI]
      (first | refine Gd.dec (fun h4 => ?_) (fun h4 => ?_) | refine Gd.intro (fun h4 => ?_) (fun h4 => ?_)) <;> simp (maxSteps := 1000000) (disch := first | (exact DrawOk.mk (by decide +kernel)) | omega | simp) [wrap_i64, le_most, lt_omega, le_omega, ne_omega, allLen, h4]
      rotate_left
      · refine hno ?_
        rw [hC]
        by_cases hin : inB x (-1) 1 = true
        · have hin := (inB_iff ..).1 hin
          rw [decide_eq_false (show ¬ y = -x by omega)]; rfl
        · rw [Bool.not_eq_true] at hin
          rw [hin]; simp
      refine CallK.of (c62 _ _ _) (by first | exact .inl rfl | exact .inr (by simp)) (by simp) ?_
      simp (maxSteps := 1000000) (disch := first | (exact DrawOk.mk (by decide +kernel)) | omega | simp) [wrap_i64, le_most, lt_omega, le_omega, ne_omega, allLen]
      (first | refine Gd.dec (fun h5 => ?_) (fun h5 => ?_) | refine Gd.intro (fun h5 => ?_) (fun h5 => ?_)) <;> simp (maxSteps := 1000000) (disch := first | (exact DrawOk.mk (by decide +kernel)) | omega | simp) [wrap_i64, le_most, lt_omega, le_omega, ne_omega, allLen, h5]
      rotate_left
      · exact hno (by rw [hC, h5]; simp)
      have hin := (inB_iff ..).1 h5
      have hyx : y = -x := by omega
      have hC2 : spcC ls os i k = (decide (x ≠ 0) == decide ((i, k) ∈ pr)) := by rw [hC, h5, decide_eq_true hyx]; simp
      refine CallK.of (c63 pr i k hpl2) (by first | exact .inl rfl | exact .inr (by simp)) (by simp) ?_
      simp (maxSteps := 1000000) (disch := first | (exact DrawOk.mk (by decide +kernel)) | omega | simp) [wrap_i64, le_most, lt_omega, le_omega, ne_omega, allLen, hpk]
      by_cases hz : x = 0
      · by_cases hm : (i, k) ∈ pr
        · simp (maxSteps := 1000000) (disch := first | (exact DrawOk.mk (by decide +kernel)) | omega | simp) [wrap_i64, le_most, lt_omega, le_omega, ne_omega, allLen, hz, hm]
          exact hno (by rw [hC2]; simp [hz, hm])
        · simp (maxSteps := 1000000) (disch := first | (exact DrawOk.mk (by decide +kernel)) | omega | simp) [wrap_i64, le_most, lt_omega, le_omega, ne_omega, allLen, hz, hm]
          (refine ⟨⟨k + 1, by omega, by omega, cont (by rw [hC2]; simp [hz, hm])⟩, by (simp; try omega), ?_⟩; constructor <;> (simp (maxSteps := 1000000) (disch := first | (exact DrawOk.mk (by decide +kernel)) | omega | simp) [wrap_i64, le_most, lt_omega, le_omega, ne_omega, allLen]) <;> (try omega))
      · by_cases hm : (i, k) ∈ pr
        · simp (maxSteps := 1000000) (disch := first | (exact DrawOk.mk (by decide +kernel)) | omega | simp) [wrap_i64, le_most, lt_omega, le_omega, ne_omega, allLen, hz, hm]
          (refine ⟨⟨k + 1, by omega, by omega, cont (by rw [hC2]; simp [hz, hm])⟩, by (simp; try omega), ?_⟩; constructor <;> (simp (maxSteps := 1000000) (disch := first | (exact DrawOk.mk (by decide +kernel)) | omega | simp) [wrap_i64, le_most, lt_omega, le_omega, ne_omega, allLen]) <;> (try omega))
        · simp (maxSteps := 1000000) (disch := first | (exact DrawOk.mk (by decide +kernel)) | omega | simp) [wrap_i64, le_most, lt_omega, le_omega, ne_omega, allLen, hz, hm]
          exact hno (by rw [hC2]; simp [hz, hm])
    · obtain rfl : k = ls.length := by omega
      simp (maxSteps := 1000000) (disch := first | (exact DrawOk.mk (by decide +kernel)) | omega | simp) [wrap_i64, le_most, lt_omega, le_omega, ne_omega, allLen]
      (refine ⟨⟨i + 1, by omega, fun j hj k hjk hk => by
        rcases Nat.lt_succ_iff_lt_or_eq.1 hj with h' | rfl
        · exact hI j h' k hjk hk
        · exact hK k hjk hk⟩, by (simp; try omega), ?_⟩; constructor <;> (simp (maxSteps := 1000000) (disch := first | (exact DrawOk.mk (by decide +kernel)) | omega | simp) [wrap_i64, le_most, lt_omega, le_omega, ne_omega, allLen]) <;> (try omega))
  · obtain rfl : i = ls.length := by omega
    have := hspc.2 hI
    simp (maxSteps := 1000000) (disch := first | (exact DrawOk.mk (by decide +kernel)) | omega | simp) [wrap_i64, le_most, lt_omega, le_omega, ne_omega, allLen, this]
theorem c30 (ls : List (List Pt)) (os : List Int) (h : (ls.length : Int) ≤ 1048576) (hr : (gsum ls : Int) ≤ 1048576) (hb : ∀ x ∈ os, I64 x) (ho : (os.length : Int) ≤ 1048576) :
    PC E 30 [.i (.sl (ls.map encG)), .i (.sl (os.map encI))] [.i (.bool (vorB ls os))] := by
  refine PC_start hE Proofs.Tryd.func30 rfl rfl Proofs.Tryd.ntmps30 (by kernel_rfl) (by kernel_rfl) (by simp) ?_
  simp (maxSteps := 1000000) (disch := first | (exact DrawOk.mk (by decide +kernel)) | omega | simp) [wrap_i64, le_most, lt_omega, le_omega, ne_omega, allLen]
  refine CallK.of (c54 ls h hr) (by first | exact .inl rfl | exact .inr (by simp)) (by simp) ?_
  simp (maxSteps := 1000000) (disch := first | (exact DrawOk.mk (by decide +kernel)) | omega | simp) [wrap_i64, le_most, lt_omega, le_omega, ne_omega, allLen]
  (first | refine Gd.dec (fun h1 => ?_) (fun h1 => ?_) | refine Gd.intro (fun h1 => ?_) (fun h1 => ?_)) <;> simp (maxSteps := 1000000) (disch := first | (exact DrawOk.mk (by decide +kernel)) | omega | simp) [wrap_i64, le_most, lt_omega, le_omega, ne_omega, allLen, h1]
  rotate_left
  · simp [vorB, h1]
  have hpl := h1
  unfold plcB at hpl
  simp only [Bool.and_eq_true, List.all_eq_true] at hpl
  have hn24 := (inB_iff ..).1 hpl.1
  refine CallK.of (c64 ls os hpl.2 (by omega) hb ho) (by first | exact .inl rfl | exact .inr (by simp)) (by simp) ?_
  simp (maxSteps := 1000000) (disch := first | (exact DrawOk.mk (by decide +kernel)) | omega | simp) [wrap_i64, le_most, lt_omega, le_omega, ne_omega, allLen, vorB, h1]
theorem typedI6 {n : Nat} {el : List IV} (h : Typed E n 2 el) : ∃ x, el = encI x ∧ I64 x := by
  obtain ⟨x, he, h1, h2⟩ := typedZ h
  exact ⟨x, he, h1, h2⟩
theorem c7 (ls : List (List Pt)) (os : List Int) (h : ls.length ≤ maxLen) (hg : ∀ l ∈ ls, Gfine l) (ho : os.length ≤ maxLen) (hb : ∀ x ∈ os, I64 x) : PC E 7 [.i (.sl (ls.map encG)), .i (.sl (os.map encI))] [.i (.bool true)] := by
  have m : maxLen = 9223372036854775807 := by decide
  refine PC_start hE Proofs.Tryd.func7 rfl rfl Proofs.Tryd.ntmps7 (by kernel_rfl) (by kernel_rfl) (by simp) ?_
  simp (maxSteps := 1000000) (disch := first | (exact DrawOk.mk (by decide +kernel)) | omega | simp) [wrap_i64, le_most, lt_omega, le_omega, ne_omega, allLen]
  (first | refine Gd.dec (fun h0 => ?_) (fun h0 => ?_) | refine Gd.intro (fun h0 => ?_) (fun h0 => ?_)) <;> simp (maxSteps := 1000000) (disch := first | (exact DrawOk.mk (by decide +kernel)) | omega | simp) [wrap_i64, le_most, lt_omega, le_omega, ne_omega, allLen, h0]
  refine CallK.of (c22 ls 1048576 (by omega) (by omega) h hg) (by first | exact .inl rfl | exact .inr (by simp)) (by simp) ?_
  simp (maxSteps := 1000000) (disch := first | (exact DrawOk.mk (by decide +kernel)) | omega | simp) [wrap_i64, le_most, lt_omega, le_omega, ne_omega, allLen]
  (first | refine Gd.dec (fun h1 => ?_) (fun h1 => ?_) | refine Gd.intro (fun h1 => ?_) (fun h1 => ?_)) <;> simp (maxSteps := 1000000) (disch := first | (exact DrawOk.mk (by decide +kernel)) | omega | simp) [wrap_i64, le_most, lt_omega, le_omega, ne_omega, allLen, h1]
  have h2 : ¬ (1048576 : Int) - ls.length - gsum ls < 0 := by split at h1 <;> omega
  have g1 : (ls.length : Int) ≤ 1048576 := by omega
  have g2 : (gsum ls : Int) ≤ 1048576 := by omega
  have g3 : (os.length : Int) ≤ 1048576 := by omega
  refine CallK.of ((c24 ls g1 g2).imm) (by first | exact .inl rfl | exact .inr (by simp)) (by simp) ?_
  simp (maxSteps := 1000000) (disch := first | (exact DrawOk.mk (by decide +kernel)) | omega | simp) [wrap_i64, le_most, lt_omega, le_omega, ne_omega, allLen]
  refine CallK.of ((c25 os g3).imm) (by first | exact .inl rfl | exact .inr (by simp)) (by simp) ?_
  simp (maxSteps := 1000000) (disch := first | (exact DrawOk.mk (by decide +kernel)) | omega | simp) [wrap_i64, le_most, lt_omega, le_omega, ne_omega, allLen]
  refine CallK.of (c29 ls os g1 g2 hb g3) (by first | exact .inl rfl | exact .inr (by simp)) (by simp) ?_
  simp (maxSteps := 1000000) (disch := first | (exact DrawOk.mk (by decide +kernel)) | omega | simp) [wrap_i64, le_most, lt_omega, le_omega, ne_omega, allLen]
  refine CallK.of ((c24 ls g1 g2).imm) (by first | exact .inl rfl | exact .inr (by simp)) (by simp) ?_
  simp (maxSteps := 1000000) (disch := first | (exact DrawOk.mk (by decide +kernel)) | omega | simp) [wrap_i64, le_most, lt_omega, le_omega, ne_omega, allLen]
  refine CallK.of ((c25 os g3).imm) (by first | exact .inl rfl | exact .inr (by simp)) (by simp) ?_
  simp (maxSteps := 1000000) (disch := first | (exact DrawOk.mk (by decide +kernel)) | omega | simp) [wrap_i64, le_most, lt_omega, le_omega, ne_omega, allLen]
  refine CallK.of (c30 ls os g1 g2 hb g3) (by first | exact .inl rfl | exact .inr (by simp)) (by simp) ?_
  simp (maxSteps := 1000000) (disch := first | (exact DrawOk.mk (by decide +kernel)) | omega | simp) [wrap_i64, le_most, lt_omega, le_omega, ne_omega, allLen]
  refine CallK.of ((c24 ls g1 g2).imm) (by first | exact .inl rfl | exact .inr (by simp)) (by simp) ?_
  simp (maxSteps := 1000000) (disch := first | (exact DrawOk.mk (by decide +kernel)) | omega | simp) [wrap_i64, le_most, lt_omega, le_omega, ne_omega, allLen]
  refine CallK.of (c27 ls ls g1 g1 g2 g2) (by first | exact .inl rfl | exact .inr (by simp)) (by simp) ?_
  simp (maxSteps := 1000000) (disch := first | (exact DrawOk.mk (by decide +kernel)) | omega | simp) [wrap_i64, le_most, lt_omega, le_omega, ne_omega, allLen]
  refine CallK.of ((c25 os g3).imm) (by first | exact .inl rfl | exact .inr (by simp)) (by simp) ?_
  simp (maxSteps := 1000000) (disch := first | (exact DrawOk.mk (by decide +kernel)) | omega | simp) [wrap_i64, le_most, lt_omega, le_omega, ne_omega, allLen]
  refine CallK.of (c28 os os g3 g3) (by first | exact .inl rfl | exact .inr (by simp)) (by simp) ?_
  simp (maxSteps := 1000000) (disch := first | (exact DrawOk.mk (by decide +kernel)) | omega | simp) [wrap_i64, le_most, lt_omega, le_omega, ne_omega, allLen]
end Go.Vai
