import Derived.Test.YtahohbkjelhobaaZt23
import Derived.Test.YtahohbkjelhobaaZt18
set_option linter.unusedVariables false
set_option linter.unusedSimpArgs false
set_option maxHeartbeats 4000000
namespace Go.Vai
theorem any_true_of {α : Type} {p : α → Bool} {l : List α} {j : Nat} (hj : j < l.length) (h : p l[j] = true) : l.any p = true := by
  rw [List.any_eq_true]; exact ⟨_, List.getElem_mem hj, h⟩
theorem any_false_of {α : Type} {p : α → Bool} {l : List α} (h : ∀ (j : Nat) (hj : j < l.length), p l[j] = false) : l.any p = false := by
  rw [List.any_eq_false]
  intro x hx
  obtain ⟨j, hj, rfl⟩ := List.getElem_of_mem hx
  simp [h j hj]
theorem c44 (l : List Int) (n : Int) (h : (l.length : Int) ≤ 1048576) : PC E 44 [.i (.sl (l.map encI)), .i (.int .i64 n)] [.i (.bool (l.any fun x => decide (x = n)))] := by
  refine PC_start hE Proofs.Try.func44 rfl rfl Proofs.Try.ntmps44 (by kernel_rfl) (by kernel_rfl) (by simp) ?_
  simp (disch := first | omega | simp) [wrap_i64, le_most, lt_omega, le_omega, ne_omega, allLen]
  refine XL.by hE (ι := { k : Nat // k ≤ l.length ∧ ∀ (j : Nat) (hj : j < l.length), j < k → decide (l[j] = n) = false }) (fun k => ⟨[(0, .i (.sl (l.map encI))), (1, .i (.int .i64 n)), (5, .i (.int .i64 k.1))], []⟩)
    (fun k => l.length - k.1) ⟨0, Nat.zero_le _, by simp⟩ ⟨by simp, by simp, by simp⟩ (by kernel_rfl) ?_
  rintro ⟨k, hk, hno⟩
  by_cases hlt : k < l.length
  · simp (disch := first | omega | simp) [wrap_i64, le_most, lt_omega, le_omega, ne_omega, allLen, hlt, encI]
    (first | refine Gd.dec (fun h4 => ?_) (fun h4 => ?_) | refine Gd.intro (fun h4 => ?_) (fun h4 => ?_)) <;> simp (disch := first | omega | simp) [wrap_i64, le_most, lt_omega, le_omega, ne_omega, allLen, h4]
    · subst h4; simp
    · (refine ⟨⟨k + 1, by omega, step_no (p := fun x => decide (x = n)) hno hlt (by simp [h4])⟩, by (simp; try omega), ?_⟩; constructor <;> (simp (disch := first | omega | simp) [wrap_i64, le_most, lt_omega, le_omega, ne_omega, allLen]) <;> (try omega))
  · have := any_false_of (p := fun x => decide (x = n)) (l := l) fun j hj => hno j hj (by omega)
    rw [List.any_eq_false] at this
    simp (disch := first | omega | simp) [wrap_i64, le_most, lt_omega, le_omega, ne_omega, allLen, hlt]
    simpa using this
theorem vals_units (l : List Int) : (valsB l && !(l.any fun x => decide (x = 0))) = l.all unitB := by
  rw [Bool.eq_iff_iff]
  simp only [valsB, Bool.and_eq_true, Bool.not_eq_true', List.all_eq_true, List.any_eq_false, decide_eq_true_eq, unitB, Bool.or_eq_true, inB]
  constructor
  · rintro ⟨h1, h2⟩ x hx
    have := h1 x hx; have := h2 x hx; omega
  · intro h
    exact ⟨fun x hx => by have := h x hx; omega, fun x hx => by have := h x hx; omega⟩
theorem units_vals {l : List Int} (h : l.all unitB = true) : valsB l = true := by
  rw [← vals_units] at h; simp at h; exact h.1
/-- Values solve valid rules. -/
def solves (ls : List Ru) (vs : List Int) : Bool := !(ls.any fun r => decide (ihol r.kind (terms r vs) < 0))
def rulesB (ls : List Ru) (vars : Int) : Bool := decide ((ls.length : Int) ≤ 3000) && (inB vars 0 200 && ls.all (fun x => rv x vars))
def solB (ls : List Ru) (vars : Int) (vs : List Int) : Bool := rulesB ls vars && decide ((vs.length : Int) = vars) && vs.all unitB && solves ls vs
theorem rules_rv {ls : List Ru} {vars : Int} (h : rulesB ls vars = true) {x : Ru} (hx : x ∈ ls) : rv x vars = true := by
  simp only [rulesB, Bool.and_eq_true, List.all_eq_true] at h
  exact h.2.2 x hx
theorem rsum_mem {ls : List Ru} {x : Ru} (h : x ∈ ls) : x.sz ≤ rsum ls := by
  obtain ⟨j, hj, rfl⟩ := List.getElem_of_mem h
  exact rsum_get hj
theorem rv_kind {x : Ru} {vars : Int} (h : rv x vars = true) : inB x.kind 1 4 = true ∧ (x.vars.length : Int) = x.kind := by
  simp only [rv, Bool.and_eq_true, decide_eq_true_eq] at h
  exact ⟨h.1, h.2.1⟩
theorem hol_eq' {x : Ru} {vs : List Int} (hf : RFit x vs) (h1 : inB x.kind 1 4 = true) (h2 : (x.vars.length : Int) = x.kind) : shol x.kind (terms x vs) = ihol x.kind (terms x vs) :=
  hol_eq (l := terms x vs) h1 (by rw [hf.terms_len]; exact h2) (fun k hk => by
    obtain ⟨n, h1, h2, h3, -, -, ht⟩ := hf.round (k := k) (by rw [← hf.terms_len]; exact hk)
    exact ht)
theorem c50 (x : Ru) (vs : List Int) (hx : RFit x vs) (h : (x.vars.length : Int) ≤ 1048576) : PC E 50 [.agg (encR x), .i (.ptr [.sl (vs.map encI)])] [.i (.bool (decide (ihol x.kind (terms x vs) < 0)))] := by
  refine PC_start hE Proofs.Try.func50 rfl rfl Proofs.Try.ntmps50 (by kernel_rfl) (by kernel_rfl) (by simp) ?_
  simp (disch := first | omega | simp) [wrap_i64, le_most, lt_omega, le_omega, ne_omega, allLen]
  refine CallK.of (c51 x vs hx h) (by first | exact .inl rfl | exact .inr (by simp)) (by simp) ?_
  simp (disch := first | omega | simp) [wrap_i64, le_most, lt_omega, le_omega, ne_omega, allLen]
theorem c14 (ls : List Ru) (vars : Int) (vs : List Int) (h : (ls.length : Int) ≤ 1048576) (hr : (rsum ls : Int) ≤ 1048576) (hv : (vs.length : Int) ≤ 1048576) :
    PC E 14 [.i (.sl (ls.map encR)), .i (.int .i64 vars), .i (.sl (vs.map encI))] [.i (.bool (solB ls vars vs))] := by
  refine PC_start hE Proofs.Try.func14 rfl rfl Proofs.Try.ntmps14 (by kernel_rfl) (by kernel_rfl) (by simp) ?_
  simp (disch := first | omega | simp) [wrap_i64, le_most, lt_omega, le_omega, ne_omega, allLen]
  refine CallK.of (c46 ls vars h hr) (by first | exact .inl rfl | exact .inr (by simp)) (by simp) ?_
  have e : (decide ((ls.length : Int) ≤ 3000) && (inB vars 0 200 && ls.all fun x => rv x vars)) = rulesB ls vars := rfl
  rw [e]
  simp (disch := first | omega | simp) [wrap_i64, le_most, lt_omega, le_omega, ne_omega, allLen]
  (first | refine Gd.dec (fun h1 => ?_) (fun h1 => ?_) | refine Gd.intro (fun h1 => ?_) (fun h1 => ?_)) <;> simp (disch := first | omega | simp) [wrap_i64, le_most, lt_omega, le_omega, ne_omega, allLen, h1]
  rotate_left
  · simp [solB, h1]
  refine CallK.of (c47 vs) (by first | exact .inl rfl | exact .inr (by simp)) (by simp) ?_
  simp (disch := first | omega | simp) [wrap_i64, le_most, lt_omega, le_omega, ne_omega, allLen]
  (first | refine Gd.dec (fun h2 => ?_) (fun h2 => ?_) | refine Gd.intro (fun h2 => ?_) (fun h2 => ?_)) <;> simp (disch := first | omega | simp) [wrap_i64, le_most, lt_omega, le_omega, ne_omega, allLen, h2]
  rotate_left
  · simp [solB, h2]
  refine CallK.of (c48 vs hv) (by first | exact .inl rfl | exact .inr (by simp)) (by simp) ?_
  simp (disch := first | omega | simp) [wrap_i64, le_most, lt_omega, le_omega, ne_omega, allLen]
  generalize hq : vs.all unitB = q
  cases q
  · simp (disch := first | omega | simp) [wrap_i64, le_most, lt_omega, le_omega, ne_omega, allLen]
    simp [solB, hq]
  simp (disch := first | omega | simp) [wrap_i64, le_most, lt_omega, le_omega, ne_omega, allLen]
  refine CallK.of (c49 ls 50 [.ptr [.sl (vs.map encI)]] (fun r => decide (ihol r.kind (terms r vs) < 0)) (fun x hx => c50 x vs (rfit_of (by rw [h2]; exact rules_rv h1 hx) (units_vals hq)) (by have := rsum_mem hx; unfold Ru.sz at this; omega)) h) (by first | exact .inl rfl | exact .inr (by simp)) (by simp) ?_
  simp (disch := first | omega | simp) [wrap_i64, le_most, lt_omega, le_omega, ne_omega, allLen]
  simp [solB, h1, h2, hq, solves]
theorem c11 (ls : List Ru) (vars : Int) (vs : List Int) (h : (ls.length : Int) ≤ 1048576) (hr : (rsum ls : Int) ≤ 1048576) (hv : (vs.length : Int) ≤ 1048576) :
    PC E 11 [.i (.sl (ls.map encR)), .i (.int .i64 vars), .i (.sl (vs.map encI))] [.i (.bool (solB ls vars vs))] := by
  refine PC_start hE Proofs.Try.func11 rfl rfl Proofs.Try.ntmps11 (by kernel_rfl) (by kernel_rfl) (by simp) ?_
  simp (disch := first | omega | simp) [wrap_i64, le_most, lt_omega, le_omega, ne_omega, allLen]
  refine CallK.of (c42 ls vars h hr) (by first | exact .inl rfl | exact .inr (by simp)) (by simp) ?_
  have e : (decide ((ls.length : Int) ≤ 3000) && (inB vars 0 200 && ls.all fun x => rv x vars)) = rulesB ls vars := rfl
  rw [e]
  simp (disch := first | omega | simp) [wrap_i64, le_most, lt_omega, le_omega, ne_omega, allLen]
  (first | refine Gd.dec (fun h1 => ?_) (fun h1 => ?_) | refine Gd.intro (fun h1 => ?_) (fun h1 => ?_)) <;> simp (disch := first | omega | simp) [wrap_i64, le_most, lt_omega, le_omega, ne_omega, allLen, h1]
  rotate_left
  · simp [solB, h1]
  (first | refine Gd.dec (fun h2 => ?_) (fun h2 => ?_) | refine Gd.intro (fun h2 => ?_) (fun h2 => ?_)) <;> simp (disch := first | omega | simp) [wrap_i64, le_most, lt_omega, le_omega, ne_omega, allLen, h2]
  rotate_left
  · simp [solB, h2]
  refine CallK.of (c43 vs hv) (by first | exact .inl rfl | exact .inr (by simp)) (by simp) ?_
  have hu := vals_units vs
  generalize valsB vs = q at hu
  cases q
  · simp (disch := first | omega | simp) [wrap_i64, le_most, lt_omega, le_omega, ne_omega, allLen]
    simp [solB, ← hu]
  simp (disch := first | omega | simp) [wrap_i64, le_most, lt_omega, le_omega, ne_omega, allLen]
  refine CallK.of (c44 vs 0 hv) (by first | exact .inl rfl | exact .inr (by simp)) (by simp) ?_
  generalize (vs.any fun x => decide (x = 0)) = z at hu
  cases z
  rotate_left
  · simp (disch := first | omega | simp) [wrap_i64, le_most, lt_omega, le_omega, ne_omega, allLen]
    have hu' : vs.all unitB = false := by rw [← hu]; rfl
    simp only [solB, hu', Bool.and_false, Bool.false_and]
  have hu' : vs.all unitB = true := by rw [← hu]; rfl
  simp (disch := first | omega | simp) [wrap_i64, le_most, lt_omega, le_omega, ne_omega, allLen]
  refine XL.by hE (ι := { k : Nat // k ≤ ls.length ∧ ∀ (j : Nat) (hj : j < ls.length), j < k → decide (ihol ls[j].kind (terms ls[j] vs) < 0) = false }) (fun k => ⟨[(0, .i (.sl (ls.map encR))), (2, .i (.sl (vs.map encI))), (7, .i (.int .i64 k.1))], []⟩)
    (fun k => ls.length - k.1) ⟨0, Nat.zero_le _, by simp⟩ ⟨by simp, by simp, by simp⟩ (by kernel_rfl) ?_
  rintro ⟨k, hk, hno⟩
  by_cases hlt : k < ls.length
  · have hrv := rules_rv h1 (List.getElem_mem hlt)
    have hf : RFit ls[k] vs := rfit_of (by rw [h2]; exact hrv) (units_vals hu')
    have hs := rsum_mem (List.getElem_mem hlt)
    have hkk := rv_kind hrv
    have he := hol_eq' hf hkk.1 hkk.2
    unfold Ru.sz at hs
    simp (disch := first | omega | simp) [wrap_i64, le_most, lt_omega, le_omega, ne_omega, allLen, hlt]
    refine CallK.of (c45 ls[k] vs hf (by omega)) (by first | exact .inl rfl | exact .inr (by simp)) (by simp) ?_
    simp (disch := first | omega | simp) [wrap_i64, le_most, lt_omega, le_omega, ne_omega, allLen, hlt, he]
    (first | refine Gd.dec (fun h4 => ?_) (fun h4 => ?_) | refine Gd.intro (fun h4 => ?_) (fun h4 => ?_)) <;> simp (disch := first | omega | simp) [wrap_i64, le_most, lt_omega, le_omega, ne_omega, allLen, h4]
    · have : solves ls vs = false := by
        rw [solves, any_true_of (p := fun r => decide (ihol r.kind (terms r vs) < 0)) hlt (by simp [h4])]; rfl
      simp [solB, this]
    · (refine ⟨⟨k + 1, by omega, step_no (p := fun r => decide (ihol r.kind (terms r vs) < 0)) hno hlt (by simp [h4])⟩, by (simp; try omega), ?_⟩; constructor <;> (simp (disch := first | omega | simp) [wrap_i64, le_most, lt_omega, le_omega, ne_omega, allLen]) <;> (try omega))
  · have : solves ls vs = true := by
      rw [solves, any_false_of (p := fun r => decide (ihol r.kind (terms r vs) < 0)) (l := ls) fun j hj => hno j hj (by omega)]; rfl
    simp (disch := first | omega | simp) [wrap_i64, le_most, lt_omega, le_omega, ne_omega, allLen, hlt]
    simp [solB, this, h1, h2, hu']
theorem c3 (ls : List Ru) (vars : Int) (vs : List Int) (h : ls.length ≤ maxLen) (hf : ∀ x ∈ ls, x.fine) (hv : vs.length ≤ maxLen) :
    PC E 3 [.i (.sl (ls.map encR)), .i (.int .i64 vars), .i (.sl (vs.map encI))] [.i (.bool true)] := by
  have m : maxLen = 9223372036854775807 := by decide
  refine PC_start hE Proofs.Try.func3 rfl rfl Proofs.Try.ntmps3 (by kernel_rfl) (by kernel_rfl) (by simp) ?_
  simp (disch := first | omega | simp) [wrap_i64, le_most, lt_omega, le_omega, ne_omega, allLen]
  (first | refine Gd.dec (fun h0 => ?_) (fun h0 => ?_) | refine Gd.intro (fun h0 => ?_) (fun h0 => ?_)) <;> simp (disch := first | omega | simp) [wrap_i64, le_most, lt_omega, le_omega, ne_omega, allLen, h0]
  refine CallK.of (c10 ls 1048576 (by omega) (by omega) h hf) (by first | exact .inl rfl | exact .inr (by simp)) (by simp) ?_
  simp (disch := first | omega | simp) [wrap_i64, le_most, lt_omega, le_omega, ne_omega, allLen]
  (first | refine Gd.dec (fun h1 => ?_) (fun h1 => ?_) | refine Gd.intro (fun h1 => ?_) (fun h1 => ?_)) <;> simp (disch := first | omega | simp) [wrap_i64, le_most, lt_omega, le_omega, ne_omega, allLen, h1]
  have h2 : ¬ (1048576 : Int) - ls.length - rsum ls < 0 := by split at h1 <;> omega
  have g1 : (ls.length : Int) ≤ 1048576 := by omega
  have g2 : (rsum ls : Int) ≤ 1048576 := by omega
  have g3 : (vs.length : Int) ≤ 1048576 := by omega
  refine CallK.of (c12 ls g1 g2) (by first | exact .inl rfl | exact .inr (by simp)) (by simp) ?_
  simp (disch := first | omega | simp) [wrap_i64, le_most, lt_omega, le_omega, ne_omega, allLen]
  refine CallK.of (c13 vs g3) (by first | exact .inl rfl | exact .inr (by simp)) (by simp) ?_
  simp (disch := first | omega | simp) [wrap_i64, le_most, lt_omega, le_omega, ne_omega, allLen]
  refine CallK.of (c11 ls vars vs g1 g2 g3) (by first | exact .inl rfl | exact .inr (by simp)) (by simp) ?_
  simp (disch := first | omega | simp) [wrap_i64, le_most, lt_omega, le_omega, ne_omega, allLen]
  refine CallK.of (c12 ls g1 g2) (by first | exact .inl rfl | exact .inr (by simp)) (by simp) ?_
  simp (disch := first | omega | simp) [wrap_i64, le_most, lt_omega, le_omega, ne_omega, allLen]
  refine CallK.of (c13 vs g3) (by first | exact .inl rfl | exact .inr (by simp)) (by simp) ?_
  simp (disch := first | omega | simp) [wrap_i64, le_most, lt_omega, le_omega, ne_omega, allLen]
  refine CallK.of (c14 ls vars vs g1 g2 g3) (by first | exact .inl rfl | exact .inr (by simp)) (by simp) ?_
  simp (disch := first | omega | simp) [wrap_i64, le_most, lt_omega, le_omega, ne_omega, allLen]
  refine CallK.of (c12 ls g1 g2) (by first | exact .inl rfl | exact .inr (by simp)) (by simp) ?_
  simp (disch := first | omega | simp) [wrap_i64, le_most, lt_omega, le_omega, ne_omega, allLen]
  refine CallK.of (c15 ls ls g1 g1 g2 g2) (by first | exact .inl rfl | exact .inr (by simp)) (by simp) ?_
  simp (disch := first | omega | simp) [wrap_i64, le_most, lt_omega, le_omega, ne_omega, allLen]
  refine CallK.of (c13 vs g3) (by first | exact .inl rfl | exact .inr (by simp)) (by simp) ?_
  simp (disch := first | omega | simp) [wrap_i64, le_most, lt_omega, le_omega, ne_omega, allLen]
  refine CallK.of (c16 vs vs g3 g3) (by first | exact .inl rfl | exact .inr (by simp)) (by simp) ?_
  simp (disch := first | omega | simp) [wrap_i64, le_most, lt_omega, le_omega, ne_omega, allLen]
end Go.Vai
