/- Merged texts of this claim: Zt19, Zt20, Zt21, Zt22, Zt23. -/
import Derived.Test.YtkljeldcjnpinaaYb25
set_option linter.unusedVariables false
set_option linter.unusedSimpArgs false
set_option maxHeartbeats 4000000
namespace Go.Vai
def tri (n : Int) : Prop := n = -1 ∨ n = 0 ∨ n = 1
/-- The terms of a rule. -/
def terms (x : Ru) (vs : List Int) : List Int := List.zipWith (fun v s => vs.getD v.toNat 0 * s) x.vars x.signs
def prodI (l : List Int) : Int := l.foldl (· * ·) 1
structure RFit (x : Ru) (vs : List Int) : Prop where
  len : x.signs.length = x.vars.length
  at_ : ∀ (k : Nat) (h : k < x.vars.length), 0 ≤ x.vars[k] ∧ x.vars[k] < vs.length
  unit : ∀ (k : Nat) (h : k < x.signs.length), x.signs[k] = 1 ∨ x.signs[k] = -1
  val : ∀ (k : Nat) (h : k < vs.length), tri vs[k]
theorem RFit.terms_len {x : Ru} {vs : List Int} (h : RFit x vs) : (terms x vs).length = x.vars.length := by simp [terms, h.len]
/-- What a round reads. -/
theorem RFit.round {x : Ru} {vs : List Int} (h : RFit x vs) {k : Nat} (hk : k < x.vars.length) : ∃ (n : Nat) (h1 : n < vs.length) (h2 : k < x.signs.length) (h3 : k < (terms x vs).length),
    x.vars[k] = n ∧ (terms x vs)[k] = vs[n] * x.signs[k] ∧ tri ((terms x vs)[k]) := by
  obtain ⟨ha, hb⟩ := h.at_ k hk
  have h2 : k < x.signs.length := by rw [h.len]; exact hk
  have hn : x.vars[k] = (x.vars[k].toNat : Int) := by omega
  have h1 : x.vars[k].toNat < vs.length := by omega
  have ht : (terms x vs)[k]'(by rw [h.terms_len]; exact hk) = vs[x.vars[k].toNat] * x.signs[k] := by
    simp [terms, h1]
  refine ⟨x.vars[k].toNat, h1, h2, by rw [h.terms_len]; exact hk, hn, ht, ?_⟩
  rw [ht]
  rcases h.unit k h2 with e | e <;> rw [e] <;> rcases h.val _ h1 with e | e | e <;> rw [e] <;> simp [tri]
theorem prodI_step {l : List Int} {k : Nat} (hk : k < l.length) : prodI (l.take (k + 1)) = prodI (l.take k) * l[k] := by
  rw [List.take_succ_eq_append_getElem hk]; simp only [prodI, List.foldl_append, List.foldl_cons, List.foldl_nil]
theorem count_step {l : List Int} {k : Nat} (hk : k < l.length) (a : Int) : (l.take (k + 1)).count a = (l.take k).count a + if l[k] = a then 1 else 0 := by
  rw [List.take_succ_eq_append_getElem hk, List.count_append, List.count_singleton]
  by_cases h : l[k] = a <;> simp [h]
theorem prodI_tri {l : List Int} (h : ∀ (k : Nat) (hk : k < l.length), tri l[k]) : ∀ k, k ≤ l.length → tri (prodI (l.take k))
  | 0, _ => by simp [prodI, tri]
  | k + 1, hk => by
    have h1 := prodI_tri h k (by omega)
    have h2 := h k (by omega)
    rw [prodI_step (by omega)]
    rcases h1 with e | e | e <;> rw [e] <;> rcases h2 with e | e | e <;> rw [e] <;> simp [tri]
/-- How a rule holds, as the reference says it. -/
def shol (kind : Int) (l : List Int) : Int :=
  if kind = 3 then (if 0 < l.count 1 ∧ 0 < l.count (-1) then 1 else if l.count 0 = 0 then -1 else 0)
  else if kind = 2 then (if 0 < l.count 1 ∧ 0 < l.count (-1) then -1 else if l.count 0 = 0 then 1 else 0)
  else prodI l
/-- As the program says it. -/
def ihol (kind : Int) (l : List Int) : Int :=
  if kind = 1 ∨ kind = 4 ∨ kind = 2 then prodI l
  else if 0 < l.count (-1) ∧ 0 < l.count 1 then 1 else if l.count (-1) = 3 ∨ l.count 1 = 3 then -1 else 0
theorem hol_eq {kind : Int} {l : List Int} (h : inB kind 1 4 = true) (hl : (l.length : Int) = kind) (ht : ∀ (k : Nat) (hk : k < l.length), tri l[k]) : shol kind l = ihol kind l := by
  simp [inB] at h
  have hk : kind = 1 ∨ kind = 2 ∨ kind = 3 ∨ kind = 4 := by omega
  rcases hk with rfl | rfl | rfl | rfl
  · simp [shol, ihol]
  · match l, hl, ht with
    | [a, b], _, ht =>
      have ha := ht 0 (by simp); have hb := ht 1 (by simp)
      simp at ha hb
      rcases ha with rfl | rfl | rfl <;> rcases hb with rfl | rfl | rfl <;> decide
  · match l, hl, ht with
    | [a, b, c], _, ht =>
      have ha := ht 0 (by simp); have hb := ht 1 (by simp); have hc := ht 2 (by simp)
      simp at ha hb hc
      rcases ha with rfl | rfl | rfl <;> rcases hb with rfl | rfl | rfl <;> rcases hc with rfl | rfl | rfl <;> decide
  · simp [shol, ihol]
end Go.Vai
set_option linter.unusedVariables false
set_option linter.unusedSimpArgs false
set_option maxHeartbeats 4000000
namespace Go.Vai
theorem c73 (x : Ru) (vs : List Int) (hx : RFit x vs) (h : (x.vars.length : Int) ≤ 1048576) : PC E 73 [.i (.ptr (encR x)), .i (.sl (vs.map encI))] [.i (.int .i64 (shol x.kind (terms x vs)))] := by
  refine PC_start hE Proofs.Try.func73 rfl rfl Proofs.Try.ntmps73 (by kernel_rfl) (by kernel_rfl) (by simp) ?_
  simp (maxSteps := 1000000) (disch := first | (exact DrawOk.mk (by decide +kernel)) | omega | simp) [wrap_i64, le_most, lt_omega, le_omega, ne_omega, allLen]
  have hT := hx.terms_len
  have htri : ∀ (k : Nat) (hk : k < (terms x vs).length), tri (terms x vs)[k] := fun k hk => by
    obtain ⟨n, h1, h2, h3, -, -, ht⟩ := hx.round (k := k) (by omega)
    exact ht
  refine XL.by hE (ι := { k : Nat // k ≤ x.vars.length }) (fun k => ⟨[(0, .i (.ptr (encR x))), (1, .i (.sl (vs.map encI))), (5, .i (.int .i64 (((terms x vs).take k.1).count 0 : Nat))), (6, .i (.int .i64 (prodI ((terms x vs).take k.1)))),
    (7, .i (.int .i64 (((terms x vs).take k.1).count 1 : Nat))), (8, .i (.int .i64 (((terms x vs).take k.1).count (-1) : Nat))), (9, .i (.int .i64 k.1))], []⟩)
    (fun k => x.vars.length - k.1) ⟨0, Nat.zero_le _⟩ ⟨by simp [prodI], by simp, by simp⟩ (by kernel_rfl) ?_
  rintro ⟨k, hk⟩
  by_cases hlt : k < x.vars.length
  · obtain ⟨n, h1, h2, h3, hv, ht, h4⟩ := hx.round hlt
    have hnn : ¬ ((n : Int) < 0) := by omega
    have hp := prodI_tri htri k (by omega)
    have hps := prodI_step h3
    have c0 := count_step h3 0
    have c1 := count_step h3 1
    have c2 := count_step h3 (-1)
    have l0 := List.count_le_length (a := (0 : Int)) (l := (terms x vs).take k)
    have l1 := List.count_le_length (a := (1 : Int)) (l := (terms x vs).take k)
    have l2 := List.count_le_length (a := (-1 : Int)) (l := (terms x vs).take k)
    simp at l0 l1 l2
    have hw : IntKind.i64.wrap (vs[n] * x.signs[k]) = (terms x vs)[k] := by
      rw [← ht]; rcases h4 with e | e | e <;> rw [e] <;> decide
    generalize (terms x vs)[k] = t at *
    have hpb : -1 ≤ prodI ((terms x vs).take k) ∧ prodI ((terms x vs).take k) ≤ 1 := by rcases hp with e | e | e <;> rw [e] <;> omega
    simp (maxSteps := 1000000) (disch := first | (exact DrawOk.mk (by decide +kernel)) | omega | simp) [wrap_i64, le_most, lt_omega, le_omega, ne_omega, allLen, hlt, h1, h2, hv, hw, hnn, encR, encI]
    rcases h4 with rfl | rfl | rfl
    · simp (maxSteps := 1000000) (disch := first | (exact DrawOk.mk (by decide +kernel)) | omega | simp) [wrap_i64, le_most, lt_omega, le_omega, ne_omega, allLen]
      (refine ⟨⟨k + 1, by omega⟩, by (simp; try omega), ?_⟩; constructor <;> (simp (maxSteps := 1000000) (disch := first | (exact DrawOk.mk (by decide +kernel)) | omega | simp) [wrap_i64, le_most, lt_omega, le_omega, ne_omega, allLen, encR, hps, c0, c1, c2]) <;> (try omega))
    · simp (maxSteps := 1000000) (disch := first | (exact DrawOk.mk (by decide +kernel)) | omega | simp) [wrap_i64, le_most, lt_omega, le_omega, ne_omega, allLen]
      (refine ⟨⟨k + 1, by omega⟩, by (simp; try omega), ?_⟩; constructor <;> (simp (maxSteps := 1000000) (disch := first | (exact DrawOk.mk (by decide +kernel)) | omega | simp) [wrap_i64, le_most, lt_omega, le_omega, ne_omega, allLen, encR, hps, c0, c1, c2]) <;> (try omega))
    · simp (maxSteps := 1000000) (disch := first | (exact DrawOk.mk (by decide +kernel)) | omega | simp) [wrap_i64, le_most, lt_omega, le_omega, ne_omega, allLen]
      (refine ⟨⟨k + 1, by omega⟩, by (simp; try omega), ?_⟩; constructor <;> (simp (maxSteps := 1000000) (disch := first | (exact DrawOk.mk (by decide +kernel)) | omega | simp) [wrap_i64, le_most, lt_omega, le_omega, ne_omega, allLen, encR, hps, c0, c1, c2]) <;> (try omega))
  · obtain rfl : k = x.vars.length := by omega
    have hta : (terms x vs).take x.vars.length = terms x vs := by rw [← hT, List.take_length]
    simp (maxSteps := 1000000) (disch := first | (exact DrawOk.mk (by decide +kernel)) | omega | simp) [wrap_i64, le_most, lt_omega, le_omega, ne_omega, allLen, encR, hta]
    (first | refine Gd.dec (fun h1 => ?_) (fun h1 => ?_) | refine Gd.intro (fun h1 => ?_) (fun h1 => ?_)) <;> simp (maxSteps := 1000000) (disch := first | (exact DrawOk.mk (by decide +kernel)) | omega | simp) [wrap_i64, le_most, lt_omega, le_omega, ne_omega, allLen, h1]
    · (first | refine Gd.dec (fun h2 => ?_) (fun h2 => ?_) | refine Gd.intro (fun h2 => ?_) (fun h2 => ?_)) <;> simp (maxSteps := 1000000) (disch := first | (exact DrawOk.mk (by decide +kernel)) | omega | simp) [wrap_i64, le_most, lt_omega, le_omega, ne_omega, allLen, h2]
      · (first | refine Gd.dec (fun h3 => ?_) (fun h3 => ?_) | refine Gd.intro (fun h3 => ?_) (fun h3 => ?_)) <;> simp (maxSteps := 1000000) (disch := first | (exact DrawOk.mk (by decide +kernel)) | omega | simp) [wrap_i64, le_most, lt_omega, le_omega, ne_omega, allLen, h3]
        · simp [shol, h1, h2, h3]
        · (first | refine Gd.dec (fun h4 => ?_) (fun h4 => ?_) | refine Gd.intro (fun h4 => ?_) (fun h4 => ?_)) <;> simp (maxSteps := 1000000) (disch := first | (exact DrawOk.mk (by decide +kernel)) | omega | simp) [wrap_i64, le_most, lt_omega, le_omega, ne_omega, allLen, h4]
          · simp [shol, h1, h2, h3, h4]
          · simp [shol, h1, h2, h3, h4]
      · (first | refine Gd.dec (fun h4 => ?_) (fun h4 => ?_) | refine Gd.intro (fun h4 => ?_) (fun h4 => ?_)) <;> simp (maxSteps := 1000000) (disch := first | (exact DrawOk.mk (by decide +kernel)) | omega | simp) [wrap_i64, le_most, lt_omega, le_omega, ne_omega, allLen, h4]
        · simp [shol, h1, h2, h4]
        · simp [shol, h1, h2, h4]
    (first | refine Gd.dec (fun h1b => ?_) (fun h1b => ?_) | refine Gd.intro (fun h1b => ?_) (fun h1b => ?_)) <;> simp (maxSteps := 1000000) (disch := first | (exact DrawOk.mk (by decide +kernel)) | omega | simp) [wrap_i64, le_most, lt_omega, le_omega, ne_omega, allLen, h1b]
    · (first | refine Gd.dec (fun h2 => ?_) (fun h2 => ?_) | refine Gd.intro (fun h2 => ?_) (fun h2 => ?_)) <;> simp (maxSteps := 1000000) (disch := first | (exact DrawOk.mk (by decide +kernel)) | omega | simp) [wrap_i64, le_most, lt_omega, le_omega, ne_omega, allLen, h2]
      · (first | refine Gd.dec (fun h3 => ?_) (fun h3 => ?_) | refine Gd.intro (fun h3 => ?_) (fun h3 => ?_)) <;> simp (maxSteps := 1000000) (disch := first | (exact DrawOk.mk (by decide +kernel)) | omega | simp) [wrap_i64, le_most, lt_omega, le_omega, ne_omega, allLen, h3]
        · simp [shol, h1, h1b, h2, h3]
        · (first | refine Gd.dec (fun h4 => ?_) (fun h4 => ?_) | refine Gd.intro (fun h4 => ?_) (fun h4 => ?_)) <;> simp (maxSteps := 1000000) (disch := first | (exact DrawOk.mk (by decide +kernel)) | omega | simp) [wrap_i64, le_most, lt_omega, le_omega, ne_omega, allLen, h4]
          · simp [shol, h1, h1b, h2, h3, h4]
          · simp [shol, h1, h1b, h2, h3, h4]
      · (first | refine Gd.dec (fun h4 => ?_) (fun h4 => ?_) | refine Gd.intro (fun h4 => ?_) (fun h4 => ?_)) <;> simp (maxSteps := 1000000) (disch := first | (exact DrawOk.mk (by decide +kernel)) | omega | simp) [wrap_i64, le_most, lt_omega, le_omega, ne_omega, allLen, h4]
        · simp [shol, h1, h1b, h2, h4]
        · simp [shol, h1, h1b, h2, h4]
    · simp [shol, h1, h1b]
end Go.Vai
set_option linter.unusedVariables false
set_option linter.unusedSimpArgs false
set_option maxHeartbeats 4000000
namespace Go.Vai
theorem c75 (x : Ru) (vs : List Int) (hx : RFit x vs) (h : (x.vars.length : Int) ≤ 1048576) : PC E 75 [.agg (encR x), .i (.sl (vs.map encI))] [.i (.int .i64 (ihol x.kind (terms x vs)))] := by
  refine PC_start hE Proofs.Try.func75 rfl rfl Proofs.Try.ntmps75 (by kernel_rfl) (by kernel_rfl) (by simp) ?_
  have hT := hx.terms_len
  have htri : ∀ (k : Nat) (hk : k < (terms x vs).length), tri (terms x vs)[k] := fun k hk => by
    obtain ⟨n, h1, h2, h3, -, -, ht⟩ := hx.round (k := k) (by omega)
    exact ht
  simp (maxSteps := 1000000) (disch := first | (exact DrawOk.mk (by decide +kernel)) | omega | simp) [wrap_i64, le_most, lt_omega, le_omega, ne_omega, allLen, encR]
  refine XL.by hE (ι := { k : Nat // k ≤ x.vars.length }) (fun k => ⟨[(1, .i (.sl (vs.map encI))), (2, .ptr 2 0 0), (5, .ptr 5 0 0), (6, .i (.int .i64 (prodI ((terms x vs).take k.1)))),
    (11, .i (.sl (x.vars.map encI))), (12, .i (.int .i64 x.vars.length)), (13, .i (.int .i64 k.1))],
    [(2, ⟨3, [encR x]⟩), (5, ⟨3, [[.int .i64 (((terms x vs).take k.1).count (-1) : Nat), .int .i64 (((terms x vs).take k.1).count 0 : Nat), .int .i64 (((terms x vs).take k.1).count 1 : Nat)]]⟩)]⟩)
    (fun k => x.vars.length - k.1) ⟨0, Nat.zero_le _⟩ ⟨by simp [prodI], by simp [encR], by simp⟩ (by kernel_rfl) ?_
  rintro ⟨k, hk⟩
  by_cases hlt : k < x.vars.length
  · obtain ⟨n, h1, h2, h3, hv, ht, h4⟩ := hx.round hlt
    have hnn : ¬ ((n : Int) < 0) := by omega
    have hp := prodI_tri htri k (by omega)
    have hps := prodI_step h3
    have c0 := count_step h3 0
    have c1 := count_step h3 1
    have c2 := count_step h3 (-1)
    have l0 := List.count_le_length (a := (0 : Int)) (l := (terms x vs).take k)
    have l1 := List.count_le_length (a := (1 : Int)) (l := (terms x vs).take k)
    have l2 := List.count_le_length (a := (-1 : Int)) (l := (terms x vs).take k)
    simp at l0 l1 l2
    have hw : IntKind.i64.wrap (vs[n] * x.signs[k]) = (terms x vs)[k] := by
      rw [← ht]; rcases h4 with e | e | e <;> rw [e] <;> decide
    have hpb : -1 ≤ prodI ((terms x vs).take k) ∧ prodI ((terms x vs).take k) ≤ 1 := by rcases hp with e | e | e <;> rw [e] <;> omega
    generalize (terms x vs)[k] = t at *
    simp (maxSteps := 1000000) (disch := first | (exact DrawOk.mk (by decide +kernel)) | omega | simp) [wrap_i64, le_most, lt_omega, le_omega, ne_omega, allLen, hlt, h1, h2, hv, hw, hnn, encR, encI]
    rcases h4 with rfl | rfl | rfl
    · simp (maxSteps := 1000000) (disch := first | (exact DrawOk.mk (by decide +kernel)) | omega | simp) [wrap_i64, le_most, lt_omega, le_omega, ne_omega, allLen]
      (refine ⟨⟨k + 1, by omega⟩, by (simp; try omega), ?_⟩; constructor <;> (simp (maxSteps := 1000000) (disch := first | (exact DrawOk.mk (by decide +kernel)) | omega | simp) [wrap_i64, le_most, lt_omega, le_omega, ne_omega, allLen, encR, hps, c0, c1, c2]) <;> (try omega))
    · simp (maxSteps := 1000000) (disch := first | (exact DrawOk.mk (by decide +kernel)) | omega | simp) [wrap_i64, le_most, lt_omega, le_omega, ne_omega, allLen]
      (refine ⟨⟨k + 1, by omega⟩, by (simp; try omega), ?_⟩; constructor <;> (simp (maxSteps := 1000000) (disch := first | (exact DrawOk.mk (by decide +kernel)) | omega | simp) [wrap_i64, le_most, lt_omega, le_omega, ne_omega, allLen, encR, hps, c0, c1, c2]) <;> (try omega))
    · simp (maxSteps := 1000000) (disch := first | (exact DrawOk.mk (by decide +kernel)) | omega | simp) [wrap_i64, le_most, lt_omega, le_omega, ne_omega, allLen]
      (refine ⟨⟨k + 1, by omega⟩, by (simp; try omega), ?_⟩; constructor <;> (simp (maxSteps := 1000000) (disch := first | (exact DrawOk.mk (by decide +kernel)) | omega | simp) [wrap_i64, le_most, lt_omega, le_omega, ne_omega, allLen, encR, hps, c0, c1, c2]) <;> (try omega))
  · obtain rfl : k = x.vars.length := by omega
    have hta : (terms x vs).take x.vars.length = terms x vs := by rw [← hT, List.take_length]
    simp (maxSteps := 1000000) (disch := first | (exact DrawOk.mk (by decide +kernel)) | omega | simp) [wrap_i64, le_most, lt_omega, le_omega, ne_omega, allLen, encR, hta]
    (first | refine Gd.dec (fun h1 => ?_) (fun h1 => ?_) | refine Gd.intro (fun h1 => ?_) (fun h1 => ?_)) <;> simp (maxSteps := 1000000) (disch := first | (exact DrawOk.mk (by decide +kernel)) | omega | simp) [wrap_i64, le_most, lt_omega, le_omega, ne_omega, allLen, h1]
    · simp [ihol, h1]
    (first | refine Gd.dec (fun h2 => ?_) (fun h2 => ?_) | refine Gd.intro (fun h2 => ?_) (fun h2 => ?_)) <;> simp (maxSteps := 1000000) (disch := first | (exact DrawOk.mk (by decide +kernel)) | omega | simp) [wrap_i64, le_most, lt_omega, le_omega, ne_omega, allLen, h2]
    · simp [ihol, h2]
    (first | refine Gd.dec (fun h3 => ?_) (fun h3 => ?_) | refine Gd.intro (fun h3 => ?_) (fun h3 => ?_)) <;> simp (maxSteps := 1000000) (disch := first | (exact DrawOk.mk (by decide +kernel)) | omega | simp) [wrap_i64, le_most, lt_omega, le_omega, ne_omega, allLen, h3]
    · simp [ihol, h3]
    (first | refine Gd.dec (fun h4 => ?_) (fun h4 => ?_) | refine Gd.intro (fun h4 => ?_) (fun h4 => ?_)) <;> simp (maxSteps := 1000000) (disch := first | (exact DrawOk.mk (by decide +kernel)) | omega | simp) [wrap_i64, le_most, lt_omega, le_omega, ne_omega, allLen, h4]
    · (first | refine Gd.dec (fun h5 => ?_) (fun h5 => ?_) | refine Gd.intro (fun h5 => ?_) (fun h5 => ?_)) <;> simp (maxSteps := 1000000) (disch := first | (exact DrawOk.mk (by decide +kernel)) | omega | simp) [wrap_i64, le_most, lt_omega, le_omega, ne_omega, allLen, h5]
      · simp [ihol, h1, h2, h3, h4, h5] <;> omega
      · (first | refine Gd.dec (fun h6 => ?_) (fun h6 => ?_) | refine Gd.intro (fun h6 => ?_) (fun h6 => ?_)) <;> simp (maxSteps := 1000000) (disch := first | (exact DrawOk.mk (by decide +kernel)) | omega | simp) [wrap_i64, le_most, lt_omega, le_omega, ne_omega, allLen, h6]
        · simp [ihol, h1, h2, h3, h4, h5, h6] <;> omega
        · (first | refine Gd.dec (fun h7 => ?_) (fun h7 => ?_) | refine Gd.intro (fun h7 => ?_) (fun h7 => ?_)) <;> simp (maxSteps := 1000000) (disch := first | (exact DrawOk.mk (by decide +kernel)) | omega | simp) [wrap_i64, le_most, lt_omega, le_omega, ne_omega, allLen, h7]
          · simp [ihol, h1, h2, h3, h4, h5, h6, h7] <;> omega
          · simp [ihol, h1, h2, h3, h4, h5, h6, h7] <;> omega
    · (first | refine Gd.dec (fun h6 => ?_) (fun h6 => ?_) | refine Gd.intro (fun h6 => ?_) (fun h6 => ?_)) <;> simp (maxSteps := 1000000) (disch := first | (exact DrawOk.mk (by decide +kernel)) | omega | simp) [wrap_i64, le_most, lt_omega, le_omega, ne_omega, allLen, h6]
      · simp [ihol, h1, h2, h3, h4, h6] <;> omega
      · (first | refine Gd.dec (fun h7 => ?_) (fun h7 => ?_) | refine Gd.intro (fun h7 => ?_) (fun h7 => ?_)) <;> simp (maxSteps := 1000000) (disch := first | (exact DrawOk.mk (by decide +kernel)) | omega | simp) [wrap_i64, le_most, lt_omega, le_omega, ne_omega, allLen, h7]
        · simp [ihol, h1, h2, h3, h4, h6, h7] <;> omega
        · simp [ihol, h1, h2, h3, h4, h6, h7] <;> omega
end Go.Vai
set_option linter.unusedVariables false
set_option linter.unusedSimpArgs false
set_option maxHeartbeats 4000000
namespace Go.Vai
def valsB (vs : List Int) : Bool := vs.all fun v => inB v (-1) 1
theorem c99 (s : Int) : PC E 99 [.i (.int .i64 s)] [.i (.bool (!inB s (-1) 1))] := by
  refine PC_start hE Proofs.Try.func99 rfl rfl Proofs.Try.ntmps99 (by kernel_rfl) (by kernel_rfl) (by simp) ?_
  simp (maxSteps := 1000000) (disch := first | (exact DrawOk.mk (by decide +kernel)) | omega | simp) [wrap_i64, le_most, lt_omega, le_omega, ne_omega, allLen]
  refine CallK.of (c95 _ _ _) (by first | exact .inl rfl | exact .inr (by simp)) (by simp) ?_
  simp (maxSteps := 1000000) (disch := first | (exact DrawOk.mk (by decide +kernel)) | omega | simp) [wrap_i64, le_most, lt_omega, le_omega, ne_omega, allLen]
theorem c69 (l : List Int) (h : (l.length : Int) ≤ 1048576) : PC E 69 [.i (.sl (l.map encI))] [.i (.bool (valsB l))] := by
  refine PC_start hE Proofs.Try.func69 rfl rfl Proofs.Try.ntmps69 (by kernel_rfl) (by kernel_rfl) (by simp) ?_
  simp (maxSteps := 1000000) (disch := first | (exact DrawOk.mk (by decide +kernel)) | omega | simp) [wrap_i64, le_most, lt_omega, le_omega, ne_omega, allLen]
  refine CallK.of (c98 l 99 [] (fun s => !inB s (-1) 1) (fun x _ => c99 x) h) (by first | exact .inl rfl | exact .inr (by simp)) (by simp) ?_
  simp (maxSteps := 1000000) (disch := first | (exact DrawOk.mk (by decide +kernel)) | omega | simp) [wrap_i64, le_most, lt_omega, le_omega, ne_omega, allLen, List.not_any_eq_all_not, valsB]
theorem c64 (l : List Int) (h : (l.length : Int) ≤ 1048576) : PC E 64 [.i (.sl (l.map encI))] [.i (.bool (valsB l))] := by
  refine PC_start hE Proofs.Try.func64 rfl rfl Proofs.Try.ntmps64 (by kernel_rfl) (by kernel_rfl) (by simp) ?_
  simp (maxSteps := 1000000) (disch := first | (exact DrawOk.mk (by decide +kernel)) | omega | simp) [wrap_i64, le_most, lt_omega, le_omega, ne_omega, allLen]
  refine XL.by hE (ι := { k : Nat // k ≤ l.length ∧ ∀ (j : Nat) (hj : j < l.length), j < k → inB l[j] (-1) 1 = true }) (fun k => ⟨[(0, .i (.sl (l.map encI))), (3, .i (.int .i64 k.1))], []⟩)
    (fun k => l.length - k.1) ⟨0, Nat.zero_le _, by simp⟩ ⟨by simp, by simp, by simp⟩ (by kernel_rfl) ?_
  rintro ⟨k, hk, hno⟩
  by_cases hlt : k < l.length
  · simp (maxSteps := 1000000) (disch := first | (exact DrawOk.mk (by decide +kernel)) | omega | simp) [wrap_i64, le_most, lt_omega, le_omega, ne_omega, allLen, hlt, encI]
    refine CallK.of (c93 _ _ _) (by first | exact .inl rfl | exact .inr (by simp)) (by simp) ?_
    simp (maxSteps := 1000000) (disch := first | (exact DrawOk.mk (by decide +kernel)) | omega | simp) [wrap_i64, le_most, lt_omega, le_omega, ne_omega, allLen, hlt]
    (first | refine Gd.dec (fun h4 => ?_) (fun h4 => ?_) | refine Gd.intro (fun h4 => ?_) (fun h4 => ?_)) <;> simp (maxSteps := 1000000) (disch := first | (exact DrawOk.mk (by decide +kernel)) | omega | simp) [wrap_i64, le_most, lt_omega, le_omega, ne_omega, allLen, h4]
    · (refine ⟨⟨k + 1, by omega, step_yes (p := fun v => inB v (-1) 1) hno hlt h4⟩, by (simp; try omega), ?_⟩; constructor <;> (simp (maxSteps := 1000000) (disch := first | (exact DrawOk.mk (by decide +kernel)) | omega | simp) [wrap_i64, le_most, lt_omega, le_omega, ne_omega, allLen]) <;> (try omega))
    · rw [valsB, all_false_of (p := fun v => inB v (-1) 1) hlt h4]
  · have := all_true_of (p := fun v => inB v (-1) 1) (l := l) fun j hj => hno j hj (by omega)
    simp (maxSteps := 1000000) (disch := first | (exact DrawOk.mk (by decide +kernel)) | omega | simp) [wrap_i64, le_most, lt_omega, le_omega, ne_omega, allLen, hlt, valsB]
    simpa using this
theorem rfit_of {x : Ru} {vs : List Int} (h1 : rv x vs.length = true) (h2 : valsB vs = true) : RFit x vs := by
  simp only [rv, Bool.and_eq_true, decide_eq_true_eq] at h1
  obtain ⟨-, -, h3, h4, h5⟩ := h1
  refine ⟨by omega, fun k h => ?_, fun k h => ?_, fun k h => ?_⟩
  · simp only [rises, List.all_eq_true, List.mem_range] at h4
    have := h4 k h
    simp [riseAt, inB, h] at this
    omega
  · rw [List.all_eq_true] at h5
    have := h5 _ (List.getElem_mem h)
    simpa [unitB] using this
  · rw [valsB, List.all_eq_true] at h2
    have := h2 _ (List.getElem_mem h)
    simp [inB] at this
    unfold tri; omega
def rholds (x : Ru) (vs : List Int) : Int := if (inB vs.length 0 200 && rv x vs.length) = true ∧ valsB vs = true then ihol x.kind (terms x vs) else 0
end Go.Vai
set_option linter.unusedVariables false
set_option linter.unusedSimpArgs false
set_option maxHeartbeats 4000000
namespace Go.Vai
theorem c63 (x : Ru) (vars : Int) (h : (x.sz : Int) ≤ 1048576) : PC E 63 [.agg (encR x), .i (.int .i64 vars)] [.i (.bool (inB vars 0 200 && rv x vars))] := by
  refine PC_start hE Proofs.Try.func63 rfl rfl Proofs.Try.ntmps63 (by kernel_rfl) (by kernel_rfl) (by simp) ?_
  simp (maxSteps := 1000000) (disch := first | (exact DrawOk.mk (by decide +kernel)) | omega | simp) [wrap_i64, le_most, lt_omega, le_omega, ne_omega, allLen]
  refine CallK.of (c93 _ _ _) (by first | exact .inl rfl | exact .inr (by simp)) (by simp) ?_
  simp (maxSteps := 1000000) (disch := first | (exact DrawOk.mk (by decide +kernel)) | omega | simp) [wrap_i64, le_most, lt_omega, le_omega, ne_omega, allLen]
  (first | refine Gd.dec (fun h1 => ?_) (fun h1 => ?_) | refine Gd.intro (fun h1 => ?_) (fun h1 => ?_)) <;> simp (maxSteps := 1000000) (disch := first | (exact DrawOk.mk (by decide +kernel)) | omega | simp) [wrap_i64, le_most, lt_omega, le_omega, ne_omega, allLen, h1]
  have hb : 0 ≤ vars ∧ vars ≤ 200 := by simpa [inB] using h1
  refine CallK.of (c94 x vars h hb) (by first | exact .inl rfl | exact .inr (by simp)) (by simp) ?_
  simp (maxSteps := 1000000) (disch := first | (exact DrawOk.mk (by decide +kernel)) | omega | simp) [wrap_i64, le_most, lt_omega, le_omega, ne_omega, allLen, h1]
theorem c39 (x : Ru) (vs : List Int) (h : (x.sz : Int) ≤ 1048576) (hv : (vs.length : Int) ≤ 1048576) : PC E 39 [.agg (encR x), .i (.sl (vs.map encI))] [.i (.int .i64 (rholds x vs))] := by
  refine PC_start hE Proofs.Try.func39 rfl rfl Proofs.Try.ntmps39 (by kernel_rfl) (by kernel_rfl) (by simp) ?_
  simp (maxSteps := 1000000) (disch := first | (exact DrawOk.mk (by decide +kernel)) | omega | simp) [wrap_i64, le_most, lt_omega, le_omega, ne_omega, allLen]
  refine CallK.of (c68 _) (by first | exact .inl rfl | exact .inr (by simp)) (by simp) ?_
  simp (maxSteps := 1000000) (disch := first | (exact DrawOk.mk (by decide +kernel)) | omega | simp) [wrap_i64, le_most, lt_omega, le_omega, ne_omega, allLen]
  refine CallK.of (c67 x _ h) (by first | exact .inl rfl | exact .inr (by simp)) (by simp) ?_
  simp only [rholds]
  generalize hq : (inB (vs.length : Int) 0 200 && rv x (vs.length : Int)) = q
  cases q
  · simp (maxSteps := 1000000) (disch := first | (exact DrawOk.mk (by decide +kernel)) | omega | simp) [wrap_i64, le_most, lt_omega, le_omega, ne_omega, allLen]
  · simp (maxSteps := 1000000) (disch := first | (exact DrawOk.mk (by decide +kernel)) | omega | simp) [wrap_i64, le_most, lt_omega, le_omega, ne_omega, allLen]
    refine CallK.of (c69 vs hv) (by first | exact .inl rfl | exact .inr (by simp)) (by simp) ?_
    generalize hw : valsB vs = r
    cases r
    · simp (maxSteps := 1000000) (disch := first | (exact DrawOk.mk (by decide +kernel)) | omega | simp) [wrap_i64, le_most, lt_omega, le_omega, ne_omega, allLen]
    · simp at hq
      have hf := rfit_of hq.2 hw
      have hs : (x.vars.length : Int) ≤ 1048576 := by unfold Ru.sz at h; omega
      simp (maxSteps := 1000000) (disch := first | (exact DrawOk.mk (by decide +kernel)) | omega | simp) [wrap_i64, le_most, lt_omega, le_omega, ne_omega, allLen]
      refine CallK.of (c75 x vs hf hs) (by first | exact .inl rfl | exact .inr (by simp)) (by simp) ?_
      simp (maxSteps := 1000000) (disch := first | (exact DrawOk.mk (by decide +kernel)) | omega | simp) [wrap_i64, le_most, lt_omega, le_omega, ne_omega, allLen]
end Go.Vai
