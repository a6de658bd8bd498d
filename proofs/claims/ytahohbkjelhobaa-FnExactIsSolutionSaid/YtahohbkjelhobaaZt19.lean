import Derived.Test.YtahohbkjelhobaaZt18
set_option linter.unusedVariables false
set_option linter.unusedSimpArgs false
set_option maxHeartbeats 4000000
namespace Go.Vai
def tri (n : Int) : Prop := n = -1 ∨ n = 0 ∨ n = 1
/-- The terms of a rule. -/
def terms (x : Ru) (vs : List Int) : List Int := List.zipWith (fun v s => vs.getD v.toNat 0 * s) x.vars x.signs
def prodI (l : List Int) : Int := l.foldl (· * ·) 1
structure RFit (x : Ru) (vs : List Int) : Prop where
  len : x.signs.length = x.vars.length
  at_ : ∀ (k : Nat) (h : k < x.vars.length), 0 ≤ x.vars[k] ∧ x.vars[k] < vs.length
  unit : ∀ (k : Nat) (h : k < x.signs.length), x.signs[k] = 1 ∨ x.signs[k] = -1
  val : ∀ (k : Nat) (h : k < vs.length), tri vs[k]
theorem RFit.terms_len {x : Ru} {vs : List Int} (h : RFit x vs) : (terms x vs).length = x.vars.length := by simp [terms, h.len]
/-- What a round reads. -/
theorem RFit.round {x : Ru} {vs : List Int} (h : RFit x vs) {k : Nat} (hk : k < x.vars.length) : ∃ (n : Nat) (h1 : n < vs.length) (h2 : k < x.signs.length) (h3 : k < (terms x vs).length),
    x.vars[k] = n ∧ (terms x vs)[k] = vs[n] * x.signs[k] ∧ tri ((terms x vs)[k]) := by
  obtain ⟨ha, hb⟩ := h.at_ k hk
  have h2 : k < x.signs.length := by rw [h.len]; exact hk
  have hn : x.vars[k] = (x.vars[k].toNat : Int) := by omega
  have h1 : x.vars[k].toNat < vs.length := by omega
  have ht : (terms x vs)[k]'(by rw [h.terms_len]; exact hk) = vs[x.vars[k].toNat] * x.signs[k] := by
    simp [terms, h1]
  refine ⟨x.vars[k].toNat, h1, h2, by rw [h.terms_len]; exact hk, hn, ht, ?_⟩
  rw [ht]
  rcases h.unit k h2 with e | e <;> rw [e] <;> rcases h.val _ h1 with e | e | e <;> rw [e] <;> simp [tri]
theorem prodI_step {l : List Int} {k : Nat} (hk : k < l.length) : prodI (l.take (k + 1)) = prodI (l.take k) * l[k] := by
  rw [List.take_succ_eq_append_getElem hk]; simp only [prodI, List.foldl_append, List.foldl_cons, List.foldl_nil]
theorem count_step {l : List Int} {k : Nat} (hk : k < l.length) (a : Int) : (l.take (k + 1)).count a = (l.take k).count a + if l[k] = a then 1 else 0 := by
  rw [List.take_succ_eq_append_getElem hk, List.count_append, List.count_singleton]
  by_cases h : l[k] = a <;> simp [h]
theorem prodI_tri {l : List Int} (h : ∀ (k : Nat) (hk : k < l.length), tri l[k]) : ∀ k, k ≤ l.length → tri (prodI (l.take k))
  | 0, _ => by simp [prodI, tri]
  | k + 1, hk => by
    have h1 := prodI_tri h k (by omega)
    have h2 := h k (by omega)
    rw [prodI_step (by omega)]
    rcases h1 with e | e | e <;> rw [e] <;> rcases h2 with e | e | e <;> rw [e] <;> simp [tri]
/-- How a rule holds, as the reference says it. -/
def shol (kind : Int) (l : List Int) : Int :=
  if kind = 3 then (if 0 < l.count 1 ∧ 0 < l.count (-1) then 1 else if l.count 0 = 0 then -1 else 0)
  else if kind = 2 then (if 0 < l.count 1 ∧ 0 < l.count (-1) then -1 else if l.count 0 = 0 then 1 else 0)
  else prodI l
/-- As the program says it. -/
def ihol (kind : Int) (l : List Int) : Int :=
  if kind = 1 ∨ kind = 4 ∨ kind = 2 then prodI l
  else if 0 < l.count (-1) ∧ 0 < l.count 1 then 1 else if l.count (-1) = 3 ∨ l.count 1 = 3 then -1 else 0
theorem hol_eq {kind : Int} {l : List Int} (h : inB kind 1 4 = true) (hl : (l.length : Int) = kind) (ht : ∀ (k : Nat) (hk : k < l.length), tri l[k]) : shol kind l = ihol kind l := by
  simp [inB] at h
  have hk : kind = 1 ∨ kind = 2 ∨ kind = 3 ∨ kind = 4 := by omega
  rcases hk with rfl | rfl | rfl | rfl
  · simp [shol, ihol]
  · match l, hl, ht with
    | [a, b], _, ht =>
      have ha := ht 0 (by simp); have hb := ht 1 (by simp)
      simp at ha hb
      rcases ha with rfl | rfl | rfl <;> rcases hb with rfl | rfl | rfl <;> decide
  · match l, hl, ht with
    | [a, b, c], _, ht =>
      have ha := ht 0 (by simp); have hb := ht 1 (by simp); have hc := ht 2 (by simp)
      simp at ha hb hc
      rcases ha with rfl | rfl | rfl <;> rcases hb with rfl | rfl | rfl <;> rcases hc with rfl | rfl | rfl <;> decide
  · simp [shol, ihol]
end Go.Vai
