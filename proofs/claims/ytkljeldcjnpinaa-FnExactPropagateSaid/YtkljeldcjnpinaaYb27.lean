/- Merged texts of this claim: Zt27, Zt28. -/
import Derived.Test.YtkljeldcjnpinaaYb26
import Derived.Test.YtkljeldcjnpinaaYb25
set_option linter.unusedVariables false
set_option linter.unusedSimpArgs false
set_option maxHeartbeats 4000000
namespace Go.Vai
theorem any_true_of {α : Type} {p : α → Bool} {l : List α} {j : Nat} (hj : j < l.length) (h : p l[j] = true) : l.any p = true := by
  rw [List.any_eq_true]; exact ⟨_, List.getElem_mem hj, h⟩
theorem any_false_of {α : Type} {p : α → Bool} {l : List α} (h : ∀ (j : Nat) (hj : j < l.length), p l[j] = false) : l.any p = false := by
  rw [List.any_eq_false]
  intro x hx
  obtain ⟨j, hj, rfl⟩ := List.getElem_of_mem hx
  simp [h j hj]
theorem c81 (l : List Int) (n : Int) (h : (l.length : Int) ≤ 1048576) : PC E 81 [.i (.sl (l.map encI)), .i (.int .i64 n)] [.i (.bool (l.any fun x => decide (x = n)))] := by
  refine PC_start hE Proofs.Try.func81 rfl rfl Proofs.Try.ntmps81 (by kernel_rfl) (by kernel_rfl) (by simp) ?_
  simp (maxSteps := 1000000) (disch := first | (exact DrawOk.mk (by decide +kernel)) | omega | simp) [wrap_i64, le_most, lt_omega, le_omega, ne_omega, allLen]
  refine XL.by hE (ι := { k : Nat // k ≤ l.length ∧ ∀ (j : Nat) (hj : j < l.length), j < k → decide (l[j] = n) = false }) (fun k => ⟨[(0, .i (.sl (l.map encI))), (1, .i (.int .i64 n)), (5, .i (.int .i64 k.1))], []⟩)
    (fun k => l.length - k.1) ⟨0, Nat.zero_le _, by simp⟩ ⟨by simp, by simp, by simp⟩ (by kernel_rfl) ?_
  rintro ⟨k, hk, hno⟩
  by_cases hlt : k < l.length
  · simp (maxSteps := 1000000) (disch := first | (exact DrawOk.mk (by decide +kernel)) | omega | simp) [wrap_i64, le_most, lt_omega, le_omega, ne_omega, allLen, hlt, encI]
    (first | refine Gd.dec (fun h4 => ?_) (fun h4 => ?_) | refine Gd.intro (fun h4 => ?_) (fun h4 => ?_)) <;> simp (maxSteps := 1000000) (disch := first | (exact DrawOk.mk (by decide +kernel)) | omega | simp) [wrap_i64, le_most, lt_omega, le_omega, ne_omega, allLen, h4]
    · subst h4; simp
    · (refine ⟨⟨k + 1, by omega, step_no (p := fun x => decide (x = n)) hno hlt (by simp [h4])⟩, by (simp; try omega), ?_⟩; constructor <;> (simp (maxSteps := 1000000) (disch := first | (exact DrawOk.mk (by decide +kernel)) | omega | simp) [wrap_i64, le_most, lt_omega, le_omega, ne_omega, allLen]) <;> (try omega))
  · have := any_false_of (p := fun x => decide (x = n)) (l := l) fun j hj => hno j hj (by omega)
    rw [List.any_eq_false] at this
    simp (maxSteps := 1000000) (disch := first | (exact DrawOk.mk (by decide +kernel)) | omega | simp) [wrap_i64, le_most, lt_omega, le_omega, ne_omega, allLen, hlt]
    simpa using this
theorem vals_units (l : List Int) : (valsB l && !(l.any fun x => decide (x = 0))) = l.all unitB := by
  rw [Bool.eq_iff_iff]
  simp only [valsB, Bool.and_eq_true, Bool.not_eq_true', List.all_eq_true, List.any_eq_false, decide_eq_true_eq, unitB, Bool.or_eq_true, inB]
  constructor
  · rintro ⟨h1, h2⟩ x hx
    have := h1 x hx; have := h2 x hx; omega
  · intro h
    exact ⟨fun x hx => by have := h x hx; omega, fun x hx => by have := h x hx; omega⟩
theorem units_vals {l : List Int} (h : l.all unitB = true) : valsB l = true := by
  rw [← vals_units] at h; simp at h; exact h.1
/-- Values solve valid rules. -/
def solves (ls : List Ru) (vs : List Int) : Bool := !(ls.any fun r => decide (ihol r.kind (terms r vs) < 0))
def rulesB (ls : List Ru) (vars : Int) : Bool := decide ((ls.length : Int) ≤ 3000) && (inB vars 0 200 && ls.all (fun x => rv x vars))
def solB (ls : List Ru) (vars : Int) (vs : List Int) : Bool := rulesB ls vars && decide ((vs.length : Int) = vars) && vs.all unitB && solves ls vs
theorem rules_rv {ls : List Ru} {vars : Int} (h : rulesB ls vars = true) {x : Ru} (hx : x ∈ ls) : rv x vars = true := by
  simp only [rulesB, Bool.and_eq_true, List.all_eq_true] at h
  exact h.2.2 x hx
theorem rsum_mem {ls : List Ru} {x : Ru} (h : x ∈ ls) : x.sz ≤ rsum ls := by
  obtain ⟨j, hj, rfl⟩ := List.getElem_of_mem h
  exact rsum_get hj
theorem rv_kind {x : Ru} {vars : Int} (h : rv x vars = true) : inB x.kind 1 4 = true ∧ (x.vars.length : Int) = x.kind := by
  simp only [rv, Bool.and_eq_true, decide_eq_true_eq] at h
  exact ⟨h.1, h.2.1⟩
theorem hol_eq' {x : Ru} {vs : List Int} (hf : RFit x vs) (h1 : inB x.kind 1 4 = true) (h2 : (x.vars.length : Int) = x.kind) : shol x.kind (terms x vs) = ihol x.kind (terms x vs) :=
  hol_eq (l := terms x vs) h1 (by rw [hf.terms_len]; exact h2) (fun k hk => by
    obtain ⟨n, h1, h2, h3, -, -, ht⟩ := hf.round (k := k) (by rw [← hf.terms_len]; exact hk)
    exact ht)
theorem c38 (ls : List Ru) (vars : Int) (vs : List Int) (h : (ls.length : Int) ≤ 1048576) (hr : (rsum ls : Int) ≤ 1048576) (hv : (vs.length : Int) ≤ 1048576) :
    PC E 38 [.i (.sl (ls.map encR)), .i (.int .i64 vars), .i (.sl (vs.map encI))] [.i (.bool (solB ls vars vs))] := by
  refine PC_start hE Proofs.Try.func38 rfl rfl Proofs.Try.ntmps38 (by kernel_rfl) (by kernel_rfl) (by simp) ?_
  simp (maxSteps := 1000000) (disch := first | (exact DrawOk.mk (by decide +kernel)) | omega | simp) [wrap_i64, le_most, lt_omega, le_omega, ne_omega, allLen]
  refine CallK.of (c72 ls vars h hr) (by first | exact .inl rfl | exact .inr (by simp)) (by simp) ?_
  have e : (decide ((ls.length : Int) ≤ 3000) && (inB vars 0 200 && ls.all fun x => rv x vars)) = rulesB ls vars := rfl
  rw [e]
  simp (maxSteps := 1000000) (disch := first | (exact DrawOk.mk (by decide +kernel)) | omega | simp) [wrap_i64, le_most, lt_omega, le_omega, ne_omega, allLen]
  (first | refine Gd.dec (fun h1 => ?_) (fun h1 => ?_) | refine Gd.intro (fun h1 => ?_) (fun h1 => ?_)) <;> simp (maxSteps := 1000000) (disch := first | (exact DrawOk.mk (by decide +kernel)) | omega | simp) [wrap_i64, le_most, lt_omega, le_omega, ne_omega, allLen, h1]
  rotate_left
  · simp [solB, h1]
  (first | refine Gd.dec (fun h2 => ?_) (fun h2 => ?_) | refine Gd.intro (fun h2 => ?_) (fun h2 => ?_)) <;> simp (maxSteps := 1000000) (disch := first | (exact DrawOk.mk (by decide +kernel)) | omega | simp) [wrap_i64, le_most, lt_omega, le_omega, ne_omega, allLen, h2]
  rotate_left
  · simp [solB, h2]
  refine CallK.of (c64 vs hv) (by first | exact .inl rfl | exact .inr (by simp)) (by simp) ?_
  have hu := vals_units vs
  generalize valsB vs = q at hu
  cases q
  · simp (maxSteps := 1000000) (disch := first | (exact DrawOk.mk (by decide +kernel)) | omega | simp) [wrap_i64, le_most, lt_omega, le_omega, ne_omega, allLen]
    simp [solB, ← hu]
  simp (maxSteps := 1000000) (disch := first | (exact DrawOk.mk (by decide +kernel)) | omega | simp) [wrap_i64, le_most, lt_omega, le_omega, ne_omega, allLen]
  refine CallK.of (c81 vs 0 hv) (by first | exact .inl rfl | exact .inr (by simp)) (by simp) ?_
  generalize (vs.any fun x => decide (x = 0)) = z at hu
  cases z
  rotate_left
  · simp (maxSteps := 1000000) (disch := first | (exact DrawOk.mk (by decide +kernel)) | omega | simp) [wrap_i64, le_most, lt_omega, le_omega, ne_omega, allLen]
    have hu' : vs.all unitB = false := by rw [← hu]; rfl
    simp only [solB, hu', Bool.and_false, Bool.false_and]
  have hu' : vs.all unitB = true := by rw [← hu]; rfl
  simp (maxSteps := 1000000) (disch := first | (exact DrawOk.mk (by decide +kernel)) | omega | simp) [wrap_i64, le_most, lt_omega, le_omega, ne_omega, allLen]
  refine XL.by hE (ι := { k : Nat // k ≤ ls.length ∧ ∀ (j : Nat) (hj : j < ls.length), j < k → decide (ihol ls[j].kind (terms ls[j] vs) < 0) = false }) (fun k => ⟨[(0, .i (.sl (ls.map encR))), (2, .i (.sl (vs.map encI))), (7, .i (.int .i64 k.1))], []⟩)
    (fun k => ls.length - k.1) ⟨0, Nat.zero_le _, by simp⟩ ⟨by simp, by simp, by simp⟩ (by kernel_rfl) ?_
  rintro ⟨k, hk, hno⟩
  by_cases hlt : k < ls.length
  · have hrv := rules_rv h1 (List.getElem_mem hlt)
    have hf : RFit ls[k] vs := rfit_of (by rw [h2]; exact hrv) (units_vals hu')
    have hs := rsum_mem (List.getElem_mem hlt)
    have hkk := rv_kind hrv
    have he := hol_eq' hf hkk.1 hkk.2
    unfold Ru.sz at hs
    simp (maxSteps := 1000000) (disch := first | (exact DrawOk.mk (by decide +kernel)) | omega | simp) [wrap_i64, le_most, lt_omega, le_omega, ne_omega, allLen, hlt]
    refine CallK.of (c73 ls[k] vs hf (by omega)) (by first | exact .inl rfl | exact .inr (by simp)) (by simp) ?_
    simp (maxSteps := 1000000) (disch := first | (exact DrawOk.mk (by decide +kernel)) | omega | simp) [wrap_i64, le_most, lt_omega, le_omega, ne_omega, allLen, hlt, he]
    (first | refine Gd.dec (fun h4 => ?_) (fun h4 => ?_) | refine Gd.intro (fun h4 => ?_) (fun h4 => ?_)) <;> simp (maxSteps := 1000000) (disch := first | (exact DrawOk.mk (by decide +kernel)) | omega | simp) [wrap_i64, le_most, lt_omega, le_omega, ne_omega, allLen, h4]
    · have : solves ls vs = false := by
        rw [solves, any_true_of (p := fun r => decide (ihol r.kind (terms r vs) < 0)) hlt (by simp [h4])]; rfl
      simp [solB, this]
    · (refine ⟨⟨k + 1, by omega, step_no (p := fun r => decide (ihol r.kind (terms r vs) < 0)) hno hlt (by simp [h4])⟩, by (simp; try omega), ?_⟩; constructor <;> (simp (maxSteps := 1000000) (disch := first | (exact DrawOk.mk (by decide +kernel)) | omega | simp) [wrap_i64, le_most, lt_omega, le_omega, ne_omega, allLen]) <;> (try omega))
  · have : solves ls vs = true := by
      rw [solves, any_false_of (p := fun r => decide (ihol r.kind (terms r vs) < 0)) (l := ls) fun j hj => hno j hj (by omega)]; rfl
    simp (maxSteps := 1000000) (disch := first | (exact DrawOk.mk (by decide +kernel)) | omega | simp) [wrap_i64, le_most, lt_omega, le_omega, ne_omega, allLen, hlt]
    simp [solB, this, h1, h2, hu']
end Go.Vai
/- Refutations: what both programs reckon. -/
set_option linter.unusedVariables false
set_option linter.unusedSimpArgs false
set_option maxHeartbeats 4000000
namespace Go.Vai
def hol (r : Ru) (vs : List Int) : Int := ihol r.kind (terms r vs)
def ruAt (rs : List Ru) (k : Int) : Ru := rs.getD k.toNat ⟨0, [], []⟩
def isRul (rs : List Ru) (n : Nd) : Bool := inB n.rule 0 ((rs.length : Int) - 1)
def isFre (vs : List Int) (n : Nd) : Bool := inB n.var 0 ((vs.length : Int) - 1) && decide (vs.getD n.var.toNat 0 = 0)
def setV (vs : List Int) (n : Nd) (x : Int) : List Int := vs.set n.var.toNat x
/-- What is left behind a refutation; none if there is none. -/
def PF (rs : List Ru) : Nat → List Int → List Nd → Option (List Nd)
  | 0, _, _ => none
  | _ + 1, _, [] => none
  | m + 1, vs, n :: rest =>
    if n.kind = 3 then (if n.var = 0 ∧ n.value = 0 ∧ isRul rs n = true ∧ hol (ruAt rs n.rule) vs < 0 then some rest else none)
    else if isFre vs n = false then none
    else if n.kind = 2 then (if isRul rs n = true ∧ unitB n.value = true ∧ hol (ruAt rs n.rule) (setV vs n (-n.value)) < 0 then PF rs m (setV vs n n.value) rest else none)
    else if n.kind = 1 ∧ n.value = 0 ∧ n.rule = 0 then
      match PF rs m (setV vs n 1) rest with
      | none => none
      | some r1 => PF rs m (setV vs n (-1)) r1
    else none
theorem PF_len (rs : List Ru) : ∀ (m : Nat) (vs : List Int) (ns r : List Nd), PF rs m vs ns = some r → r.length < ns.length
  | 0, vs, ns, r, h => by simp [PF] at h
  | m + 1, vs, [], r, h => by simp [PF] at h
  | m + 1, vs, n :: rest, r, h => by
    simp only [PF] at h
    split at h
    · split at h
      · obtain rfl := Option.some.inj h; simp
      · simp at h
    · split at h
      · simp at h
      · split at h
        · split at h
          · have := PF_len rs m _ _ _ h
            simp; omega
          · simp at h
        · split at h
          · split at h
            · simp at h
            · rename_i r1 h1
              have a := PF_len rs m _ _ _ h1
              have b := PF_len rs m _ _ _ h
              simp; omega
          · simp at h
/-- More steps change nothing. -/
theorem PF_mono (rs : List Ru) : ∀ (m : Nat) (vs : List Int) (ns : List Nd) (m' : Nat), ns.length ≤ m → ns.length ≤ m' → PF rs m vs ns = PF rs m' vs ns
  | 0, vs, ns, m', h, h' => by
    obtain rfl : ns = [] := List.length_eq_zero_iff.1 (by omega)
    cases m' <;> rfl
  | m + 1, vs, ns, 0, h, h' => by
    obtain rfl : ns = [] := List.length_eq_zero_iff.1 (by omega)
    rfl
  | m + 1, vs, [], m' + 1, h, h' => rfl
  | m + 1, vs, n :: rest, m' + 1, h, h' => by
    simp only [List.length_cons] at h h'
    simp only [PF]
    rw [PF_mono rs m (setV vs n n.value) rest m' (by omega) (by omega), PF_mono rs m (setV vs n 1) rest m' (by omega) (by omega)]
    cases hq : PF rs m' (setV vs n 1) rest with
    | none => rfl
    | some r1 =>
      have := PF_len rs m' _ _ _ hq
      simp only
      rw [PF_mono rs m (setV vs n (-1)) r1 m' (by omega) (by omega)]
/-- Values of variables. -/
structure Vf (rs : List Ru) (vs : List Int) : Prop where
  rules : ∀ r ∈ rs, rv r vs.length = true
  vals : valsB vs = true
theorem valsB_set {vs : List Int} (h : valsB vs = true) (k : Nat) {x : Int} (hx : -1 ≤ x ∧ x ≤ 1) : valsB (vs.set k x) = true := by
  rw [valsB, List.all_eq_true] at h ⊢
  intro y hy
  rcases List.mem_or_eq_of_mem_set hy with h1 | rfl
  · exact h y h1
  · simp [inB]; omega
theorem Vf.set {rs : List Ru} {vs : List Int} (h : Vf rs vs) (n : Nd) {x : Int} (hx : -1 ≤ x ∧ x ≤ 1) : Vf rs (setV vs n x) :=
  ⟨fun r hr => by unfold setV; rw [List.length_set]; exact h.rules r hr, valsB_set h.vals _ hx⟩
theorem Vf.fit {rs : List Ru} {vs : List Int} (h : Vf rs vs) {r : Ru} (hr : r ∈ rs) : RFit r vs := rfit_of (h.rules r hr) h.vals
theorem ruAt_mem {rs : List Ru} {n : Nd} (h : isRul rs n = true) : ruAt rs n.rule ∈ rs ∧ 0 ≤ n.rule ∧ n.rule.toNat < rs.length := by
  have := (inB_iff ..).1 h
  have hl : n.rule.toNat < rs.length := by omega
  refine ⟨?_, by omega, hl⟩
  unfold ruAt
  rw [List.getD_eq_getElem?_getD, List.getElem?_eq_getElem hl]
  exact List.getElem_mem _
end Go.Vai
