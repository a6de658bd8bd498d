/- Merged texts of this claim: Zt34, Zt35, Zt36. -/
import Derived.Test.YtkljeldcjnpinaaYb29
/- Rules: what is left of a list when some elements are struck (slices.DeleteFunc). -/
set_option linter.unusedVariables false
set_option linter.unusedSimpArgs false
set_option maxHeartbeats 4000000
namespace Go.Vai
def keepI (p : Int → Bool) (vs : List Int) : List Int := vs.filter fun x => !p x
def delI (p : Int → Bool) (vs : List Int) : List Int := keepI p vs ++ List.replicate (vs.length - (keepI p vs).length) 0
theorem keepI_le (p : Int → Bool) (vs : List Int) : (keepI p vs).length ≤ vs.length := List.length_filter_le _ _
@[simp] theorem delI_len (p : Int → Bool) (vs : List Int) : (delI p vs).length = vs.length := by have := keepI_le p vs; simp [delI]; omega
theorem keepI_step {p : Int → Bool} {vs : List Int} {j : Nat} (hj : j < vs.length) : keepI p (vs.take (j + 1)) = keepI p (vs.take j) ++ if p vs[j] = true then [] else [vs[j]] := by
  rw [List.take_succ_eq_append_getElem hj]
  simp only [keepI, List.filter_append]
  cases h : p vs[j] <;> simp [h]
theorem keepI_take_le (p : Int → Bool) (vs : List Int) (j : Nat) : (keepI p (vs.take j)).length ≤ j := by
  have := keepI_le p (vs.take j); simp at this; omega
theorem clr_all {l kept : List Int} {i n : Nat} (hl : l.length = n) (hk : l.take i = kept) (hi : i ≤ n) : clr (l.map encI) i (n - i) [.int .i64 0] = (kept ++ List.replicate (n - i) 0).map encI := by
  subst hk
  simp only [clr, ← List.map_take, List.map_append, List.map_replicate, encI]
  rw [List.drop_of_length_le (by simp; omega)]; simp [encI]
theorem c100 (vs : List Int) (g : FuncId) (caps : List IV) (p : Int → Bool) (hp : ∀ x ∈ vs, PC E g (.i (.int .i64 x) :: caps.map .i) [.i (.bool (p x))]) (h : (vs.length : Int) ≤ 1048576) :
    PM E 100 [.sl ⟨1, vs.map encI⟩, .i (.i (.fn g caps))] [⟨1, (delI p vs).map encI⟩] [] (some (0, 0, (keepI p vs).length)) := by
  refine PP_start hE Proofs.Try.func100 rfl rfl Proofs.Try.ntmps100 (by kernel_rfl) (by kernel_rfl) (by simp) (by simp [delI_len]) ?_
  simp (maxSteps := 1000000) (disch := first | (exact DrawOk.mk (by decide +kernel)) | omega | simp) [wrap_i64, le_most, lt_omega, le_omega, ne_omega, allLen]
  refine CallK.of (c116 vs g caps p hp h) (by first | exact .inl rfl | exact .inr (by simp)) (by simp) ?_
  cases hf : vs.findIdx? p with
  | none =>
    have e : fidx p vs = -1 := by simp [fidx, hf]
    rw [List.findIdx?_eq_none_iff] at hf
    have e2 : keepI p vs = vs := by
      rw [keepI, List.filter_eq_self]
      intro x hx; simp [hf x hx]
    have e3 : delI p vs = vs := by simp [delI, e2]
    simp (maxSteps := 1000000) (disch := first | (exact DrawOk.mk (by decide +kernel)) | omega | simp) [wrap_i64, le_most, lt_omega, le_omega, ne_omega, allLen, e, e2, e3]
  | some i =>
    have e : fidx p vs = i := by simp [fidx, hf]
    rw [List.findIdx?_eq_some_iff_getElem] at hf
    obtain ⟨hi, hpi, hbe⟩ := hf
    have e0 : keepI p (vs.take i) = vs.take i := by
      rw [keepI, List.filter_eq_self]
      intro x hx
      obtain ⟨j, hj, rfl⟩ := List.getElem_of_mem hx
      simp at hj
      have := hbe j (by omega)
      simpa using this
    have e1 : keepI p (vs.take (i + 1)) = vs.take i := by rw [keepI_step hi, e0]; simp [hpi]
    have hne : ¬ ((i : Int) = -1) := by omega
    simp (maxSteps := 1000000) (disch := first | (exact DrawOk.mk (by decide +kernel)) | omega | simp) [wrap_i64, le_most, lt_omega, le_omega, ne_omega, allLen, e, hne]
    refine XL.by hE (ι := { q : Nat × List Int // q.1 ≤ vs.length ∧ q.2.length = vs.length ∧ (keepI p (vs.take q.1)).length < q.1 ∧ q.2.take (keepI p (vs.take q.1)).length = keepI p (vs.take q.1) ∧ q.2.drop q.1 = vs.drop q.1 })
      (fun q => ⟨[(0, .own 700000 0 vs.length), (1, .i (.fn g caps)), (5, .i (.int .i64 (keepI p (vs.take q.1.1)).length)), (6, .i (.int .i64 q.1.1))], [(700000, ⟨1, q.1.2.map encI⟩)]⟩)
      (fun q => vs.length - q.1.1) ⟨(i + 1, vs), by omega, rfl, by rw [e1]; simp; omega, by rw [e1]; simp [Nat.min_eq_left (Nat.le_of_lt hi)], rfl⟩ ⟨by simp [e1, Nat.min_eq_left (Nat.le_of_lt hi)], by simp, by simp⟩ (by kernel_rfl) ?_
    rintro ⟨⟨j, A⟩, hj, hA, hk, ht, hd⟩
    simp only at hj hA hk ht hd
    by_cases hlt : j < vs.length
    · have hAj : j < A.length := by omega
      have hget : A[j] = vs[j] := by
        have := congrArg (fun l => l[0]?) hd
        simp [hlt, hAj] at this
        exact this
      have hstep := keepI_step (p := p) hlt
      simp (maxSteps := 1000000) (disch := first | (exact DrawOk.mk (by decide +kernel)) | omega | simp) [wrap_i64, le_most, lt_omega, le_omega, ne_omega, allLen, hlt, hAj, encI, hget]
      refine CallK.of (hp vs[j] (List.getElem_mem _)) (by first | exact .inl rfl | exact .inr (by simp)) (by simp) ?_
      have hkA : (keepI p (vs.take j)).length < A.length := by omega
      cases hpj : p vs[j]
      · rw [hpj] at hstep
        simp at hstep
        have hset : (A.map encI).set (keepI p (vs.take j)).length [.int .i64 vs[j]] = (A.set (keepI p (vs.take j)).length vs[j]).map encI := by rw [List.map_set]; rfl
        simp (maxSteps := 1000000) (disch := first | (exact DrawOk.mk (by decide +kernel)) | omega | simp) [wrap_i64, le_most, lt_omega, le_omega, ne_omega, allLen, hlt, hkA, encI, hset, -List.map_set]
        (refine ⟨⟨(j + 1, A.set (keepI p (vs.take j)).length vs[j]), by omega, by simpa using hA, by rw [hstep]; simp; omega, by
          rw [hstep]
          have h3 : (keepI p (vs.take j)).length + 1 ≤ A.length := by omega
          rw [List.length_append, List.length_singleton, List.take_succ_eq_append_getElem (by simpa using hkA)]
          have h4 : (A.set (keepI p (vs.take j)).length vs[j]).take (keepI p (vs.take j)).length = keepI p (vs.take j) := by rw [List.take_set, List.set_eq_of_length_le (by simp; omega), ht]
          simp [h4], by
          rw [List.drop_set_of_lt (by omega)]
          have := congrArg (List.drop 1) hd
          simpa using this⟩, by (simp; try omega), ?_⟩; constructor <;> (simp (maxSteps := 1000000) (disch := first | (exact DrawOk.mk (by decide +kernel)) | omega | simp) [wrap_i64, le_most, lt_omega, le_omega, ne_omega, allLen, hstep]) <;> (try omega))
      · rw [hpj] at hstep
        simp at hstep
        simp (maxSteps := 1000000) (disch := first | (exact DrawOk.mk (by decide +kernel)) | omega | simp) [wrap_i64, le_most, lt_omega, le_omega, ne_omega, allLen, hlt]
        (refine ⟨⟨(j + 1, A), by omega, hA, by rw [hstep]; omega, by rw [hstep]; exact ht, by
          have := congrArg (List.drop 1) hd
          simpa using this⟩, by (simp; try omega), ?_⟩; constructor <;> (simp (maxSteps := 1000000) (disch := first | (exact DrawOk.mk (by decide +kernel)) | omega | simp) [wrap_i64, le_most, lt_omega, le_omega, ne_omega, allLen, hstep]) <;> (try omega))
    · obtain rfl : j = vs.length := by omega
      rw [List.take_length] at ht hk
      have hc := clr_all hA ht (by omega)
      have hle := keepI_le p vs
      simp (maxSteps := 1000000) (disch := first | (exact DrawOk.mk (by decide +kernel)) | omega | simp) [wrap_i64, le_most, lt_omega, le_omega, ne_omega, allLen, hlt, hA, hle]
      have e5 : ((vs.length : Int) - (keepI p vs).length).toNat = vs.length - (keepI p vs).length := by omega
      simp [hc, delI]
end Go.Vai
/- Rules: what a rule forces, as the program finds it. -/
set_option linter.unusedVariables false
set_option linter.unusedSimpArgs false
set_option maxHeartbeats 4000000
namespace Go.Vai
theorem c101 (vs : List Int) (v : Int) (h0 : 0 ≤ v) (h1 : v < vs.length) : PC E 101 [.i (.int .i64 v), .i (.ptr [.sl (vs.map encI)])] [.i (.bool (decide (vs.getD v.toNat 0 ≠ 0)))] := by
  obtain ⟨k, rfl⟩ : ∃ k : Nat, v = k := ⟨v.toNat, by omega⟩
  have hk : k < vs.length := by omega
  have e : vs.getD k 0 = vs[k] := by simp [hk]
  refine PC_start hE Proofs.Try.func101 rfl rfl Proofs.Try.ntmps101 (by kernel_rfl) (by kernel_rfl) (by simp) ?_
  simp (maxSteps := 1000000) (disch := first | (exact DrawOk.mk (by decide +kernel)) | omega | simp) [wrap_i64, le_most, lt_omega, le_omega, ne_omega, allLen, hk, encI]
/-- The variables of a rule that are open. -/
def frees (r : Ru) (vs : List Int) : List Int := keepI (fun v => decide (vs.getD v.toNat 0 ≠ 0)) r.vars
/-- What is forced: variable, value, whether anything. -/
def forcedV (r : Ru) (vs : List Int) : Int × Int × Bool :=
  if hol r vs = 0 then match frees r vs with
    | [v] => if hol r (vs.set v.toNat (-1)) < 0 then (v, 1, true) else if hol r (vs.set v.toNat 1) < 0 then (v, -1, true) else (0, 0, false)
    | _ => (0, 0, false)
  else (0, 0, false)
theorem RFit.set {r : Ru} {vs : List Int} (h : RFit r vs) (k : Nat) {x : Int} (hx : tri x) : RFit r (vs.set k x) := by
  refine ⟨h.len, fun j hj => by simpa using h.at_ j hj, h.unit, fun j hj => ?_⟩
  rw [List.getElem_set]
  split
  · exact hx
  · exact h.val j (by simpa using hj)
theorem frees_mem {r : Ru} {vs : List Int} {v : Int} (h : v ∈ frees r vs) : v ∈ r.vars ∧ vs.getD v.toNat 0 = 0 := by
  simp only [frees, keepI, List.mem_filter] at h
  exact ⟨h.1, by simpa using h.2⟩
theorem RFit.mem {r : Ru} {vs : List Int} (h : RFit r vs) {v : Int} (hv : v ∈ r.vars) : 0 ≤ v ∧ v < vs.length := by
  obtain ⟨j, hj, rfl⟩ := List.getElem_of_mem hv
  exact h.at_ j hj
theorem c70 (r : Ru) (vs : List Int) (hf : RFit r vs) (h0 : 0 < r.vars.length) (hs : (r.vars.length : Int) ≤ 1048576) :
    PM E 70 [.i (.agg (encR r)), .sl ⟨1, vs.map encI⟩] [⟨1, vs.map encI⟩] [.i (.int .i64 (forcedV r vs).1), .i (.int .i64 (forcedV r vs).2.1), .i (.bool (forcedV r vs).2.2)] := by
  have ht : (vs.map encI).take vs.length = vs.map encI := by rw [List.take_of_length_le (by simp)]
  refine PM_start hE Proofs.Try.func70 rfl rfl Proofs.Try.ntmps70 (by kernel_rfl) (by kernel_rfl) (by simp) (by simp) ?_
  simp (maxSteps := 1000000) (disch := first | (exact DrawOk.mk (by decide +kernel)) | omega | simp) [wrap_i64, le_most, lt_omega, le_omega, ne_omega, allLen, ht]
  refine CallK.of (c75 r vs hf hs) (by first | exact .inl rfl | exact .inr (by simp)) (by simp) ?_
  have hh : ihol r.kind (terms r vs) = hol r vs := rfl
  rw [hh]
  simp (maxSteps := 1000000) (disch := first | (exact DrawOk.mk (by decide +kernel)) | omega | simp) [wrap_i64, le_most, lt_omega, le_omega, ne_omega, allLen, encR]
  (first | refine Gd.dec (fun h1 => ?_) (fun h1 => ?_) | refine Gd.intro (fun h1 => ?_) (fun h1 => ?_)) <;> simp (maxSteps := 1000000) (disch := first | (exact DrawOk.mk (by decide +kernel)) | omega | simp) [wrap_i64, le_most, lt_omega, le_omega, ne_omega, allLen, h1]
  rotate_left
  · simp [forcedV, h1]
  have e1 : forcedV r vs = match frees r vs with
    | [v] => if hol r (vs.set v.toNat (-1)) < 0 then (v, 1, true) else if hol r (vs.set v.toNat 1) < 0 then (v, -1, true) else (0, 0, false)
    | _ => (0, 0, false) := by simp [forcedV, h1]
  refine CallK.of (c71 r.vars h0 hs) (by first | exact .inl rfl | exact .inr (by simp)) (by simp) ?_
  simp (maxSteps := 1000000) (disch := first | (exact DrawOk.mk (by decide +kernel)) | omega | simp) [wrap_i64, le_most, lt_omega, le_omega, ne_omega, allLen, ht]
  have hp : ∀ x ∈ r.vars, PC E 101 (.i (.int .i64 x) :: [IV.ptr [.sl (vs.map encI)]].map .i) [.i (.bool (decide (vs.getD x.toNat 0 ≠ 0)))] := fun x hx =>
    c101 vs x (hf.mem hx).1 (hf.mem hx).2
  have cd := c100 r.vars 101 [.ptr [.sl (vs.map encI)]] (fun v => decide (vs.getD v.toNat 0 ≠ 0)) hp hs
  have hk : keepI (fun v => decide (vs.getD v.toNat 0 ≠ 0)) r.vars = frees r vs := rfl
  have hd : ∃ z, delI (fun v => decide (vs.getD v.toNat 0 ≠ 0)) r.vars = frees r vs ++ z := ⟨_, rfl⟩
  obtain ⟨z, hd⟩ := hd
  rw [hk, hd] at cd
  have hfl : ∀ l : List Int, ∀ el ∈ l.map encI, flatC el := fun l el hel => by
    obtain ⟨a, -, rfl⟩ := List.mem_map.1 hel
    exact flat_encI a
  refine PartK.of cd (by simp [ht]) (by simp) (by simp) (.inr fun ob hob => by obtain rfl := List.mem_singleton.1 hob; exact hfl _) ?_
  rcases hfr : frees r vs with _ | ⟨v, _ | ⟨u, l⟩⟩
  · rw [hfr] at e1
    simp (maxSteps := 1000000) (disch := first | (exact DrawOk.mk (by decide +kernel)) | omega | simp) [wrap_i64, le_most, lt_omega, le_omega, ne_omega, allLen, e1]
  · rw [hfr] at e1
    have hm := hf.mem (frees_mem (show v ∈ frees r vs by rw [hfr]; simp)).1
    obtain ⟨k, rfl⟩ : ∃ k : Nat, v = k := ⟨v.toNat, by omega⟩
    have hk2 : k < vs.length := by omega
    simp only [Int.toNat_natCast] at e1
    simp (maxSteps := 1000000) (disch := first | (exact DrawOk.mk (by decide +kernel)) | omega | simp) [wrap_i64, le_most, lt_omega, le_omega, ne_omega, allLen, hfr]
    refine XL.by hE (ι := { q : Nat // q ≤ 2 ∧ (0 < q → ¬ hol r (vs.set k (-1)) < 0) ∧ (1 < q → ¬ hol r (vs.set k 1) < 0) })
      (fun q => ⟨[(2, .ptr 2 0 0), (3, .cell 700001 0 vs.length), (7, .own 16 0 1), (22, .own 22 0 2), (23, .i (.int .i64 2)), (24, .i (.int .i64 q.1)), (1, .own 700001 0 vs.length)],
        [(22, ⟨1, [[.int .i64 1], [.int .i64 (-1)]]⟩), (16, ⟨1, encI k :: z.map encI⟩), (2, ⟨3, [encR r]⟩), (700001, ⟨1, vs.map encI⟩)]⟩)
      (fun q => 2 - q.1) ⟨0, by omega, by omega, by omega⟩ ⟨by simp, by simp [encR], by simp⟩ (by kernel_rfl) ?_
    rintro ⟨q, hq, q1, q2⟩
    have hq3 : q = 0 ∨ q = 1 ∨ q = 2 := by omega
    rcases hq3 with rfl | rfl | rfl
    · simp (maxSteps := 1000000) (disch := first | (exact DrawOk.mk (by decide +kernel)) | omega | simp) [wrap_i64, le_most, lt_omega, le_omega, ne_omega, allLen, encI, ht]
      refine MutK.of (c102 r vs k (-1) hk2 (hf.set k (by simp [tri])) hs) (by simp) (by simp) (by simp) (by simp) (by simp) ?_
      simp (maxSteps := 1000000) (disch := first | (exact DrawOk.mk (by decide +kernel)) | omega | simp) [wrap_i64, le_most, lt_omega, le_omega, ne_omega, allLen, encI]
      (first | refine Gd.dec (fun h5 => ?_) (fun h5 => ?_) | refine Gd.intro (fun h5 => ?_) (fun h5 => ?_)) <;> simp (maxSteps := 1000000) (disch := first | (exact DrawOk.mk (by decide +kernel)) | omega | simp) [wrap_i64, le_most, lt_omega, le_omega, ne_omega, allLen, h5]
      · rw [if_pos h5] at e1
        simp (maxSteps := 1000000) (disch := first | (exact DrawOk.mk (by decide +kernel)) | omega | simp) [wrap_i64, le_most, lt_omega, le_omega, ne_omega, allLen, e1, encI]
      · (refine ⟨⟨1, by omega, fun _ => h5, by omega⟩, by (simp; try omega), ?_⟩; constructor <;> (simp (maxSteps := 1000000) (disch := first | (exact DrawOk.mk (by decide +kernel)) | omega | simp) [wrap_i64, le_most, lt_omega, le_omega, ne_omega, allLen, encI]) <;> (try omega))
    · have n1 := q1 (by omega)
      simp (maxSteps := 1000000) (disch := first | (exact DrawOk.mk (by decide +kernel)) | omega | simp) [wrap_i64, le_most, lt_omega, le_omega, ne_omega, allLen, encI, ht]
      refine MutK.of (c102 r vs k 1 hk2 (hf.set k (by simp [tri])) hs) (by simp) (by simp) (by simp) (by simp) (by simp) ?_
      simp (maxSteps := 1000000) (disch := first | (exact DrawOk.mk (by decide +kernel)) | omega | simp) [wrap_i64, le_most, lt_omega, le_omega, ne_omega, allLen, encI]
      (first | refine Gd.dec (fun h5 => ?_) (fun h5 => ?_) | refine Gd.intro (fun h5 => ?_) (fun h5 => ?_)) <;> simp (maxSteps := 1000000) (disch := first | (exact DrawOk.mk (by decide +kernel)) | omega | simp) [wrap_i64, le_most, lt_omega, le_omega, ne_omega, allLen, h5]
      · rw [if_neg n1, if_pos h5] at e1
        simp (maxSteps := 1000000) (disch := first | (exact DrawOk.mk (by decide +kernel)) | omega | simp) [wrap_i64, le_most, lt_omega, le_omega, ne_omega, allLen, e1, encI]
      · (refine ⟨⟨2, by omega, fun _ => n1, fun _ => h5⟩, by (simp; try omega), ?_⟩; constructor <;> (simp (maxSteps := 1000000) (disch := first | (exact DrawOk.mk (by decide +kernel)) | omega | simp) [wrap_i64, le_most, lt_omega, le_omega, ne_omega, allLen, encI]) <;> (try omega))
    · rw [if_neg (q1 (by omega)), if_neg (q2 (by omega))] at e1
      simp (maxSteps := 1000000) (disch := first | (exact DrawOk.mk (by decide +kernel)) | omega | simp) [wrap_i64, le_most, lt_omega, le_omega, ne_omega, allLen, e1]
  · rw [hfr] at e1
    simp (maxSteps := 1000000) (disch := first | (exact DrawOk.mk (by decide +kernel)) | omega | simp) [wrap_i64, le_most, lt_omega, le_omega, ne_omega, allLen, e1]
end Go.Vai
/- Rules: what a rule forces, as the reference finds it; the law of ForcedBy. -/
set_option linter.unusedVariables false
set_option linter.unusedSimpArgs false
set_option maxHeartbeats 4000000
namespace Go.Vai
theorem shol_hol {r : Ru} {vs : List Int} {n : Int} (hv : rv r n = true) (hf : RFit r vs) : shol r.kind (terms r vs) = hol r vs := by
  simp only [rv, Bool.and_eq_true, decide_eq_true_eq] at hv
  exact hol_eq hv.1 (by rw [hf.terms_len]; exact hv.2.1) fun k hk => by
    obtain ⟨n, h1, h2, h3, -, -, ht⟩ := hf.round (k := k) (by rw [← hf.terms_len]; exact hk)
    exact ht
theorem prodI_ne {l : List Int} (h : ∀ (k : Nat) (hk : k < l.length), l[k] = 1 ∨ l[k] = -1) : ∀ k, k ≤ l.length → prodI (l.take k) = 1 ∨ prodI (l.take k) = -1
  | 0, _ => by simp [prodI]
  | k + 1, hk => by
    have h1 := prodI_ne h k (by omega)
    have h2 := h k (by omega)
    rw [prodI_step (by omega)]
    rcases h1 with e | e <;> rw [e] <;> rcases h2 with e | e <;> rw [e] <;> simp
/-- An open rule has an open variable. -/
theorem hol_zero {r : Ru} {vs : List Int} {n : Int} (hv : rv r n = true) (hf : RFit r vs) (h : hol r vs = 0) : frees r vs ≠ [] := by
  intro hfr
  have hno : ∀ (k : Nat) (hk : k < (terms r vs).length), (terms r vs)[k] = 1 ∨ (terms r vs)[k] = -1 := fun k hk => by
    have hk' : k < r.vars.length := by rw [← hf.terms_len]; exact hk
    obtain ⟨m, h1, h2, h3, hvm, ht, htri⟩ := hf.round hk'
    have hne : vs.getD (r.vars[k]).toNat 0 ≠ 0 := by
      intro e
      have : r.vars[k] ∈ frees r vs := by
        simp only [frees, keepI, List.mem_filter]
        exact ⟨List.getElem_mem _, by simp only [e]; rfl⟩
      rw [hfr] at this; simp at this
    rw [hvm] at hne
    simp [h1] at hne
    rw [ht]
    rcases hf.val m h1 with e | e | e
    · rw [e]; rcases hf.unit k h2 with u | u <;> rw [u] <;> simp
    · exact absurd e hne
    · rw [e]; rcases hf.unit k h2 with u | u <;> rw [u] <;> simp
  have hlen := hf.terms_len
  simp only [rv, Bool.and_eq_true, decide_eq_true_eq] at hv
  obtain ⟨hk, hl, -⟩ := hv
  have hp := prodI_ne hno _ (Nat.le_refl _)
  rw [List.take_length] at hp
  have hkk : r.kind = 1 ∨ r.kind = 2 ∨ r.kind = 3 ∨ r.kind = 4 := by simp [inB] at hk; omega
  unfold hol ihol at h
  rcases hkk with e | e | e | e
  · rw [if_pos (by omega)] at h; omega
  · rw [if_pos (by omega)] at h; omega
  · rw [if_neg (by omega)] at h
    have h3 : (terms r vs).length = 3 := by omega
    match hT : terms r vs, h3 with
    | [a, b, c], _ =>
      rw [hT] at h hno
      have ha := hno 0 (by simp); have hb := hno 1 (by simp); have hc := hno 2 (by simp)
      simp at ha hb hc
      rcases ha with rfl | rfl <;> rcases hb with rfl | rfl <;> rcases hc with rfl | rfl <;> simp at h
  · rw [if_pos (by omega)] at h; omega
theorem le_one {l : List Int} (h : l.length ≤ 1) : l = [] ∨ ∃ u, l = [u] := by
  match l, h with
  | [], _ => exact .inl rfl
  | [u], _ => exact .inr ⟨u, rfl⟩
/-- What is forced, as the reference says it. -/
def sfo (r : Ru) (vs : List Int) : Int × Int := if (forcedV r vs).2.2 = true then ((forcedV r vs).1, (forcedV r vs).2.1) else (-1, 0)
theorem c65 (r : Ru) (vs : List Int) (hv : rv r vs.length = true) (hf : RFit r vs) (hs : (r.vars.length : Int) ≤ 1048576) (hl : (vs.length : Int) ≤ 1048576) :
    PM E 65 [.i (.i (.ptr (encR r))), .sl ⟨1, vs.map encI⟩] [⟨1, vs.map encI⟩] [.i (.int .i64 (sfo r vs).1), .i (.int .i64 (sfo r vs).2)] := by
  have ht : (vs.map encI).take vs.length = vs.map encI := by rw [List.take_of_length_le (by simp)]
  refine PM_start hE Proofs.Try.func65 rfl rfl Proofs.Try.ntmps65 (by kernel_rfl) (by kernel_rfl) (by simp) (by simp) ?_
  simp (maxSteps := 1000000) (disch := first | (exact DrawOk.mk (by decide +kernel)) | omega | simp) [wrap_i64, le_most, lt_omega, le_omega, ne_omega, allLen, ht]
  refine CallK.of (c73 r vs hf hs) (by first | exact .inl rfl | exact .inr (by simp)) (by simp) ?_
  rw [shol_hol hv hf]
  simp (maxSteps := 1000000) (disch := first | (exact DrawOk.mk (by decide +kernel)) | omega | simp) [wrap_i64, le_most, lt_omega, le_omega, ne_omega, allLen]
  (first | refine Gd.dec (fun h1 => ?_) (fun h1 => ?_) | refine Gd.intro (fun h1 => ?_) (fun h1 => ?_)) <;> simp (maxSteps := 1000000) (disch := first | (exact DrawOk.mk (by decide +kernel)) | omega | simp) [wrap_i64, le_most, lt_omega, le_omega, ne_omega, allLen, h1]
  rotate_left
  · simp [sfo, forcedV, h1]
  have hfr := hol_zero hv hf h1
  have fr : frees r vs = keepI (fun v => decide (vs.getD v.toNat 0 ≠ 0)) r.vars := rfl
  generalize hp : (fun v => decide (vs.getD v.toNat 0 ≠ 0) : Int → Bool) = p at fr
  refine XL.by hE (ι := { k : Nat // k ≤ r.vars.length ∧ (keepI p (r.vars.take k)).length ≤ 1 }) (fun k => ⟨[(0, .i (.ptr (encR r))), (1, .own 700001 0 vs.length), (6, .i (.int .i64 ((keepI p (r.vars.take k.1)).headD (-1)))), (7, .i (.int .i64 k.1))], [(700001, ⟨1, vs.map encI⟩)]⟩)
    (fun k => r.vars.length - k.1) ⟨0, by simp [keepI]⟩ ⟨by simp [keepI], by simp, by simp⟩ (by kernel_rfl) ?_
  rintro ⟨k, hk, hle⟩
  by_cases hlt : k < r.vars.length
  · obtain ⟨n, n1, n2, n3, hvn, -, -⟩ := hf.round hlt
    have hnn : ¬ ((n : Int) < 0) := by omega
    have hst := keepI_step (p := p) hlt
    have hpk : p r.vars[k] = decide (vs[n] ≠ 0) := by rw [← hp]; simp only [hvn, Int.toNat_natCast]; rw [List.getD_eq_getElem?_getD, List.getElem?_eq_getElem n1]; rfl
    rw [hpk] at hst
    simp (maxSteps := 1000000) (disch := first | (exact DrawOk.mk (by decide +kernel)) | omega | simp) [wrap_i64, le_most, lt_omega, le_omega, ne_omega, allLen, hlt, n1, hvn, hnn, encR, encI]
    (first | refine Gd.dec (fun h3 => ?_) (fun h3 => ?_) | refine Gd.intro (fun h3 => ?_) (fun h3 => ?_)) <;> simp (maxSteps := 1000000) (disch := first | (exact DrawOk.mk (by decide +kernel)) | omega | simp) [wrap_i64, le_most, lt_omega, le_omega, ne_omega, allLen, h3]
    · rw [if_neg (by simp [h3])] at hst
      obtain hkeep | ⟨u, hkeep⟩ := le_one hle
      · rw [hkeep] at hst
        simp (maxSteps := 1000000) (disch := first | (exact DrawOk.mk (by decide +kernel)) | omega | simp) [wrap_i64, le_most, lt_omega, le_omega, ne_omega, allLen, hkeep, hlt, encR, encI]
        (refine ⟨⟨k + 1, by omega, by rw [hst]; simp⟩, by (simp; try omega), ?_⟩; constructor <;> (simp (maxSteps := 1000000) (disch := first | (exact DrawOk.mk (by decide +kernel)) | omega | simp) [wrap_i64, le_most, lt_omega, le_omega, ne_omega, allLen, hst, hvn, encR]) <;> (try omega))
      · have hu : u ∈ frees r vs := by
          have : u ∈ keepI p (r.vars.take k) := by rw [hkeep]; simp
          rw [fr]; simp only [keepI, List.mem_filter] at this ⊢
          exact ⟨List.mem_of_mem_take this.1, this.2⟩
        have hu0 := hf.mem (frees_mem hu).1
        have hu1 : ¬ (u < 0) := by omega
        simp (maxSteps := 1000000) (disch := first | (exact DrawOk.mk (by decide +kernel)) | omega | simp) [wrap_i64, le_most, lt_omega, le_omega, ne_omega, allLen, hkeep]
        -- a second one
        have h2 : 2 ≤ (frees r vs).length := by
          have h5 : (keepI p (r.vars.take (k + 1))).length ≤ (keepI p r.vars).length := ((List.take_sublist (k + 1) r.vars).filter (fun x => !p x)).length_le
          rw [hst, hkeep] at h5
          rw [fr]; simpa using h5
        have : (forcedV r vs).2.2 = false := by
          match hq : frees r vs, h2 with
          | a :: b :: l, _ => simp [forcedV, h1, hq]
        simp [sfo, this]
    · rw [if_pos (by simp [h3]), List.append_nil] at hst
      (refine ⟨⟨k + 1, by omega, by rw [hst]; exact hle⟩, by (simp; try omega), ?_⟩; constructor <;> (simp (maxSteps := 1000000) (disch := first | (exact DrawOk.mk (by decide +kernel)) | omega | simp) [wrap_i64, le_most, lt_omega, le_omega, ne_omega, allLen, hst, encR]) <;> (try omega))
  · obtain rfl : k = r.vars.length := by omega
    rw [List.take_length] at hle
    obtain ⟨v, hv1⟩ : ∃ v, frees r vs = [v] := by
      match hq : frees r vs, hfr with
      | [v], _ => exact ⟨v, rfl⟩
      | a :: b :: l, _ => rw [← fr, hq] at hle; simp at hle
    have hm := hf.mem (frees_mem (show v ∈ frees r vs by rw [hv1]; simp)).1
    obtain ⟨k, rfl⟩ : ∃ k : Nat, v = k := ⟨v.toNat, by omega⟩
    have hk2 : k < vs.length := by omega
    have e1 : forcedV r vs = if hol r (vs.set k (-1)) < 0 then ((k : Int), 1, true) else if hol r (vs.set k 1) < 0 then ((k : Int), -1, true) else (0, 0, false) := by simp [forcedV, h1, hv1]
    rw [hv1] at fr
    have hget := (frees_mem (show (k : Int) ∈ frees r vs by rw [hv1]; simp)).2
    simp [hk2] at hget
    have hta : keepI p (r.vars.take r.vars.length) = [(k : Int)] := by rw [List.take_length]; exact fr.symm
    simp (maxSteps := 1000000) (disch := first | (exact DrawOk.mk (by decide +kernel)) | omega | simp) [wrap_i64, le_most, lt_omega, le_omega, ne_omega, allLen, encR, hta]
    refine XL.by hE (ι := { q : Nat // q ≤ 2 ∧ (0 < q → ¬ hol r (vs.set k (-1)) < 0) ∧ (1 < q → ¬ hol r (vs.set k 1) < 0) })
      (fun q => ⟨[(0, .i (.ptr (encR r))), (1, .own 700001 0 vs.length), (6, .i (.int .i64 k)), (8, .i (.int .i64 (2 * (q.1 : Int) - 1)))], [(700001, ⟨1, vs.map encI⟩)]⟩)
      (fun q => 2 - q.1) ⟨0, by omega, by omega, by omega⟩ ⟨by simp [encR, ← fr], by simp, by simp⟩ (by kernel_rfl) ?_
    rintro ⟨q, hq, q1, q2⟩
    have h1 := fun x => set_enc vs k x
    have h2 : ∀ x : Int, ((vs.set k x).map encI).set k [.int .i64 0] = vs.map encI := fun x => by
      rw [set_enc, List.set_set, ← hget]; simp
    have h3 : ∀ x : Int, ((vs.set k x).map encI).take vs.length = (vs.set k x).map encI := fun x => by rw [List.take_of_length_le (by simp)]
    have hv2 : ∀ x : Int, rv r (vs.set k x).length = true := fun x => by rw [List.length_set]; exact hv
    have hq3 : q = 0 ∨ q = 1 ∨ q = 2 := by omega
    rcases hq3 with rfl | rfl | rfl
    · have hfs := hf.set k (show tri (-1) by simp [tri])
      simp (maxSteps := 1000000) (disch := first | (exact DrawOk.mk (by decide +kernel)) | omega | simp) [wrap_i64, le_most, lt_omega, le_omega, ne_omega, allLen, hk2, encI, h1, h3, -List.map_set]
      refine CallK.of (c73 r (vs.set k (-1)) hfs hs) (by first | exact .inl rfl | exact .inr (by simp)) (by simp) ?_
      rw [shol_hol hv hfs]
      simp (maxSteps := 1000000) (disch := first | (exact DrawOk.mk (by decide +kernel)) | omega | simp) [wrap_i64, le_most, lt_omega, le_omega, ne_omega, allLen, hk2, h2, encI, -List.map_set]
      (first | refine Gd.dec (fun h5 => ?_) (fun h5 => ?_) | refine Gd.intro (fun h5 => ?_) (fun h5 => ?_)) <;> simp (maxSteps := 1000000) (disch := first | (exact DrawOk.mk (by decide +kernel)) | omega | simp) [wrap_i64, le_most, lt_omega, le_omega, ne_omega, allLen, h5]
      · rw [if_pos h5] at e1
        simp [sfo, e1]
      · (refine ⟨⟨1, by omega, fun _ => h5, by omega⟩, by (simp; try omega), ?_⟩; constructor <;> (simp (maxSteps := 1000000) (disch := first | (exact DrawOk.mk (by decide +kernel)) | omega | simp) [wrap_i64, le_most, lt_omega, le_omega, ne_omega, allLen, encI, encR]) <;> (try omega))
    · have n1 := q1 (by omega)
      have hfs := hf.set k (show tri 1 by simp [tri])
      simp (maxSteps := 1000000) (disch := first | (exact DrawOk.mk (by decide +kernel)) | omega | simp) [wrap_i64, le_most, lt_omega, le_omega, ne_omega, allLen, hk2, encI, h1, h3, -List.map_set]
      refine CallK.of (c73 r (vs.set k 1) hfs hs) (by first | exact .inl rfl | exact .inr (by simp)) (by simp) ?_
      rw [shol_hol hv hfs]
      simp (maxSteps := 1000000) (disch := first | (exact DrawOk.mk (by decide +kernel)) | omega | simp) [wrap_i64, le_most, lt_omega, le_omega, ne_omega, allLen, hk2, h2, encI, -List.map_set]
      (first | refine Gd.dec (fun h5 => ?_) (fun h5 => ?_) | refine Gd.intro (fun h5 => ?_) (fun h5 => ?_)) <;> simp (maxSteps := 1000000) (disch := first | (exact DrawOk.mk (by decide +kernel)) | omega | simp) [wrap_i64, le_most, lt_omega, le_omega, ne_omega, allLen, h5]
      · rw [if_neg n1, if_pos h5] at e1
        simp [sfo, e1]
      · (refine ⟨⟨2, by omega, fun _ => n1, fun _ => h5⟩, by (simp; try omega), ?_⟩; constructor <;> (simp (maxSteps := 1000000) (disch := first | (exact DrawOk.mk (by decide +kernel)) | omega | simp) [wrap_i64, le_most, lt_omega, le_omega, ne_omega, allLen, encI, encR]) <;> (try omega))
    · rw [if_neg (q1 (by omega)), if_neg (q2 (by omega))] at e1
      simp (maxSteps := 1000000) (disch := first | (exact DrawOk.mk (by decide +kernel)) | omega | simp) [wrap_i64, le_most, lt_omega, le_omega, ne_omega, allLen]
      simp [sfo, e1]
theorem rv_pos {r : Ru} {n : Int} (h : rv r n = true) : 0 < r.vars.length := by
  simp only [rv, Bool.and_eq_true, decide_eq_true_eq] at h
  have := h.1; simp [inB] at this; omega
theorem forcedV_pos {r : Ru} {vs : List Int} (hf : RFit r vs) : (forcedV r vs).2.2 = true → ¬ (forcedV r vs).1 < 0 := by
  unfold forcedV
  by_cases h0 : hol r vs = 0
  · rw [if_pos h0]
    rcases hv : frees r vs with _ | ⟨v, _ | ⟨u, l⟩⟩
    · simp
    · have hm := (hf.mem (frees_mem (show v ∈ frees r vs by rw [hv]; simp)).1).1
      simp only
      split
      · simp; omega
      · split
        · simp; omega
        · simp
    · simp
  · rw [if_neg h0]; simp
theorem forcedV_none (r : Ru) (vs : List Int) : (forcedV r vs).2.2 = false → forcedV r vs = (0, 0, false) := by
  unfold forcedV
  by_cases h0 : hol r vs = 0
  · rw [if_pos h0]
    rcases hv : frees r vs with _ | ⟨v, _ | ⟨u, l⟩⟩
    · simp
    · simp only
      split
      · simp
      · split
        · simp
        · simp
    · simp
  · rw [if_neg h0]; simp
/-- What ForcedBy says. -/
def fby (r : Ru) (vs : List Int) : Int × Int × Bool := if (inB vs.length 0 200 && rv r vs.length) = true ∧ valsB vs = true then forcedV r vs else (0, 0, false)
theorem c24 (r : Ru) (vs : List Int) (h : (r.sz : Int) ≤ 1048576) (hl : (vs.length : Int) ≤ 1048576) :
    PC E 24 [.agg (encR r), .i (.sl (vs.map encI))] [.i (.int .i64 (fby r vs).1), .i (.int .i64 (fby r vs).2.1), .i (.bool (fby r vs).2.2)] := by
  refine PC_start hE Proofs.Try.func24 rfl rfl Proofs.Try.ntmps24 (by kernel_rfl) (by kernel_rfl) (by simp) ?_
  simp (maxSteps := 1000000) (disch := first | (exact DrawOk.mk (by decide +kernel)) | omega | simp) [wrap_i64, le_most, lt_omega, le_omega, ne_omega, allLen]
  refine CallK.of (c68 _) (by first | exact .inl rfl | exact .inr (by simp)) (by simp) ?_
  simp (maxSteps := 1000000) (disch := first | (exact DrawOk.mk (by decide +kernel)) | omega | simp) [wrap_i64, le_most, lt_omega, le_omega, ne_omega, allLen]
  refine CallK.of (c67 r _ h) (by first | exact .inl rfl | exact .inr (by simp)) (by simp) ?_
  simp only [fby]
  generalize hq : (inB (vs.length : Int) 0 200 && rv r (vs.length : Int)) = q
  cases q
  · simp (maxSteps := 1000000) (disch := first | (exact DrawOk.mk (by decide +kernel)) | omega | simp) [wrap_i64, le_most, lt_omega, le_omega, ne_omega, allLen]
  · simp (maxSteps := 1000000) (disch := first | (exact DrawOk.mk (by decide +kernel)) | omega | simp) [wrap_i64, le_most, lt_omega, le_omega, ne_omega, allLen]
    refine CallK.of (c69 vs hl) (by first | exact .inl rfl | exact .inr (by simp)) (by simp) ?_
    generalize hw : valsB vs = b
    cases b
    · simp (maxSteps := 1000000) (disch := first | (exact DrawOk.mk (by decide +kernel)) | omega | simp) [wrap_i64, le_most, lt_omega, le_omega, ne_omega, allLen]
    · simp at hq
      have hf := rfit_of hq.2 hw
      have hs : (r.vars.length : Int) ≤ 1048576 := by unfold Ru.sz at h; omega
      have h0 := rv_pos hq.2
      have hpos : 0 < vs.length := by have := hf.at_ 0 h0; omega
      simp (maxSteps := 1000000) (disch := first | (exact DrawOk.mk (by decide +kernel)) | omega | simp) [wrap_i64, le_most, lt_omega, le_omega, ne_omega, allLen]
      refine CallK.of (c71 vs hpos hl) (by first | exact .inl rfl | exact .inr (by simp)) (by simp) ?_
      simp (maxSteps := 1000000) (disch := first | (exact DrawOk.mk (by decide +kernel)) | omega | simp) [wrap_i64, le_most, lt_omega, le_omega, ne_omega, allLen]
      refine MutK.of (c70 r vs hf h0 hs) (by simp) (by simp) (by simp) (by simp) (by simp) ?_
      simp (maxSteps := 1000000) (disch := first | (exact DrawOk.mk (by decide +kernel)) | omega | simp) [wrap_i64, le_most, lt_omega, le_omega, ne_omega, allLen]
theorem c21 (r : Ru) (vs : List Int) (h : (r.sz : Int) ≤ 1048576) (hl : (vs.length : Int) ≤ 1048576) :
    PC E 21 [.agg (encR r), .i (.sl (vs.map encI))] [.i (.int .i64 (fby r vs).1), .i (.int .i64 (fby r vs).2.1), .i (.bool (fby r vs).2.2)] := by
  refine PC_start hE Proofs.Try.func21 rfl rfl Proofs.Try.ntmps21 (by kernel_rfl) (by kernel_rfl) (by simp) ?_
  simp (maxSteps := 1000000) (disch := first | (exact DrawOk.mk (by decide +kernel)) | omega | simp) [wrap_i64, le_most, lt_omega, le_omega, ne_omega, allLen]
  refine CallK.of (c63 r _ h) (by first | exact .inl rfl | exact .inr (by simp)) (by simp) ?_
  simp only [fby]
  generalize hq : (inB (vs.length : Int) 0 200 && rv r (vs.length : Int)) = q
  cases q
  · simp (maxSteps := 1000000) (disch := first | (exact DrawOk.mk (by decide +kernel)) | omega | simp) [wrap_i64, le_most, lt_omega, le_omega, ne_omega, allLen]
  · simp (maxSteps := 1000000) (disch := first | (exact DrawOk.mk (by decide +kernel)) | omega | simp) [wrap_i64, le_most, lt_omega, le_omega, ne_omega, allLen]
    refine CallK.of (c64 vs hl) (by first | exact .inl rfl | exact .inr (by simp)) (by simp) ?_
    generalize hw : valsB vs = b
    cases b
    · simp (maxSteps := 1000000) (disch := first | (exact DrawOk.mk (by decide +kernel)) | omega | simp) [wrap_i64, le_most, lt_omega, le_omega, ne_omega, allLen]
    · simp at hq
      have hf := rfit_of hq.2 hw
      have hs : (r.vars.length : Int) ≤ 1048576 := by unfold Ru.sz at h; omega
      simp (maxSteps := 1000000) (disch := first | (exact DrawOk.mk (by decide +kernel)) | omega | simp) [wrap_i64, le_most, lt_omega, le_omega, ne_omega, allLen]
      refine CallK.of (c66 vs hl) (by first | exact .inl rfl | exact .inr (by simp)) (by simp) ?_
      simp (maxSteps := 1000000) (disch := first | (exact DrawOk.mk (by decide +kernel)) | omega | simp) [wrap_i64, le_most, lt_omega, le_omega, ne_omega, allLen]
      refine MutK.of (c65 r vs hq.2 hf hs hl) (by simp) (by simp) (by simp) (by simp) (by simp) ?_
      have hneg := forcedV_pos hf
      have hz := forcedV_none r vs
      unfold sfo
      cases hb : (forcedV r vs).2.2
      · have := hz hb
        simp (maxSteps := 1000000) (disch := first | (exact DrawOk.mk (by decide +kernel)) | omega | simp) [wrap_i64, le_most, lt_omega, le_omega, ne_omega, allLen, this]
      · have := hneg hb
        simp (maxSteps := 1000000) (disch := first | (exact DrawOk.mk (by decide +kernel)) | omega | simp) [wrap_i64, le_most, lt_omega, le_omega, ne_omega, allLen, this, hb]
theorem c5 (x : Ru) (vs : List Int) (h : x.fine) (hv : vs.length ≤ maxLen) : PC E 5 [.agg (encR x), .i (.sl (vs.map encI))] [.i (.bool true)] := by
  refine PC_start hE Proofs.Try.func5 rfl rfl Proofs.Try.ntmps5 (by kernel_rfl) (by kernel_rfl) (by simp) ?_
  simp (maxSteps := 1000000) (disch := first | (exact DrawOk.mk (by decide +kernel)) | omega | simp) [wrap_i64, le_most, lt_omega, le_omega, ne_omega, allLen]
  (first | refine Gd.dec (fun h1 => ?_) (fun h1 => ?_) | refine Gd.intro (fun h1 => ?_) (fun h1 => ?_)) <;> simp (maxSteps := 1000000) (disch := first | (exact DrawOk.mk (by decide +kernel)) | omega | simp) [wrap_i64, le_most, lt_omega, le_omega, ne_omega, allLen, h1]
  refine CallK.of (c20 x 1048576 (by omega) (by omega) h.1 h.2) (by first | exact .inl rfl | exact .inr (by simp)) (by simp) ?_
  simp (maxSteps := 1000000) (disch := first | (exact DrawOk.mk (by decide +kernel)) | omega | simp) [wrap_i64, le_most, lt_omega, le_omega, ne_omega, allLen]
  (first | refine Gd.dec (fun h2 => ?_) (fun h2 => ?_) | refine Gd.intro (fun h2 => ?_) (fun h2 => ?_)) <;> simp (maxSteps := 1000000) (disch := first | (exact DrawOk.mk (by decide +kernel)) | omega | simp) [wrap_i64, le_most, lt_omega, le_omega, ne_omega, allLen, h2]
  have g1 : (x.sz : Int) ≤ 1048576 := by split at h2 <;> omega
  have g2 : (vs.length : Int) ≤ 1048576 := by omega
  refine CallK.of (c22 x g1) (by first | exact .inl rfl | exact .inr (by simp)) (by simp) ?_
  simp (maxSteps := 1000000) (disch := first | (exact DrawOk.mk (by decide +kernel)) | omega | simp) [wrap_i64, le_most, lt_omega, le_omega, ne_omega, allLen]
  refine CallK.of (c23 vs g2) (by first | exact .inl rfl | exact .inr (by simp)) (by simp) ?_
  simp (maxSteps := 1000000) (disch := first | (exact DrawOk.mk (by decide +kernel)) | omega | simp) [wrap_i64, le_most, lt_omega, le_omega, ne_omega, allLen]
  refine CallK.of (c21 x vs g1 g2) (by first | exact .inl rfl | exact .inr (by simp)) (by simp) ?_
  simp (maxSteps := 1000000) (disch := first | (exact DrawOk.mk (by decide +kernel)) | omega | simp) [wrap_i64, le_most, lt_omega, le_omega, ne_omega, allLen]
  refine CallK.of (c22 x g1) (by first | exact .inl rfl | exact .inr (by simp)) (by simp) ?_
  simp (maxSteps := 1000000) (disch := first | (exact DrawOk.mk (by decide +kernel)) | omega | simp) [wrap_i64, le_most, lt_omega, le_omega, ne_omega, allLen]
  refine CallK.of (c23 vs g2) (by first | exact .inl rfl | exact .inr (by simp)) (by simp) ?_
  simp (maxSteps := 1000000) (disch := first | (exact DrawOk.mk (by decide +kernel)) | omega | simp) [wrap_i64, le_most, lt_omega, le_omega, ne_omega, allLen]
  refine CallK.of (c24 x vs g1 g2) (by first | exact .inl rfl | exact .inr (by simp)) (by simp) ?_
  simp (maxSteps := 1000000) (disch := first | (exact DrawOk.mk (by decide +kernel)) | omega | simp) [wrap_i64, le_most, lt_omega, le_omega, ne_omega, allLen]
  refine CallK.of (c22 x g1) (by first | exact .inl rfl | exact .inr (by simp)) (by simp) ?_
  simp (maxSteps := 1000000) (disch := first | (exact DrawOk.mk (by decide +kernel)) | omega | simp) [wrap_i64, le_most, lt_omega, le_omega, ne_omega, allLen]
  refine CallK.of (c25 x x g1 g1) (by first | exact .inl rfl | exact .inr (by simp)) (by simp) ?_
  simp (maxSteps := 1000000) (disch := first | (exact DrawOk.mk (by decide +kernel)) | omega | simp) [wrap_i64, le_most, lt_omega, le_omega, ne_omega, allLen]
  refine CallK.of (c23 vs g2) (by first | exact .inl rfl | exact .inr (by simp)) (by simp) ?_
  simp (maxSteps := 1000000) (disch := first | (exact DrawOk.mk (by decide +kernel)) | omega | simp) [wrap_i64, le_most, lt_omega, le_omega, ne_omega, allLen]
  refine CallK.of (c26 vs vs g2 g2) (by first | exact .inl rfl | exact .inr (by simp)) (by simp) ?_
  simp (maxSteps := 1000000) (disch := first | (exact DrawOk.mk (by decide +kernel)) | omega | simp) [wrap_i64, le_most, lt_omega, le_omega, ne_omega, allLen]
end Go.Vai
