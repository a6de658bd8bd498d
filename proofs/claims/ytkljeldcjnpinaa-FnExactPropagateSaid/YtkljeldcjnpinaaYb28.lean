/- Merged texts of this claim: Zt29, Zt30. -/
import Derived.Test.YtkljeldcjnpinaaYb27
/- Refutations: what the program's reader does. -/
set_option linter.unusedVariables false
set_option linter.unusedSimpArgs false
set_option maxHeartbeats 4000000
namespace Go.Vai
/-- Is a node a clash, and does it clash? -/
def clB (rs : List Ru) (vs : List Int) (n : Nd) : Bool := decide (n.var = 0 ∧ n.value = 0) && (isRul rs n && decide (hol (ruAt rs n.rule) vs < 0))
def foB (rs : List Ru) (vs : List Int) (n : Nd) : Bool := isRul rs n && (unitB n.value && decide (hol (ruAt rs n.rule) (setV vs n (-n.value)) < 0))
/-- What the program's reader makes of values and nodes: the values, the nodes behind, and whether it is one. -/
def RF (rs : List Ru) : Nat → List Int → List Nd → List Int × List Nd × Bool
  | 0, vs, _ => (vs, [], false)
  | _ + 1, vs, [] => (vs, [], false)
  | m + 1, vs, n :: rest =>
    if n.kind = 3 then (vs, rest, clB rs vs n)
    else if isFre vs n = false then (vs, [], false)
    else if n.kind = 2 then (if foB rs vs n = true then RF rs m (setV vs n n.value) rest else (vs, [], false))
    else if n.kind = 1 ∧ n.value = 0 ∧ n.rule = 0 then
      (if (RF rs m (setV vs n 1) rest).2.2 = true then
        (if (RF rs m (setV vs n (-1)) (RF rs m (setV vs n 1) rest).2.1).2.2 = true then (vs, (RF rs m (setV vs n (-1)) (RF rs m (setV vs n 1) rest).2.1).2.1, true) else (vs, [], false))
       else (vs, [], false))
    else (vs, [], false)
@[simp] theorem RF_vals (rs : List Ru) : ∀ (m : Nat) (vs : List Int) (ns : List Nd), (RF rs m vs ns).1.length = vs.length
  | 0, vs, ns => rfl
  | m + 1, vs, [] => rfl
  | m + 1, vs, n :: rest => by
    simp only [RF]
    split
    · rfl
    · split
      · rfl
      · split
        · split
          · rw [RF_vals rs m]; simp [setV]
          · rfl
        · split
          · split
            · split <;> rfl
            · rfl
          · rfl
theorem RF_rest (rs : List Ru) : ∀ (m : Nat) (vs : List Int) (ns : List Nd), (RF rs m vs ns).2.1.length ≤ ns.length
  | 0, vs, ns => by simp [RF]
  | m + 1, vs, [] => by simp [RF]
  | m + 1, vs, n :: rest => by
    have h1 := RF_rest rs m (setV vs n n.value) rest
    have h2 := RF_rest rs m (setV vs n 1) rest
    have h3 := RF_rest rs m (setV vs n (-1)) (RF rs m (setV vs n 1) rest).2.1
    simp only [RF, List.length_cons]
    split
    · exact Nat.le_succ _
    · split
      · exact Nat.zero_le _
      · split
        · split
          · omega
          · exact Nat.zero_le _
        · split
          · split
            · split
              · exact Nat.le_succ_of_le (Nat.le_trans h3 h2)
              · exact Nat.zero_le _
            · exact Nat.zero_le _
          · exact Nat.zero_le _
/-- The nodes behind, if it is one. -/
def opt (p : List Int × List Nd × Bool) : Option (List Nd) := if p.2.2 = true then some p.2.1 else none
theorem opt_true {vs : List Int} {r : List Nd} {b : Bool} (h : b = true) : opt (vs, r, b) = some r := by simp [opt, h]
theorem opt_false {vs : List Int} {r : List Nd} {b : Bool} (h : ¬ b = true) : opt (vs, r, b) = none := by simp [opt, h]
theorem opt_some {p : List Int × List Nd × Bool} (h : p.2.2 = true) : opt p = some p.2.1 := by simp [opt, h]
theorem opt_none {p : List Int × List Nd × Bool} (h : ¬ p.2.2 = true) : opt p = none := by simp [opt, h]
theorem RF_PF (rs : List Ru) : ∀ (m : Nat) (vs : List Int) (ns : List Nd), PF rs m vs ns = opt (RF rs m vs ns)
  | 0, vs, ns => by simp [PF, RF, opt]
  | m + 1, vs, [] => by simp [PF, RF, opt]
  | m + 1, vs, n :: rest => by
    have e1 := RF_PF rs m (setV vs n n.value) rest
    have e2 := RF_PF rs m (setV vs n 1) rest
    simp only [PF, RF]
    by_cases h3 : n.kind = 3
    · rw [if_pos h3, if_pos h3]
      by_cases q : clB rs vs n = true
      · rw [opt_true q, if_pos (by simpa [clB, and_assoc] using q)]
      · rw [opt_false q, if_neg (by simpa [clB, and_assoc] using q)]
    · rw [if_neg h3, if_neg h3]
      by_cases hf : isFre vs n = false
      · rw [if_pos hf, if_pos hf]; rfl
      · rw [if_neg hf, if_neg hf]
        by_cases h2 : n.kind = 2
        · rw [if_pos h2, if_pos h2]
          by_cases q : foB rs vs n = true
          · rw [if_pos q, if_pos (by simpa [foB, and_assoc] using q)]; exact e1
          · rw [if_neg q, if_neg (by simpa [foB, and_assoc] using q)]; rfl
        · rw [if_neg h2, if_neg h2]
          by_cases h1 : n.kind = 1 ∧ n.value = 0 ∧ n.rule = 0
          · rw [if_pos h1, if_pos h1, e2]
            by_cases q : (RF rs m (setV vs n 1) rest).2.2 = true
            · rw [if_pos q, opt_some q]
              show PF rs m (setV vs n (-1)) _ = _
              rw [RF_PF rs m (setV vs n (-1))]
              by_cases q2 : (RF rs m (setV vs n (-1)) (RF rs m (setV vs n 1) rest).2.1).2.2 = true
              · rw [if_pos q2, opt_some q2]; rfl
              · rw [if_neg q2, opt_none q2]; rfl
            · rw [if_neg q, opt_none q]; rfl
          · rw [if_neg h1, if_neg h1]; rfl
/-- What is asked of the rules. -/
structure Rsz (rs : List Ru) : Prop where
  len : (rs.length : Int) ≤ 1048576
  vars : ∀ r ∈ rs, (r.vars.length : Int) ≤ 1048576
theorem c118 (ls : List Ru) : PC E 118 [.i (.sl (ls.map encR))] [.i (.int .i64 ls.length)] := by
  refine PC_start hE Proofs.Try.func118 rfl rfl Proofs.Try.ntmps118 (by kernel_rfl) (by kernel_rfl) (by simp) ?_
  simp (maxSteps := 1000000) (disch := first | (exact DrawOk.mk (by decide +kernel)) | omega | simp) [wrap_i64, le_most, lt_omega, le_omega, ne_omega, allLen]
@[simp] theorem flat_encI (x : Int) : flatC (encI x) := by simp [flatC, encI, IV.flat]
theorem set_enc (vs : List Int) (k : Nat) (x : Int) : (vs.map encI).set k [.int .i64 x] = (vs.set k x).map encI := by simp [List.map_set, encI]
theorem c102 (r : Ru) (vs : List Int) (k : Nat) (x : Int) (hv : k < vs.length) (hf : RFit r (vs.set k x)) (hs : (r.vars.length : Int) ≤ 1048576) :
    PM E 102 [.i (.agg (encR r)), .sl ⟨1, vs.map encI⟩, .i (.i (.int .i64 k)), .i (.i (.int .i64 x))] [⟨1, vs.map encI⟩] [.i (.int .i64 (hol r (vs.set k x)))] := by
  have h1 := set_enc vs k x
  have h2 : ((vs.set k x).map encI).set k [.int .i64 vs[k]] = vs.map encI := by
    rw [set_enc]; simp
  have h3 : ((vs.set k x).map encI).take vs.length = (vs.set k x).map encI := by rw [List.take_of_length_le (by simp)]
  refine PM_start hE Proofs.Try.func102 rfl rfl Proofs.Try.ntmps102 (by kernel_rfl) (by kernel_rfl) (by simp) (by simp) ?_
  simp (maxSteps := 1000000) (disch := first | (exact DrawOk.mk (by decide +kernel)) | omega | simp) [wrap_i64, le_most, lt_omega, le_omega, ne_omega, allLen, hv, encI, h1, h2, h3, -List.map_set]
  refine CallK.of (c75 r (vs.set k x) hf hs) (by first | exact .inl rfl | exact .inr (by simp)) (by simp) ?_
  simp (maxSteps := 1000000) (disch := first | (exact DrawOk.mk (by decide +kernel)) | omega | simp) [wrap_i64, le_most, lt_omega, le_omega, ne_omega, allLen, hv, encI, h1, h2, h3, hol, -List.map_set]
theorem c71 (ls : List Int) (h0 : 0 < ls.length) (h : (ls.length : Int) ≤ 1048576) : PC E 71 [.i (.sl (ls.map encI))] [.own 1 (ls.map encI)] := by
  refine PC_start hE Proofs.Try.func71 rfl rfl Proofs.Try.ntmps71 (by kernel_rfl) (by kernel_rfl) (by simp) ?_
  obtain ⟨x, l, rfl⟩ : ∃ x l, ls = x :: l := by
    cases ls with
    | nil => simp at h0
    | cons x l => exact ⟨x, l, rfl⟩
  simp at h
  simp (maxSteps := 1000000) (disch := first | (exact DrawOk.mk (by decide +kernel)) | omega | simp) [wrap_i64, le_most, lt_omega, le_omega, ne_omega, allLen]
end Go.Vai
/- Refutations: the program's reader. -/
set_option linter.unusedVariables false
set_option linter.unusedSimpArgs false
set_option maxHeartbeats 4000000
namespace Go.Vai
@[simp] theorem eqN4 (a b c d a' b' c' d' : Int) : eqOp E .eql 121 [.int .i64 a, .int .i64 b, .int .i64 c, .int .i64 d] [.int .i64 a', .int .i64 b', .int .i64 c', .int .i64 d'] = some (.i (.bool (decide (a = a' ∧ b = b' ∧ c = c' ∧ d = d')))) := by
  have h := eqlNd ⟨a, b, c, d⟩ ⟨a', b', c', d'⟩
  simpa [encNd] using h
@[simp] theorem neN4 (a b c d a' b' c' d' : Int) : eqOp E .neq 121 [.int .i64 a, .int .i64 b, .int .i64 c, .int .i64 d] [.int .i64 a', .int .i64 b', .int .i64 c', .int .i64 d'] = some (.i (.bool (!decide (a = a' ∧ b = b' ∧ c = c' ∧ d = d')))) := by
  have h := neqNd ⟨a, b, c, d⟩ ⟨a', b', c', d'⟩
  simpa [encNd] using h
theorem ruAt_nat {rs : List Ru} {b : Nat} (h : b < rs.length) : ruAt rs (b : Int) = rs[b] := by
  simp [ruAt, List.getD_eq_getElem?_getD, List.getElem?_eq_getElem h]
theorem c75' (x : Ru) (vs : List Int) (hx : RFit x vs) (h : (x.vars.length : Int) ≤ 1048576) : PC E 75 [.agg (encR x), .i (.sl (vs.map encI))] [.i (.int .i64 (hol x vs))] := c75 x vs hx h
theorem in_nat {n : Int} {l : Nat} (h : inB n 0 ((l : Int) - 1) = true) : ∃ k : Nat, n = k ∧ k < l := by
  have := (inB_iff ..).1 h
  exact ⟨n.toNat, by omega, by omega⟩
theorem getD_nat {vs : List Int} {a : Nat} (h : a < vs.length) : vs.getD ((a : Int)).toNat 0 = vs[a] := by
  simp [List.getD_eq_getElem?_getD, List.getElem?_eq_getElem h]
theorem c108 (rs : List Ru) (hz : Rsz rs) : ∀ (m : Nat) (vs : List Int) (ns : List Nd), Vf rs vs → ns.length ≤ m → (ns.length : Int) ≤ 1048576 → (vs.length : Int) ≤ 1048576 →
    PM E 108 [.i (.i (.sl (rs.map encR))), .sl ⟨1, vs.map encI⟩, .i (.i (.sl (ns.map encNd)))] [⟨1, (RF rs m vs ns).1.map encI⟩]
      [.i (.sl ((RF rs m vs ns).2.1.map encNd)), .i (.bool (RF rs m vs ns).2.2)] := by
  intro m
  induction m with
  | zero =>
    intro vs ns hv hm hn hl
    obtain rfl : ns = [] := List.length_eq_zero_iff.1 (by omega)
    refine PM_start hE Proofs.Try.func108 rfl rfl Proofs.Try.ntmps108 (by kernel_rfl) (by kernel_rfl) (by simp) (by simp) ?_
    simp (maxSteps := 1000000) (disch := first | (exact DrawOk.mk (by decide +kernel)) | omega | simp) [wrap_i64, le_most, lt_omega, le_omega, ne_omega, allLen, RF]
  | succ m ih =>
    intro vs ns hv hm hn hl
    have hrl := hz.len
    cases ns with
    | nil =>
      refine PM_start hE Proofs.Try.func108 rfl rfl Proofs.Try.ntmps108 (by kernel_rfl) (by kernel_rfl) (by simp) (by simp) ?_
      simp (maxSteps := 1000000) (disch := first | (exact DrawOk.mk (by decide +kernel)) | omega | simp) [wrap_i64, le_most, lt_omega, le_omega, ne_omega, allLen, RF]
    | cons n rest =>
      simp at hm hn
      refine PM_start hE Proofs.Try.func108 rfl rfl Proofs.Try.ntmps108 (by kernel_rfl) (by kernel_rfl) (by simp) (by simp) ?_
      simp (maxSteps := 1000000) (disch := first | (exact DrawOk.mk (by decide +kernel)) | omega | simp) [wrap_i64, le_most, lt_omega, le_omega, ne_omega, allLen]
      refine Xc_late E _ _ _ 6 [3, 4] [8] (by kernel_rfl) (by kernel_rfl) ?_
      simp (maxSteps := 1000000) (disch := first | (exact DrawOk.mk (by decide +kernel)) | omega | simp) [wrap_i64, le_most, lt_omega, le_omega, ne_omega, allLen, encNd]
      refine CallK.of (c118 rs) (by first | exact .inl rfl | exact .inr (by simp)) (by simp) ?_
      simp (maxSteps := 1000000) (disch := first | (exact DrawOk.mk (by decide +kernel)) | omega | simp) [wrap_i64, le_most, lt_omega, le_omega, ne_omega, allLen]
      refine CallK.of (c95 _ _ _) (by first | exact .inl rfl | exact .inr (by simp)) (by simp) ?_
      simp (maxSteps := 1000000) (disch := first | (exact DrawOk.mk (by decide +kernel)) | omega | simp) [wrap_i64, le_most, lt_omega, le_omega, ne_omega, allLen]
      refine CallK.of (c68 vs) (by first | exact .inl rfl | exact .inr (by simp)) (by simp) ?_
      simp (maxSteps := 1000000) (disch := first | (exact DrawOk.mk (by decide +kernel)) | omega | simp) [wrap_i64, le_most, lt_omega, le_omega, ne_omega, allLen]
      refine CallK.of (c95 _ _ _) (by first | exact .inl rfl | exact .inr (by simp)) (by simp) ?_
      simp (maxSteps := 1000000) (disch := first | (exact DrawOk.mk (by decide +kernel)) | omega | simp) [wrap_i64, le_most, lt_omega, le_omega, ne_omega, allLen]
      obtain ⟨nk, nv, nw, nr⟩ := n
      generalize hb : inB nv 0 ((vs.length : Int) - 1) = bv
      generalize hr : inB nr 0 ((rs.length : Int) - 1) = br
      cases bv
      · simp (maxSteps := 1000000) (disch := first | (exact DrawOk.mk (by decide +kernel)) | omega | simp) [wrap_i64, le_most, lt_omega, le_omega, ne_omega, allLen]
        (first | refine Gd.dec (fun h3 => ?_) (fun h3 => ?_) | refine Gd.intro (fun h3 => ?_) (fun h3 => ?_)) <;> simp (maxSteps := 1000000) (disch := first | (exact DrawOk.mk (by decide +kernel)) | omega | simp) [wrap_i64, le_most, lt_omega, le_omega, ne_omega, allLen, h3]
        · subst h3
          have e : RF rs (m + 1) vs (⟨3, nv, nw, nr⟩ :: rest) = (vs, rest, clB rs vs ⟨3, nv, nw, nr⟩) := by simp [RF]
          rw [e]
          by_cases w1 : nv = 0
          · by_cases w2 : nw = 0
            · cases br
              · have e2 : clB rs vs ⟨3, nv, nw, nr⟩ = false := by simp [clB, isRul, hr]
                rw [e2]
                simp (maxSteps := 1000000) (disch := first | (exact DrawOk.mk (by decide +kernel)) | omega | simp) [wrap_i64, le_most, lt_omega, le_omega, ne_omega, allLen, w1, w2]
              · obtain ⟨b, rfl, hb2⟩ := in_nat hr
                have hm2 : rs[b] ∈ rs := List.getElem_mem _
                have e2 : clB rs vs ⟨3, nv, nw, (b : Int)⟩ = decide (hol rs[b] vs < 0) := by simp [clB, isRul, hr, w1, w2, ruAt_nat hb2]
                rw [e2]
                simp (maxSteps := 1000000) (disch := first | (exact DrawOk.mk (by decide +kernel)) | omega | simp) [wrap_i64, le_most, lt_omega, le_omega, ne_omega, allLen, w1, w2, hb2]
                refine CallK.of (c75' rs[b] vs (hv.fit hm2) (hz.vars _ hm2)) (by first | exact .inl rfl | exact .inr (by simp)) (by simp) ?_
                simp (maxSteps := 1000000) (disch := first | (exact DrawOk.mk (by decide +kernel)) | omega | simp) [wrap_i64, le_most, lt_omega, le_omega, ne_omega, allLen]
            · have e2 : clB rs vs ⟨3, nv, nw, nr⟩ = false := by simp [clB, w2]
              rw [e2]
              simp (maxSteps := 1000000) (disch := first | (exact DrawOk.mk (by decide +kernel)) | omega | simp) [wrap_i64, le_most, lt_omega, le_omega, ne_omega, allLen, w1, w2]
          · have e2 : clB rs vs ⟨3, nv, nw, nr⟩ = false := by simp [clB, w1]
            rw [e2]
            simp (maxSteps := 1000000) (disch := first | (exact DrawOk.mk (by decide +kernel)) | omega | simp) [wrap_i64, le_most, lt_omega, le_omega, ne_omega, allLen, w1]
        · have e : RF rs (m + 1) vs (⟨nk, nv, nw, nr⟩ :: rest) = (vs, [], false) := by simp [RF, h3, isFre, hb]
          rw [e]
          simp (maxSteps := 1000000) (disch := first | (exact DrawOk.mk (by decide +kernel)) | omega | simp) [wrap_i64, le_most, lt_omega, le_omega, ne_omega, allLen]
      · obtain ⟨a, rfl, ha⟩ := in_nat hb
        simp (maxSteps := 1000000) (disch := first | (exact DrawOk.mk (by decide +kernel)) | omega | simp) [wrap_i64, le_most, lt_omega, le_omega, ne_omega, allLen, ha, encI]
        (first | refine Gd.dec (fun h3 => ?_) (fun h3 => ?_) | refine Gd.intro (fun h3 => ?_) (fun h3 => ?_)) <;> simp (maxSteps := 1000000) (disch := first | (exact DrawOk.mk (by decide +kernel)) | omega | simp) [wrap_i64, le_most, lt_omega, le_omega, ne_omega, allLen, h3]
        · subst h3
          have e : RF rs (m + 1) vs (⟨3, (a : Int), nw, nr⟩ :: rest) = (vs, rest, clB rs vs ⟨3, (a : Int), nw, nr⟩) := by simp [RF]
          rw [e]
          by_cases w1 : a = 0
          · by_cases w2 : nw = 0
            · cases br
              · have e2 : clB rs vs ⟨3, (a : Int), nw, nr⟩ = false := by simp [clB, isRul, hr]
                rw [e2]
                simp (maxSteps := 1000000) (disch := first | (exact DrawOk.mk (by decide +kernel)) | omega | simp) [wrap_i64, le_most, lt_omega, le_omega, ne_omega, allLen, w1, w2]
              · obtain ⟨b, rfl, hb2⟩ := in_nat hr
                have hm2 : rs[b] ∈ rs := List.getElem_mem _
                have e2 : clB rs vs ⟨3, (a : Int), nw, (b : Int)⟩ = decide (hol rs[b] vs < 0) := by simp [clB, isRul, hr, w1, w2, ruAt_nat hb2]
                rw [e2]
                simp (maxSteps := 1000000) (disch := first | (exact DrawOk.mk (by decide +kernel)) | omega | simp) [wrap_i64, le_most, lt_omega, le_omega, ne_omega, allLen, w1, w2, hb2]
                refine CallK.of (c75' rs[b] vs (hv.fit hm2) (hz.vars _ hm2)) (by first | exact .inl rfl | exact .inr (by simp)) (by simp) ?_
                simp (maxSteps := 1000000) (disch := first | (exact DrawOk.mk (by decide +kernel)) | omega | simp) [wrap_i64, le_most, lt_omega, le_omega, ne_omega, allLen]
            · have e2 : clB rs vs ⟨3, (a : Int), nw, nr⟩ = false := by simp [clB, w2]
              rw [e2]
              simp (maxSteps := 1000000) (disch := first | (exact DrawOk.mk (by decide +kernel)) | omega | simp) [wrap_i64, le_most, lt_omega, le_omega, ne_omega, allLen, w1, w2]
          · have e2 : clB rs vs ⟨3, (a : Int), nw, nr⟩ = false := by simp [clB, w1]
            rw [e2]
            simp (maxSteps := 1000000) (disch := first | (exact DrawOk.mk (by decide +kernel)) | omega | simp) [wrap_i64, le_most, lt_omega, le_omega, ne_omega, allLen, w1]
        · by_cases h0 : vs[a] = 0
          · have ef : isFre vs ⟨nk, a, nw, nr⟩ = true := by
              simp only [isFre, Bool.and_eq_true, decide_eq_true_eq]
              exact ⟨hb, by rw [getD_nat ha]; exact h0⟩
            simp (maxSteps := 1000000) (disch := first | (exact DrawOk.mk (by decide +kernel)) | omega | simp) [wrap_i64, le_most, lt_omega, le_omega, ne_omega, allLen, h0]
            (first | refine Gd.dec (fun h2 => ?_) (fun h2 => ?_) | refine Gd.intro (fun h2 => ?_) (fun h2 => ?_)) <;> simp (maxSteps := 1000000) (disch := first | (exact DrawOk.mk (by decide +kernel)) | omega | simp) [wrap_i64, le_most, lt_omega, le_omega, ne_omega, allLen, h2]
            · subst h2
              cases br
              · have e2 : RF rs (m + 1) vs (⟨2, a, nw, nr⟩ :: rest) = (vs, [], false) := by simp [RF, ef, foB, isRul, hr]
                rw [e2]
                simp (maxSteps := 1000000) (disch := first | (exact DrawOk.mk (by decide +kernel)) | omega | simp) [wrap_i64, le_most, lt_omega, le_omega, ne_omega, allLen]
              · obtain ⟨b, rfl, hb2⟩ := in_nat hr
                have hm2 : rs[b] ∈ rs := List.getElem_mem _
                simp (maxSteps := 1000000) (disch := first | (exact DrawOk.mk (by decide +kernel)) | omega | simp) [wrap_i64, le_most, lt_omega, le_omega, ne_omega, allLen]
                refine CallK.of (c115 nw) (by first | exact .inl rfl | exact .inr (by simp)) (by simp) ?_
                generalize hu : unitB nw = u
                cases u
                · have e2 : RF rs (m + 1) vs (⟨2, a, nw, b⟩ :: rest) = (vs, [], false) := by simp [RF, ef, foB, hu]
                  rw [e2]
                  simp (maxSteps := 1000000) (disch := first | (exact DrawOk.mk (by decide +kernel)) | omega | simp) [wrap_i64, le_most, lt_omega, le_omega, ne_omega, allLen]
                · have hw : nw = 1 ∨ nw = -1 := by simpa [unitB] using hu
                  rcases hw with rfl | rfl
                  · have e2 : RF rs (m + 1) vs (⟨2, a, 1, b⟩ :: rest) = if hol rs[b] (vs.set a (-1)) < 0 then RF rs m (vs.set a 1) rest else (vs, [], false) := by
                      simp [RF, ef, foB, isRul, hr, hu, ruAt_nat hb2, setV]
                    rw [e2]
                    have s1 := set_enc vs a 1
                    simp (maxSteps := 1000000) (disch := first | (exact DrawOk.mk (by decide +kernel)) | omega | simp) [wrap_i64, le_most, lt_omega, le_omega, ne_omega, allLen, hb2]
                    refine MutK.of (c102 rs[b] vs a (-1) ha ((hv.set ⟨2, a, 1, b⟩ (x := (-1)) (by omega)).fit hm2) (hz.vars _ hm2)) (by simp) (by simp) (by simp) (by simp) (by simp) ?_
                    simp (maxSteps := 1000000) (disch := first | (exact DrawOk.mk (by decide +kernel)) | omega | simp) [wrap_i64, le_most, lt_omega, le_omega, ne_omega, allLen]
                    by_cases h5 : hol rs[b] (vs.set a (-1)) < 0
                    · have h6 : ¬ 0 ≤ hol rs[b] (vs.set a (-1)) := by omega
                      rw [if_pos h5]
                      simp (maxSteps := 1000000) (disch := first | (exact DrawOk.mk (by decide +kernel)) | omega | simp) [wrap_i64, le_most, lt_omega, le_omega, ne_omega, allLen, h6, ha, encI, s1, -List.map_set]
                      refine MutK.of (ih (vs.set a 1) rest (hv.set ⟨2, a, 1, b⟩ (x := 1) (by omega)) hm (by omega) (by simpa using hl)) (by simp) (by simp) (by simp) (by simp) (by simp) ?_
                      simp (maxSteps := 1000000) (disch := first | (exact DrawOk.mk (by decide +kernel)) | omega | simp) [wrap_i64, le_most, lt_omega, le_omega, ne_omega, allLen]
                    · have h6 : 0 ≤ hol rs[b] (vs.set a (-1)) := by omega
                      rw [if_neg h5]
                      simp (maxSteps := 1000000) (disch := first | (exact DrawOk.mk (by decide +kernel)) | omega | simp) [wrap_i64, le_most, lt_omega, le_omega, ne_omega, allLen, h6]
                  · have e2 : RF rs (m + 1) vs (⟨2, a, (-1), b⟩ :: rest) = if hol rs[b] (vs.set a 1) < 0 then RF rs m (vs.set a (-1)) rest else (vs, [], false) := by
                      simp [RF, ef, foB, isRul, hr, hu, ruAt_nat hb2, setV]
                    rw [e2]
                    have s1 := set_enc vs a (-1)
                    simp (maxSteps := 1000000) (disch := first | (exact DrawOk.mk (by decide +kernel)) | omega | simp) [wrap_i64, le_most, lt_omega, le_omega, ne_omega, allLen, hb2]
                    refine MutK.of (c102 rs[b] vs a 1 ha ((hv.set ⟨2, a, (-1), b⟩ (x := 1) (by omega)).fit hm2) (hz.vars _ hm2)) (by simp) (by simp) (by simp) (by simp) (by simp) ?_
                    simp (maxSteps := 1000000) (disch := first | (exact DrawOk.mk (by decide +kernel)) | omega | simp) [wrap_i64, le_most, lt_omega, le_omega, ne_omega, allLen]
                    by_cases h5 : hol rs[b] (vs.set a 1) < 0
                    · have h6 : ¬ 0 ≤ hol rs[b] (vs.set a 1) := by omega
                      rw [if_pos h5]
                      simp (maxSteps := 1000000) (disch := first | (exact DrawOk.mk (by decide +kernel)) | omega | simp) [wrap_i64, le_most, lt_omega, le_omega, ne_omega, allLen, h6, ha, encI, s1, -List.map_set]
                      refine MutK.of (ih (vs.set a (-1)) rest (hv.set ⟨2, a, (-1), b⟩ (x := (-1)) (by omega)) hm (by omega) (by simpa using hl)) (by simp) (by simp) (by simp) (by simp) (by simp) ?_
                      simp (maxSteps := 1000000) (disch := first | (exact DrawOk.mk (by decide +kernel)) | omega | simp) [wrap_i64, le_most, lt_omega, le_omega, ne_omega, allLen]
                    · have h6 : 0 ≤ hol rs[b] (vs.set a 1) := by omega
                      rw [if_neg h5]
                      simp (maxSteps := 1000000) (disch := first | (exact DrawOk.mk (by decide +kernel)) | omega | simp) [wrap_i64, le_most, lt_omega, le_omega, ne_omega, allLen, h6]
            · by_cases w1 : nk = 1
              · by_cases w2 : nw = 0
                · by_cases w3 : nr = 0
                  · subst w1; subst w2; subst w3
                    have pA := ih (vs.set a 1) rest (hv.set ⟨1, a, 0, 0⟩ (x := 1) (by omega)) hm (by omega) (by simpa using hl)
                    have e2 : RF rs (m + 1) vs (⟨1, a, 0, 0⟩ :: rest) = if (RF rs m (vs.set a 1) rest).2.2 = true then
                        (if (RF rs m (vs.set a (-1)) (RF rs m (vs.set a 1) rest).2.1).2.2 = true then (vs, (RF rs m (vs.set a (-1)) (RF rs m (vs.set a 1) rest).2.1).2.1, true) else (vs, [], false))
                        else (vs, [], false) := by
                      simp [RF, ef, setV]
                      rfl
                    rw [e2]
                    have lA := RF_rest rs m (vs.set a 1) rest
                    generalize RF rs m (vs.set a 1) rest = A at pA lA
                    have pB := ih (vs.set a (-1)) A.2.1 (hv.set ⟨1, a, 0, 0⟩ (x := -1) (by omega)) (by omega) (by omega) (by simpa using hl)
                    have lB := RF_rest rs m (vs.set a (-1)) A.2.1
                    generalize RF rs m (vs.set a (-1)) A.2.1 = B at pB lB
                    clear e2
                    have s1 := set_enc vs a 1
                    have s2 := set_enc vs a (-1)
                    simp (maxSteps := 1000000) (disch := first | (exact DrawOk.mk (by decide +kernel)) | omega | simp) [wrap_i64, le_most, lt_omega, le_omega, ne_omega, allLen]
                    refine XL.by hE (ι := { k : Nat // k = 0 ∨ (k = 1 ∧ A.2.2 = true) ∨ (k = 2 ∧ A.2.2 = true ∧ B.2.2 = true) }) (fun k => ⟨[(0, .i (.sl (rs.map encR))), (1, .own 700001 0 vs.length), (8, .ptr 8 0 0),
                      (9, .i (.sl ((if k.1 = 0 then rest else if k.1 = 1 then A.2.1 else B.2.1).map encNd))), (116, .own 116 0 2), (117, .i (.int .i64 2)), (118, .i (.int .i64 k.1))],
                      [(700001, ⟨1, vs.map encI⟩), (8, ⟨4, [[.int .i64 1, .int .i64 a, .int .i64 0, .int .i64 0]]⟩), (116, ⟨1, [[.int .i64 1], [.int .i64 (-1)]]⟩)]⟩) (fun k => 2 - k.1) ⟨0, .inl rfl⟩ ⟨by simp, by simp, by simp⟩ (by kernel_rfl) ?_
                    rintro ⟨k, hk⟩
                    rcases hk with rfl | ⟨rfl, hA⟩ | ⟨rfl, hA, hB⟩
                    · simp (maxSteps := 1000000) (disch := first | (exact DrawOk.mk (by decide +kernel)) | omega | simp) [wrap_i64, le_most, lt_omega, le_omega, ne_omega, allLen]
                      refine CallK.of (c71 vs (by omega) hl) (by first | exact .inl rfl | exact .inr (by simp)) (by simp) ?_
                      simp (maxSteps := 1000000) (disch := first | (exact DrawOk.mk (by decide +kernel)) | omega | simp) [wrap_i64, le_most, lt_omega, le_omega, ne_omega, allLen, ha, encI, s1, -List.map_set]
                      refine MutK.of (pA) (by simp) (by simp) (by simp) (by simp) (by simp) ?_
                      simp (maxSteps := 1000000) (disch := first | (exact DrawOk.mk (by decide +kernel)) | omega | simp) [wrap_i64, le_most, lt_omega, le_omega, ne_omega, allLen]
                      (first | refine Gd.dec (fun hA => ?_) (fun hA => ?_) | refine Gd.intro (fun hA => ?_) (fun hA => ?_)) <;> simp (maxSteps := 1000000) (disch := first | (exact DrawOk.mk (by decide +kernel)) | omega | simp) [wrap_i64, le_most, lt_omega, le_omega, ne_omega, allLen, hA]
                      · (refine ⟨⟨1, .inr (.inl ⟨rfl, hA⟩)⟩, by (simp; try omega), ?_⟩; constructor <;> (simp (maxSteps := 1000000) (disch := first | (exact DrawOk.mk (by decide +kernel)) | omega | simp) [wrap_i64, le_most, lt_omega, le_omega, ne_omega, allLen]) <;> (try omega))
                    · simp (maxSteps := 1000000) (disch := first | (exact DrawOk.mk (by decide +kernel)) | omega | simp) [wrap_i64, le_most, lt_omega, le_omega, ne_omega, allLen]
                      refine CallK.of (c71 vs (by omega) hl) (by first | exact .inl rfl | exact .inr (by simp)) (by simp) ?_
                      simp (maxSteps := 1000000) (disch := first | (exact DrawOk.mk (by decide +kernel)) | omega | simp) [wrap_i64, le_most, lt_omega, le_omega, ne_omega, allLen, ha, encI, s2, -List.map_set]
                      refine MutK.of (pB) (by simp) (by simp) (by simp) (by simp) (by simp) ?_
                      simp (maxSteps := 1000000) (disch := first | (exact DrawOk.mk (by decide +kernel)) | omega | simp) [wrap_i64, le_most, lt_omega, le_omega, ne_omega, allLen]
                      (first | refine Gd.dec (fun hB => ?_) (fun hB => ?_) | refine Gd.intro (fun hB => ?_) (fun hB => ?_)) <;> simp (maxSteps := 1000000) (disch := first | (exact DrawOk.mk (by decide +kernel)) | omega | simp) [wrap_i64, le_most, lt_omega, le_omega, ne_omega, allLen, hB]
                      · (refine ⟨⟨2, .inr (.inr ⟨rfl, hA, hB⟩)⟩, by (simp; try omega), ?_⟩; constructor <;> (simp (maxSteps := 1000000) (disch := first | (exact DrawOk.mk (by decide +kernel)) | omega | simp) [wrap_i64, le_most, lt_omega, le_omega, ne_omega, allLen]) <;> (try omega))
                    · simp (maxSteps := 1000000) (disch := first | (exact DrawOk.mk (by decide +kernel)) | omega | simp) [wrap_i64, le_most, lt_omega, le_omega, ne_omega, allLen, hA, hB]
                  · have e2 : RF rs (m + 1) vs (⟨nk, a, nw, nr⟩ :: rest) = (vs, [], false) := by simp [RF, h3, ef, h2, w1, w2, w3]
                    rw [e2]
                    simp (maxSteps := 1000000) (disch := first | (exact DrawOk.mk (by decide +kernel)) | omega | simp) [wrap_i64, le_most, lt_omega, le_omega, ne_omega, allLen, w1, w2, w3]
                · have e2 : RF rs (m + 1) vs (⟨nk, a, nw, nr⟩ :: rest) = (vs, [], false) := by simp [RF, h3, ef, h2, w1, w2]
                  rw [e2]
                  simp (maxSteps := 1000000) (disch := first | (exact DrawOk.mk (by decide +kernel)) | omega | simp) [wrap_i64, le_most, lt_omega, le_omega, ne_omega, allLen, w1, w2]
              · have e2 : RF rs (m + 1) vs (⟨nk, a, nw, nr⟩ :: rest) = (vs, [], false) := by simp [RF, h3, ef, h2, w1]
                rw [e2]
                simp (maxSteps := 1000000) (disch := first | (exact DrawOk.mk (by decide +kernel)) | omega | simp) [wrap_i64, le_most, lt_omega, le_omega, ne_omega, allLen, w1]
          · have ef : isFre vs ⟨nk, a, nw, nr⟩ = false := by
              simp only [isFre, getD_nat ha, h0, decide_false, Bool.and_false]
            have e : RF rs (m + 1) vs (⟨nk, a, nw, nr⟩ :: rest) = (vs, [], false) := by simp [RF, h3, ef]
            rw [e]
            simp (maxSteps := 1000000) (disch := first | (exact DrawOk.mk (by decide +kernel)) | omega | simp) [wrap_i64, le_most, lt_omega, le_omega, ne_omega, allLen, h0]
end Go.Vai
