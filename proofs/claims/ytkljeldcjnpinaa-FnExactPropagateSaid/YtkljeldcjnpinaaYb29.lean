/- Merged texts of this claim: Zt31, Zt32, Zt33. -/
import Derived.Test.YtkljeldcjnpinaaYb28
/- Refutations: CheckRefutation of the program; what the reference's reader does. -/
set_option linter.unusedVariables false
set_option linter.unusedSimpArgs false
set_option maxHeartbeats 4000000
namespace Go.Vai
def refB (rs : List Ru) (k : Nat) (ns : List Nd) : Bool := decide (PF rs ns.length (List.replicate k 0) ns = some [])
theorem Vf.zero {rs : List Ru} {k : Nat} (h : ∀ r ∈ rs, rv r k = true) : Vf rs (List.replicate k 0) :=
  ⟨fun r hr => by rw [List.length_replicate]; exact h r hr, by simp [valsB, inB]⟩
theorem zeros (k : Nat) : List.replicate k [IV.int .i64 0] = (List.replicate k (0 : Int)).map encI := by simp [encI]
theorem c84 (rs : List Ru) (hz : Rsz rs) (k : Nat) (hk : k ≤ 200) (ns : List Nd) (hv : ∀ r ∈ rs, rv r k = true) (hn : ns.length ≤ 4000) :
    PC E 84 [.i (.sl (rs.map encR)), .i (.int .i64 k), .i (.sl (ns.map encNd))] [.i (.bool (refB rs k ns))] := by
  have z := zeros k
  have p := c108 rs hz ns.length (List.replicate k 0) ns (Vf.zero hv) (Nat.le_refl _) (by omega) (by simp; omega)
  have q : refB rs k ns = decide (opt (RF rs ns.length (List.replicate k 0) ns) = some []) := by unfold refB; rw [RF_PF]
  rw [q]
  generalize RF rs ns.length (List.replicate k 0) ns = A at p
  refine PC_start hE Proofs.Try.func84 rfl rfl Proofs.Try.ntmps84 (by kernel_rfl) (by kernel_rfl) (by simp) ?_
  simp (maxSteps := 1000000) (disch := first | (exact DrawOk.mk (by decide +kernel)) | omega | simp) [wrap_i64, le_most, lt_omega, le_omega, ne_omega, allLen, z, -List.map_replicate]
  refine MutK.of (p) (by simp) (by simp) (by simp) (by simp) (by simp) ?_
  simp (maxSteps := 1000000) (disch := first | (exact DrawOk.mk (by decide +kernel)) | omega | simp) [wrap_i64, le_most, lt_omega, le_omega, ne_omega, allLen]
  obtain ⟨A1, A2, b⟩ := A
  cases b
  · simp (maxSteps := 1000000) (disch := first | (exact DrawOk.mk (by decide +kernel)) | omega | simp) [wrap_i64, le_most, lt_omega, le_omega, ne_omega, allLen, opt]
  · simp (maxSteps := 1000000) (disch := first | (exact DrawOk.mk (by decide +kernel)) | omega | simp) [wrap_i64, le_most, lt_omega, le_omega, ne_omega, allLen, opt]
theorem c43 (rs : List Ru) (vars : Int) (ns : List Nd) (h : (rs.length : Int) ≤ 1048576) (hr : (rsum rs : Int) ≤ 1048576) (hn : (ns.length : Int) ≤ 1048576) :
    PC E 43 [.i (.sl (rs.map encR)), .i (.int .i64 vars), .i (.sl (ns.map encNd))]
      [.i (.bool ((decide ((rs.length : Int) ≤ 3000) && (inB vars 0 200 && rs.all fun x => rv x vars)) && (decide (ns.length ≤ 4000) && refB rs vars.toNat ns)))] := by
  refine PC_start hE Proofs.Try.func43 rfl rfl Proofs.Try.ntmps43 (by kernel_rfl) (by kernel_rfl) (by simp) ?_
  simp (maxSteps := 1000000) (disch := first | (exact DrawOk.mk (by decide +kernel)) | omega | simp) [wrap_i64, le_most, lt_omega, le_omega, ne_omega, allLen]
  refine CallK.of (c74 rs vars h hr) (by first | exact .inl rfl | exact .inr (by simp)) (by simp) ?_
  generalize hq : (decide ((rs.length : Int) ≤ 3000) && (inB vars 0 200 && rs.all fun x => rv x vars)) = q
  cases q
  · simp (maxSteps := 1000000) (disch := first | (exact DrawOk.mk (by decide +kernel)) | omega | simp) [wrap_i64, le_most, lt_omega, le_omega, ne_omega, allLen]
  · simp (maxSteps := 1000000) (disch := first | (exact DrawOk.mk (by decide +kernel)) | omega | simp) [wrap_i64, le_most, lt_omega, le_omega, ne_omega, allLen]
    by_cases h4 : ns.length ≤ 4000
    · have h5 : (ns.length : Int) ≤ 4000 := by omega
      simp only [Bool.and_eq_true, decide_eq_true_eq] at hq
      obtain ⟨h1, h2, h3⟩ := hq
      have h6 := (inB_iff ..).1 h2
      obtain ⟨k, rfl⟩ : ∃ k : Nat, vars = k := ⟨vars.toNat, by omega⟩
      simp (maxSteps := 1000000) (disch := first | (exact DrawOk.mk (by decide +kernel)) | omega | simp) [wrap_i64, le_most, lt_omega, le_omega, ne_omega, allLen, h5]
      refine CallK.of (c84 rs ⟨h, fun r hr' => by obtain ⟨j, hj, rfl⟩ := List.getElem_of_mem hr'; have := rsum_get hj; unfold Ru.sz at this; omega⟩ k (by omega) ns (by simpa using h3) h4) (by first | exact .inl rfl | exact .inr (by simp)) (by simp) ?_
      simp (maxSteps := 1000000) (disch := first | (exact DrawOk.mk (by decide +kernel)) | omega | simp) [wrap_i64, le_most, lt_omega, le_omega, ne_omega, allLen, h4]
    · have h5 : ¬ (ns.length : Int) ≤ 4000 := by omega
      simp (maxSteps := 1000000) (disch := first | (exact DrawOk.mk (by decide +kernel)) | omega | simp) [wrap_i64, le_most, lt_omega, le_omega, ne_omega, allLen, h5, h4]
/-- What the reference's reader makes of values and a place. -/
def RS (rs : List Ru) (ns : List Nd) : Nat → List Int → Nat → List Int × Nat × Bool
  | 0, vs, j => (vs, j, false)
  | m + 1, vs, j => if j < ns.length then
      (if (ns.getD j default).kind = 3 then (vs, j + 1, clB rs vs (ns.getD j default))
       else if (ns.getD j default).kind = 2 then
        (if (isRul rs (ns.getD j default) && (isFre vs (ns.getD j default) && unitB (ns.getD j default).value)) = false then (vs, j + 1, false)
         else if hol (ruAt rs (ns.getD j default).rule) (setV vs (ns.getD j default) (-(ns.getD j default).value)) < 0 then RS rs ns m (setV vs (ns.getD j default) (ns.getD j default).value) (j + 1)
         else (setV vs (ns.getD j default) (-(ns.getD j default).value), j + 1, false))
       else if (ns.getD j default).kind = 1 then
        (if (ns.getD j default).rule = 0 ∧ (ns.getD j default).value = 0 ∧ isFre vs (ns.getD j default) = true then
          (if (RS rs ns m (setV vs (ns.getD j default) 1) (j + 1)).2.2 = true then
            (vs, (RS rs ns m (setV vs (ns.getD j default) (-1)) (RS rs ns m (setV vs (ns.getD j default) 1) (j + 1)).2.1).2.1, (RS rs ns m (setV vs (ns.getD j default) (-1)) (RS rs ns m (setV vs (ns.getD j default) 1) (j + 1)).2.1).2.2)
           else (vs, (RS rs ns m (setV vs (ns.getD j default) 1) (j + 1)).2.1, false))
         else (vs, j + 1, false))
       else (vs, j + 1, false))
    else (vs, j, false)
/-- The step at a node. -/
theorem RS_step {rs : List Ru} {ns : List Nd} {m : Nat} {vs : List Int} {j : Nat} (h : j < ns.length) {n : Nd} (hn : ns[j] = n) : RS rs ns (m + 1) vs j =
      (if n.kind = 3 then (vs, j + 1, clB rs vs n)
       else if n.kind = 2 then
        (if (isRul rs n && (isFre vs n && unitB n.value)) = false then (vs, j + 1, false)
         else if hol (ruAt rs n.rule) (setV vs n (-n.value)) < 0 then RS rs ns m (setV vs n n.value) (j + 1)
         else (setV vs n (-n.value), j + 1, false))
       else if n.kind = 1 then
        (if n.rule = 0 ∧ n.value = 0 ∧ isFre vs n = true then
          (if (RS rs ns m (setV vs n 1) (j + 1)).2.2 = true then
            (vs, (RS rs ns m (setV vs n (-1)) (RS rs ns m (setV vs n 1) (j + 1)).2.1).2.1, (RS rs ns m (setV vs n (-1)) (RS rs ns m (setV vs n 1) (j + 1)).2.1).2.2)
           else (vs, (RS rs ns m (setV vs n 1) (j + 1)).2.1, false))
         else (vs, j + 1, false))
       else (vs, j + 1, false)) := by
  have e : ns.getD j default = n := by rw [List.getD_eq_getElem?_getD, List.getElem?_eq_getElem h]; exact hn
  rw [RS, if_pos h, e]
theorem RS_vals (rs : List Ru) (ns : List Nd) : ∀ (m : Nat) (vs : List Int) (j : Nat), (RS rs ns m vs j).1.length = vs.length
  | 0, vs, j => rfl
  | m + 1, vs, j => by
    by_cases h : j < ns.length
    · rw [RS_step h rfl]
      split
      · rfl
      · split
        · split
          · rfl
          · split
            · rw [RS_vals rs ns m]; simp [setV]
            · simp [setV]
        · split
          · split
            · split <;> rfl
            · rfl
          · rfl
    · rw [RS, if_neg h]
theorem RS_at (rs : List Ru) (ns : List Nd) : ∀ (m : Nat) (vs : List Int) (j : Nat), j ≤ ns.length → j ≤ (RS rs ns m vs j).2.1 ∧ (RS rs ns m vs j).2.1 ≤ ns.length
  | 0, vs, j, hj => ⟨Nat.le_refl _, hj⟩
  | m + 1, vs, j, hj => by
    by_cases h : j < ns.length
    · rw [RS_step h rfl]
      have h1 := RS_at rs ns m (setV vs ns[j] ns[j].value) (j + 1) h
      have h2 := RS_at rs ns m (setV vs ns[j] 1) (j + 1) h
      have h3 := RS_at rs ns m (setV vs ns[j] (-1)) (RS rs ns m (setV vs ns[j] 1) (j + 1)).2.1 h2.2
      split
      · exact ⟨Nat.le_succ _, h⟩
      · split
        · split
          · exact ⟨Nat.le_succ _, h⟩
          · split
            · omega
            · exact ⟨Nat.le_succ _, h⟩
        · split
          · split
            · split
              · exact ⟨by simp only; omega, by simp only; omega⟩
              · exact ⟨by simp only; omega, by simp only; omega⟩
            · exact ⟨Nat.le_succ _, h⟩
          · exact ⟨Nat.le_succ _, h⟩
    · rw [RS, if_neg h]
      exact ⟨Nat.le_refl _, hj⟩
/-- The nodes behind, if it is one. -/
def optS (ns : List Nd) (p : List Int × Nat × Bool) : Option (List Nd) := if p.2.2 = true then some (ns.drop p.2.1) else none
theorem RS_PF (rs : List Ru) (ns : List Nd) : ∀ (m : Nat) (vs : List Int) (j : Nat), j ≤ ns.length → ns.length ≤ j + m → PF rs m vs (ns.drop j) = optS ns (RS rs ns m vs j)
  | 0, vs, j, hj, hm => by simp [PF, RS, optS]
  | m + 1, vs, j, hj, hm => by
    by_cases h : j < ns.length
    · rw [RS_step h rfl, List.drop_eq_getElem_cons h]
      have e1 := RS_PF rs ns m (setV vs ns[j] ns[j].value) (j + 1) h (by omega)
      have e2 := RS_PF rs ns m (setV vs ns[j] 1) (j + 1) h (by omega)
      have h2 := RS_at rs ns m (setV vs ns[j] 1) (j + 1) h
      have e3 := RS_PF rs ns m (setV vs ns[j] (-1)) (RS rs ns m (setV vs ns[j] 1) (j + 1)).2.1 h2.2 (by omega)
      generalize ns[j] = n at *
      simp only [PF]
      by_cases k3 : n.kind = 3
      · rw [if_pos k3, if_pos k3]
        by_cases q : clB rs vs n = true
        · rw [if_pos (by simpa [clB, and_assoc] using q)]; simp [optS, q]
        · rw [if_neg (by simpa [clB, and_assoc] using q)]; simp [optS, q]
      · rw [if_neg k3, if_neg k3]
        by_cases hf : isFre vs n = false
        · rw [if_pos hf]
          by_cases k2 : n.kind = 2
          · have q : (isRul rs n && (isFre vs n && unitB n.value)) = false := by simp [hf]
            rw [if_pos k2, if_pos q]; rfl
          · rw [if_neg k2]
            by_cases k1 : n.kind = 1
            · have q : ¬ (n.rule = 0 ∧ n.value = 0 ∧ isFre vs n = true) := by simp [hf]
              rw [if_pos k1, if_neg q]; rfl
            · rw [if_neg k1]; rfl
        · rw [if_neg hf]
          have hf' : isFre vs n = true := by simpa using hf
          by_cases k2 : n.kind = 2
          · rw [if_pos k2, if_pos k2]
            by_cases q : (isRul rs n && (isFre vs n && unitB n.value)) = false
            · have w : ¬ (isRul rs n = true ∧ unitB n.value = true ∧ hol (ruAt rs n.rule) (setV vs n (-n.value)) < 0) := by
                intro w
                rw [w.1, hf', w.2.1] at q
                exact absurd q (by simp)
              rw [if_pos q, if_neg w]; rfl
            · rw [if_neg q]
              simp only [Bool.not_eq_false, Bool.and_eq_true] at q
              by_cases w : hol (ruAt rs n.rule) (setV vs n (-n.value)) < 0
              · rw [if_pos ⟨q.1, q.2.2, w⟩, if_pos w]; exact e1
              · have u : ¬ (isRul rs n = true ∧ unitB n.value = true ∧ hol (ruAt rs n.rule) (setV vs n (-n.value)) < 0) := fun u => w u.2.2
                rw [if_neg u, if_neg w]; rfl
          · rw [if_neg k2, if_neg k2]
            by_cases k1 : n.kind = 1
            · by_cases q : n.value = 0 ∧ n.rule = 0
              · rw [if_pos ⟨k1, q.1, q.2⟩, if_pos k1, if_pos ⟨q.2, q.1, hf'⟩, e2]
                by_cases q2 : (RS rs ns m (setV vs n 1) (j + 1)).2.2 = true
                · rw [if_pos q2, optS, if_pos q2]
                  exact e3
                · rw [if_neg q2, optS, if_neg q2]; rfl
              · have u : ¬ (n.kind = 1 ∧ n.value = 0 ∧ n.rule = 0) := fun u => q u.2
                have v : ¬ (n.rule = 0 ∧ n.value = 0 ∧ isFre vs n = true) := fun u => q ⟨u.2.1, u.1⟩
                rw [if_neg u, if_pos k1, if_neg v]; rfl
            · have u : ¬ (n.kind = 1 ∧ n.value = 0 ∧ n.rule = 0) := fun u => k1 u.1
              rw [if_neg u, if_neg k1]; rfl
    · rw [RS, if_neg h, List.drop_eq_nil_of_le (by omega)]; rfl
end Go.Vai
/- Refutations: the reference's reader. -/
set_option linter.unusedVariables false
set_option linter.unusedSimpArgs false
set_option maxHeartbeats 4000000
namespace Go.Vai
theorem c73' (x : Ru) (vs : List Int) (hx : RFit x vs) (hr : rv x vs.length = true) (h : (x.vars.length : Int) ≤ 1048576) : PC E 73 [.i (.ptr (encR x)), .i (.sl (vs.map encI))] [.i (.int .i64 (hol x vs))] := by
  simp only [rv, Bool.and_eq_true, decide_eq_true_eq] at hr
  have e := hol_eq' hx hr.1 hr.2.1
  unfold hol
  rw [← e]
  exact c73 x vs hx h
theorem c66 (ls : List Int) (h : (ls.length : Int) ≤ 1048576) : PC E 66 [.i (.sl (ls.map encI))] [.own 1 (ls.map encI)] := by
  refine PC_start hE Proofs.Try.func66 rfl rfl Proofs.Try.ntmps66 (by kernel_rfl) (by kernel_rfl) (by simp) ?_
  simp (maxSteps := 1000000) (disch := first | (exact DrawOk.mk (by decide +kernel)) | omega | simp) [wrap_i64, le_most, lt_omega, le_omega, ne_omega, allLen]
theorem RS_end {rs : List Ru} {ns : List Nd} {q : Nat} {ws : List Int} {i : Nat} (h : ¬ i < ns.length) : RS rs ns q ws i = (ws, i, false) := by
  cases q with
  | zero => rfl
  | succ q => rw [RS, if_neg h]
theorem c82 (rs : List Ru) (hz : Rsz rs) (ns : List Nd) (hn : (ns.length : Int) ≤ 1048576) : ∀ (m : Nat) (vs : List Int) (j : Nat), Vf rs vs → j ≤ ns.length → ns.length ≤ j + m → (vs.length : Int) ≤ 1048576 →
    PM E 82 [.pt ⟨3, [[.sl (rs.map encR), .sl (ns.map encNd), .int .i64 j]]⟩, .sl ⟨1, vs.map encI⟩]
      [⟨3, [[.sl (rs.map encR), .sl (ns.map encNd), .int .i64 (RS rs ns m vs j).2.1]]⟩, ⟨1, (RS rs ns m vs j).1.map encI⟩] [.i (.bool (RS rs ns m vs j).2.2)] := by
  intro m
  induction m using Nat.strongRecOn with
  | ind m ih =>
    intro vs j hv hj hm hl
    have hrl := hz.len
    have hR0 := RS_vals rs ns m vs j
    generalize hR : RS rs ns m vs j = R at hR0
    refine PM_start hE Proofs.Try.func82 rfl rfl Proofs.Try.ntmps82 (by kernel_rfl) (by kernel_rfl) (by simp) (by simp [hR0]) ?_
    simp (maxSteps := 1000000) (disch := first | (exact DrawOk.mk (by decide +kernel)) | omega | simp) [wrap_i64, le_most, lt_omega, le_omega, ne_omega, allLen]
    refine XL.by hE (ι := { p : List Int × Nat × Nat // RS rs ns p.2.2 p.1 p.2.1 = R ∧ p.2.2 ≤ m ∧ ns.length ≤ p.2.1 + p.2.2 ∧ p.2.1 ≤ ns.length ∧ Vf rs p.1 ∧ p.1.length = vs.length })
      (fun p => ⟨[(0, .ptr 700000 0 0), (1, .own 700001 0 p.1.1.length)], [(700000, ⟨3, [[.sl (rs.map encR), .sl (ns.map encNd), .int .i64 (p.1.2.1 : Nat)]]⟩), (700001, ⟨1, p.1.1.map encI⟩)]⟩)
      (fun p => ns.length - p.1.2.1) ⟨(vs, j, m), hR, Nat.le_refl _, hm, hj, hv, rfl⟩ ⟨by simp, by simp, by simp⟩ (by kernel_rfl) ?_
    rintro ⟨⟨ws, i, q⟩, hQ, hq, hm2, hi, hw, hwl⟩
    dsimp only at hQ hq hm2 hi hw hwl
    have hl2 : (ws.length : Int) ≤ 1048576 := by omega
    by_cases hlt : i < ns.length
    · obtain ⟨q, rfl⟩ : ∃ q', q = q' + 1 := ⟨q - 1, by omega⟩
      rcases en : ns[i] with ⟨nk, nv, nw, nr⟩
      rw [RS_step hlt en] at hQ
      dsimp only at hQ
      simp (maxSteps := 1000000) (disch := first | (exact DrawOk.mk (by decide +kernel)) | omega | simp) [wrap_i64, le_most, lt_omega, le_omega, ne_omega, allLen, hlt, en, encNd]
      (first | refine Gd.dec (fun k3 => ?_) (fun k3 => ?_) | refine Gd.intro (fun k3 => ?_) (fun k3 => ?_)) <;> simp (maxSteps := 1000000) (disch := first | (exact DrawOk.mk (by decide +kernel)) | omega | simp) [wrap_i64, le_most, lt_omega, le_omega, ne_omega, allLen, k3]
      · subst k3
        rw [if_pos rfl] at hQ
        by_cases w1 : nv = 0
        · by_cases w2 : nw = 0
          · simp (maxSteps := 1000000) (disch := first | (exact DrawOk.mk (by decide +kernel)) | omega | simp) [wrap_i64, le_most, lt_omega, le_omega, ne_omega, allLen, w1, w2]
            refine CallK.of (c93 _ _ _) (by first | exact .inl rfl | exact .inr (by simp)) (by simp) ?_
            generalize hr : inB nr 0 ((rs.length : Int) - 1) = br
            cases br
            · have e2 : clB rs ws ⟨3, 0, 0, nr⟩ = false := by simp [clB, isRul, hr]
              subst w1; subst w2
              rw [e2] at hQ
              subst hQ
              simp (maxSteps := 1000000) (disch := first | (exact DrawOk.mk (by decide +kernel)) | omega | simp) [wrap_i64, le_most, lt_omega, le_omega, ne_omega, allLen]
            · obtain ⟨b, rfl, hb2⟩ := in_nat hr
              have hm3 : rs[b] ∈ rs := List.getElem_mem _
              subst w1; subst w2
              have e2 : clB rs ws ⟨3, 0, 0, (b : Int)⟩ = decide (hol rs[b] ws < 0) := by simp [clB, isRul, hr, ruAt_nat hb2]
              rw [e2] at hQ
              subst hQ
              simp (maxSteps := 1000000) (disch := first | (exact DrawOk.mk (by decide +kernel)) | omega | simp) [wrap_i64, le_most, lt_omega, le_omega, ne_omega, allLen, hb2]
              refine CallK.of (c73' rs[b] ws (hw.fit hm3) (hw.rules _ hm3) (hz.vars _ hm3)) (by first | exact .inl rfl | exact .inr (by simp)) (by simp) ?_
              simp (maxSteps := 1000000) (disch := first | (exact DrawOk.mk (by decide +kernel)) | omega | simp) [wrap_i64, le_most, lt_omega, le_omega, ne_omega, allLen]
          · have e2 : clB rs ws ⟨3, nv, nw, nr⟩ = false := by simp [clB, w2]
            rw [e2] at hQ
            subst hQ
            simp (maxSteps := 1000000) (disch := first | (exact DrawOk.mk (by decide +kernel)) | omega | simp) [wrap_i64, le_most, lt_omega, le_omega, ne_omega, allLen, w1, w2]
        · have e2 : clB rs ws ⟨3, nv, nw, nr⟩ = false := by simp [clB, w1]
          rw [e2] at hQ
          subst hQ
          simp (maxSteps := 1000000) (disch := first | (exact DrawOk.mk (by decide +kernel)) | omega | simp) [wrap_i64, le_most, lt_omega, le_omega, ne_omega, allLen, w1]
      · rw [if_neg k3] at hQ
        (first | refine Gd.dec (fun k2 => ?_) (fun k2 => ?_) | refine Gd.intro (fun k2 => ?_) (fun k2 => ?_)) <;> simp (maxSteps := 1000000) (disch := first | (exact DrawOk.mk (by decide +kernel)) | omega | simp) [wrap_i64, le_most, lt_omega, le_omega, ne_omega, allLen, k2]
        · rw [if_pos k2] at hQ
          refine CallK.of (c93 _ _ _) (by first | exact .inl rfl | exact .inr (by simp)) (by simp) ?_
          generalize hr : inB nr 0 ((rs.length : Int) - 1) = br
          cases br
          · rw [if_pos (show _ = false from by simp [isRul, hr])] at hQ
            subst hQ
            simp (maxSteps := 1000000) (disch := first | (exact DrawOk.mk (by decide +kernel)) | omega | simp) [wrap_i64, le_most, lt_omega, le_omega, ne_omega, allLen]
          · obtain ⟨b, rfl, hb2⟩ := in_nat hr
            have hm3 : rs[b] ∈ rs := List.getElem_mem _
            simp (maxSteps := 1000000) (disch := first | (exact DrawOk.mk (by decide +kernel)) | omega | simp) [wrap_i64, le_most, lt_omega, le_omega, ne_omega, allLen]
            refine CallK.of (c93 _ _ _) (by first | exact .inl rfl | exact .inr (by simp)) (by simp) ?_
            generalize hb : inB nv 0 ((ws.length : Int) - 1) = bv
            cases bv
            · rw [if_pos (show _ = false from by simp [isFre, hb])] at hQ
              subst hQ
              simp (maxSteps := 1000000) (disch := first | (exact DrawOk.mk (by decide +kernel)) | omega | simp) [wrap_i64, le_most, lt_omega, le_omega, ne_omega, allLen]
            · obtain ⟨a, rfl, ha⟩ := in_nat hb
              by_cases h0 : ws[a] = 0
              · by_cases hu : nw = 1 ∨ nw = -1
                · rcases hu with rfl | rfl
                  · subst k2
                    have ef : isFre ws ⟨2, a, 1, b⟩ = true := by
                      simp only [isFre, Bool.and_eq_true, decide_eq_true_eq]
                      exact ⟨hb, by rw [getD_nat ha]; exact h0⟩
                    rw [if_neg (show ¬ (_ = false) from by simp [isRul, ef, hr, unitB])] at hQ
                    have eh : hol (ruAt rs (b : Int)) (setV ws ⟨2, a, 1, b⟩ (-1)) = hol rs[b] (ws.set a (-1)) := by rw [ruAt_nat hb2]; rfl
                    have s1 := set_enc ws a (-1)
                    have s2 : ((ws.set a (-1)).map encI).set a [.int .i64 1] = (ws.set a 1).map encI := by rw [set_enc]; simp
                    have s3 : ((ws.set a (-1)).map encI).take ws.length = (ws.set a (-1)).map encI := by rw [List.take_of_length_le (by simp)]
                    have hf := hw.set ⟨2, a, 1, b⟩ (x := (-1)) (by omega)
                    simp (maxSteps := 1000000) (disch := first | (exact DrawOk.mk (by decide +kernel)) | omega | simp) [wrap_i64, le_most, lt_omega, le_omega, ne_omega, allLen, h0, ha, hb2, encI, s1, s3, -List.map_set]
                    refine CallK.of (c73' rs[b] (ws.set a (-1)) (hf.fit hm3) (hf.rules _ hm3) (hz.vars _ hm3)) (by first | exact .inl rfl | exact .inr (by simp)) (by simp) ?_
                    rw [eh] at hQ
                    by_cases h5 : hol rs[b] (ws.set a (-1)) < 0
                    · have h6 : ¬ 0 ≤ hol rs[b] (ws.set a (-1)) := by omega
                      rw [if_pos h5] at hQ
                      simp (maxSteps := 1000000) (disch := first | (exact DrawOk.mk (by decide +kernel)) | omega | simp) [wrap_i64, le_most, lt_omega, le_omega, ne_omega, allLen, h6, ha, encI, s2, -List.map_set]
                      (refine ⟨⟨(ws.set a 1, i + 1, q), hQ, (show q ≤ m by omega), (show ns.length ≤ i + 1 + q by omega), hlt, hw.set ⟨2, a, 1, b⟩ (x := 1) (by omega), by simpa using hwl⟩, by (simp; try omega), ?_⟩; constructor <;> (simp (maxSteps := 1000000) (disch := first | (exact DrawOk.mk (by decide +kernel)) | omega | simp) [wrap_i64, le_most, lt_omega, le_omega, ne_omega, allLen, s2, -List.map_set]) <;> (try omega))
                    · have h6 : 0 ≤ hol rs[b] (ws.set a (-1)) := by omega
                      rw [if_neg h5] at hQ
                      subst hQ
                      simp (maxSteps := 1000000) (disch := first | (exact DrawOk.mk (by decide +kernel)) | omega | simp) [wrap_i64, le_most, lt_omega, le_omega, ne_omega, allLen, h6, setV, -List.map_set]
                  · subst k2
                    have ef : isFre ws ⟨2, a, (-1), b⟩ = true := by
                      simp only [isFre, Bool.and_eq_true, decide_eq_true_eq]
                      exact ⟨hb, by rw [getD_nat ha]; exact h0⟩
                    rw [if_neg (show ¬ (_ = false) from by simp [isRul, ef, hr, unitB])] at hQ
                    have eh : hol (ruAt rs (b : Int)) (setV ws ⟨2, a, (-1), b⟩ (-(-1))) = hol rs[b] (ws.set a 1) := by rw [ruAt_nat hb2]; rfl
                    have s1 := set_enc ws a 1
                    have s2 : ((ws.set a 1).map encI).set a [.int .i64 (-1)] = (ws.set a (-1)).map encI := by rw [set_enc]; simp
                    have s3 : ((ws.set a 1).map encI).take ws.length = (ws.set a 1).map encI := by rw [List.take_of_length_le (by simp)]
                    have hf := hw.set ⟨2, a, (-1), b⟩ (x := 1) (by omega)
                    simp (maxSteps := 1000000) (disch := first | (exact DrawOk.mk (by decide +kernel)) | omega | simp) [wrap_i64, le_most, lt_omega, le_omega, ne_omega, allLen, h0, ha, hb2, encI, s1, s3, -List.map_set]
                    refine CallK.of (c73' rs[b] (ws.set a 1) (hf.fit hm3) (hf.rules _ hm3) (hz.vars _ hm3)) (by first | exact .inl rfl | exact .inr (by simp)) (by simp) ?_
                    rw [eh] at hQ
                    by_cases h5 : hol rs[b] (ws.set a 1) < 0
                    · have h6 : ¬ 0 ≤ hol rs[b] (ws.set a 1) := by omega
                      rw [if_pos h5] at hQ
                      simp (maxSteps := 1000000) (disch := first | (exact DrawOk.mk (by decide +kernel)) | omega | simp) [wrap_i64, le_most, lt_omega, le_omega, ne_omega, allLen, h6, ha, encI, s2, -List.map_set]
                      (refine ⟨⟨(ws.set a (-1), i + 1, q), hQ, (show q ≤ m by omega), (show ns.length ≤ i + 1 + q by omega), hlt, hw.set ⟨2, a, (-1), b⟩ (x := (-1)) (by omega), by simpa using hwl⟩, by (simp; try omega), ?_⟩; constructor <;> (simp (maxSteps := 1000000) (disch := first | (exact DrawOk.mk (by decide +kernel)) | omega | simp) [wrap_i64, le_most, lt_omega, le_omega, ne_omega, allLen, s2, -List.map_set]) <;> (try omega))
                    · have h6 : 0 ≤ hol rs[b] (ws.set a 1) := by omega
                      rw [if_neg h5] at hQ
                      subst hQ
                      simp (maxSteps := 1000000) (disch := first | (exact DrawOk.mk (by decide +kernel)) | omega | simp) [wrap_i64, le_most, lt_omega, le_omega, ne_omega, allLen, h6, setV, -List.map_set]
                · have hu2 : unitB nw = false := by simp [unitB]; omega
                  have hu3 : ¬ nw = 1 := fun e => hu (.inl e)
                  have hu4 : ¬ nw = -1 := fun e => hu (.inr e)
                  rw [if_pos (show _ = false from by simp [hu2])] at hQ
                  subst hQ
                  simp (maxSteps := 1000000) (disch := first | (exact DrawOk.mk (by decide +kernel)) | omega | simp) [wrap_i64, le_most, lt_omega, le_omega, ne_omega, allLen, h0, ha, encI, hu3, hu4]
              · have ef : isFre ws ⟨nk, a, nw, b⟩ = false := by simp only [isFre, getD_nat ha, h0, decide_false, Bool.and_false]
                rw [if_pos (show _ = false from by simp [ef])] at hQ
                subst hQ
                simp (maxSteps := 1000000) (disch := first | (exact DrawOk.mk (by decide +kernel)) | omega | simp) [wrap_i64, le_most, lt_omega, le_omega, ne_omega, allLen, h0, ha, encI]
        · rw [if_neg k2] at hQ
          (first | refine Gd.dec (fun k1 => ?_) (fun k1 => ?_) | refine Gd.intro (fun k1 => ?_) (fun k1 => ?_)) <;> simp (maxSteps := 1000000) (disch := first | (exact DrawOk.mk (by decide +kernel)) | omega | simp) [wrap_i64, le_most, lt_omega, le_omega, ne_omega, allLen, k1]
          · rw [if_pos k1] at hQ
            subst k1
            by_cases w3 : nr = 0
            · by_cases w2 : nw = 0
              · subst w3; subst w2
                simp (maxSteps := 1000000) (disch := first | (exact DrawOk.mk (by decide +kernel)) | omega | simp) [wrap_i64, le_most, lt_omega, le_omega, ne_omega, allLen]
                refine CallK.of (c93 _ _ _) (by first | exact .inl rfl | exact .inr (by simp)) (by simp) ?_
                generalize hb : inB nv 0 ((ws.length : Int) - 1) = bv
                cases bv
                · rw [if_neg (show ¬ _ from by simp [isFre, hb])] at hQ
                  subst hQ
                  simp (maxSteps := 1000000) (disch := first | (exact DrawOk.mk (by decide +kernel)) | omega | simp) [wrap_i64, le_most, lt_omega, le_omega, ne_omega, allLen]
                · obtain ⟨a, rfl, ha⟩ := in_nat hb
                  by_cases h0 : ws[a] = 0
                  · have ef : isFre ws ⟨1, a, 0, 0⟩ = true := by
                      simp only [isFre, Bool.and_eq_true, decide_eq_true_eq]
                      exact ⟨hb, by rw [getD_nat ha]; exact h0⟩
                    rw [if_pos ⟨rfl, rfl, ef⟩] at hQ
                    simp (maxSteps := 1000000) (disch := first | (exact DrawOk.mk (by decide +kernel)) | omega | simp) [wrap_i64, le_most, lt_omega, le_omega, ne_omega, allLen, h0, ha, encI]
                    have pA := ih q (by omega) (ws.set a 1) (i + 1) (hw.set ⟨1, a, 0, 0⟩ (x := 1) (by omega)) hlt (by omega) (by simpa using hl2)
                    have lA := RS_at rs ns q (ws.set a 1) (i + 1) hlt
                    have qA : setV ws ⟨1, a, 0, 0⟩ 1 = ws.set a 1 := rfl
                    have qB : setV ws ⟨1, a, 0, 0⟩ (-1) = ws.set a (-1) := rfl
                    rw [qA, qB] at hQ
                    generalize RS rs ns q (ws.set a 1) (i + 1) = A at pA lA hQ
                    have pB := ih q (by omega) (ws.set a (-1)) A.2.1 (hw.set ⟨1, a, 0, 0⟩ (x := -1) (by omega)) lA.2 (by omega) (by simpa using hl2)
                    generalize RS rs ns q (ws.set a (-1)) A.2.1 = B at pB hQ
                    have s1 := set_enc ws a 1
                    have s2 := set_enc ws a (-1)
                    refine XL.by hE (ι := { k : Nat // k = 0 ∨ (k = 1 ∧ A.2.2 = true) ∨ (k = 2 ∧ A.2.2 = true ∧ B.2.2 = true) }) (fun k => ⟨[(0, .ptr 700000 0 0), (1, .own 700001 0 ws.length), (5, .ptr 5 0 0), (6, .i (.int .i64 (1 - 2 * (k.1 : Int))))],
                      [(700000, ⟨3, [[.sl (rs.map encR), .sl (ns.map encNd), .int .i64 ((if k.1 = 0 then i + 1 else if k.1 = 1 then A.2.1 else B.2.1 : Nat) : Int)]]⟩), (700001, ⟨1, ws.map encI⟩), (5, ⟨4, [[.int .i64 1, .int .i64 a, .int .i64 0, .int .i64 0]]⟩)]⟩) (fun k => 2 - k.1) ⟨0, .inl rfl⟩ ⟨by simp, by simp, by simp⟩ (by kernel_rfl) ?_
                    rintro ⟨k, hk⟩
                    rcases hk with rfl | ⟨rfl, hA⟩ | ⟨rfl, hA, hB⟩
                    · simp (maxSteps := 1000000) (disch := first | (exact DrawOk.mk (by decide +kernel)) | omega | simp) [wrap_i64, le_most, lt_omega, le_omega, ne_omega, allLen]
                      refine CallK.of (c66 ws hl2) (by first | exact .inl rfl | exact .inr (by simp)) (by simp) ?_
                      simp (maxSteps := 1000000) (disch := first | (exact DrawOk.mk (by decide +kernel)) | omega | simp) [wrap_i64, le_most, lt_omega, le_omega, ne_omega, allLen, ha, encI, s1, -List.map_set]
                      refine MutK.of (pA) (by simp) (by simp) (by simp) (by simp) (by simp) ?_
                      simp (maxSteps := 1000000) (disch := first | (exact DrawOk.mk (by decide +kernel)) | omega | simp) [wrap_i64, le_most, lt_omega, le_omega, ne_omega, allLen]
                      (first | refine Gd.dec (fun hA => ?_) (fun hA => ?_) | refine Gd.intro (fun hA => ?_) (fun hA => ?_)) <;> simp (maxSteps := 1000000) (disch := first | (exact DrawOk.mk (by decide +kernel)) | omega | simp) [wrap_i64, le_most, lt_omega, le_omega, ne_omega, allLen, hA]
                      · (refine ⟨⟨1, .inr (.inl ⟨rfl, hA⟩)⟩, by (simp; try omega), ?_⟩; constructor <;> (simp (maxSteps := 1000000) (disch := first | (exact DrawOk.mk (by decide +kernel)) | omega | simp) [wrap_i64, le_most, lt_omega, le_omega, ne_omega, allLen]) <;> (try omega))
                      · rw [if_neg (by simp [hA])] at hQ
                        subst hQ
                        simp (maxSteps := 1000000) (disch := first | (exact DrawOk.mk (by decide +kernel)) | omega | simp) [wrap_i64, le_most, lt_omega, le_omega, ne_omega, allLen]
                    · simp (maxSteps := 1000000) (disch := first | (exact DrawOk.mk (by decide +kernel)) | omega | simp) [wrap_i64, le_most, lt_omega, le_omega, ne_omega, allLen]
                      refine CallK.of (c66 ws hl2) (by first | exact .inl rfl | exact .inr (by simp)) (by simp) ?_
                      simp (maxSteps := 1000000) (disch := first | (exact DrawOk.mk (by decide +kernel)) | omega | simp) [wrap_i64, le_most, lt_omega, le_omega, ne_omega, allLen, ha, encI, s2, -List.map_set]
                      refine MutK.of (pB) (by simp) (by simp) (by simp) (by simp) (by simp) ?_
                      simp (maxSteps := 1000000) (disch := first | (exact DrawOk.mk (by decide +kernel)) | omega | simp) [wrap_i64, le_most, lt_omega, le_omega, ne_omega, allLen]
                      rw [if_pos hA] at hQ
                      (first | refine Gd.dec (fun hB => ?_) (fun hB => ?_) | refine Gd.intro (fun hB => ?_) (fun hB => ?_)) <;> simp (maxSteps := 1000000) (disch := first | (exact DrawOk.mk (by decide +kernel)) | omega | simp) [wrap_i64, le_most, lt_omega, le_omega, ne_omega, allLen, hB]
                      · (refine ⟨⟨2, .inr (.inr ⟨rfl, hA, hB⟩)⟩, by (simp; try omega), ?_⟩; constructor <;> (simp (maxSteps := 1000000) (disch := first | (exact DrawOk.mk (by decide +kernel)) | omega | simp) [wrap_i64, le_most, lt_omega, le_omega, ne_omega, allLen]) <;> (try omega))
                      · subst hQ
                        simp (maxSteps := 1000000) (disch := first | (exact DrawOk.mk (by decide +kernel)) | omega | simp) [wrap_i64, le_most, lt_omega, le_omega, ne_omega, allLen, hB]
                    · rw [if_pos hA] at hQ
                      subst hQ
                      simp (maxSteps := 1000000) (disch := first | (exact DrawOk.mk (by decide +kernel)) | omega | simp) [wrap_i64, le_most, lt_omega, le_omega, ne_omega, allLen, hA, hB]
                  · have ef : isFre ws ⟨1, a, 0, 0⟩ = false := by simp only [isFre, getD_nat ha, h0, decide_false, Bool.and_false]
                    rw [if_neg (show ¬ _ from by simp [ef])] at hQ
                    subst hQ
                    simp (maxSteps := 1000000) (disch := first | (exact DrawOk.mk (by decide +kernel)) | omega | simp) [wrap_i64, le_most, lt_omega, le_omega, ne_omega, allLen, h0, ha, encI]
              · rw [if_neg (show ¬ _ from by simp [w2])] at hQ
                subst hQ
                simp (maxSteps := 1000000) (disch := first | (exact DrawOk.mk (by decide +kernel)) | omega | simp) [wrap_i64, le_most, lt_omega, le_omega, ne_omega, allLen, w3, w2]
            · rw [if_neg (show ¬ _ from by simp [w3])] at hQ
              subst hQ
              simp (maxSteps := 1000000) (disch := first | (exact DrawOk.mk (by decide +kernel)) | omega | simp) [wrap_i64, le_most, lt_omega, le_omega, ne_omega, allLen, w3]
          · rw [if_neg k1] at hQ
            subst hQ
            simp (maxSteps := 1000000) (disch := first | (exact DrawOk.mk (by decide +kernel)) | omega | simp) [wrap_i64, le_most, lt_omega, le_omega, ne_omega, allLen]
    · rw [RS_end hlt] at hQ
      subst hQ
      simp (maxSteps := 1000000) (disch := first | (exact DrawOk.mk (by decide +kernel)) | omega | simp) [wrap_i64, le_most, lt_omega, le_omega, ne_omega, allLen, hlt]
end Go.Vai
/- Refutations: both checks, and the law. -/
set_option linter.unusedVariables false
set_option linter.unusedSimpArgs false
set_option maxHeartbeats 4000000
namespace Go.Vai
theorem refB_spec (rs : List Ru) (k : Nat) (ns : List Nd) : refB rs k ns = ((RS rs ns ns.length (List.replicate k 0) 0).2.2 && decide (((RS rs ns ns.length (List.replicate k 0) 0).2.1 : Int) = (ns.length : Int))) := by
  have h := RS_PF rs ns ns.length (List.replicate k 0) 0 (Nat.zero_le _) (by omega)
  have h2 := RS_at rs ns ns.length (List.replicate k 0) 0 (Nat.zero_le _)
  rw [List.drop_zero] at h
  unfold refB
  rw [h]
  generalize RS rs ns ns.length (List.replicate k 0) 0 = A at h2
  obtain ⟨A1, A2, b⟩ := A
  cases b
  · simp [optS]
  · simp only at h2
    simp [optS, List.drop_eq_nil_iff]
    omega
theorem c41 (rs : List Ru) (vars : Int) (ns : List Nd) (h : (rs.length : Int) ≤ 1048576) (hr : (rsum rs : Int) ≤ 1048576) (hn : (ns.length : Int) ≤ 1048576) :
    PC E 41 [.i (.sl (rs.map encR)), .i (.int .i64 vars), .i (.sl (ns.map encNd))]
      [.i (.bool ((decide ((rs.length : Int) ≤ 3000) && (inB vars 0 200 && rs.all fun x => rv x vars)) && (decide (ns.length ≤ 4000) && refB rs vars.toNat ns)))] := by
  refine PC_start hE Proofs.Try.func41 rfl rfl Proofs.Try.ntmps41 (by kernel_rfl) (by kernel_rfl) (by simp) ?_
  simp (maxSteps := 1000000) (disch := first | (exact DrawOk.mk (by decide +kernel)) | omega | simp) [wrap_i64, le_most, lt_omega, le_omega, ne_omega, allLen]
  refine CallK.of (c72 rs vars h hr) (by first | exact .inl rfl | exact .inr (by simp)) (by simp) ?_
  generalize hq : (decide ((rs.length : Int) ≤ 3000) && (inB vars 0 200 && rs.all fun x => rv x vars)) = q
  cases q
  · simp (maxSteps := 1000000) (disch := first | (exact DrawOk.mk (by decide +kernel)) | omega | simp) [wrap_i64, le_most, lt_omega, le_omega, ne_omega, allLen]
  · by_cases h4 : ns.length ≤ 4000
    · have h5 : ¬ (4000 : Int) < (ns.length : Int) := by omega
      simp only [Bool.and_eq_true, decide_eq_true_eq] at hq
      obtain ⟨h1, h2, h3⟩ := hq
      have h6 := (inB_iff ..).1 h2
      obtain ⟨k, rfl⟩ : ∃ k : Nat, vars = k := ⟨vars.toNat, by omega⟩
      have hz : Rsz rs := ⟨h, fun r hr' => by obtain ⟨j, hj, rfl⟩ := List.getElem_of_mem hr'; have := rsum_get hj; unfold Ru.sz at this; omega⟩
      have p := c82 rs hz ns hn ns.length (List.replicate k 0) 0 (Vf.zero (by simpa using h3)) (Nat.zero_le _) (by omega) (by simp; omega)
      have q := refB_spec rs k ns
      generalize RS rs ns ns.length (List.replicate k 0) 0 = A at p q
      have z := zeros k
      obtain ⟨A1, A2, b⟩ := A
      simp (maxSteps := 1000000) (disch := first | (exact DrawOk.mk (by decide +kernel)) | omega | simp) [wrap_i64, le_most, lt_omega, le_omega, ne_omega, allLen, h5, z, -List.map_replicate]
      refine MutK.of (p) (by simp) (by simp) (by simp) (by simp) (by simp) ?_
      cases b
      · simp (maxSteps := 1000000) (disch := first | (exact DrawOk.mk (by decide +kernel)) | omega | simp) [wrap_i64, le_most, lt_omega, le_omega, ne_omega, allLen, h4, q]
      · simp (maxSteps := 1000000) (disch := first | (exact DrawOk.mk (by decide +kernel)) | omega | simp) [wrap_i64, le_most, lt_omega, le_omega, ne_omega, allLen, h4, q]
    · have h5 : (4000 : Int) < (ns.length : Int) := by omega
      simp (maxSteps := 1000000) (disch := first | (exact DrawOk.mk (by decide +kernel)) | omega | simp) [wrap_i64, le_most, lt_omega, le_omega, ne_omega, allLen, h5, h4]
theorem c8 (rs : List Ru) (vars : Int) (ns : List Nd) (h : rs.length ≤ maxLen) (hf : ∀ x ∈ rs, x.fine) (hn : ns.length ≤ maxLen) :
    PC E 8 [.i (.sl (rs.map encR)), .i (.int .i64 vars), .i (.sl (ns.map encNd))] [.i (.bool true)] := by
  have m : maxLen = 9223372036854775807 := by decide
  refine PC_start hE Proofs.Try.func8 rfl rfl Proofs.Try.ntmps8 (by kernel_rfl) (by kernel_rfl) (by simp) ?_
  simp (maxSteps := 1000000) (disch := first | (exact DrawOk.mk (by decide +kernel)) | omega | simp) [wrap_i64, le_most, lt_omega, le_omega, ne_omega, allLen]
  refine CallK.of (c27 rs 1048576 (by omega) (by omega) h hf) (by first | exact .inl rfl | exact .inr (by simp)) (by simp) ?_
  simp (maxSteps := 1000000) (disch := first | (exact DrawOk.mk (by decide +kernel)) | omega | simp) [wrap_i64, le_most, lt_omega, le_omega, ne_omega, allLen]
  (first | refine Gd.dec (fun h1 => ?_) (fun h1 => ?_) | refine Gd.intro (fun h1 => ?_) (fun h1 => ?_)) <;> simp (maxSteps := 1000000) (disch := first | (exact DrawOk.mk (by decide +kernel)) | omega | simp) [wrap_i64, le_most, lt_omega, le_omega, ne_omega, allLen, h1]
  have h2 : ¬ (1048576 : Int) - rs.length - rsum rs < 0 := by split at h1 <;> omega
  have g1 : (rs.length : Int) ≤ 1048576 := by omega
  have g2 : (rsum rs : Int) ≤ 1048576 := by omega
  rw [if_neg h2]
  refine CallK.of (c40 ns _ (by omega) (by omega) (by omega)) (by first | exact .inl rfl | exact .inr (by simp)) (by simp) ?_
  simp (maxSteps := 1000000) (disch := first | (exact DrawOk.mk (by decide +kernel)) | omega | simp) [wrap_i64, le_most, lt_omega, le_omega, ne_omega, allLen]
  (first | refine Gd.dec (fun h3 => ?_) (fun h3 => ?_) | refine Gd.intro (fun h3 => ?_) (fun h3 => ?_)) <;> simp (maxSteps := 1000000) (disch := first | (exact DrawOk.mk (by decide +kernel)) | omega | simp) [wrap_i64, le_most, lt_omega, le_omega, ne_omega, allLen, h3]
  have h4 : ¬ (1048576 : Int) - rs.length - rsum rs - ns.length < 0 := by split at h3 <;> omega
  have g3 : (ns.length : Int) ≤ 1048576 := by omega
  clear h1 h2 h3 h4
  refine CallK.of (c29 rs g1 g2) (by first | exact .inl rfl | exact .inr (by simp)) (by simp) ?_
  simp (maxSteps := 1000000) (disch := first | (exact DrawOk.mk (by decide +kernel)) | omega | simp) [wrap_i64, le_most, lt_omega, le_omega, ne_omega, allLen]
  refine CallK.of (c42 ns g3) (by first | exact .inl rfl | exact .inr (by simp)) (by simp) ?_
  simp (maxSteps := 1000000) (disch := first | (exact DrawOk.mk (by decide +kernel)) | omega | simp) [wrap_i64, le_most, lt_omega, le_omega, ne_omega, allLen]
  refine CallK.of (c41 rs vars ns g1 g2 g3) (by first | exact .inl rfl | exact .inr (by simp)) (by simp) ?_
  simp (maxSteps := 1000000) (disch := first | (exact DrawOk.mk (by decide +kernel)) | omega | simp) [wrap_i64, le_most, lt_omega, le_omega, ne_omega, allLen]
  refine CallK.of (c29 rs g1 g2) (by first | exact .inl rfl | exact .inr (by simp)) (by simp) ?_
  simp (maxSteps := 1000000) (disch := first | (exact DrawOk.mk (by decide +kernel)) | omega | simp) [wrap_i64, le_most, lt_omega, le_omega, ne_omega, allLen]
  refine CallK.of (c42 ns g3) (by first | exact .inl rfl | exact .inr (by simp)) (by simp) ?_
  simp (maxSteps := 1000000) (disch := first | (exact DrawOk.mk (by decide +kernel)) | omega | simp) [wrap_i64, le_most, lt_omega, le_omega, ne_omega, allLen]
  refine CallK.of (c43 rs vars ns g1 g2 g3) (by first | exact .inl rfl | exact .inr (by simp)) (by simp) ?_
  simp (maxSteps := 1000000) (disch := first | (exact DrawOk.mk (by decide +kernel)) | omega | simp) [wrap_i64, le_most, lt_omega, le_omega, ne_omega, allLen]
  refine CallK.of (c29 rs g1 g2) (by first | exact .inl rfl | exact .inr (by simp)) (by simp) ?_
  simp (maxSteps := 1000000) (disch := first | (exact DrawOk.mk (by decide +kernel)) | omega | simp) [wrap_i64, le_most, lt_omega, le_omega, ne_omega, allLen]
  refine CallK.of (c31 rs rs g1 g1 g2 g2) (by first | exact .inl rfl | exact .inr (by simp)) (by simp) ?_
  simp (maxSteps := 1000000) (disch := first | (exact DrawOk.mk (by decide +kernel)) | omega | simp) [wrap_i64, le_most, lt_omega, le_omega, ne_omega, allLen]
  refine CallK.of (c42 ns g3) (by first | exact .inl rfl | exact .inr (by simp)) (by simp) ?_
  simp (maxSteps := 1000000) (disch := first | (exact DrawOk.mk (by decide +kernel)) | omega | simp) [wrap_i64, le_most, lt_omega, le_omega, ne_omega, allLen]
  refine CallK.of (c44 ns ns g3 g3) (by first | exact .inl rfl | exact .inr (by simp)) (by simp) ?_
  simp (maxSteps := 1000000) (disch := first | (exact DrawOk.mk (by decide +kernel)) | omega | simp) [wrap_i64, le_most, lt_omega, le_omega, ne_omega, allLen]
end Go.Vai
