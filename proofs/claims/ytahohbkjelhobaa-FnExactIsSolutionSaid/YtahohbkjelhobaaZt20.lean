import Derived.Test.YtahohbkjelhobaaZt19
set_option linter.unusedVariables false
set_option linter.unusedSimpArgs false
set_option maxHeartbeats 4000000
namespace Go.Vai
theorem c45 (x : Ru) (vs : List Int) (hx : RFit x vs) (h : (x.vars.length : Int) ≤ 1048576) : PC E 45 [.i (.ptr (encR x)), .i (.sl (vs.map encI))] [.i (.int .i64 (shol x.kind (terms x vs)))] := by
  refine PC_start hE Proofs.Try.func45 rfl rfl Proofs.Try.ntmps45 (by kernel_rfl) (by kernel_rfl) (by simp) ?_
  simp (disch := first | omega | simp) [wrap_i64, le_most, lt_omega, le_omega, ne_omega, allLen]
  have hT := hx.terms_len
  have htri : ∀ (k : Nat) (hk : k < (terms x vs).length), tri (terms x vs)[k] := fun k hk => by
    obtain ⟨n, h1, h2, h3, -, -, ht⟩ := hx.round (k := k) (by omega)
    exact ht
  refine XL.by hE (ι := { k : Nat // k ≤ x.vars.length }) (fun k => ⟨[(0, .i (.ptr (encR x))), (1, .i (.sl (vs.map encI))), (5, .i (.int .i64 (((terms x vs).take k.1).count 0 : Nat))), (6, .i (.int .i64 (prodI ((terms x vs).take k.1)))),
    (7, .i (.int .i64 (((terms x vs).take k.1).count 1 : Nat))), (8, .i (.int .i64 (((terms x vs).take k.1).count (-1) : Nat))), (9, .i (.int .i64 k.1))], []⟩)
    (fun k => x.vars.length - k.1) ⟨0, Nat.zero_le _⟩ ⟨by simp [prodI], by simp, by simp⟩ (by kernel_rfl) ?_
  rintro ⟨k, hk⟩
  by_cases hlt : k < x.vars.length
  · obtain ⟨n, h1, h2, h3, hv, ht, h4⟩ := hx.round hlt
    have hnn : ¬ ((n : Int) < 0) := by omega
    have hp := prodI_tri htri k (by omega)
    have hps := prodI_step h3
    have c0 := count_step h3 0
    have c1 := count_step h3 1
    have c2 := count_step h3 (-1)
    have l0 := List.count_le_length (a := (0 : Int)) (l := (terms x vs).take k)
    have l1 := List.count_le_length (a := (1 : Int)) (l := (terms x vs).take k)
    have l2 := List.count_le_length (a := (-1 : Int)) (l := (terms x vs).take k)
    simp at l0 l1 l2
    have hw : IntKind.i64.wrap (vs[n] * x.signs[k]) = (terms x vs)[k] := by
      rw [← ht]; rcases h4 with e | e | e <;> rw [e] <;> decide
    generalize (terms x vs)[k] = t at *
    have hpb : -1 ≤ prodI ((terms x vs).take k) ∧ prodI ((terms x vs).take k) ≤ 1 := by rcases hp with e | e | e <;> rw [e] <;> omega
    simp (disch := first | omega | simp) [wrap_i64, le_most, lt_omega, le_omega, ne_omega, allLen, hlt, h1, h2, hv, hw, hnn, encR, encI]
    rcases h4 with rfl | rfl | rfl
    · simp (disch := first | omega | simp) [wrap_i64, le_most, lt_omega, le_omega, ne_omega, allLen]
      (refine ⟨⟨k + 1, by omega⟩, by (simp; try omega), ?_⟩; constructor <;> (simp (disch := first | omega | simp) [wrap_i64, le_most, lt_omega, le_omega, ne_omega, allLen, encR, hps, c0, c1, c2]) <;> (try omega))
    · simp (disch := first | omega | simp) [wrap_i64, le_most, lt_omega, le_omega, ne_omega, allLen]
      (refine ⟨⟨k + 1, by omega⟩, by (simp; try omega), ?_⟩; constructor <;> (simp (disch := first | omega | simp) [wrap_i64, le_most, lt_omega, le_omega, ne_omega, allLen, encR, hps, c0, c1, c2]) <;> (try omega))
    · simp (disch := first | omega | simp) [wrap_i64, le_most, lt_omega, le_omega, ne_omega, allLen]
      (refine ⟨⟨k + 1, by omega⟩, by (simp; try omega), ?_⟩; constructor <;> (simp (disch := first | omega | simp) [wrap_i64, le_most, lt_omega, le_omega, ne_omega, allLen, encR, hps, c0, c1, c2]) <;> (try omega))
  · obtain rfl : k = x.vars.length := by omega
    have hta : (terms x vs).take x.vars.length = terms x vs := by rw [← hT, List.take_length]
    simp (disch := first | omega | simp) [wrap_i64, le_most, lt_omega, le_omega, ne_omega, allLen, encR, hta]
    (first | refine Gd.dec (fun h1 => ?_) (fun h1 => ?_) | refine Gd.intro (fun h1 => ?_) (fun h1 => ?_)) <;> simp (disch := first | omega | simp) [wrap_i64, le_most, lt_omega, le_omega, ne_omega, allLen, h1]
    · (first | refine Gd.dec (fun h2 => ?_) (fun h2 => ?_) | refine Gd.intro (fun h2 => ?_) (fun h2 => ?_)) <;> simp (disch := first | omega | simp) [wrap_i64, le_most, lt_omega, le_omega, ne_omega, allLen, h2]
      · (first | refine Gd.dec (fun h3 => ?_) (fun h3 => ?_) | refine Gd.intro (fun h3 => ?_) (fun h3 => ?_)) <;> simp (disch := first | omega | simp) [wrap_i64, le_most, lt_omega, le_omega, ne_omega, allLen, h3]
        · simp [shol, h1, h2, h3]
        · (first | refine Gd.dec (fun h4 => ?_) (fun h4 => ?_) | refine Gd.intro (fun h4 => ?_) (fun h4 => ?_)) <;> simp (disch := first | omega | simp) [wrap_i64, le_most, lt_omega, le_omega, ne_omega, allLen, h4]
          · simp [shol, h1, h2, h3, h4]
          · simp [shol, h1, h2, h3, h4]
      · (first | refine Gd.dec (fun h4 => ?_) (fun h4 => ?_) | refine Gd.intro (fun h4 => ?_) (fun h4 => ?_)) <;> simp (disch := first | omega | simp) [wrap_i64, le_most, lt_omega, le_omega, ne_omega, allLen, h4]
        · simp [shol, h1, h2, h4]
        · simp [shol, h1, h2, h4]
    (first | refine Gd.dec (fun h1b => ?_) (fun h1b => ?_) | refine Gd.intro (fun h1b => ?_) (fun h1b => ?_)) <;> simp (disch := first | omega | simp) [wrap_i64, le_most, lt_omega, le_omega, ne_omega, allLen, h1b]
    · (first | refine Gd.dec (fun h2 => ?_) (fun h2 => ?_) | refine Gd.intro (fun h2 => ?_) (fun h2 => ?_)) <;> simp (disch := first | omega | simp) [wrap_i64, le_most, lt_omega, le_omega, ne_omega, allLen, h2]
      · (first | refine Gd.dec (fun h3 => ?_) (fun h3 => ?_) | refine Gd.intro (fun h3 => ?_) (fun h3 => ?_)) <;> simp (disch := first | omega | simp) [wrap_i64, le_most, lt_omega, le_omega, ne_omega, allLen, h3]
        · simp [shol, h1, h1b, h2, h3]
        · (first | refine Gd.dec (fun h4 => ?_) (fun h4 => ?_) | refine Gd.intro (fun h4 => ?_) (fun h4 => ?_)) <;> simp (disch := first | omega | simp) [wrap_i64, le_most, lt_omega, le_omega, ne_omega, allLen, h4]
          · simp [shol, h1, h1b, h2, h3, h4]
          · simp [shol, h1, h1b, h2, h3, h4]
      · (first | refine Gd.dec (fun h4 => ?_) (fun h4 => ?_) | refine Gd.intro (fun h4 => ?_) (fun h4 => ?_)) <;> simp (disch := first | omega | simp) [wrap_i64, le_most, lt_omega, le_omega, ne_omega, allLen, h4]
        · simp [shol, h1, h1b, h2, h4]
        · simp [shol, h1, h1b, h2, h4]
    · simp [shol, h1, h1b]
end Go.Vai
