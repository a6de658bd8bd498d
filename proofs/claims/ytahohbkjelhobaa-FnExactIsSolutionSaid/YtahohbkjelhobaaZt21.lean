import Derived.Test.YtahohbkjelhobaaZt20
set_option linter.unusedVariables false
set_option linter.unusedSimpArgs false
set_option maxHeartbeats 4000000
namespace Go.Vai
theorem c51 (x : Ru) (vs : List Int) (hx : RFit x vs) (h : (x.vars.length : Int) ≤ 1048576) : PC E 51 [.agg (encR x), .i (.sl (vs.map encI))] [.i (.int .i64 (ihol x.kind (terms x vs)))] := by
  refine PC_start hE Proofs.Try.func51 rfl rfl Proofs.Try.ntmps51 (by kernel_rfl) (by kernel_rfl) (by simp) ?_
  have hT := hx.terms_len
  have htri : ∀ (k : Nat) (hk : k < (terms x vs).length), tri (terms x vs)[k] := fun k hk => by
    obtain ⟨n, h1, h2, h3, -, -, ht⟩ := hx.round (k := k) (by omega)
    exact ht
  simp (disch := first | omega | simp) [wrap_i64, le_most, lt_omega, le_omega, ne_omega, allLen, encR]
  refine XL.by hE (ι := { k : Nat // k ≤ x.vars.length }) (fun k => ⟨[(1, .i (.sl (vs.map encI))), (2, .ptr 2 0 0), (5, .ptr 5 0 0), (6, .i (.int .i64 (prodI ((terms x vs).take k.1)))),
    (11, .i (.sl (x.vars.map encI))), (12, .i (.int .i64 x.vars.length)), (13, .i (.int .i64 k.1))],
    [(2, ⟨3, [encR x]⟩), (5, ⟨3, [[.int .i64 (((terms x vs).take k.1).count (-1) : Nat), .int .i64 (((terms x vs).take k.1).count 0 : Nat), .int .i64 (((terms x vs).take k.1).count 1 : Nat)]]⟩)]⟩)
    (fun k => x.vars.length - k.1) ⟨0, Nat.zero_le _⟩ ⟨by simp [prodI], by simp [encR], by simp⟩ (by kernel_rfl) ?_
  rintro ⟨k, hk⟩
  by_cases hlt : k < x.vars.length
  · obtain ⟨n, h1, h2, h3, hv, ht, h4⟩ := hx.round hlt
    have hnn : ¬ ((n : Int) < 0) := by omega
    have hp := prodI_tri htri k (by omega)
    have hps := prodI_step h3
    have c0 := count_step h3 0
    have c1 := count_step h3 1
    have c2 := count_step h3 (-1)
    have l0 := List.count_le_length (a := (0 : Int)) (l := (terms x vs).take k)
    have l1 := List.count_le_length (a := (1 : Int)) (l := (terms x vs).take k)
    have l2 := List.count_le_length (a := (-1 : Int)) (l := (terms x vs).take k)
    simp at l0 l1 l2
    have hw : IntKind.i64.wrap (vs[n] * x.signs[k]) = (terms x vs)[k] := by
      rw [← ht]; rcases h4 with e | e | e <;> rw [e] <;> decide
    have hpb : -1 ≤ prodI ((terms x vs).take k) ∧ prodI ((terms x vs).take k) ≤ 1 := by rcases hp with e | e | e <;> rw [e] <;> omega
    generalize (terms x vs)[k] = t at *
    simp (disch := first | omega | simp) [wrap_i64, le_most, lt_omega, le_omega, ne_omega, allLen, hlt, h1, h2, hv, hw, hnn, encR, encI]
    rcases h4 with rfl | rfl | rfl
    · simp (disch := first | omega | simp) [wrap_i64, le_most, lt_omega, le_omega, ne_omega, allLen]
      (refine ⟨⟨k + 1, by omega⟩, by (simp; try omega), ?_⟩; constructor <;> (simp (disch := first | omega | simp) [wrap_i64, le_most, lt_omega, le_omega, ne_omega, allLen, encR, hps, c0, c1, c2]) <;> (try omega))
    · simp (disch := first | omega | simp) [wrap_i64, le_most, lt_omega, le_omega, ne_omega, allLen]
      (refine ⟨⟨k + 1, by omega⟩, by (simp; try omega), ?_⟩; constructor <;> (simp (disch := first | omega | simp) [wrap_i64, le_most, lt_omega, le_omega, ne_omega, allLen, encR, hps, c0, c1, c2]) <;> (try omega))
    · simp (disch := first | omega | simp) [wrap_i64, le_most, lt_omega, le_omega, ne_omega, allLen]
      (refine ⟨⟨k + 1, by omega⟩, by (simp; try omega), ?_⟩; constructor <;> (simp (disch := first | omega | simp) [wrap_i64, le_most, lt_omega, le_omega, ne_omega, allLen, encR, hps, c0, c1, c2]) <;> (try omega))
  · obtain rfl : k = x.vars.length := by omega
    have hta : (terms x vs).take x.vars.length = terms x vs := by rw [← hT, List.take_length]
    simp (disch := first | omega | simp) [wrap_i64, le_most, lt_omega, le_omega, ne_omega, allLen, encR, hta]
    (first | refine Gd.dec (fun h1 => ?_) (fun h1 => ?_) | refine Gd.intro (fun h1 => ?_) (fun h1 => ?_)) <;> simp (disch := first | omega | simp) [wrap_i64, le_most, lt_omega, le_omega, ne_omega, allLen, h1]
    · simp [ihol, h1]
    (first | refine Gd.dec (fun h2 => ?_) (fun h2 => ?_) | refine Gd.intro (fun h2 => ?_) (fun h2 => ?_)) <;> simp (disch := first | omega | simp) [wrap_i64, le_most, lt_omega, le_omega, ne_omega, allLen, h2]
    · simp [ihol, h2]
    (first | refine Gd.dec (fun h3 => ?_) (fun h3 => ?_) | refine Gd.intro (fun h3 => ?_) (fun h3 => ?_)) <;> simp (disch := first | omega | simp) [wrap_i64, le_most, lt_omega, le_omega, ne_omega, allLen, h3]
    · simp [ihol, h3]
    (first | refine Gd.dec (fun h4 => ?_) (fun h4 => ?_) | refine Gd.intro (fun h4 => ?_) (fun h4 => ?_)) <;> simp (disch := first | omega | simp) [wrap_i64, le_most, lt_omega, le_omega, ne_omega, allLen, h4]
    · (first | refine Gd.dec (fun h5 => ?_) (fun h5 => ?_) | refine Gd.intro (fun h5 => ?_) (fun h5 => ?_)) <;> simp (disch := first | omega | simp) [wrap_i64, le_most, lt_omega, le_omega, ne_omega, allLen, h5]
      · simp [ihol, h1, h2, h3, h4, h5] <;> omega
      · (first | refine Gd.dec (fun h6 => ?_) (fun h6 => ?_) | refine Gd.intro (fun h6 => ?_) (fun h6 => ?_)) <;> simp (disch := first | omega | simp) [wrap_i64, le_most, lt_omega, le_omega, ne_omega, allLen, h6]
        · simp [ihol, h1, h2, h3, h4, h5, h6] <;> omega
        · (first | refine Gd.dec (fun h7 => ?_) (fun h7 => ?_) | refine Gd.intro (fun h7 => ?_) (fun h7 => ?_)) <;> simp (disch := first | omega | simp) [wrap_i64, le_most, lt_omega, le_omega, ne_omega, allLen, h7]
          · simp [ihol, h1, h2, h3, h4, h5, h6, h7] <;> omega
          · simp [ihol, h1, h2, h3, h4, h5, h6, h7] <;> omega
    · (first | refine Gd.dec (fun h6 => ?_) (fun h6 => ?_) | refine Gd.intro (fun h6 => ?_) (fun h6 => ?_)) <;> simp (disch := first | omega | simp) [wrap_i64, le_most, lt_omega, le_omega, ne_omega, allLen, h6]
      · simp [ihol, h1, h2, h3, h4, h6] <;> omega
      · (first | refine Gd.dec (fun h7 => ?_) (fun h7 => ?_) | refine Gd.intro (fun h7 => ?_) (fun h7 => ?_)) <;> simp (disch := first | omega | simp) [wrap_i64, le_most, lt_omega, le_omega, ne_omega, allLen, h7]
        · simp [ihol, h1, h2, h3, h4, h6, h7] <;> omega
        · simp [ihol, h1, h2, h3, h4, h6, h7] <;> omega
end Go.Vai
