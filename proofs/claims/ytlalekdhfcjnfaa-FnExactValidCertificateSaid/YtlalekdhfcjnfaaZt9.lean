import Derived.Test.YtlalekdhfcjnfaaZt8
set_option linter.unusedVariables false
set_option linter.unusedSimpArgs false
set_option maxHeartbeats 4000000
namespace Go.Vai
/-- The depth of a refutation, or -1. -/
def rdep (l : List Nd) : Int := if l.length ≤ 4000 then (match dep l.length l with
  | some (a, []) => a
  | _ => -1) else -1
theorem c25 (ls : List Nd) (h : (ls.length : Int) ≤ 1048576) : PC E 25 [.i (.sl (ls.map encNd))] [.i (.int .i64 (rdep ls))] := by
  refine PC_start hE Proofs.Try.func25 rfl rfl Proofs.Try.ntmps25 (by kernel_rfl) (by kernel_rfl) (by simp) ?_
  simp (disch := first | omega | simp) [wrap_i64, le_most, lt_omega, le_omega, ne_omega, allLen]
  (first | refine Gd.dec (fun h1 => ?_) (fun h1 => ?_) | refine Gd.intro (fun h1 => ?_) (fun h1 => ?_)) <;> simp (disch := first | omega | simp) [wrap_i64, le_most, lt_omega, le_omega, ne_omega, allLen, h1]
  · have : ¬ ls.length ≤ 4000 := by omega
    simp (disch := first | omega | simp) [wrap_i64, le_most, lt_omega, le_omega, ne_omega, allLen, rdep, this]
  · have hle : ls.length ≤ 4000 := by omega
    refine CallK.of (c64 ls.length ls (Nat.le_refl _) h) (by first | exact .inl rfl | exact .inr (by simp)) (by simp) ?_
    cases hd : dep ls.length ls with
    | none => simp (disch := first | omega | simp) [wrap_i64, le_most, lt_omega, le_omega, ne_omega, allLen, rdep, hle, hd, depI, depR]
    | some p =>
      obtain ⟨a, b⟩ := p
      cases b with
      | nil => simp (disch := first | omega | simp) [wrap_i64, le_most, lt_omega, le_omega, ne_omega, allLen, rdep, hle, hd, depI, depR]
      | cons x r => simp (disch := first | omega | simp) [wrap_i64, le_most, lt_omega, le_omega, ne_omega, allLen, rdep, hle, hd, depI, depR]
theorem c23 (ls : List Nd) (h : (ls.length : Int) ≤ 1048576) : PC E 23 [.i (.sl (ls.map encNd))] [.i (.int .i64 (rdep ls))] := by
  refine PC_start hE Proofs.Try.func23 rfl rfl Proofs.Try.ntmps23 (by kernel_rfl) (by kernel_rfl) (by simp) ?_
  simp (disch := first | omega | simp) [wrap_i64, le_most, lt_omega, le_omega, ne_omega, allLen]
  (first | refine Gd.dec (fun h1 => ?_) (fun h1 => ?_) | refine Gd.intro (fun h1 => ?_) (fun h1 => ?_)) <;> simp (disch := first | omega | simp) [wrap_i64, le_most, lt_omega, le_omega, ne_omega, allLen, h1]
  · have : ¬ ls.length ≤ 4000 := by omega
    simp (disch := first | omega | simp) [wrap_i64, le_most, lt_omega, le_omega, ne_omega, allLen, rdep, this]
  · have hle : ls.length ≤ 4000 := by omega
    have c1 := c62 ls h ls.length 0 (Nat.zero_le _) (by omega)
    have hs := sdep_dep ls.length ls 0
    have hsl := (sdep_suffix ls.length ls 0).length_le
    simp at c1
    refine CallK.of (c1) (by first | exact .inl rfl | exact .inr (by simp)) (by simp) ?_
    simp (disch := first | omega | simp) [wrap_i64, le_most, lt_omega, le_omega, ne_omega, allLen]
    cases hd : dep ls.length ls with
    | none =>
      rw [hd] at hs
      simp at hs
      (first | refine Gd.dec (fun h2 => ?_) (fun h2 => ?_) | refine Gd.intro (fun h2 => ?_) (fun h2 => ?_)) <;> simp (disch := first | omega | simp) [wrap_i64, le_most, lt_omega, le_omega, ne_omega, allLen, h2] <;> simp (disch := first | omega | simp) [wrap_i64, le_most, lt_omega, le_omega, ne_omega, allLen, rdep, hle, hd, hs]
    | some p =>
      obtain ⟨a, b⟩ := p
      rw [hd] at hs
      simp only at hs
      rw [hs] at hsl ⊢
      simp at hsl
      cases b with
      | nil => simp (disch := first | omega | simp) [wrap_i64, le_most, lt_omega, le_omega, ne_omega, allLen, rdep, hle, hd]
      | cons x r => simp at hsl; simp (disch := first | omega | simp) [wrap_i64, le_most, lt_omega, le_omega, ne_omega, allLen, rdep, hle, hd]
theorem c6 (ls : List Nd) (h : (ls.length : Int) ≤ 9223372036854775807) : PC E 6 [.i (.sl (ls.map encNd))] [.i (.bool true)] := by
  refine PC_start hE Proofs.Try.func6 rfl rfl Proofs.Try.ntmps6 (by kernel_rfl) (by kernel_rfl) (by simp) ?_
  simp (disch := first | omega | simp) [wrap_i64, le_most, lt_omega, le_omega, ne_omega, allLen]
  refine CallK.of (c22 ls 1048576 (by omega) (by omega) h) (by first | exact .inl rfl | exact .inr (by simp)) (by simp) ?_
  simp (disch := first | omega | simp) [wrap_i64, le_most, lt_omega, le_omega, ne_omega, allLen]
  (first | refine Gd.dec (fun h1 => ?_) (fun h1 => ?_) | refine Gd.intro (fun h1 => ?_) (fun h1 => ?_)) <;> simp (disch := first | omega | simp) [wrap_i64, le_most, lt_omega, le_omega, ne_omega, allLen, h1]
  have h : (ls.length : Int) ≤ 1048576 := by split at h1 <;> omega
  refine CallK.of (c24 ls h) (by first | exact .inl rfl | exact .inr (by simp)) (by simp) ?_
  simp (disch := first | omega | simp) [wrap_i64, le_most, lt_omega, le_omega, ne_omega, allLen]
  refine CallK.of (c23 ls h) (by first | exact .inl rfl | exact .inr (by simp)) (by simp) ?_
  simp (disch := first | omega | simp) [wrap_i64, le_most, lt_omega, le_omega, ne_omega, allLen]
  refine CallK.of (c24 ls h) (by first | exact .inl rfl | exact .inr (by simp)) (by simp) ?_
  simp (disch := first | omega | simp) [wrap_i64, le_most, lt_omega, le_omega, ne_omega, allLen]
  refine CallK.of (c25 ls h) (by first | exact .inl rfl | exact .inr (by simp)) (by simp) ?_
  simp (disch := first | omega | simp) [wrap_i64, le_most, lt_omega, le_omega, ne_omega, allLen]
  refine CallK.of (c24 ls h) (by first | exact .inl rfl | exact .inr (by simp)) (by simp) ?_
  simp (disch := first | omega | simp) [wrap_i64, le_most, lt_omega, le_omega, ne_omega, allLen]
  refine CallK.of (c26 ls ls h h) (by first | exact .inl rfl | exact .inr (by simp)) (by simp) ?_
  simp (disch := first | omega | simp) [wrap_i64, le_most, lt_omega, le_omega, ne_omega, allLen]
end Go.Vai
