import Derived.Test.YtlalekdhfcjnfaaZt3
set_option linter.unusedVariables false
set_option linter.unusedSimpArgs false
namespace Go.Vai
set_option maxHeartbeats 4000000 in
theorem c56 (ls : List Ly) (h : (ls.length : Int) ≤ 1048576) : PC E 56 [.i (.sl (ls.map encL))] [.i (.bool ((mrun ls).ok && decide ((mrun ls).op.length = 0))), .i (.int .i64 (mrun ls).most)] := by
  refine PC_start hE Proofs.Try.func56 rfl rfl Proofs.Try.ntmps56 (by kernel_rfl) (by kernel_rfl) (by simp) ?_
  simp (disch := first | omega | simp) [wrap_i64, le_most, lt_omega, le_omega, allLen]
  refine XL.by hE (ι := { p : Nat × List (List IV) // p.1 ≤ ls.length }) (fun p => ⟨[(4, .own 10 0 (mrun (ls.take p.1.1)).op.length), (5, .i (.int .i64 (mrun (ls.take p.1.1)).most)), (6, .i (.bool (mrun (ls.take p.1.1)).ok)),
    (0, .i (.sl (ls.map encL))), (7, .i (.int .i64 p.1.1))],
    [(10, ⟨3, (mrun (ls.take p.1.1)).op.map encL ++ p.1.2⟩)]⟩) (fun p => ls.length - p.1.1) ⟨(0, []), Nat.zero_le _⟩ ⟨by simp [mrun], by simp [mrun], by simp⟩ (by kernel_rfl) ?_
  rintro ⟨⟨k, rest⟩, hk⟩
  simp only at hk ⊢
  obtain ⟨hl1, hl2⟩ := mrun_len ls k hk
  by_cases hlt : k < ls.length
  · have hn := mrun_snoc ls k hlt
    have hl := mstep_len (mrun (ls.take k)) ls[k]
    generalize mrun (ls.take k) = s at *
    obtain ⟨op, mo, ok⟩ := s
    generalize hx : ls[k] = x at *
    obtain ⟨f, e, m⟩ := x
    simp only at *
    simp (disch := first | omega | simp) [wrap_i64, le_most, lt_omega, le_omega, allLen, hlt, hx, encL]
    (first | refine Gd.dec (fun h1 => ?_) (fun h1 => ?_) | refine Gd.intro (fun h1 => ?_) (fun h1 => ?_)) <;> simp (disch := first | omega | simp) [wrap_i64, le_most, lt_omega, le_omega, allLen, h1]
    · have hm : mstep ⟨op, mo, ok⟩ ⟨f, e, m⟩ = ⟨op, max mo op.length, ok && decide (op.length = 0)⟩ := by simp [mstep, h1]
      rw [hm] at hn
      (first | refine Gd.dec (fun h4 => ?_) (fun h4 => ?_) | refine Gd.intro (fun h4 => ?_) (fun h4 => ?_)) <;> simp (disch := first | omega | simp) [wrap_i64, le_most, lt_omega, le_omega, allLen, h4]
      · (first | refine Gd.dec (fun h5 => ?_) (fun h5 => ?_) | refine Gd.intro (fun h5 => ?_) (fun h5 => ?_)) <;> simp (disch := first | omega | simp) [wrap_i64, le_most, lt_omega, le_omega, allLen, h5]
        · (refine ⟨⟨(k + 1, rest), by omega⟩, by (simp; try omega), ?_⟩; constructor <;> (simp (disch := first | omega | simp) [wrap_i64, le_most, lt_omega, le_omega, allLen, hn, h4]) <;> (try omega))
        · (refine ⟨⟨(k + 1, rest), by omega⟩, by (simp; try omega), ?_⟩; constructor <;> (simp (disch := first | omega | simp) [wrap_i64, le_most, lt_omega, le_omega, allLen, hn, h4]) <;> (try omega))
      · (first | refine Gd.dec (fun h5 => ?_) (fun h5 => ?_) | refine Gd.intro (fun h5 => ?_) (fun h5 => ?_)) <;> simp (disch := first | omega | simp) [wrap_i64, le_most, lt_omega, le_omega, allLen, h5]
        · (refine ⟨⟨(k + 1, rest), by omega⟩, by (simp; try omega), ?_⟩; constructor <;> (simp (disch := first | omega | simp) [wrap_i64, le_most, lt_omega, le_omega, allLen, hn, h4]) <;> (try omega))
        · (refine ⟨⟨(k + 1, rest), by omega⟩, by (simp; try omega), ?_⟩; constructor <;> (simp (disch := first | omega | simp) [wrap_i64, le_most, lt_omega, le_omega, allLen, hn, h4]) <;> (try omega))
    (first | refine Gd.dec (fun h2 => ?_) (fun h2 => ?_) | refine Gd.intro (fun h2 => ?_) (fun h2 => ?_)) <;> simp (disch := first | omega | simp) [wrap_i64, le_most, lt_omega, le_omega, allLen, h2]
    · have hm : mstep ⟨op, mo, ok⟩ ⟨f, e, m⟩ = ⟨op, max mo op.length, ok⟩ := by simp [mstep, h1, h2]
      rw [hm] at hn
      (first | refine Gd.dec (fun h5 => ?_) (fun h5 => ?_) | refine Gd.intro (fun h5 => ?_) (fun h5 => ?_)) <;> simp (disch := first | omega | simp) [wrap_i64, le_most, lt_omega, le_omega, allLen, h5]
      · (refine ⟨⟨(k + 1, rest), by omega⟩, by (simp; try omega), ?_⟩; constructor <;> (simp (disch := first | omega | simp) [wrap_i64, le_most, lt_omega, le_omega, allLen, hn]) <;> (try omega))
      · (refine ⟨⟨(k + 1, rest), by omega⟩, by (simp; try omega), ?_⟩; constructor <;> (simp (disch := first | omega | simp) [wrap_i64, le_most, lt_omega, le_omega, allLen, hn]) <;> (try omega))
    (first | refine Gd.dec (fun h3 => ?_) (fun h3 => ?_) | refine Gd.intro (fun h3 => ?_) (fun h3 => ?_)) <;> simp (disch := first | omega | simp) [wrap_i64, le_most, lt_omega, le_omega, allLen, h3]
    · have hm : mstep ⟨op, mo, ok⟩ ⟨f, e, m⟩ = ⟨push op ⟨f, e, m⟩, max mo (push op ⟨f, e, m⟩).length, ok⟩ := by simp [mstep, h1, h2, h3]
      rw [hm] at hn
      rcases List.eq_nil_or_concat op with rfl | ⟨t, ⟨f', e', m'⟩, rfl⟩
      · simp (disch := first | omega | simp) [wrap_i64, le_most, lt_omega, le_omega, allLen]
        simp [push] at hn
        (first | refine Gd.dec (fun h5 => ?_) (fun h5 => ?_) | refine Gd.intro (fun h5 => ?_) (fun h5 => ?_)) <;> simp (disch := first | omega | simp) [wrap_i64, le_most, lt_omega, le_omega, allLen, h5]
        · (refine ⟨⟨(k + 1, []), by omega⟩, by (simp; try omega), ?_⟩; constructor <;> (simp (disch := first | omega | simp) [wrap_i64, le_most, lt_omega, le_omega, allLen, hn, encL, h3]) <;> (try omega))
        · (refine ⟨⟨(k + 1, []), by omega⟩, by (simp; try omega), ?_⟩; constructor <;> (simp (disch := first | omega | simp) [wrap_i64, le_most, lt_omega, le_omega, allLen, hn, encL, h3]) <;> (try omega))
      · simp at hl1
        simp (disch := first | omega | simp) [wrap_i64, le_most, lt_omega, le_omega, allLen, encL]
        (first | refine Gd.dec (fun h4 => ?_) (fun h4 => ?_) | refine Gd.intro (fun h4 => ?_) (fun h4 => ?_)) <;> simp (disch := first | omega | simp) [wrap_i64, le_most, lt_omega, le_omega, allLen, h4]
        · (first | refine Gd.dec (fun h5 => ?_) (fun h5 => ?_) | refine Gd.intro (fun h5 => ?_) (fun h5 => ?_)) <;> simp (disch := first | omega | simp) [wrap_i64, le_most, lt_omega, le_omega, allLen, h5]
          · simp [push, h4, h5] at hn
            (first | refine Gd.dec (fun h6 => ?_) (fun h6 => ?_) | refine Gd.intro (fun h6 => ?_) (fun h6 => ?_)) <;> simp (disch := first | omega | simp) [wrap_i64, le_most, lt_omega, le_omega, allLen, h6]
            · (refine ⟨⟨(k + 1, [.int .i64 f', .int .i64 e', .int .i64 m'] :: rest), by omega⟩, by (simp; try omega), ?_⟩; constructor <;> (simp (disch := first | omega | simp) [wrap_i64, le_most, lt_omega, le_omega, allLen, hn, encL]) <;> (try omega))
            · (refine ⟨⟨(k + 1, [.int .i64 f', .int .i64 e', .int .i64 m'] :: rest), by omega⟩, by (simp; try omega), ?_⟩; constructor <;> (simp (disch := first | omega | simp) [wrap_i64, le_most, lt_omega, le_omega, allLen, hn, encL]) <;> (try omega))
          · simp [push, h4, h5] at hn
            (first | refine Gd.dec (fun h6 => ?_) (fun h6 => ?_) | refine Gd.intro (fun h6 => ?_) (fun h6 => ?_)) <;> simp (disch := first | omega | simp) [wrap_i64, le_most, lt_omega, le_omega, allLen, h6]
            · (refine ⟨⟨(k + 1, []), by omega⟩, by (simp; try omega), ?_⟩; constructor <;> (simp (disch := first | omega | simp) [wrap_i64, le_most, lt_omega, le_omega, allLen, hn, encL, h3]) <;> (try omega))
            · (refine ⟨⟨(k + 1, []), by omega⟩, by (simp; try omega), ?_⟩; constructor <;> (simp (disch := first | omega | simp) [wrap_i64, le_most, lt_omega, le_omega, allLen, hn, encL, h3]) <;> (try omega))
        · simp [push, h4] at hn
          (first | refine Gd.dec (fun h6 => ?_) (fun h6 => ?_) | refine Gd.intro (fun h6 => ?_) (fun h6 => ?_)) <;> simp (disch := first | omega | simp) [wrap_i64, le_most, lt_omega, le_omega, allLen, h6]
          · (refine ⟨⟨(k + 1, []), by omega⟩, by (simp; try omega), ?_⟩; constructor <;> (simp (disch := first | omega | simp) [wrap_i64, le_most, lt_omega, le_omega, allLen, hn, encL, h3]) <;> (try omega))
          · (refine ⟨⟨(k + 1, []), by omega⟩, by (simp; try omega), ?_⟩; constructor <;> (simp (disch := first | omega | simp) [wrap_i64, le_most, lt_omega, le_omega, allLen, hn, encL, h3]) <;> (try omega))
    · have hm : mstep ⟨op, mo, ok⟩ ⟨f, e, m⟩ = ⟨op, max mo op.length, false⟩ := by simp [mstep, h1, h2, h3]
      rw [hm] at hn
      (first | refine Gd.dec (fun h5 => ?_) (fun h5 => ?_) | refine Gd.intro (fun h5 => ?_) (fun h5 => ?_)) <;> simp (disch := first | omega | simp) [wrap_i64, le_most, lt_omega, le_omega, allLen, h5]
      · (refine ⟨⟨(k + 1, rest), by omega⟩, by (simp; try omega), ?_⟩; constructor <;> (simp (disch := first | omega | simp) [wrap_i64, le_most, lt_omega, le_omega, allLen, hn]) <;> (try omega))
      · (refine ⟨⟨(k + 1, rest), by omega⟩, by (simp; try omega), ?_⟩; constructor <;> (simp (disch := first | omega | simp) [wrap_i64, le_most, lt_omega, le_omega, allLen, hn]) <;> (try omega))
  · obtain rfl : k = ls.length := by omega
    simp only [List.take_length]
    simp (disch := first | omega | simp) [wrap_i64, le_most, lt_omega, le_omega, allLen]
    (first | refine Gd.dec (fun h4 => ?_) (fun h4 => ?_) | refine Gd.intro (fun h4 => ?_) (fun h4 => ?_)) <;> simp (disch := first | omega | simp) [wrap_i64, le_most, lt_omega, le_omega, allLen, h4]
end Go.Vai
