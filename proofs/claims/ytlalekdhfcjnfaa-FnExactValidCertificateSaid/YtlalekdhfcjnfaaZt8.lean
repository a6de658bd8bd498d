import Derived.Test.YtlalekdhfcjnfaaZt7
set_option linter.unusedVariables false
set_option linter.unusedSimpArgs false
set_option maxHeartbeats 4000000
namespace Go.Vai
theorem sdep_le (n : Nat) (l : List Nd) (m : Nat) : (sdep n l m).1 ≤ m + l.length ∧ -1 ≤ (sdep n l m).1 := by
  have h := sdep_dep n l m
  cases hd : dep n l with
  | none => rw [hd] at h; simp at h; rw [h]; omega
  | some p => obtain ⟨a, b⟩ := p; rw [hd] at h; simp at h; rw [h]; have := dep_len n l a b hd; simp; omega
theorem c62 (ls : List Nd) (h : (ls.length : Int) ≤ 1048576) : ∀ (N at' : Nat), at' ≤ ls.length → ls.length - at' ≤ N → PC E 62 [.i (.sl (ls.map encNd)), .i (.int .i64 at')]
    [.i (.int .i64 (sdep N (ls.drop at') 0).1), .i (.int .i64 ((ls.length - (sdep N (ls.drop at') 0).2.length : Nat) : Int))] := by
  intro N
  induction N using Nat.strongRecOn with
  | _ N ih =>
    intro at' ha hN
    refine PC_start hE Proofs.Try.func62 rfl rfl Proofs.Try.ntmps62 (by kernel_rfl) (by kernel_rfl) (by simp) ?_
    simp (disch := first | omega | simp) [wrap_i64, le_most, lt_omega, le_omega, ne_omega, allLen]
    refine XL.by hE (ι := { p : Nat × Nat × Nat // p.1 ≤ ls.length ∧ ls.length - p.1 ≤ p.2.2 ∧ p.2.2 ≤ N ∧ p.2.1 ≤ p.1 ∧ sdep p.2.2 (ls.drop p.1) p.2.1 = sdep N (ls.drop at') 0 })
      (fun p => ⟨[(0, .i (.sl (ls.map encNd))), (1, .i (.int .i64 p.1.1)), (6, .i (.int .i64 p.1.2.1))], []⟩) (fun p => ls.length - p.1.1) ⟨(at', 0, N), ha, hN, Nat.le_refl _, Nat.zero_le _, rfl⟩
      ⟨by simp, by simp, by simp⟩ (by kernel_rfl) ?_
    rintro ⟨⟨k, m, M⟩, hk, hM, hMN, hm, he⟩
    simp only at hk hM hMN hm he ⊢
    by_cases hlt : k < ls.length
    · obtain ⟨M, rfl⟩ : ∃ M', M = M' + 1 := ⟨M - 1, by omega⟩
      have hd : ls.drop k = ls[k] :: ls.drop (k + 1) := List.drop_eq_getElem_cons hlt
      rw [hd] at he
      have hsuf : ∀ q, (sdep M (ls.drop (k + 1)) q).2 <:+ ls := fun q => (sdep_suffix M _ q).trans (List.drop_suffix _ _)
      have hsl : ∀ q, (sdep M (ls.drop (k + 1)) q).2.length ≤ ls.length - (k + 1) := fun q => by simpa using (sdep_suffix M (ls.drop (k + 1)) q).length_le
      generalize hx : ls[k] = x at *
      obtain ⟨ki, v, z, ru⟩ := x
      simp (disch := first | omega | simp) [wrap_i64, le_most, lt_omega, le_omega, ne_omega, allLen, hlt, hx, encNd]
      (first | refine Gd.dec (fun h1 => ?_) (fun h1 => ?_) | refine Gd.intro (fun h1 => ?_) (fun h1 => ?_)) <;> simp (disch := first | omega | simp) [wrap_i64, le_most, lt_omega, le_omega, ne_omega, allLen, h1]
      · simp only [sdep, h1, if_true] at he
        simp (disch := first | omega | simp) [wrap_i64, le_most, lt_omega, le_omega, ne_omega, allLen, ← he]
        omega
      (first | refine Gd.dec (fun h2 => ?_) (fun h2 => ?_) | refine Gd.intro (fun h2 => ?_) (fun h2 => ?_)) <;> simp (disch := first | omega | simp) [wrap_i64, le_most, lt_omega, le_omega, ne_omega, allLen, h2]
      · simp [sdep, h1, h2] at he
        (refine ⟨⟨(k + 1, m + 1, M), by dsimp only; omega, by dsimp only; omega, by dsimp only; omega, by dsimp only; omega, he⟩, by (simp; try omega), ?_⟩; constructor <;> (simp (disch := first | omega | simp) [wrap_i64, le_most, lt_omega, le_omega, ne_omega, allLen]) <;> (try omega))
      (first | refine Gd.dec (fun h3 => ?_) (fun h3 => ?_) | refine Gd.intro (fun h3 => ?_) (fun h3 => ?_)) <;> simp (disch := first | omega | simp) [wrap_i64, le_most, lt_omega, le_omega, ne_omega, allLen, h3]
      · have c1 := ih M (by omega) (k + 1) (by omega) (by omega)
        have b1 := sdep_le M (ls.drop (k + 1)) 0
        simp [sdep, h1, h2, h3] at he b1
        refine CallK.of (c1) (by first | exact .inl rfl | exact .inr (by simp)) (by simp) ?_
        simp (disch := first | omega | simp) [wrap_i64, le_most, lt_omega, le_omega, ne_omega, allLen]
        (first | refine Gd.dec (fun h4 => ?_) (fun h4 => ?_) | refine Gd.intro (fun h4 => ?_) (fun h4 => ?_)) <;> simp (disch := first | omega | simp) [wrap_i64, le_most, lt_omega, le_omega, ne_omega, allLen, h4]
        · rw [if_pos h4] at he
          simp (disch := first | omega | simp) [wrap_i64, le_most, lt_omega, le_omega, ne_omega, allLen, ← he]
        · rw [if_neg h4] at he
          have hs := hsuf 0
          have hl := hs.length_le
          have hl2 := hsl 0
          generalize sdep M (ls.drop (k + 1)) 0 = p at *
          obtain ⟨a, r⟩ := p
          simp only at *
          have hr : ls.drop (ls.length - r.length) = r := (List.suffix_iff_eq_drop.1 hs).symm
          have c2 := ih M (by omega) (ls.length - r.length) (by omega) (by omega)
          have b2 := sdep_le M r 0
          rw [hr] at c2
          refine CallK.of (c2) (by first | exact .inl rfl | exact .inr (by simp)) (by simp) ?_
          simp (disch := first | omega | simp) [wrap_i64, le_most, lt_omega, le_omega, ne_omega, allLen]
          (first | refine Gd.dec (fun h5 => ?_) (fun h5 => ?_) | refine Gd.intro (fun h5 => ?_) (fun h5 => ?_)) <;> simp (disch := first | omega | simp) [wrap_i64, le_most, lt_omega, le_omega, ne_omega, allLen, h5]
          · rw [if_pos h5] at he
            simp (disch := first | omega | simp) [wrap_i64, le_most, lt_omega, le_omega, ne_omega, allLen, ← he]
          · rw [if_neg h5] at he
            refine CallK.of (c97 _ _) (by first | exact .inl rfl | exact .inr (by simp)) (by simp) ?_
            simp (disch := first | omega | simp) [wrap_i64, le_most, lt_omega, le_omega, ne_omega, allLen, ← he]
      · simp [sdep, h1, h2, h3] at he
        simp (disch := first | omega | simp) [wrap_i64, le_most, lt_omega, le_omega, ne_omega, allLen, ← he, hd]
        omega
    · obtain rfl : k = ls.length := by omega
      rw [List.drop_length, show sdep M [] m = (-1, []) by cases M <;> rfl] at he
      simp (disch := first | omega | simp) [wrap_i64, le_most, lt_omega, le_omega, ne_omega, allLen, ← he]
end Go.Vai
