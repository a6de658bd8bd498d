import Derived.Test.YtahohbkjelhobaaZt6
set_option linter.unusedVariables false
set_option linter.unusedSimpArgs false
set_option maxHeartbeats 4000000
namespace Go.Vai
/-- What the loop finds: the depth or -1, and the rest at which it stands. -/
def sdep : Nat → List Nd → Nat → Int × List Nd
  | 0, l, _ => (-1, l)
  | _ + 1, [], _ => (-1, [])
  | n + 1, x :: r, m => if x.kind = 3 then ((m : Int), r) else if x.kind = 2 then sdep n r (m + 1)
    else if x.kind = 1 then
      if (sdep n r 0).1 < 0 then (-1, (sdep n r 0).2)
      else if (sdep n (sdep n r 0).2 0).1 < 0 then (-1, (sdep n (sdep n r 0).2 0).2)
      else ((m : Int) + 1 + max (sdep n r 0).1 (sdep n (sdep n r 0).2 0).1, (sdep n (sdep n r 0).2 0).2)
    else (-1, x :: r)
theorem sdep_dep : ∀ (n : Nat) (l : List Nd) (m : Nat), match dep n l with
    | none => (sdep n l m).1 = -1
    | some (a, b) => sdep n l m = ((m : Int) + a, b)
  | 0, l, m => by simp [dep, sdep]
  | n + 1, [], m => by simp [dep, sdep]
  | n + 1, x :: r, m => by
    have ih := sdep_dep n r
    simp only [dep, sdep]
    by_cases h1 : x.kind = 3
    · simp [h1]
    by_cases h2 : x.kind = 2
    · have := ih (m + 1)
      simp only [h1, h2, if_true, if_false]
      cases hd : dep n r with
      | none => rw [hd] at this; simpa using this
      | some p => obtain ⟨a, b⟩ := p; rw [hd] at this; simp at this ⊢; rw [this]; simp; omega
    by_cases h3 : x.kind = 1
    · have h4 := ih 0
      simp only [h1, h2, h3, if_true, if_false]
      cases hd : dep n r with
      | none => rw [hd] at h4; simp at h4; simp [h4]
      | some p =>
        obtain ⟨a, b⟩ := p
        rw [hd] at h4; simp at h4
        have h5 := sdep_dep n b 0
        simp only [h4]
        rw [if_neg (by simp)]
        cases hd2 : dep n b with
        | none => rw [hd2] at h5; simp at h5; simp [h5]
        | some q => obtain ⟨c, d⟩ := q; rw [hd2] at h5; simp at h5; simp only [h5]; rw [if_neg (by simp)]; simp; omega
    · simp [h1, h2, h3]
theorem sdep_suffix : ∀ (n : Nat) (l : List Nd) (m : Nat), (sdep n l m).2 <:+ l
  | 0, l, m => by simp [sdep]
  | n + 1, [], m => by simp [sdep]
  | n + 1, x :: r, m => by
    have h1 := sdep_suffix n r
    simp only [sdep]
    split
    · simp
    · split
      · exact (h1 _).trans (List.suffix_cons _ _)
      · split
        · split
          · exact (h1 _).trans (List.suffix_cons _ _)
          · have h2 := (sdep_suffix n (sdep n r 0).2 0).trans ((h1 0).trans (List.suffix_cons x r))
            split
            · exact h2
            · exact h2
        · exact List.suffix_refl _
end Go.Vai
