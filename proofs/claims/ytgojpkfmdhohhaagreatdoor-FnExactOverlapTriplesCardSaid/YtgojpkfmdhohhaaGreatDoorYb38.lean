/- Merged texts of this claim: Zt6, Zt7, Zt8, Zt9, Zt10. -/
import Derived.Test.YtgojpkfmdhohhaaGreatDoorZvE
import Derived.Test.YtgojpkfmdhohhaaGreatDoorZv18
set_option linter.unusedVariables false
set_option linter.unusedSimpArgs false
set_option maxHeartbeats 4000000
namespace Go.Vai
structure Nd where
  kind : Int
  var : Int
  value : Int
  rule : Int
  deriving DecidableEq, Inhabited
def encNd (x : Nd) : List IV := [.int .i64 x.kind, .int .i64 x.var, .int .i64 x.value, .int .i64 x.rule]
@[simp] theorem encNd_len (x : Nd) : (encNd x).length = 4 := rfl
@[simp] theorem encNd_take (x : Nd) : (encNd x).take 4 = encNd x := rfl
/-- The depth of the refutation that begins a list, and the rest behind it. -/
def dep : Nat → List Nd → Option (Nat × List Nd)
  | 0, _ => none
  | _ + 1, [] => none
  | n + 1, x :: r => if x.kind = 3 then some (0, r) else if x.kind = 2 then (match dep n r with
      | none => none
      | some (a, b) => some (a + 1, b))
    else if x.kind = 1 then (match dep n r with
      | none => none
      | some (a, b) => match dep n b with
        | none => none
        | some (c, d) => some (max a c + 1, d))
    else none
theorem dep_len : ∀ (n : Nat) (l : List Nd) (a : Nat) (b : List Nd), dep n l = some (a, b) → a + b.length < l.length
  | 0, l, a, b, h => by simp [dep] at h
  | n + 1, [], a, b, h => by simp [dep] at h
  | n + 1, x :: r, a, b, h => by
    simp only [dep] at h
    split at h
    · simp at h; obtain ⟨rfl, rfl⟩ := h; simp
    · split at h
      · split at h
        · simp at h
        · rename_i a' b' h'
          have := dep_len n r a' b' h'
          simp at h; obtain ⟨rfl, rfl⟩ := h; simp; omega
      · split at h
        · split at h
          · simp at h
          · rename_i a' b' h'
            have h1 := dep_len n r a' b' h'
            split at h
            · simp at h
            · rename_i c d h''
              have h2 := dep_len n b' c d h''
              simp at h; obtain ⟨rfl, rfl⟩ := h; simp; omega
        · simp at h
def depI (o : Option (Nat × List Nd)) : Int := match o with
  | none => -1
  | some (a, _) => a
def depR (o : Option (Nat × List Nd)) : List Nd := match o with
  | none => []
  | some (_, b) => b
end Go.Vai
set_option linter.unusedVariables false
set_option linter.unusedSimpArgs false
set_option maxHeartbeats 4000000
namespace Go.Vai
/-- What the loop finds: the depth or -1, and the rest at which it stands. -/
def sdep : Nat → List Nd → Nat → Int × List Nd
  | 0, l, _ => (-1, l)
  | _ + 1, [], _ => (-1, [])
  | n + 1, x :: r, m => if x.kind = 3 then ((m : Int), r) else if x.kind = 2 then sdep n r (m + 1)
    else if x.kind = 1 then
      if (sdep n r 0).1 < 0 then (-1, (sdep n r 0).2)
      else if (sdep n (sdep n r 0).2 0).1 < 0 then (-1, (sdep n (sdep n r 0).2 0).2)
      else ((m : Int) + 1 + max (sdep n r 0).1 (sdep n (sdep n r 0).2 0).1, (sdep n (sdep n r 0).2 0).2)
    else (-1, x :: r)
theorem sdep_dep : ∀ (n : Nat) (l : List Nd) (m : Nat), match dep n l with
    | none => (sdep n l m).1 = -1
    | some (a, b) => sdep n l m = ((m : Int) + a, b)
  | 0, l, m => by simp [dep, sdep]
  | n + 1, [], m => by simp [dep, sdep]
  | n + 1, x :: r, m => by
    have ih := sdep_dep n r
    simp only [dep, sdep]
    by_cases h1 : x.kind = 3
    · simp [h1]
    by_cases h2 : x.kind = 2
    · have := ih (m + 1)
      simp only [h1, h2, if_true, if_false]
      cases hd : dep n r with
      | none => rw [hd] at this; simpa using this
      | some p => obtain ⟨a, b⟩ := p; rw [hd] at this; simp at this ⊢; rw [this]; simp; omega
    by_cases h3 : x.kind = 1
    · have h4 := ih 0
      simp only [h1, h2, h3, if_true, if_false]
      cases hd : dep n r with
      | none => rw [hd] at h4; simp at h4; simp [h4]
      | some p =>
        obtain ⟨a, b⟩ := p
        rw [hd] at h4; simp at h4
        have h5 := sdep_dep n b 0
        simp only [h4]
        rw [if_neg (by simp)]
        cases hd2 : dep n b with
        | none => rw [hd2] at h5; simp at h5; simp [h5]
        | some q => obtain ⟨c, d⟩ := q; rw [hd2] at h5; simp at h5; simp only [h5]; rw [if_neg (by simp)]; simp; omega
    · simp [h1, h2, h3]
theorem sdep_suffix : ∀ (n : Nat) (l : List Nd) (m : Nat), (sdep n l m).2 <:+ l
  | 0, l, m => by simp [sdep]
  | n + 1, [], m => by simp [sdep]
  | n + 1, x :: r, m => by
    have h1 := sdep_suffix n r
    simp only [sdep]
    split
    · simp
    · split
      · exact (h1 _).trans (List.suffix_cons _ _)
      · split
        · split
          · exact (h1 _).trans (List.suffix_cons _ _)
          · have h2 := (sdep_suffix n (sdep n r 0).2 0).trans ((h1 0).trans (List.suffix_cons x r))
            split
            · exact h2
            · exact h2
        · exact List.suffix_refl _
end Go.Vai
set_option linter.unusedVariables false
set_option linter.unusedSimpArgs false
set_option maxHeartbeats 4000000
namespace Go.Vai
theorem sdep_le (n : Nat) (l : List Nd) (m : Nat) : (sdep n l m).1 ≤ m + l.length ∧ -1 ≤ (sdep n l m).1 := by
  have h := sdep_dep n l m
  cases hd : dep n l with
  | none => rw [hd] at h; simp at h; rw [h]; omega
  | some p => obtain ⟨a, b⟩ := p; rw [hd] at h; simp at h; rw [h]; have := dep_len n l a b hd; simp; omega
end Go.Vai
set_option linter.unusedVariables false
set_option linter.unusedSimpArgs false
set_option maxHeartbeats 4000000
namespace Go.Vai
/-- The depth of a refutation, or -1. -/
def rdep (l : List Nd) : Int := if l.length ≤ 4000 then (match dep l.length l with
  | some (a, []) => a
  | _ => -1) else -1
end Go.Vai
set_option linter.unusedVariables false
set_option linter.unusedSimpArgs false
set_option maxHeartbeats 4000000
namespace Go.Vai
def encI (n : Int) : List IV := [.int .i64 n]
@[simp] theorem encI_len (x : Int) : (encI x).length = 1 := rfl
theorem typedI {n : Nat} {el : List IV} (h : Typed E n 2 el) : ∃ x, el = encI x := by
  cases n with
  | zero => exact h.elim
  | succ n =>
    simp only [Typed, k2] at h
    obtain ⟨x, rfl, -⟩ := h
    exact ⟨x, rfl⟩
theorem typedSlice {α : Type} {enc : α → List IV} {t u : TypeId} (hk : tkOf E t = some (.slice u)) (he : ∀ n el, Typed E n u el → ∃ x, el = enc x) {n : Nat} {el : List IV} (h : Typed E n t el) :
    ∃ xs : List α, el = [.sl (xs.map enc)] ∧ xs.length ≤ maxLen := by
  cases n with
  | zero => exact h.elim
  | succ n =>
    simp only [Typed, hk] at h
    obtain ⟨els, rfl, hl, hx⟩ := h
    obtain ⟨xs, rfl⟩ := exists_map enc els fun el hel => he n el (hx el hel)
    exact ⟨xs, rfl, by simpa using hl⟩
theorem take_eq_of {α : Type} {ls ms : List α} (h1 : ls.length = ms.length) {k : Nat} (hk : ls.length ≤ k) (h : ls.take k = ms.take k) : ls = ms := by
  rwa [List.take_of_length_le hk, List.take_of_length_le (by omega)] at h
theorem take_step {α : Type} {ls ms : List α} {k : Nat} (h1 : k < ls.length) (h2 : k < ms.length) (h : ls.take k = ms.take k) (he : ls[k] = ms[k]) : ls.take (k + 1) = ms.take (k + 1) := by
  rw [List.take_succ_eq_append_getElem h1, List.take_succ_eq_append_getElem h2, h, he]
/-- A certificate. -/
structure Ct where
  kind : Int
  a : Int
  b : Int
  order : List Int
  nodes : List Nd
  deriving DecidableEq
def encC (x : Ct) : List IV := [.int .i64 x.kind, .int .i64 x.a, .int .i64 x.b, .sl (x.order.map encI), .sl (x.nodes.map encNd)]
@[simp] theorem encC_len (x : Ct) : (encC x).length = 5 := rfl
end Go.Vai
