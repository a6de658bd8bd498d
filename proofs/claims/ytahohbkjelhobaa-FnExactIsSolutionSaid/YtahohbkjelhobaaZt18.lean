import Derived.Test.YtahohbkjelhobaaZt17
set_option linter.unusedVariables false
set_option linter.unusedSimpArgs false
set_option maxHeartbeats 4000000
namespace Go.Vai
theorem exists_map' {α β : Type} {q : α → Prop} (f : α → β) : ∀ (l : List β), (∀ x ∈ l, ∃ a, x = f a ∧ q a) → ∃ l2 : List α, l = l2.map f ∧ ∀ a ∈ l2, q a
  | [], _ => ⟨[], rfl, by simp⟩
  | x :: l, h => by
    obtain ⟨a, rfl, ha⟩ := h x (List.mem_cons_self ..)
    obtain ⟨l', rfl, hl⟩ := exists_map' f l fun y hy => h y (List.mem_cons_of_mem _ hy)
    exact ⟨a :: l', rfl, by intro b hb; rcases List.mem_cons.1 hb with rfl | hb; exact ha; exact hl b hb⟩
theorem typedSlice' {α : Type} {enc : α → List IV} {q : α → Prop} {t u : TypeId} (hk : tkOf E t = some (.slice u)) (he : ∀ n el, Typed E n u el → ∃ x, el = enc x ∧ q x) {n : Nat} {el : List IV} (h : Typed E n t el) :
    ∃ xs : List α, el = [.sl (xs.map enc)] ∧ xs.length ≤ maxLen ∧ ∀ x ∈ xs, q x := by
  cases n with
  | zero => exact h.elim
  | succ n =>
    simp only [Typed, hk] at h
    obtain ⟨els, rfl, hl, hx⟩ := h
    obtain ⟨xs, rfl, hq⟩ := exists_map' enc els fun el hel => he n el (hx el hel)
    exact ⟨xs, rfl, by simpa using hl, hq⟩
end Go.Vai
