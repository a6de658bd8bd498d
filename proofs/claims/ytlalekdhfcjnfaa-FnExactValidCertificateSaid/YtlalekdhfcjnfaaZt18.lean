import Derived.Test.YtlalekdhfcjnfaaZt17
set_option linter.unusedVariables false
set_option linter.unusedSimpArgs false
set_option maxHeartbeats 4000000
namespace Go.Vai
theorem exists_map' {α β : Type} {q : α → Prop} (f : α → β) : ∀ (l : List β), (∀ x ∈ l, ∃ a, x = f a ∧ q a) → ∃ l2 : List α, l = l2.map f ∧ ∀ a ∈ l2, q a
  | [], _ => ⟨[], rfl, by simp⟩
  | x :: l, h => by
    obtain ⟨a, rfl, ha⟩ := h x (List.mem_cons_self ..)
    obtain ⟨l', rfl, hl⟩ := exists_map' f l fun y hy => h y (List.mem_cons_of_mem _ hy)
    exact ⟨a :: l', rfl, by intro b hb; rcases List.mem_cons.1 hb with rfl | hb; exact ha; exact hl b hb⟩
theorem typedSlice' {α : Type} {enc : α → List IV} {q : α → Prop} {t u : TypeId} (hk : tkOf E t = some (.slice u)) (he : ∀ n el, Typed E n u el → ∃ x, el = enc x ∧ q x) {n : Nat} {el : List IV} (h : Typed E n t el) :
    ∃ xs : List α, el = [.sl (xs.map enc)] ∧ xs.length ≤ maxLen ∧ ∀ x ∈ xs, q x := by
  cases n with
  | zero => exact h.elim
  | succ n =>
    simp only [Typed, hk] at h
    obtain ⟨els, rfl, hl, hx⟩ := h
    obtain ⟨xs, rfl, hq⟩ := exists_map' enc els fun el hel => he n el (hx el hel)
    exact ⟨xs, rfl, by simpa using hl, hq⟩
theorem c8 (ls : List Ru) (vars : Int) (h : ls.length ≤ maxLen) (hf : ∀ x ∈ ls, x.fine) : PC E 8 [.i (.sl (ls.map encR)), .i (.int .i64 vars)] [.i (.bool true)] := by
  refine PC_start hE Proofs.Try.func8 rfl rfl Proofs.Try.ntmps8 (by kernel_rfl) (by kernel_rfl) (by simp) ?_
  simp (disch := first | omega | simp) [wrap_i64, le_most, lt_omega, le_omega, ne_omega, allLen]
  refine CallK.of (c32 ls 1048576 (by omega) (by omega) h hf) (by first | exact .inl rfl | exact .inr (by simp)) (by simp) ?_
  simp (disch := first | omega | simp) [wrap_i64, le_most, lt_omega, le_omega, ne_omega, allLen]
  (first | refine Gd.dec (fun h1 => ?_) (fun h1 => ?_) | refine Gd.intro (fun h1 => ?_) (fun h1 => ?_)) <;> simp (disch := first | omega | simp) [wrap_i64, le_most, lt_omega, le_omega, ne_omega, allLen, h1]
  have h2 : ¬ (1048576 : Int) - ls.length - rsum ls < 0 := by split at h1 <;> omega
  have g1 : (ls.length : Int) ≤ 1048576 := by omega
  have g2 : (rsum ls : Int) ≤ 1048576 := by omega
  refine CallK.of (c34 ls g1 g2) (by first | exact .inl rfl | exact .inr (by simp)) (by simp) ?_
  simp (disch := first | omega | simp) [wrap_i64, le_most, lt_omega, le_omega, ne_omega, allLen]
  refine CallK.of (c33 ls vars g1 g2) (by first | exact .inl rfl | exact .inr (by simp)) (by simp) ?_
  simp (disch := first | omega | simp) [wrap_i64, le_most, lt_omega, le_omega, ne_omega, allLen]
  refine CallK.of (c34 ls g1 g2) (by first | exact .inl rfl | exact .inr (by simp)) (by simp) ?_
  simp (disch := first | omega | simp) [wrap_i64, le_most, lt_omega, le_omega, ne_omega, allLen]
  refine CallK.of (c35 ls vars g1 g2) (by first | exact .inl rfl | exact .inr (by simp)) (by simp) ?_
  simp (disch := first | omega | simp) [wrap_i64, le_most, lt_omega, le_omega, ne_omega, allLen]
  refine CallK.of (c34 ls g1 g2) (by first | exact .inl rfl | exact .inr (by simp)) (by simp) ?_
  simp (disch := first | omega | simp) [wrap_i64, le_most, lt_omega, le_omega, ne_omega, allLen]
  refine CallK.of (c36 ls ls g1 g1 g2 g2) (by first | exact .inl rfl | exact .inr (by simp)) (by simp) ?_
  simp (disch := first | omega | simp) [wrap_i64, le_most, lt_omega, le_omega, ne_omega, allLen]
end Go.Vai
