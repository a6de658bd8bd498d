import Derived.Test.YtahohbkjelhobaaZt9
set_option linter.unusedVariables false
set_option linter.unusedSimpArgs false
set_option maxHeartbeats 4000000
namespace Go.Vai
def encI (n : Int) : List IV := [.int .i64 n]
@[simp] theorem encI_len (x : Int) : (encI x).length = 1 := rfl
theorem typedI {n : Nat} {el : List IV} (h : Typed E n 2 el) : ∃ x, el = encI x := by
  cases n with
  | zero => exact h.elim
  | succ n =>
    simp only [Typed, k2] at h
    obtain ⟨x, rfl, -⟩ := h
    exact ⟨x, rfl⟩
theorem typedSlice {α : Type} {enc : α → List IV} {t u : TypeId} (hk : tkOf E t = some (.slice u)) (he : ∀ n el, Typed E n u el → ∃ x, el = enc x) {n : Nat} {el : List IV} (h : Typed E n t el) :
    ∃ xs : List α, el = [.sl (xs.map enc)] ∧ xs.length ≤ maxLen := by
  cases n with
  | zero => exact h.elim
  | succ n =>
    simp only [Typed, hk] at h
    obtain ⟨els, rfl, hl, hx⟩ := h
    obtain ⟨xs, rfl⟩ := exists_map enc els fun el hel => he n el (hx el hel)
    exact ⟨xs, rfl, by simpa using hl⟩
theorem c54 (ls : List Int) (n : Int) (h0 : 0 ≤ n) (h1 : n ≤ 1048576) (h : (ls.length : Int) ≤ 9223372036854775807) : PC E 54 [.i (.sl (ls.map encI)), .i (.int .i64 n)] [.i (.int .i64 (if n - ls.length < 0 then -1 else n - ls.length))] := by
  refine PC_start hE Proofs.Try.func54 rfl rfl Proofs.Try.ntmps54 (by kernel_rfl) (by kernel_rfl) (by simp) ?_
  simp (disch := first | omega | simp) [wrap_i64, le_most, lt_omega, le_omega, ne_omega, allLen]
  (first | refine Gd.dec (fun h2 => ?_) (fun h2 => ?_) | refine Gd.intro (fun h2 => ?_) (fun h2 => ?_)) <;> simp (disch := first | omega | simp) [wrap_i64, le_most, lt_omega, le_omega, ne_omega, allLen, h2]
theorem c13 (ls : List Int) (h : (ls.length : Int) ≤ 1048576) : PC E 13 [.i (.sl (ls.map encI))] [.own 1 (ls.map encI)] := by
  refine PC_start hE Proofs.Try.func13 rfl rfl Proofs.Try.ntmps13 (by kernel_rfl) (by kernel_rfl) (by simp) ?_
  simp (disch := first | omega | simp) [wrap_i64, le_most, lt_omega, le_omega, ne_omega, allLen]
  have hl : (ls.map encI).length = ls.length := by simp
  refine XL.by hE (ι := { k : Nat // k ≤ ls.length }) (fun k => ⟨[(3, .own 7 0 ls.length), (4, .i (.int .i64 k.1)), (0, .i (.sl (ls.map encI)))],
    [(7, ⟨1, fill (ls.map encI) [.int .i64 0] k.1⟩)]⟩) (fun k => ls.length - k.1) ⟨0, Nat.zero_le _⟩ ⟨by simp, by simp [fill_zero], by simp⟩ (by kernel_rfl) ?_
  rintro ⟨k, hk⟩
  by_cases hlt : k < ls.length
  · have hz := fill_get (ls.map encI) [.int .i64 0] k (by omega)
    have hs := fill_set (ls.map encI) [.int .i64 0] k (encI ls[k]) (by simp [hlt])
    simp [encI] at hs
    simp (disch := first | omega | simp) [wrap_i64, le_most, lt_omega, le_omega, ne_omega, allLen, hlt, hz, hs, encI]
    (refine ⟨⟨k + 1, by omega⟩, by (simp; try omega), ?_⟩; constructor <;> (simp (disch := first | omega | simp) [wrap_i64, le_most, lt_omega, le_omega, ne_omega, allLen]) <;> (try omega))
  · have hf := fill_all (ls.map encI) [.int .i64 0] k (by omega)
    simp (disch := first | omega | simp) [wrap_i64, le_most, lt_omega, le_omega, ne_omega, allLen, hlt, hf]
theorem take_eq_of {α : Type} {ls ms : List α} (h1 : ls.length = ms.length) {k : Nat} (hk : ls.length ≤ k) (h : ls.take k = ms.take k) : ls = ms := by
  rwa [List.take_of_length_le hk, List.take_of_length_le (by omega)] at h
theorem take_step {α : Type} {ls ms : List α} {k : Nat} (h1 : k < ls.length) (h2 : k < ms.length) (h : ls.take k = ms.take k) (he : ls[k] = ms[k]) : ls.take (k + 1) = ms.take (k + 1) := by
  rw [List.take_succ_eq_append_getElem h1, List.take_succ_eq_append_getElem h2, h, he]
theorem c16 (ls ms : List Int) (h : (ls.length : Int) ≤ 1048576) (hm : (ms.length : Int) ≤ 1048576) : PC E 16 [.i (.sl (ls.map encI)), .i (.sl (ms.map encI))] [.i (.bool (decide (ls = ms)))] := by
  refine PC_start hE Proofs.Try.func16 rfl rfl Proofs.Try.ntmps16 (by kernel_rfl) (by kernel_rfl) (by simp) ?_
  simp (disch := first | omega | simp) [wrap_i64, le_most, lt_omega, le_omega, ne_omega, allLen]
  (first | refine Gd.dec (fun h1 => ?_) (fun h1 => ?_) | refine Gd.intro (fun h1 => ?_) (fun h1 => ?_)) <;> simp (disch := first | omega | simp) [wrap_i64, le_most, lt_omega, le_omega, ne_omega, allLen, h1]
  rotate_left
  · intro e; subst e; exact h1 rfl
  refine XL.by hE (ι := { k : Nat // k ≤ ls.length ∧ ls.take k = ms.take k }) (fun p => ⟨[(5, .i (.int .i64 p.1)), (0, .i (.sl (ls.map encI))), (1, .i (.sl (ms.map encI)))], []⟩) (fun p => ls.length - p.1) ⟨0, by simp⟩
    ⟨by simp, by simp, by simp⟩ (by kernel_rfl) ?_
  rintro ⟨k, hk, he⟩
  have hl : ls.length = ms.length := by omega
  by_cases hlt : k < ls.length
  · have hlt' : k < ms.length := by omega
    simp (disch := first | omega | simp) [wrap_i64, le_most, lt_omega, le_omega, ne_omega, allLen, hlt, hlt', encI]
    (first | refine Gd.dec (fun h4 => ?_) (fun h4 => ?_) | refine Gd.intro (fun h4 => ?_) (fun h4 => ?_)) <;> simp (disch := first | omega | simp) [wrap_i64, le_most, lt_omega, le_omega, ne_omega, allLen, h4]
    · (refine ⟨⟨k + 1, by omega, take_step hlt hlt' he h4⟩, by (simp; try omega), ?_⟩; constructor <;> (simp (disch := first | omega | simp) [wrap_i64, le_most, lt_omega, le_omega, ne_omega, allLen]) <;> (try omega))
    · intro e; subst e; exact h4 rfl
  · obtain rfl : ls = ms := take_eq_of hl (by omega) he
    simp (disch := first | omega | simp) [wrap_i64, le_most, lt_omega, le_omega, ne_omega, allLen, hlt]
theorem c56 (ls ms : List Int) (h : (ls.length : Int) ≤ 1048576) (hm : (ms.length : Int) ≤ 1048576) : PC E 56 [.i (.sl (ls.map encI)), .i (.sl (ms.map encI))] [.i (.bool (decide (ls = ms)))] := by
  refine PC_start hE Proofs.Try.func56 rfl rfl Proofs.Try.ntmps56 (by kernel_rfl) (by kernel_rfl) (by simp) ?_
  simp (disch := first | omega | simp) [wrap_i64, le_most, lt_omega, le_omega, ne_omega, allLen]
  (first | refine Gd.dec (fun h1 => ?_) (fun h1 => ?_) | refine Gd.intro (fun h1 => ?_) (fun h1 => ?_)) <;> simp (disch := first | omega | simp) [wrap_i64, le_most, lt_omega, le_omega, ne_omega, allLen, h1]
  rotate_left
  · intro e; subst e; exact h1 rfl
  refine XL.by hE (ι := { k : Nat // k ≤ ls.length ∧ ls.take k = ms.take k }) (fun p => ⟨[(5, .i (.int .i64 p.1)), (0, .i (.sl (ls.map encI))), (1, .i (.sl (ms.map encI)))], []⟩) (fun p => ls.length - p.1) ⟨0, by simp⟩
    ⟨by simp, by simp, by simp⟩ (by kernel_rfl) ?_
  rintro ⟨k, hk, he⟩
  have hl : ls.length = ms.length := by omega
  by_cases hlt : k < ls.length
  · have hlt' : k < ms.length := by omega
    simp (disch := first | omega | simp) [wrap_i64, le_most, lt_omega, le_omega, ne_omega, allLen, hlt, hlt', encI]
    (first | refine Gd.dec (fun h4 => ?_) (fun h4 => ?_) | refine Gd.intro (fun h4 => ?_) (fun h4 => ?_)) <;> simp (disch := first | omega | simp) [wrap_i64, le_most, lt_omega, le_omega, ne_omega, allLen, h4]
    · (refine ⟨⟨k + 1, by omega, take_step hlt hlt' he h4⟩, by (simp; try omega), ?_⟩; constructor <;> (simp (disch := first | omega | simp) [wrap_i64, le_most, lt_omega, le_omega, ne_omega, allLen]) <;> (try omega))
    · intro e; subst e; exact h4 rfl
  · obtain rfl : ls = ms := take_eq_of hl (by omega) he
    simp (disch := first | omega | simp) [wrap_i64, le_most, lt_omega, le_omega, ne_omega, allLen, hlt]
theorem c60 (ls ms : List Int) (h : (ls.length : Int) ≤ 1048576) (hm : (ms.length : Int) ≤ 1048576) : PC E 60 [.i (.sl (ls.map encI)), .i (.sl (ms.map encI))] [.i (.bool (decide (ls = ms)))] := by
  refine PC_start hE Proofs.Try.func60 rfl rfl Proofs.Try.ntmps60 (by kernel_rfl) (by kernel_rfl) (by simp) ?_
  simp (disch := first | omega | simp) [wrap_i64, le_most, lt_omega, le_omega, ne_omega, allLen]
  (first | refine Gd.dec (fun h1 => ?_) (fun h1 => ?_) | refine Gd.intro (fun h1 => ?_) (fun h1 => ?_)) <;> simp (disch := first | omega | simp) [wrap_i64, le_most, lt_omega, le_omega, ne_omega, allLen, h1]
  rotate_left
  · intro e; subst e; exact h1 rfl
  refine XL.by hE (ι := { k : Nat // k ≤ ls.length ∧ ls.take k = ms.take k }) (fun p => ⟨[(13, .i (.int .i64 p.1)), (12, .i (.int .i64 ms.length)), (0, .i (.sl (ls.map encI))), (1, .i (.sl (ms.map encI)))], []⟩) (fun p => ls.length - p.1) ⟨0, by simp⟩
    ⟨by simp, by simp, by simp⟩ (by kernel_rfl) ?_
  rintro ⟨k, hk, he⟩
  have hl : ls.length = ms.length := by omega
  by_cases hlt : k < ls.length
  · have hlt' : k < ms.length := by omega
    simp (disch := first | omega | simp) [wrap_i64, le_most, lt_omega, le_omega, ne_omega, allLen, hlt, hlt', encI]
    (first | refine Gd.dec (fun h4 => ?_) (fun h4 => ?_) | refine Gd.intro (fun h4 => ?_) (fun h4 => ?_)) <;> simp (disch := first | omega | simp) [wrap_i64, le_most, lt_omega, le_omega, ne_omega, allLen, h4]
    · (refine ⟨⟨k + 1, by omega, take_step hlt hlt' he h4⟩, by (simp; try omega), ?_⟩; constructor <;> (simp (disch := first | omega | simp) [wrap_i64, le_most, lt_omega, le_omega, ne_omega, allLen]) <;> (try omega))
    · intro e; subst e; exact h4 rfl
  · obtain rfl : ls = ms := take_eq_of hl (by omega) he
    simp (disch := first | omega | simp) [wrap_i64, le_most, lt_omega, le_omega, ne_omega, allLen, hlt]
/-- A certificate. -/
structure Ct where
  kind : Int
  a : Int
  b : Int
  order : List Int
  nodes : List Nd
  deriving DecidableEq
def encC (x : Ct) : List IV := [.int .i64 x.kind, .int .i64 x.a, .int .i64 x.b, .sl (x.order.map encI), .sl (x.nodes.map encNd)]
@[simp] theorem encC_len (x : Ct) : (encC x).length = 5 := rfl
end Go.Vai
