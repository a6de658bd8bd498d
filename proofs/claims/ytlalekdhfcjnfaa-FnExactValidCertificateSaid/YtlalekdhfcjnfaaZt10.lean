import Derived.Test.YtlalekdhfcjnfaaZt9
set_option linter.unusedVariables false
set_option linter.unusedSimpArgs false
set_option maxHeartbeats 4000000
namespace Go.Vai
def encI (n : Int) : List IV := [.int .i64 n]
@[simp] theorem encI_len (x : Int) : (encI x).length = 1 := rfl
theorem typedI {n : Nat} {el : List IV} (h : Typed E n 2 el) : ∃ x, el = encI x := by
  cases n with
  | zero => exact h.elim
  | succ n =>
    simp only [Typed, k2] at h
    obtain ⟨x, rfl, -⟩ := h
    exact ⟨x, rfl⟩
theorem typedSlice {α : Type} {enc : α → List IV} {t u : TypeId} (hk : tkOf E t = some (.slice u)) (he : ∀ n el, Typed E n u el → ∃ x, el = enc x) {n : Nat} {el : List IV} (h : Typed E n t el) :
    ∃ xs : List α, el = [.sl (xs.map enc)] ∧ xs.length ≤ maxLen := by
  cases n with
  | zero => exact h.elim
  | succ n =>
    simp only [Typed, hk] at h
    obtain ⟨els, rfl, hl, hx⟩ := h
    obtain ⟨xs, rfl⟩ := exists_map enc els fun el hel => he n el (hx el hel)
    exact ⟨xs, rfl, by simpa using hl⟩
theorem c66 (ls : List Int) (n : Int) (h0 : 0 ≤ n) (h1 : n ≤ 1048576) (h : (ls.length : Int) ≤ 9223372036854775807) : PC E 66 [.i (.sl (ls.map encI)), .i (.int .i64 n)] [.i (.int .i64 (if n - ls.length < 0 then -1 else n - ls.length))] := by
  refine PC_start hE Proofs.Try.func66 rfl rfl Proofs.Try.ntmps66 (by kernel_rfl) (by kernel_rfl) (by simp) ?_
  simp (disch := first | omega | simp) [wrap_i64, le_most, lt_omega, le_omega, ne_omega, allLen]
  (first | refine Gd.dec (fun h2 => ?_) (fun h2 => ?_) | refine Gd.intro (fun h2 => ?_) (fun h2 => ?_)) <;> simp (disch := first | omega | simp) [wrap_i64, le_most, lt_omega, le_omega, ne_omega, allLen, h2]
theorem c40 (ls : List Int) (h : (ls.length : Int) ≤ 1048576) : PC E 40 [.i (.sl (ls.map encI))] [.own 1 (ls.map encI)] := by
  refine PC_start hE Proofs.Try.func40 rfl rfl Proofs.Try.ntmps40 (by kernel_rfl) (by kernel_rfl) (by simp) ?_
  simp (disch := first | omega | simp) [wrap_i64, le_most, lt_omega, le_omega, ne_omega, allLen]
  have hl : (ls.map encI).length = ls.length := by simp
  refine XL.by hE (ι := { k : Nat // k ≤ ls.length }) (fun k => ⟨[(3, .own 7 0 ls.length), (4, .i (.int .i64 k.1)), (0, .i (.sl (ls.map encI)))],
    [(7, ⟨1, fill (ls.map encI) [.int .i64 0] k.1⟩)]⟩) (fun k => ls.length - k.1) ⟨0, Nat.zero_le _⟩ ⟨by simp, by simp [fill_zero], by simp⟩ (by kernel_rfl) ?_
  rintro ⟨k, hk⟩
  by_cases hlt : k < ls.length
  · have hz := fill_get (ls.map encI) [.int .i64 0] k (by omega)
    have hs := fill_set (ls.map encI) [.int .i64 0] k (encI ls[k]) (by simp [hlt])
    simp [encI] at hs
    simp (disch := first | omega | simp) [wrap_i64, le_most, lt_omega, le_omega, ne_omega, allLen, hlt, hz, hs, encI]
    (refine ⟨⟨k + 1, by omega⟩, by (simp; try omega), ?_⟩; constructor <;> (simp (disch := first | omega | simp) [wrap_i64, le_most, lt_omega, le_omega, ne_omega, allLen]) <;> (try omega))
  · have hf := fill_all (ls.map encI) [.int .i64 0] k (by omega)
    simp (disch := first | omega | simp) [wrap_i64, le_most, lt_omega, le_omega, ne_omega, allLen, hlt, hf]
theorem take_eq_of {α : Type} {ls ms : List α} (h1 : ls.length = ms.length) {k : Nat} (hk : ls.length ≤ k) (h : ls.take k = ms.take k) : ls = ms := by
  rwa [List.take_of_length_le hk, List.take_of_length_le (by omega)] at h
theorem take_step {α : Type} {ls ms : List α} {k : Nat} (h1 : k < ls.length) (h2 : k < ms.length) (h : ls.take k = ms.take k) (he : ls[k] = ms[k]) : ls.take (k + 1) = ms.take (k + 1) := by
  rw [List.take_succ_eq_append_getElem h1, List.take_succ_eq_append_getElem h2, h, he]
theorem c43 (ls ms : List Int) (h : (ls.length : Int) ≤ 1048576) (hm : (ms.length : Int) ≤ 1048576) : PC E 43 [.i (.sl (ls.map encI)), .i (.sl (ms.map encI))] [.i (.bool (decide (ls = ms)))] := by
  refine PC_start hE Proofs.Try.func43 rfl rfl Proofs.Try.ntmps43 (by kernel_rfl) (by kernel_rfl) (by simp) ?_
  simp (disch := first | omega | simp) [wrap_i64, le_most, lt_omega, le_omega, ne_omega, allLen]
  (first | refine Gd.dec (fun h1 => ?_) (fun h1 => ?_) | refine Gd.intro (fun h1 => ?_) (fun h1 => ?_)) <;> simp (disch := first | omega | simp) [wrap_i64, le_most, lt_omega, le_omega, ne_omega, allLen, h1]
  rotate_left
  · intro e; subst e; exact h1 rfl
  refine XL.by hE (ι := { k : Nat // k ≤ ls.length ∧ ls.take k = ms.take k }) (fun p => ⟨[(5, .i (.int .i64 p.1)), (0, .i (.sl (ls.map encI))), (1, .i (.sl (ms.map encI)))], []⟩) (fun p => ls.length - p.1) ⟨0, by simp⟩
    ⟨by simp, by simp, by simp⟩ (by kernel_rfl) ?_
  rintro ⟨k, hk, he⟩
  have hl : ls.length = ms.length := by omega
  by_cases hlt : k < ls.length
  · have hlt' : k < ms.length := by omega
    simp (disch := first | omega | simp) [wrap_i64, le_most, lt_omega, le_omega, ne_omega, allLen, hlt, hlt', encI]
    (first | refine Gd.dec (fun h4 => ?_) (fun h4 => ?_) | refine Gd.intro (fun h4 => ?_) (fun h4 => ?_)) <;> simp (disch := first | omega | simp) [wrap_i64, le_most, lt_omega, le_omega, ne_omega, allLen, h4]
    · (refine ⟨⟨k + 1, by omega, take_step hlt hlt' he h4⟩, by (simp; try omega), ?_⟩; constructor <;> (simp (disch := first | omega | simp) [wrap_i64, le_most, lt_omega, le_omega, ne_omega, allLen]) <;> (try omega))
    · intro e; subst e; exact h4 rfl
  · obtain rfl : ls = ms := take_eq_of hl (by omega) he
    simp (disch := first | omega | simp) [wrap_i64, le_most, lt_omega, le_omega, ne_omega, allLen, hlt]
theorem c67 (ls ms : List Int) (h : (ls.length : Int) ≤ 1048576) (hm : (ms.length : Int) ≤ 1048576) : PC E 67 [.i (.sl (ls.map encI)), .i (.sl (ms.map encI))] [.i (.bool (decide (ls = ms)))] := by
  refine PC_start hE Proofs.Try.func67 rfl rfl Proofs.Try.ntmps67 (by kernel_rfl) (by kernel_rfl) (by simp) ?_
  simp (disch := first | omega | simp) [wrap_i64, le_most, lt_omega, le_omega, ne_omega, allLen]
  (first | refine Gd.dec (fun h1 => ?_) (fun h1 => ?_) | refine Gd.intro (fun h1 => ?_) (fun h1 => ?_)) <;> simp (disch := first | omega | simp) [wrap_i64, le_most, lt_omega, le_omega, ne_omega, allLen, h1]
  rotate_left
  · intro e; subst e; exact h1 rfl
  refine XL.by hE (ι := { k : Nat // k ≤ ls.length ∧ ls.take k = ms.take k }) (fun p => ⟨[(5, .i (.int .i64 p.1)), (0, .i (.sl (ls.map encI))), (1, .i (.sl (ms.map encI)))], []⟩) (fun p => ls.length - p.1) ⟨0, by simp⟩
    ⟨by simp, by simp, by simp⟩ (by kernel_rfl) ?_
  rintro ⟨k, hk, he⟩
  have hl : ls.length = ms.length := by omega
  by_cases hlt : k < ls.length
  · have hlt' : k < ms.length := by omega
    simp (disch := first | omega | simp) [wrap_i64, le_most, lt_omega, le_omega, ne_omega, allLen, hlt, hlt', encI]
    (first | refine Gd.dec (fun h4 => ?_) (fun h4 => ?_) | refine Gd.intro (fun h4 => ?_) (fun h4 => ?_)) <;> simp (disch := first | omega | simp) [wrap_i64, le_most, lt_omega, le_omega, ne_omega, allLen, h4]
    · (refine ⟨⟨k + 1, by omega, take_step hlt hlt' he h4⟩, by (simp; try omega), ?_⟩; constructor <;> (simp (disch := first | omega | simp) [wrap_i64, le_most, lt_omega, le_omega, ne_omega, allLen]) <;> (try omega))
    · intro e; subst e; exact h4 rfl
  · obtain rfl : ls = ms := take_eq_of hl (by omega) he
    simp (disch := first | omega | simp) [wrap_i64, le_most, lt_omega, le_omega, ne_omega, allLen, hlt]
theorem c68 (ls ms : List Int) (h : (ls.length : Int) ≤ 1048576) (hm : (ms.length : Int) ≤ 1048576) : PC E 68 [.i (.sl (ls.map encI)), .i (.sl (ms.map encI))] [.i (.bool (decide (ls = ms)))] := by
  refine PC_start hE Proofs.Try.func68 rfl rfl Proofs.Try.ntmps68 (by kernel_rfl) (by kernel_rfl) (by simp) ?_
  simp (disch := first | omega | simp) [wrap_i64, le_most, lt_omega, le_omega, ne_omega, allLen]
  (first | refine Gd.dec (fun h1 => ?_) (fun h1 => ?_) | refine Gd.intro (fun h1 => ?_) (fun h1 => ?_)) <;> simp (disch := first | omega | simp) [wrap_i64, le_most, lt_omega, le_omega, ne_omega, allLen, h1]
  rotate_left
  · intro e; subst e; exact h1 rfl
  refine XL.by hE (ι := { k : Nat // k ≤ ls.length ∧ ls.take k = ms.take k }) (fun p => ⟨[(13, .i (.int .i64 p.1)), (12, .i (.int .i64 ms.length)), (0, .i (.sl (ls.map encI))), (1, .i (.sl (ms.map encI)))], []⟩) (fun p => ls.length - p.1) ⟨0, by simp⟩
    ⟨by simp, by simp, by simp⟩ (by kernel_rfl) ?_
  rintro ⟨k, hk, he⟩
  have hl : ls.length = ms.length := by omega
  by_cases hlt : k < ls.length
  · have hlt' : k < ms.length := by omega
    simp (disch := first | omega | simp) [wrap_i64, le_most, lt_omega, le_omega, ne_omega, allLen, hlt, hlt', encI]
    (first | refine Gd.dec (fun h4 => ?_) (fun h4 => ?_) | refine Gd.intro (fun h4 => ?_) (fun h4 => ?_)) <;> simp (disch := first | omega | simp) [wrap_i64, le_most, lt_omega, le_omega, ne_omega, allLen, h4]
    · (refine ⟨⟨k + 1, by omega, take_step hlt hlt' he h4⟩, by (simp; try omega), ?_⟩; constructor <;> (simp (disch := first | omega | simp) [wrap_i64, le_most, lt_omega, le_omega, ne_omega, allLen]) <;> (try omega))
    · intro e; subst e; exact h4 rfl
  · obtain rfl : ls = ms := take_eq_of hl (by omega) he
    simp (disch := first | omega | simp) [wrap_i64, le_most, lt_omega, le_omega, ne_omega, allLen, hlt]
theorem c69 (ls ms : List Nd) (h : (ls.length : Int) ≤ 1048576) (hm : (ms.length : Int) ≤ 1048576) : PC E 69 [.i (.sl (ls.map encNd)), .i (.sl (ms.map encNd))] [.i (.bool (decide (ls = ms)))] := by
  refine PC_start hE Proofs.Try.func69 rfl rfl Proofs.Try.ntmps69 (by kernel_rfl) (by kernel_rfl) (by simp) ?_
  simp (disch := first | omega | simp) [wrap_i64, le_most, lt_omega, le_omega, ne_omega, allLen]
  (first | refine Gd.dec (fun h1 => ?_) (fun h1 => ?_) | refine Gd.intro (fun h1 => ?_) (fun h1 => ?_)) <;> simp (disch := first | omega | simp) [wrap_i64, le_most, lt_omega, le_omega, ne_omega, allLen, h1]
  rotate_left
  · intro e; subst e; exact h1 rfl
  refine XL.by hE (ι := { k : Nat // k ≤ ls.length ∧ ls.take k = ms.take k }) (fun p => ⟨[(13, .i (.int .i64 p.1)), (12, .i (.int .i64 ms.length)), (0, .i (.sl (ls.map encNd))), (1, .i (.sl (ms.map encNd)))], []⟩) (fun p => ls.length - p.1) ⟨0, by simp⟩
    ⟨by simp, by simp, by simp⟩ (by kernel_rfl) ?_
  rintro ⟨k, hk, he⟩
  have hl : ls.length = ms.length := by omega
  by_cases hlt : k < ls.length
  · have hlt' : k < ms.length := by omega
    simp (disch := first | omega | simp) [wrap_i64, le_most, lt_omega, le_omega, ne_omega, allLen, hlt, hlt']
    (first | refine Gd.dec (fun h4 => ?_) (fun h4 => ?_) | refine Gd.intro (fun h4 => ?_) (fun h4 => ?_)) <;> simp (disch := first | omega | simp) [wrap_i64, le_most, lt_omega, le_omega, ne_omega, allLen, h4]
    · (refine ⟨⟨k + 1, by omega, take_step hlt hlt' he h4⟩, by (simp; try omega), ?_⟩; constructor <;> (simp (disch := first | omega | simp) [wrap_i64, le_most, lt_omega, le_omega, ne_omega, allLen]) <;> (try omega))
    · intro e; subst e; exact h4 rfl
  · obtain rfl : ls = ms := take_eq_of hl (by omega) he
    simp (disch := first | omega | simp) [wrap_i64, le_most, lt_omega, le_omega, ne_omega, allLen, hlt]
/-- A certificate. -/
structure Ct where
  kind : Int
  a : Int
  b : Int
  order : List Int
  nodes : List Nd
  deriving DecidableEq
def encC (x : Ct) : List IV := [.int .i64 x.kind, .int .i64 x.a, .int .i64 x.b, .sl (x.order.map encI), .sl (x.nodes.map encNd)]
@[simp] theorem encC_len (x : Ct) : (encC x).length = 5 := rfl
theorem c29 (x : Ct) (h1 : (x.order.length : Int) ≤ 1048576) (h2 : (x.nodes.length : Int) ≤ 1048576) : PC E 29 [.agg (encC x)] [.agg (encC x)] := by
  refine PC_start hE Proofs.Try.func29 rfl rfl Proofs.Try.ntmps29 (by kernel_rfl) (by kernel_rfl) (by simp) ?_
  simp (disch := first | omega | simp) [wrap_i64, le_most, lt_omega, le_omega, ne_omega, allLen, encC]
  refine CallK.of ((c40 x.order h1).imm) (by first | exact .inl rfl | exact .inr (by simp)) (by simp) ?_
  simp (disch := first | omega | simp) [wrap_i64, le_most, lt_omega, le_omega, ne_omega, allLen, encC]
  refine CallK.of ((c24 x.nodes h2).imm) (by first | exact .inl rfl | exact .inr (by simp)) (by simp) ?_
  simp (disch := first | omega | simp) [wrap_i64, le_most, lt_omega, le_omega, ne_omega, allLen, encC]
theorem c27 (x : Ct) (n : Int) (h0 : 0 ≤ n) (h1 : n ≤ 1048576) (h2 : (x.order.length : Int) ≤ 9223372036854775807) (h3 : (x.nodes.length : Int) ≤ 9223372036854775807) :
    PC E 27 [.agg (encC x), .i (.int .i64 n)] [.i (.int .i64 (if n - x.order.length - x.nodes.length < 0 then -1 else n - x.order.length - x.nodes.length))] := by
  refine PC_start hE Proofs.Try.func27 rfl rfl Proofs.Try.ntmps27 (by kernel_rfl) (by kernel_rfl) (by simp) ?_
  simp (disch := first | omega | simp) [wrap_i64, le_most, lt_omega, le_omega, ne_omega, allLen, encC]
  refine CallK.of (c66 x.order n h0 h1 h2) (by first | exact .inl rfl | exact .inr (by simp)) (by simp) ?_
  simp (disch := first | omega | simp) [wrap_i64, le_most, lt_omega, le_omega, ne_omega, allLen]
  (first | refine Gd.dec (fun h4 => ?_) (fun h4 => ?_) | refine Gd.intro (fun h4 => ?_) (fun h4 => ?_)) <;> simp (disch := first | omega | simp) [wrap_i64, le_most, lt_omega, le_omega, ne_omega, allLen, h4]
  have h5 : ¬ n - x.order.length < 0 := by split at h4 <;> omega
  rw [if_neg h5]
  refine CallK.of (c22 x.nodes (n - x.order.length) (by omega) (by omega) h3) (by first | exact .inl rfl | exact .inr (by simp)) (by simp) ?_
  simp (disch := first | omega | simp) [wrap_i64, le_most, lt_omega, le_omega, ne_omega, allLen]
  (first | refine Gd.dec (fun h6 => ?_) (fun h6 => ?_) | refine Gd.intro (fun h6 => ?_) (fun h6 => ?_)) <;> simp (disch := first | omega | simp) [wrap_i64, le_most, lt_omega, le_omega, ne_omega, allLen, h6]
theorem c31 (x y : Ct) (h1 : (x.order.length : Int) ≤ 1048576) (h2 : (x.nodes.length : Int) ≤ 1048576) (h3 : (y.order.length : Int) ≤ 1048576) (h4 : (y.nodes.length : Int) ≤ 1048576) :
    PC E 31 [.agg (encC x), .agg (encC y)] [.i (.bool (decide (x = y)))] := by
  refine PC_start hE Proofs.Try.func31 rfl rfl Proofs.Try.ntmps31 (by kernel_rfl) (by kernel_rfl) (by simp) ?_
  obtain ⟨k, a, b, o, n⟩ := x
  obtain ⟨k', a', b', o', n'⟩ := y
  simp (disch := first | omega | simp) [wrap_i64, le_most, lt_omega, le_omega, ne_omega, allLen, encC]
  (first | refine Gd.dec (fun h5 => ?_) (fun h5 => ?_) | refine Gd.intro (fun h5 => ?_) (fun h5 => ?_)) <;> simp (disch := first | omega | simp) [wrap_i64, le_most, lt_omega, le_omega, ne_omega, allLen, h5]
  (first | refine Gd.dec (fun h6 => ?_) (fun h6 => ?_) | refine Gd.intro (fun h6 => ?_) (fun h6 => ?_)) <;> simp (disch := first | omega | simp) [wrap_i64, le_most, lt_omega, le_omega, ne_omega, allLen, h6]
  (first | refine Gd.dec (fun h7 => ?_) (fun h7 => ?_) | refine Gd.intro (fun h7 => ?_) (fun h7 => ?_)) <;> simp (disch := first | omega | simp) [wrap_i64, le_most, lt_omega, le_omega, ne_omega, allLen, h7]
  refine CallK.of (c43 _ _ h1 h3) (by first | exact .inl rfl | exact .inr (by simp)) (by simp) ?_
  simp (disch := first | omega | simp) [wrap_i64, le_most, lt_omega, le_omega, ne_omega, allLen]
  (first | refine Gd.dec (fun h8 => ?_) (fun h8 => ?_) | refine Gd.intro (fun h8 => ?_) (fun h8 => ?_)) <;> simp (disch := first | omega | simp) [wrap_i64, le_most, lt_omega, le_omega, ne_omega, allLen, h8]
  refine CallK.of (c26 _ _ h2 h4) (by first | exact .inl rfl | exact .inr (by simp)) (by simp) ?_
  simp (disch := first | omega | simp) [wrap_i64, le_most, lt_omega, le_omega, ne_omega, allLen]
  (first | refine Gd.dec (fun h9 => ?_) (fun h9 => ?_) | refine Gd.intro (fun h9 => ?_) (fun h9 => ?_)) <;> simp (disch := first | omega | simp) [wrap_i64, le_most, lt_omega, le_omega, ne_omega, allLen, h9]
theorem c30 (x y : Ct) (h1 : (x.order.length : Int) ≤ 1048576) (h2 : (x.nodes.length : Int) ≤ 1048576) (h3 : (y.order.length : Int) ≤ 1048576) (h4 : (y.nodes.length : Int) ≤ 1048576) :
    PC E 30 [.agg (encC x), .agg (encC y)] [.i (.bool (decide (x = y)))] := by
  refine PC_start hE Proofs.Try.func30 rfl rfl Proofs.Try.ntmps30 (by kernel_rfl) (by kernel_rfl) (by simp) ?_
  obtain ⟨k, a, b, o, n⟩ := x
  obtain ⟨k', a', b', o', n'⟩ := y
  simp (disch := first | omega | simp) [wrap_i64, le_most, lt_omega, le_omega, ne_omega, allLen, encC]
  (first | refine Gd.dec (fun h5 => ?_) (fun h5 => ?_) | refine Gd.intro (fun h5 => ?_) (fun h5 => ?_)) <;> simp (disch := first | omega | simp) [wrap_i64, le_most, lt_omega, le_omega, ne_omega, allLen, h5]
  (first | refine Gd.dec (fun h6 => ?_) (fun h6 => ?_) | refine Gd.intro (fun h6 => ?_) (fun h6 => ?_)) <;> simp (disch := first | omega | simp) [wrap_i64, le_most, lt_omega, le_omega, ne_omega, allLen, h6]
  (first | refine Gd.dec (fun h7 => ?_) (fun h7 => ?_) | refine Gd.intro (fun h7 => ?_) (fun h7 => ?_)) <;> simp (disch := first | omega | simp) [wrap_i64, le_most, lt_omega, le_omega, ne_omega, allLen, h7]
  refine CallK.of (c68 _ _ h1 h3) (by first | exact .inl rfl | exact .inr (by simp)) (by simp) ?_
  simp (disch := first | omega | simp) [wrap_i64, le_most, lt_omega, le_omega, ne_omega, allLen]
  (first | refine Gd.dec (fun h8 => ?_) (fun h8 => ?_) | refine Gd.intro (fun h8 => ?_) (fun h8 => ?_)) <;> simp (disch := first | omega | simp) [wrap_i64, le_most, lt_omega, le_omega, ne_omega, allLen, h8]
  refine CallK.of (c69 _ _ h2 h4) (by first | exact .inl rfl | exact .inr (by simp)) (by simp) ?_
  simp (disch := first | omega | simp) [wrap_i64, le_most, lt_omega, le_omega, ne_omega, allLen]
theorem c28 (x y : Ct) (h1 : (x.order.length : Int) ≤ 1048576) (h2 : (x.nodes.length : Int) ≤ 1048576) (h3 : (y.order.length : Int) ≤ 1048576) (h4 : (y.nodes.length : Int) ≤ 1048576) :
    PC E 28 [.agg (encC x), .agg (encC y)] [.i (.bool (decide (x = y)))] := by
  refine PC_start hE Proofs.Try.func28 rfl rfl Proofs.Try.ntmps28 (by kernel_rfl) (by kernel_rfl) (by simp) ?_
  obtain ⟨k, a, b, o, n⟩ := x
  obtain ⟨k', a', b', o', n'⟩ := y
  simp (disch := first | omega | simp) [wrap_i64, le_most, lt_omega, le_omega, ne_omega, allLen, encC]
  (first | refine Gd.dec (fun h5 => ?_) (fun h5 => ?_) | refine Gd.intro (fun h5 => ?_) (fun h5 => ?_)) <;> simp (disch := first | omega | simp) [wrap_i64, le_most, lt_omega, le_omega, ne_omega, allLen, h5]
  (first | refine Gd.dec (fun h6 => ?_) (fun h6 => ?_) | refine Gd.intro (fun h6 => ?_) (fun h6 => ?_)) <;> simp (disch := first | omega | simp) [wrap_i64, le_most, lt_omega, le_omega, ne_omega, allLen, h6]
  (first | refine Gd.dec (fun h7 => ?_) (fun h7 => ?_) | refine Gd.intro (fun h7 => ?_) (fun h7 => ?_)) <;> simp (disch := first | omega | simp) [wrap_i64, le_most, lt_omega, le_omega, ne_omega, allLen, h7]
  refine CallK.of (c67 _ _ h1 h3) (by first | exact .inl rfl | exact .inr (by simp)) (by simp) ?_
  simp (disch := first | omega | simp) [wrap_i64, le_most, lt_omega, le_omega, ne_omega, allLen]
  (first | refine Gd.dec (fun h8 => ?_) (fun h8 => ?_) | refine Gd.intro (fun h8 => ?_) (fun h8 => ?_)) <;> simp (disch := first | omega | simp) [wrap_i64, le_most, lt_omega, le_omega, ne_omega, allLen, h8]
  (first | refine Gd.dec (fun h9 => ?_) (fun h9 => ?_) | refine Gd.intro (fun h9 => ?_) (fun h9 => ?_)) <;> simp (disch := first | omega | simp) [wrap_i64, le_most, lt_omega, le_omega, ne_omega, allLen, h9]
  rotate_left
  · intro e; subst e; exact h9 rfl
  have h2' : (n.length : Int) ≤ 1048576 := h2
  refine XL.by hE (ι := { k : Nat // k ≤ n.length ∧ n.take k = n'.take k }) (fun p => ⟨[(5, .i (.int .i64 p.1)), (2, .i (.ptr (encC ⟨k', a', b', o', n⟩))), (3, .i (.ptr (encC ⟨k', a', b', o', n'⟩)))], []⟩) (fun p => n.length - p.1) ⟨0, by simp⟩
    ⟨by simp [encC], by simp, by simp⟩ (by kernel_rfl) ?_
  rintro ⟨k, hk, he⟩
  have hl : n.length = n'.length := by omega
  by_cases hlt : k < n.length
  · have hlt' : k < n'.length := by omega
    simp (disch := first | omega | simp) [wrap_i64, le_most, lt_omega, le_omega, ne_omega, allLen, hlt, hlt', encC]
    (first | refine Gd.dec (fun h10 => ?_) (fun h10 => ?_) | refine Gd.intro (fun h10 => ?_) (fun h10 => ?_)) <;> simp (disch := first | omega | simp) [wrap_i64, le_most, lt_omega, le_omega, ne_omega, allLen, h10]
    · (refine ⟨⟨k + 1, by omega, take_step hlt hlt' he h10⟩, by (simp; try omega), ?_⟩; constructor <;> (simp (disch := first | omega | simp) [wrap_i64, le_most, lt_omega, le_omega, ne_omega, allLen, encC]) <;> (try omega))
    · intro e; subst e; exact h10 rfl
  · obtain rfl : n = n' := take_eq_of hl (by omega) he
    simp (disch := first | omega | simp) [wrap_i64, le_most, lt_omega, le_omega, ne_omega, allLen, hlt, encC]
end Go.Vai
