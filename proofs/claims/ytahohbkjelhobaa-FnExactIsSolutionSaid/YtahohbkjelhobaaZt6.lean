import Derived.Test.YtahohbkjelhobaaZvE
import Derived.Test.YtahohbkjelhobaaZv18
set_option linter.unusedVariables false
set_option linter.unusedSimpArgs false
set_option maxHeartbeats 4000000
namespace Go.Vai
structure Nd where
  kind : Int
  var : Int
  value : Int
  rule : Int
  deriving DecidableEq, Inhabited
def encNd (x : Nd) : List IV := [.int .i64 x.kind, .int .i64 x.var, .int .i64 x.value, .int .i64 x.rule]
@[simp] theorem encNd_len (x : Nd) : (encNd x).length = 4 := rfl
@[simp] theorem encNd_take (x : Nd) : (encNd x).take 4 = encNd x := rfl
theorem typedNd {n : Nat} {el : List IV} (h : Typed E n 115 el) : ∃ x, el = encNd x := by
  cases n with
  | zero => exact h.elim
  | succ n =>
    simp only [Typed, k115, fieldsT] at h
    obtain ⟨a0, b0, rfl, h0, a1, b1, rfl, h1, a2, b2, rfl, h2, a3, b3, rfl, h3, rfl⟩ := h
    cases n with
    | zero => exact h0.elim
    | succ n =>
      simp only [Typed, k2] at h0 h1 h2 h3
      obtain ⟨x0, rfl, -⟩ := h0
      obtain ⟨x1, rfl, -⟩ := h1
      obtain ⟨x2, rfl, -⟩ := h2
      obtain ⟨x3, rfl, -⟩ := h3
      exact ⟨⟨x0, x1, x2, x3⟩, rfl⟩
theorem c79 (x : Nd) : PC E 79 [.agg (encNd x)] [.agg (encNd x)] := by
  refine PC_start hE Proofs.Try.func79 rfl rfl Proofs.Try.ntmps79 (by kernel_rfl) (by kernel_rfl) (by simp) ?_
  simp [encNd]
theorem c81 (x y : Nd) : PC E 81 [.agg (encNd x), .agg (encNd y)] [.i (.bool (decide (x = y)))] := by
  refine PC_start hE Proofs.Try.func81 rfl rfl Proofs.Try.ntmps81 (by kernel_rfl) (by kernel_rfl) (by simp) ?_
  obtain ⟨a0, a1, a2, a3⟩ := x
  obtain ⟨b0, b1, b2, b3⟩ := y
  simp (disch := first | omega | simp) [wrap_i64, le_most, lt_omega, le_omega, ne_omega, allLen, encNd]
  (first | refine Gd.dec (fun h0 => ?_) (fun h0 => ?_) | refine Gd.intro (fun h0 => ?_) (fun h0 => ?_)) <;> simp (disch := first | omega | simp) [wrap_i64, le_most, lt_omega, le_omega, ne_omega, allLen, h0]
  (first | refine Gd.dec (fun h1 => ?_) (fun h1 => ?_) | refine Gd.intro (fun h1 => ?_) (fun h1 => ?_)) <;> simp (disch := first | omega | simp) [wrap_i64, le_most, lt_omega, le_omega, ne_omega, allLen, h1]
  (first | refine Gd.dec (fun h2 => ?_) (fun h2 => ?_) | refine Gd.intro (fun h2 => ?_) (fun h2 => ?_)) <;> simp (disch := first | omega | simp) [wrap_i64, le_most, lt_omega, le_omega, ne_omega, allLen, h2]
  (first | refine Gd.dec (fun h3 => ?_) (fun h3 => ?_) | refine Gd.intro (fun h3 => ?_) (fun h3 => ?_)) <;> simp (disch := first | omega | simp) [wrap_i64, le_most, lt_omega, le_omega, ne_omega, allLen, h3]
@[simp] theorem eqlNd (x y : Nd) : eqOp E .eql 113 (encNd x) (encNd y) = some (.i (.bool (decide (x = y)))) := by
  obtain ⟨a0, a1, a2, a3⟩ := x
  obtain ⟨b0, b1, b2, b3⟩ := y
  simp [encNd, eqOp, eqA, eqFs, partA]
@[simp] theorem neqNd (x y : Nd) : eqOp E .neq 113 (encNd x) (encNd y) = some (.i (.bool (!decide (x = y)))) := by
  obtain ⟨a0, a1, a2, a3⟩ := x
  obtain ⟨b0, b1, b2, b3⟩ := y
  simp [encNd, eqOp, eqA, eqFs, partA]
theorem c36 (ls : List Nd) (n : Int) (h0 : 0 ≤ n) (h1 : n ≤ 1048576) (h : (ls.length : Int) ≤ 9223372036854775807) : PC E 36 [.i (.sl (ls.map encNd)), .i (.int .i64 n)] [.i (.int .i64 (if n - ls.length < 0 then -1 else n - ls.length))] := by
  refine PC_start hE Proofs.Try.func36 rfl rfl Proofs.Try.ntmps36 (by kernel_rfl) (by kernel_rfl) (by simp) ?_
  simp (disch := first | omega | simp) [wrap_i64, le_most, lt_omega, le_omega, ne_omega, allLen]
  (first | refine Gd.dec (fun h2 => ?_) (fun h2 => ?_) | refine Gd.intro (fun h2 => ?_) (fun h2 => ?_)) <;> simp (disch := first | omega | simp) [wrap_i64, le_most, lt_omega, le_omega, ne_omega, allLen, h2]
theorem c38 (ls : List Nd) (h : (ls.length : Int) ≤ 1048576) : PC E 38 [.i (.sl (ls.map encNd))] [.own 4 (ls.map encNd)] := by
  refine PC_start hE Proofs.Try.func38 rfl rfl Proofs.Try.ntmps38 (by kernel_rfl) (by kernel_rfl) (by simp) ?_
  simp (disch := first | omega | simp) [wrap_i64, le_most, lt_omega, le_omega, ne_omega, allLen]
  have hl : (ls.map encNd).length = ls.length := by simp
  refine XL.by hE (ι := { k : Nat // k ≤ ls.length }) (fun k => ⟨[(3, .own 7 0 ls.length), (4, .i (.int .i64 k.1)), (0, .i (.sl (ls.map encNd)))],
    [(7, ⟨4, fill (ls.map encNd) [.int .i64 0, .int .i64 0, .int .i64 0, .int .i64 0] k.1⟩)]⟩) (fun k => ls.length - k.1) ⟨0, Nat.zero_le _⟩ ⟨by simp, by simp [fill_zero], by simp⟩ (by kernel_rfl) ?_
  rintro ⟨k, hk⟩
  by_cases hlt : k < ls.length
  · have hz := fill_get (ls.map encNd) [.int .i64 0, .int .i64 0, .int .i64 0, .int .i64 0] k (by omega)
    have hs := fill_set (ls.map encNd) [.int .i64 0, .int .i64 0, .int .i64 0, .int .i64 0] k (encNd ls[k]) (by simp [hlt])
    simp (disch := first | omega | simp) [wrap_i64, le_most, lt_omega, le_omega, ne_omega, allLen, hlt]
    refine CallK.of (c79 _) (.inl rfl) (by simp) ?_
    simp [encNd] at hs
    simp (disch := first | omega | simp) [wrap_i64, le_most, lt_omega, le_omega, ne_omega, allLen, hlt, hz, hs, encNd]
    (refine ⟨⟨k + 1, by omega⟩, by (simp; try omega), ?_⟩; constructor <;> (simp (disch := first | omega | simp) [wrap_i64, le_most, lt_omega, le_omega, ne_omega, allLen]) <;> (try omega))
  · have hf := fill_all (ls.map encNd) [.int .i64 0, .int .i64 0, .int .i64 0, .int .i64 0] k (by omega)
    simp (disch := first | omega | simp) [wrap_i64, le_most, lt_omega, le_omega, ne_omega, allLen, hlt, hf]
theorem c40 (ls ms : List Nd) (h : (ls.length : Int) ≤ 1048576) (hm : (ms.length : Int) ≤ 1048576) : PC E 40 [.i (.sl (ls.map encNd)), .i (.sl (ms.map encNd))] [.i (.bool (decide (ls = ms)))] := by
  refine PC_start hE Proofs.Try.func40 rfl rfl Proofs.Try.ntmps40 (by kernel_rfl) (by kernel_rfl) (by simp) ?_
  simp (disch := first | omega | simp) [wrap_i64, le_most, lt_omega, le_omega, ne_omega, allLen]
  (first | refine Gd.dec (fun h1 => ?_) (fun h1 => ?_) | refine Gd.intro (fun h1 => ?_) (fun h1 => ?_)) <;> simp (disch := first | omega | simp) [wrap_i64, le_most, lt_omega, le_omega, ne_omega, allLen, h1]
  rotate_left
  · intro e; subst e; exact h1 rfl
  refine XL.by hE (ι := { k : Nat // k ≤ ls.length ∧ ls.take k = ms.take k }) (fun p => ⟨[(5, .i (.int .i64 p.1)), (0, .i (.sl (ls.map encNd))), (1, .i (.sl (ms.map encNd)))], []⟩) (fun p => ls.length - p.1) ⟨0, by simp⟩
    ⟨by simp, by simp, by simp⟩ (by kernel_rfl) ?_
  rintro ⟨k, hk, he⟩
  have hl : ls.length = ms.length := by omega
  by_cases hlt : k < ls.length
  · have hlt' : k < ms.length := by omega
    simp (disch := first | omega | simp) [wrap_i64, le_most, lt_omega, le_omega, ne_omega, allLen, hlt, hlt']
    refine CallK.of (c81 _ _) (.inl rfl) (by simp) ?_
    simp (disch := first | omega | simp) [wrap_i64, le_most, lt_omega, le_omega, ne_omega, allLen, hlt, hlt']
    (first | refine Gd.dec (fun h4 => ?_) (fun h4 => ?_) | refine Gd.intro (fun h4 => ?_) (fun h4 => ?_)) <;> simp (disch := first | omega | simp) [wrap_i64, le_most, lt_omega, le_omega, ne_omega, allLen, h4]
    · have : ls.take (k + 1) = ms.take (k + 1) := by rw [List.take_succ_eq_append_getElem hlt, List.take_succ_eq_append_getElem hlt', he, h4]
      (refine ⟨⟨k + 1, by omega, this⟩, by (simp; try omega), ?_⟩; constructor <;> (simp (disch := first | omega | simp) [wrap_i64, le_most, lt_omega, le_omega, ne_omega, allLen]) <;> (try omega))
    · intro e; subst e; exact h4 rfl
  · obtain rfl : k = ls.length := by omega
    rw [List.take_of_length_le (by omega), List.take_of_length_le (by omega)] at he
    simp (disch := first | omega | simp) [wrap_i64, le_most, lt_omega, le_omega, ne_omega, allLen, hl, he]
/-- The depth of the refutation that begins a list, and the rest behind it. -/
def dep : Nat → List Nd → Option (Nat × List Nd)
  | 0, _ => none
  | _ + 1, [] => none
  | n + 1, x :: r => if x.kind = 3 then some (0, r) else if x.kind = 2 then (match dep n r with
      | none => none
      | some (a, b) => some (a + 1, b))
    else if x.kind = 1 then (match dep n r with
      | none => none
      | some (a, b) => match dep n b with
        | none => none
        | some (c, d) => some (max a c + 1, d))
    else none
theorem dep_len : ∀ (n : Nat) (l : List Nd) (a : Nat) (b : List Nd), dep n l = some (a, b) → a + b.length < l.length
  | 0, l, a, b, h => by simp [dep] at h
  | n + 1, [], a, b, h => by simp [dep] at h
  | n + 1, x :: r, a, b, h => by
    simp only [dep] at h
    split at h
    · simp at h; obtain ⟨rfl, rfl⟩ := h; simp
    · split at h
      · split at h
        · simp at h
        · rename_i a' b' h'
          have := dep_len n r a' b' h'
          simp at h; obtain ⟨rfl, rfl⟩ := h; simp; omega
      · split at h
        · split at h
          · simp at h
          · rename_i a' b' h'
            have h1 := dep_len n r a' b' h'
            split at h
            · simp at h
            · rename_i c d h''
              have h2 := dep_len n b' c d h''
              simp at h; obtain ⟨rfl, rfl⟩ := h; simp; omega
        · simp at h
def depI (o : Option (Nat × List Nd)) : Int := match o with
  | none => -1
  | some (a, _) => a
def depR (o : Option (Nat × List Nd)) : List Nd := match o with
  | none => []
  | some (_, b) => b
end Go.Vai
