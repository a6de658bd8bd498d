import Derived.Test.YtahohbkjelhobaaZt13
set_option linter.unusedVariables false
set_option linter.unusedSimpArgs false
set_option maxHeartbeats 4000000
namespace Go.Vai
def rsum (l : List Ru) : Nat := (l.map Ru.sz).sum
theorem rsum_step {l : List Ru} {k : Nat} (hk : k < l.length) : rsum (l.take (k + 1)) = rsum (l.take k) + l[k].sz := by
  rw [List.take_succ_eq_append_getElem hk]; simp only [rsum, List.map_append, List.sum_append, List.map_cons, List.map_nil, List.sum_cons, List.sum_nil]; omega
theorem rsum_le (l : List Ru) (k : Nat) : rsum (l.take k) ≤ rsum l := by
  have : rsum (l.take k ++ l.drop k) = rsum (l.take k) + rsum (l.drop k) := by simp only [rsum, List.map_append, List.sum_append]
  rw [List.take_append_drop] at this; omega
theorem rsum_get {l : List Ru} {k : Nat} (hk : k < l.length) : l[k].sz ≤ rsum l := by
  have h1 := rsum_step hk
  have h2 := rsum_le l (k + 1)
  omega
def Ru.fine (x : Ru) : Prop := x.vars.length ≤ maxLen ∧ x.signs.length ≤ maxLen
theorem c10 (ls : List Ru) (n : Int) (h0 : 0 ≤ n) (h1 : n ≤ 1048576) (h : ls.length ≤ maxLen) (hf : ∀ x ∈ ls, x.fine) :
    PC E 10 [.i (.sl (ls.map encR)), .i (.int .i64 n)] [.i (.int .i64 (if n - ls.length - rsum ls < 0 then -1 else n - ls.length - rsum ls))] := by
  have m : maxLen = 9223372036854775807 := by decide
  refine PC_start hE Proofs.Try.func10 rfl rfl Proofs.Try.ntmps10 (by kernel_rfl) (by kernel_rfl) (by simp) ?_
  simp (disch := first | omega | simp) [wrap_i64, le_most, lt_omega, le_omega, ne_omega, allLen]
  (first | refine Gd.dec (fun h2 => ?_) (fun h2 => ?_) | refine Gd.intro (fun h2 => ?_) (fun h2 => ?_)) <;> simp (disch := first | omega | simp) [wrap_i64, le_most, lt_omega, le_omega, ne_omega, allLen, h2]
  refine XL.by hE (ι := { k : Nat // k ≤ ls.length ∧ 0 ≤ n - ls.length - rsum (ls.take k) }) (fun k => ⟨[(0, .i (.sl (ls.map encR))), (1, .i (.int .i64 (n - ls.length - rsum (ls.take k.1)))), (5, .i (.int .i64 k.1))], []⟩)
    (fun k => ls.length - k.1) ⟨0, Nat.zero_le _, by simp [rsum]; omega⟩ ⟨by simp [rsum], by simp, by simp⟩ (by kernel_rfl) ?_
  rintro ⟨k, hk, hs⟩
  have hle := rsum_le ls k
  by_cases hlt : k < ls.length
  · have hst := rsum_step hlt
    have hle2 := rsum_le ls (k + 1)
    have hx := hf _ (List.getElem_mem hlt)
    simp (disch := first | omega | simp) [wrap_i64, le_most, lt_omega, le_omega, ne_omega, allLen, hlt]
    refine CallK.of (c22 ls[k] _ hs (by omega) hx.1 hx.2) (by first | exact .inl rfl | exact .inr (by simp)) (by simp) ?_
    simp (disch := first | omega | simp) [wrap_i64, le_most, lt_omega, le_omega, ne_omega, allLen]
    (first | refine Gd.dec (fun h4 => ?_) (fun h4 => ?_) | refine Gd.intro (fun h4 => ?_) (fun h4 => ?_)) <;> simp (disch := first | omega | simp) [wrap_i64, le_most, lt_omega, le_omega, ne_omega, allLen, h4]
    have h5 : ¬ n - ls.length - rsum (ls.take k) - ls[k].sz < 0 := by split at h4 <;> omega
    (refine ⟨⟨k + 1, by omega, by omega⟩, by (simp; try omega), ?_⟩; constructor <;> (simp (disch := first | omega | simp) [wrap_i64, le_most, lt_omega, le_omega, ne_omega, allLen, h5, hst]) <;> (try omega))
  · obtain rfl : k = ls.length := by omega
    rw [List.take_length] at hs
    simp (disch := first | omega | simp) [wrap_i64, le_most, lt_omega, le_omega, ne_omega, allLen]
theorem c12 (ls : List Ru) (h : (ls.length : Int) ≤ 1048576) (hr : (rsum ls : Int) ≤ 1048576) : PC E 12 [.i (.sl (ls.map encR))] [.own 3 (ls.map encR)] := by
  refine PC_start hE Proofs.Try.func12 rfl rfl Proofs.Try.ntmps12 (by kernel_rfl) (by kernel_rfl) (by simp) ?_
  simp (disch := first | omega | simp) [wrap_i64, le_most, lt_omega, le_omega, ne_omega, allLen]
  have hl : (ls.map encR).length = ls.length := by simp
  refine XL.by hE (ι := { k : Nat // k ≤ ls.length }) (fun k => ⟨[(3, .own 7 0 ls.length), (4, .i (.int .i64 k.1)), (0, .i (.sl (ls.map encR)))],
    [(7, ⟨3, fill (ls.map encR) [.int .i64 0, .sl [], .sl []] k.1⟩)]⟩) (fun k => ls.length - k.1) ⟨0, Nat.zero_le _⟩ ⟨by simp, by simp [fill_zero], by simp⟩ (by kernel_rfl) ?_
  rintro ⟨k, hk⟩
  by_cases hlt : k < ls.length
  · have hz := fill_get (ls.map encR) [.int .i64 0, .sl [], .sl []] k (by omega)
    have hs := fill_set (ls.map encR) [.int .i64 0, .sl [], .sl []] k (encR ls[k]) (by simp [hlt])
    have hg := rsum_get hlt
    simp (disch := first | omega | simp) [wrap_i64, le_most, lt_omega, le_omega, ne_omega, allLen, hlt]
    refine CallK.of (c24 ls[k] (by omega)) (by first | exact .inl rfl | exact .inr (by simp)) (by simp) ?_
    simp [encR] at hs
    simp (disch := first | omega | simp) [wrap_i64, le_most, lt_omega, le_omega, ne_omega, allLen, hlt, hz, hs, encR]
    (refine ⟨⟨k + 1, by omega⟩, by (simp; try omega), ?_⟩; constructor <;> (simp (disch := first | omega | simp) [wrap_i64, le_most, lt_omega, le_omega, ne_omega, allLen]) <;> (try omega))
  · have hf := fill_all (ls.map encR) [.int .i64 0, .sl [], .sl []] k (by omega)
    simp (disch := first | omega | simp) [wrap_i64, le_most, lt_omega, le_omega, ne_omega, allLen, hlt, hf]
theorem c15 (ls ms : List Ru) (h : (ls.length : Int) ≤ 1048576) (hm : (ms.length : Int) ≤ 1048576) (hr : (rsum ls : Int) ≤ 1048576) (hr2 : (rsum ms : Int) ≤ 1048576) :
    PC E 15 [.i (.sl (ls.map encR)), .i (.sl (ms.map encR))] [.i (.bool (decide (ls = ms)))] := by
  refine PC_start hE Proofs.Try.func15 rfl rfl Proofs.Try.ntmps15 (by kernel_rfl) (by kernel_rfl) (by simp) ?_
  simp (disch := first | omega | simp) [wrap_i64, le_most, lt_omega, le_omega, ne_omega, allLen]
  (first | refine Gd.dec (fun h1 => ?_) (fun h1 => ?_) | refine Gd.intro (fun h1 => ?_) (fun h1 => ?_)) <;> simp (disch := first | omega | simp) [wrap_i64, le_most, lt_omega, le_omega, ne_omega, allLen, h1]
  rotate_left
  · intro e; subst e; exact h1 rfl
  refine XL.by hE (ι := { k : Nat // k ≤ ls.length ∧ ls.take k = ms.take k }) (fun p => ⟨[(5, .i (.int .i64 p.1)), (0, .i (.sl (ls.map encR))), (1, .i (.sl (ms.map encR)))], []⟩) (fun p => ls.length - p.1) ⟨0, by simp⟩
    ⟨by simp, by simp, by simp⟩ (by kernel_rfl) ?_
  rintro ⟨k, hk, he⟩
  have hl : ls.length = ms.length := by omega
  by_cases hlt : k < ls.length
  · have hlt' : k < ms.length := by omega
    have g1 := rsum_get hlt
    have g2 := rsum_get hlt'
    simp (disch := first | omega | simp) [wrap_i64, le_most, lt_omega, le_omega, ne_omega, allLen, hlt, hlt']
    refine CallK.of (c26 _ _ (by omega) (by omega)) (by first | exact .inl rfl | exact .inr (by simp)) (by simp) ?_
    simp (disch := first | omega | simp) [wrap_i64, le_most, lt_omega, le_omega, ne_omega, allLen, hlt, hlt']
    (first | refine Gd.dec (fun h4 => ?_) (fun h4 => ?_) | refine Gd.intro (fun h4 => ?_) (fun h4 => ?_)) <;> simp (disch := first | omega | simp) [wrap_i64, le_most, lt_omega, le_omega, ne_omega, allLen, h4]
    · (refine ⟨⟨k + 1, by omega, take_step hlt hlt' he h4⟩, by (simp; try omega), ?_⟩; constructor <;> (simp (disch := first | omega | simp) [wrap_i64, le_most, lt_omega, le_omega, ne_omega, allLen]) <;> (try omega))
    · intro e; subst e; exact h4 rfl
  · obtain rfl : ls = ms := take_eq_of hl (by omega) he
    simp (disch := first | omega | simp) [wrap_i64, le_most, lt_omega, le_omega, ne_omega, allLen, hlt]
/-- A number within bounds. -/
def inB (n lo hi : Int) : Bool := decide (lo ≤ n) && decide (n ≤ hi)
theorem c85 (n lo hi : Int) : PC E 85 [.i (.int .i64 n), .i (.int .i64 lo), .i (.int .i64 hi)] [.i (.bool (inB n lo hi))] := by
  refine PC_start hE Proofs.Try.func85 rfl rfl Proofs.Try.ntmps85 (by kernel_rfl) (by kernel_rfl) (by simp) ?_
  simp (disch := first | omega | simp) [wrap_i64, le_most, lt_omega, le_omega, ne_omega, allLen, inB]
  (first | refine Gd.dec (fun h1 => ?_) (fun h1 => ?_) | refine Gd.intro (fun h1 => ?_) (fun h1 => ?_)) <;> simp (disch := first | omega | simp) [wrap_i64, le_most, lt_omega, le_omega, ne_omega, allLen, h1]
theorem c83 (n lo hi : Int) : PC E 83 [.i (.int .i64 n), .i (.int .i64 lo), .i (.int .i64 hi)] [.i (.bool (inB n lo hi))] := by
  refine PC_start hE Proofs.Try.func83 rfl rfl Proofs.Try.ntmps83 (by kernel_rfl) (by kernel_rfl) (by simp) ?_
  simp (disch := first | omega | simp) [wrap_i64, le_most, lt_omega, le_omega, ne_omega, allLen, inB]
  (first | refine Gd.dec (fun h1 => ?_) (fun h1 => ?_) | refine Gd.intro (fun h1 => ?_) (fun h1 => ?_)) <;> simp (disch := first | omega | simp) [wrap_i64, le_most, lt_omega, le_omega, ne_omega, allLen, h1]
theorem c47 (ls : List Int) : PC E 47 [.i (.sl (ls.map encI))] [.i (.int .i64 ls.length)] := by
  refine PC_start hE Proofs.Try.func47 rfl rfl Proofs.Try.ntmps47 (by kernel_rfl) (by kernel_rfl) (by simp) ?_
  simp (disch := first | omega | simp) [wrap_i64, le_most, lt_omega, le_omega, ne_omega, allLen]
/-- Numbers at their places. -/
def riseAt (l : List Int) (lo hi : Int) (k : Nat) : Bool := inB (l.getD k 0) lo hi && (decide (k = 0) || decide (l.getD (k - 1) 0 < l.getD k 0))
def rises (l : List Int) (lo hi : Int) : Bool := (List.range l.length).all (riseAt l lo hi)
theorem rises_true {l : List Int} {lo hi : Int} (h : ∀ j, j < l.length → riseAt l lo hi j = true) : rises l lo hi = true := by
  simp only [rises, List.all_eq_true, List.mem_range]; exact h
theorem rises_false {l : List Int} {lo hi : Int} {j : Nat} (hj : j < l.length) (h : riseAt l lo hi j = false) : rises l lo hi = false := by
  rw [← Bool.not_eq_true]; intro hr
  simp only [rises, List.all_eq_true, List.mem_range] at hr
  rw [hr j hj] at h; simp at h
theorem all_step {f : Nat → Bool} {k : Nat} (h : ∀ j, j < k → f j = true) (hk : f k = true) : ∀ j, j < k + 1 → f j = true := fun j hj => by
  rcases Nat.lt_succ_iff_lt_or_eq.1 hj with h' | rfl
  · exact h j h'
  · exact hk
end Go.Vai
