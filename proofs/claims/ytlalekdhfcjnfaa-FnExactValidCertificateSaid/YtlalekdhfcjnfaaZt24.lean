import Derived.Test.YtlalekdhfcjnfaaZt16
import Derived.Test.YtlalekdhfcjnfaaZt22
import Derived.Test.YtlalekdhfcjnfaaZt11
set_option linter.unusedVariables false
set_option linter.unusedSimpArgs false
set_option maxHeartbeats 4000000
namespace Go.Vai
def nodeB (x : Nd) : Bool := inB x.var 0 199 && inB x.rule 0 2999 && (if x.kind = 1 then decide (x.value = 0) && decide (x.rule = 0) else if x.kind = 2 then unitB x.value else if x.kind = 3 then decide (x.var = 0) && decide (x.value = 0) else false)
theorem c94 (x : Nd) : PC E 94 [.agg (encNd x)] [.i (.bool (nodeB x))] := by
  refine PC_start hE Proofs.Try.func94 rfl rfl Proofs.Try.ntmps94 (by kernel_rfl) (by kernel_rfl) (by simp) ?_
  simp (disch := first | omega | simp) [wrap_i64, le_most, lt_omega, le_omega, ne_omega, allLen, encNd]
  refine CallK.of (c71 _ _ _) (by first | exact .inl rfl | exact .inr (by simp)) (by simp) ?_
  simp (disch := first | omega | simp) [wrap_i64, le_most, lt_omega, le_omega, ne_omega, allLen]
  (first | refine Gd.dec (fun h1 => ?_) (fun h1 => ?_) | refine Gd.intro (fun h1 => ?_) (fun h1 => ?_)) <;> simp (disch := first | omega | simp) [wrap_i64, le_most, lt_omega, le_omega, ne_omega, allLen, h1]
  rotate_left
  · simp [nodeB, h1]
  refine CallK.of (c71 _ _ _) (by first | exact .inl rfl | exact .inr (by simp)) (by simp) ?_
  simp (disch := first | omega | simp) [wrap_i64, le_most, lt_omega, le_omega, ne_omega, allLen]
  (first | refine Gd.dec (fun h2 => ?_) (fun h2 => ?_) | refine Gd.intro (fun h2 => ?_) (fun h2 => ?_)) <;> simp (disch := first | omega | simp) [wrap_i64, le_most, lt_omega, le_omega, ne_omega, allLen, h2]
  rotate_left
  · simp [nodeB, h1, h2]
  (first | refine Gd.dec (fun h3 => ?_) (fun h3 => ?_) | refine Gd.intro (fun h3 => ?_) (fun h3 => ?_)) <;> simp (disch := first | omega | simp) [wrap_i64, le_most, lt_omega, le_omega, ne_omega, allLen, h3]
  · (first | refine Gd.dec (fun h4 => ?_) (fun h4 => ?_) | refine Gd.intro (fun h4 => ?_) (fun h4 => ?_)) <;> simp (disch := first | omega | simp) [wrap_i64, le_most, lt_omega, le_omega, ne_omega, allLen, h4]
    · simp [nodeB, h1, h2, h3, h4]
    · simp [nodeB, h1, h2, h3, h4]
  · (first | refine Gd.dec (fun h4 => ?_) (fun h4 => ?_) | refine Gd.intro (fun h4 => ?_) (fun h4 => ?_)) <;> simp (disch := first | omega | simp) [wrap_i64, le_most, lt_omega, le_omega, ne_omega, allLen, h4]
    · refine CallK.of (c107 _) (by first | exact .inl rfl | exact .inr (by simp)) (by simp) ?_
      simp (disch := first | omega | simp) [wrap_i64, le_most, lt_omega, le_omega, ne_omega, allLen]
      simp [nodeB, h1, h2, h3, h4]
    · (first | refine Gd.dec (fun h5 => ?_) (fun h5 => ?_) | refine Gd.intro (fun h5 => ?_) (fun h5 => ?_)) <;> simp (disch := first | omega | simp) [wrap_i64, le_most, lt_omega, le_omega, ne_omega, allLen, h5]
      · (first | refine Gd.dec (fun h6 => ?_) (fun h6 => ?_) | refine Gd.intro (fun h6 => ?_) (fun h6 => ?_)) <;> simp (disch := first | omega | simp) [wrap_i64, le_most, lt_omega, le_omega, ne_omega, allLen, h6]
        · have e0 : inB 0 0 199 = true := rfl
          simp [nodeB, h1, h2, h3, h4, h5, h6, e0]
        · simp [nodeB, h1, h2, h3, h4, h5, h6]
      · simp [nodeB, h1, h2, h3, h4, h5]
theorem c93 (x : Nd) : PC E 93 [.agg (encNd x)] [.i (.bool (!nodeB x))] := by
  refine PC_start hE Proofs.Try.func93 rfl rfl Proofs.Try.ntmps93 (by kernel_rfl) (by kernel_rfl) (by simp) ?_
  simp (disch := first | omega | simp) [wrap_i64, le_most, lt_omega, le_omega, ne_omega, allLen]
  refine CallK.of (c94 x) (by first | exact .inl rfl | exact .inr (by simp)) (by simp) ?_
  simp (disch := first | omega | simp) [wrap_i64, le_most, lt_omega, le_omega, ne_omega, allLen]
theorem c109 (x : Nd) : PC E 109 [.agg (encNd x)] [.i (.bool (nodeB x))] := by
  refine PC_start hE Proofs.Try.func109 rfl rfl Proofs.Try.ntmps109 (by kernel_rfl) (by kernel_rfl) (by simp) ?_
  simp (disch := first | omega | simp) [wrap_i64, le_most, lt_omega, le_omega, ne_omega, allLen, encNd]
  refine CallK.of (c98 _ _ _) (by first | exact .inl rfl | exact .inr (by simp)) (by simp) ?_
  simp (disch := first | omega | simp) [wrap_i64, le_most, lt_omega, le_omega, ne_omega, allLen]
  refine CallK.of (c98 _ _ _) (by first | exact .inl rfl | exact .inr (by simp)) (by simp) ?_
  simp (disch := first | omega | simp) [wrap_i64, le_most, lt_omega, le_omega, ne_omega, allLen]
  (first | refine Gd.dec (fun h3 => ?_) (fun h3 => ?_) | refine Gd.intro (fun h3 => ?_) (fun h3 => ?_)) <;> simp (disch := first | omega | simp) [wrap_i64, le_most, lt_omega, le_omega, ne_omega, allLen, h3]
  · (first | refine Gd.dec (fun h1 => ?_) (fun h1 => ?_) | refine Gd.intro (fun h1 => ?_) (fun h1 => ?_)) <;> simp (disch := first | omega | simp) [wrap_i64, le_most, lt_omega, le_omega, ne_omega, allLen, h1]
    · (first | refine Gd.dec (fun h4 => ?_) (fun h4 => ?_) | refine Gd.intro (fun h4 => ?_) (fun h4 => ?_)) <;> simp (disch := first | omega | simp) [wrap_i64, le_most, lt_omega, le_omega, ne_omega, allLen, h4]
      · by_cases h5 : x.rule = 0
        · have e0 : inB 0 0 2999 = true := rfl
          simp [nodeB, h1, h3, h4, h5, e0]
        · simp [nodeB, h1, h3, h4, h5]
      · simp [nodeB, h1, h3, h4]
    · simp [nodeB, h1]
  · (first | refine Gd.dec (fun h4 => ?_) (fun h4 => ?_) | refine Gd.intro (fun h4 => ?_) (fun h4 => ?_)) <;> simp (disch := first | omega | simp) [wrap_i64, le_most, lt_omega, le_omega, ne_omega, allLen, h4]
    · (first | refine Gd.dec (fun h1 => ?_) (fun h1 => ?_) | refine Gd.intro (fun h1 => ?_) (fun h1 => ?_)) <;> simp (disch := first | omega | simp) [wrap_i64, le_most, lt_omega, le_omega, ne_omega, allLen, h1]
      · (first | refine Gd.dec (fun h2 => ?_) (fun h2 => ?_) | refine Gd.intro (fun h2 => ?_) (fun h2 => ?_)) <;> simp (disch := first | omega | simp) [wrap_i64, le_most, lt_omega, le_omega, ne_omega, allLen, h2]
        · (first | refine Gd.dec (fun h5 => ?_) (fun h5 => ?_) | refine Gd.intro (fun h5 => ?_) (fun h5 => ?_)) <;> simp (disch := first | omega | simp) [wrap_i64, le_most, lt_omega, le_omega, ne_omega, allLen, h5]
          · simp [nodeB, h1, h2, h3, h4, h5, unitB]
          · simp [nodeB, h1, h2, h3, h4, h5, unitB]
        · simp [nodeB, h1, h2]
      · simp [nodeB, h1]
    · (first | refine Gd.dec (fun h5 => ?_) (fun h5 => ?_) | refine Gd.intro (fun h5 => ?_) (fun h5 => ?_)) <;> simp (disch := first | omega | simp) [wrap_i64, le_most, lt_omega, le_omega, ne_omega, allLen, h5]
      · (first | refine Gd.dec (fun h2 => ?_) (fun h2 => ?_) | refine Gd.intro (fun h2 => ?_) (fun h2 => ?_)) <;> simp (disch := first | omega | simp) [wrap_i64, le_most, lt_omega, le_omega, ne_omega, allLen, h2]
        · (first | refine Gd.dec (fun h6 => ?_) (fun h6 => ?_) | refine Gd.intro (fun h6 => ?_) (fun h6 => ?_)) <;> simp (disch := first | omega | simp) [wrap_i64, le_most, lt_omega, le_omega, ne_omega, allLen, h6]
          · have e0 : inB 0 0 199 = true := rfl
            simp [nodeB, h2, h3, h4, h5, h6, e0]
          · simp [nodeB, h2, h3, h4, h5, h6]
        · simp [nodeB, h2]
      · simp [nodeB, h3, h4, h5]
theorem c91 (ls : List Nd) : PC E 91 [.i (.sl (ls.map encNd))] [.i (.int .i64 ls.length)] := by
  refine PC_start hE Proofs.Try.func91 rfl rfl Proofs.Try.ntmps91 (by kernel_rfl) (by kernel_rfl) (by simp) ?_
  simp (disch := first | omega | simp) [wrap_i64, le_most, lt_omega, le_omega, ne_omega, allLen]
/-- The side of a square of so many elements, at most 24; 0 if there is none. -/
def fsz (l : Nat) : Nat := ((List.range 25).find? fun n => decide (0 < n) && decide (n * n = l)).getD 0
theorem fsz_spec (l : Nat) : (fsz l = 0 ∧ ∀ m, 1 ≤ m → m ≤ 24 → m * m ≠ l) ∨ (1 ≤ fsz l ∧ fsz l ≤ 24 ∧ fsz l * fsz l = l) := by
  unfold fsz
  cases h : (List.range 25).find? fun n => decide (0 < n) && decide (n * n = l) with
  | none =>
    rw [List.find?_eq_none] at h
    refine .inl ⟨rfl, fun m h1 h2 h3 => ?_⟩
    have := h m (by simp; omega)
    simp at this
    exact this (by omega) h3
  | some n =>
    have h1 := List.find?_some h
    have h2 := List.mem_of_find?_eq_some h
    simp at h1 h2
    exact .inr ⟨h1.1, by simp; omega, h1.2⟩
theorem fsz_none {l : Nat} (h : ∀ m, 1 ≤ m → m ≤ 24 → m * m ≠ l) : fsz l = 0 := by
  rcases fsz_spec l with ⟨h1, -⟩ | ⟨h1, h2, h3⟩
  · exact h1
  · exact absurd h3 (h _ h1 h2)
theorem fsz_some {l n : Nat} (h1 : 1 ≤ n) (h2 : n ≤ 24) (h3 : n * n = l) : fsz l = n := by
  rcases fsz_spec l with ⟨-, h⟩ | ⟨g1, g2, g3⟩
  · exact absurd h3 (h n h1 h2)
  · rcases Nat.lt_trichotomy (fsz l) n with h | h | h
    · have := Nat.mul_self_lt_mul_self h; omega
    · exact h
    · have := Nat.mul_self_lt_mul_self h; omega
theorem c110 (ls : List Int) (h : (ls.length : Int) ≤ 1048576) : PC E 110 [.i (.sl (ls.map encI))] [.i (.int .i64 (fsz ls.length))] := by
  refine PC_start hE Proofs.Try.func110 rfl rfl Proofs.Try.ntmps110 (by kernel_rfl) (by kernel_rfl) (by simp) ?_
  simp (disch := first | omega | simp) [wrap_i64, le_most, lt_omega, le_omega, ne_omega, allLen]
  refine XL.by hE (ι := { k : Nat // 1 ≤ k ∧ k ≤ 25 ∧ ∀ m, 1 ≤ m → m < k → m * m ≠ ls.length }) (fun k => ⟨[(0, .i (.sl (ls.map encI))), (3, .i (.int .i64 k.1))], []⟩)
    (fun k => 25 - k.1) ⟨1, by omega, by omega, fun m h1 h2 => by omega⟩ ⟨by simp, by simp, by simp⟩ (by kernel_rfl) ?_
  rintro ⟨k, hk1, hk2, hno⟩
  by_cases hlt : k ≤ 24
  · have hlt' : (k : Int) ≤ 24 := by omega
    have hq : ∃ q : Nat, q = k * k := ⟨_, rfl⟩
    obtain ⟨q, hq⟩ := hq
    have hqb : q ≤ 576 := by rw [hq]; exact Nat.mul_le_mul hlt hlt
    have e1 : (k : Int) * (k : Int) = (q : Int) := by rw [hq]; simp
    simp (disch := first | omega | simp) [wrap_i64, le_most, lt_omega, le_omega, ne_omega, allLen, hlt']
    refine CallK.of (c78 ls) (by first | exact .inl rfl | exact .inr (by simp)) (by simp) ?_
    simp (disch := first | omega | simp) [wrap_i64, le_most, lt_omega, le_omega, ne_omega, allLen, e1]
    (first | refine Gd.dec (fun h4 => ?_) (fun h4 => ?_) | refine Gd.intro (fun h4 => ?_) (fun h4 => ?_)) <;> simp (disch := first | omega | simp) [wrap_i64, le_most, lt_omega, le_omega, ne_omega, allLen, h4]
    · rw [fsz_some hk1 hlt (by omega)]
    · (refine ⟨⟨k + 1, by omega, by omega, fun m h1 h2 => by
        rcases Nat.lt_succ_iff_lt_or_eq.1 h2 with h3 | rfl
        · exact hno m h1 h3
        · omega⟩, by (simp; try omega), ?_⟩; constructor <;> (simp (disch := first | omega | simp) [wrap_i64, le_most, lt_omega, le_omega, ne_omega, allLen]) <;> (try omega))
  · have hlt' : ¬ (k : Int) ≤ 24 := by omega
    simp (disch := first | omega | simp) [wrap_i64, le_most, lt_omega, le_omega, ne_omega, allLen, hlt']
    rw [fsz_none fun m h1 h2 => hno m h1 (by omega)]
    rfl
theorem c116 (ls : List Int) (h : (ls.length : Int) ≤ 1048576) : PC E 116 [.i (.sl (ls.map encI))] [.i (.int .i64 (fsz ls.length))] := by
  refine PC_start hE Proofs.Try.func116 rfl rfl Proofs.Try.ntmps116 (by kernel_rfl) (by kernel_rfl) (by simp) ?_
  simp (disch := first | omega | simp) [wrap_i64, le_most, lt_omega, le_omega, ne_omega, allLen]
  refine XL.by hE (ι := { k : Nat // 1 ≤ k ∧ k ≤ 25 ∧ ∀ m, 1 ≤ m → m < k → m * m ≠ ls.length }) (fun k => ⟨[(0, .i (.sl (ls.map encI))), (3, .i (.int .i64 k.1))], []⟩)
    (fun k => 25 - k.1) ⟨1, by omega, by omega, fun m h1 h2 => by omega⟩ ⟨by simp, by simp, by simp⟩ (by kernel_rfl) ?_
  rintro ⟨k, hk1, hk2, hno⟩
  by_cases hlt : k ≤ 24
  · have hlt' : (k : Int) ≤ 24 := by omega
    have hq : ∃ q : Nat, q = k * k := ⟨_, rfl⟩
    obtain ⟨q, hq⟩ := hq
    have hqb : q ≤ 576 := by rw [hq]; exact Nat.mul_le_mul hlt hlt
    have e1 : (k : Int) * (k : Int) = (q : Int) := by rw [hq]; simp
    simp (disch := first | omega | simp) [wrap_i64, le_most, lt_omega, le_omega, ne_omega, allLen, hlt', e1]
    (first | refine Gd.dec (fun h4 => ?_) (fun h4 => ?_) | refine Gd.intro (fun h4 => ?_) (fun h4 => ?_)) <;> simp (disch := first | omega | simp) [wrap_i64, le_most, lt_omega, le_omega, ne_omega, allLen, h4]
    · rw [fsz_some hk1 hlt (by omega)]
    · (refine ⟨⟨k + 1, by omega, by omega, fun m h1 h2 => by
        rcases Nat.lt_succ_iff_lt_or_eq.1 h2 with h3 | rfl
        · exact hno m h1 h3
        · omega⟩, by (simp; try omega), ?_⟩; constructor <;> (simp (disch := first | omega | simp) [wrap_i64, le_most, lt_omega, le_omega, ne_omega, allLen]) <;> (try omega))
  · have hlt' : ¬ (k : Int) ≤ 24 := by omega
    simp (disch := first | omega | simp) [wrap_i64, le_most, lt_omega, le_omega, ne_omega, allLen, hlt']
    rw [fsz_none fun m h1 h2 => hno m h1 (by omega)]
    rfl
end Go.Vai
