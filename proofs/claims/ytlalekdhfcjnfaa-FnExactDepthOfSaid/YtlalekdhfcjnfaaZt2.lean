import Derived.Test.YtlalekdhfcjnfaaZvE
set_option linter.unusedVariables false
set_option linter.unusedSimpArgs false
namespace Go.Vai
structure Ly where
  f : Int
  e : Int
  m : Int
  deriving DecidableEq, Inhabited
def encL (x : Ly) : List IV := [.int .i64 x.f, .int .i64 x.e, .int .i64 x.m]
@[simp] theorem encL_len (x : Ly) : (encL x).length = 3 := rfl
theorem c57 (x : Ly) : PC E 57 [.agg (encL x)] [.agg (encL x)] := by
  refine PC_start hE Proofs.Try.func57 rfl rfl Proofs.Try.ntmps57 (by kernel_rfl) (by kernel_rfl) (by simp) ?_
  simp [encL]
theorem c59 (x y : Ly) : PC E 59 [.agg (encL x), .agg (encL y)] [.i (.bool (decide (x = y)))] := by
  refine PC_start hE Proofs.Try.func59 rfl rfl Proofs.Try.ntmps59 (by kernel_rfl) (by kernel_rfl) (by simp) ?_
  obtain ⟨a, b, c⟩ := x
  obtain ⟨a', b', c'⟩ := y
  simp (disch := first | omega | simp) [wrap_i64, le_most, lt_omega, le_omega, allLen, encL]
  (first | refine Gd.dec (fun h1 => ?_) (fun h1 => ?_) | refine Gd.intro (fun h1 => ?_) (fun h1 => ?_)) <;> simp (disch := first | omega | simp) [wrap_i64, le_most, lt_omega, le_omega, allLen, h1]
  (first | refine Gd.dec (fun h2 => ?_) (fun h2 => ?_) | refine Gd.intro (fun h2 => ?_) (fun h2 => ?_)) <;> simp (disch := first | omega | simp) [wrap_i64, le_most, lt_omega, le_omega, allLen, h2]
  (first | refine Gd.dec (fun h3 => ?_) (fun h3 => ?_) | refine Gd.intro (fun h3 => ?_) (fun h3 => ?_)) <;> simp (disch := first | omega | simp) [wrap_i64, le_most, lt_omega, le_omega, allLen, h3]
theorem c13 (ls : List Ly) (n : Int) (h0 : 0 ≤ n) (h1 : n ≤ 1048576) (h : (ls.length : Int) ≤ 9223372036854775807) : PC E 13 [.i (.sl (ls.map encL)), .i (.int .i64 n)] [.i (.int .i64 (if n - ls.length < 0 then -1 else n - ls.length))] := by
  refine PC_start hE Proofs.Try.func13 rfl rfl Proofs.Try.ntmps13 (by kernel_rfl) (by kernel_rfl) (by simp) ?_
  simp (disch := first | omega | simp) [wrap_i64, le_most, lt_omega, le_omega, allLen]
  (first | refine Gd.dec (fun h2 => ?_) (fun h2 => ?_) | refine Gd.intro (fun h2 => ?_) (fun h2 => ?_)) <;> simp (disch := first | omega | simp) [wrap_i64, le_most, lt_omega, le_omega, allLen, h2]
theorem c15 (ls : List Ly) (h : (ls.length : Int) ≤ 1048576) : PC E 15 [.i (.sl (ls.map encL))] [.own 3 (ls.map encL)] := by
  refine PC_start hE Proofs.Try.func15 rfl rfl Proofs.Try.ntmps15 (by kernel_rfl) (by kernel_rfl) (by simp) ?_
  simp (disch := first | omega | simp) [wrap_i64, le_most, lt_omega, le_omega, allLen]
  have hl : (ls.map encL).length = ls.length := by simp
  refine XL.by hE (ι := { k : Nat // k ≤ ls.length }) (fun k => ⟨[(3, .own 7 0 ls.length), (4, .i (.int .i64 k.1)), (0, .i (.sl (ls.map encL)))],
    [(7, ⟨3, fill (ls.map encL) [.int .i64 0, .int .i64 0, .int .i64 0] k.1⟩)]⟩) (fun k => ls.length - k.1) ⟨0, Nat.zero_le _⟩ ⟨by simp, by simp [fill_zero], by simp⟩ (by kernel_rfl) ?_
  rintro ⟨k, hk⟩
  by_cases hlt : k < ls.length
  · have hz := fill_get (ls.map encL) [.int .i64 0, .int .i64 0, .int .i64 0] k (by omega)
    have hs := fill_set (ls.map encL) [.int .i64 0, .int .i64 0, .int .i64 0] k (encL ls[k]) (by simp [hlt])
    simp (disch := first | omega | simp) [wrap_i64, le_most, lt_omega, le_omega, allLen, hlt]
    refine CallK.of (c57 _) (.inl rfl) (by simp) ?_
    simp [encL] at hs
    simp (disch := first | omega | simp) [wrap_i64, le_most, lt_omega, le_omega, allLen, hlt, hz, hs, encL]
    (refine ⟨⟨k + 1, by omega⟩, by (simp; try omega), ?_⟩; constructor <;> (simp (disch := first | omega | simp) [wrap_i64, le_most, lt_omega, le_omega, allLen]) <;> (try omega))
  · have hf := fill_all (ls.map encL) [.int .i64 0, .int .i64 0, .int .i64 0] k (by omega)
    simp (disch := first | omega | simp) [wrap_i64, le_most, lt_omega, le_omega, allLen, hlt, hf]
end Go.Vai
