/- Merged texts of this claim: Zt12, Zt13, Zt14, Zt15, Zt16, Zt17, Zt18. -/
import Derived.Test.YtkljeldcjnpinaaYb6
import Derived.Test.YtkljeldcjnpinaaYb1
set_option linter.unusedVariables false
set_option linter.unusedSimpArgs false
set_option maxHeartbeats 4000000
namespace Go.Vai
/-- A rule. -/
structure Ru where
  kind : Int
  vars : List Int
  signs : List Int
  deriving DecidableEq
def encR (x : Ru) : List IV := [.int .i64 x.kind, .sl (x.vars.map encI), .sl (x.signs.map encI)]
@[simp] theorem encR_len (x : Ru) : (encR x).length = 3 := rfl
@[simp] theorem encR_take (x : Ru) : (encR x).take 3 = encR x := rfl
def Ru.sz (x : Ru) : Nat := x.vars.length + x.signs.length
theorem typedR {n : Nat} {el : List IV} (h : Typed E n 44 el) : ∃ x, el = encR x ∧ x.vars.length ≤ maxLen ∧ x.signs.length ≤ maxLen := by
  cases n with
  | zero => exact h.elim
  | succ n =>
    simp only [Typed, k44, fieldsT] at h
    obtain ⟨a0, b0, rfl, h0, a1, b1, rfl, h1, a2, b2, rfl, h2, rfl⟩ := h
    obtain ⟨x0, rfl⟩ := typedI h0
    obtain ⟨x1, rfl, l1⟩ := typedSlice k32 (fun _ _ => typedI) h1
    obtain ⟨x2, rfl, l2⟩ := typedSlice k32 (fun _ _ => typedI) h2
    exact ⟨⟨x0, x1, x2⟩, rfl, l1, l2⟩
theorem c22 (x : Ru) (h1 : (x.sz : Int) ≤ 1048576) : PC E 22 [.agg (encR x)] [.agg (encR x)] := by
  unfold Ru.sz at h1
  refine PC_start hE Proofs.Try.func22 rfl rfl Proofs.Try.ntmps22 (by kernel_rfl) (by kernel_rfl) (by simp) ?_
  simp (maxSteps := 1000000) (disch := first | (exact DrawOk.mk (by decide +kernel)) | omega | simp) [wrap_i64, le_most, lt_omega, le_omega, ne_omega, allLen, encR]
  refine CallK.of ((c23 x.vars (by omega)).imm) (by first | exact .inl rfl | exact .inr (by simp)) (by simp) ?_
  simp (maxSteps := 1000000) (disch := first | (exact DrawOk.mk (by decide +kernel)) | omega | simp) [wrap_i64, le_most, lt_omega, le_omega, ne_omega, allLen]
  refine CallK.of ((c23 x.signs (by omega)).imm) (by first | exact .inl rfl | exact .inr (by simp)) (by simp) ?_
  simp (maxSteps := 1000000) (disch := first | (exact DrawOk.mk (by decide +kernel)) | omega | simp) [wrap_i64, le_most, lt_omega, le_omega, ne_omega, allLen]
theorem c20 (x : Ru) (n : Int) (h0 : 0 ≤ n) (h1 : n ≤ 1048576) (h2 : x.vars.length ≤ maxLen) (h3 : x.signs.length ≤ maxLen) :
    PC E 20 [.agg (encR x), .i (.int .i64 n)] [.i (.int .i64 (if n - x.sz < 0 then -1 else n - x.sz))] := by
  have m : maxLen = 9223372036854775807 := by decide
  refine PC_start hE Proofs.Try.func20 rfl rfl Proofs.Try.ntmps20 (by kernel_rfl) (by kernel_rfl) (by simp) ?_
  unfold Ru.sz
  simp (maxSteps := 1000000) (disch := first | (exact DrawOk.mk (by decide +kernel)) | omega | simp) [wrap_i64, le_most, lt_omega, le_omega, ne_omega, allLen, encR]
  refine CallK.of (c52 x.vars n h0 h1 (by omega)) (by first | exact .inl rfl | exact .inr (by simp)) (by simp) ?_
  simp (maxSteps := 1000000) (disch := first | (exact DrawOk.mk (by decide +kernel)) | omega | simp) [wrap_i64, le_most, lt_omega, le_omega, ne_omega, allLen]
  (first | refine Gd.dec (fun h4 => ?_) (fun h4 => ?_) | refine Gd.intro (fun h4 => ?_) (fun h4 => ?_)) <;> simp (maxSteps := 1000000) (disch := first | (exact DrawOk.mk (by decide +kernel)) | omega | simp) [wrap_i64, le_most, lt_omega, le_omega, ne_omega, allLen, h4]
  have h5 : ¬ n - x.vars.length < 0 := by split at h4 <;> omega
  rw [if_neg h5]
  refine CallK.of (c52 x.signs (n - x.vars.length) (by omega) (by omega) (by omega)) (by first | exact .inl rfl | exact .inr (by simp)) (by simp) ?_
  simp (maxSteps := 1000000) (disch := first | (exact DrawOk.mk (by decide +kernel)) | omega | simp) [wrap_i64, le_most, lt_omega, le_omega, ne_omega, allLen]
  (first | refine Gd.dec (fun h6 => ?_) (fun h6 => ?_) | refine Gd.intro (fun h6 => ?_) (fun h6 => ?_)) <;> simp (maxSteps := 1000000) (disch := first | (exact DrawOk.mk (by decide +kernel)) | omega | simp) [wrap_i64, le_most, lt_omega, le_omega, ne_omega, allLen, h6]
  have h7 : ¬ n - x.vars.length - x.signs.length < 0 := by split at h6 <;> omega
  rw [if_neg h7, if_neg (by omega)]
  omega
theorem c25 (x y : Ru) (h1 : (x.sz : Int) ≤ 1048576) (h2 : (y.sz : Int) ≤ 1048576) : PC E 25 [.agg (encR x), .agg (encR y)] [.i (.bool (decide (x = y)))] := by
  unfold Ru.sz at h1 h2
  refine PC_start hE Proofs.Try.func25 rfl rfl Proofs.Try.ntmps25 (by kernel_rfl) (by kernel_rfl) (by simp) ?_
  obtain ⟨k, a, b⟩ := x
  obtain ⟨k', a', b'⟩ := y
  simp at h1 h2
  simp (maxSteps := 1000000) (disch := first | (exact DrawOk.mk (by decide +kernel)) | omega | simp) [wrap_i64, le_most, lt_omega, le_omega, ne_omega, allLen, encR]
  (first | refine Gd.dec (fun h5 => ?_) (fun h5 => ?_) | refine Gd.intro (fun h5 => ?_) (fun h5 => ?_)) <;> simp (maxSteps := 1000000) (disch := first | (exact DrawOk.mk (by decide +kernel)) | omega | simp) [wrap_i64, le_most, lt_omega, le_omega, ne_omega, allLen, h5]
  refine CallK.of (c26 _ _ (by omega) (by omega)) (by first | exact .inl rfl | exact .inr (by simp)) (by simp) ?_
  simp (maxSteps := 1000000) (disch := first | (exact DrawOk.mk (by decide +kernel)) | omega | simp) [wrap_i64, le_most, lt_omega, le_omega, ne_omega, allLen]
  (first | refine Gd.dec (fun h8 => ?_) (fun h8 => ?_) | refine Gd.intro (fun h8 => ?_) (fun h8 => ?_)) <;> simp (maxSteps := 1000000) (disch := first | (exact DrawOk.mk (by decide +kernel)) | omega | simp) [wrap_i64, le_most, lt_omega, le_omega, ne_omega, allLen, h8]
  refine CallK.of (c26 _ _ (by omega) (by omega)) (by first | exact .inl rfl | exact .inr (by simp)) (by simp) ?_
  simp (maxSteps := 1000000) (disch := first | (exact DrawOk.mk (by decide +kernel)) | omega | simp) [wrap_i64, le_most, lt_omega, le_omega, ne_omega, allLen]
  (first | refine Gd.dec (fun h9 => ?_) (fun h9 => ?_) | refine Gd.intro (fun h9 => ?_) (fun h9 => ?_)) <;> simp (maxSteps := 1000000) (disch := first | (exact DrawOk.mk (by decide +kernel)) | omega | simp) [wrap_i64, le_most, lt_omega, le_omega, ne_omega, allLen, h9]
end Go.Vai
set_option linter.unusedVariables false
set_option linter.unusedSimpArgs false
set_option maxHeartbeats 4000000
namespace Go.Vai
/-- The first place at which p holds; -1 if there is none. -/
def fidx {α : Type} (p : α → Bool) (xs : List α) : Int := match xs.findIdx? p with
  | some i => i
  | none => -1
theorem fidx_at {α : Type} {p : α → Bool} {xs : List α} {k : Nat} (hk : k < xs.length) (hno : ∀ (j : Nat) (hj : j < xs.length), j < k → p xs[j] = false) (h : p xs[k] = true) : fidx p xs = k := by
  have : xs.findIdx? p = some k := by
    rw [List.findIdx?_eq_some_iff_getElem]
    exact ⟨hk, h, fun j hj => by simpa using hno j (by omega) hj⟩
  simp [fidx, this]
theorem fidx_none {α : Type} {p : α → Bool} {xs : List α} (hno : ∀ (j : Nat) (hj : j < xs.length), p xs[j] = false) : fidx p xs = -1 := by
  have : xs.findIdx? p = none := by
    rw [List.findIdx?_eq_none_iff]
    intro x hx
    obtain ⟨j, hj, rfl⟩ := List.getElem_of_mem hx
    exact hno j hj
  simp [fidx, this]
theorem step_no {α : Type} {p : α → Bool} {xs : List α} {k : Nat} (hno : ∀ (j : Nat) (hj : j < xs.length), j < k → p xs[j] = false) (hk : k < xs.length) (h : p xs[k] = false) :
    ∀ (j : Nat) (hj : j < xs.length), j < k + 1 → p xs[j] = false := fun j hj hjk => by
  rcases Nat.lt_succ_iff_lt_or_eq.1 hjk with hj' | rfl
  · exact hno j hj hj'
  · exact h
theorem fidx_any {α : Type} {p : α → Bool} {xs : List α} : decide (0 ≤ fidx p xs) = xs.any p := by
  unfold fidx
  cases h : xs.findIdx? p with
  | none =>
    rw [List.findIdx?_eq_none_iff] at h
    simp
    intro x hx; exact h x hx
  | some i =>
    rw [List.findIdx?_eq_some_iff_getElem] at h
    obtain ⟨hi, hp, -⟩ := h
    simp
    exact ⟨xs[i], List.getElem_mem _, hp⟩
@[simp] theorem immL_caps (H : List (Nat × Obj)) : ∀ caps : List IV, immL H (caps.map .i) = some (caps.map .i)
  | [] => rfl
  | x :: l => by simp [immL_caps H l]
theorem c117 (xs : List Ru) (g : FuncId) (caps : List IV) (p : Ru → Bool) (hp : ∀ x ∈ xs, PC E g (.agg (encR x) :: caps.map .i) [.i (.bool (p x))]) (h : (xs.length : Int) ≤ 1048576) :
    PC E 117 [.i (.sl (xs.map encR)), .i (.fn g caps)] [.i (.int .i64 (fidx p xs))] := by
  refine PC_start hE Proofs.Try.func117 rfl rfl Proofs.Try.ntmps117 (by kernel_rfl) (by kernel_rfl) (by simp) ?_
  simp (maxSteps := 1000000) (disch := first | (exact DrawOk.mk (by decide +kernel)) | omega | simp) [wrap_i64, le_most, lt_omega, le_omega, ne_omega, allLen]
  refine XL.by hE (ι := { k : Nat // k ≤ xs.length ∧ ∀ (j : Nat) (hj : j < xs.length), j < k → p xs[j] = false }) (fun k => ⟨[(0, .i (.sl (xs.map encR))), (1, .i (.fn g caps)), (7, .i (.int .i64 xs.length)), (8, .i (.int .i64 k.1))], []⟩)
    (fun k => xs.length - k.1) ⟨0, Nat.zero_le _, by simp⟩ ⟨by simp, by simp, by simp⟩ (by kernel_rfl) ?_
  rintro ⟨k, hk, hno⟩
  by_cases hlt : k < xs.length
  · simp (maxSteps := 1000000) (disch := first | (exact DrawOk.mk (by decide +kernel)) | omega | simp) [wrap_i64, le_most, lt_omega, le_omega, ne_omega, allLen, hlt]
    refine CallK.of (hp xs[k] (List.getElem_mem _)) (by first | exact .inl rfl | exact .inr (by simp)) (by simp) ?_
    simp (maxSteps := 1000000) (disch := first | (exact DrawOk.mk (by decide +kernel)) | omega | simp) [wrap_i64, le_most, lt_omega, le_omega, ne_omega, allLen, hlt]
    (first | refine Gd.dec (fun h4 => ?_) (fun h4 => ?_) | refine Gd.intro (fun h4 => ?_) (fun h4 => ?_)) <;> simp (maxSteps := 1000000) (disch := first | (exact DrawOk.mk (by decide +kernel)) | omega | simp) [wrap_i64, le_most, lt_omega, le_omega, ne_omega, allLen, h4]
    · simp [fidx_at hlt hno h4]
    · (refine ⟨⟨k + 1, by omega, step_no hno hlt h4⟩, by (simp; try omega), ?_⟩; constructor <;> (simp (maxSteps := 1000000) (disch := first | (exact DrawOk.mk (by decide +kernel)) | omega | simp) [wrap_i64, le_most, lt_omega, le_omega, ne_omega, allLen]) <;> (try omega))
  · obtain rfl : k = xs.length := by omega
    simp (maxSteps := 1000000) (disch := first | (exact DrawOk.mk (by decide +kernel)) | omega | simp) [wrap_i64, le_most, lt_omega, le_omega, ne_omega, allLen, fidx_none fun j hj => hno j hj hj]
theorem c103 (xs : List Ru) (g : FuncId) (caps : List IV) (p : Ru → Bool) (hp : ∀ x ∈ xs, PC E g (.agg (encR x) :: caps.map .i) [.i (.bool (p x))]) (h : (xs.length : Int) ≤ 1048576) :
    PC E 103 [.i (.sl (xs.map encR)), .i (.fn g caps)] [.i (.bool (xs.any p))] := by
  refine PC_start hE Proofs.Try.func103 rfl rfl Proofs.Try.ntmps103 (by kernel_rfl) (by kernel_rfl) (by simp) ?_
  simp (maxSteps := 1000000) (disch := first | (exact DrawOk.mk (by decide +kernel)) | omega | simp) [wrap_i64, le_most, lt_omega, le_omega, ne_omega, allLen]
  refine CallK.of (c117 xs g caps p hp h) (by first | exact .inl rfl | exact .inr (by simp)) (by simp) ?_
  simp (maxSteps := 1000000) (disch := first | (exact DrawOk.mk (by decide +kernel)) | omega | simp) [wrap_i64, le_most, lt_omega, le_omega, ne_omega, allLen, fidx_any]
theorem c116 (xs : List Int) (g : FuncId) (caps : List IV) (p : Int → Bool) (hp : ∀ x ∈ xs, PC E g (.i (.int .i64 x) :: caps.map .i) [.i (.bool (p x))]) (h : (xs.length : Int) ≤ 1048576) :
    PC E 116 [.i (.sl (xs.map encI)), .i (.fn g caps)] [.i (.int .i64 (fidx p xs))] := by
  refine PC_start hE Proofs.Try.func116 rfl rfl Proofs.Try.ntmps116 (by kernel_rfl) (by kernel_rfl) (by simp) ?_
  simp (maxSteps := 1000000) (disch := first | (exact DrawOk.mk (by decide +kernel)) | omega | simp) [wrap_i64, le_most, lt_omega, le_omega, ne_omega, allLen]
  refine XL.by hE (ι := { k : Nat // k ≤ xs.length ∧ ∀ (j : Nat) (hj : j < xs.length), j < k → p xs[j] = false }) (fun k => ⟨[(0, .i (.sl (xs.map encI))), (1, .i (.fn g caps)), (7, .i (.int .i64 xs.length)), (8, .i (.int .i64 k.1))], []⟩)
    (fun k => xs.length - k.1) ⟨0, Nat.zero_le _, by simp⟩ ⟨by simp, by simp, by simp⟩ (by kernel_rfl) ?_
  rintro ⟨k, hk, hno⟩
  by_cases hlt : k < xs.length
  · simp (maxSteps := 1000000) (disch := first | (exact DrawOk.mk (by decide +kernel)) | omega | simp) [wrap_i64, le_most, lt_omega, le_omega, ne_omega, allLen, hlt, encI]
    refine CallK.of (hp xs[k] (List.getElem_mem _)) (by first | exact .inl rfl | exact .inr (by simp)) (by simp) ?_
    simp (maxSteps := 1000000) (disch := first | (exact DrawOk.mk (by decide +kernel)) | omega | simp) [wrap_i64, le_most, lt_omega, le_omega, ne_omega, allLen, hlt, encI]
    (first | refine Gd.dec (fun h4 => ?_) (fun h4 => ?_) | refine Gd.intro (fun h4 => ?_) (fun h4 => ?_)) <;> simp (maxSteps := 1000000) (disch := first | (exact DrawOk.mk (by decide +kernel)) | omega | simp) [wrap_i64, le_most, lt_omega, le_omega, ne_omega, allLen, h4]
    · simp [fidx_at hlt hno h4]
    · (refine ⟨⟨k + 1, by omega, step_no hno hlt h4⟩, by (simp; try omega), ?_⟩; constructor <;> (simp (maxSteps := 1000000) (disch := first | (exact DrawOk.mk (by decide +kernel)) | omega | simp) [wrap_i64, le_most, lt_omega, le_omega, ne_omega, allLen]) <;> (try omega))
  · obtain rfl : k = xs.length := by omega
    simp (maxSteps := 1000000) (disch := first | (exact DrawOk.mk (by decide +kernel)) | omega | simp) [wrap_i64, le_most, lt_omega, le_omega, ne_omega, allLen, fidx_none fun j hj => hno j hj hj]
theorem c98 (xs : List Int) (g : FuncId) (caps : List IV) (p : Int → Bool) (hp : ∀ x ∈ xs, PC E g (.i (.int .i64 x) :: caps.map .i) [.i (.bool (p x))]) (h : (xs.length : Int) ≤ 1048576) :
    PC E 98 [.i (.sl (xs.map encI)), .i (.fn g caps)] [.i (.bool (xs.any p))] := by
  refine PC_start hE Proofs.Try.func98 rfl rfl Proofs.Try.ntmps98 (by kernel_rfl) (by kernel_rfl) (by simp) ?_
  simp (maxSteps := 1000000) (disch := first | (exact DrawOk.mk (by decide +kernel)) | omega | simp) [wrap_i64, le_most, lt_omega, le_omega, ne_omega, allLen]
  refine CallK.of (c116 xs g caps p hp h) (by first | exact .inl rfl | exact .inr (by simp)) (by simp) ?_
  simp (maxSteps := 1000000) (disch := first | (exact DrawOk.mk (by decide +kernel)) | omega | simp) [wrap_i64, le_most, lt_omega, le_omega, ne_omega, allLen, fidx_any]
end Go.Vai
set_option linter.unusedVariables false
set_option linter.unusedSimpArgs false
set_option maxHeartbeats 4000000
namespace Go.Vai
def rsum (l : List Ru) : Nat := (l.map Ru.sz).sum
theorem rsum_step {l : List Ru} {k : Nat} (hk : k < l.length) : rsum (l.take (k + 1)) = rsum (l.take k) + l[k].sz := by
  rw [List.take_succ_eq_append_getElem hk]; simp only [rsum, List.map_append, List.sum_append, List.map_cons, List.map_nil, List.sum_cons, List.sum_nil]; omega
theorem rsum_le (l : List Ru) (k : Nat) : rsum (l.take k) ≤ rsum l := by
  have : rsum (l.take k ++ l.drop k) = rsum (l.take k) + rsum (l.drop k) := by simp only [rsum, List.map_append, List.sum_append]
  rw [List.take_append_drop] at this; omega
theorem rsum_get {l : List Ru} {k : Nat} (hk : k < l.length) : l[k].sz ≤ rsum l := by
  have h1 := rsum_step hk
  have h2 := rsum_le l (k + 1)
  omega
def Ru.fine (x : Ru) : Prop := x.vars.length ≤ maxLen ∧ x.signs.length ≤ maxLen
theorem c27 (ls : List Ru) (n : Int) (h0 : 0 ≤ n) (h1 : n ≤ 1048576) (h : ls.length ≤ maxLen) (hf : ∀ x ∈ ls, x.fine) :
    PC E 27 [.i (.sl (ls.map encR)), .i (.int .i64 n)] [.i (.int .i64 (if n - ls.length - rsum ls < 0 then -1 else n - ls.length - rsum ls))] := by
  have m : maxLen = 9223372036854775807 := by decide
  refine PC_start hE Proofs.Try.func27 rfl rfl Proofs.Try.ntmps27 (by kernel_rfl) (by kernel_rfl) (by simp) ?_
  simp (maxSteps := 1000000) (disch := first | (exact DrawOk.mk (by decide +kernel)) | omega | simp) [wrap_i64, le_most, lt_omega, le_omega, ne_omega, allLen]
  (first | refine Gd.dec (fun h2 => ?_) (fun h2 => ?_) | refine Gd.intro (fun h2 => ?_) (fun h2 => ?_)) <;> simp (maxSteps := 1000000) (disch := first | (exact DrawOk.mk (by decide +kernel)) | omega | simp) [wrap_i64, le_most, lt_omega, le_omega, ne_omega, allLen, h2]
  refine XL.by hE (ι := { k : Nat // k ≤ ls.length ∧ 0 ≤ n - ls.length - rsum (ls.take k) }) (fun k => ⟨[(0, .i (.sl (ls.map encR))), (1, .i (.int .i64 (n - ls.length - rsum (ls.take k.1)))), (5, .i (.int .i64 k.1))], []⟩)
    (fun k => ls.length - k.1) ⟨0, Nat.zero_le _, by simp [rsum]; omega⟩ ⟨by simp [rsum], by simp, by simp⟩ (by kernel_rfl) ?_
  rintro ⟨k, hk, hs⟩
  have hle := rsum_le ls k
  by_cases hlt : k < ls.length
  · have hst := rsum_step hlt
    have hle2 := rsum_le ls (k + 1)
    have hx := hf _ (List.getElem_mem hlt)
    simp (maxSteps := 1000000) (disch := first | (exact DrawOk.mk (by decide +kernel)) | omega | simp) [wrap_i64, le_most, lt_omega, le_omega, ne_omega, allLen, hlt]
    refine CallK.of (c20 ls[k] _ hs (by omega) hx.1 hx.2) (by first | exact .inl rfl | exact .inr (by simp)) (by simp) ?_
    simp (maxSteps := 1000000) (disch := first | (exact DrawOk.mk (by decide +kernel)) | omega | simp) [wrap_i64, le_most, lt_omega, le_omega, ne_omega, allLen]
    (first | refine Gd.dec (fun h4 => ?_) (fun h4 => ?_) | refine Gd.intro (fun h4 => ?_) (fun h4 => ?_)) <;> simp (maxSteps := 1000000) (disch := first | (exact DrawOk.mk (by decide +kernel)) | omega | simp) [wrap_i64, le_most, lt_omega, le_omega, ne_omega, allLen, h4]
    have h5 : ¬ n - ls.length - rsum (ls.take k) - ls[k].sz < 0 := by split at h4 <;> omega
    (refine ⟨⟨k + 1, by omega, by omega⟩, by (simp; try omega), ?_⟩; constructor <;> (simp (maxSteps := 1000000) (disch := first | (exact DrawOk.mk (by decide +kernel)) | omega | simp) [wrap_i64, le_most, lt_omega, le_omega, ne_omega, allLen, h5, hst]) <;> (try omega))
  · obtain rfl : k = ls.length := by omega
    rw [List.take_length] at hs
    simp (maxSteps := 1000000) (disch := first | (exact DrawOk.mk (by decide +kernel)) | omega | simp) [wrap_i64, le_most, lt_omega, le_omega, ne_omega, allLen]
theorem c29 (ls : List Ru) (h : (ls.length : Int) ≤ 1048576) (hr : (rsum ls : Int) ≤ 1048576) : PC E 29 [.i (.sl (ls.map encR))] [.own 3 (ls.map encR)] := by
  refine PC_start hE Proofs.Try.func29 rfl rfl Proofs.Try.ntmps29 (by kernel_rfl) (by kernel_rfl) (by simp) ?_
  simp (maxSteps := 1000000) (disch := first | (exact DrawOk.mk (by decide +kernel)) | omega | simp) [wrap_i64, le_most, lt_omega, le_omega, ne_omega, allLen]
  have hl : (ls.map encR).length = ls.length := by simp
  refine XL.by hE (ι := { k : Nat // k ≤ ls.length }) (fun k => ⟨[(3, .own 7 0 ls.length), (4, .i (.int .i64 k.1)), (0, .i (.sl (ls.map encR)))],
    [(7, ⟨3, fill (ls.map encR) [.int .i64 0, .sl [], .sl []] k.1⟩)]⟩) (fun k => ls.length - k.1) ⟨0, Nat.zero_le _⟩ ⟨by simp, by simp [fill_zero], by simp⟩ (by kernel_rfl) ?_
  rintro ⟨k, hk⟩
  by_cases hlt : k < ls.length
  · have hz := fill_get (ls.map encR) [.int .i64 0, .sl [], .sl []] k (by omega)
    have hs := fill_set (ls.map encR) [.int .i64 0, .sl [], .sl []] k (encR ls[k]) (by simp [hlt])
    have hg := rsum_get hlt
    simp (maxSteps := 1000000) (disch := first | (exact DrawOk.mk (by decide +kernel)) | omega | simp) [wrap_i64, le_most, lt_omega, le_omega, ne_omega, allLen, hlt]
    refine CallK.of (c22 ls[k] (by omega)) (by first | exact .inl rfl | exact .inr (by simp)) (by simp) ?_
    simp [encR] at hs
    simp (maxSteps := 1000000) (disch := first | (exact DrawOk.mk (by decide +kernel)) | omega | simp) [wrap_i64, le_most, lt_omega, le_omega, ne_omega, allLen, hlt, hz, hs, encR]
    (refine ⟨⟨k + 1, by omega⟩, by (simp; try omega), ?_⟩; constructor <;> (simp (maxSteps := 1000000) (disch := first | (exact DrawOk.mk (by decide +kernel)) | omega | simp) [wrap_i64, le_most, lt_omega, le_omega, ne_omega, allLen]) <;> (try omega))
  · have hf := fill_all (ls.map encR) [.int .i64 0, .sl [], .sl []] k (by omega)
    simp (maxSteps := 1000000) (disch := first | (exact DrawOk.mk (by decide +kernel)) | omega | simp) [wrap_i64, le_most, lt_omega, le_omega, ne_omega, allLen, hlt, hf]
theorem c31 (ls ms : List Ru) (h : (ls.length : Int) ≤ 1048576) (hm : (ms.length : Int) ≤ 1048576) (hr : (rsum ls : Int) ≤ 1048576) (hr2 : (rsum ms : Int) ≤ 1048576) :
    PC E 31 [.i (.sl (ls.map encR)), .i (.sl (ms.map encR))] [.i (.bool (decide (ls = ms)))] := by
  refine PC_start hE Proofs.Try.func31 rfl rfl Proofs.Try.ntmps31 (by kernel_rfl) (by kernel_rfl) (by simp) ?_
  simp (maxSteps := 1000000) (disch := first | (exact DrawOk.mk (by decide +kernel)) | omega | simp) [wrap_i64, le_most, lt_omega, le_omega, ne_omega, allLen]
  (first | refine Gd.dec (fun h1 => ?_) (fun h1 => ?_) | refine Gd.intro (fun h1 => ?_) (fun h1 => ?_)) <;> simp (maxSteps := 1000000) (disch := first | (exact DrawOk.mk (by decide +kernel)) | omega | simp) [wrap_i64, le_most, lt_omega, le_omega, ne_omega, allLen, h1]
  rotate_left
  · intro e; subst e; exact h1 rfl
  refine XL.by hE (ι := { k : Nat // k ≤ ls.length ∧ ls.take k = ms.take k }) (fun p => ⟨[(5, .i (.int .i64 p.1)), (0, .i (.sl (ls.map encR))), (1, .i (.sl (ms.map encR)))], []⟩) (fun p => ls.length - p.1) ⟨0, by simp⟩
    ⟨by simp, by simp, by simp⟩ (by kernel_rfl) ?_
  rintro ⟨k, hk, he⟩
  have hl : ls.length = ms.length := by omega
  by_cases hlt : k < ls.length
  · have hlt' : k < ms.length := by omega
    have g1 := rsum_get hlt
    have g2 := rsum_get hlt'
    simp (maxSteps := 1000000) (disch := first | (exact DrawOk.mk (by decide +kernel)) | omega | simp) [wrap_i64, le_most, lt_omega, le_omega, ne_omega, allLen, hlt, hlt']
    refine CallK.of (c25 _ _ (by omega) (by omega)) (by first | exact .inl rfl | exact .inr (by simp)) (by simp) ?_
    simp (maxSteps := 1000000) (disch := first | (exact DrawOk.mk (by decide +kernel)) | omega | simp) [wrap_i64, le_most, lt_omega, le_omega, ne_omega, allLen, hlt, hlt']
    (first | refine Gd.dec (fun h4 => ?_) (fun h4 => ?_) | refine Gd.intro (fun h4 => ?_) (fun h4 => ?_)) <;> simp (maxSteps := 1000000) (disch := first | (exact DrawOk.mk (by decide +kernel)) | omega | simp) [wrap_i64, le_most, lt_omega, le_omega, ne_omega, allLen, h4]
    · (refine ⟨⟨k + 1, by omega, take_step hlt hlt' he h4⟩, by (simp; try omega), ?_⟩; constructor <;> (simp (maxSteps := 1000000) (disch := first | (exact DrawOk.mk (by decide +kernel)) | omega | simp) [wrap_i64, le_most, lt_omega, le_omega, ne_omega, allLen]) <;> (try omega))
    · intro e; subst e; exact h4 rfl
  · obtain rfl : ls = ms := take_eq_of hl (by omega) he
    simp (maxSteps := 1000000) (disch := first | (exact DrawOk.mk (by decide +kernel)) | omega | simp) [wrap_i64, le_most, lt_omega, le_omega, ne_omega, allLen, hlt]
/-- A number within bounds. -/
theorem c68 (ls : List Int) : PC E 68 [.i (.sl (ls.map encI))] [.i (.int .i64 ls.length)] := by
  refine PC_start hE Proofs.Try.func68 rfl rfl Proofs.Try.ntmps68 (by kernel_rfl) (by kernel_rfl) (by simp) ?_
  simp (maxSteps := 1000000) (disch := first | (exact DrawOk.mk (by decide +kernel)) | omega | simp) [wrap_i64, le_most, lt_omega, le_omega, ne_omega, allLen]
/-- Numbers at their places. -/
def riseAt (l : List Int) (lo hi : Int) (k : Nat) : Bool := inB (l.getD k 0) lo hi && (decide (k = 0) || decide (l.getD (k - 1) 0 < l.getD k 0))
def rises (l : List Int) (lo hi : Int) : Bool := (List.range l.length).all (riseAt l lo hi)
theorem rises_true {l : List Int} {lo hi : Int} (h : ∀ j, j < l.length → riseAt l lo hi j = true) : rises l lo hi = true := by
  simp only [rises, List.all_eq_true, List.mem_range]; exact h
theorem rises_false {l : List Int} {lo hi : Int} {j : Nat} (hj : j < l.length) (h : riseAt l lo hi j = false) : rises l lo hi = false := by
  rw [← Bool.not_eq_true]; intro hr
  simp only [rises, List.all_eq_true, List.mem_range] at hr
  rw [hr j hj] at h; simp at h
theorem all_step {f : Nat → Bool} {k : Nat} (h : ∀ j, j < k → f j = true) (hk : f k = true) : ∀ j, j < k + 1 → f j = true := fun j hj => by
  rcases Nat.lt_succ_iff_lt_or_eq.1 hj with h' | rfl
  · exact h j h'
  · exact hk
end Go.Vai
set_option linter.unusedVariables false
set_option linter.unusedSimpArgs false
set_option maxHeartbeats 4000000
namespace Go.Vai
theorem c96 (l : List Int) (lo hi : Int) (h : (l.length : Int) ≤ 1048576) : PC E 96 [.i (.sl (l.map encI)), .i (.int .i64 lo), .i (.int .i64 hi)] [.i (.bool (rises l lo hi))] := by
  refine PC_start hE Proofs.Try.func96 rfl rfl Proofs.Try.ntmps96 (by kernel_rfl) (by kernel_rfl) (by simp) ?_
  simp (maxSteps := 1000000) (disch := first | (exact DrawOk.mk (by decide +kernel)) | omega | simp) [wrap_i64, le_most, lt_omega, le_omega, ne_omega, allLen]
  refine XL.by hE (ι := { k : Nat // k ≤ l.length ∧ ∀ j, j < k → riseAt l lo hi j = true }) (fun k => ⟨[(0, .i (.sl (l.map encI))), (1, .i (.int .i64 lo)), (2, .i (.int .i64 hi)), (9, .i (.sl (l.map encI))), (10, .i (.int .i64 l.length)), (11, .i (.int .i64 k.1))], []⟩) (fun k => l.length - k.1) ⟨0, Nat.zero_le _, by simp⟩
    ⟨by simp, by simp, by simp⟩ (by kernel_rfl) ?_
  rintro ⟨k, hk, hr⟩
  by_cases hlt : k < l.length
  · cases k with
    | zero =>
      have hd : riseAt l lo hi 0 = inB l[0] lo hi := by simp [riseAt, hlt]
      simp (maxSteps := 1000000) (disch := first | (exact DrawOk.mk (by decide +kernel)) | omega | simp) [wrap_i64, le_most, lt_omega, le_omega, ne_omega, allLen, hlt, encI]
      refine CallK.of (c95 _ _ _) (by first | exact .inl rfl | exact .inr (by simp)) (by simp) ?_
      simp (maxSteps := 1000000) (disch := first | (exact DrawOk.mk (by decide +kernel)) | omega | simp) [wrap_i64, le_most, lt_omega, le_omega, ne_omega, allLen, hlt]
      (first | refine Gd.dec (fun h4 => ?_) (fun h4 => ?_) | refine Gd.intro (fun h4 => ?_) (fun h4 => ?_)) <;> simp (maxSteps := 1000000) (disch := first | (exact DrawOk.mk (by decide +kernel)) | omega | simp) [wrap_i64, le_most, lt_omega, le_omega, ne_omega, allLen, h4]
      · (refine ⟨⟨1, by omega, all_step hr (by rw [hd, h4])⟩, by (simp; try omega), ?_⟩; constructor <;> (simp (maxSteps := 1000000) (disch := first | (exact DrawOk.mk (by decide +kernel)) | omega | simp) [wrap_i64, le_most, lt_omega, le_omega, ne_omega, allLen]) <;> (try omega))
      · rw [rises_false hlt (by rw [hd, h4])]
    | succ k =>
      have hlt' : k < l.length := by omega
      have hnn : ¬ ((k : Int) + 1 < 0) := by omega
      have hd : riseAt l lo hi (k + 1) = (inB l[k + 1] lo hi && decide (l[k] < l[k + 1])) := by simp [riseAt, hlt, hlt']
      simp (maxSteps := 1000000) (disch := first | (exact DrawOk.mk (by decide +kernel)) | omega | simp) [wrap_i64, le_most, lt_omega, le_omega, ne_omega, allLen, hlt, hlt', hnn, encI]
      refine CallK.of (c95 _ _ _) (by first | exact .inl rfl | exact .inr (by simp)) (by simp) ?_
      simp (maxSteps := 1000000) (disch := first | (exact DrawOk.mk (by decide +kernel)) | omega | simp) [wrap_i64, le_most, lt_omega, le_omega, ne_omega, allLen, hlt, hlt', hnn, encI]
      (first | refine Gd.dec (fun h4 => ?_) (fun h4 => ?_) | refine Gd.intro (fun h4 => ?_) (fun h4 => ?_)) <;> simp (maxSteps := 1000000) (disch := first | (exact DrawOk.mk (by decide +kernel)) | omega | simp) [wrap_i64, le_most, lt_omega, le_omega, ne_omega, allLen, h4]
      · simp (maxSteps := 1000000) (disch := first | (exact DrawOk.mk (by decide +kernel)) | omega | simp) [wrap_i64, le_most, lt_omega, le_omega, ne_omega, allLen, hlt, hlt', hnn, encI]
        (first | refine Gd.dec (fun h5 => ?_) (fun h5 => ?_) | refine Gd.intro (fun h5 => ?_) (fun h5 => ?_)) <;> simp (maxSteps := 1000000) (disch := first | (exact DrawOk.mk (by decide +kernel)) | omega | simp) [wrap_i64, le_most, lt_omega, le_omega, ne_omega, allLen, h5]
        · rw [rises_false hlt (by rw [hd, h4]; simp; omega)]
        · (refine ⟨⟨k + 1 + 1, by omega, all_step hr (by rw [hd, h4]; simp; omega)⟩, by (simp; try omega), ?_⟩; constructor <;> (simp (maxSteps := 1000000) (disch := first | (exact DrawOk.mk (by decide +kernel)) | omega | simp) [wrap_i64, le_most, lt_omega, le_omega, ne_omega, allLen]) <;> (try omega))
      · rw [rises_false hlt (by rw [hd, h4]; rfl)]
  · obtain rfl : k = l.length := by omega
    simp (maxSteps := 1000000) (disch := first | (exact DrawOk.mk (by decide +kernel)) | omega | simp) [wrap_i64, le_most, lt_omega, le_omega, ne_omega, allLen, rises_true hr]
theorem c113 (l : List Int) (lo hi : Int) (h : (l.length : Int) ≤ 1048576) : PC E 113 [.i (.sl (l.map encI)), .i (.int .i64 lo), .i (.int .i64 hi)] [.i (.bool (rises l lo hi))] := by
  refine PC_start hE Proofs.Try.func113 rfl rfl Proofs.Try.ntmps113 (by kernel_rfl) (by kernel_rfl) (by simp) ?_
  simp (maxSteps := 1000000) (disch := first | (exact DrawOk.mk (by decide +kernel)) | omega | simp) [wrap_i64, le_most, lt_omega, le_omega, ne_omega, allLen]
  refine XL.by hE (ι := { k : Nat // k ≤ l.length ∧ ∀ j, j < k → riseAt l lo hi j = true }) (fun k => ⟨[(0, .i (.sl (l.map encI))), (1, .i (.int .i64 lo)), (2, .i (.int .i64 hi)), (7, .i (.int .i64 k.1))], []⟩) (fun k => l.length - k.1) ⟨0, Nat.zero_le _, by simp⟩
    ⟨by simp, by simp, by simp⟩ (by kernel_rfl) ?_
  rintro ⟨k, hk, hr⟩
  by_cases hlt : k < l.length
  · cases k with
    | zero =>
      have hd : riseAt l lo hi 0 = inB l[0] lo hi := by simp [riseAt, hlt]
      simp (maxSteps := 1000000) (disch := first | (exact DrawOk.mk (by decide +kernel)) | omega | simp) [wrap_i64, le_most, lt_omega, le_omega, ne_omega, allLen, hlt, encI]
      refine CallK.of (c93 _ _ _) (by first | exact .inl rfl | exact .inr (by simp)) (by simp) ?_
      simp (maxSteps := 1000000) (disch := first | (exact DrawOk.mk (by decide +kernel)) | omega | simp) [wrap_i64, le_most, lt_omega, le_omega, ne_omega, allLen, hlt]
      (first | refine Gd.dec (fun h4 => ?_) (fun h4 => ?_) | refine Gd.intro (fun h4 => ?_) (fun h4 => ?_)) <;> simp (maxSteps := 1000000) (disch := first | (exact DrawOk.mk (by decide +kernel)) | omega | simp) [wrap_i64, le_most, lt_omega, le_omega, ne_omega, allLen, h4]
      · (refine ⟨⟨1, by omega, all_step hr (by rw [hd, h4])⟩, by (simp; try omega), ?_⟩; constructor <;> (simp (maxSteps := 1000000) (disch := first | (exact DrawOk.mk (by decide +kernel)) | omega | simp) [wrap_i64, le_most, lt_omega, le_omega, ne_omega, allLen]) <;> (try omega))
      · rw [rises_false hlt (by rw [hd, h4])]
    | succ k =>
      have hlt' : k < l.length := by omega
      have hnn : ¬ ((k : Int) + 1 < 0) := by omega
      have hd : riseAt l lo hi (k + 1) = (inB l[k + 1] lo hi && decide (l[k] < l[k + 1])) := by simp [riseAt, hlt, hlt']
      simp (maxSteps := 1000000) (disch := first | (exact DrawOk.mk (by decide +kernel)) | omega | simp) [wrap_i64, le_most, lt_omega, le_omega, ne_omega, allLen, hlt, hlt', hnn, encI]
      refine CallK.of (c93 _ _ _) (by first | exact .inl rfl | exact .inr (by simp)) (by simp) ?_
      simp (maxSteps := 1000000) (disch := first | (exact DrawOk.mk (by decide +kernel)) | omega | simp) [wrap_i64, le_most, lt_omega, le_omega, ne_omega, allLen, hlt, hlt', hnn, encI]
      (first | refine Gd.dec (fun h4 => ?_) (fun h4 => ?_) | refine Gd.intro (fun h4 => ?_) (fun h4 => ?_)) <;> simp (maxSteps := 1000000) (disch := first | (exact DrawOk.mk (by decide +kernel)) | omega | simp) [wrap_i64, le_most, lt_omega, le_omega, ne_omega, allLen, h4]
      · simp (maxSteps := 1000000) (disch := first | (exact DrawOk.mk (by decide +kernel)) | omega | simp) [wrap_i64, le_most, lt_omega, le_omega, ne_omega, allLen, hlt, hlt', hnn, encI]
        (first | refine Gd.dec (fun h5 => ?_) (fun h5 => ?_) | refine Gd.intro (fun h5 => ?_) (fun h5 => ?_)) <;> simp (maxSteps := 1000000) (disch := first | (exact DrawOk.mk (by decide +kernel)) | omega | simp) [wrap_i64, le_most, lt_omega, le_omega, ne_omega, allLen, h5]
        · rw [rises_false hlt (by rw [hd, h4]; simp; omega)]
        · (refine ⟨⟨k + 1 + 1, by omega, all_step hr (by rw [hd, h4]; simp; omega)⟩, by (simp; try omega), ?_⟩; constructor <;> (simp (maxSteps := 1000000) (disch := first | (exact DrawOk.mk (by decide +kernel)) | omega | simp) [wrap_i64, le_most, lt_omega, le_omega, ne_omega, allLen]) <;> (try omega))
      · rw [rises_false hlt (by rw [hd, h4]; rfl)]
  · obtain rfl : k = l.length := by omega
    simp (maxSteps := 1000000) (disch := first | (exact DrawOk.mk (by decide +kernel)) | omega | simp) [wrap_i64, le_most, lt_omega, le_omega, ne_omega, allLen, rises_true hr]
end Go.Vai
set_option linter.unusedVariables false
set_option linter.unusedSimpArgs false
set_option maxHeartbeats 4000000
namespace Go.Vai
def unitB (s : Int) : Bool := decide (s = 1) || decide (s = -1)
theorem c115 (s : Int) : PC E 115 [.i (.int .i64 s)] [.i (.bool (unitB s))] := by
  refine PC_start hE Proofs.Try.func115 rfl rfl Proofs.Try.ntmps115 (by kernel_rfl) (by kernel_rfl) (by simp) ?_
  simp (maxSteps := 1000000) (disch := first | (exact DrawOk.mk (by decide +kernel)) | omega | simp) [wrap_i64, le_most, lt_omega, le_omega, ne_omega, allLen, unitB]
  (first | refine Gd.dec (fun h1 => ?_) (fun h1 => ?_) | refine Gd.intro (fun h1 => ?_) (fun h1 => ?_)) <;> simp (maxSteps := 1000000) (disch := first | (exact DrawOk.mk (by decide +kernel)) | omega | simp) [wrap_i64, le_most, lt_omega, le_omega, ne_omega, allLen, h1]
theorem c114 (s : Int) : PC E 114 [.i (.int .i64 s)] [.i (.bool (!unitB s))] := by
  refine PC_start hE Proofs.Try.func114 rfl rfl Proofs.Try.ntmps114 (by kernel_rfl) (by kernel_rfl) (by simp) ?_
  simp (maxSteps := 1000000) (disch := first | (exact DrawOk.mk (by decide +kernel)) | omega | simp) [wrap_i64, le_most, lt_omega, le_omega, ne_omega, allLen]
  refine CallK.of (c115 s) (by first | exact .inl rfl | exact .inr (by simp)) (by simp) ?_
  simp (maxSteps := 1000000) (disch := first | (exact DrawOk.mk (by decide +kernel)) | omega | simp) [wrap_i64, le_most, lt_omega, le_omega, ne_omega, allLen]
theorem c97 (l : List Int) (h : (l.length : Int) ≤ 1048576) : PC E 97 [.i (.sl (l.map encI))] [.i (.bool (l.all unitB))] := by
  refine PC_start hE Proofs.Try.func97 rfl rfl Proofs.Try.ntmps97 (by kernel_rfl) (by kernel_rfl) (by simp) ?_
  simp (maxSteps := 1000000) (disch := first | (exact DrawOk.mk (by decide +kernel)) | omega | simp) [wrap_i64, le_most, lt_omega, le_omega, ne_omega, allLen]
  refine CallK.of (c98 l 114 [] (fun s => !unitB s) (fun x _ => c114 x) h) (by first | exact .inl rfl | exact .inr (by simp)) (by simp) ?_
  simp (maxSteps := 1000000) (disch := first | (exact DrawOk.mk (by decide +kernel)) | omega | simp) [wrap_i64, le_most, lt_omega, le_omega, ne_omega, allLen, List.not_any_eq_all_not]
def rv (x : Ru) (vars : Int) : Bool := inB x.kind 1 4 && (decide ((x.vars.length : Int) = x.kind) && (decide ((x.signs.length : Int) = x.vars.length) && (rises x.vars 0 (vars - 1) && x.signs.all unitB)))
theorem c67 (x : Ru) (vars : Int) (h : (x.sz : Int) ≤ 1048576) : PC E 67 [.agg (encR x), .i (.int .i64 vars)] [.i (.bool (inB vars 0 200 && rv x vars))] := by
  unfold Ru.sz at h
  refine PC_start hE Proofs.Try.func67 rfl rfl Proofs.Try.ntmps67 (by kernel_rfl) (by kernel_rfl) (by simp) ?_
  simp (maxSteps := 1000000) (disch := first | (exact DrawOk.mk (by decide +kernel)) | omega | simp) [wrap_i64, le_most, lt_omega, le_omega, ne_omega, allLen, encR]
  refine CallK.of (c95 _ _ _) (by first | exact .inl rfl | exact .inr (by simp)) (by simp) ?_
  simp (maxSteps := 1000000) (disch := first | (exact DrawOk.mk (by decide +kernel)) | omega | simp) [wrap_i64, le_most, lt_omega, le_omega, ne_omega, allLen]
  (first | refine Gd.dec (fun h1 => ?_) (fun h1 => ?_) | refine Gd.intro (fun h1 => ?_) (fun h1 => ?_)) <;> simp (maxSteps := 1000000) (disch := first | (exact DrawOk.mk (by decide +kernel)) | omega | simp) [wrap_i64, le_most, lt_omega, le_omega, ne_omega, allLen, h1]
  have hb : 0 ≤ vars ∧ vars ≤ 200 := by simpa [inB] using h1
  refine CallK.of (c95 _ _ _) (by first | exact .inl rfl | exact .inr (by simp)) (by simp) ?_
  simp (maxSteps := 1000000) (disch := first | (exact DrawOk.mk (by decide +kernel)) | omega | simp) [wrap_i64, le_most, lt_omega, le_omega, ne_omega, allLen]
  (first | refine Gd.dec (fun h2 => ?_) (fun h2 => ?_) | refine Gd.intro (fun h2 => ?_) (fun h2 => ?_)) <;> simp (maxSteps := 1000000) (disch := first | (exact DrawOk.mk (by decide +kernel)) | omega | simp) [wrap_i64, le_most, lt_omega, le_omega, ne_omega, allLen, h2]
  rotate_left
  · simp [rv, h2]
  refine CallK.of (c68 _) (by first | exact .inl rfl | exact .inr (by simp)) (by simp) ?_
  simp (maxSteps := 1000000) (disch := first | (exact DrawOk.mk (by decide +kernel)) | omega | simp) [wrap_i64, le_most, lt_omega, le_omega, ne_omega, allLen]
  (first | refine Gd.dec (fun h3 => ?_) (fun h3 => ?_) | refine Gd.intro (fun h3 => ?_) (fun h3 => ?_)) <;> simp (maxSteps := 1000000) (disch := first | (exact DrawOk.mk (by decide +kernel)) | omega | simp) [wrap_i64, le_most, lt_omega, le_omega, ne_omega, allLen, h3]
  rotate_left
  · simp [rv, h2, h3]
  (first | refine Gd.dec (fun h4 => ?_) (fun h4 => ?_) | refine Gd.intro (fun h4 => ?_) (fun h4 => ?_)) <;> simp (maxSteps := 1000000) (disch := first | (exact DrawOk.mk (by decide +kernel)) | omega | simp) [wrap_i64, le_most, lt_omega, le_omega, ne_omega, allLen, h4]
  rotate_left
  · simp [rv, h2, h3, h4]
  refine CallK.of (c96 _ _ _ (by omega)) (by first | exact .inl rfl | exact .inr (by simp)) (by simp) ?_
  simp (maxSteps := 1000000) (disch := first | (exact DrawOk.mk (by decide +kernel)) | omega | simp) [wrap_i64, le_most, lt_omega, le_omega, ne_omega, allLen]
  (first | refine Gd.dec (fun h5 => ?_) (fun h5 => ?_) | refine Gd.intro (fun h5 => ?_) (fun h5 => ?_)) <;> simp (maxSteps := 1000000) (disch := first | (exact DrawOk.mk (by decide +kernel)) | omega | simp) [wrap_i64, le_most, lt_omega, le_omega, ne_omega, allLen, h5]
  rotate_left
  · simp [rv, h2, h3, h4, h5]
  refine CallK.of (c97 _ (by omega)) (by first | exact .inl rfl | exact .inr (by simp)) (by simp) ?_
  simp (maxSteps := 1000000) (disch := first | (exact DrawOk.mk (by decide +kernel)) | omega | simp) [wrap_i64, le_most, lt_omega, le_omega, ne_omega, allLen, rv, h2, h3, h4, h5]
end Go.Vai
set_option linter.unusedVariables false
set_option linter.unusedSimpArgs false
set_option maxHeartbeats 4000000
namespace Go.Vai
theorem all_true_of {α : Type} {p : α → Bool} {l : List α} (h : ∀ (j : Nat) (hj : j < l.length), p l[j] = true) : l.all p = true := by
  rw [List.all_eq_true]
  intro x hx
  obtain ⟨j, hj, rfl⟩ := List.getElem_of_mem hx
  exact h j hj
theorem all_false_of {α : Type} {p : α → Bool} {l : List α} {j : Nat} (hj : j < l.length) (h : p l[j] = false) : l.all p = false := by
  rw [← Bool.not_eq_true, List.all_eq_true]
  intro hx
  rw [hx _ (List.getElem_mem hj)] at h; simp at h
theorem step_yes {α : Type} {p : α → Bool} {xs : List α} {k : Nat} (hno : ∀ (j : Nat) (hj : j < xs.length), j < k → p xs[j] = true) (hk : k < xs.length) (h : p xs[k] = true) :
    ∀ (j : Nat) (hj : j < xs.length), j < k + 1 → p xs[j] = true := fun j hj hjk => by
  rcases Nat.lt_succ_iff_lt_or_eq.1 hjk with hj' | rfl
  · exact hno j hj hj'
  · exact h
theorem c94 (x : Ru) (vars : Int) (h : (x.sz : Int) ≤ 1048576) (hb : 0 ≤ vars ∧ vars ≤ 200) : PC E 94 [.i (.ptr (encR x)), .i (.int .i64 vars)] [.i (.bool (rv x vars))] := by
  unfold Ru.sz at h
  refine PC_start hE Proofs.Try.func94 rfl rfl Proofs.Try.ntmps94 (by kernel_rfl) (by kernel_rfl) (by simp) ?_
  simp (maxSteps := 1000000) (disch := first | (exact DrawOk.mk (by decide +kernel)) | omega | simp) [wrap_i64, le_most, lt_omega, le_omega, ne_omega, allLen, encR]
  refine CallK.of (c93 _ _ _) (by first | exact .inl rfl | exact .inr (by simp)) (by simp) ?_
  simp (maxSteps := 1000000) (disch := first | (exact DrawOk.mk (by decide +kernel)) | omega | simp) [wrap_i64, le_most, lt_omega, le_omega, ne_omega, allLen]
  (first | refine Gd.dec (fun h2 => ?_) (fun h2 => ?_) | refine Gd.intro (fun h2 => ?_) (fun h2 => ?_)) <;> simp (maxSteps := 1000000) (disch := first | (exact DrawOk.mk (by decide +kernel)) | omega | simp) [wrap_i64, le_most, lt_omega, le_omega, ne_omega, allLen, h2]
  rotate_left
  · simp [rv, h2]
  (first | refine Gd.dec (fun h3 => ?_) (fun h3 => ?_) | refine Gd.intro (fun h3 => ?_) (fun h3 => ?_)) <;> simp (maxSteps := 1000000) (disch := first | (exact DrawOk.mk (by decide +kernel)) | omega | simp) [wrap_i64, le_most, lt_omega, le_omega, ne_omega, allLen, h3]
  rotate_left
  · simp [rv, h2, h3]
  (first | refine Gd.dec (fun h4 => ?_) (fun h4 => ?_) | refine Gd.intro (fun h4 => ?_) (fun h4 => ?_)) <;> simp (maxSteps := 1000000) (disch := first | (exact DrawOk.mk (by decide +kernel)) | omega | simp) [wrap_i64, le_most, lt_omega, le_omega, ne_omega, allLen, h4]
  rotate_left
  · simp [rv, h2, h3, h4]
  refine CallK.of (c113 _ _ _ (by omega)) (by first | exact .inl rfl | exact .inr (by simp)) (by simp) ?_
  simp (maxSteps := 1000000) (disch := first | (exact DrawOk.mk (by decide +kernel)) | omega | simp) [wrap_i64, le_most, lt_omega, le_omega, ne_omega, allLen]
  (first | refine Gd.dec (fun h5 => ?_) (fun h5 => ?_) | refine Gd.intro (fun h5 => ?_) (fun h5 => ?_)) <;> simp (maxSteps := 1000000) (disch := first | (exact DrawOk.mk (by decide +kernel)) | omega | simp) [wrap_i64, le_most, lt_omega, le_omega, ne_omega, allLen, h5]
  rotate_left
  · simp [rv, h2, h3, h4, h5]
  refine XL.by hE (ι := { k : Nat // k ≤ x.signs.length ∧ ∀ (j : Nat) (hj : j < x.signs.length), j < k → unitB x.signs[j] = true }) (fun k => ⟨[(0, .i (.ptr (encR x))), (5, .i (.int .i64 k.1))], []⟩)
    (fun k => x.signs.length - k.1) ⟨0, Nat.zero_le _, by simp⟩ ⟨by simp [encR], by simp, by simp⟩ (by kernel_rfl) ?_
  rintro ⟨k, hk, hr⟩
  by_cases hlt : k < x.signs.length
  · simp (maxSteps := 1000000) (disch := first | (exact DrawOk.mk (by decide +kernel)) | omega | simp) [wrap_i64, le_most, lt_omega, le_omega, ne_omega, allLen, hlt, encR, encI]
    (first | refine Gd.dec (fun h6 => ?_) (fun h6 => ?_) | refine Gd.intro (fun h6 => ?_) (fun h6 => ?_)) <;> simp (maxSteps := 1000000) (disch := first | (exact DrawOk.mk (by decide +kernel)) | omega | simp) [wrap_i64, le_most, lt_omega, le_omega, ne_omega, allLen, h6]
    · (refine ⟨⟨k + 1, by omega, step_yes hr hlt (by simp [unitB, h6])⟩, by (simp; try omega), ?_⟩; constructor <;> (simp (maxSteps := 1000000) (disch := first | (exact DrawOk.mk (by decide +kernel)) | omega | simp) [wrap_i64, le_most, lt_omega, le_omega, ne_omega, allLen, encR]) <;> (try omega))
    · simp (maxSteps := 1000000) (disch := first | (exact DrawOk.mk (by decide +kernel)) | omega | simp) [wrap_i64, le_most, lt_omega, le_omega, ne_omega, allLen, hlt, encI]
      (first | refine Gd.dec (fun h7 => ?_) (fun h7 => ?_) | refine Gd.intro (fun h7 => ?_) (fun h7 => ?_)) <;> simp (maxSteps := 1000000) (disch := first | (exact DrawOk.mk (by decide +kernel)) | omega | simp) [wrap_i64, le_most, lt_omega, le_omega, ne_omega, allLen, h7]
      · (refine ⟨⟨k + 1, by omega, step_yes hr hlt (by simp [unitB, h7])⟩, by (simp; try omega), ?_⟩; constructor <;> (simp (maxSteps := 1000000) (disch := first | (exact DrawOk.mk (by decide +kernel)) | omega | simp) [wrap_i64, le_most, lt_omega, le_omega, ne_omega, allLen, encR]) <;> (try omega))
      · simp [rv, all_false_of hlt (show unitB x.signs[k] = false by simp [unitB, h6, h7])]
  · simp (maxSteps := 1000000) (disch := first | (exact DrawOk.mk (by decide +kernel)) | omega | simp) [wrap_i64, le_most, lt_omega, le_omega, ne_omega, allLen, hlt, encR]
    simp [rv, h2, h3, h4, h5]
    have := all_true_of (p := unitB) (l := x.signs) fun j hj => hr j hj (by omega)
    simpa using this
theorem c72 (ls : List Ru) (vars : Int) (h : (ls.length : Int) ≤ 1048576) (hr : (rsum ls : Int) ≤ 1048576) :
    PC E 72 [.i (.sl (ls.map encR)), .i (.int .i64 vars)] [.i (.bool (decide ((ls.length : Int) ≤ 3000) && (inB vars 0 200 && ls.all fun x => rv x vars)))] := by
  refine PC_start hE Proofs.Try.func72 rfl rfl Proofs.Try.ntmps72 (by kernel_rfl) (by kernel_rfl) (by simp) ?_
  simp (maxSteps := 1000000) (disch := first | (exact DrawOk.mk (by decide +kernel)) | omega | simp) [wrap_i64, le_most, lt_omega, le_omega, ne_omega, allLen]
  (first | refine Gd.dec (fun h1 => ?_) (fun h1 => ?_) | refine Gd.intro (fun h1 => ?_) (fun h1 => ?_)) <;> simp (maxSteps := 1000000) (disch := first | (exact DrawOk.mk (by decide +kernel)) | omega | simp) [wrap_i64, le_most, lt_omega, le_omega, ne_omega, allLen, h1]
  · intro h; omega
  have h1' : (ls.length : Int) ≤ 3000 := by omega
  refine CallK.of (c93 _ _ _) (by first | exact .inl rfl | exact .inr (by simp)) (by simp) ?_
  simp (maxSteps := 1000000) (disch := first | (exact DrawOk.mk (by decide +kernel)) | omega | simp) [wrap_i64, le_most, lt_omega, le_omega, ne_omega, allLen]
  (first | refine Gd.dec (fun h2 => ?_) (fun h2 => ?_) | refine Gd.intro (fun h2 => ?_) (fun h2 => ?_)) <;> simp (maxSteps := 1000000) (disch := first | (exact DrawOk.mk (by decide +kernel)) | omega | simp) [wrap_i64, le_most, lt_omega, le_omega, ne_omega, allLen, h2]
  have hb : 0 ≤ vars ∧ vars ≤ 200 := by simpa [inB] using h2
  refine XL.by hE (ι := { k : Nat // k ≤ ls.length ∧ ∀ (j : Nat) (hj : j < ls.length), j < k → rv ls[j] vars = true }) (fun k => ⟨[(0, .i (.sl (ls.map encR))), (1, .i (.int .i64 vars)), (5, .i (.int .i64 k.1))], []⟩)
    (fun k => ls.length - k.1) ⟨0, Nat.zero_le _, by simp⟩ ⟨by simp, by simp, by simp⟩ (by kernel_rfl) ?_
  rintro ⟨k, hk, hno⟩
  by_cases hlt : k < ls.length
  · have hg := rsum_get hlt
    simp (maxSteps := 1000000) (disch := first | (exact DrawOk.mk (by decide +kernel)) | omega | simp) [wrap_i64, le_most, lt_omega, le_omega, ne_omega, allLen, hlt]
    refine CallK.of (c94 ls[k] vars (by omega) hb) (by first | exact .inl rfl | exact .inr (by simp)) (by simp) ?_
    simp (maxSteps := 1000000) (disch := first | (exact DrawOk.mk (by decide +kernel)) | omega | simp) [wrap_i64, le_most, lt_omega, le_omega, ne_omega, allLen, hlt]
    (first | refine Gd.dec (fun h4 => ?_) (fun h4 => ?_) | refine Gd.intro (fun h4 => ?_) (fun h4 => ?_)) <;> simp (maxSteps := 1000000) (disch := first | (exact DrawOk.mk (by decide +kernel)) | omega | simp) [wrap_i64, le_most, lt_omega, le_omega, ne_omega, allLen, h4]
    · (refine ⟨⟨k + 1, by omega, step_yes (p := fun x => rv x vars) hno hlt h4⟩, by (simp; try omega), ?_⟩; constructor <;> (simp (maxSteps := 1000000) (disch := first | (exact DrawOk.mk (by decide +kernel)) | omega | simp) [wrap_i64, le_most, lt_omega, le_omega, ne_omega, allLen]) <;> (try omega))
    · exact ⟨ls[k], List.getElem_mem _, h4⟩
  · have := all_true_of (p := fun x => rv x vars) (l := ls) fun j hj => hno j hj (by omega)
    simp at this
    simp (maxSteps := 1000000) (disch := first | (exact DrawOk.mk (by decide +kernel)) | omega | simp) [wrap_i64, le_most, lt_omega, le_omega, ne_omega, allLen, hlt, h2]
    exact this
theorem c104 (x : Ru) (vars : Int) (h : (x.sz : Int) ≤ 1048576) : PC E 104 [.agg (encR x), .i (.ptr [.int .i64 vars])] [.i (.bool (!(inB vars 0 200 && rv x vars)))] := by
  refine PC_start hE Proofs.Try.func104 rfl rfl Proofs.Try.ntmps104 (by kernel_rfl) (by kernel_rfl) (by simp) ?_
  simp (maxSteps := 1000000) (disch := first | (exact DrawOk.mk (by decide +kernel)) | omega | simp) [wrap_i64, le_most, lt_omega, le_omega, ne_omega, allLen]
  refine CallK.of (c67 x vars h) (by first | exact .inl rfl | exact .inr (by simp)) (by simp) ?_
  simp (maxSteps := 1000000) (disch := first | (exact DrawOk.mk (by decide +kernel)) | omega | simp) [wrap_i64, le_most, lt_omega, le_omega, ne_omega, allLen]
theorem c74 (ls : List Ru) (vars : Int) (h : (ls.length : Int) ≤ 1048576) (hr : (rsum ls : Int) ≤ 1048576) :
    PC E 74 [.i (.sl (ls.map encR)), .i (.int .i64 vars)] [.i (.bool (decide ((ls.length : Int) ≤ 3000) && (inB vars 0 200 && ls.all fun x => rv x vars)))] := by
  refine PC_start hE Proofs.Try.func74 rfl rfl Proofs.Try.ntmps74 (by kernel_rfl) (by kernel_rfl) (by simp) ?_
  simp (maxSteps := 1000000) (disch := first | (exact DrawOk.mk (by decide +kernel)) | omega | simp) [wrap_i64, le_most, lt_omega, le_omega, ne_omega, allLen]
  refine CallK.of (c95 _ _ _) (by first | exact .inl rfl | exact .inr (by simp)) (by simp) ?_
  simp (maxSteps := 1000000) (disch := first | (exact DrawOk.mk (by decide +kernel)) | omega | simp) [wrap_i64, le_most, lt_omega, le_omega, ne_omega, allLen]
  (first | refine Gd.dec (fun h1 => ?_) (fun h1 => ?_) | refine Gd.intro (fun h1 => ?_) (fun h1 => ?_)) <;> simp (maxSteps := 1000000) (disch := first | (exact DrawOk.mk (by decide +kernel)) | omega | simp) [wrap_i64, le_most, lt_omega, le_omega, ne_omega, allLen, h1]
  (first | refine Gd.dec (fun h2 => ?_) (fun h2 => ?_) | refine Gd.intro (fun h2 => ?_) (fun h2 => ?_)) <;> simp (maxSteps := 1000000) (disch := first | (exact DrawOk.mk (by decide +kernel)) | omega | simp) [wrap_i64, le_most, lt_omega, le_omega, ne_omega, allLen, h2]
  have cc := c103 ls 104 [.ptr [.int .i64 vars]] (fun x => !(inB vars 0 200 && rv x vars))
    (fun x hx => c104 x vars (by obtain ⟨j, hj, rfl⟩ := List.getElem_of_mem hx; have := rsum_get hj; omega)) h
  refine CallK.of (cc) (by first | exact .inl rfl | exact .inr (by simp)) (by simp) ?_
  simp (maxSteps := 1000000) (disch := first | (exact DrawOk.mk (by decide +kernel)) | omega | simp) [wrap_i64, le_most, lt_omega, le_omega, ne_omega, allLen, h1, h2, List.not_any_eq_all_not]
end Go.Vai
set_option linter.unusedVariables false
set_option linter.unusedSimpArgs false
set_option maxHeartbeats 4000000
namespace Go.Vai
theorem exists_map' {α β : Type} {q : α → Prop} (f : α → β) : ∀ (l : List β), (∀ x ∈ l, ∃ a, x = f a ∧ q a) → ∃ l2 : List α, l = l2.map f ∧ ∀ a ∈ l2, q a
  | [], _ => ⟨[], rfl, by simp⟩
  | x :: l, h => by
    obtain ⟨a, rfl, ha⟩ := h x (List.mem_cons_self ..)
    obtain ⟨l', rfl, hl⟩ := exists_map' f l fun y hy => h y (List.mem_cons_of_mem _ hy)
    exact ⟨a :: l', rfl, by intro b hb; rcases List.mem_cons.1 hb with rfl | hb; exact ha; exact hl b hb⟩
theorem typedSlice' {α : Type} {enc : α → List IV} {q : α → Prop} {t u : TypeId} (hk : tkOf E t = some (.slice u)) (he : ∀ n el, Typed E n u el → ∃ x, el = enc x ∧ q x) {n : Nat} {el : List IV} (h : Typed E n t el) :
    ∃ xs : List α, el = [.sl (xs.map enc)] ∧ xs.length ≤ maxLen ∧ ∀ x ∈ xs, q x := by
  cases n with
  | zero => exact h.elim
  | succ n =>
    simp only [Typed, hk] at h
    obtain ⟨els, rfl, hl, hx⟩ := h
    obtain ⟨xs, rfl, hq⟩ := exists_map' enc els fun el hel => he n el (hx el hel)
    exact ⟨xs, rfl, by simpa using hl, hq⟩
end Go.Vai
