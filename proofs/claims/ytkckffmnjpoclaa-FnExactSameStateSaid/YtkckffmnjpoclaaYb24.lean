/- Merged texts of this claim: Zs1, Zs2. -/
import Derived.Test.YtkckffmnjpoclaaYb21
import Derived.Test.YtkckffmnjpoclaaYb23
/- States as a law hands them on; states that are the same. -/
set_option linter.unusedVariables false
set_option linter.unusedSimpArgs false
set_option maxHeartbeats 4000000
namespace Go.Vai
deriving instance DecidableEq for Mo
/-- A face. -/
structure Fc where
  poly : List Pt
  mv : Mo
  deriving DecidableEq
def encFc (x : Fc) : List IV := .sl (encPs x.poly) :: encMo x.mv
@[simp] theorem encFc_len (x : Fc) : (encFc x).length = 9 := rfl
@[simp] theorem encFc_take (x : Fc) : (encFc x).take 9 = encFc x := rfl
/-- A state. -/
structure Stt where
  paper : List Pt
  faces : List Fc
  order : List Int
  deriving DecidableEq
def encSt (x : Stt) : List IV := [.sl (encPs x.paper), .sl (x.faces.map encFc), .sl (x.order.map encI)]
@[simp] theorem encSt_len (x : Stt) : (encSt x).length = 3 := rfl
def Fc.fine (x : Fc) : Prop := x.poly.length ≤ maxLen
structure Stt.fine (x : Stt) : Prop where
  p : x.paper.length ≤ maxLen
  f : x.faces.length ≤ maxLen
  ff : ∀ f ∈ x.faces, f.fine
  o : x.order.length ≤ maxLen
theorem exists_mapS {α β : Type} {q : α → Prop} (f : α → β) : ∀ (l : List β), (∀ x ∈ l, ∃ a, x = f a ∧ q a) → ∃ l2 : List α, l = l2.map f ∧ ∀ a ∈ l2, q a
  | [], _ => ⟨[], rfl, by simp⟩
  | x :: l, h => by
    obtain ⟨a, rfl, ha⟩ := h x (by simp)
    obtain ⟨l2, rfl, has⟩ := exists_mapS f l fun y hy => h y (by simp [hy])
    refine ⟨a :: l2, rfl, fun b hb => ?_⟩
    rcases List.mem_cons.1 hb with rfl | hb
    · exact ha
    · exact has b hb
theorem typedFc {n : Nat} {el : List IV} (h : Typed E n 137 el) : ∃ x : Fc, el = encFc x ∧ x.fine := by
  cases n with
  | zero => exact h.elim
  | succ n =>
    simp only [Typed, k137, fieldsT] at h
    obtain ⟨a0, b0, rfl, h0, a1, b1, rfl, h1, rfl⟩ := h
    obtain ⟨p, rfl, lp⟩ := typedPts h0
    obtain ⟨m, rfl⟩ := typedMo h1
    exact ⟨⟨p, m⟩, by simp [encFc], lp⟩
theorem typedFcs {n : Nat} {el : List IV} (h : Typed E n 31 el) : ∃ l : List Fc, el = [.sl (l.map encFc)] ∧ l.length ≤ maxLen ∧ ∀ f ∈ l, f.fine := by
  cases n with
  | zero => exact h.elim
  | succ n =>
    simp only [Typed, k31] at h
    obtain ⟨els, rfl, hl, hx⟩ := h
    obtain ⟨xs, rfl, hq⟩ := exists_mapS encFc els fun el hel => typedFc (hx el hel)
    exact ⟨xs, rfl, by simpa using hl, hq⟩
theorem typedSt {n : Nat} {el : List IV} (h : Typed E n 34 el) : ∃ x : Stt, el = encSt x ∧ x.fine := by
  cases n with
  | zero => exact h.elim
  | succ n =>
    simp only [Typed, k34, fieldsT] at h
    obtain ⟨a0, b0, rfl, h0, a1, b1, rfl, h1, a2, b2, rfl, h2, rfl⟩ := h
    obtain ⟨p, rfl, lp⟩ := typedPts h0
    obtain ⟨f, rfl, lf, ff⟩ := typedFcs h1
    obtain ⟨o, rfl, lo⟩ := typedSlice (enc := encI) k32 (fun _ _ => typedI) h2
    exact ⟨⟨p, f, o⟩, by simp [encSt], lp, lf, ff, lo⟩
/-! ### Sizes -/
def fsum (l : List Fc) : Nat := (l.map fun f => f.poly.length).sum
theorem fsum_step {l : List Fc} {k : Nat} (hk : k < l.length) : fsum (l.take (k + 1)) = fsum (l.take k) + l[k].poly.length := by
  rw [List.take_succ_eq_append_getElem hk]; simp only [fsum, List.map_append, List.sum_append, List.map_cons, List.map_nil, List.sum_cons, List.sum_nil]; omega
theorem fsum_le (l : List Fc) (k : Nat) : fsum (l.take k) ≤ fsum l := by
  have : fsum (l.take k ++ l.drop k) = fsum (l.take k) + fsum (l.drop k) := by simp only [fsum, List.map_append, List.sum_append]
  rw [List.take_append_drop] at this; omega
theorem fsum_get {l : List Fc} {k : Nat} (hk : k < l.length) : l[k].poly.length ≤ fsum l := by
  have h1 := fsum_step hk
  have h2 := fsum_le l (k + 1)
  omega
theorem fsum_mem {l : List Fc} {x : Fc} (h : x ∈ l) : x.poly.length ≤ fsum l := by
  obtain ⟨k, hk, rfl⟩ := List.mem_iff_getElem.1 h
  exact fsum_get hk
theorem c88 (x : Fc) (n : Int) (h0 : 0 ≤ n) (h1 : n ≤ 1048576) (h2 : x.fine) : PC E 88 [.agg (encFc x), .i (.int .i64 n)] [.i (.int .i64 (if n - x.poly.length < 0 then -1 else n - x.poly.length))] := by
  have m : maxLen = 9223372036854775807 := by decide
  unfold Fc.fine at h2
  refine PC_start hE Proofs.Try.func88 rfl rfl Proofs.Try.ntmps88 (by kernel_rfl) (by kernel_rfl) (by simp) ?_
  simp (maxSteps := 1000000) (disch := first | (exact DrawOk.mk (by decide +kernel)) | omega | simp) [wrap_i64, le_most, lt_omega, le_omega, ne_omega, allLen, encFc]
  refine CallK.of (c50 x.poly n h0 h1 (by omega)) (by first | exact .inl rfl | exact .inr (by simp)) (by simp) ?_
  simp (maxSteps := 1000000) (disch := first | (exact DrawOk.mk (by decide +kernel)) | omega | simp) [wrap_i64, le_most, lt_omega, le_omega, ne_omega, allLen]
  (first | refine Gd.dec (fun h4 => ?_) (fun h4 => ?_) | refine Gd.intro (fun h4 => ?_) (fun h4 => ?_)) <;> simp (maxSteps := 1000000) (disch := first | (exact DrawOk.mk (by decide +kernel)) | omega | simp) [wrap_i64, le_most, lt_omega, le_omega, ne_omega, allLen, h4]
theorem c51 (ls : List Fc) (n : Int) (h0 : 0 ≤ n) (h1 : n ≤ 1048576) (h : ls.length ≤ maxLen) (hf : ∀ x ∈ ls, x.fine) :
    PC E 51 [.i (.sl (ls.map encFc)), .i (.int .i64 n)] [.i (.int .i64 (if n - ls.length - fsum ls < 0 then -1 else n - ls.length - fsum ls))] := by
  have m : maxLen = 9223372036854775807 := by decide
  refine PC_start hE Proofs.Try.func51 rfl rfl Proofs.Try.ntmps51 (by kernel_rfl) (by kernel_rfl) (by simp) ?_
  simp (maxSteps := 1000000) (disch := first | (exact DrawOk.mk (by decide +kernel)) | omega | simp) [wrap_i64, le_most, lt_omega, le_omega, ne_omega, allLen]
  (first | refine Gd.dec (fun h2 => ?_) (fun h2 => ?_) | refine Gd.intro (fun h2 => ?_) (fun h2 => ?_)) <;> simp (maxSteps := 1000000) (disch := first | (exact DrawOk.mk (by decide +kernel)) | omega | simp) [wrap_i64, le_most, lt_omega, le_omega, ne_omega, allLen, h2]
  refine XL.by hE (ι := { k : Nat // k ≤ ls.length ∧ 0 ≤ n - ls.length - fsum (ls.take k) }) (fun k => ⟨[(0, .i (.sl (ls.map encFc))), (1, .i (.int .i64 (n - ls.length - fsum (ls.take k.1)))), (5, .i (.int .i64 k.1))], []⟩)
    (fun k => ls.length - k.1) ⟨0, Nat.zero_le _, by simp [fsum]; omega⟩ ⟨by simp [fsum], by simp, by simp⟩ (by kernel_rfl) ?_
  rintro ⟨k, hk, hs⟩
  have hle := fsum_le ls k
  by_cases hlt : k < ls.length
  · have hst := fsum_step hlt
    have hle2 := fsum_le ls (k + 1)
    have hx := hf _ (List.getElem_mem hlt)
    simp (maxSteps := 1000000) (disch := first | (exact DrawOk.mk (by decide +kernel)) | omega | simp) [wrap_i64, le_most, lt_omega, le_omega, ne_omega, allLen, hlt]
    refine CallK.of (c88 ls[k] _ hs (by omega) hx) (by first | exact .inl rfl | exact .inr (by simp)) (by simp) ?_
    simp (maxSteps := 1000000) (disch := first | (exact DrawOk.mk (by decide +kernel)) | omega | simp) [wrap_i64, le_most, lt_omega, le_omega, ne_omega, allLen]
    (first | refine Gd.dec (fun h4 => ?_) (fun h4 => ?_) | refine Gd.intro (fun h4 => ?_) (fun h4 => ?_)) <;> simp (maxSteps := 1000000) (disch := first | (exact DrawOk.mk (by decide +kernel)) | omega | simp) [wrap_i64, le_most, lt_omega, le_omega, ne_omega, allLen, h4]
    have h5 : ¬ n - ls.length - fsum (ls.take k) - ls[k].poly.length < 0 := by split at h4 <;> omega
    (refine ⟨⟨k + 1, by omega, by omega⟩, by (simp; try omega), ?_⟩; constructor <;> (simp (maxSteps := 1000000) (disch := first | (exact DrawOk.mk (by decide +kernel)) | omega | simp) [wrap_i64, le_most, lt_omega, le_omega, ne_omega, allLen, h5, hst]) <;> (try omega))
  · obtain rfl : k = ls.length := by omega
    rw [List.take_length] at hs
    simp (maxSteps := 1000000) (disch := first | (exact DrawOk.mk (by decide +kernel)) | omega | simp) [wrap_i64, le_most, lt_omega, le_omega, ne_omega, allLen]
def Stt.sz (x : Stt) : Nat := x.paper.length + x.faces.length + fsum x.faces + x.order.length
theorem c15 (x : Stt) (n : Int) (h0 : 0 ≤ n) (h1 : n ≤ 1048576) (hf : x.fine) : PC E 15 [.agg (encSt x), .i (.int .i64 n)] [.i (.int .i64 (if n - x.sz < 0 then -1 else n - x.sz))] := by
  have m : maxLen = 9223372036854775807 := by decide
  have hp := hf.p
  have ho := hf.o
  have hff := hf.f
  refine PC_start hE Proofs.Try.func15 rfl rfl Proofs.Try.ntmps15 (by kernel_rfl) (by kernel_rfl) (by simp) ?_
  unfold Stt.sz
  simp (maxSteps := 1000000) (disch := first | (exact DrawOk.mk (by decide +kernel)) | omega | simp) [wrap_i64, le_most, lt_omega, le_omega, ne_omega, allLen, encSt]
  refine CallK.of (c50 x.paper n h0 h1 (by omega)) (by first | exact .inl rfl | exact .inr (by simp)) (by simp) ?_
  simp (maxSteps := 1000000) (disch := first | (exact DrawOk.mk (by decide +kernel)) | omega | simp) [wrap_i64, le_most, lt_omega, le_omega, ne_omega, allLen]
  (first | refine Gd.dec (fun h4 => ?_) (fun h4 => ?_) | refine Gd.intro (fun h4 => ?_) (fun h4 => ?_)) <;> simp (maxSteps := 1000000) (disch := first | (exact DrawOk.mk (by decide +kernel)) | omega | simp) [wrap_i64, le_most, lt_omega, le_omega, ne_omega, allLen, h4]
  have h5 : ¬ n - x.paper.length < 0 := by split at h4 <;> omega
  rw [if_neg h5]
  refine CallK.of (c51 x.faces (n - x.paper.length) (by omega) (by omega) hff hf.ff) (by first | exact .inl rfl | exact .inr (by simp)) (by simp) ?_
  simp (maxSteps := 1000000) (disch := first | (exact DrawOk.mk (by decide +kernel)) | omega | simp) [wrap_i64, le_most, lt_omega, le_omega, ne_omega, allLen]
  (first | refine Gd.dec (fun h6 => ?_) (fun h6 => ?_) | refine Gd.intro (fun h6 => ?_) (fun h6 => ?_)) <;> simp (maxSteps := 1000000) (disch := first | (exact DrawOk.mk (by decide +kernel)) | omega | simp) [wrap_i64, le_most, lt_omega, le_omega, ne_omega, allLen, h6]
  have h7 : ¬ n - x.paper.length - x.faces.length - fsum x.faces < 0 := by split at h6 <;> omega
  rw [if_neg h7]
  refine CallK.of (c52 x.order (n - x.paper.length - x.faces.length - fsum x.faces) (by omega) (by omega) (by omega)) (by first | exact .inl rfl | exact .inr (by simp)) (by simp) ?_
  simp (maxSteps := 1000000) (disch := first | (exact DrawOk.mk (by decide +kernel)) | omega | simp) [wrap_i64, le_most, lt_omega, le_omega, ne_omega, allLen]
  (first | refine Gd.dec (fun h8 => ?_) (fun h8 => ?_) | refine Gd.intro (fun h8 => ?_) (fun h8 => ?_)) <;> simp (maxSteps := 1000000) (disch := first | (exact DrawOk.mk (by decide +kernel)) | omega | simp) [wrap_i64, le_most, lt_omega, le_omega, ne_omega, allLen, h8]
  have h9 : ¬ n - x.paper.length - x.faces.length - fsum x.faces - x.order.length < 0 := by split at h8 <;> omega
  rw [if_neg h9, if_neg (by omega)]
  omega
/-! ### Copies -/
theorem c90 (x : Fc) (h : (x.poly.length : Int) ≤ 1048576) : PC E 90 [.agg (encFc x)] [.agg (encFc x)] := by
  refine PC_start hE Proofs.Try.func90 rfl rfl Proofs.Try.ntmps90 (by kernel_rfl) (by kernel_rfl) (by simp) ?_
  simp (maxSteps := 1000000) (disch := first | (exact DrawOk.mk (by decide +kernel)) | omega | simp) [wrap_i64, le_most, lt_omega, le_omega, ne_omega, allLen, encFc]
  refine CallK.of ((c55 x.poly h).imm) (by first | exact .inl rfl | exact .inr (by simp)) (by simp) ?_
  simp (maxSteps := 1000000) (disch := first | (exact DrawOk.mk (by decide +kernel)) | omega | simp) [wrap_i64, le_most, lt_omega, le_omega, ne_omega, allLen]
  refine CallK.of (c110 x.mv) (by first | exact .inl rfl | exact .inr (by simp)) (by simp) ?_
  simp (maxSteps := 1000000) (disch := first | (exact DrawOk.mk (by decide +kernel)) | omega | simp) [wrap_i64, le_most, lt_omega, le_omega, ne_omega, allLen, encMo]
theorem c56 (ls : List Fc) (h : (ls.length : Int) ≤ 1048576) (hr : (fsum ls : Int) ≤ 1048576) : PC E 56 [.i (.sl (ls.map encFc))] [.own 9 (ls.map encFc)] := by
  refine PC_start hE Proofs.Try.func56 rfl rfl Proofs.Try.ntmps56 (by kernel_rfl) (by kernel_rfl) (by simp) ?_
  simp (maxSteps := 1000000) (disch := first | (exact DrawOk.mk (by decide +kernel)) | omega | simp) [wrap_i64, le_most, lt_omega, le_omega, ne_omega, allLen]
  have hl : (ls.map encFc).length = ls.length := by simp
  refine XL.by hE (ι := { k : Nat // k ≤ ls.length }) (fun k => ⟨[(3, .own 7 0 ls.length), (4, .i (.int .i64 k.1)), (0, .i (.sl (ls.map encFc)))],
    [(7, ⟨9, fill (ls.map encFc) [.sl [], .int .i64 0, .bool false, .int .i64 0, .int .i64 0, .int .i64 0, .int .i64 0, .int .i64 0, .int .i64 0] k.1⟩)]⟩) (fun k => ls.length - k.1) ⟨0, Nat.zero_le _⟩ ⟨by simp, by simp [fill_zero], by simp⟩ (by kernel_rfl) ?_
  rintro ⟨k, hk⟩
  by_cases hlt : k < ls.length
  · have hz := fill_get (ls.map encFc) [.sl [], .int .i64 0, .bool false, .int .i64 0, .int .i64 0, .int .i64 0, .int .i64 0, .int .i64 0, .int .i64 0] k (by omega)
    have hs := fill_set (ls.map encFc) [.sl [], .int .i64 0, .bool false, .int .i64 0, .int .i64 0, .int .i64 0, .int .i64 0, .int .i64 0, .int .i64 0] k (encFc ls[k]) (by simp [hlt])
    have hg := fsum_get hlt
    simp (maxSteps := 1000000) (disch := first | (exact DrawOk.mk (by decide +kernel)) | omega | simp) [wrap_i64, le_most, lt_omega, le_omega, ne_omega, allLen, hlt]
    refine CallK.of (c90 ls[k] (by omega)) (by first | exact .inl rfl | exact .inr (by simp)) (by simp) ?_
    simp [encFc, encMo] at hs
    simp (maxSteps := 1000000) (disch := first | (exact DrawOk.mk (by decide +kernel)) | omega | simp) [wrap_i64, le_most, lt_omega, le_omega, ne_omega, allLen, hlt, hz, hs, encFc, encMo]
    (refine ⟨⟨k + 1, by omega⟩, by (simp; try omega), ?_⟩; constructor <;> (simp (maxSteps := 1000000) (disch := first | (exact DrawOk.mk (by decide +kernel)) | omega | simp) [wrap_i64, le_most, lt_omega, le_omega, ne_omega, allLen]) <;> (try omega))
  · have hf := fill_all (ls.map encFc) [.sl [], .int .i64 0, .bool false, .int .i64 0, .int .i64 0, .int .i64 0, .int .i64 0, .int .i64 0, .int .i64 0] k (by omega)
    simp (maxSteps := 1000000) (disch := first | (exact DrawOk.mk (by decide +kernel)) | omega | simp) [wrap_i64, le_most, lt_omega, le_omega, ne_omega, allLen, hlt, hf]
theorem c17 (x : Stt) (h : (x.sz : Int) ≤ 1048576) : PC E 17 [.agg (encSt x)] [.agg (encSt x)] := by
  unfold Stt.sz at h
  refine PC_start hE Proofs.Try.func17 rfl rfl Proofs.Try.ntmps17 (by kernel_rfl) (by kernel_rfl) (by simp) ?_
  simp (maxSteps := 1000000) (disch := first | (exact DrawOk.mk (by decide +kernel)) | omega | simp) [wrap_i64, le_most, lt_omega, le_omega, ne_omega, allLen, encSt]
  refine CallK.of ((c55 x.paper (by omega)).imm) (by first | exact .inl rfl | exact .inr (by simp)) (by simp) ?_
  simp (maxSteps := 1000000) (disch := first | (exact DrawOk.mk (by decide +kernel)) | omega | simp) [wrap_i64, le_most, lt_omega, le_omega, ne_omega, allLen]
  refine CallK.of ((c56 x.faces (by omega) (by omega)).imm) (by first | exact .inl rfl | exact .inr (by simp)) (by simp) ?_
  simp (maxSteps := 1000000) (disch := first | (exact DrawOk.mk (by decide +kernel)) | omega | simp) [wrap_i64, le_most, lt_omega, le_omega, ne_omega, allLen]
  refine CallK.of ((c23 x.order (by omega)).imm) (by first | exact .inl rfl | exact .inr (by simp)) (by simp) ?_
  simp (maxSteps := 1000000) (disch := first | (exact DrawOk.mk (by decide +kernel)) | omega | simp) [wrap_i64, le_most, lt_omega, le_omega, ne_omega, allLen]
/-! ### Comparison -/
theorem c112 (x y : Mo) : PC E 112 [.agg (encMo x), .agg (encMo y)] [.i (.bool (decide (x = y)))] := by
  refine PC_start hE Proofs.Try.func112 rfl rfl Proofs.Try.ntmps112 (by kernel_rfl) (by kernel_rfl) (by simp) ?_
  obtain ⟨a, b, c, d⟩ := x
  obtain ⟨a', b', c', d'⟩ := y
  simp (maxSteps := 1000000) (disch := first | (exact DrawOk.mk (by decide +kernel)) | omega | simp) [wrap_i64, le_most, lt_omega, le_omega, ne_omega, allLen, encMo]
  (first | refine Gd.dec (fun h0 => ?_) (fun h0 => ?_) | refine Gd.intro (fun h0 => ?_) (fun h0 => ?_)) <;> simp (maxSteps := 1000000) (disch := first | (exact DrawOk.mk (by decide +kernel)) | omega | simp) [wrap_i64, le_most, lt_omega, le_omega, ne_omega, allLen, h0]
  (first | refine Gd.dec (fun h1 => ?_) (fun h1 => ?_) | refine Gd.intro (fun h1 => ?_) (fun h1 => ?_)) <;> simp (maxSteps := 1000000) (disch := first | (exact DrawOk.mk (by decide +kernel)) | omega | simp) [wrap_i64, le_most, lt_omega, le_omega, ne_omega, allLen, h1]
  · intro e
    simp [e] at h1
  have hb : b = b' := by simpa using h1
  refine CallK.of (c111 c c') (by first | exact .inl rfl | exact .inr (by simp)) (by simp) ?_
  simp (maxSteps := 1000000) (disch := first | (exact DrawOk.mk (by decide +kernel)) | omega | simp) [wrap_i64, le_most, lt_omega, le_omega, ne_omega, allLen]
  (first | refine Gd.dec (fun h2 => ?_) (fun h2 => ?_) | refine Gd.intro (fun h2 => ?_) (fun h2 => ?_)) <;> simp (maxSteps := 1000000) (disch := first | (exact DrawOk.mk (by decide +kernel)) | omega | simp) [wrap_i64, le_most, lt_omega, le_omega, ne_omega, allLen, h2]
  refine CallK.of (c111 d d') (by first | exact .inl rfl | exact .inr (by simp)) (by simp) ?_
  simp (maxSteps := 1000000) (disch := first | (exact DrawOk.mk (by decide +kernel)) | omega | simp) [wrap_i64, le_most, lt_omega, le_omega, ne_omega, allLen]
  (first | refine Gd.dec (fun h3 => ?_) (fun h3 => ?_) | refine Gd.intro (fun h3 => ?_) (fun h3 => ?_)) <;> simp (maxSteps := 1000000) (disch := first | (exact DrawOk.mk (by decide +kernel)) | omega | simp) [wrap_i64, le_most, lt_omega, le_omega, ne_omega, allLen, h3]
  exact hb
theorem c92 (x y : Fc) (h1 : (x.poly.length : Int) ≤ 1048576) (h2 : (y.poly.length : Int) ≤ 1048576) : PC E 92 [.agg (encFc x), .agg (encFc y)] [.i (.bool (decide (x = y)))] := by
  refine PC_start hE Proofs.Try.func92 rfl rfl Proofs.Try.ntmps92 (by kernel_rfl) (by kernel_rfl) (by simp) ?_
  obtain ⟨a, b⟩ := x
  obtain ⟨a', b'⟩ := y
  simp at h1 h2
  simp (maxSteps := 1000000) (disch := first | (exact DrawOk.mk (by decide +kernel)) | omega | simp) [wrap_i64, le_most, lt_omega, le_omega, ne_omega, allLen, encFc]
  refine CallK.of (c61 a a' h1 h2) (by first | exact .inl rfl | exact .inr (by simp)) (by simp) ?_
  simp (maxSteps := 1000000) (disch := first | (exact DrawOk.mk (by decide +kernel)) | omega | simp) [wrap_i64, le_most, lt_omega, le_omega, ne_omega, allLen]
  (first | refine Gd.dec (fun h3 => ?_) (fun h3 => ?_) | refine Gd.intro (fun h3 => ?_) (fun h3 => ?_)) <;> simp (maxSteps := 1000000) (disch := first | (exact DrawOk.mk (by decide +kernel)) | omega | simp) [wrap_i64, le_most, lt_omega, le_omega, ne_omega, allLen, h3]
  refine CallK.of (c112 b b') (by first | exact .inl rfl | exact .inr (by simp)) (by simp) ?_
  simp (maxSteps := 1000000) (disch := first | (exact DrawOk.mk (by decide +kernel)) | omega | simp) [wrap_i64, le_most, lt_omega, le_omega, ne_omega, allLen]
  (first | refine Gd.dec (fun h4 => ?_) (fun h4 => ?_) | refine Gd.intro (fun h4 => ?_) (fun h4 => ?_)) <;> simp (maxSteps := 1000000) (disch := first | (exact DrawOk.mk (by decide +kernel)) | omega | simp) [wrap_i64, le_most, lt_omega, le_omega, ne_omega, allLen, h4]
theorem c62 (ls ms : List Fc) (h : (ls.length : Int) ≤ 1048576) (hm : (ms.length : Int) ≤ 1048576) (hr : (fsum ls : Int) ≤ 1048576) (hr2 : (fsum ms : Int) ≤ 1048576) :
    PC E 62 [.i (.sl (ls.map encFc)), .i (.sl (ms.map encFc))] [.i (.bool (decide (ls = ms)))] := by
  refine PC_start hE Proofs.Try.func62 rfl rfl Proofs.Try.ntmps62 (by kernel_rfl) (by kernel_rfl) (by simp) ?_
  simp (maxSteps := 1000000) (disch := first | (exact DrawOk.mk (by decide +kernel)) | omega | simp) [wrap_i64, le_most, lt_omega, le_omega, ne_omega, allLen]
  (first | refine Gd.dec (fun h1 => ?_) (fun h1 => ?_) | refine Gd.intro (fun h1 => ?_) (fun h1 => ?_)) <;> simp (maxSteps := 1000000) (disch := first | (exact DrawOk.mk (by decide +kernel)) | omega | simp) [wrap_i64, le_most, lt_omega, le_omega, ne_omega, allLen, h1]
  rotate_left
  · intro e; subst e; exact h1 rfl
  refine XL.by hE (ι := { k : Nat // k ≤ ls.length ∧ ls.take k = ms.take k }) (fun p => ⟨[(5, .i (.int .i64 p.1)), (0, .i (.sl (ls.map encFc))), (1, .i (.sl (ms.map encFc)))], []⟩) (fun p => ls.length - p.1) ⟨0, by simp⟩
    ⟨by simp, by simp, by simp⟩ (by kernel_rfl) ?_
  rintro ⟨k, hk, he⟩
  have hl : ls.length = ms.length := by omega
  by_cases hlt : k < ls.length
  · have hlt' : k < ms.length := by omega
    have g1 := fsum_get hlt
    have g2 := fsum_get hlt'
    simp (maxSteps := 1000000) (disch := first | (exact DrawOk.mk (by decide +kernel)) | omega | simp) [wrap_i64, le_most, lt_omega, le_omega, ne_omega, allLen, hlt, hlt']
    refine CallK.of (c92 _ _ (by omega) (by omega)) (by first | exact .inl rfl | exact .inr (by simp)) (by simp) ?_
    simp (maxSteps := 1000000) (disch := first | (exact DrawOk.mk (by decide +kernel)) | omega | simp) [wrap_i64, le_most, lt_omega, le_omega, ne_omega, allLen, hlt, hlt']
    (first | refine Gd.dec (fun h4 => ?_) (fun h4 => ?_) | refine Gd.intro (fun h4 => ?_) (fun h4 => ?_)) <;> simp (maxSteps := 1000000) (disch := first | (exact DrawOk.mk (by decide +kernel)) | omega | simp) [wrap_i64, le_most, lt_omega, le_omega, ne_omega, allLen, h4]
    · (refine ⟨⟨k + 1, by omega, take_step hlt hlt' he h4⟩, by (simp; try omega), ?_⟩; constructor <;> (simp (maxSteps := 1000000) (disch := first | (exact DrawOk.mk (by decide +kernel)) | omega | simp) [wrap_i64, le_most, lt_omega, le_omega, ne_omega, allLen]) <;> (try omega))
    · intro e; subst e; exact h4 rfl
  · obtain rfl : ls = ms := take_eq_of hl (by omega) he
    simp (maxSteps := 1000000) (disch := first | (exact DrawOk.mk (by decide +kernel)) | omega | simp) [wrap_i64, le_most, lt_omega, le_omega, ne_omega, allLen, hlt]
theorem c19 (x y : Stt) (h1 : (x.sz : Int) ≤ 1048576) (h2 : (y.sz : Int) ≤ 1048576) : PC E 19 [.agg (encSt x), .agg (encSt y)] [.i (.bool (decide (x = y)))] := by
  unfold Stt.sz at h1 h2
  refine PC_start hE Proofs.Try.func19 rfl rfl Proofs.Try.ntmps19 (by kernel_rfl) (by kernel_rfl) (by simp) ?_
  obtain ⟨a, b, c⟩ := x
  obtain ⟨a', b', c'⟩ := y
  simp at h1 h2
  simp (maxSteps := 1000000) (disch := first | (exact DrawOk.mk (by decide +kernel)) | omega | simp) [wrap_i64, le_most, lt_omega, le_omega, ne_omega, allLen, encSt]
  refine CallK.of (c61 a a' (by omega) (by omega)) (by first | exact .inl rfl | exact .inr (by simp)) (by simp) ?_
  simp (maxSteps := 1000000) (disch := first | (exact DrawOk.mk (by decide +kernel)) | omega | simp) [wrap_i64, le_most, lt_omega, le_omega, ne_omega, allLen]
  (first | refine Gd.dec (fun h3 => ?_) (fun h3 => ?_) | refine Gd.intro (fun h3 => ?_) (fun h3 => ?_)) <;> simp (maxSteps := 1000000) (disch := first | (exact DrawOk.mk (by decide +kernel)) | omega | simp) [wrap_i64, le_most, lt_omega, le_omega, ne_omega, allLen, h3]
  refine CallK.of (c62 b b' (by omega) (by omega) (by omega) (by omega)) (by first | exact .inl rfl | exact .inr (by simp)) (by simp) ?_
  simp (maxSteps := 1000000) (disch := first | (exact DrawOk.mk (by decide +kernel)) | omega | simp) [wrap_i64, le_most, lt_omega, le_omega, ne_omega, allLen]
  (first | refine Gd.dec (fun h4 => ?_) (fun h4 => ?_) | refine Gd.intro (fun h4 => ?_) (fun h4 => ?_)) <;> simp (maxSteps := 1000000) (disch := first | (exact DrawOk.mk (by decide +kernel)) | omega | simp) [wrap_i64, le_most, lt_omega, le_omega, ne_omega, allLen, h4]
  refine CallK.of (c26 c c' (by omega) (by omega)) (by first | exact .inl rfl | exact .inr (by simp)) (by simp) ?_
  simp (maxSteps := 1000000) (disch := first | (exact DrawOk.mk (by decide +kernel)) | omega | simp) [wrap_i64, le_most, lt_omega, le_omega, ne_omega, allLen]
  (first | refine Gd.dec (fun h5 => ?_) (fun h5 => ?_) | refine Gd.intro (fun h5 => ?_) (fun h5 => ?_)) <;> simp (maxSteps := 1000000) (disch := first | (exact DrawOk.mk (by decide +kernel)) | omega | simp) [wrap_i64, le_most, lt_omega, le_omega, ne_omega, allLen, h5]
end Go.Vai
/- States that are the same. -/
set_option linter.unusedVariables false
set_option linter.unusedSimpArgs false
set_option maxHeartbeats 4000000
namespace Go.Vai
@[simp] theorem eqlPt (x y : Pt) : eqOp E .eql 97 (encP x) (encP y) = some (.i (.bool (decide (x = y)))) := by
  obtain ⟨⟨a, b, k⟩, ⟨c, d, l⟩⟩ := x
  obtain ⟨⟨a', b', k'⟩, ⟨c', d', l'⟩⟩ := y
  simp [encP, eqOp, eqA, eqFs, partA, and_assoc, Bool.and_assoc, Bool.or_assoc]
@[simp] theorem neqPt (x y : Pt) : eqOp E .neq 97 (encP x) (encP y) = some (.i (.bool (!decide (x = y)))) := by
  obtain ⟨⟨a, b, k⟩, ⟨c, d, l⟩⟩ := x
  obtain ⟨⟨a', b', k'⟩, ⟨c', d', l'⟩⟩ := y
  simp [encP, eqOp, eqA, eqFs, partA, and_assoc, Bool.and_assoc, Bool.or_assoc]
@[simp] theorem eqlMo (x y : Mo) : eqOp E .eql 91 (encMo x) (encMo y) = some (.i (.bool (decide (x = y)))) := by
  obtain ⟨t, f, ⟨⟨a, b, k⟩, ⟨c, d, l⟩⟩⟩ := x
  obtain ⟨t', f', ⟨⟨a', b', k'⟩, ⟨c', d', l'⟩⟩⟩ := y
  cases f <;> cases f' <;> simp [encMo, eqOp, eqA, eqFs, partA, and_assoc, Bool.and_assoc, Bool.or_assoc]
@[simp] theorem neqMo (x y : Mo) : eqOp E .neq 91 (encMo x) (encMo y) = some (.i (.bool (!decide (x = y)))) := by
  obtain ⟨t, f, ⟨⟨a, b, k⟩, ⟨c, d, l⟩⟩⟩ := x
  obtain ⟨t', f', ⟨⟨a', b', k'⟩, ⟨c', d', l'⟩⟩⟩ := y
  cases f <;> cases f' <;> simp [encMo, eqOp, eqA, eqFs, partA, and_assoc, Bool.and_assoc, Bool.or_assoc]
theorem c57 (ls ms : List Pt) (h : (ls.length : Int) ≤ 1048576) (hm : (ms.length : Int) ≤ 1048576) : PC E 57 [.i (.sl (encPs ls)), .i (.sl (encPs ms))] [.i (.bool (decide (ls = ms)))] := by
  refine PC_start hE Proofs.Try.func57 rfl rfl Proofs.Try.ntmps57 (by kernel_rfl) (by kernel_rfl) (by simp) ?_
  simp (maxSteps := 1000000) (disch := first | (exact DrawOk.mk (by decide +kernel)) | omega | simp) [wrap_i64, le_most, lt_omega, le_omega, ne_omega, allLen]
  (first | refine Gd.dec (fun h1 => ?_) (fun h1 => ?_) | refine Gd.intro (fun h1 => ?_) (fun h1 => ?_)) <;> simp (maxSteps := 1000000) (disch := first | (exact DrawOk.mk (by decide +kernel)) | omega | simp) [wrap_i64, le_most, lt_omega, le_omega, ne_omega, allLen, h1]
  rotate_left
  · intro e; subst e; exact h1 rfl
  refine XL.by hE (ι := { k : Nat // k ≤ ls.length ∧ ls.take k = ms.take k }) (fun p => ⟨[(13, .i (.int .i64 p.1)), (12, .i (.int .i64 ms.length)), (0, .i (.sl (encPs ls))), (1, .i (.sl (encPs ms)))], []⟩) (fun p => ls.length - p.1) ⟨0, by simp⟩
    ⟨by simp, by simp, by simp⟩ (by kernel_rfl) ?_
  rintro ⟨k, hk, he⟩
  have hl : ls.length = ms.length := by omega
  by_cases hlt : k < ls.length
  · have hlt' : k < ms.length := by omega
    simp (maxSteps := 1000000) (disch := first | (exact DrawOk.mk (by decide +kernel)) | omega | simp) [wrap_i64, le_most, lt_omega, le_omega, ne_omega, allLen, hlt, hlt', encPs]
    (first | refine Gd.dec (fun h4 => ?_) (fun h4 => ?_) | refine Gd.intro (fun h4 => ?_) (fun h4 => ?_)) <;> simp (maxSteps := 1000000) (disch := first | (exact DrawOk.mk (by decide +kernel)) | omega | simp) [wrap_i64, le_most, lt_omega, le_omega, ne_omega, allLen, h4]
    · (refine ⟨⟨k + 1, by omega, take_step hlt hlt' he h4⟩, by (simp; try omega), ?_⟩; constructor <;> (simp (maxSteps := 1000000) (disch := first | (exact DrawOk.mk (by decide +kernel)) | omega | simp) [wrap_i64, le_most, lt_omega, le_omega, ne_omega, allLen, encPs]) <;> (try omega))
    · intro e; subst e; exact h4 rfl
  · obtain rfl : ls = ms := take_eq_of hl (by omega) he
    simp (maxSteps := 1000000) (disch := first | (exact DrawOk.mk (by decide +kernel)) | omega | simp) [wrap_i64, le_most, lt_omega, le_omega, ne_omega, allLen, hlt]
theorem c53 (ls ms : List Pt) (h : (ls.length : Int) ≤ 1048576) (hm : (ms.length : Int) ≤ 1048576) : PC E 53 [.i (.sl (encPs ls)), .i (.sl (encPs ms))] [.i (.bool (decide (ls = ms)))] := by
  refine PC_start hE Proofs.Try.func53 rfl rfl Proofs.Try.ntmps53 (by kernel_rfl) (by kernel_rfl) (by simp) ?_
  simp (maxSteps := 1000000) (disch := first | (exact DrawOk.mk (by decide +kernel)) | omega | simp) [wrap_i64, le_most, lt_omega, le_omega, ne_omega, allLen]
  (first | refine Gd.dec (fun h1 => ?_) (fun h1 => ?_) | refine Gd.intro (fun h1 => ?_) (fun h1 => ?_)) <;> simp (maxSteps := 1000000) (disch := first | (exact DrawOk.mk (by decide +kernel)) | omega | simp) [wrap_i64, le_most, lt_omega, le_omega, ne_omega, allLen, h1]
  rotate_left
  · intro e; subst e; exact h1 rfl
  refine XL.by hE (ι := { k : Nat // k ≤ ls.length ∧ ls.take k = ms.take k }) (fun p => ⟨[(5, .i (.int .i64 p.1)), (0, .i (.sl (encPs ls))), (1, .i (.sl (encPs ms)))], []⟩) (fun p => ls.length - p.1) ⟨0, by simp⟩
    ⟨by simp, by simp, by simp⟩ (by kernel_rfl) ?_
  rintro ⟨k, hk, he⟩
  have hl : ls.length = ms.length := by omega
  by_cases hlt : k < ls.length
  · have hlt' : k < ms.length := by omega
    simp (maxSteps := 1000000) (disch := first | (exact DrawOk.mk (by decide +kernel)) | omega | simp) [wrap_i64, le_most, lt_omega, le_omega, ne_omega, allLen, hlt, hlt', encPs]
    (first | refine Gd.dec (fun h4 => ?_) (fun h4 => ?_) | refine Gd.intro (fun h4 => ?_) (fun h4 => ?_)) <;> simp (maxSteps := 1000000) (disch := first | (exact DrawOk.mk (by decide +kernel)) | omega | simp) [wrap_i64, le_most, lt_omega, le_omega, ne_omega, allLen, h4]
    · (refine ⟨⟨k + 1, by omega, take_step hlt hlt' he h4⟩, by (simp; try omega), ?_⟩; constructor <;> (simp (maxSteps := 1000000) (disch := first | (exact DrawOk.mk (by decide +kernel)) | omega | simp) [wrap_i64, le_most, lt_omega, le_omega, ne_omega, allLen, encPs]) <;> (try omega))
    · intro e; subst e; exact h4 rfl
  · obtain rfl : ls = ms := take_eq_of hl (by omega) he
    simp (maxSteps := 1000000) (disch := first | (exact DrawOk.mk (by decide +kernel)) | omega | simp) [wrap_i64, le_most, lt_omega, le_omega, ne_omega, allLen, hlt]
theorem c60 (x y : Fc) (h1 : (x.poly.length : Int) ≤ 1048576) (h2 : (y.poly.length : Int) ≤ 1048576) : PC E 60 [.agg (encFc x), .agg (encFc y)] [.i (.bool (decide (x = y)))] := by
  refine PC_start hE Proofs.Try.func60 rfl rfl Proofs.Try.ntmps60 (by kernel_rfl) (by kernel_rfl) (by simp) ?_
  obtain ⟨a, b⟩ := x
  obtain ⟨a', b'⟩ := y
  simp at h1 h2
  have e1 : (encFc ⟨a, b⟩) = .sl (encPs a) :: encMo b := rfl
  have e2 : (encFc ⟨a', b'⟩) = .sl (encPs a') :: encMo b' := rfl
  simp (maxSteps := 1000000) (disch := first | (exact DrawOk.mk (by decide +kernel)) | omega | simp) [wrap_i64, le_most, lt_omega, le_omega, ne_omega, allLen, e1, e2]
  (first | refine Gd.dec (fun h3 => ?_) (fun h3 => ?_) | refine Gd.intro (fun h3 => ?_) (fun h3 => ?_)) <;> simp (maxSteps := 1000000) (disch := first | (exact DrawOk.mk (by decide +kernel)) | omega | simp) [wrap_i64, le_most, lt_omega, le_omega, ne_omega, allLen, h3]
  refine CallK.of (c57 a a' h1 h2) (by first | exact .inl rfl | exact .inr (by simp)) (by simp) ?_
  simp (maxSteps := 1000000) (disch := first | (exact DrawOk.mk (by decide +kernel)) | omega | simp) [wrap_i64, le_most, lt_omega, le_omega, ne_omega, allLen]
theorem c59 (ls ms : List Fc) (g : FuncId) (hg : ∀ x ∈ ls, ∀ y ∈ ms, PC E g [.agg (encFc x), .agg (encFc y)] [.i (.bool (decide (x = y)))])
    (h : (ls.length : Int) ≤ 1048576) (hm : (ms.length : Int) ≤ 1048576) : PC E 59 [.i (.sl (ls.map encFc)), .i (.sl (ms.map encFc)), .i (.fn g [])] [.i (.bool (decide (ls = ms)))] := by
  refine PC_start hE Proofs.Try.func59 rfl rfl Proofs.Try.ntmps59 (by kernel_rfl) (by kernel_rfl) (by simp) ?_
  simp (maxSteps := 1000000) (disch := first | (exact DrawOk.mk (by decide +kernel)) | omega | simp) [wrap_i64, le_most, lt_omega, le_omega, ne_omega, allLen]
  (first | refine Gd.dec (fun h1 => ?_) (fun h1 => ?_) | refine Gd.intro (fun h1 => ?_) (fun h1 => ?_)) <;> simp (maxSteps := 1000000) (disch := first | (exact DrawOk.mk (by decide +kernel)) | omega | simp) [wrap_i64, le_most, lt_omega, le_omega, ne_omega, allLen, h1]
  rotate_left
  · intro e; subst e; exact h1 rfl
  refine XL.by hE (ι := { k : Nat // k ≤ ls.length ∧ ls.take k = ms.take k }) (fun p => ⟨[(17, .i (.int .i64 p.1)), (16, .i (.int .i64 ms.length)), (15, .i (.sl (ls.map encFc))), (1, .i (.sl (ms.map encFc))), (2, .i (.fn g []))], []⟩) (fun p => ls.length - p.1) ⟨0, by simp⟩
    ⟨by simp, by simp, by simp⟩ (by kernel_rfl) ?_
  rintro ⟨k, hk, he⟩
  have hl : ls.length = ms.length := by omega
  by_cases hlt : k < ls.length
  · have hlt' : k < ms.length := by omega
    simp (maxSteps := 1000000) (disch := first | (exact DrawOk.mk (by decide +kernel)) | omega | simp) [wrap_i64, le_most, lt_omega, le_omega, ne_omega, allLen, hlt, hlt']
    refine CallK.of (hg _ (List.getElem_mem hlt) _ (List.getElem_mem hlt')) (by first | exact .inl rfl | exact .inr (by simp)) (by simp) ?_
    simp (maxSteps := 1000000) (disch := first | (exact DrawOk.mk (by decide +kernel)) | omega | simp) [wrap_i64, le_most, lt_omega, le_omega, ne_omega, allLen]
    (first | refine Gd.dec (fun h4 => ?_) (fun h4 => ?_) | refine Gd.intro (fun h4 => ?_) (fun h4 => ?_)) <;> simp (maxSteps := 1000000) (disch := first | (exact DrawOk.mk (by decide +kernel)) | omega | simp) [wrap_i64, le_most, lt_omega, le_omega, ne_omega, allLen, h4]
    · (refine ⟨⟨k + 1, by omega, take_step hlt hlt' he h4⟩, by (simp; try omega), ?_⟩; constructor <;> (simp (maxSteps := 1000000) (disch := first | (exact DrawOk.mk (by decide +kernel)) | omega | simp) [wrap_i64, le_most, lt_omega, le_omega, ne_omega, allLen]) <;> (try omega))
    · intro e; subst e; exact h4 rfl
  · obtain rfl : ls = ms := take_eq_of hl (by omega) he
    simp (maxSteps := 1000000) (disch := first | (exact DrawOk.mk (by decide +kernel)) | omega | simp) [wrap_i64, le_most, lt_omega, le_omega, ne_omega, allLen, hlt]
theorem c18 (x y : Stt) (h1 : (x.sz : Int) ≤ 1048576) (h2 : (y.sz : Int) ≤ 1048576) : PC E 18 [.agg (encSt x), .agg (encSt y)] [.i (.bool (decide (x = y)))] := by
  unfold Stt.sz at h1 h2
  refine PC_start hE Proofs.Try.func18 rfl rfl Proofs.Try.ntmps18 (by kernel_rfl) (by kernel_rfl) (by simp) ?_
  obtain ⟨a, b, c⟩ := x
  obtain ⟨a', b', c'⟩ := y
  simp at h1 h2
  simp (maxSteps := 1000000) (disch := first | (exact DrawOk.mk (by decide +kernel)) | omega | simp) [wrap_i64, le_most, lt_omega, le_omega, ne_omega, allLen, encSt]
  refine CallK.of (c57 a a' (by omega) (by omega)) (by first | exact .inl rfl | exact .inr (by simp)) (by simp) ?_
  simp (maxSteps := 1000000) (disch := first | (exact DrawOk.mk (by decide +kernel)) | omega | simp) [wrap_i64, le_most, lt_omega, le_omega, ne_omega, allLen]
  (first | refine Gd.dec (fun h3 => ?_) (fun h3 => ?_) | refine Gd.intro (fun h3 => ?_) (fun h3 => ?_)) <;> simp (maxSteps := 1000000) (disch := first | (exact DrawOk.mk (by decide +kernel)) | omega | simp) [wrap_i64, le_most, lt_omega, le_omega, ne_omega, allLen, h3]
  refine CallK.of (c58 c c' (by omega) (by omega)) (by first | exact .inl rfl | exact .inr (by simp)) (by simp) ?_
  simp (maxSteps := 1000000) (disch := first | (exact DrawOk.mk (by decide +kernel)) | omega | simp) [wrap_i64, le_most, lt_omega, le_omega, ne_omega, allLen]
  (first | refine Gd.dec (fun h4 => ?_) (fun h4 => ?_) | refine Gd.intro (fun h4 => ?_) (fun h4 => ?_)) <;> simp (maxSteps := 1000000) (disch := first | (exact DrawOk.mk (by decide +kernel)) | omega | simp) [wrap_i64, le_most, lt_omega, le_omega, ne_omega, allLen, h4]
  refine CallK.of (c59 b b' _ (fun u hu v hv => c60 u v (by have := fsum_mem hu; omega) (by have := fsum_mem hv; omega)) (by omega) (by omega)) (by first | exact .inl rfl | exact .inr (by simp)) (by simp) ?_
  simp (maxSteps := 1000000) (disch := first | (exact DrawOk.mk (by decide +kernel)) | omega | simp) [wrap_i64, le_most, lt_omega, le_omega, ne_omega, allLen]
theorem c16 (x y : Stt) (h1 : (x.sz : Int) ≤ 1048576) (h2 : (y.sz : Int) ≤ 1048576) : PC E 16 [.agg (encSt x), .agg (encSt y)] [.i (.bool (decide (x = y)))] := by
  unfold Stt.sz at h1 h2
  refine PC_start hE Proofs.Try.func16 rfl rfl Proofs.Try.ntmps16 (by kernel_rfl) (by kernel_rfl) (by simp) ?_
  obtain ⟨a, b, c⟩ := x
  obtain ⟨a', b', c'⟩ := y
  simp at h1 h2
  simp (maxSteps := 1000000) (disch := first | (exact DrawOk.mk (by decide +kernel)) | omega | simp) [wrap_i64, le_most, lt_omega, le_omega, ne_omega, allLen, encSt]
  refine CallK.of (c53 a a' (by omega) (by omega)) (by first | exact .inl rfl | exact .inr (by simp)) (by simp) ?_
  simp (maxSteps := 1000000) (disch := first | (exact DrawOk.mk (by decide +kernel)) | omega | simp) [wrap_i64, le_most, lt_omega, le_omega, ne_omega, allLen]
  (first | refine Gd.dec (fun h3 => ?_) (fun h3 => ?_) | refine Gd.intro (fun h3 => ?_) (fun h3 => ?_)) <;> simp (maxSteps := 1000000) (disch := first | (exact DrawOk.mk (by decide +kernel)) | omega | simp) [wrap_i64, le_most, lt_omega, le_omega, ne_omega, allLen, h3]
  subst h3
  (first | refine Gd.dec (fun h4 => ?_) (fun h4 => ?_) | refine Gd.intro (fun h4 => ?_) (fun h4 => ?_)) <;> simp (maxSteps := 1000000) (disch := first | (exact DrawOk.mk (by decide +kernel)) | omega | simp) [wrap_i64, le_most, lt_omega, le_omega, ne_omega, allLen, h4]
  rotate_left
  · intro e; subst e; exact absurd rfl h4
  refine CallK.of (c54 c c' (by omega) (by omega)) (by first | exact .inl rfl | exact .inr (by simp)) (by simp) ?_
  simp (maxSteps := 1000000) (disch := first | (exact DrawOk.mk (by decide +kernel)) | omega | simp) [wrap_i64, le_most, lt_omega, le_omega, ne_omega, allLen]
  (first | refine Gd.dec (fun h5 => ?_) (fun h5 => ?_) | refine Gd.intro (fun h5 => ?_) (fun h5 => ?_)) <;> simp (maxSteps := 1000000) (disch := first | (exact DrawOk.mk (by decide +kernel)) | omega | simp) [wrap_i64, le_most, lt_omega, le_omega, ne_omega, allLen, h5]
  subst h5
  refine XL.by hE (ι := { k : Nat // k ≤ b.length ∧ b.take k = b'.take k }) (fun p => ⟨[(5, .i (.int .i64 p.1)), (2, .ptr 2 0 0), (3, .ptr 3 0 0)], [(2, ⟨3, [[.sl (encPs a), .sl (b.map encFc), .sl (c.map encI)]]⟩), (3, ⟨3, [[.sl (encPs a), .sl (b'.map encFc), .sl (c.map encI)]]⟩)]⟩) (fun p => b.length - p.1) ⟨0, by simp⟩
    ⟨by simp, by simp, by simp⟩ (by kernel_rfl) ?_
  rintro ⟨k, hk, he⟩
  by_cases hlt : k < b.length
  · have hlt' : k < b'.length := by omega
    have g1 := fsum_get hlt
    have g2 := fsum_get hlt'
    have e1 : encFc b[k] = .sl (encPs b[k].poly) :: encMo b[k].mv := rfl
    have e2 : encFc b'[k] = .sl (encPs b'[k].poly) :: encMo b'[k].mv := rfl
    simp (maxSteps := 1000000) (disch := first | (exact DrawOk.mk (by decide +kernel)) | omega | simp) [wrap_i64, le_most, lt_omega, le_omega, ne_omega, allLen, hlt, hlt', e1, e2]
    refine CallK.of (c53 b[k].poly b'[k].poly (by omega) (by omega)) (by first | exact .inl rfl | exact .inr (by simp)) (by simp) ?_
    simp (maxSteps := 1000000) (disch := first | (exact DrawOk.mk (by decide +kernel)) | omega | simp) [wrap_i64, le_most, lt_omega, le_omega, ne_omega, allLen, hlt, hlt', e1, e2]
    (first | refine Gd.dec (fun h6 => ?_) (fun h6 => ?_) | refine Gd.intro (fun h6 => ?_) (fun h6 => ?_)) <;> simp (maxSteps := 1000000) (disch := first | (exact DrawOk.mk (by decide +kernel)) | omega | simp) [wrap_i64, le_most, lt_omega, le_omega, ne_omega, allLen, h6]
    simp (maxSteps := 1000000) (disch := first | (exact DrawOk.mk (by decide +kernel)) | omega | simp) [wrap_i64, le_most, lt_omega, le_omega, ne_omega, allLen, e1, e2]
    (first | refine Gd.dec (fun h7 => ?_) (fun h7 => ?_) | refine Gd.intro (fun h7 => ?_) (fun h7 => ?_)) <;> simp (maxSteps := 1000000) (disch := first | (exact DrawOk.mk (by decide +kernel)) | omega | simp) [wrap_i64, le_most, lt_omega, le_omega, ne_omega, allLen, h7]
    have h8 : b[k] = b'[k] := by rw [show b[k] = ⟨b[k].poly, b[k].mv⟩ from rfl, h6, h7]
    (refine ⟨⟨k + 1, by omega, take_step hlt hlt' he h8⟩, by (simp; try omega), ?_⟩; constructor <;> (simp (maxSteps := 1000000) (disch := first | (exact DrawOk.mk (by decide +kernel)) | omega | simp) [wrap_i64, le_most, lt_omega, le_omega, ne_omega, allLen]) <;> (try omega))
    · intro e; subst e; exact h7 rfl
    · intro e; subst e; exact h6 rfl
  · obtain rfl : b = b' := take_eq_of (by omega) (by omega) he
    simp (maxSteps := 1000000) (disch := first | (exact DrawOk.mk (by decide +kernel)) | omega | simp) [wrap_i64, le_most, lt_omega, le_omega, ne_omega, allLen, hlt]
theorem c4 (x y : Stt) (h1 : x.fine) (h2 : y.fine) : PC E 4 [.agg (encSt x), .agg (encSt y)] [.i (.bool true)] := by
  refine PC_start hE Proofs.Try.func4 rfl rfl Proofs.Try.ntmps4 (by kernel_rfl) (by kernel_rfl) (by simp) ?_
  simp (maxSteps := 1000000) (disch := first | (exact DrawOk.mk (by decide +kernel)) | omega | simp) [wrap_i64, le_most, lt_omega, le_omega, ne_omega, allLen]
  refine CallK.of (c15 x _ (by omega) (by omega) h1) (by first | exact .inl rfl | exact .inr (by simp)) (by simp) ?_
  simp (maxSteps := 1000000) (disch := first | (exact DrawOk.mk (by decide +kernel)) | omega | simp) [wrap_i64, le_most, lt_omega, le_omega, ne_omega, allLen]
  (first | refine Gd.dec (fun h3 => ?_) (fun h3 => ?_) | refine Gd.intro (fun h3 => ?_) (fun h3 => ?_)) <;> simp (maxSteps := 1000000) (disch := first | (exact DrawOk.mk (by decide +kernel)) | omega | simp) [wrap_i64, le_most, lt_omega, le_omega, ne_omega, allLen, h3]
  have h4 : ¬ (1048576 : Int) - x.sz < 0 := by split at h3 <;> omega
  rw [if_neg h4]
  refine CallK.of (c15 y _ (by omega) (by omega) h2) (by first | exact .inl rfl | exact .inr (by simp)) (by simp) ?_
  simp (maxSteps := 1000000) (disch := first | (exact DrawOk.mk (by decide +kernel)) | omega | simp) [wrap_i64, le_most, lt_omega, le_omega, ne_omega, allLen]
  (first | refine Gd.dec (fun h5 => ?_) (fun h5 => ?_) | refine Gd.intro (fun h5 => ?_) (fun h5 => ?_)) <;> simp (maxSteps := 1000000) (disch := first | (exact DrawOk.mk (by decide +kernel)) | omega | simp) [wrap_i64, le_most, lt_omega, le_omega, ne_omega, allLen, h5]
  have h6 : ¬ (1048576 : Int) - x.sz - y.sz < 0 := by split at h5 <;> omega
  have lx : (x.sz : Int) ≤ 1048576 := by omega
  have ly : (y.sz : Int) ≤ 1048576 := by omega
  clear h4 h6 h3 h5
  refine CallK.of (c17 x lx) (by first | exact .inl rfl | exact .inr (by simp)) (by simp) ?_
  simp (maxSteps := 1000000) (disch := first | (exact DrawOk.mk (by decide +kernel)) | omega | simp) [wrap_i64, le_most, lt_omega, le_omega, ne_omega, allLen]
  refine CallK.of (c17 y ly) (by first | exact .inl rfl | exact .inr (by simp)) (by simp) ?_
  simp (maxSteps := 1000000) (disch := first | (exact DrawOk.mk (by decide +kernel)) | omega | simp) [wrap_i64, le_most, lt_omega, le_omega, ne_omega, allLen]
  refine CallK.of (c16 x y lx ly) (by first | exact .inl rfl | exact .inr (by simp)) (by simp) ?_
  simp (maxSteps := 1000000) (disch := first | (exact DrawOk.mk (by decide +kernel)) | omega | simp) [wrap_i64, le_most, lt_omega, le_omega, ne_omega, allLen]
  refine CallK.of (c17 x lx) (by first | exact .inl rfl | exact .inr (by simp)) (by simp) ?_
  simp (maxSteps := 1000000) (disch := first | (exact DrawOk.mk (by decide +kernel)) | omega | simp) [wrap_i64, le_most, lt_omega, le_omega, ne_omega, allLen]
  refine CallK.of (c17 y ly) (by first | exact .inl rfl | exact .inr (by simp)) (by simp) ?_
  simp (maxSteps := 1000000) (disch := first | (exact DrawOk.mk (by decide +kernel)) | omega | simp) [wrap_i64, le_most, lt_omega, le_omega, ne_omega, allLen]
  refine CallK.of (c18 x y lx ly) (by first | exact .inl rfl | exact .inr (by simp)) (by simp) ?_
  simp (maxSteps := 1000000) (disch := first | (exact DrawOk.mk (by decide +kernel)) | omega | simp) [wrap_i64, le_most, lt_omega, le_omega, ne_omega, allLen]
  refine CallK.of (c17 x lx) (by first | exact .inl rfl | exact .inr (by simp)) (by simp) ?_
  simp (maxSteps := 1000000) (disch := first | (exact DrawOk.mk (by decide +kernel)) | omega | simp) [wrap_i64, le_most, lt_omega, le_omega, ne_omega, allLen]
  refine CallK.of (c19 x x lx lx) (by first | exact .inl rfl | exact .inr (by simp)) (by simp) ?_
  simp (maxSteps := 1000000) (disch := first | (exact DrawOk.mk (by decide +kernel)) | omega | simp) [wrap_i64, le_most, lt_omega, le_omega, ne_omega, allLen]
  refine CallK.of (c17 y ly) (by first | exact .inl rfl | exact .inr (by simp)) (by simp) ?_
  simp (maxSteps := 1000000) (disch := first | (exact DrawOk.mk (by decide +kernel)) | omega | simp) [wrap_i64, le_most, lt_omega, le_omega, ne_omega, allLen]
  refine CallK.of (c19 y y ly ly) (by first | exact .inl rfl | exact .inr (by simp)) (by simp) ?_
  simp (maxSteps := 1000000) (disch := first | (exact DrawOk.mk (by decide +kernel)) | omega | simp) [wrap_i64, le_most, lt_omega, le_omega, ne_omega, allLen]
end Go.Vai
