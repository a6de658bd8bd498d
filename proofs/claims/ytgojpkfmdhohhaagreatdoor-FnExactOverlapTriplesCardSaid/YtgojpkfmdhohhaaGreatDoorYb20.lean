/- Merged texts of this claim: Zp14, Zp15, Zp16. -/
import Derived.Test.YtgojpkfmdhohhaaGreatDoorYb16
import Derived.Test.YtgojpkfmdhohhaaGreatDoorYb19
/- Lists of polygons as a law hands them on; places. -/
set_option linter.unusedVariables false
set_option linter.unusedSimpArgs false
set_option maxHeartbeats 4000000
namespace Go.Vai
def encG (l : List Pt) : List IV := [.sl (encPs l)]
@[simp] theorem encG_len (x : List Pt) : (encG x).length = 1 := rfl
@[simp] theorem encG_take (x : List Pt) : (encG x).take 1 = encG x := rfl
theorem exists_mapQ {α β : Type} {q : α → Prop} (f : α → β) : ∀ (l : List β), (∀ x ∈ l, ∃ a, x = f a ∧ q a) → ∃ l2 : List α, l = l2.map f ∧ ∀ a ∈ l2, q a
  | [], _ => ⟨[], rfl, by simp⟩
  | x :: l, h => by
    obtain ⟨a, rfl, ha⟩ := h x (by simp)
    obtain ⟨l2, rfl, has⟩ := exists_mapQ f l fun y hy => h y (by simp [hy])
    refine ⟨a :: l2, rfl, fun b hb => ?_⟩
    rcases List.mem_cons.1 hb with rfl | hb
    · exact ha
    · exact has b hb
theorem typedSliceQ {α : Type} {enc : α → List IV} {q : α → Prop} {t u : TypeId} (hk : tkOf E t = some (.slice u)) (he : ∀ n el, Typed E n u el → ∃ x, el = enc x ∧ q x) {n : Nat} {el : List IV} (h : Typed E n t el) :
    ∃ xs : List α, el = [.sl (xs.map enc)] ∧ xs.length ≤ maxLen ∧ ∀ x ∈ xs, q x := by
  cases n with
  | zero => exact h.elim
  | succ n =>
    simp only [Typed, hk] at h
    obtain ⟨els, rfl, hl, hx⟩ := h
    obtain ⟨xs, rfl, hq⟩ := exists_mapQ enc els fun el hel => he n el (hx el hel)
    exact ⟨xs, rfl, by simpa using hl, hq⟩
def Gfine (l : List Pt) : Prop := l.length ≤ maxLen
theorem typedGs {n : Nat} {el : List IV} (h : Typed E n 22 el) : ∃ ls : List (List Pt), el = [.sl (ls.map encG)] ∧ ls.length ≤ maxLen ∧ ∀ l ∈ ls, Gfine l :=
  typedSliceQ (enc := encG) (q := Gfine) k22 (fun _ _ h => typedPts h) h
def gsum (ls : List (List Pt)) : Nat := (ls.map List.length).sum
theorem gsum_step {l : List (List Pt)} {k : Nat} (hk : k < l.length) : gsum (l.take (k + 1)) = gsum (l.take k) + l[k].length := by
  rw [List.take_succ_eq_append_getElem hk]; simp only [gsum, List.map_append, List.sum_append, List.map_cons, List.map_nil, List.sum_cons, List.sum_nil]; omega
theorem gsum_le (l : List (List Pt)) (k : Nat) : gsum (l.take k) ≤ gsum l := by
  have : gsum (l.take k ++ l.drop k) = gsum (l.take k) + gsum (l.drop k) := by simp only [gsum, List.map_append, List.sum_append]
  rw [List.take_append_drop] at this; omega
theorem gsum_get {l : List (List Pt)} {k : Nat} (hk : k < l.length) : l[k].length ≤ gsum l := by
  have h1 := gsum_step hk
  have h2 := gsum_le l (k + 1)
  omega
theorem gsum_mem {ls : List (List Pt)} {l : List Pt} (h : l ∈ ls) : l.length ≤ gsum ls := by
  obtain ⟨k, hk, rfl⟩ := List.getElem_of_mem h
  exact gsum_get hk
theorem c5 (ls : List (List Pt)) (n : Int) (h0 : 0 ≤ n) (h1 : n ≤ 1048576) (h : ls.length ≤ maxLen) (hf : ∀ x ∈ ls, Gfine x) :
    PC E 5 [.i (.sl (ls.map encG)), .i (.int .i64 n)] [.i (.int .i64 (if n - ls.length - gsum ls < 0 then -1 else n - ls.length - gsum ls))] := by
  have m : maxLen = 9223372036854775807 := by decide
  refine PC_start hE Proofs.Tryz.func5 rfl rfl Proofs.Tryz.ntmps5 (by kernel_rfl) (by kernel_rfl) (by simp) ?_
  simp (maxSteps := 1000000) (disch := first | (exact DrawOk.mk (by decide +kernel)) | omega | simp) [wrap_i64, le_most, lt_omega, le_omega, ne_omega, allLen]
  (first | refine Gd.dec (fun h2 => ?_) (fun h2 => ?_) | refine Gd.intro (fun h2 => ?_) (fun h2 => ?_)) <;> simp (maxSteps := 1000000) (disch := first | (exact DrawOk.mk (by decide +kernel)) | omega | simp) [wrap_i64, le_most, lt_omega, le_omega, ne_omega, allLen, h2]
  refine XL.by hE (ι := { k : Nat // k ≤ ls.length ∧ 0 ≤ n - ls.length - gsum (ls.take k) }) (fun k => ⟨[(0, .i (.sl (ls.map encG))), (1, .i (.int .i64 (n - ls.length - gsum (ls.take k.1)))), (5, .i (.int .i64 k.1))], []⟩)
    (fun k => ls.length - k.1) ⟨0, Nat.zero_le _, by simp [gsum]; omega⟩ ⟨by simp [gsum], by simp, by simp⟩ (by kernel_rfl) ?_
  rintro ⟨k, hk, hs⟩
  have hle := gsum_le ls k
  by_cases hlt : k < ls.length
  · have hst := gsum_step hlt
    have hle2 := gsum_le ls (k + 1)
    have hx := hf _ (List.getElem_mem hlt)
    unfold Gfine at hx
    simp (maxSteps := 1000000) (disch := first | (exact DrawOk.mk (by decide +kernel)) | omega | simp) [wrap_i64, le_most, lt_omega, le_omega, ne_omega, allLen, hlt, encG]
    refine CallK.of (c19 ls[k] _ hs (by omega) (by omega)) (by first | exact .inl rfl | exact .inr (by simp)) (by simp) ?_
    simp (maxSteps := 1000000) (disch := first | (exact DrawOk.mk (by decide +kernel)) | omega | simp) [wrap_i64, le_most, lt_omega, le_omega, ne_omega, allLen]
    (first | refine Gd.dec (fun h4 => ?_) (fun h4 => ?_) | refine Gd.intro (fun h4 => ?_) (fun h4 => ?_)) <;> simp (maxSteps := 1000000) (disch := first | (exact DrawOk.mk (by decide +kernel)) | omega | simp) [wrap_i64, le_most, lt_omega, le_omega, ne_omega, allLen, h4]
    have h5 : ¬ n - ls.length - gsum (ls.take k) - ls[k].length < 0 := by split at h4 <;> omega
    (refine ⟨⟨k + 1, by omega, by omega⟩, by (simp; try omega), ?_⟩; constructor <;> (simp (maxSteps := 1000000) (disch := first | (exact DrawOk.mk (by decide +kernel)) | omega | simp) [wrap_i64, le_most, lt_omega, le_omega, ne_omega, allLen, h5, hst]) <;> (try omega))
  · obtain rfl : k = ls.length := by omega
    rw [List.take_length] at hs
    simp (maxSteps := 1000000) (disch := first | (exact DrawOk.mk (by decide +kernel)) | omega | simp) [wrap_i64, le_most, lt_omega, le_omega, ne_omega, allLen]
theorem c7 (ls : List (List Pt)) (h : (ls.length : Int) ≤ 1048576) (hr : (gsum ls : Int) ≤ 1048576) : PC E 7 [.i (.sl (ls.map encG))] [.own 1 (ls.map encG)] := by
  refine PC_start hE Proofs.Tryz.func7 rfl rfl Proofs.Tryz.ntmps7 (by kernel_rfl) (by kernel_rfl) (by simp) ?_
  simp (maxSteps := 1000000) (disch := first | (exact DrawOk.mk (by decide +kernel)) | omega | simp) [wrap_i64, le_most, lt_omega, le_omega, ne_omega, allLen]
  have hl : (ls.map encG).length = ls.length := by simp
  refine XL.by hE (ι := { k : Nat // k ≤ ls.length }) (fun k => ⟨[(3, .own 7 0 ls.length), (4, .i (.int .i64 k.1)), (0, .i (.sl (ls.map encG)))],
    [(7, ⟨1, fill (ls.map encG) [.sl []] k.1⟩)]⟩) (fun k => ls.length - k.1) ⟨0, Nat.zero_le _⟩ ⟨by simp, by simp [fill_zero], by simp⟩ (by kernel_rfl) ?_
  rintro ⟨k, hk⟩
  by_cases hlt : k < ls.length
  · have hz := fill_get (ls.map encG) [.sl []] k (by omega)
    have hs := fill_set (ls.map encG) [.sl []] k (encG ls[k]) (by simp [hlt])
    have hg := gsum_get hlt
    simp (maxSteps := 1000000) (disch := first | (exact DrawOk.mk (by decide +kernel)) | omega | simp) [wrap_i64, le_most, lt_omega, le_omega, ne_omega, allLen, hlt, encG]
    refine CallK.of ((c22 ls[k] (by omega)).imm) (by first | exact .inl rfl | exact .inr (by simp)) (by simp) ?_
    simp [encG] at hs hz
    simp (maxSteps := 1000000) (disch := first | (exact DrawOk.mk (by decide +kernel)) | omega | simp) [wrap_i64, le_most, lt_omega, le_omega, ne_omega, allLen, hlt, hz, hs, encG]
    (refine ⟨⟨k + 1, by omega⟩, by (simp; try omega), ?_⟩; constructor <;> (simp (maxSteps := 1000000) (disch := first | (exact DrawOk.mk (by decide +kernel)) | omega | simp) [wrap_i64, le_most, lt_omega, le_omega, ne_omega, allLen, encG]) <;> (try omega))
  · have hf := fill_all (ls.map encG) [.sl []] k (by omega)
    simp (maxSteps := 1000000) (disch := first | (exact DrawOk.mk (by decide +kernel)) | omega | simp) [wrap_i64, le_most, lt_omega, le_omega, ne_omega, allLen, hlt, hf]
theorem c10 (ls ms : List (List Pt)) (h : (ls.length : Int) ≤ 1048576) (hm : (ms.length : Int) ≤ 1048576) (hr : (gsum ls : Int) ≤ 1048576) (hr2 : (gsum ms : Int) ≤ 1048576) :
    PC E 10 [.i (.sl (ls.map encG)), .i (.sl (ms.map encG))] [.i (.bool (decide (ls = ms)))] := by
  refine PC_start hE Proofs.Tryz.func10 rfl rfl Proofs.Tryz.ntmps10 (by kernel_rfl) (by kernel_rfl) (by simp) ?_
  simp (maxSteps := 1000000) (disch := first | (exact DrawOk.mk (by decide +kernel)) | omega | simp) [wrap_i64, le_most, lt_omega, le_omega, ne_omega, allLen]
  (first | refine Gd.dec (fun h1 => ?_) (fun h1 => ?_) | refine Gd.intro (fun h1 => ?_) (fun h1 => ?_)) <;> simp (maxSteps := 1000000) (disch := first | (exact DrawOk.mk (by decide +kernel)) | omega | simp) [wrap_i64, le_most, lt_omega, le_omega, ne_omega, allLen, h1]
  rotate_left
  · intro e; subst e; exact h1 rfl
  refine XL.by hE (ι := { k : Nat // k ≤ ls.length ∧ ls.take k = ms.take k }) (fun p => ⟨[(5, .i (.int .i64 p.1)), (0, .i (.sl (ls.map encG))), (1, .i (.sl (ms.map encG)))], []⟩) (fun p => ls.length - p.1) ⟨0, by simp⟩
    ⟨by simp, by simp, by simp⟩ (by kernel_rfl) ?_
  rintro ⟨k, hk, he⟩
  have hl : ls.length = ms.length := by omega
  by_cases hlt : k < ls.length
  · have hlt' : k < ms.length := by omega
    have g1 := gsum_get hlt
    have g2 := gsum_get hlt'
    simp (maxSteps := 1000000) (disch := first | (exact DrawOk.mk (by decide +kernel)) | omega | simp) [wrap_i64, le_most, lt_omega, le_omega, ne_omega, allLen, hlt, hlt', encG]
    refine CallK.of (c26 _ _ (by omega) (by omega)) (by first | exact .inl rfl | exact .inr (by simp)) (by simp) ?_
    simp (maxSteps := 1000000) (disch := first | (exact DrawOk.mk (by decide +kernel)) | omega | simp) [wrap_i64, le_most, lt_omega, le_omega, ne_omega, allLen, hlt, hlt', encG]
    (first | refine Gd.dec (fun h4 => ?_) (fun h4 => ?_) | refine Gd.intro (fun h4 => ?_) (fun h4 => ?_)) <;> simp (maxSteps := 1000000) (disch := first | (exact DrawOk.mk (by decide +kernel)) | omega | simp) [wrap_i64, le_most, lt_omega, le_omega, ne_omega, allLen, h4]
    · (refine ⟨⟨k + 1, by omega, take_step hlt hlt' he h4⟩, by (simp; try omega), ?_⟩; constructor <;> (simp (maxSteps := 1000000) (disch := first | (exact DrawOk.mk (by decide +kernel)) | omega | simp) [wrap_i64, le_most, lt_omega, le_omega, ne_omega, allLen, encG]) <;> (try omega))
    · intro e; subst e; exact h4 rfl
  · obtain rfl : ls = ms := take_eq_of hl (by omega) he
    simp (maxSteps := 1000000) (disch := first | (exact DrawOk.mk (by decide +kernel)) | omega | simp) [wrap_i64, le_most, lt_omega, le_omega, ne_omega, allLen, hlt]
/-! ### Valid places -/
namespace Gq
open Pq
theorem c52 (xs : List (List Pt)) (g : FuncId) (caps : List IV) (p : List Pt → Bool) (hp : ∀ x ∈ xs, PC E g (.i (.sl (encPs x)) :: caps.map .i) [.i (.bool (p x))]) (h : (xs.length : Int) ≤ 1048576) :
    PC E 52 [.i (.sl (xs.map encG)), .i (.fn g caps)] [.i (.int .i64 (fidx p xs))] := by
  refine PC_start hE Proofs.Tryz.func52 rfl rfl Proofs.Tryz.ntmps52 (by kernel_rfl) (by kernel_rfl) (by simp) ?_
  simp (maxSteps := 1000000) (disch := first | (exact DrawOk.mk (by decide +kernel)) | omega | simp) [wrap_i64, le_most, lt_omega, le_omega, ne_omega, allLen]
  refine XL.by hE (ι := { k : Nat // k ≤ xs.length ∧ ∀ (j : Nat) (hj : j < xs.length), j < k → p xs[j] = false }) (fun k => ⟨[(0, .i (.sl (xs.map encG))), (1, .i (.fn g caps)), (7, .i (.int .i64 xs.length)), (8, .i (.int .i64 k.1))], []⟩)
    (fun k => xs.length - k.1) ⟨0, Nat.zero_le _, by simp⟩ ⟨by simp, by simp, by simp⟩ (by kernel_rfl) ?_
  rintro ⟨k, hk, hno⟩
  by_cases hlt : k < xs.length
  · simp (maxSteps := 1000000) (disch := first | (exact DrawOk.mk (by decide +kernel)) | omega | simp) [wrap_i64, le_most, lt_omega, le_omega, ne_omega, allLen, hlt, encG]
    refine CallK.of (hp xs[k] (List.getElem_mem _)) (by first | exact .inl rfl | exact .inr (by simp)) (by simp) ?_
    simp (maxSteps := 1000000) (disch := first | (exact DrawOk.mk (by decide +kernel)) | omega | simp) [wrap_i64, le_most, lt_omega, le_omega, ne_omega, allLen, hlt]
    (first | refine Gd.dec (fun h4 => ?_) (fun h4 => ?_) | refine Gd.intro (fun h4 => ?_) (fun h4 => ?_)) <;> simp (maxSteps := 1000000) (disch := first | (exact DrawOk.mk (by decide +kernel)) | omega | simp) [wrap_i64, le_most, lt_omega, le_omega, ne_omega, allLen, h4]
    · simp [fidx_at hlt hno h4]
    · (refine ⟨⟨k + 1, by omega, step_no hno hlt h4⟩, by (simp; try omega), ?_⟩; constructor <;> (simp (maxSteps := 1000000) (disch := first | (exact DrawOk.mk (by decide +kernel)) | omega | simp) [wrap_i64, le_most, lt_omega, le_omega, ne_omega, allLen, encG]) <;> (try omega))
  · obtain rfl : k = xs.length := by omega
    simp (maxSteps := 1000000) (disch := first | (exact DrawOk.mk (by decide +kernel)) | omega | simp) [wrap_i64, le_most, lt_omega, le_omega, ne_omega, allLen, fidx_none fun j hj => hno j hj hj]
theorem c37 (xs : List (List Pt)) (g : FuncId) (caps : List IV) (p : List Pt → Bool) (hp : ∀ x ∈ xs, PC E g (.i (.sl (encPs x)) :: caps.map .i) [.i (.bool (p x))]) (h : (xs.length : Int) ≤ 1048576) :
    PC E 37 [.i (.sl (xs.map encG)), .i (.fn g caps)] [.i (.bool (xs.any p))] := by
  refine PC_start hE Proofs.Tryz.func37 rfl rfl Proofs.Tryz.ntmps37 (by kernel_rfl) (by kernel_rfl) (by simp) ?_
  simp (maxSteps := 1000000) (disch := first | (exact DrawOk.mk (by decide +kernel)) | omega | simp) [wrap_i64, le_most, lt_omega, le_omega, ne_omega, allLen]
  refine CallK.of (c52 xs g caps p hp h) (by first | exact .inl rfl | exact .inr (by simp)) (by simp) ?_
  simp (maxSteps := 1000000) (disch := first | (exact DrawOk.mk (by decide +kernel)) | omega | simp) [wrap_i64, le_most, lt_omega, le_omega, ne_omega, allLen, fidx_any]
end Gq
open Gq
def plcB (ls : List (List Pt)) : Bool := inB ls.length 1 24 && ls.all polI
theorem c36 (l : List (List Pt)) : PC E 36 [.i (.sl (l.map encG))] [.i (.int .i64 l.length)] := by
  refine PC_start hE Proofs.Tryz.func36 rfl rfl Proofs.Tryz.ntmps36 (by kernel_rfl) (by kernel_rfl) (by simp) ?_
  simp (maxSteps := 1000000) (disch := first | (exact DrawOk.mk (by decide +kernel)) | omega | simp) [wrap_i64, le_most, lt_omega, le_omega, ne_omega, allLen]
theorem c38 (l : List Pt) (h : (l.length : Int) ≤ 1048576) : PC E 38 [.i (.sl (encPs l))] [.i (.bool (!polI l))] := by
  refine PC_start hE Proofs.Tryz.func38 rfl rfl Proofs.Tryz.ntmps38 (by kernel_rfl) (by kernel_rfl) (by simp) ?_
  simp (maxSteps := 1000000) (disch := first | (exact DrawOk.mk (by decide +kernel)) | omega | simp) [wrap_i64, le_most, lt_omega, le_omega, ne_omega, allLen]
  refine CallK.of (c39 l h) (by first | exact .inl rfl | exact .inr (by simp)) (by simp) ?_
  simp (maxSteps := 1000000) (disch := first | (exact DrawOk.mk (by decide +kernel)) | omega | simp) [wrap_i64, le_most, lt_omega, le_omega, ne_omega, allLen]
theorem c23 (ls : List (List Pt)) (h : (ls.length : Int) ≤ 1048576) (hr : (gsum ls : Int) ≤ 1048576) : PC E 23 [.i (.sl (ls.map encG))] [.i (.bool (plcB ls))] := by
  refine PC_start hE Proofs.Tryz.func23 rfl rfl Proofs.Tryz.ntmps23 (by kernel_rfl) (by kernel_rfl) (by simp) ?_
  simp (maxSteps := 1000000) (disch := first | (exact DrawOk.mk (by decide +kernel)) | omega | simp) [wrap_i64, le_most, lt_omega, le_omega, ne_omega, allLen]
  refine CallK.of (c36 ls) (by first | exact .inl rfl | exact .inr (by simp)) (by simp) ?_
  simp (maxSteps := 1000000) (disch := first | (exact DrawOk.mk (by decide +kernel)) | omega | simp) [wrap_i64, le_most, lt_omega, le_omega, ne_omega, allLen]
  refine CallK.of (c35 _ _ _) (by first | exact .inl rfl | exact .inr (by simp)) (by simp) ?_
  simp (maxSteps := 1000000) (disch := first | (exact DrawOk.mk (by decide +kernel)) | omega | simp) [wrap_i64, le_most, lt_omega, le_omega, ne_omega, allLen]
  (first | refine Gd.dec (fun h1 => ?_) (fun h1 => ?_) | refine Gd.intro (fun h1 => ?_) (fun h1 => ?_)) <;> simp (maxSteps := 1000000) (disch := first | (exact DrawOk.mk (by decide +kernel)) | omega | simp) [wrap_i64, le_most, lt_omega, le_omega, ne_omega, allLen, h1]
  rotate_left
  · simp [plcB, h1]
  refine CallK.of (c37 ls 38 [] (fun l => !polI l) (fun l hl => c38 l (by have := gsum_mem hl; omega)) h) (by first | exact .inl rfl | exact .inr (by simp)) (by simp) ?_
  simp (maxSteps := 1000000) (disch := first | (exact DrawOk.mk (by decide +kernel)) | omega | simp) [wrap_i64, le_most, lt_omega, le_omega, ne_omega, allLen, plcB, h1, List.not_any_eq_all_not]
theorem c20 (ls : List (List Pt)) (h : (ls.length : Int) ≤ 1048576) (hr : (gsum ls : Int) ≤ 1048576) : PC E 20 [.i (.sl (ls.map encG))] [.i (.bool (plcB ls))] := by
  refine PC_start hE Proofs.Tryz.func20 rfl rfl Proofs.Tryz.ntmps20 (by kernel_rfl) (by kernel_rfl) (by simp) ?_
  simp (maxSteps := 1000000) (disch := first | (exact DrawOk.mk (by decide +kernel)) | omega | simp) [wrap_i64, le_most, lt_omega, le_omega, ne_omega, allLen]
  refine CallK.of (c31 _ _ _) (by first | exact .inl rfl | exact .inr (by simp)) (by simp) ?_
  simp (maxSteps := 1000000) (disch := first | (exact DrawOk.mk (by decide +kernel)) | omega | simp) [wrap_i64, le_most, lt_omega, le_omega, ne_omega, allLen]
  (first | refine Gd.dec (fun h1 => ?_) (fun h1 => ?_) | refine Gd.intro (fun h1 => ?_) (fun h1 => ?_)) <;> simp (maxSteps := 1000000) (disch := first | (exact DrawOk.mk (by decide +kernel)) | omega | simp) [wrap_i64, le_most, lt_omega, le_omega, ne_omega, allLen, h1]
  rotate_left
  · simp [plcB, h1]
  refine XL.by hE (ι := { k : Nat // k ≤ ls.length ∧ ∀ (j : Nat) (hj : j < ls.length), j < k → polI ls[j] = true }) (fun k => ⟨[(0, .i (.sl (ls.map encG))), (3, .i (.int .i64 k.1))], []⟩)
    (fun k => ls.length - k.1) ⟨0, Nat.zero_le _, by simp⟩ ⟨by simp, by simp, by simp⟩ (by kernel_rfl) ?_
  rintro ⟨k, hk, hno⟩
  by_cases hlt : k < ls.length
  · have hg := gsum_get hlt
    simp (maxSteps := 1000000) (disch := first | (exact DrawOk.mk (by decide +kernel)) | omega | simp) [wrap_i64, le_most, lt_omega, le_omega, ne_omega, allLen, hlt, encG]
    refine CallK.of (c32 ls[k] (by omega)) (by first | exact .inl rfl | exact .inr (by simp)) (by simp) ?_
    simp (maxSteps := 1000000) (disch := first | (exact DrawOk.mk (by decide +kernel)) | omega | simp) [wrap_i64, le_most, lt_omega, le_omega, ne_omega, allLen, hlt, ← pol_eq]
    (first | refine Gd.dec (fun h4 => ?_) (fun h4 => ?_) | refine Gd.intro (fun h4 => ?_) (fun h4 => ?_)) <;> simp (maxSteps := 1000000) (disch := first | (exact DrawOk.mk (by decide +kernel)) | omega | simp) [wrap_i64, le_most, lt_omega, le_omega, ne_omega, allLen, h4]
    · (refine ⟨⟨k + 1, by omega, fun j hj hjk => by
        rcases Nat.lt_succ_iff_lt_or_eq.1 hjk with h | rfl
        · exact hno j hj h
        · exact h4⟩, by (simp; try omega), ?_⟩; constructor <;> (simp (maxSteps := 1000000) (disch := first | (exact DrawOk.mk (by decide +kernel)) | omega | simp) [wrap_i64, le_most, lt_omega, le_omega, ne_omega, allLen, encG]) <;> (try omega))
    · have : ls.all polI = false := by
        rw [← Bool.not_eq_true]; intro hh
        rw [List.all_eq_true.1 hh _ (List.getElem_mem hlt)] at h4; simp at h4
      simp [plcB, this]
  · obtain rfl : k = ls.length := by omega
    have : ls.all polI = true := by
      rw [List.all_eq_true]; intro x hx
      obtain ⟨j, hj, rfl⟩ := List.getElem_of_mem hx
      exact hno j hj hj
    simp (maxSteps := 1000000) (disch := first | (exact DrawOk.mk (by decide +kernel)) | omega | simp) [wrap_i64, le_most, lt_omega, le_omega, ne_omega, allLen, plcB, h1, this]
end Go.Vai
/- Faces that have common area. -/
set_option linter.unusedVariables false
set_option linter.unusedSimpArgs false
set_option maxHeartbeats 4000000
namespace Go.Vai
/-! ### Common parts, one after another -/
def hcK (x : List Pt) (gs : List (List Pt)) : Nat → List Pt
  | 0 => x
  | k + 1 => commonR (hcK x gs k) (gs.getD k [])
def scK (x : List Pt) (gs : List (List Pt)) : Nat → List Pt
  | 0 => x
  | k + 1 => spcN (scK x gs k) (gs.getD k []) (gs.getD k []).length
theorem com_spc' {x y : List Pt} (h : Rot x y) (b : List Pt) : ∀ k, Rot (spcN x b k) (comN y b k)
  | 0 => h
  | k + 1 => by
    have ih := (com_spc' h b k).half (sideL (nth b k) (nxt b k)) (sideS (nth b k) (nxt b k))
    show Rot (halfR _ _ _) (partR _ _ _)
    rw [partR_eq]
    split
    · exact ih.trans (rot_rot0 _)
    · exact ih
theorem sc_hc (x : List Pt) (gs : List (List Pt)) : ∀ k, Rot (scK x gs k) (hcK x gs k)
  | 0 => Rot.refl _
  | k + 1 => (com_spc' (sc_hc x gs k) _ _).trans (rot_rot0 _)
/-- What is known of a common part. -/
structure Cp (x : List Pt) : Prop where
  fine : Fine x
  pb : ∀ p ∈ x, PB (10 + 3) MP p
theorem Cp.of_pol {l : List Pt} (h : polI l = true) : Cp l := by
  obtain ⟨p1, -⟩ := polI_poly h
  exact ⟨p1.fine, fun p hp => up13 (p1.v p hp)⟩
theorem Cp.common {x b : List Pt} (h : Cp x) (hb : polI b = true) : Cp (commonR x b) := by
  obtain ⟨p1, -⟩ := polI_poly hb
  have hc := com_of h.fine h.pb p1
  refine ⟨(comN_fine h.fine p1 _ (Nat.le_refl _)).rot, fun p hp => hc.pts (by decide) _ (Nat.le_refl _) p (rot0_mem hp)⟩
theorem Cp.spc {x b : List Pt} (h : Cp x) (hb : polI b = true) : Cp (spcN x b b.length) := by
  obtain ⟨p1, -⟩ := polI_poly hb
  have hc := spc_of h.fine h.pb p1
  exact ⟨spcN_fine h.fine p1 _ (Nat.le_refl _), fun p hp => hc.pts (by decide) _ (Nat.le_refl _) p hp⟩
def PolL (gs : List (List Pt)) : Prop := ∀ g ∈ gs, polI g = true
theorem PolL.get {gs : List (List Pt)} (h : PolL gs) {k : Nat} (hk : k < gs.length) : polI (gs.getD k []) = true := by
  have : gs.getD k [] = gs[k] := by simp [hk]
  rw [this]; exact h _ (List.getElem_mem _)
theorem hcK_ok {x : List Pt} {gs : List (List Pt)} (hx : polI x = true) (hg : PolL gs) : ∀ k, k ≤ gs.length → Cp (hcK x gs k) ∧ Cvx (hcK x gs k) ∧ (hcK x gs k).length ≤ 16 + 32 * k
  | 0, _ => ⟨Cp.of_pol hx, (polI_conv hx).cvx, by have := (polI_poly hx).2.2.1; simp [hcK]; omega⟩
  | k + 1, hk => by
    obtain ⟨h1, h2, h3⟩ := hcK_ok hx hg k (by omega)
    have hb := hg.get (show k < gs.length by omega)
    obtain ⟨p1, -, n16, -⟩ := polI_poly hb
    obtain ⟨c1, c2⟩ := comN_cvx h1.fine h2 p1 _ (Nat.le_refl _)
    refine ⟨h1.common hb, c1.rot, ?_⟩
    show (rot0 _).length ≤ _
    rw [rot0_len]; omega
theorem scK_ok {x : List Pt} {gs : List (List Pt)} (hx : polI x = true) (hg : PolL gs) : ∀ k, k ≤ gs.length → Cp (scK x gs k) ∧ (scK x gs k).length ≤ 16 + 32 * k := by
  intro k hk
  refine ⟨?_, by rw [(sc_hc x gs k).1]; exact (hcK_ok hx hg k hk).2.2⟩
  induction k with
  | zero => exact Cp.of_pol hx
  | succ k ih => exact (ih (by omega)).spc (hg.get (by omega))
theorem len_big {n m k : Nat} (hn : n ≤ 16 + 32 * k) (hk : k ≤ 32) (hm : m ≤ 16) : ((n * 2 ^ (m + 1) : Nat) : Int) ≤ 1099511627776 := by
  have h1 : 2 ^ (m + 1) ≤ 2 ^ 17 := Nat.pow_le_pow_right (by decide) (by omega)
  have := Nat.mul_le_mul (show n ≤ 1040 by omega) h1
  omega
theorem commonR_nil' {b : List Pt} : commonR [] b = [] := by
  have := comN_nil [] b (k := 0) rfl b.length
  rw [Nat.zero_add] at this
  simp [commonR, this, rot0]
theorem hcK_nil {x : List Pt} {gs : List (List Pt)} {k : Nat} (h : hcK x gs k = []) : ∀ j, hcK x gs (k + j) = []
  | 0 => h
  | j + 1 => by show commonR (hcK x gs (k + j)) _ = []; rw [hcK_nil h j, commonR_nil']
/-! ### The two programs -/
def facP (ls : List (List Pt)) (f : Int) : List Pt := ls.getD f.toNat []
structure Fac (ls : List (List Pt)) (fs : List Int) : Prop where
  pol : ∀ l ∈ ls, polI l = true
  n : fs.length ≤ 24
  f : ∀ f ∈ fs, 0 ≤ f ∧ f < ls.length
theorem Fac.pl {ls : List (List Pt)} {fs : List Int} (h : Fac ls fs) {f : Int} (hf : f ∈ fs) : polI (facP ls f) = true := by
  have h2 := h.f f hf
  have hl : f.toNat < ls.length := by omega
  have : facP ls f = ls[f.toNat] := by simp [facP, hl]
  rw [this]; exact h.pol _ (List.getElem_mem _)
theorem Fac.get {ls : List (List Pt)} {f : Int} (h2 : 0 ≤ f ∧ f < ls.length) : (ls.map encG)[f.toNat]? = some [.sl (encPs (facP ls f))] := by
  have hl : f.toNat < ls.length := by omega
  have : facP ls f = ls[f.toNat] := by simp [facP, hl]
  rw [this]; simp [hl, encG]
theorem facs_getD {ls : List (List Pt)} {ft : List Int} {k : Nat} (hk : k < ft.length) : (ft.map (facP ls)).getD k [] = facP ls ft[k] := by simp [hk]
def hcB (ls : List (List Pt)) (f0 : Int) (ft : List Int) : Bool := decide (0 < (hcK (facP ls f0) (ft.map (facP ls)) ft.length).length)
theorem c40 (ls : List (List Pt)) (f0 : Int) (ft : List Int) (h : Fac ls (f0 :: ft)) : PC E 40 [.i (.sl (ls.map encG)), .i (.sl ((f0 :: ft).map encI))] [.i (.bool (hcB ls f0 ft))] := by
  have h0 := h.f f0 (by simp)
  have hn := h.n
  simp only [List.length_cons] at hn
  have hg0 := Fac.get (ls := ls) h0
  have hx := h.pl (f := f0) (by simp)
  have hPL : PolL (ft.map (facP ls)) := fun g hg => by
    obtain ⟨f, hf, rfl⟩ := List.mem_map.1 hg
    exact h.pl (by simp [hf])
  have hok := hcK_ok hx hPL
  simp only [List.length_map] at hok
  refine PC_start hE Proofs.Tryz.func40 rfl rfl Proofs.Tryz.ntmps40 (by kernel_rfl) (by kernel_rfl) (by simp) ?_
  have hlt0 : f0.toNat < ls.length := by omega
  have hneg : ¬ f0 < 0 := by omega
  simp (maxSteps := 1000000) (disch := first | (exact DrawOk.mk (by decide +kernel)) | omega | simp) [wrap_i64, le_most, lt_omega, le_omega, ne_omega, allLen, encI, hg0, hneg]
  have hne0 : hcK (facP ls f0) (ft.map (facP ls)) 0 ≠ [] := by
    intro e
    have := (polI_poly hx).2.1
    have e' : facP ls f0 = [] := e
    rw [e'] at this; simp at this
  refine XL.by hE (ι := { k : Nat // k ≤ ft.length ∧ hcK (facP ls f0) (ft.map (facP ls)) k ≠ [] }) (fun k => ⟨[(0, .i (.sl (ls.map encG))), (5, .i (.sl (encPs (hcK (facP ls f0) (ft.map (facP ls)) k.1)))), (15, .i (.sl (ft.map encI))), (16, .i (.int .i64 ft.length)), (17, .i (.int .i64 k.1))], []⟩)
    (fun k => ft.length - k.1) ⟨0, Nat.zero_le _, hne0⟩ ⟨by simp [hcK, encI, Function.comp_def], by simp, by simp⟩ (by kernel_rfl) ?_
  rintro ⟨k, hk, hne⟩
  obtain ⟨k1, k2, k3⟩ := hok k hk
  by_cases hlt : k < ft.length
  · have hf := h.f ft[k] (by simp)
    have hgk := Fac.get (ls := ls) hf
    have hfn : ¬ ft[k] < 0 := by omega
    have hb := h.pl (f := ft[k]) (by simp)
    obtain ⟨p1, -, n16, -⟩ := polI_poly hb
    have hst : hcK (facP ls f0) (ft.map (facP ls)) (k + 1) = commonR (hcK (facP ls f0) (ft.map (facP ls)) k) (facP ls ft[k]) := by
      show commonR _ _ = _
      rw [facs_getD hlt]
    have hcom := (c45 (hcK (facP ls f0) (ft.map (facP ls)) k) (facP ls ft[k]) (com_of k1.fine k1.pb p1) (by decide) (by decide) (by decide) (len_big k3 (by omega) n16) (by omega)).imm
    rw [← hst] at hcom
    simp (maxSteps := 1000000) (disch := first | (exact DrawOk.mk (by decide +kernel)) | omega | simp) [wrap_i64, le_most, lt_omega, le_omega, ne_omega, allLen, hlt, encI, hgk, hfn]
    refine CallK.of (hcom) (by first | exact .inl rfl | exact .inr (by simp)) (by simp) ?_
    simp (maxSteps := 1000000) (disch := first | (exact DrawOk.mk (by decide +kernel)) | omega | simp) [wrap_i64, le_most, lt_omega, le_omega, ne_omega, allLen]
    (first | refine Gd.dec (fun h4 => ?_) (fun h4 => ?_) | refine Gd.intro (fun h4 => ?_) (fun h4 => ?_)) <;> simp (maxSteps := 1000000) (disch := first | (exact DrawOk.mk (by decide +kernel)) | omega | simp) [wrap_i64, le_most, lt_omega, le_omega, ne_omega, allLen, h4]
    · have : hcB ls f0 ft = false := by
        unfold hcB
        have h5 := hcK_nil (by simpa using h4) (ft.length - (k + 1))
        rw [show k + 1 + (ft.length - (k + 1)) = ft.length by omega] at h5
        rw [h5]; rfl
      rw [this]
    · (refine ⟨⟨k + 1, by omega, by simpa using h4⟩, by (simp; try omega), ?_⟩; constructor <;> (simp (maxSteps := 1000000) (disch := first | (exact DrawOk.mk (by decide +kernel)) | omega | simp) [wrap_i64, le_most, lt_omega, le_omega, ne_omega, allLen, encI]) <;> (try omega))
  · obtain rfl : k = ft.length := by omega
    have : hcB ls f0 ft = true := by unfold hcB; exact decide_eq_true (List.length_pos_iff.2 hne)
    simp (maxSteps := 1000000) (disch := first | (exact DrawOk.mk (by decide +kernel)) | omega | simp) [wrap_i64, le_most, lt_omega, le_omega, ne_omega, allLen, this]
end Go.Vai
/- Faces that have common area: the law. -/
set_option linter.unusedVariables false
set_option linter.unusedSimpArgs false
set_option maxHeartbeats 4000000
namespace Go.Vai
namespace Iq
open Pq
end Iq
open Iq
def facB (n : Nat) (fs : List Int) : Bool := fs.all fun f => inB f 0 ((n : Int) - 1)
def hcL (ls : List (List Pt)) : List Int → Bool
  | [] => false
  | f0 :: ft => hcB ls f0 ft
def cmB (ls : List (List Pt)) (fs : List Int) : Bool := plcB ls && (inB fs.length 1 24 && (facB ls.length fs && hcL ls fs))
theorem ex_cons {fs : List Int} (h : inB fs.length 1 24 = true) : ∃ f0 ft, fs = f0 :: ft := by
  cases fs with
  | nil => simp [inB] at h
  | cons a b => exact ⟨a, b, rfl⟩
theorem fac_of {ls : List (List Pt)} {fs : List Int} (h1 : plcB ls = true) (h2 : inB fs.length 1 24 = true) (h3 : facB ls.length fs = true) : Fac ls fs := by
  unfold plcB at h1
  simp only [Bool.and_eq_true, List.all_eq_true] at h1
  have h2' := (inB_iff ..).1 h2
  refine ⟨h1.2, by omega, fun f hf => ?_⟩
  have := (inB_iff ..).1 (List.all_eq_true.1 h3 f hf)
  omega
end Go.Vai
