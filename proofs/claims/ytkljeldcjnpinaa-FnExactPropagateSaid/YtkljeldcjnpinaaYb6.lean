/- Merged texts of this claim: Zt2, Zt3, Zt4, Zt5, Zt6, Zt7, Zt8, Zt9, Zt10. -/
import Derived.Test.YtkljeldcjnpinaaZvE
import Derived.Test.YtkljeldcjnpinaaZv18
set_option linter.unusedVariables false
set_option linter.unusedSimpArgs false
namespace Go.Vai
structure Ly where
  f : Int
  e : Int
  m : Int
  deriving DecidableEq, Inhabited
def encL (x : Ly) : List IV := [.int .i64 x.f, .int .i64 x.e, .int .i64 x.m]
@[simp] theorem encL_len (x : Ly) : (encL x).length = 3 := rfl
end Go.Vai
set_option linter.unusedVariables false
set_option linter.unusedSimpArgs false
namespace Go.Vai
/-- Layers that are open, the last one last; the greatest number of them; whether all was accepted. -/
structure Ms where
  op : List Ly
  most : Nat
  ok : Bool
def push (op : List Ly) (x : Ly) : List Ly := match op.getLast? with
  | some y => if y.f = x.m ∧ y.m = x.f then op.dropLast else op ++ [x]
  | none => [x]
def mstep (s : Ms) (x : Ly) : Ms :=
  if x.e = 1 then ⟨s.op, max s.most s.op.length, s.ok && decide (s.op.length = 0)⟩ else if x.e = 2 then ⟨s.op, max s.most s.op.length, s.ok⟩
  else if x.e = 3 then ⟨push s.op x, max s.most (push s.op x).length, s.ok⟩ else ⟨s.op, max s.most s.op.length, false⟩
def mrun (ls : List Ly) : Ms := ls.foldl mstep ⟨[], 0, true⟩
theorem mrun_snoc (ls : List Ly) (k : Nat) (h : k < ls.length) : mrun (ls.take (k + 1)) = mstep (mrun (ls.take k)) ls[k] := by
  rw [List.take_succ_eq_append_getElem h, mrun, List.foldl_append]; rfl
theorem push_len (op : List Ly) (x : Ly) : (push op x).length ≤ op.length + 1 := by
  unfold push
  split
  · split
    · simp; omega
    · simp
  · simp
theorem mstep_len (s : Ms) (x : Ly) : (mstep s x).op.length ≤ s.op.length + 1 ∧ (mstep s x).most ≤ max s.most (s.op.length + 1) := by
  have := push_len s.op x
  unfold mstep
  split
  · simp; omega
  · split
    · simp; omega
    · split
      · simp; omega
      · simp; omega
theorem mrun_len (ls : List Ly) : ∀ k, k ≤ ls.length → (mrun (ls.take k)).op.length ≤ k ∧ (mrun (ls.take k)).most ≤ k
  | 0, _ => by simp [mrun]
  | k + 1, h => by
    obtain ⟨h1, h2⟩ := mrun_len ls k (by omega)
    rw [mrun_snoc ls k (by omega)]
    have := mstep_len (mrun (ls.take k)) ls[k]
    omega
theorem c48 (ls : List Ly) (h : (ls.length : Int) ≤ 1048576) : PC E 48 [.i (.sl (ls.map encL))] [.i (.int .i64 (mrun ls).most), .i (.bool ((mrun ls).ok && decide ((mrun ls).op.length = 0)))] := by
  refine PC_start hE Proofs.Try.func48 rfl rfl Proofs.Try.ntmps48 (by kernel_rfl) (by kernel_rfl) (by simp) ?_
  simp
  refine XL.by hE (ι := { p : Nat × List (List IV) // p.1 ≤ ls.length }) (fun p => ⟨[(4, .own 61 0 (mrun (ls.take p.1.1)).op.length), (5, .i (.int .i64 (mrun (ls.take p.1.1)).most)), (6, .i (.bool (mrun (ls.take p.1.1)).ok)),
    (10, .i (.sl (ls.map encL))), (11, .i (.int .i64 ls.length)), (12, .i (.int .i64 p.1.1))],
    [(61, ⟨3, (mrun (ls.take p.1.1)).op.map encL ++ p.1.2⟩)]⟩) (fun p => ls.length - p.1.1) ⟨(0, []), Nat.zero_le _⟩ ⟨by simp [mrun], by simp [mrun], by simp⟩ (by kernel_rfl) ?_
  rintro ⟨⟨k, rest⟩, hk⟩
  simp only at hk ⊢
  obtain ⟨hl1, hl2⟩ := mrun_len ls k hk
  by_cases hlt : k < ls.length
  · have hn := mrun_snoc ls k hlt
    have hl := mstep_len (mrun (ls.take k)) ls[k]
    generalize mrun (ls.take k) = s at *
    obtain ⟨op, mo, ok⟩ := s
    generalize hx : ls[k] = x at *
    obtain ⟨f, e, m⟩ := x
    simp only at *
    simp (maxSteps := 1000000) (disch := first | (exact DrawOk.mk (by decide +kernel)) | omega | simp) [wrap_i64, le_most, lt_omega, le_omega, ne_omega, allLen, hlt, hx, encL]
    (first | refine Gd.dec (fun h1 => ?_) (fun h1 => ?_) | refine Gd.intro (fun h1 => ?_) (fun h1 => ?_)) <;> simp (maxSteps := 1000000) (disch := first | (exact DrawOk.mk (by decide +kernel)) | omega | simp) [wrap_i64, le_most, lt_omega, le_omega, ne_omega, allLen, h1]
    · have hm : mstep ⟨op, mo, ok⟩ ⟨f, e, m⟩ = ⟨op, max mo op.length, ok && decide (op.length = 0)⟩ := by simp [mstep, h1]
      rw [hm] at hn
      (first | refine Gd.dec (fun h4 => ?_) (fun h4 => ?_) | refine Gd.intro (fun h4 => ?_) (fun h4 => ?_)) <;> simp (maxSteps := 1000000) (disch := first | (exact DrawOk.mk (by decide +kernel)) | omega | simp) [wrap_i64, le_most, lt_omega, le_omega, ne_omega, allLen, h4]
      · (refine ⟨⟨(k + 1, rest), by omega⟩, by (simp; try omega), ?_⟩; constructor <;> (simp (maxSteps := 1000000) (disch := first | (exact DrawOk.mk (by decide +kernel)) | omega | simp) [wrap_i64, le_most, lt_omega, le_omega, ne_omega, allLen, hn, h4]) <;> (try omega))
      · (refine ⟨⟨(k + 1, rest), by omega⟩, by (simp; try omega), ?_⟩; constructor <;> (simp (maxSteps := 1000000) (disch := first | (exact DrawOk.mk (by decide +kernel)) | omega | simp) [wrap_i64, le_most, lt_omega, le_omega, ne_omega, allLen, hn, h4]) <;> (try omega))
    (first | refine Gd.dec (fun h2 => ?_) (fun h2 => ?_) | refine Gd.intro (fun h2 => ?_) (fun h2 => ?_)) <;> simp (maxSteps := 1000000) (disch := first | (exact DrawOk.mk (by decide +kernel)) | omega | simp) [wrap_i64, le_most, lt_omega, le_omega, ne_omega, allLen, h2]
    · have hm : mstep ⟨op, mo, ok⟩ ⟨f, e, m⟩ = ⟨op, max mo op.length, ok⟩ := by simp [mstep, h1, h2]
      rw [hm] at hn
      (refine ⟨⟨(k + 1, rest), by omega⟩, by (simp; try omega), ?_⟩; constructor <;> (simp (maxSteps := 1000000) (disch := first | (exact DrawOk.mk (by decide +kernel)) | omega | simp) [wrap_i64, le_most, lt_omega, le_omega, ne_omega, allLen, hn]) <;> (try omega))
    (first | refine Gd.dec (fun h3 => ?_) (fun h3 => ?_) | refine Gd.intro (fun h3 => ?_) (fun h3 => ?_)) <;> simp (maxSteps := 1000000) (disch := first | (exact DrawOk.mk (by decide +kernel)) | omega | simp) [wrap_i64, le_most, lt_omega, le_omega, ne_omega, allLen, h3]
    · have hm : mstep ⟨op, mo, ok⟩ ⟨f, e, m⟩ = ⟨push op ⟨f, e, m⟩, max mo (push op ⟨f, e, m⟩).length, ok⟩ := by simp [mstep, h1, h2, h3]
      rw [hm] at hn
      rcases List.eq_nil_or_concat op with rfl | ⟨t, ⟨f', e', m'⟩, rfl⟩
      · simp (maxSteps := 1000000) (disch := first | (exact DrawOk.mk (by decide +kernel)) | omega | simp) [wrap_i64, le_most, lt_omega, le_omega, ne_omega, allLen]
        simp [push] at hn
        (refine ⟨⟨(k + 1, []), by omega⟩, by (simp; try omega), ?_⟩; constructor <;> (simp (maxSteps := 1000000) (disch := first | (exact DrawOk.mk (by decide +kernel)) | omega | simp) [wrap_i64, le_most, lt_omega, le_omega, ne_omega, allLen, hn, encL, h3]) <;> (try omega))
      · simp at hl1
        simp (maxSteps := 1000000) (disch := first | (exact DrawOk.mk (by decide +kernel)) | omega | simp) [wrap_i64, le_most, lt_omega, le_omega, ne_omega, allLen, encL]
        (first | refine Gd.dec (fun h4 => ?_) (fun h4 => ?_) | refine Gd.intro (fun h4 => ?_) (fun h4 => ?_)) <;> simp (maxSteps := 1000000) (disch := first | (exact DrawOk.mk (by decide +kernel)) | omega | simp) [wrap_i64, le_most, lt_omega, le_omega, ne_omega, allLen, h4]
        · (first | refine Gd.dec (fun h5 => ?_) (fun h5 => ?_) | refine Gd.intro (fun h5 => ?_) (fun h5 => ?_)) <;> simp (maxSteps := 1000000) (disch := first | (exact DrawOk.mk (by decide +kernel)) | omega | simp) [wrap_i64, le_most, lt_omega, le_omega, ne_omega, allLen, h5]
          · simp [push, h4, h5] at hn
            (refine ⟨⟨(k + 1, [.int .i64 f', .int .i64 e', .int .i64 m'] :: rest), by omega⟩, by (simp; try omega), ?_⟩; constructor <;> (simp (maxSteps := 1000000) (disch := first | (exact DrawOk.mk (by decide +kernel)) | omega | simp) [wrap_i64, le_most, lt_omega, le_omega, ne_omega, allLen, hn, encL]) <;> (try omega))
          · simp [push, h4, h5] at hn
            (refine ⟨⟨(k + 1, []), by omega⟩, by (simp; try omega), ?_⟩; constructor <;> (simp (maxSteps := 1000000) (disch := first | (exact DrawOk.mk (by decide +kernel)) | omega | simp) [wrap_i64, le_most, lt_omega, le_omega, ne_omega, allLen, hn, encL, h3]) <;> (try omega))
        · simp [push, h4] at hn
          (refine ⟨⟨(k + 1, []), by omega⟩, by (simp; try omega), ?_⟩; constructor <;> (simp (maxSteps := 1000000) (disch := first | (exact DrawOk.mk (by decide +kernel)) | omega | simp) [wrap_i64, le_most, lt_omega, le_omega, ne_omega, allLen, hn, encL, h3]) <;> (try omega))
    · have hm : mstep ⟨op, mo, ok⟩ ⟨f, e, m⟩ = ⟨op, max mo op.length, false⟩ := by simp [mstep, h1, h2, h3]
      rw [hm] at hn
      (refine ⟨⟨(k + 1, rest), by omega⟩, by (simp; try omega), ?_⟩; constructor <;> (simp (maxSteps := 1000000) (disch := first | (exact DrawOk.mk (by decide +kernel)) | omega | simp) [wrap_i64, le_most, lt_omega, le_omega, ne_omega, allLen, hn]) <;> (try omega))
  · obtain rfl : k = ls.length := by omega
    simp only [List.take_length]
    simp
    (first | refine Gd.dec (fun h4 => ?_) (fun h4 => ?_) | refine Gd.intro (fun h4 => ?_) (fun h4 => ?_)) <;> simp (maxSteps := 1000000) (disch := first | (exact DrawOk.mk (by decide +kernel)) | omega | simp) [wrap_i64, le_most, lt_omega, le_omega, ne_omega, allLen, h4]
end Go.Vai
set_option linter.unusedVariables false
set_option linter.unusedSimpArgs false
namespace Go.Vai
set_option maxHeartbeats 4000000 in
theorem c49 (ls : List Ly) (h : (ls.length : Int) ≤ 1048576) : PC E 49 [.i (.sl (ls.map encL))] [.i (.bool ((mrun ls).ok && decide ((mrun ls).op.length = 0))), .i (.int .i64 (mrun ls).most)] := by
  refine PC_start hE Proofs.Try.func49 rfl rfl Proofs.Try.ntmps49 (by kernel_rfl) (by kernel_rfl) (by simp) ?_
  simp (maxSteps := 1000000) (disch := first | (exact DrawOk.mk (by decide +kernel)) | omega | simp) [wrap_i64, le_most, lt_omega, le_omega, ne_omega, allLen]
  refine XL.by hE (ι := { p : Nat × List (List IV) // p.1 ≤ ls.length }) (fun p => ⟨[(4, .own 10 0 (mrun (ls.take p.1.1)).op.length), (5, .i (.int .i64 (mrun (ls.take p.1.1)).most)), (6, .i (.bool (mrun (ls.take p.1.1)).ok)),
    (0, .i (.sl (ls.map encL))), (7, .i (.int .i64 p.1.1))],
    [(10, ⟨3, (mrun (ls.take p.1.1)).op.map encL ++ p.1.2⟩)]⟩) (fun p => ls.length - p.1.1) ⟨(0, []), Nat.zero_le _⟩ ⟨by simp [mrun], by simp [mrun], by simp⟩ (by kernel_rfl) ?_
  rintro ⟨⟨k, rest⟩, hk⟩
  simp only at hk ⊢
  obtain ⟨hl1, hl2⟩ := mrun_len ls k hk
  by_cases hlt : k < ls.length
  · have hn := mrun_snoc ls k hlt
    have hl := mstep_len (mrun (ls.take k)) ls[k]
    generalize mrun (ls.take k) = s at *
    obtain ⟨op, mo, ok⟩ := s
    generalize hx : ls[k] = x at *
    obtain ⟨f, e, m⟩ := x
    simp only at *
    simp (maxSteps := 1000000) (disch := first | (exact DrawOk.mk (by decide +kernel)) | omega | simp) [wrap_i64, le_most, lt_omega, le_omega, ne_omega, allLen, hlt, hx, encL]
    (first | refine Gd.dec (fun h1 => ?_) (fun h1 => ?_) | refine Gd.intro (fun h1 => ?_) (fun h1 => ?_)) <;> simp (maxSteps := 1000000) (disch := first | (exact DrawOk.mk (by decide +kernel)) | omega | simp) [wrap_i64, le_most, lt_omega, le_omega, ne_omega, allLen, h1]
    · have hm : mstep ⟨op, mo, ok⟩ ⟨f, e, m⟩ = ⟨op, max mo op.length, ok && decide (op.length = 0)⟩ := by simp [mstep, h1]
      rw [hm] at hn
      (first | refine Gd.dec (fun h4 => ?_) (fun h4 => ?_) | refine Gd.intro (fun h4 => ?_) (fun h4 => ?_)) <;> simp (maxSteps := 1000000) (disch := first | (exact DrawOk.mk (by decide +kernel)) | omega | simp) [wrap_i64, le_most, lt_omega, le_omega, ne_omega, allLen, h4]
      · (first | refine Gd.dec (fun h5 => ?_) (fun h5 => ?_) | refine Gd.intro (fun h5 => ?_) (fun h5 => ?_)) <;> simp (maxSteps := 1000000) (disch := first | (exact DrawOk.mk (by decide +kernel)) | omega | simp) [wrap_i64, le_most, lt_omega, le_omega, ne_omega, allLen, h5]
        · (refine ⟨⟨(k + 1, rest), by omega⟩, by (simp; try omega), ?_⟩; constructor <;> (simp (maxSteps := 1000000) (disch := first | (exact DrawOk.mk (by decide +kernel)) | omega | simp) [wrap_i64, le_most, lt_omega, le_omega, ne_omega, allLen, hn, h4]) <;> (try omega))
        · (refine ⟨⟨(k + 1, rest), by omega⟩, by (simp; try omega), ?_⟩; constructor <;> (simp (maxSteps := 1000000) (disch := first | (exact DrawOk.mk (by decide +kernel)) | omega | simp) [wrap_i64, le_most, lt_omega, le_omega, ne_omega, allLen, hn, h4]) <;> (try omega))
      · (first | refine Gd.dec (fun h5 => ?_) (fun h5 => ?_) | refine Gd.intro (fun h5 => ?_) (fun h5 => ?_)) <;> simp (maxSteps := 1000000) (disch := first | (exact DrawOk.mk (by decide +kernel)) | omega | simp) [wrap_i64, le_most, lt_omega, le_omega, ne_omega, allLen, h5]
        · (refine ⟨⟨(k + 1, rest), by omega⟩, by (simp; try omega), ?_⟩; constructor <;> (simp (maxSteps := 1000000) (disch := first | (exact DrawOk.mk (by decide +kernel)) | omega | simp) [wrap_i64, le_most, lt_omega, le_omega, ne_omega, allLen, hn, h4]) <;> (try omega))
        · (refine ⟨⟨(k + 1, rest), by omega⟩, by (simp; try omega), ?_⟩; constructor <;> (simp (maxSteps := 1000000) (disch := first | (exact DrawOk.mk (by decide +kernel)) | omega | simp) [wrap_i64, le_most, lt_omega, le_omega, ne_omega, allLen, hn, h4]) <;> (try omega))
    (first | refine Gd.dec (fun h2 => ?_) (fun h2 => ?_) | refine Gd.intro (fun h2 => ?_) (fun h2 => ?_)) <;> simp (maxSteps := 1000000) (disch := first | (exact DrawOk.mk (by decide +kernel)) | omega | simp) [wrap_i64, le_most, lt_omega, le_omega, ne_omega, allLen, h2]
    · have hm : mstep ⟨op, mo, ok⟩ ⟨f, e, m⟩ = ⟨op, max mo op.length, ok⟩ := by simp [mstep, h1, h2]
      rw [hm] at hn
      (first | refine Gd.dec (fun h5 => ?_) (fun h5 => ?_) | refine Gd.intro (fun h5 => ?_) (fun h5 => ?_)) <;> simp (maxSteps := 1000000) (disch := first | (exact DrawOk.mk (by decide +kernel)) | omega | simp) [wrap_i64, le_most, lt_omega, le_omega, ne_omega, allLen, h5]
      · (refine ⟨⟨(k + 1, rest), by omega⟩, by (simp; try omega), ?_⟩; constructor <;> (simp (maxSteps := 1000000) (disch := first | (exact DrawOk.mk (by decide +kernel)) | omega | simp) [wrap_i64, le_most, lt_omega, le_omega, ne_omega, allLen, hn]) <;> (try omega))
      · (refine ⟨⟨(k + 1, rest), by omega⟩, by (simp; try omega), ?_⟩; constructor <;> (simp (maxSteps := 1000000) (disch := first | (exact DrawOk.mk (by decide +kernel)) | omega | simp) [wrap_i64, le_most, lt_omega, le_omega, ne_omega, allLen, hn]) <;> (try omega))
    (first | refine Gd.dec (fun h3 => ?_) (fun h3 => ?_) | refine Gd.intro (fun h3 => ?_) (fun h3 => ?_)) <;> simp (maxSteps := 1000000) (disch := first | (exact DrawOk.mk (by decide +kernel)) | omega | simp) [wrap_i64, le_most, lt_omega, le_omega, ne_omega, allLen, h3]
    · have hm : mstep ⟨op, mo, ok⟩ ⟨f, e, m⟩ = ⟨push op ⟨f, e, m⟩, max mo (push op ⟨f, e, m⟩).length, ok⟩ := by simp [mstep, h1, h2, h3]
      rw [hm] at hn
      rcases List.eq_nil_or_concat op with rfl | ⟨t, ⟨f', e', m'⟩, rfl⟩
      · simp (maxSteps := 1000000) (disch := first | (exact DrawOk.mk (by decide +kernel)) | omega | simp) [wrap_i64, le_most, lt_omega, le_omega, ne_omega, allLen]
        simp [push] at hn
        (first | refine Gd.dec (fun h5 => ?_) (fun h5 => ?_) | refine Gd.intro (fun h5 => ?_) (fun h5 => ?_)) <;> simp (maxSteps := 1000000) (disch := first | (exact DrawOk.mk (by decide +kernel)) | omega | simp) [wrap_i64, le_most, lt_omega, le_omega, ne_omega, allLen, h5]
        · (refine ⟨⟨(k + 1, []), by omega⟩, by (simp; try omega), ?_⟩; constructor <;> (simp (maxSteps := 1000000) (disch := first | (exact DrawOk.mk (by decide +kernel)) | omega | simp) [wrap_i64, le_most, lt_omega, le_omega, ne_omega, allLen, hn, encL, h3]) <;> (try omega))
        · (refine ⟨⟨(k + 1, []), by omega⟩, by (simp; try omega), ?_⟩; constructor <;> (simp (maxSteps := 1000000) (disch := first | (exact DrawOk.mk (by decide +kernel)) | omega | simp) [wrap_i64, le_most, lt_omega, le_omega, ne_omega, allLen, hn, encL, h3]) <;> (try omega))
      · simp at hl1
        simp (maxSteps := 1000000) (disch := first | (exact DrawOk.mk (by decide +kernel)) | omega | simp) [wrap_i64, le_most, lt_omega, le_omega, ne_omega, allLen, encL]
        (first | refine Gd.dec (fun h4 => ?_) (fun h4 => ?_) | refine Gd.intro (fun h4 => ?_) (fun h4 => ?_)) <;> simp (maxSteps := 1000000) (disch := first | (exact DrawOk.mk (by decide +kernel)) | omega | simp) [wrap_i64, le_most, lt_omega, le_omega, ne_omega, allLen, h4]
        · (first | refine Gd.dec (fun h5 => ?_) (fun h5 => ?_) | refine Gd.intro (fun h5 => ?_) (fun h5 => ?_)) <;> simp (maxSteps := 1000000) (disch := first | (exact DrawOk.mk (by decide +kernel)) | omega | simp) [wrap_i64, le_most, lt_omega, le_omega, ne_omega, allLen, h5]
          · simp [push, h4, h5] at hn
            (first | refine Gd.dec (fun h6 => ?_) (fun h6 => ?_) | refine Gd.intro (fun h6 => ?_) (fun h6 => ?_)) <;> simp (maxSteps := 1000000) (disch := first | (exact DrawOk.mk (by decide +kernel)) | omega | simp) [wrap_i64, le_most, lt_omega, le_omega, ne_omega, allLen, h6]
            · (refine ⟨⟨(k + 1, [.int .i64 f', .int .i64 e', .int .i64 m'] :: rest), by omega⟩, by (simp; try omega), ?_⟩; constructor <;> (simp (maxSteps := 1000000) (disch := first | (exact DrawOk.mk (by decide +kernel)) | omega | simp) [wrap_i64, le_most, lt_omega, le_omega, ne_omega, allLen, hn, encL]) <;> (try omega))
            · (refine ⟨⟨(k + 1, [.int .i64 f', .int .i64 e', .int .i64 m'] :: rest), by omega⟩, by (simp; try omega), ?_⟩; constructor <;> (simp (maxSteps := 1000000) (disch := first | (exact DrawOk.mk (by decide +kernel)) | omega | simp) [wrap_i64, le_most, lt_omega, le_omega, ne_omega, allLen, hn, encL]) <;> (try omega))
          · simp [push, h4, h5] at hn
            (first | refine Gd.dec (fun h6 => ?_) (fun h6 => ?_) | refine Gd.intro (fun h6 => ?_) (fun h6 => ?_)) <;> simp (maxSteps := 1000000) (disch := first | (exact DrawOk.mk (by decide +kernel)) | omega | simp) [wrap_i64, le_most, lt_omega, le_omega, ne_omega, allLen, h6]
            · (refine ⟨⟨(k + 1, []), by omega⟩, by (simp; try omega), ?_⟩; constructor <;> (simp (maxSteps := 1000000) (disch := first | (exact DrawOk.mk (by decide +kernel)) | omega | simp) [wrap_i64, le_most, lt_omega, le_omega, ne_omega, allLen, hn, encL, h3]) <;> (try omega))
            · (refine ⟨⟨(k + 1, []), by omega⟩, by (simp; try omega), ?_⟩; constructor <;> (simp (maxSteps := 1000000) (disch := first | (exact DrawOk.mk (by decide +kernel)) | omega | simp) [wrap_i64, le_most, lt_omega, le_omega, ne_omega, allLen, hn, encL, h3]) <;> (try omega))
        · simp [push, h4] at hn
          (first | refine Gd.dec (fun h6 => ?_) (fun h6 => ?_) | refine Gd.intro (fun h6 => ?_) (fun h6 => ?_)) <;> simp (maxSteps := 1000000) (disch := first | (exact DrawOk.mk (by decide +kernel)) | omega | simp) [wrap_i64, le_most, lt_omega, le_omega, ne_omega, allLen, h6]
          · (refine ⟨⟨(k + 1, []), by omega⟩, by (simp; try omega), ?_⟩; constructor <;> (simp (maxSteps := 1000000) (disch := first | (exact DrawOk.mk (by decide +kernel)) | omega | simp) [wrap_i64, le_most, lt_omega, le_omega, ne_omega, allLen, hn, encL, h3]) <;> (try omega))
          · (refine ⟨⟨(k + 1, []), by omega⟩, by (simp; try omega), ?_⟩; constructor <;> (simp (maxSteps := 1000000) (disch := first | (exact DrawOk.mk (by decide +kernel)) | omega | simp) [wrap_i64, le_most, lt_omega, le_omega, ne_omega, allLen, hn, encL, h3]) <;> (try omega))
    · have hm : mstep ⟨op, mo, ok⟩ ⟨f, e, m⟩ = ⟨op, max mo op.length, false⟩ := by simp [mstep, h1, h2, h3]
      rw [hm] at hn
      (first | refine Gd.dec (fun h5 => ?_) (fun h5 => ?_) | refine Gd.intro (fun h5 => ?_) (fun h5 => ?_)) <;> simp (maxSteps := 1000000) (disch := first | (exact DrawOk.mk (by decide +kernel)) | omega | simp) [wrap_i64, le_most, lt_omega, le_omega, ne_omega, allLen, h5]
      · (refine ⟨⟨(k + 1, rest), by omega⟩, by (simp; try omega), ?_⟩; constructor <;> (simp (maxSteps := 1000000) (disch := first | (exact DrawOk.mk (by decide +kernel)) | omega | simp) [wrap_i64, le_most, lt_omega, le_omega, ne_omega, allLen, hn]) <;> (try omega))
      · (refine ⟨⟨(k + 1, rest), by omega⟩, by (simp; try omega), ?_⟩; constructor <;> (simp (maxSteps := 1000000) (disch := first | (exact DrawOk.mk (by decide +kernel)) | omega | simp) [wrap_i64, le_most, lt_omega, le_omega, ne_omega, allLen, hn]) <;> (try omega))
  · obtain rfl : k = ls.length := by omega
    simp only [List.take_length]
    simp (maxSteps := 1000000) (disch := first | (exact DrawOk.mk (by decide +kernel)) | omega | simp) [wrap_i64, le_most, lt_omega, le_omega, ne_omega, allLen]
    (first | refine Gd.dec (fun h4 => ?_) (fun h4 => ?_) | refine Gd.intro (fun h4 => ?_) (fun h4 => ?_)) <;> simp (maxSteps := 1000000) (disch := first | (exact DrawOk.mk (by decide +kernel)) | omega | simp) [wrap_i64, le_most, lt_omega, le_omega, ne_omega, allLen, h4]
end Go.Vai
set_option linter.unusedVariables false
set_option linter.unusedSimpArgs false
set_option maxHeartbeats 4000000
namespace Go.Vai
theorem c13 (ls : List Ly) (h : (ls.length : Int) ≤ 1048576) : PC E 13 [.i (.sl (ls.map encL))] [.i (.bool ((mrun ls).ok && decide ((mrun ls).op.length = 0)))] := by
  refine PC_start hE Proofs.Try.func13 rfl rfl Proofs.Try.ntmps13 (by kernel_rfl) (by kernel_rfl) (by simp) ?_
  simp (maxSteps := 1000000) (disch := first | (exact DrawOk.mk (by decide +kernel)) | omega | simp) [wrap_i64, le_most, lt_omega, le_omega, ne_omega, allLen]
  refine CallK.of (c49 ls h) (.inl rfl) (by simp) ?_
  simp (maxSteps := 1000000) (disch := first | (exact DrawOk.mk (by decide +kernel)) | omega | simp) [wrap_i64, le_most, lt_omega, le_omega, ne_omega, allLen]
theorem c12 (ls : List Ly) (h : (ls.length : Int) ≤ 1048576) : PC E 12 [.i (.sl (ls.map encL))] [.i (.bool ((mrun ls).ok && decide ((mrun ls).op.length = 0)))] := by
  refine PC_start hE Proofs.Try.func12 rfl rfl Proofs.Try.ntmps12 (by kernel_rfl) (by kernel_rfl) (by simp) ?_
  simp (maxSteps := 1000000) (disch := first | (exact DrawOk.mk (by decide +kernel)) | omega | simp) [wrap_i64, le_most, lt_omega, le_omega, ne_omega, allLen]
  refine CallK.of (c48 ls h) (.inl rfl) (by simp) ?_
  simp (maxSteps := 1000000) (disch := first | (exact DrawOk.mk (by decide +kernel)) | omega | simp) [wrap_i64, le_most, lt_omega, le_omega, ne_omega, allLen]
theorem c14 (ls : List Ly) (h : (ls.length : Int) ≤ 1048576) : PC E 14 [.i (.sl (ls.map encL))] [.i (.int .i64 (mrun ls).most)] := by
  refine PC_start hE Proofs.Try.func14 rfl rfl Proofs.Try.ntmps14 (by kernel_rfl) (by kernel_rfl) (by simp) ?_
  simp (maxSteps := 1000000) (disch := first | (exact DrawOk.mk (by decide +kernel)) | omega | simp) [wrap_i64, le_most, lt_omega, le_omega, ne_omega, allLen]
  refine CallK.of (c48 ls h) (.inl rfl) (by simp) ?_
  simp (maxSteps := 1000000) (disch := first | (exact DrawOk.mk (by decide +kernel)) | omega | simp) [wrap_i64, le_most, lt_omega, le_omega, ne_omega, allLen]
end Go.Vai
set_option linter.unusedVariables false
set_option linter.unusedSimpArgs false
set_option maxHeartbeats 4000000
namespace Go.Vai
structure Nd where
  kind : Int
  var : Int
  value : Int
  rule : Int
  deriving DecidableEq, Inhabited
def encNd (x : Nd) : List IV := [.int .i64 x.kind, .int .i64 x.var, .int .i64 x.value, .int .i64 x.rule]
@[simp] theorem encNd_len (x : Nd) : (encNd x).length = 4 := rfl
@[simp] theorem encNd_take (x : Nd) : (encNd x).take 4 = encNd x := rfl
theorem typedNd {n : Nat} {el : List IV} (h : Typed E n 123 el) : ∃ x, el = encNd x := by
  cases n with
  | zero => exact h.elim
  | succ n =>
    simp only [Typed, k123, fieldsT] at h
    obtain ⟨a0, b0, rfl, h0, a1, b1, rfl, h1, a2, b2, rfl, h2, a3, b3, rfl, h3, rfl⟩ := h
    cases n with
    | zero => exact h0.elim
    | succ n =>
      simp only [Typed, k2] at h0 h1 h2 h3
      obtain ⟨x0, rfl, -⟩ := h0
      obtain ⟨x1, rfl, -⟩ := h1
      obtain ⟨x2, rfl, -⟩ := h2
      obtain ⟨x3, rfl, -⟩ := h3
      exact ⟨⟨x0, x1, x2, x3⟩, rfl⟩
theorem c83 (x : Nd) : PC E 83 [.agg (encNd x)] [.agg (encNd x)] := by
  refine PC_start hE Proofs.Try.func83 rfl rfl Proofs.Try.ntmps83 (by kernel_rfl) (by kernel_rfl) (by simp) ?_
  simp [encNd]
theorem c85 (x y : Nd) : PC E 85 [.agg (encNd x), .agg (encNd y)] [.i (.bool (decide (x = y)))] := by
  refine PC_start hE Proofs.Try.func85 rfl rfl Proofs.Try.ntmps85 (by kernel_rfl) (by kernel_rfl) (by simp) ?_
  obtain ⟨a0, a1, a2, a3⟩ := x
  obtain ⟨b0, b1, b2, b3⟩ := y
  simp (maxSteps := 1000000) (disch := first | (exact DrawOk.mk (by decide +kernel)) | omega | simp) [wrap_i64, le_most, lt_omega, le_omega, ne_omega, allLen, encNd]
  (first | refine Gd.dec (fun h0 => ?_) (fun h0 => ?_) | refine Gd.intro (fun h0 => ?_) (fun h0 => ?_)) <;> simp (maxSteps := 1000000) (disch := first | (exact DrawOk.mk (by decide +kernel)) | omega | simp) [wrap_i64, le_most, lt_omega, le_omega, ne_omega, allLen, h0]
  (first | refine Gd.dec (fun h1 => ?_) (fun h1 => ?_) | refine Gd.intro (fun h1 => ?_) (fun h1 => ?_)) <;> simp (maxSteps := 1000000) (disch := first | (exact DrawOk.mk (by decide +kernel)) | omega | simp) [wrap_i64, le_most, lt_omega, le_omega, ne_omega, allLen, h1]
  (first | refine Gd.dec (fun h2 => ?_) (fun h2 => ?_) | refine Gd.intro (fun h2 => ?_) (fun h2 => ?_)) <;> simp (maxSteps := 1000000) (disch := first | (exact DrawOk.mk (by decide +kernel)) | omega | simp) [wrap_i64, le_most, lt_omega, le_omega, ne_omega, allLen, h2]
  (first | refine Gd.dec (fun h3 => ?_) (fun h3 => ?_) | refine Gd.intro (fun h3 => ?_) (fun h3 => ?_)) <;> simp (maxSteps := 1000000) (disch := first | (exact DrawOk.mk (by decide +kernel)) | omega | simp) [wrap_i64, le_most, lt_omega, le_omega, ne_omega, allLen, h3]
@[simp] theorem eqlNd (x y : Nd) : eqOp E .eql 121 (encNd x) (encNd y) = some (.i (.bool (decide (x = y)))) := by
  obtain ⟨a0, a1, a2, a3⟩ := x
  obtain ⟨b0, b1, b2, b3⟩ := y
  simp [encNd, eqOp, eqA, eqFs, partA]
@[simp] theorem neqNd (x y : Nd) : eqOp E .neq 121 (encNd x) (encNd y) = some (.i (.bool (!decide (x = y)))) := by
  obtain ⟨a0, a1, a2, a3⟩ := x
  obtain ⟨b0, b1, b2, b3⟩ := y
  simp [encNd, eqOp, eqA, eqFs, partA]
theorem c40 (ls : List Nd) (n : Int) (h0 : 0 ≤ n) (h1 : n ≤ 1048576) (h : (ls.length : Int) ≤ 9223372036854775807) : PC E 40 [.i (.sl (ls.map encNd)), .i (.int .i64 n)] [.i (.int .i64 (if n - ls.length < 0 then -1 else n - ls.length))] := by
  refine PC_start hE Proofs.Try.func40 rfl rfl Proofs.Try.ntmps40 (by kernel_rfl) (by kernel_rfl) (by simp) ?_
  simp (maxSteps := 1000000) (disch := first | (exact DrawOk.mk (by decide +kernel)) | omega | simp) [wrap_i64, le_most, lt_omega, le_omega, ne_omega, allLen]
  (first | refine Gd.dec (fun h2 => ?_) (fun h2 => ?_) | refine Gd.intro (fun h2 => ?_) (fun h2 => ?_)) <;> simp (maxSteps := 1000000) (disch := first | (exact DrawOk.mk (by decide +kernel)) | omega | simp) [wrap_i64, le_most, lt_omega, le_omega, ne_omega, allLen, h2]
theorem c42 (ls : List Nd) (h : (ls.length : Int) ≤ 1048576) : PC E 42 [.i (.sl (ls.map encNd))] [.own 4 (ls.map encNd)] := by
  refine PC_start hE Proofs.Try.func42 rfl rfl Proofs.Try.ntmps42 (by kernel_rfl) (by kernel_rfl) (by simp) ?_
  simp (maxSteps := 1000000) (disch := first | (exact DrawOk.mk (by decide +kernel)) | omega | simp) [wrap_i64, le_most, lt_omega, le_omega, ne_omega, allLen]
  have hl : (ls.map encNd).length = ls.length := by simp
  refine XL.by hE (ι := { k : Nat // k ≤ ls.length }) (fun k => ⟨[(3, .own 7 0 ls.length), (4, .i (.int .i64 k.1)), (0, .i (.sl (ls.map encNd)))],
    [(7, ⟨4, fill (ls.map encNd) [.int .i64 0, .int .i64 0, .int .i64 0, .int .i64 0] k.1⟩)]⟩) (fun k => ls.length - k.1) ⟨0, Nat.zero_le _⟩ ⟨by simp, by simp [fill_zero], by simp⟩ (by kernel_rfl) ?_
  rintro ⟨k, hk⟩
  by_cases hlt : k < ls.length
  · have hz := fill_get (ls.map encNd) [.int .i64 0, .int .i64 0, .int .i64 0, .int .i64 0] k (by omega)
    have hs := fill_set (ls.map encNd) [.int .i64 0, .int .i64 0, .int .i64 0, .int .i64 0] k (encNd ls[k]) (by simp [hlt])
    simp (maxSteps := 1000000) (disch := first | (exact DrawOk.mk (by decide +kernel)) | omega | simp) [wrap_i64, le_most, lt_omega, le_omega, ne_omega, allLen, hlt]
    refine CallK.of (c83 _) (.inl rfl) (by simp) ?_
    simp [encNd] at hs
    simp (maxSteps := 1000000) (disch := first | (exact DrawOk.mk (by decide +kernel)) | omega | simp) [wrap_i64, le_most, lt_omega, le_omega, ne_omega, allLen, hlt, hz, hs, encNd]
    (refine ⟨⟨k + 1, by omega⟩, by (simp; try omega), ?_⟩; constructor <;> (simp (maxSteps := 1000000) (disch := first | (exact DrawOk.mk (by decide +kernel)) | omega | simp) [wrap_i64, le_most, lt_omega, le_omega, ne_omega, allLen]) <;> (try omega))
  · have hf := fill_all (ls.map encNd) [.int .i64 0, .int .i64 0, .int .i64 0, .int .i64 0] k (by omega)
    simp (maxSteps := 1000000) (disch := first | (exact DrawOk.mk (by decide +kernel)) | omega | simp) [wrap_i64, le_most, lt_omega, le_omega, ne_omega, allLen, hlt, hf]
theorem c44 (ls ms : List Nd) (h : (ls.length : Int) ≤ 1048576) (hm : (ms.length : Int) ≤ 1048576) : PC E 44 [.i (.sl (ls.map encNd)), .i (.sl (ms.map encNd))] [.i (.bool (decide (ls = ms)))] := by
  refine PC_start hE Proofs.Try.func44 rfl rfl Proofs.Try.ntmps44 (by kernel_rfl) (by kernel_rfl) (by simp) ?_
  simp (maxSteps := 1000000) (disch := first | (exact DrawOk.mk (by decide +kernel)) | omega | simp) [wrap_i64, le_most, lt_omega, le_omega, ne_omega, allLen]
  (first | refine Gd.dec (fun h1 => ?_) (fun h1 => ?_) | refine Gd.intro (fun h1 => ?_) (fun h1 => ?_)) <;> simp (maxSteps := 1000000) (disch := first | (exact DrawOk.mk (by decide +kernel)) | omega | simp) [wrap_i64, le_most, lt_omega, le_omega, ne_omega, allLen, h1]
  rotate_left
  · intro e; subst e; exact h1 rfl
  refine XL.by hE (ι := { k : Nat // k ≤ ls.length ∧ ls.take k = ms.take k }) (fun p => ⟨[(5, .i (.int .i64 p.1)), (0, .i (.sl (ls.map encNd))), (1, .i (.sl (ms.map encNd)))], []⟩) (fun p => ls.length - p.1) ⟨0, by simp⟩
    ⟨by simp, by simp, by simp⟩ (by kernel_rfl) ?_
  rintro ⟨k, hk, he⟩
  have hl : ls.length = ms.length := by omega
  by_cases hlt : k < ls.length
  · have hlt' : k < ms.length := by omega
    simp (maxSteps := 1000000) (disch := first | (exact DrawOk.mk (by decide +kernel)) | omega | simp) [wrap_i64, le_most, lt_omega, le_omega, ne_omega, allLen, hlt, hlt']
    refine CallK.of (c85 _ _) (.inl rfl) (by simp) ?_
    simp (maxSteps := 1000000) (disch := first | (exact DrawOk.mk (by decide +kernel)) | omega | simp) [wrap_i64, le_most, lt_omega, le_omega, ne_omega, allLen, hlt, hlt']
    (first | refine Gd.dec (fun h4 => ?_) (fun h4 => ?_) | refine Gd.intro (fun h4 => ?_) (fun h4 => ?_)) <;> simp (maxSteps := 1000000) (disch := first | (exact DrawOk.mk (by decide +kernel)) | omega | simp) [wrap_i64, le_most, lt_omega, le_omega, ne_omega, allLen, h4]
    · have : ls.take (k + 1) = ms.take (k + 1) := by rw [List.take_succ_eq_append_getElem hlt, List.take_succ_eq_append_getElem hlt', he, h4]
      (refine ⟨⟨k + 1, by omega, this⟩, by (simp; try omega), ?_⟩; constructor <;> (simp (maxSteps := 1000000) (disch := first | (exact DrawOk.mk (by decide +kernel)) | omega | simp) [wrap_i64, le_most, lt_omega, le_omega, ne_omega, allLen]) <;> (try omega))
    · intro e; subst e; exact h4 rfl
  · obtain rfl : k = ls.length := by omega
    rw [List.take_of_length_le (by omega), List.take_of_length_le (by omega)] at he
    simp (maxSteps := 1000000) (disch := first | (exact DrawOk.mk (by decide +kernel)) | omega | simp) [wrap_i64, le_most, lt_omega, le_omega, ne_omega, allLen, hl, he]
/-- The depth of the refutation that begins a list, and the rest behind it. -/
def dep : Nat → List Nd → Option (Nat × List Nd)
  | 0, _ => none
  | _ + 1, [] => none
  | n + 1, x :: r => if x.kind = 3 then some (0, r) else if x.kind = 2 then (match dep n r with
      | none => none
      | some (a, b) => some (a + 1, b))
    else if x.kind = 1 then (match dep n r with
      | none => none
      | some (a, b) => match dep n b with
        | none => none
        | some (c, d) => some (max a c + 1, d))
    else none
theorem dep_len : ∀ (n : Nat) (l : List Nd) (a : Nat) (b : List Nd), dep n l = some (a, b) → a + b.length < l.length
  | 0, l, a, b, h => by simp [dep] at h
  | n + 1, [], a, b, h => by simp [dep] at h
  | n + 1, x :: r, a, b, h => by
    simp only [dep] at h
    split at h
    · simp at h; obtain ⟨rfl, rfl⟩ := h; simp
    · split at h
      · split at h
        · simp at h
        · rename_i a' b' h'
          have := dep_len n r a' b' h'
          simp at h; obtain ⟨rfl, rfl⟩ := h; simp; omega
      · split at h
        · split at h
          · simp at h
          · rename_i a' b' h'
            have h1 := dep_len n r a' b' h'
            split at h
            · simp at h
            · rename_i c d h''
              have h2 := dep_len n b' c d h''
              simp at h; obtain ⟨rfl, rfl⟩ := h; simp; omega
        · simp at h
def depI (o : Option (Nat × List Nd)) : Int := match o with
  | none => -1
  | some (a, _) => a
def depR (o : Option (Nat × List Nd)) : List Nd := match o with
  | none => []
  | some (_, b) => b
end Go.Vai
set_option linter.unusedVariables false
set_option linter.unusedSimpArgs false
set_option maxHeartbeats 4000000
namespace Go.Vai
/-- What the loop finds: the depth or -1, and the rest at which it stands. -/
def sdep : Nat → List Nd → Nat → Int × List Nd
  | 0, l, _ => (-1, l)
  | _ + 1, [], _ => (-1, [])
  | n + 1, x :: r, m => if x.kind = 3 then ((m : Int), r) else if x.kind = 2 then sdep n r (m + 1)
    else if x.kind = 1 then
      if (sdep n r 0).1 < 0 then (-1, (sdep n r 0).2)
      else if (sdep n (sdep n r 0).2 0).1 < 0 then (-1, (sdep n (sdep n r 0).2 0).2)
      else ((m : Int) + 1 + max (sdep n r 0).1 (sdep n (sdep n r 0).2 0).1, (sdep n (sdep n r 0).2 0).2)
    else (-1, x :: r)
theorem sdep_dep : ∀ (n : Nat) (l : List Nd) (m : Nat), match dep n l with
    | none => (sdep n l m).1 = -1
    | some (a, b) => sdep n l m = ((m : Int) + a, b)
  | 0, l, m => by simp [dep, sdep]
  | n + 1, [], m => by simp [dep, sdep]
  | n + 1, x :: r, m => by
    have ih := sdep_dep n r
    simp only [dep, sdep]
    by_cases h1 : x.kind = 3
    · simp [h1]
    by_cases h2 : x.kind = 2
    · have := ih (m + 1)
      simp only [h1, h2, if_true, if_false]
      cases hd : dep n r with
      | none => rw [hd] at this; simpa using this
      | some p => obtain ⟨a, b⟩ := p; rw [hd] at this; simp at this ⊢; rw [this]; simp; omega
    by_cases h3 : x.kind = 1
    · have h4 := ih 0
      simp only [h1, h2, h3, if_true, if_false]
      cases hd : dep n r with
      | none => rw [hd] at h4; simp at h4; simp [h4]
      | some p =>
        obtain ⟨a, b⟩ := p
        rw [hd] at h4; simp at h4
        have h5 := sdep_dep n b 0
        simp only [h4]
        rw [if_neg (by simp)]
        cases hd2 : dep n b with
        | none => rw [hd2] at h5; simp at h5; simp [h5]
        | some q => obtain ⟨c, d⟩ := q; rw [hd2] at h5; simp at h5; simp only [h5]; rw [if_neg (by simp)]; simp; omega
    · simp [h1, h2, h3]
theorem sdep_suffix : ∀ (n : Nat) (l : List Nd) (m : Nat), (sdep n l m).2 <:+ l
  | 0, l, m => by simp [sdep]
  | n + 1, [], m => by simp [sdep]
  | n + 1, x :: r, m => by
    have h1 := sdep_suffix n r
    simp only [sdep]
    split
    · simp
    · split
      · exact (h1 _).trans (List.suffix_cons _ _)
      · split
        · split
          · exact (h1 _).trans (List.suffix_cons _ _)
          · have h2 := (sdep_suffix n (sdep n r 0).2 0).trans ((h1 0).trans (List.suffix_cons x r))
            split
            · exact h2
            · exact h2
        · exact List.suffix_refl _
end Go.Vai
set_option linter.unusedVariables false
set_option linter.unusedSimpArgs false
set_option maxHeartbeats 4000000
namespace Go.Vai
theorem sdep_le (n : Nat) (l : List Nd) (m : Nat) : (sdep n l m).1 ≤ m + l.length ∧ -1 ≤ (sdep n l m).1 := by
  have h := sdep_dep n l m
  cases hd : dep n l with
  | none => rw [hd] at h; simp at h; rw [h]; omega
  | some p => obtain ⟨a, b⟩ := p; rw [hd] at h; simp at h; rw [h]; have := dep_len n l a b hd; simp; omega
end Go.Vai
set_option linter.unusedVariables false
set_option linter.unusedSimpArgs false
set_option maxHeartbeats 4000000
namespace Go.Vai
/-- The depth of a refutation, or -1. -/
def rdep (l : List Nd) : Int := if l.length ≤ 4000 then (match dep l.length l with
  | some (a, []) => a
  | _ => -1) else -1
end Go.Vai
set_option linter.unusedVariables false
set_option linter.unusedSimpArgs false
set_option maxHeartbeats 4000000
namespace Go.Vai
def encI (n : Int) : List IV := [.int .i64 n]
@[simp] theorem encI_len (x : Int) : (encI x).length = 1 := rfl
theorem typedI {n : Nat} {el : List IV} (h : Typed E n 2 el) : ∃ x, el = encI x := by
  cases n with
  | zero => exact h.elim
  | succ n =>
    simp only [Typed, k2] at h
    obtain ⟨x, rfl, -⟩ := h
    exact ⟨x, rfl⟩
theorem typedSlice {α : Type} {enc : α → List IV} {t u : TypeId} (hk : tkOf E t = some (.slice u)) (he : ∀ n el, Typed E n u el → ∃ x, el = enc x) {n : Nat} {el : List IV} (h : Typed E n t el) :
    ∃ xs : List α, el = [.sl (xs.map enc)] ∧ xs.length ≤ maxLen := by
  cases n with
  | zero => exact h.elim
  | succ n =>
    simp only [Typed, hk] at h
    obtain ⟨els, rfl, hl, hx⟩ := h
    obtain ⟨xs, rfl⟩ := exists_map enc els fun el hel => he n el (hx el hel)
    exact ⟨xs, rfl, by simpa using hl⟩
theorem c52 (ls : List Int) (n : Int) (h0 : 0 ≤ n) (h1 : n ≤ 1048576) (h : (ls.length : Int) ≤ 9223372036854775807) : PC E 52 [.i (.sl (ls.map encI)), .i (.int .i64 n)] [.i (.int .i64 (if n - ls.length < 0 then -1 else n - ls.length))] := by
  refine PC_start hE Proofs.Try.func52 rfl rfl Proofs.Try.ntmps52 (by kernel_rfl) (by kernel_rfl) (by simp) ?_
  simp (maxSteps := 1000000) (disch := first | (exact DrawOk.mk (by decide +kernel)) | omega | simp) [wrap_i64, le_most, lt_omega, le_omega, ne_omega, allLen]
  (first | refine Gd.dec (fun h2 => ?_) (fun h2 => ?_) | refine Gd.intro (fun h2 => ?_) (fun h2 => ?_)) <;> simp (maxSteps := 1000000) (disch := first | (exact DrawOk.mk (by decide +kernel)) | omega | simp) [wrap_i64, le_most, lt_omega, le_omega, ne_omega, allLen, h2]
theorem c23 (ls : List Int) (h : (ls.length : Int) ≤ 1048576) : PC E 23 [.i (.sl (ls.map encI))] [.own 1 (ls.map encI)] := by
  refine PC_start hE Proofs.Try.func23 rfl rfl Proofs.Try.ntmps23 (by kernel_rfl) (by kernel_rfl) (by simp) ?_
  simp (maxSteps := 1000000) (disch := first | (exact DrawOk.mk (by decide +kernel)) | omega | simp) [wrap_i64, le_most, lt_omega, le_omega, ne_omega, allLen]
  have hl : (ls.map encI).length = ls.length := by simp
  refine XL.by hE (ι := { k : Nat // k ≤ ls.length }) (fun k => ⟨[(3, .own 7 0 ls.length), (4, .i (.int .i64 k.1)), (0, .i (.sl (ls.map encI)))],
    [(7, ⟨1, fill (ls.map encI) [.int .i64 0] k.1⟩)]⟩) (fun k => ls.length - k.1) ⟨0, Nat.zero_le _⟩ ⟨by simp, by simp [fill_zero], by simp⟩ (by kernel_rfl) ?_
  rintro ⟨k, hk⟩
  by_cases hlt : k < ls.length
  · have hz := fill_get (ls.map encI) [.int .i64 0] k (by omega)
    have hs := fill_set (ls.map encI) [.int .i64 0] k (encI ls[k]) (by simp [hlt])
    simp [encI] at hs
    simp (maxSteps := 1000000) (disch := first | (exact DrawOk.mk (by decide +kernel)) | omega | simp) [wrap_i64, le_most, lt_omega, le_omega, ne_omega, allLen, hlt, hz, hs, encI]
    (refine ⟨⟨k + 1, by omega⟩, by (simp; try omega), ?_⟩; constructor <;> (simp (maxSteps := 1000000) (disch := first | (exact DrawOk.mk (by decide +kernel)) | omega | simp) [wrap_i64, le_most, lt_omega, le_omega, ne_omega, allLen]) <;> (try omega))
  · have hf := fill_all (ls.map encI) [.int .i64 0] k (by omega)
    simp (maxSteps := 1000000) (disch := first | (exact DrawOk.mk (by decide +kernel)) | omega | simp) [wrap_i64, le_most, lt_omega, le_omega, ne_omega, allLen, hlt, hf]
theorem take_eq_of {α : Type} {ls ms : List α} (h1 : ls.length = ms.length) {k : Nat} (hk : ls.length ≤ k) (h : ls.take k = ms.take k) : ls = ms := by
  rwa [List.take_of_length_le hk, List.take_of_length_le (by omega)] at h
theorem take_step {α : Type} {ls ms : List α} {k : Nat} (h1 : k < ls.length) (h2 : k < ms.length) (h : ls.take k = ms.take k) (he : ls[k] = ms[k]) : ls.take (k + 1) = ms.take (k + 1) := by
  rw [List.take_succ_eq_append_getElem h1, List.take_succ_eq_append_getElem h2, h, he]
theorem c26 (ls ms : List Int) (h : (ls.length : Int) ≤ 1048576) (hm : (ms.length : Int) ≤ 1048576) : PC E 26 [.i (.sl (ls.map encI)), .i (.sl (ms.map encI))] [.i (.bool (decide (ls = ms)))] := by
  refine PC_start hE Proofs.Try.func26 rfl rfl Proofs.Try.ntmps26 (by kernel_rfl) (by kernel_rfl) (by simp) ?_
  simp (maxSteps := 1000000) (disch := first | (exact DrawOk.mk (by decide +kernel)) | omega | simp) [wrap_i64, le_most, lt_omega, le_omega, ne_omega, allLen]
  (first | refine Gd.dec (fun h1 => ?_) (fun h1 => ?_) | refine Gd.intro (fun h1 => ?_) (fun h1 => ?_)) <;> simp (maxSteps := 1000000) (disch := first | (exact DrawOk.mk (by decide +kernel)) | omega | simp) [wrap_i64, le_most, lt_omega, le_omega, ne_omega, allLen, h1]
  rotate_left
  · intro e; subst e; exact h1 rfl
  refine XL.by hE (ι := { k : Nat // k ≤ ls.length ∧ ls.take k = ms.take k }) (fun p => ⟨[(5, .i (.int .i64 p.1)), (0, .i (.sl (ls.map encI))), (1, .i (.sl (ms.map encI)))], []⟩) (fun p => ls.length - p.1) ⟨0, by simp⟩
    ⟨by simp, by simp, by simp⟩ (by kernel_rfl) ?_
  rintro ⟨k, hk, he⟩
  have hl : ls.length = ms.length := by omega
  by_cases hlt : k < ls.length
  · have hlt' : k < ms.length := by omega
    simp (maxSteps := 1000000) (disch := first | (exact DrawOk.mk (by decide +kernel)) | omega | simp) [wrap_i64, le_most, lt_omega, le_omega, ne_omega, allLen, hlt, hlt', encI]
    (first | refine Gd.dec (fun h4 => ?_) (fun h4 => ?_) | refine Gd.intro (fun h4 => ?_) (fun h4 => ?_)) <;> simp (maxSteps := 1000000) (disch := first | (exact DrawOk.mk (by decide +kernel)) | omega | simp) [wrap_i64, le_most, lt_omega, le_omega, ne_omega, allLen, h4]
    · (refine ⟨⟨k + 1, by omega, take_step hlt hlt' he h4⟩, by (simp; try omega), ?_⟩; constructor <;> (simp (maxSteps := 1000000) (disch := first | (exact DrawOk.mk (by decide +kernel)) | omega | simp) [wrap_i64, le_most, lt_omega, le_omega, ne_omega, allLen]) <;> (try omega))
    · intro e; subst e; exact h4 rfl
  · obtain rfl : ls = ms := take_eq_of hl (by omega) he
    simp (maxSteps := 1000000) (disch := first | (exact DrawOk.mk (by decide +kernel)) | omega | simp) [wrap_i64, le_most, lt_omega, le_omega, ne_omega, allLen, hlt]
theorem c54 (ls ms : List Int) (h : (ls.length : Int) ≤ 1048576) (hm : (ms.length : Int) ≤ 1048576) : PC E 54 [.i (.sl (ls.map encI)), .i (.sl (ms.map encI))] [.i (.bool (decide (ls = ms)))] := by
  refine PC_start hE Proofs.Try.func54 rfl rfl Proofs.Try.ntmps54 (by kernel_rfl) (by kernel_rfl) (by simp) ?_
  simp (maxSteps := 1000000) (disch := first | (exact DrawOk.mk (by decide +kernel)) | omega | simp) [wrap_i64, le_most, lt_omega, le_omega, ne_omega, allLen]
  (first | refine Gd.dec (fun h1 => ?_) (fun h1 => ?_) | refine Gd.intro (fun h1 => ?_) (fun h1 => ?_)) <;> simp (maxSteps := 1000000) (disch := first | (exact DrawOk.mk (by decide +kernel)) | omega | simp) [wrap_i64, le_most, lt_omega, le_omega, ne_omega, allLen, h1]
  rotate_left
  · intro e; subst e; exact h1 rfl
  refine XL.by hE (ι := { k : Nat // k ≤ ls.length ∧ ls.take k = ms.take k }) (fun p => ⟨[(5, .i (.int .i64 p.1)), (0, .i (.sl (ls.map encI))), (1, .i (.sl (ms.map encI)))], []⟩) (fun p => ls.length - p.1) ⟨0, by simp⟩
    ⟨by simp, by simp, by simp⟩ (by kernel_rfl) ?_
  rintro ⟨k, hk, he⟩
  have hl : ls.length = ms.length := by omega
  by_cases hlt : k < ls.length
  · have hlt' : k < ms.length := by omega
    simp (maxSteps := 1000000) (disch := first | (exact DrawOk.mk (by decide +kernel)) | omega | simp) [wrap_i64, le_most, lt_omega, le_omega, ne_omega, allLen, hlt, hlt', encI]
    (first | refine Gd.dec (fun h4 => ?_) (fun h4 => ?_) | refine Gd.intro (fun h4 => ?_) (fun h4 => ?_)) <;> simp (maxSteps := 1000000) (disch := first | (exact DrawOk.mk (by decide +kernel)) | omega | simp) [wrap_i64, le_most, lt_omega, le_omega, ne_omega, allLen, h4]
    · (refine ⟨⟨k + 1, by omega, take_step hlt hlt' he h4⟩, by (simp; try omega), ?_⟩; constructor <;> (simp (maxSteps := 1000000) (disch := first | (exact DrawOk.mk (by decide +kernel)) | omega | simp) [wrap_i64, le_most, lt_omega, le_omega, ne_omega, allLen]) <;> (try omega))
    · intro e; subst e; exact h4 rfl
  · obtain rfl : ls = ms := take_eq_of hl (by omega) he
    simp (maxSteps := 1000000) (disch := first | (exact DrawOk.mk (by decide +kernel)) | omega | simp) [wrap_i64, le_most, lt_omega, le_omega, ne_omega, allLen, hlt]
theorem c58 (ls ms : List Int) (h : (ls.length : Int) ≤ 1048576) (hm : (ms.length : Int) ≤ 1048576) : PC E 58 [.i (.sl (ls.map encI)), .i (.sl (ms.map encI))] [.i (.bool (decide (ls = ms)))] := by
  refine PC_start hE Proofs.Try.func58 rfl rfl Proofs.Try.ntmps58 (by kernel_rfl) (by kernel_rfl) (by simp) ?_
  simp (maxSteps := 1000000) (disch := first | (exact DrawOk.mk (by decide +kernel)) | omega | simp) [wrap_i64, le_most, lt_omega, le_omega, ne_omega, allLen]
  (first | refine Gd.dec (fun h1 => ?_) (fun h1 => ?_) | refine Gd.intro (fun h1 => ?_) (fun h1 => ?_)) <;> simp (maxSteps := 1000000) (disch := first | (exact DrawOk.mk (by decide +kernel)) | omega | simp) [wrap_i64, le_most, lt_omega, le_omega, ne_omega, allLen, h1]
  rotate_left
  · intro e; subst e; exact h1 rfl
  refine XL.by hE (ι := { k : Nat // k ≤ ls.length ∧ ls.take k = ms.take k }) (fun p => ⟨[(13, .i (.int .i64 p.1)), (12, .i (.int .i64 ms.length)), (0, .i (.sl (ls.map encI))), (1, .i (.sl (ms.map encI)))], []⟩) (fun p => ls.length - p.1) ⟨0, by simp⟩
    ⟨by simp, by simp, by simp⟩ (by kernel_rfl) ?_
  rintro ⟨k, hk, he⟩
  have hl : ls.length = ms.length := by omega
  by_cases hlt : k < ls.length
  · have hlt' : k < ms.length := by omega
    simp (maxSteps := 1000000) (disch := first | (exact DrawOk.mk (by decide +kernel)) | omega | simp) [wrap_i64, le_most, lt_omega, le_omega, ne_omega, allLen, hlt, hlt', encI]
    (first | refine Gd.dec (fun h4 => ?_) (fun h4 => ?_) | refine Gd.intro (fun h4 => ?_) (fun h4 => ?_)) <;> simp (maxSteps := 1000000) (disch := first | (exact DrawOk.mk (by decide +kernel)) | omega | simp) [wrap_i64, le_most, lt_omega, le_omega, ne_omega, allLen, h4]
    · (refine ⟨⟨k + 1, by omega, take_step hlt hlt' he h4⟩, by (simp; try omega), ?_⟩; constructor <;> (simp (maxSteps := 1000000) (disch := first | (exact DrawOk.mk (by decide +kernel)) | omega | simp) [wrap_i64, le_most, lt_omega, le_omega, ne_omega, allLen]) <;> (try omega))
    · intro e; subst e; exact h4 rfl
  · obtain rfl : ls = ms := take_eq_of hl (by omega) he
    simp (maxSteps := 1000000) (disch := first | (exact DrawOk.mk (by decide +kernel)) | omega | simp) [wrap_i64, le_most, lt_omega, le_omega, ne_omega, allLen, hlt]
/-- A certificate. -/
structure Ct where
  kind : Int
  a : Int
  b : Int
  order : List Int
  nodes : List Nd
  deriving DecidableEq
def encC (x : Ct) : List IV := [.int .i64 x.kind, .int .i64 x.a, .int .i64 x.b, .sl (x.order.map encI), .sl (x.nodes.map encNd)]
@[simp] theorem encC_len (x : Ct) : (encC x).length = 5 := rfl
end Go.Vai
