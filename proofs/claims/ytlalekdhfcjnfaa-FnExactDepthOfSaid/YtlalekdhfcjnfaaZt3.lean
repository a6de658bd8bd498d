import Derived.Test.YtlalekdhfcjnfaaZt2
set_option linter.unusedVariables false
set_option linter.unusedSimpArgs false
namespace Go.Vai
/-- Layers that are open, the last one last; the greatest number of them; whether all was accepted. -/
structure Ms where
  op : List Ly
  most : Nat
  ok : Bool
def push (op : List Ly) (x : Ly) : List Ly := match op.getLast? with
  | some y => if y.f = x.m ∧ y.m = x.f then op.dropLast else op ++ [x]
  | none => [x]
def mstep (s : Ms) (x : Ly) : Ms :=
  if x.e = 1 then ⟨s.op, max s.most s.op.length, s.ok && decide (s.op.length = 0)⟩ else if x.e = 2 then ⟨s.op, max s.most s.op.length, s.ok⟩
  else if x.e = 3 then ⟨push s.op x, max s.most (push s.op x).length, s.ok⟩ else ⟨s.op, max s.most s.op.length, false⟩
def mrun (ls : List Ly) : Ms := ls.foldl mstep ⟨[], 0, true⟩
theorem mrun_snoc (ls : List Ly) (k : Nat) (h : k < ls.length) : mrun (ls.take (k + 1)) = mstep (mrun (ls.take k)) ls[k] := by
  rw [List.take_succ_eq_append_getElem h, mrun, List.foldl_append]; rfl
theorem push_len (op : List Ly) (x : Ly) : (push op x).length ≤ op.length + 1 := by
  unfold push
  split
  · split
    · simp; omega
    · simp
  · simp
theorem mstep_len (s : Ms) (x : Ly) : (mstep s x).op.length ≤ s.op.length + 1 ∧ (mstep s x).most ≤ max s.most (s.op.length + 1) := by
  have := push_len s.op x
  unfold mstep
  split
  · simp; omega
  · split
    · simp; omega
    · split
      · simp; omega
      · simp; omega
theorem mrun_len (ls : List Ly) : ∀ k, k ≤ ls.length → (mrun (ls.take k)).op.length ≤ k ∧ (mrun (ls.take k)).most ≤ k
  | 0, _ => by simp [mrun]
  | k + 1, h => by
    obtain ⟨h1, h2⟩ := mrun_len ls k (by omega)
    rw [mrun_snoc ls k (by omega)]
    have := mstep_len (mrun (ls.take k)) ls[k]
    omega
theorem c58 (ls : List Ly) (h : (ls.length : Int) ≤ 1048576) : PC E 58 [.i (.sl (ls.map encL))] [.i (.int .i64 (mrun ls).most), .i (.bool ((mrun ls).ok && decide ((mrun ls).op.length = 0)))] := by
  refine PC_start hE Proofs.Try.func58 rfl rfl Proofs.Try.ntmps58 (by kernel_rfl) (by kernel_rfl) (by simp) ?_
  simp
  refine XL.by hE (ι := { p : Nat × List (List IV) // p.1 ≤ ls.length }) (fun p => ⟨[(4, .own 61 0 (mrun (ls.take p.1.1)).op.length), (5, .i (.int .i64 (mrun (ls.take p.1.1)).most)), (6, .i (.bool (mrun (ls.take p.1.1)).ok)),
    (10, .i (.sl (ls.map encL))), (11, .i (.int .i64 ls.length)), (12, .i (.int .i64 p.1.1))],
    [(61, ⟨3, (mrun (ls.take p.1.1)).op.map encL ++ p.1.2⟩)]⟩) (fun p => ls.length - p.1.1) ⟨(0, []), Nat.zero_le _⟩ ⟨by simp [mrun], by simp [mrun], by simp⟩ (by kernel_rfl) ?_
  rintro ⟨⟨k, rest⟩, hk⟩
  simp only at hk ⊢
  obtain ⟨hl1, hl2⟩ := mrun_len ls k hk
  by_cases hlt : k < ls.length
  · have hn := mrun_snoc ls k hlt
    have hl := mstep_len (mrun (ls.take k)) ls[k]
    generalize mrun (ls.take k) = s at *
    obtain ⟨op, mo, ok⟩ := s
    generalize hx : ls[k] = x at *
    obtain ⟨f, e, m⟩ := x
    simp only at *
    simp (disch := first | omega | simp) [wrap_i64, le_most, lt_omega, le_omega, allLen, hlt, hx, encL]
    (first | refine Gd.dec (fun h1 => ?_) (fun h1 => ?_) | refine Gd.intro (fun h1 => ?_) (fun h1 => ?_)) <;> simp (disch := first | omega | simp) [wrap_i64, le_most, lt_omega, le_omega, allLen, h1]
    · have hm : mstep ⟨op, mo, ok⟩ ⟨f, e, m⟩ = ⟨op, max mo op.length, ok && decide (op.length = 0)⟩ := by simp [mstep, h1]
      rw [hm] at hn
      (first | refine Gd.dec (fun h4 => ?_) (fun h4 => ?_) | refine Gd.intro (fun h4 => ?_) (fun h4 => ?_)) <;> simp (disch := first | omega | simp) [wrap_i64, le_most, lt_omega, le_omega, allLen, h4]
      · (refine ⟨⟨(k + 1, rest), by omega⟩, by (simp; try omega), ?_⟩; constructor <;> (simp (disch := first | omega | simp) [wrap_i64, le_most, lt_omega, le_omega, allLen, hn, h4]) <;> (try omega))
      · (refine ⟨⟨(k + 1, rest), by omega⟩, by (simp; try omega), ?_⟩; constructor <;> (simp (disch := first | omega | simp) [wrap_i64, le_most, lt_omega, le_omega, allLen, hn, h4]) <;> (try omega))
    (first | refine Gd.dec (fun h2 => ?_) (fun h2 => ?_) | refine Gd.intro (fun h2 => ?_) (fun h2 => ?_)) <;> simp (disch := first | omega | simp) [wrap_i64, le_most, lt_omega, le_omega, allLen, h2]
    · have hm : mstep ⟨op, mo, ok⟩ ⟨f, e, m⟩ = ⟨op, max mo op.length, ok⟩ := by simp [mstep, h1, h2]
      rw [hm] at hn
      (refine ⟨⟨(k + 1, rest), by omega⟩, by (simp; try omega), ?_⟩; constructor <;> (simp (disch := first | omega | simp) [wrap_i64, le_most, lt_omega, le_omega, allLen, hn]) <;> (try omega))
    (first | refine Gd.dec (fun h3 => ?_) (fun h3 => ?_) | refine Gd.intro (fun h3 => ?_) (fun h3 => ?_)) <;> simp (disch := first | omega | simp) [wrap_i64, le_most, lt_omega, le_omega, allLen, h3]
    · have hm : mstep ⟨op, mo, ok⟩ ⟨f, e, m⟩ = ⟨push op ⟨f, e, m⟩, max mo (push op ⟨f, e, m⟩).length, ok⟩ := by simp [mstep, h1, h2, h3]
      rw [hm] at hn
      rcases List.eq_nil_or_concat op with rfl | ⟨t, ⟨f', e', m'⟩, rfl⟩
      · simp (disch := first | omega | simp) [wrap_i64, le_most, lt_omega, le_omega, allLen]
        simp [push] at hn
        (refine ⟨⟨(k + 1, []), by omega⟩, by (simp; try omega), ?_⟩; constructor <;> (simp (disch := first | omega | simp) [wrap_i64, le_most, lt_omega, le_omega, allLen, hn, encL, h3]) <;> (try omega))
      · simp at hl1
        simp (disch := first | omega | simp) [wrap_i64, le_most, lt_omega, le_omega, allLen, encL]
        (first | refine Gd.dec (fun h4 => ?_) (fun h4 => ?_) | refine Gd.intro (fun h4 => ?_) (fun h4 => ?_)) <;> simp (disch := first | omega | simp) [wrap_i64, le_most, lt_omega, le_omega, allLen, h4]
        · (first | refine Gd.dec (fun h5 => ?_) (fun h5 => ?_) | refine Gd.intro (fun h5 => ?_) (fun h5 => ?_)) <;> simp (disch := first | omega | simp) [wrap_i64, le_most, lt_omega, le_omega, allLen, h5]
          · simp [push, h4, h5] at hn
            (refine ⟨⟨(k + 1, [.int .i64 f', .int .i64 e', .int .i64 m'] :: rest), by omega⟩, by (simp; try omega), ?_⟩; constructor <;> (simp (disch := first | omega | simp) [wrap_i64, le_most, lt_omega, le_omega, allLen, hn, encL]) <;> (try omega))
          · simp [push, h4, h5] at hn
            (refine ⟨⟨(k + 1, []), by omega⟩, by (simp; try omega), ?_⟩; constructor <;> (simp (disch := first | omega | simp) [wrap_i64, le_most, lt_omega, le_omega, allLen, hn, encL, h3]) <;> (try omega))
        · simp [push, h4] at hn
          (refine ⟨⟨(k + 1, []), by omega⟩, by (simp; try omega), ?_⟩; constructor <;> (simp (disch := first | omega | simp) [wrap_i64, le_most, lt_omega, le_omega, allLen, hn, encL, h3]) <;> (try omega))
    · have hm : mstep ⟨op, mo, ok⟩ ⟨f, e, m⟩ = ⟨op, max mo op.length, false⟩ := by simp [mstep, h1, h2, h3]
      rw [hm] at hn
      (refine ⟨⟨(k + 1, rest), by omega⟩, by (simp; try omega), ?_⟩; constructor <;> (simp (disch := first | omega | simp) [wrap_i64, le_most, lt_omega, le_omega, allLen, hn]) <;> (try omega))
  · obtain rfl : k = ls.length := by omega
    simp only [List.take_length]
    simp
    (first | refine Gd.dec (fun h4 => ?_) (fun h4 => ?_) | refine Gd.intro (fun h4 => ?_) (fun h4 => ?_)) <;> simp (disch := first | omega | simp) [wrap_i64, le_most, lt_omega, le_omega, allLen, h4]
end Go.Vai
