/- Merged texts of this claim: Zb1, Zb2, Zb3, Zb4, Zb5. -/
import Derived.Test.YtkckffmnjpoclaaZvE
import Derived.Test.YtkckffmnjpoclaaYb6
/- The source of choices: bytes, then a simple sequence. -/
set_option linter.unusedVariables false
set_option linter.unusedSimpArgs false
set_option maxHeartbeats 4000000
namespace Go.Vai
structure Sr where
  j : Nat
  seed : Int
def encB (b : Int) : List IV := [.int .u8 b]
@[simp] theorem encB_len (x : Int) : (encB x).length = 1 := rfl
def encS (code : List Int) (s : Sr) : Obj := ⟨3, [[.sl (code.map encB), .int .i64 s.j, .int .u64 s.seed]]⟩
@[simp] theorem encS_els (code : List Int) (s : Sr) : (encS code s).els.length = 1 := rfl
structure Cod (code : List Int) : Prop where
  len : code.length ≤ 1048576
  byte : ∀ b ∈ code, 0 ≤ b ∧ b ≤ 255
def seedF (b seed : Int) : Int := IntKind.u64.wrap (IntKind.u64.wrap (IntKind.u64.wrap (seed * 6364136223846793005) + IntKind.u64.wrap b) + 1442695040888963407)
def nxB (code : List Int) (s : Sr) : Int := if s.j < code.length then code.getD s.j 0 else 0
def nxS (code : List Int) (s : Sr) : Sr := ⟨s.j + 1, seedF (nxB code s) s.seed⟩
def hiF (x : Int) : Int := IntKind.i64.wrap (andI .u64 (shrI .u64 x 40) 255)
theorem hiF_bound (x : Int) : 0 ≤ hiF x ∧ hiF x ≤ 255 := by
  unfold hiF andI
  have h : (BitVec.ofInt IntKind.u64.bits (shrI .u64 x 40) &&& BitVec.ofInt IntKind.u64.bits 255).toNat ≤ 255 := by
    rw [BitVec.toNat_and]
    exact Nat.le_trans Nat.and_le_right (by decide)
  generalize (BitVec.ofInt IntKind.u64.bits (shrI .u64 x 40) &&& BitVec.ofInt IntKind.u64.bits 255).toNat = n at h
  have e : IntKind.u64.wrap (n : Int) = n := by simp [IntKind.wrap, IntKind.bits]; omega
  rw [e, wrap_i64 (by omega) (by omega)]
  omega
def nxV (code : List Int) (s : Sr) : Int := if s.j < code.length then code.getD s.j 0 else hiF (seedF 0 s.seed)
theorem c106 (code : List Int) (hc : Cod code) (s : Sr) (hs : s.j ≤ 1048576) : PM E 106 [.pt (encS code s)] [encS code (nxS code s)] [.i (.int .i64 (nxV code s))] := by
  have hl := hc.len
  unfold encS nxS
  obtain ⟨j, seed⟩ := s
  simp only at hs
  by_cases hlt : j < code.length
  · have h0 := hc.byte _ (List.getElem_mem hlt)
    have e1 : nxB code ⟨j, seed⟩ = code[j] := by simp [nxB, hlt]
    have e2 : nxV code ⟨j, seed⟩ = code[j] := by simp [nxV, hlt]
    rw [e1, e2]
    unfold seedF
    refine PM_start hE Proofs.Try.func106 rfl rfl Proofs.Try.ntmps106 (by kernel_rfl) (by kernel_rfl) (by simp) (by simp) ?_
    simp (maxSteps := 1000000) (disch := first | (exact DrawOk.mk (by decide +kernel)) | omega | simp) [wrap_i64, le_most, lt_omega, le_omega, ne_omega, allLen]
    simp (maxSteps := 1000000) (disch := first | (exact DrawOk.mk (by decide +kernel)) | omega | simp) [wrap_i64, le_most, lt_omega, le_omega, ne_omega, allLen, hlt, encB]
  · have e1 : nxB code ⟨j, seed⟩ = 0 := by simp [nxB, hlt]
    have e2 : nxV code ⟨j, seed⟩ = hiF (seedF 0 seed) := by simp [nxV, hlt]
    rw [e1, e2]
    unfold seedF
    refine PM_start hE Proofs.Try.func106 rfl rfl Proofs.Try.ntmps106 (by kernel_rfl) (by kernel_rfl) (by simp) (by simp) ?_
    simp (maxSteps := 1000000) (disch := first | (exact DrawOk.mk (by decide +kernel)) | omega | simp) [wrap_i64, le_most, lt_omega, le_omega, ne_omega, allLen]
    have h2 : ¬ ((j : Int) + 1 ≤ code.length) := by omega
    simp (maxSteps := 1000000) (disch := first | (exact DrawOk.mk (by decide +kernel)) | omega | simp) [wrap_i64, le_most, lt_omega, le_omega, ne_omega, allLen, hlt, h2, hiF]
theorem nxV_bound {code : List Int} (hc : Cod code) (s : Sr) : 0 ≤ nxV code s ∧ nxV code s ≤ 255 := by
  unfold nxV
  split
  · rename_i h
    rw [List.getD_eq_getElem?_getD, List.getElem?_eq_getElem h]
    exact hc.byte _ (List.getElem_mem h)
  · exact hiF_bound _
/-- A number from 0 to n - 1. -/
def pkV (code : List Int) (s : Sr) (n : Int) : Int := if n ≤ 1 then 0 else nxV code s % n
def pkS (code : List Int) (s : Sr) (n : Int) : Sr := if n ≤ 1 then s else nxS code s
theorem pkV_bound {code : List Int} (hc : Cod code) (s : Sr) (n : Int) : 0 ≤ pkV code s n ∧ (pkV code s n = 0 ∨ pkV code s n < n) := by
  unfold pkV
  split
  · simp
  · have h1 := Int.emod_nonneg (nxV code s) (b := n) (by omega)
    have h2 := Int.emod_lt_of_pos (nxV code s) (b := n) (by omega)
    omega
theorem pkS_j (code : List Int) (s : Sr) (n : Int) : (pkS code s n).j ≤ s.j + 1 := by
  unfold pkS nxS
  split <;> simp
theorem c82 (code : List Int) (hc : Cod code) (s : Sr) (hs : s.j ≤ 1048576) (n : Int) (hn : n ≤ 200) : PM E 82 [.pt (encS code s), .i (.i (.int .i64 n))] [encS code (pkS code s n)] [.i (.int .i64 (pkV code s n))] := by
  have hb := nxV_bound hc s
  have h5 : ¬ (200 < n) := by omega
  by_cases h1 : n ≤ 1
  · have e1 : pkS code s n = s := by simp [pkS, h1]
    have e2 : pkV code s n = 0 := by simp [pkV, h1]
    rw [e1, e2]
    refine PM_start hE Proofs.Try.func82 rfl rfl Proofs.Try.ntmps82 (by kernel_rfl) (by kernel_rfl) (by simp) (by simp) ?_
    simp (maxSteps := 1000000) (disch := first | (exact DrawOk.mk (by decide +kernel)) | omega | simp) [wrap_i64, le_most, lt_omega, le_omega, ne_omega, allLen, h1]
  · have e1 : pkS code s n = nxS code s := by simp [pkS, h1]
    have e2 : pkV code s n = (nxV code s).tmod n := by simp [pkV, h1]; rw [Int.tmod_eq_emod_of_nonneg hb.1]
    rw [e1, e2]
    have h3 : ¬ n = 0 := by omega
    refine PM_start hE Proofs.Try.func82 rfl rfl Proofs.Try.ntmps82 (by kernel_rfl) (by kernel_rfl) (by simp) (by simp) ?_
    simp (maxSteps := 1000000) (disch := first | (exact DrawOk.mk (by decide +kernel)) | omega | simp) [wrap_i64, le_most, lt_omega, le_omega, ne_omega, allLen, h1]
    refine MutK.of (c106 code hc s hs) (by simp) (by simp) (by simp) (by simp) (by simp) ?_
    simp (maxSteps := 1000000) (disch := first | (exact DrawOk.mk (by decide +kernel)) | omega | simp) [wrap_i64, le_most, lt_omega, le_omega, ne_omega, allLen, h5, h3]
theorem c87 (code : List Int) (hc : Cod code) (s : Sr) (hs : s.j ≤ 1048576) (n : Int) (hn : n ≤ 200) : PM E 87 [.pt (encS code s), .i (.i (.int .i64 n))] [encS code (pkS code s n)] [.i (.bool (decide (pkV code s n = 0)))] := by
  refine PM_start hE Proofs.Try.func87 rfl rfl Proofs.Try.ntmps87 (by kernel_rfl) (by kernel_rfl) (by simp) (by simp) ?_
  simp (maxSteps := 1000000) (disch := first | (exact DrawOk.mk (by decide +kernel)) | omega | simp) [wrap_i64, le_most, lt_omega, le_omega, ne_omega, allLen]
  refine MutK.of (c82 code hc s hs n hn) (by simp) (by simp) (by simp) (by simp) (by simp) ?_
  simp (maxSteps := 1000000) (disch := first | (exact DrawOk.mk (by decide +kernel)) | omega | simp) [wrap_i64, le_most, lt_omega, le_omega, ne_omega, allLen]
theorem c47 (code : List Int) : PC E 47 [.i (.sl (code.map encB))] [.pt 3 [.sl (code.map encB), .int .i64 0, .int .u64 0]] := by
  refine PC_start hE Proofs.Try.func47 rfl rfl Proofs.Try.ntmps47 (by kernel_rfl) (by kernel_rfl) (by simp) ?_
  simp (maxSteps := 1000000) (disch := first | (exact DrawOk.mk (by decide +kernel)) | omega | simp) [wrap_i64, le_most, lt_omega, le_omega, ne_omega, allLen]
end Go.Vai
/- Layers that are drawn. -/
set_option linter.unusedVariables false
set_option linter.unusedSimpArgs false
set_option maxHeartbeats 4000000
namespace Go.Vai
structure Dr where
  out : List Ly
  face : Int
  s : Sr
def drS1 (code : List Int) (d : Dr) : Sr := pkS code d.s (d.out.length + 1)
def drE (code : List Int) (d : Dr) : Int := 1 + pkV code (drS1 code d) 3
def drS2 (code : List Int) (d : Dr) : Sr := pkS code (drS1 code d) 3
def drS3 (code : List Int) (d : Dr) : Sr := if drE code d = 1 then pkS code (drS2 code d) 3 else drS2 code d
def drA (code : List Int) (d : Dr) : Nat := if drE code d = 1 ∧ 0 < pkV code (drS2 code d) 3 then 0 else (pkV code d.s (d.out.length + 1)).toNat
/-- One more layer, or two. -/
def drStep (code : List Int) (d : Dr) : Dr :=
  if drE code d = 3 then ⟨d.out.take (drA code d) ++ [⟨d.face, 3, d.face + 1⟩, ⟨d.face + 1, 3, d.face⟩] ++ d.out.drop (drA code d), d.face + 1 + 1, drS3 code d⟩
  else ⟨d.out.take (drA code d) ++ [⟨d.face, drE code d, 0⟩] ++ d.out.drop (drA code d), d.face + 1, drS3 code d⟩
def drawN (code : List Int) : Nat → Dr → Dr
  | 0, d => d
  | k + 1, d => drawN code k (drStep code d)
def Ly.fine (x : Ly) : Prop := (0 ≤ x.f ∧ x.f ≤ 100) ∧ 0 ≤ x.m ∧ x.m ≤ 100
structure DrOk (n : Nat) (d : Dr) : Prop where
  len : d.out.length ≤ 2 * n
  face : 0 ≤ d.face ∧ d.face ≤ 2 * n
  j : d.s.j ≤ 1 + 3 * n
  fine : ∀ x ∈ d.out, x.fine
theorem drA_le {code : List Int} (hc : Cod code) (d : Dr) : drA code d ≤ d.out.length := by
  unfold drA
  have := pkV_bound hc d.s (d.out.length + 1)
  split <;> omega
theorem DrOk.step {code : List Int} (hc : Cod code) {n : Nat} (hn : n ≤ 8) {d : Dr} (h : DrOk n d) : DrOk (n + 1) (drStep code d) := by
  obtain ⟨h1, h2, h3, h4⟩ := h
  have hA := drA_le hc d
  have hj : (drS3 code d).j ≤ d.s.j + 3 := by
    have a := pkS_j code d.s (d.out.length + 1)
    have b := pkS_j code (drS1 code d) 3
    have c := pkS_j code (drS2 code d) 3
    unfold drS3
    split
    · unfold drS2 drS1 at *; omega
    · unfold drS2 drS1 at *; omega
  have hm : ∀ x, x ∈ d.out.take (drA code d) ∨ x ∈ d.out.drop (drA code d) → x.fine := by
    rintro x (h | h)
    · exact h4 x (List.mem_of_mem_take h)
    · exact h4 x (List.mem_of_mem_drop h)
  have hlen : (d.out.take (drA code d)).length + (d.out.drop (drA code d)).length = d.out.length := by simp; omega
  unfold drStep
  split
  · refine ⟨by simp only [List.length_append, List.length_cons, List.length_nil]; omega, by simp only; omega, by simp only; omega, fun x hx => ?_⟩
    simp only [List.mem_append, List.mem_cons, List.not_mem_nil, or_false] at hx
    rcases hx with (hx | rfl | rfl) | hx
    · exact hm x (.inl hx)
    · exact ⟨⟨by simp only; omega, by simp only; omega⟩, by simp only; omega, by simp only; omega⟩
    · exact ⟨⟨by simp only; omega, by simp only; omega⟩, by simp only; omega, by simp only; omega⟩
    · exact hm x (.inr hx)
  · refine ⟨by simp only [List.length_append, List.length_cons, List.length_nil]; omega, by simp only; omega, by simp only; omega, fun x hx => ?_⟩
    simp only [List.mem_append, List.mem_cons, List.not_mem_nil, or_false] at hx
    rcases hx with (hx | rfl) | hx
    · exact hm x (.inl hx)
    · exact ⟨⟨by simp only; omega, by simp only; omega⟩, by simp only; omega, by simp only; omega⟩
    · exact hm x (.inr hx)
theorem DrOk.run {code : List Int} (hc : Cod code) : ∀ (k n : Nat) (d : Dr), n + k ≤ 8 → DrOk n d → DrOk (n + k) (drawN code k d)
  | 0, n, d, _, h => h
  | k + 1, n, d, hk, h => by
    have := DrOk.run hc k (n + 1) (drStep code d) (by omega) (h.step hc (by omega))
    rwa [show n + (k + 1) = n + 1 + k by omega]
/-- What is drawn before the last changes. -/
def dr0 (code : List Int) : Dr := drawN code (pkV code ⟨0, 0⟩ 5).toNat ⟨[], 0, pkS code ⟨0, 0⟩ 5⟩
theorem dr0_ok {code : List Int} (hc : Cod code) : DrOk 4 (dr0 code) := by
  have hb := pkV_bound hc ⟨0, 0⟩ 5
  have hj := pkS_j code ⟨0, 0⟩ 5
  have h0 : DrOk (4 - (pkV code ⟨0, 0⟩ 5).toNat) ⟨[], 0, pkS code ⟨0, 0⟩ 5⟩ := ⟨by simp, by simp only; omega, by simp only at hj ⊢; omega, by simp⟩
  have := DrOk.run hc (pkV code ⟨0, 0⟩ 5).toNat _ _ (by omega) h0
  rwa [show 4 - (pkV code ⟨0, 0⟩ 5).toNat + (pkV code ⟨0, 0⟩ 5).toNat = 4 by omega] at this
/-- Two layers change their places. -/
def drSwap (code : List Int) (d : Dr) : Dr :=
  if 1 < d.out.length then
    (if pkV code d.s 4 = 0 then
      ⟨(d.out.set (pkV code (pkS code d.s 4) d.out.length).toNat (d.out.getD (pkV code (pkS code (pkS code d.s 4) d.out.length) d.out.length).toNat default)).set
        (pkV code (pkS code (pkS code d.s 4) d.out.length) d.out.length).toNat (d.out.getD (pkV code (pkS code d.s 4) d.out.length).toNat default), d.face, pkS code (pkS code (pkS code d.s 4) d.out.length) d.out.length⟩
     else ⟨d.out, d.face, pkS code d.s 4⟩)
  else d
/-- One layer ends elsewhere. -/
def drEnd (code : List Int) (d : Dr) : Dr :=
  if 0 < d.out.length then
    (if pkV code d.s 8 = 0 then
      ⟨d.out.set (pkV code (pkS code d.s 8) d.out.length).toNat ⟨(d.out.getD (pkV code (pkS code d.s 8) d.out.length).toNat default).f, pkV code (pkS code (pkS code d.s 8) d.out.length) 5,
        (d.out.getD (pkV code (pkS code d.s 8) d.out.length).toNat default).m⟩, d.face, pkS code (pkS code (pkS code d.s 8) d.out.length) 5⟩
     else ⟨d.out, d.face, pkS code d.s 8⟩)
  else d
def drAll (code : List Int) : Dr := drEnd code (drSwap code (dr0 code))
theorem fine_set {l : List Ly} (h : ∀ x ∈ l, x.fine) (k : Nat) {y : Ly} (hy : y.fine) : ∀ x ∈ l.set k y, x.fine := by
  intro x hx
  rcases List.mem_or_eq_of_mem_set hx with h1 | rfl
  · exact h x h1
  · exact hy
theorem fine_get {l : List Ly} (h : ∀ x ∈ l, x.fine) (k : Nat) : (l.getD k default).fine := by
  rw [List.getD_eq_getElem?_getD]
  cases hq : l[k]? with
  | none => exact ⟨⟨by decide, by decide⟩, by decide, by decide⟩
  | some y => exact h y (List.mem_of_getElem? hq)
theorem drSwap_len (code : List Int) (d : Dr) : (drSwap code d).out.length = d.out.length := by
  unfold drSwap; split
  · split <;> simp
  · rfl
theorem drSwap_fine (code : List Int) {d : Dr} (h : ∀ x ∈ d.out, x.fine) : ∀ x ∈ (drSwap code d).out, x.fine := by
  unfold drSwap; split
  · split
    · exact fine_set (fine_set h _ (fine_get h _)) _ (fine_get h _)
    · exact h
  · exact h
theorem drSwap_j (code : List Int) (d : Dr) : (drSwap code d).s.j ≤ d.s.j + 3 := by
  have a := pkS_j code d.s 4
  have b := pkS_j code (pkS code d.s 4) d.out.length
  have c := pkS_j code (pkS code (pkS code d.s 4) d.out.length) d.out.length
  unfold drSwap; split
  · split
    · simp only; omega
    · simp only; omega
  · omega
theorem drAll_ok {code : List Int} (hc : Cod code) : (drAll code).out.length ≤ 8 ∧ ∀ x ∈ (drAll code).out, x.fine := by
  have h0 := dr0_ok hc
  have l1 := drSwap_len code (dr0 code)
  have f1 := drSwap_fine code h0.fine
  have h8 := h0.len
  unfold drAll drEnd
  generalize drSwap code (dr0 code) = d at l1 f1
  split
  · split
    · refine ⟨by simp; omega, fine_set f1 _ ?_⟩
      exact fine_get f1 _
    · exact ⟨by simp only; omega, f1⟩
  · exact ⟨by omega, f1⟩
end Go.Vai
/- The walk of the drawing of layers. -/
set_option linter.unusedVariables false
set_option linter.unusedSimpArgs false
set_option maxHeartbeats 4000000
namespace Go.Vai
theorem c46 (code : List Int) (hc : Cod code) : PM E 46 [.pt (encS code ⟨0, 0⟩)] [encS code (drAll code).s] [.own 3 ((drAll code).out.map encL)] := by
  have hb := pkV_bound hc ⟨0, 0⟩ 5
  obtain ⟨k0, hk0⟩ : ∃ k0 : Nat, pkV code ⟨0, 0⟩ 5 = k0 := ⟨_, (Int.toNat_of_nonneg hb.1).symm⟩
  have hk4 : k0 ≤ 4 := by omega
  have hj0 := pkS_j code ⟨0, 0⟩ 5
  have hok0 : DrOk (4 - k0) ⟨[], 0, pkS code ⟨0, 0⟩ 5⟩ := ⟨by simp, by simp only; omega, by simp only at hj0 ⊢; omega, by simp⟩
  have hR0 : drawN code k0 ⟨[], 0, pkS code ⟨0, 0⟩ 5⟩ = dr0 code := by unfold dr0; rw [hk0]; rfl
  refine PM_start hE Proofs.Try.func46 rfl rfl Proofs.Try.ntmps46 (by kernel_rfl) (by kernel_rfl) (by simp) (by simp) ?_
  simp (maxSteps := 1000000) (disch := first | (exact DrawOk.mk (by decide +kernel)) | omega | simp) [wrap_i64, le_most, lt_omega, le_omega, ne_omega, allLen]
  refine MutK.of (c82 code hc ⟨0, 0⟩ (by simp) 5 (by omega)) (by simp) (by simp) (by simp) (by simp) (by simp) ?_
  simp (maxSteps := 1000000) (disch := first | (exact DrawOk.mk (by decide +kernel)) | omega | simp) [wrap_i64, le_most, lt_omega, le_omega, ne_omega, allLen, hk0]
  refine XL.by hE (ι := { p : Dr × Nat // drawN code p.2 p.1 = dr0 code ∧ p.2 ≤ 4 ∧ DrOk (4 - p.2) p.1 }) (fun p => if p.1.2 = 0 then
      ⟨[(0, .ptr 700000 0 0), (3, .own 44 0 p.1.1.out.length), (4, .i (.int .i64 p.1.1.face)), (5, .i (.int .i64 (p.1.2 : Nat)))], [(700000, encS code p.1.1.s), (44, ⟨3, p.1.1.out.map encL⟩)]⟩
    else ⟨[(0, .ptr 700000 0 0), (3, .i (.sl (p.1.1.out.map encL))), (4, .i (.int .i64 p.1.1.face)), (5, .i (.int .i64 (p.1.2 : Nat)))], [(700000, encS code p.1.1.s)]⟩)
    (fun p => p.1.2) ⟨(⟨[], 0, pkS code ⟨0, 0⟩ 5⟩, k0), hR0, hk4, hok0⟩ ⟨by by_cases h : k0 = 0 <;> simp [h], by by_cases h : k0 = 0 <;> simp [h], by by_cases h : k0 = 0 <;> simp [h]⟩ (by kernel_rfl) ?_
  rintro ⟨⟨d, k⟩, hR, hk, hok⟩
  dsimp only at hR hk hok
  obtain ⟨l1, f1, j1, g1⟩ := hok
  cases k with
  | zero =>
    have hR' : d = dr0 code := hR
    have eA : drAll code = drEnd code (drSwap code d) := by rw [drAll, hR']
    have hel0 := drSwap_len code d
    have hj0 := drSwap_j code d
    rw [eA]
    simp (maxSteps := 1000000) (disch := first | (exact DrawOk.mk (by decide +kernel)) | omega | simp) [wrap_i64, le_most, lt_omega, le_omega, ne_omega, allLen]
    clear eA hR hR' hR0 hok0
    by_cases w : 1 < d.out.length
    · simp (maxSteps := 1000000) (disch := first | (exact DrawOk.mk (by decide +kernel)) | omega | simp) [wrap_i64, le_most, lt_omega, le_omega, ne_omega, allLen, w]
      refine MutK.of (c87 code hc d.s (by omega) 4 (by omega)) (by simp) (by simp) (by simp) (by simp) (by simp) ?_
      simp (maxSteps := 1000000) (disch := first | (exact DrawOk.mk (by decide +kernel)) | omega | simp) [wrap_i64, le_most, lt_omega, le_omega, ne_omega, allLen]
      by_cases z : pkV code d.s 4 = 0
      · simp (maxSteps := 1000000) (disch := first | (exact DrawOk.mk (by decide +kernel)) | omega | simp) [wrap_i64, le_most, lt_omega, le_omega, ne_omega, allLen, z]
        have ja := pkS_j code d.s 4
        have ia := pkV_bound hc (pkS code d.s 4) d.out.length
        refine MutK.of (c82 code hc (pkS code d.s 4) (by omega) d.out.length (by omega)) (by simp) (by simp) (by simp) (by simp) (by simp) ?_
        obtain ⟨i0, hi0⟩ : ∃ i0 : Nat, pkV code (pkS code d.s 4) d.out.length = i0 := ⟨_, (Int.toNat_of_nonneg ia.1).symm⟩
        have hi0l : i0 < d.out.length := by omega
        have jb0 := pkS_j code (pkS code d.s 4) d.out.length
        simp (maxSteps := 1000000) (disch := first | (exact DrawOk.mk (by decide +kernel)) | omega | simp) [wrap_i64, le_most, lt_omega, le_omega, ne_omega, allLen, hi0]
        have ib0 := pkV_bound hc (pkS code (pkS code d.s 4) d.out.length) d.out.length
        refine MutK.of (c82 code hc (pkS code (pkS code d.s 4) d.out.length) (by omega) d.out.length (by omega)) (by simp) (by simp) (by simp) (by simp) (by simp) ?_
        obtain ⟨i1, hi1⟩ : ∃ i1 : Nat, pkV code (pkS code (pkS code d.s 4) d.out.length) d.out.length = i1 := ⟨_, (Int.toNat_of_nonneg ib0.1).symm⟩
        have hi1l : i1 < d.out.length := by omega
        have es : drSwap code d = ⟨(d.out.set i0 d.out[i1]).set i1 d.out[i0], d.face, pkS code (pkS code (pkS code d.s 4) d.out.length) d.out.length⟩ := by
          unfold drSwap
          rw [if_pos w, if_pos z, hi0, hi1]
          simp [hi0l, hi1l]
        have hset : ((d.out.map encL).set i0 (encL d.out[i1])).set i1 (encL d.out[i0]) = ((d.out.set i0 d.out[i1]).set i1 d.out[i0]).map encL := by simp [List.map_set]
        have hg : ((d.out.map encL).set i0 (encL d.out[i1]))[i1]? = some (encL d.out[i1]) := by
          rw [List.getElem?_set]
          by_cases hii : i0 = i1
          · subst hii; simp [hi0l]
          · simp [hii, hi1l]
        have tk : ∀ x : Ly, List.take 3 (encL x) = encL x := fun _ => rfl
        have dp : ∀ x : Ly, List.drop 3 (encL x) = [] := fun _ => rfl
        simp (maxSteps := 1000000) (disch := first | (exact DrawOk.mk (by decide +kernel)) | omega | simp) [wrap_i64, le_most, lt_omega, le_omega, ne_omega, allLen, hi1, hi0l, hi1l, tk, dp, hg, hset, -List.map_set]
        generalize he : drSwap code d = e at es hel0 hj0
        have hel : e.out.length = d.out.length := hel0
        have ho : ((d.out.set i0 d.out[i1]).set i1 d.out[i0]).map encL = e.out.map encL := by rw [es]
        have hs : pkS code (pkS code (pkS code d.s 4) d.out.length) d.out.length = e.s := by rw [es]
        rw [ho, hs]
        clear es ho hs
        have htk : List.take d.out.length (List.map encL e.out) = List.map encL e.out := by rw [List.take_of_length_le (by simp [hel])]
        by_cases w2 : 0 < d.out.length
        · have w2i : (0 : Int) < (d.out.length : Int) := by omega
          simp (maxSteps := 1000000) (disch := first | (exact DrawOk.mk (by decide +kernel)) | omega | simp) [wrap_i64, le_most, lt_omega, le_omega, ne_omega, allLen, w2]
          refine MutK.of (c87 code hc e.s (by omega) 8 (by omega)) (by simp) (by simp) (by simp) (by simp) (by simp) ?_
          simp (maxSteps := 1000000) (disch := first | (exact DrawOk.mk (by decide +kernel)) | omega | simp) [wrap_i64, le_most, lt_omega, le_omega, ne_omega, allLen]
          by_cases z2 : pkV code e.s 8 = 0
          · simp (maxSteps := 1000000) (disch := first | (exact DrawOk.mk (by decide +kernel)) | omega | simp) [wrap_i64, le_most, lt_omega, le_omega, ne_omega, allLen, z2]
            have jb := pkS_j code e.s 8
            have ib := pkV_bound hc (pkS code e.s 8) d.out.length
            refine MutK.of (c82 code hc (pkS code e.s 8) (by omega) d.out.length (by omega)) (by simp) (by simp) (by simp) (by simp) (by simp) ?_
            obtain ⟨i2, hi2⟩ : ∃ i2 : Nat, pkV code (pkS code e.s 8) d.out.length = i2 := ⟨_, (Int.toNat_of_nonneg ib.1).symm⟩
            have hi2l : i2 < d.out.length := by omega
            have hi2e : i2 < e.out.length := by omega
            have jc := pkS_j code (pkS code e.s 8) d.out.length
            simp (maxSteps := 1000000) (disch := first | (exact DrawOk.mk (by decide +kernel)) | omega | simp) [wrap_i64, le_most, lt_omega, le_omega, ne_omega, allLen, hi2]
            refine MutK.of (c82 code hc (pkS code (pkS code e.s 8) d.out.length) (by omega) 5 (by omega)) (by simp) (by simp) (by simp) (by simp) (by simp) ?_
            have en : drEnd code e = ⟨e.out.set i2 ⟨e.out[i2].f, pkV code (pkS code (pkS code e.s 8) d.out.length) 5, e.out[i2].m⟩, e.face, pkS code (pkS code (pkS code e.s 8) d.out.length) 5⟩ := by
              unfold drEnd
              rw [hel, if_pos w2, if_pos z2, hi2]
              simp [hi2e]
            rw [en]
            simp (maxSteps := 1000000) (disch := first | (exact DrawOk.mk (by decide +kernel)) | omega | simp) [wrap_i64, le_most, lt_omega, le_omega, ne_omega, allLen, hi2l, hi2e, hel, encL]
            exact (List.take_of_length_le (by simp [hel])).symm
          · have en : drEnd code e = ⟨e.out, e.face, pkS code e.s 8⟩ := by
              unfold drEnd
              rw [hel, if_pos w2, if_neg z2]
            rw [en]
            simp (maxSteps := 1000000) (disch := first | (exact DrawOk.mk (by decide +kernel)) | omega | simp) [wrap_i64, le_most, lt_omega, le_omega, ne_omega, allLen, z2, hel, htk]
        · have en : drEnd code e = e := by
            unfold drEnd
            rw [hel, if_neg w2]
          rw [en]
          exfalso; omega
      · have es : drSwap code d = ⟨d.out, d.face, pkS code d.s 4⟩ := by
          unfold drSwap
          rw [if_pos w, if_neg z]
        simp (maxSteps := 1000000) (disch := first | (exact DrawOk.mk (by decide +kernel)) | omega | simp) [wrap_i64, le_most, lt_omega, le_omega, ne_omega, allLen, z]
        generalize he : drSwap code d = e at es hel0 hj0
        have hel : e.out.length = d.out.length := hel0
        have ho : d.out.map encL = e.out.map encL := by rw [es]
        have hs : pkS code d.s 4 = e.s := by rw [es]
        rw [ho, hs]
        clear es ho hs
        have htk : List.take d.out.length (List.map encL e.out) = List.map encL e.out := by rw [List.take_of_length_le (by simp [hel])]
        by_cases w2 : 0 < d.out.length
        · have w2i : (0 : Int) < (d.out.length : Int) := by omega
          simp (maxSteps := 1000000) (disch := first | (exact DrawOk.mk (by decide +kernel)) | omega | simp) [wrap_i64, le_most, lt_omega, le_omega, ne_omega, allLen, w2]
          refine MutK.of (c87 code hc e.s (by omega) 8 (by omega)) (by simp) (by simp) (by simp) (by simp) (by simp) ?_
          simp (maxSteps := 1000000) (disch := first | (exact DrawOk.mk (by decide +kernel)) | omega | simp) [wrap_i64, le_most, lt_omega, le_omega, ne_omega, allLen]
          by_cases z2 : pkV code e.s 8 = 0
          · simp (maxSteps := 1000000) (disch := first | (exact DrawOk.mk (by decide +kernel)) | omega | simp) [wrap_i64, le_most, lt_omega, le_omega, ne_omega, allLen, z2]
            have jb := pkS_j code e.s 8
            have ib := pkV_bound hc (pkS code e.s 8) d.out.length
            refine MutK.of (c82 code hc (pkS code e.s 8) (by omega) d.out.length (by omega)) (by simp) (by simp) (by simp) (by simp) (by simp) ?_
            obtain ⟨i2, hi2⟩ : ∃ i2 : Nat, pkV code (pkS code e.s 8) d.out.length = i2 := ⟨_, (Int.toNat_of_nonneg ib.1).symm⟩
            have hi2l : i2 < d.out.length := by omega
            have hi2e : i2 < e.out.length := by omega
            have jc := pkS_j code (pkS code e.s 8) d.out.length
            simp (maxSteps := 1000000) (disch := first | (exact DrawOk.mk (by decide +kernel)) | omega | simp) [wrap_i64, le_most, lt_omega, le_omega, ne_omega, allLen, hi2]
            refine MutK.of (c82 code hc (pkS code (pkS code e.s 8) d.out.length) (by omega) 5 (by omega)) (by simp) (by simp) (by simp) (by simp) (by simp) ?_
            have en : drEnd code e = ⟨e.out.set i2 ⟨e.out[i2].f, pkV code (pkS code (pkS code e.s 8) d.out.length) 5, e.out[i2].m⟩, e.face, pkS code (pkS code (pkS code e.s 8) d.out.length) 5⟩ := by
              unfold drEnd
              rw [hel, if_pos w2, if_pos z2, hi2]
              simp [hi2e]
            rw [en]
            simp (maxSteps := 1000000) (disch := first | (exact DrawOk.mk (by decide +kernel)) | omega | simp) [wrap_i64, le_most, lt_omega, le_omega, ne_omega, allLen, hi2l, hi2e, hel, encL]
            exact (List.take_of_length_le (by simp [hel])).symm
          · have en : drEnd code e = ⟨e.out, e.face, pkS code e.s 8⟩ := by
              unfold drEnd
              rw [hel, if_pos w2, if_neg z2]
            rw [en]
            simp (maxSteps := 1000000) (disch := first | (exact DrawOk.mk (by decide +kernel)) | omega | simp) [wrap_i64, le_most, lt_omega, le_omega, ne_omega, allLen, z2, hel, htk]
        · have en : drEnd code e = e := by
            unfold drEnd
            rw [hel, if_neg w2]
          rw [en]
          exfalso; omega
    · have es : drSwap code d = d := by
        unfold drSwap
        rw [if_neg w]
      have wi : ¬ (1 : Int) < (d.out.length : Int) := by omega
      rw [es]
      simp (maxSteps := 1000000) (disch := first | (exact DrawOk.mk (by decide +kernel)) | omega | simp) [wrap_i64, le_most, lt_omega, le_omega, ne_omega, allLen, wi]
      have hel : d.out.length = d.out.length := rfl
      have htk : List.take d.out.length (List.map encL d.out) = List.map encL d.out := by rw [List.take_of_length_le (by simp)]
      by_cases w2 : 0 < d.out.length
      · have w2i : (0 : Int) < (d.out.length : Int) := by omega
        simp (maxSteps := 1000000) (disch := first | (exact DrawOk.mk (by decide +kernel)) | omega | simp) [wrap_i64, le_most, lt_omega, le_omega, ne_omega, allLen, w2]
        refine MutK.of (c87 code hc d.s (by omega) 8 (by omega)) (by simp) (by simp) (by simp) (by simp) (by simp) ?_
        simp (maxSteps := 1000000) (disch := first | (exact DrawOk.mk (by decide +kernel)) | omega | simp) [wrap_i64, le_most, lt_omega, le_omega, ne_omega, allLen]
        by_cases z2 : pkV code d.s 8 = 0
        · simp (maxSteps := 1000000) (disch := first | (exact DrawOk.mk (by decide +kernel)) | omega | simp) [wrap_i64, le_most, lt_omega, le_omega, ne_omega, allLen, z2]
          have jb := pkS_j code d.s 8
          have ib := pkV_bound hc (pkS code d.s 8) d.out.length
          refine MutK.of (c82 code hc (pkS code d.s 8) (by omega) d.out.length (by omega)) (by simp) (by simp) (by simp) (by simp) (by simp) ?_
          obtain ⟨i2, hi2⟩ : ∃ i2 : Nat, pkV code (pkS code d.s 8) d.out.length = i2 := ⟨_, (Int.toNat_of_nonneg ib.1).symm⟩
          have hi2l : i2 < d.out.length := by omega
          have hi2e : i2 < d.out.length := by omega
          have jc := pkS_j code (pkS code d.s 8) d.out.length
          simp (maxSteps := 1000000) (disch := first | (exact DrawOk.mk (by decide +kernel)) | omega | simp) [wrap_i64, le_most, lt_omega, le_omega, ne_omega, allLen, hi2]
          refine MutK.of (c82 code hc (pkS code (pkS code d.s 8) d.out.length) (by omega) 5 (by omega)) (by simp) (by simp) (by simp) (by simp) (by simp) ?_
          have en : drEnd code d = ⟨d.out.set i2 ⟨d.out[i2].f, pkV code (pkS code (pkS code d.s 8) d.out.length) 5, d.out[i2].m⟩, d.face, pkS code (pkS code (pkS code d.s 8) d.out.length) 5⟩ := by
            unfold drEnd
            rw [if_pos w2, if_pos z2, hi2]
            simp [hi2e]
          rw [en]
          simp (maxSteps := 1000000) (disch := first | (exact DrawOk.mk (by decide +kernel)) | omega | simp) [wrap_i64, le_most, lt_omega, le_omega, ne_omega, allLen, hi2l, hi2e, hel, encL]
          exact (List.take_of_length_le (by simp)).symm
        · have en : drEnd code d = ⟨d.out, d.face, pkS code d.s 8⟩ := by
            unfold drEnd
            rw [if_pos w2, if_neg z2]
          rw [en]
          simp (maxSteps := 1000000) (disch := first | (exact DrawOk.mk (by decide +kernel)) | omega | simp) [wrap_i64, le_most, lt_omega, le_omega, ne_omega, allLen, z2, hel, htk]
      · have w2i : (0 < d.out.length) = False := eq_false w2
        have en : drEnd code d = d := by
          unfold drEnd
          rw [if_neg w2]
        rw [en]
        simp (maxSteps := 1000000) (disch := first | (exact DrawOk.mk (by decide +kernel)) | omega | simp) [wrap_i64, le_most, lt_omega, le_omega, ne_omega, allLen, w2i, htk]
  | succ k =>
    have hst := DrOk.step hc (n := 4 - (k + 1)) (by omega) ⟨l1, f1, j1, g1⟩
    rw [show 4 - (k + 1) + 1 = 4 - k by omega] at hst
    have hR2 : drawN code k (drStep code d) = dr0 code := hR
    have b0 := pkV_bound hc d.s (d.out.length + 1)
    have jj1 := pkS_j code d.s (d.out.length + 1)
    simp (maxSteps := 1000000) (disch := first | (exact DrawOk.mk (by decide +kernel)) | omega | simp) [wrap_i64, le_most, lt_omega, le_omega, ne_omega, allLen]
    refine MutK.of (c82 code hc d.s (by omega) (d.out.length + 1) (by omega)) (by simp) (by simp) (by simp) (by simp) (by simp) ?_
    obtain ⟨a, ha⟩ : ∃ a : Nat, pkV code d.s (d.out.length + 1) = a := ⟨_, (Int.toNat_of_nonneg b0.1).symm⟩
    have hal : a ≤ d.out.length := by omega
    have ht := eq_true (show ∀ x : List IV, x ∈ List.take a (List.map encL d.out) → x.length = 3 from fun x hx => by
      obtain ⟨y, -, rfl⟩ := List.mem_map.1 (List.mem_of_mem_take hx); rfl)
    have hd := eq_true (show ∀ x : List IV, x ∈ List.drop a (List.map encL d.out) → x.length = 3 from fun x hx => by
      obtain ⟨y, -, rfl⟩ := List.mem_map.1 (List.mem_of_mem_drop hx); rfl)
    have htd : List.take (d.out.length - a) (List.drop a (List.map encL d.out)) = List.drop a (List.map encL d.out) := List.take_of_length_le (by simp)
    have htt : List.take a (List.take a (List.map encL d.out)) = List.take a (List.map encL d.out) := by rw [List.take_take, Nat.min_self]
    have hlt : (List.take a (List.map encL d.out)).length = a := by simp; omega
    have ht1 : ∀ z : List IV, List.take (a + 1) (List.take a (List.map encL d.out) ++ [z]) = List.take a (List.map encL d.out) ++ [z] := fun z => List.take_of_length_le (by rw [List.length_append, hlt]; simp)
    have ht2 : ∀ y z : List IV, List.take (a + 2) (List.take a (List.map encL d.out) ++ [y, z]) = List.take a (List.map encL d.out) ++ [y, z] := fun y z => List.take_of_length_le (by rw [List.length_append, hlt]; simp)
    generalize h1 : pkS code d.s (d.out.length + 1) = s1 at jj1
    have hS1 : drS1 code d = s1 := h1
    have b1 := pkV_bound hc s1 3
    have jj2 := pkS_j code s1 3
    simp (maxSteps := 1000000) (disch := first | (exact DrawOk.mk (by decide +kernel)) | omega | simp) [wrap_i64, le_most, lt_omega, le_omega, ne_omega, allLen, ha]
    refine MutK.of (c82 code hc s1 (by omega) 3 (by omega)) (by simp) (by simp) (by simp) (by simp) (by simp) ?_
    obtain ⟨p, hp⟩ : ∃ p : Nat, pkV code s1 3 = p := ⟨_, (Int.toNat_of_nonneg b1.1).symm⟩
    have hE : drE code d = 1 + p := by unfold drE; rw [hS1, hp]
    generalize h2 : pkS code s1 3 = s2 at jj2
    have hS2 : drS2 code d = s2 := by unfold drS2; rw [hS1, h2]
    have jj3 := pkS_j code s2 3
    have hp3 : p = 0 ∨ p = 1 ∨ p = 2 := by omega
    rcases hp3 with rfl | rfl | rfl
    · have he : drE code d = 1 := hE
      simp (maxSteps := 1000000) (disch := first | (exact DrawOk.mk (by decide +kernel)) | omega | simp) [wrap_i64, le_most, lt_omega, le_omega, ne_omega, allLen, hp]
      refine MutK.of (c82 code hc s2 (by omega) 3 (by omega)) (by simp) (by simp) (by simp) (by simp) (by simp) ?_
      have hS3 : drS3 code d = pkS code s2 3 := by unfold drS3; rw [if_pos he, hS2]
      by_cases hq : 0 < pkV code s2 3
      · have eA : drA code d = 0 := by unfold drA; rw [hS2, if_pos ⟨he, hq⟩]
        have est : drStep code d = ⟨⟨d.face, 1, 0⟩ :: d.out, d.face + 1, pkS code s2 3⟩ := by
          unfold drStep
          rw [if_neg (by rw [he]; decide), eA, hS3, he]; simp
        rw [est] at hst hR2
        simp (maxSteps := 1000000) (disch := first | (exact DrawOk.mk (by decide +kernel)) | omega | simp) [wrap_i64, le_most, lt_omega, le_omega, ne_omega, allLen, hq, encL]
        by_cases hk0 : k = 0
        · (refine ⟨⟨(⟨⟨d.face, 1, 0⟩ :: d.out, d.face + 1, pkS code s2 3⟩, k), hR2, (show k ≤ 4 by omega), hst⟩, by (simp; try omega), ?_⟩; constructor <;> (simp (maxSteps := 1000000) (disch := first | (exact DrawOk.mk (by decide +kernel)) | omega | simp) [wrap_i64, le_most, lt_omega, le_omega, ne_omega, allLen, hk0, encL, hal]) <;> (try omega))
        · (refine ⟨⟨(⟨⟨d.face, 1, 0⟩ :: d.out, d.face + 1, pkS code s2 3⟩, k), hR2, (show k ≤ 4 by omega), hst⟩, by (simp; try omega), ?_⟩; constructor <;> (simp (maxSteps := 1000000) (disch := first | (exact DrawOk.mk (by decide +kernel)) | omega | simp) [wrap_i64, le_most, lt_omega, le_omega, ne_omega, allLen, hk0, encL, hal]) <;> (try omega))
          all_goals exact List.take_of_length_le (by first | (simp; omega) | (rw [List.length_append, hlt]; simp; omega))
      · have eA : drA code d = a := by
          unfold drA
          rw [hS2, if_neg (fun u => hq u.2), ha]; simp
        have est : drStep code d = ⟨d.out.take a ++ [⟨d.face, 1, 0⟩] ++ d.out.drop a, d.face + 1, pkS code s2 3⟩ := by
          unfold drStep
          rw [if_neg (by rw [he]; decide), eA, hS3, he]
        rw [est] at hst hR2
        simp (maxSteps := 1000000) (disch := first | (exact DrawOk.mk (by decide +kernel)) | omega | simp) [wrap_i64, le_most, lt_omega, le_omega, ne_omega, allLen, hq, hal, encL, ht, hd, htd, htt, ht1, ht2]
        by_cases hk0 : k = 0
        · (refine ⟨⟨(⟨d.out.take a ++ [⟨d.face, 1, 0⟩] ++ d.out.drop a, d.face + 1, pkS code s2 3⟩, k), hR2, (show k ≤ 4 by omega), hst⟩, by (simp; try omega), ?_⟩; constructor <;> (simp (maxSteps := 1000000) (disch := first | (exact DrawOk.mk (by decide +kernel)) | omega | simp) [wrap_i64, le_most, lt_omega, le_omega, ne_omega, allLen, hk0, encL, hal]) <;> (try omega))
        · (refine ⟨⟨(⟨d.out.take a ++ [⟨d.face, 1, 0⟩] ++ d.out.drop a, d.face + 1, pkS code s2 3⟩, k), hR2, (show k ≤ 4 by omega), hst⟩, by (simp; try omega), ?_⟩; constructor <;> (simp (maxSteps := 1000000) (disch := first | (exact DrawOk.mk (by decide +kernel)) | omega | simp) [wrap_i64, le_most, lt_omega, le_omega, ne_omega, allLen, hk0, encL, hal]) <;> (try omega))
          all_goals exact List.take_of_length_le (by first | (simp; omega) | (rw [List.length_append, hlt]; simp; omega))
    · have he : drE code d = 2 := hE
      have hS3 : drS3 code d = s2 := by unfold drS3; rw [if_neg (by rw [he]; decide), hS2]
      have eA : drA code d = a := by
        unfold drA
        rw [he, if_neg (fun u => absurd u.1 (by decide)), ha]; simp
      have est : drStep code d = ⟨d.out.take a ++ [⟨d.face, 2, 0⟩] ++ d.out.drop a, d.face + 1, s2⟩ := by
        unfold drStep
        rw [if_neg (by rw [he]; decide), eA, hS3, he]
      rw [est] at hst hR2
      simp (maxSteps := 1000000) (disch := first | (exact DrawOk.mk (by decide +kernel)) | omega | simp) [wrap_i64, le_most, lt_omega, le_omega, ne_omega, allLen, hp, hal, encL, ht, hd, htd, htt, ht1, ht2]
      by_cases hk0 : k = 0
      · (refine ⟨⟨(⟨d.out.take a ++ [⟨d.face, 2, 0⟩] ++ d.out.drop a, d.face + 1, s2⟩, k), hR2, (show k ≤ 4 by omega), hst⟩, by (simp; try omega), ?_⟩; constructor <;> (simp (maxSteps := 1000000) (disch := first | (exact DrawOk.mk (by decide +kernel)) | omega | simp) [wrap_i64, le_most, lt_omega, le_omega, ne_omega, allLen, hk0, encL, hal]) <;> (try omega))
      · (refine ⟨⟨(⟨d.out.take a ++ [⟨d.face, 2, 0⟩] ++ d.out.drop a, d.face + 1, s2⟩, k), hR2, (show k ≤ 4 by omega), hst⟩, by (simp; try omega), ?_⟩; constructor <;> (simp (maxSteps := 1000000) (disch := first | (exact DrawOk.mk (by decide +kernel)) | omega | simp) [wrap_i64, le_most, lt_omega, le_omega, ne_omega, allLen, hk0, encL, hal]) <;> (try omega))
        all_goals exact List.take_of_length_le (by first | (simp; omega) | (rw [List.length_append, hlt]; simp; omega))
    · have he : drE code d = 3 := hE
      have hS3 : drS3 code d = s2 := by unfold drS3; rw [if_neg (by rw [he]; decide), hS2]
      have eA : drA code d = a := by
        unfold drA
        rw [he, if_neg (fun u => absurd u.1 (by decide)), ha]; simp
      have est : drStep code d = ⟨d.out.take a ++ [⟨d.face, 3, d.face + 1⟩, ⟨d.face + 1, 3, d.face⟩] ++ d.out.drop a, d.face + 1 + 1, s2⟩ := by
        unfold drStep
        rw [if_pos he, eA, hS3]
      rw [est] at hst hR2
      simp (maxSteps := 1000000) (disch := first | (exact DrawOk.mk (by decide +kernel)) | omega | simp) [wrap_i64, le_most, lt_omega, le_omega, ne_omega, allLen, hp, hal, encL, ht, hd, htd, htt, ht1, ht2]
      by_cases hk0 : k = 0
      · (refine ⟨⟨(⟨d.out.take a ++ [⟨d.face, 3, d.face + 1⟩, ⟨d.face + 1, 3, d.face⟩] ++ d.out.drop a, d.face + 1 + 1, s2⟩, k), hR2, (show k ≤ 4 by omega), hst⟩, by (simp; try omega), ?_⟩; constructor <;> (simp (maxSteps := 1000000) (disch := first | (exact DrawOk.mk (by decide +kernel)) | omega | simp) [wrap_i64, le_most, lt_omega, le_omega, ne_omega, allLen, hk0, encL, hal]) <;> (try omega))
      · (refine ⟨⟨(⟨d.out.take a ++ [⟨d.face, 3, d.face + 1⟩, ⟨d.face + 1, 3, d.face⟩] ++ d.out.drop a, d.face + 1 + 1, s2⟩, k), hR2, (show k ≤ 4 by omega), hst⟩, by (simp; try omega), ?_⟩; constructor <;> (simp (maxSteps := 1000000) (disch := first | (exact DrawOk.mk (by decide +kernel)) | omega | simp) [wrap_i64, le_most, lt_omega, le_omega, ne_omega, allLen, hk0, encL, hal]) <;> (try omega))
        all_goals exact List.take_of_length_le (by first | (simp; omega) | (rw [List.length_append, hlt]; simp; omega))
end Go.Vai
/- Stacks on one another, and a joint around a stack. -/
set_option linter.unusedVariables false
set_option linter.unusedSimpArgs false
set_option maxHeartbeats 4000000
namespace Go.Vai
theorem mstep_from (o : List Ly) (m : Nat) (k : Bool) (x : Ly) : mstep ⟨o, m, k⟩ x = ⟨(mstep ⟨o, 0, true⟩ x).op, max m (mstep ⟨o, 0, true⟩ x).most, k && (mstep ⟨o, 0, true⟩ x).ok⟩ := by
  unfold mstep
  split
  · simp
  · split
    · simp
    · split
      · simp
      · simp
theorem mfold_from : ∀ (ls : List Ly) (o : List Ly) (m : Nat) (k : Bool), ls.foldl mstep ⟨o, m, k⟩ = ⟨(ls.foldl mstep ⟨o, 0, true⟩).op, max m (ls.foldl mstep ⟨o, 0, true⟩).most, k && (ls.foldl mstep ⟨o, 0, true⟩).ok⟩
  | [], o, m, k => by simp
  | x :: ls, o, m, k => by
    simp only [List.foldl_cons]
    rw [mstep_from o m k x, mfold_from ls]
    have e : ls.foldl mstep (mstep ⟨o, 0, true⟩ x) = ls.foldl mstep ⟨(mstep ⟨o, 0, true⟩ x).op, (mstep ⟨o, 0, true⟩ x).most, (mstep ⟨o, 0, true⟩ x).ok⟩ := rfl
    rw [e, mfold_from ls (mstep ⟨o, 0, true⟩ x).op (mstep ⟨o, 0, true⟩ x).most]
    simp only [Nat.max_assoc, Bool.and_assoc]
theorem mrun_append {a : List Ly} (b : List Ly) (h : (mrun a).op = []) : mrun (a ++ b) = ⟨(mrun b).op, max (mrun a).most (mrun b).most, (mrun a).ok && (mrun b).ok⟩ := by
  have e : mrun (a ++ b) = b.foldl mstep ⟨(mrun a).op, (mrun a).most, (mrun a).ok⟩ := by
    rw [mrun, List.foldl_append]; rfl
  rw [e, h, mfold_from]; rfl
def topL : Ly := ⟨1000, 3, 1001⟩
def botL : Ly := ⟨1001, 3, 1000⟩
/-- A step over a layer that stays below. -/
theorem mstep_over (o : List Ly) (x : Ly) (hx : x.fine) :
    (mstep ⟨topL :: o, 0, true⟩ x).op = topL :: (mstep ⟨o, 0, true⟩ x).op ∧ (mstep ⟨topL :: o, 0, true⟩ x).most = (mstep ⟨o, 0, true⟩ x).most + 1 ∧
      ((mstep ⟨o, 0, true⟩ x).ok = true → (mstep ⟨topL :: o, 0, true⟩ x).ok = !decide (x.e = 1)) := by
  obtain ⟨⟨h1, h2⟩, h3, h4⟩ := hx
  have hp : push (topL :: o) x = topL :: push o x := by
    rcases List.eq_nil_or_concat o with rfl | ⟨t, y, rfl⟩
    · have : ¬ (topL.f = x.m ∧ topL.m = x.f) := by
        simp only [topL]; omega
      simp [push, this]
    · simp only [push]
      have e1 : (topL :: (t ++ [y])).getLast? = some y := by
        rw [← List.cons_append, List.getLast?_append]; simp
      have e2 : (t ++ [y]).getLast? = some y := by simp
      simp only [List.concat_eq_append, e1, e2]
      split
      · rw [← List.cons_append, List.dropLast_concat, List.dropLast_concat]
      · simp
  unfold mstep
  by_cases c1 : x.e = 1
  · simp [c1]
  · by_cases c2 : x.e = 2
    · simp [c2]
    · by_cases c3 : x.e = 3
      · simp [c3, hp]
      · simp [c1, c2, c3]
theorem mfold_over : ∀ (ls : List Ly) (o : List Ly), (∀ x ∈ ls, x.fine) → ls ≠ [] →
    (ls.foldl mstep ⟨topL :: o, 0, true⟩).op = topL :: (ls.foldl mstep ⟨o, 0, true⟩).op ∧ (ls.foldl mstep ⟨topL :: o, 0, true⟩).most = (ls.foldl mstep ⟨o, 0, true⟩).most + 1 ∧
      ((ls.foldl mstep ⟨o, 0, true⟩).ok = true → (ls.foldl mstep ⟨topL :: o, 0, true⟩).ok = !ls.any fun x => decide (x.e = 1))
  | [x], o, hf, _ => by
    obtain ⟨h1, h2, h3⟩ := mstep_over o x (hf x (by simp))
    exact ⟨h1, h2, fun h => by simpa using h3 h⟩
  | x :: y :: ls, o, hf, _ => by
    obtain ⟨h1, h2, h3⟩ := mstep_over o x (hf x (by simp))
    have ih := mfold_over (y :: ls) (mstep ⟨o, 0, true⟩ x).op (fun z hz => hf z (List.mem_cons_of_mem _ hz)) (by simp)
    rw [show (x :: y :: ls).foldl mstep ⟨topL :: o, 0, true⟩ = (y :: ls).foldl mstep (mstep ⟨topL :: o, 0, true⟩ x) from rfl, show (x :: y :: ls).foldl mstep ⟨o, 0, true⟩ = (y :: ls).foldl mstep (mstep ⟨o, 0, true⟩ x) from rfl]
    have e1 : (y :: ls).foldl mstep (mstep ⟨topL :: o, 0, true⟩ x) = (y :: ls).foldl mstep ⟨(mstep ⟨topL :: o, 0, true⟩ x).op, (mstep ⟨topL :: o, 0, true⟩ x).most, (mstep ⟨topL :: o, 0, true⟩ x).ok⟩ := rfl
    have e2 : (y :: ls).foldl mstep (mstep ⟨o, 0, true⟩ x) = (y :: ls).foldl mstep ⟨(mstep ⟨o, 0, true⟩ x).op, (mstep ⟨o, 0, true⟩ x).most, (mstep ⟨o, 0, true⟩ x).ok⟩ := rfl
    rw [e1, e2, mfold_from, mfold_from (y :: ls) (mstep ⟨o, 0, true⟩ x).op, h1, h2]
    obtain ⟨i1, i2, i3⟩ := ih
    refine ⟨i1, by simp only [i2]; omega, fun h => ?_⟩
    simp only [Bool.and_eq_true] at h
    simp only [h3 h.1, i3 h.2, List.any_cons, Bool.not_or]
/-- A joint around a stack that is accepted. -/
theorem mrun_around {a : List Ly} (hf : ∀ x ∈ a, x.fine) (h1 : (mrun a).op = []) (h2 : (mrun a).ok = true) :
    mrun (topL :: a ++ [botL]) = ⟨[], (mrun a).most + 1, !a.any fun x => decide (x.e = 1)⟩ := by
  have e : mrun (topL :: a ++ [botL]) = mstep (a.foldl mstep ⟨[topL], 1, true⟩) botL := by
    simp only [mrun, List.cons_append, List.foldl_cons, List.foldl_append, List.foldl_nil]; rfl
  rw [e]
  by_cases ha : a = []
  · subst ha; rfl
  · have ho := mfold_over a [] hf ha
    change _ ∧ _ = (mrun a).most + 1 ∧ _ at ho
    obtain ⟨i1, i2, i3⟩ := ho
    rw [show (a.foldl mstep ⟨[], 0, true⟩) = mrun a from rfl] at i1 i3
    rw [mfold_from, i1, i2, i3 h2, h1]
    have hb : push [topL] botL = [] := by decide
    simp only [mstep, botL]
    simp only [show ((3 : Int) = 1) = False by decide, show ((3 : Int) = 2) = False by decide, if_false, if_true]
    rw [show push [topL] ⟨1001, 3, 1000⟩ = [] from hb]
    simp
end Go.Vai
/- The law of brackets. -/
set_option linter.unusedVariables false
set_option linter.unusedSimpArgs false
set_option maxHeartbeats 4000000
namespace Go.Vai
theorem c11 (code : List Int) (hc : Cod code) : PC E 11 [.i (.sl (code.map encB))] [.own 3 ((drAll code).out.map encL)] := by
  have p := c46 code hc
  have e : encS code ⟨0, 0⟩ = ⟨3, [[.sl (code.map encB), .int .i64 0, .int .u64 0]]⟩ := rfl
  rw [e] at p
  refine PC_start hE Proofs.Try.func11 rfl rfl Proofs.Try.ntmps11 (by kernel_rfl) (by kernel_rfl) (by simp) ?_
  simp (maxSteps := 1000000) (disch := first | (exact DrawOk.mk (by decide +kernel)) | omega | simp) [wrap_i64, le_most, lt_omega, le_omega, ne_omega, allLen]
  refine CallK.of (c47 code) (by first | exact .inl rfl | exact .inr (by simp)) (by simp) ?_
  simp (maxSteps := 1000000) (disch := first | (exact DrawOk.mk (by decide +kernel)) | omega | simp) [wrap_i64, le_most, lt_omega, le_omega, ne_omega, allLen]
  refine MutK.of (p) (by simp) (by simp) (by simp) (by simp) (by simp) ?_
  simp (maxSteps := 1000000) (disch := first | (exact DrawOk.mk (by decide +kernel)) | omega | simp) [wrap_i64, le_most, lt_omega, le_omega, ne_omega, allLen]
theorem c10 (a b : List Int) : PC E 10 [.i (.sl (a.map encB)), .i (.sl (b.map encB))] [.i (.bool (decide (3000 < (a.length : Int)) || decide (3000 < (b.length : Int))))] := by
  refine PC_start hE Proofs.Try.func10 rfl rfl Proofs.Try.ntmps10 (by kernel_rfl) (by kernel_rfl) (by simp) ?_
  simp (maxSteps := 1000000) (disch := first | (exact DrawOk.mk (by decide +kernel)) | omega | simp) [wrap_i64, le_most, lt_omega, le_omega, ne_omega, allLen]
  (first | refine Gd.dec (fun h1 => ?_) (fun h1 => ?_) | refine Gd.intro (fun h1 => ?_) (fun h1 => ?_)) <;> simp (maxSteps := 1000000) (disch := first | (exact DrawOk.mk (by decide +kernel)) | omega | simp) [wrap_i64, le_most, lt_omega, le_omega, ne_omega, allLen, h1]
def okL (a : List Ly) : Bool := (mrun a).ok && decide ((mrun a).op.length = 0)
theorem okL_op {a : List Ly} (h : okL a = true) : (mrun a).ok = true ∧ (mrun a).op = [] := by
  simpa [okL] using h
theorem c3 (code more : List Int) (h1 : ∀ b ∈ code, 0 ≤ b ∧ b ≤ 255) (h2 : ∀ b ∈ more, 0 ≤ b ∧ b ≤ 255) : PC E 3 [.i (.sl (code.map encB)), .i (.sl (more.map encB))] [.i (.bool true)] := by
  refine PC_start hE Proofs.Try.func3 rfl rfl Proofs.Try.ntmps3 (by kernel_rfl) (by kernel_rfl) (by simp) ?_
  simp (maxSteps := 1000000) (disch := first | (exact DrawOk.mk (by decide +kernel)) | omega | simp) [wrap_i64, le_most, lt_omega, le_omega, ne_omega, allLen]
  refine CallK.of (c10 code more) (by first | exact .inl rfl | exact .inr (by simp)) (by simp) ?_
  by_cases g1 : 3000 < (code.length : Int)
  · simp (maxSteps := 1000000) (disch := first | (exact DrawOk.mk (by decide +kernel)) | omega | simp) [wrap_i64, le_most, lt_omega, le_omega, ne_omega, allLen, g1]
  by_cases g2 : 3000 < (more.length : Int)
  · simp (maxSteps := 1000000) (disch := first | (exact DrawOk.mk (by decide +kernel)) | omega | simp) [wrap_i64, le_most, lt_omega, le_omega, ne_omega, allLen, g1, g2]
  have hc : Cod code := ⟨by omega, h1⟩
  have hm : Cod more := ⟨by omega, h2⟩
  simp (maxSteps := 1000000) (disch := first | (exact DrawOk.mk (by decide +kernel)) | omega | simp) [wrap_i64, le_most, lt_omega, le_omega, ne_omega, allLen, g1, g2]
  refine CallK.of (c11 code hc) (by first | exact .inl rfl | exact .inr (by simp)) (by simp) ?_
  simp (maxSteps := 1000000) (disch := first | (exact DrawOk.mk (by decide +kernel)) | omega | simp) [wrap_i64, le_most, lt_omega, le_omega, ne_omega, allLen]
  refine CallK.of (c11 more hm) (by first | exact .inl rfl | exact .inr (by simp)) (by simp) ?_
  obtain ⟨la, fa⟩ := drAll_ok hc
  obtain ⟨lb, fb⟩ := drAll_ok hm
  generalize (drAll code).out = a at la fa
  generalize (drAll more).out = b at lb fb
  have ba : PC E 12 [.i (.sl (a.map encL))] [.i (.bool (okL a))] := c12 a (by omega)
  have bb : PC E 12 [.i (.sl (b.map encL))] [.i (.bool (okL b))] := c12 b (by omega)
  have sa : PC E 13 [.i (.sl (a.map encL))] [.i (.bool (okL a))] := c13 a (by omega)
  have sb : PC E 13 [.i (.sl (b.map encL))] [.i (.bool (okL b))] := c13 b (by omega)
  have ta : List.take a.length (a.map encL) = a.map encL := List.take_of_length_le (by simp)
  have tb : List.take b.length (b.map encL) = b.map encL := List.take_of_length_le (by simp)
  simp (maxSteps := 1000000) (disch := first | (exact DrawOk.mk (by decide +kernel)) | omega | simp) [wrap_i64, le_most, lt_omega, le_omega, ne_omega, allLen, ta, tb]
  refine CallK.of (ba) (by first | exact .inl rfl | exact .inr (by simp)) (by simp) ?_
  by_cases qa : okL a = true
  · simp (maxSteps := 1000000) (disch := first | (exact DrawOk.mk (by decide +kernel)) | omega | simp) [wrap_i64, le_most, lt_omega, le_omega, ne_omega, allLen, qa, ta, tb]
    refine CallK.of (bb) (by first | exact .inl rfl | exact .inr (by simp)) (by simp) ?_
    by_cases qb : okL b = true
    · obtain ⟨ka, oa⟩ := okL_op qa
      obtain ⟨kb, ob⟩ := okL_op qb
      have mab := mrun_append (a := a) b oa
      have maro := mrun_around fa oa ka
      have bab : PC E 12 [.i (.sl (a.map encL ++ b.map encL))] [.i (.bool true)] := by
        have := c12 (a ++ b) (by simp; omega)
        rw [mab, ka, kb, ob] at this
        simpa using this
      have dab : PC E 14 [.i (.sl (a.map encL ++ b.map encL))] [.i (.int .i64 (max (mrun a).most (mrun b).most : Nat))] := by
        have := c14 (a ++ b) (by simp; omega)
        rw [mab] at this
        simpa using this
      have da := c14 a (by omega)
      have db := c14 b (by omega)
      have tab : List.take (a.length + b.length) (a.map encL ++ b.map encL) = a.map encL ++ b.map encL := List.take_of_length_le (by simp)
      have bar : PC E 12 [.i (.sl ([.int .i64 1000, .int .i64 3, .int .i64 1001] :: (a.map encL ++ [[.int .i64 1001, .int .i64 3, .int .i64 1000]])))] [.i (.bool (!a.any fun x => decide (x.e = 1)))] := by
        have := c12 (topL :: a ++ [botL]) (by simp; omega)
        rw [maro] at this
        simpa [encL, topL, botL] using this
      have dar : PC E 14 [.i (.sl ([.int .i64 1000, .int .i64 3, .int .i64 1001] :: (a.map encL ++ [[.int .i64 1001, .int .i64 3, .int .i64 1000]])))] [.i (.int .i64 (((mrun a).most : Int) + 1))] := by
        have := c14 (topL :: a ++ [botL]) (by simp; omega)
        rw [maro] at this
        simpa [encL, topL, botL] using this
      have lma := (mrun_len a a.length (Nat.le_refl _)).2
      rw [List.take_length] at lma
      simp (maxSteps := 1000000) (disch := first | (exact DrawOk.mk (by decide +kernel)) | omega | simp) [wrap_i64, le_most, lt_omega, le_omega, ne_omega, allLen, qb, ta, tb, tab]
      refine CallK.of (bab) (by first | exact .inl rfl | exact .inr (by simp)) (by simp) ?_
      simp (maxSteps := 1000000) (disch := first | (exact DrawOk.mk (by decide +kernel)) | omega | simp) [wrap_i64, le_most, lt_omega, le_omega, ne_omega, allLen, ta, tb, tab]
      refine CallK.of (da) (by first | exact .inl rfl | exact .inr (by simp)) (by simp) ?_
      simp (maxSteps := 1000000) (disch := first | (exact DrawOk.mk (by decide +kernel)) | omega | simp) [wrap_i64, le_most, lt_omega, le_omega, ne_omega, allLen, ta, tb, tab]
      refine CallK.of (db) (by first | exact .inl rfl | exact .inr (by simp)) (by simp) ?_
      clear mab maro h1 h2 sa sb ba bb
      by_cases c : (mrun a).most < (mrun b).most
      · have hmx : max (mrun a).most (mrun b).most = (mrun b).most := by omega
        rw [hmx] at dab
        simp (maxSteps := 1000000) (disch := first | (exact DrawOk.mk (by decide +kernel)) | omega | simp) [wrap_i64, le_most, lt_omega, le_omega, ne_omega, allLen, c, ta, tb, tab]
        refine CallK.of (db) (by first | exact .inl rfl | exact .inr (by simp)) (by simp) ?_
        simp (maxSteps := 1000000) (disch := first | (exact DrawOk.mk (by decide +kernel)) | omega | simp) [wrap_i64, le_most, lt_omega, le_omega, ne_omega, allLen, ta, tb, tab]
        refine CallK.of (dab) (by first | exact .inl rfl | exact .inr (by simp)) (by simp) ?_
        simp (maxSteps := 1000000) (disch := first | (exact DrawOk.mk (by decide +kernel)) | omega | simp) [wrap_i64, le_most, lt_omega, le_omega, ne_omega, allLen, ta, tb, tab]
        refine XL.by hE (ι := { k : Nat // k ≤ a.length }) (fun k => ⟨[(5, .own 16 0 a.length), (9, .i (.bool ((a.take k.1).any fun x => decide (x.e = 1)))), (10, .i (.int .i64 k.1))], [(16, ⟨3, a.map encL⟩)]⟩) (fun k => a.length - k.1) ⟨0, Nat.zero_le _⟩ ⟨by simp, by simp, by simp⟩ (by kernel_rfl) ?_
        rintro ⟨k, hk⟩
        by_cases hlt : k < a.length
        · have hs : ((a.take (k + 1)).any fun x => decide (x.e = 1)) = (((a.take k).any fun x => decide (x.e = 1)) || decide (a[k].e = 1)) := by
            rw [List.take_succ_eq_append_getElem hlt, List.any_append]; simp
          generalize ((a.take k).any fun x => decide (x.e = 1)) = q at hs
          cases q
          · simp (maxSteps := 1000000) (disch := first | (exact DrawOk.mk (by decide +kernel)) | omega | simp) [wrap_i64, le_most, lt_omega, le_omega, ne_omega, allLen, hlt, encL]
            (refine ⟨⟨k + 1, by omega⟩, by (simp; try omega), ?_⟩; constructor <;> (simp (maxSteps := 1000000) (disch := first | (exact DrawOk.mk (by decide +kernel)) | omega | simp) [wrap_i64, le_most, lt_omega, le_omega, ne_omega, allLen, hs]) <;> (try omega))
          · simp (maxSteps := 1000000) (disch := first | (exact DrawOk.mk (by decide +kernel)) | omega | simp) [wrap_i64, le_most, lt_omega, le_omega, ne_omega, allLen, hlt, encL]
            (refine ⟨⟨k + 1, by omega⟩, by (simp; try omega), ?_⟩; constructor <;> (simp (maxSteps := 1000000) (disch := first | (exact DrawOk.mk (by decide +kernel)) | omega | simp) [wrap_i64, le_most, lt_omega, le_omega, ne_omega, allLen, hs]) <;> (try omega))
        · obtain rfl : k = a.length := by omega
          rw [List.take_length]
          simp (maxSteps := 1000000) (disch := first | (exact DrawOk.mk (by decide +kernel)) | omega | simp) [wrap_i64, le_most, lt_omega, le_omega, ne_omega, allLen, hlt, ta]
          have tt : List.take (1 + a.length) ([.int .i64 1000, .int .i64 3, .int .i64 1001] :: a.map encL) = [.int .i64 1000, .int .i64 3, .int .i64 1001] :: a.map encL := List.take_of_length_le (by simp; omega)
          have tu : List.take (1 + a.length + 1) ([.int .i64 1000, .int .i64 3, .int .i64 1001] :: (a.map encL ++ [[.int .i64 1001, .int .i64 3, .int .i64 1000]])) = [.int .i64 1000, .int .i64 3, .int .i64 1001] :: (a.map encL ++ [[.int .i64 1001, .int .i64 3, .int .i64 1000]]) := List.take_of_length_le (by simp; omega)
          try (simp (maxSteps := 1000000) (disch := first | (exact DrawOk.mk (by decide +kernel)) | omega | simp) [wrap_i64, le_most, lt_omega, le_omega, ne_omega, allLen, tt, tu, ta])
          refine CallK.of (bar) (by first | exact .inl rfl | exact .inr (by simp)) (by simp) ?_
          generalize (a.any fun x => decide (x.e = 1)) = q
          cases q
          · simp (maxSteps := 1000000) (disch := first | (exact DrawOk.mk (by decide +kernel)) | omega | simp) [wrap_i64, le_most, lt_omega, le_omega, ne_omega, allLen, tt, tu, ta]
            refine CallK.of (dar) (by first | exact .inl rfl | exact .inr (by simp)) (by simp) ?_
            simp (maxSteps := 1000000) (disch := first | (exact DrawOk.mk (by decide +kernel)) | omega | simp) [wrap_i64, le_most, lt_omega, le_omega, ne_omega, allLen, tt, tu, ta]
            refine CallK.of (da) (by first | exact .inl rfl | exact .inr (by simp)) (by simp) ?_
            simp (maxSteps := 1000000) (disch := first | (exact DrawOk.mk (by decide +kernel)) | omega | simp) [wrap_i64, le_most, lt_omega, le_omega, ne_omega, allLen]
          · simp (maxSteps := 1000000) (disch := first | (exact DrawOk.mk (by decide +kernel)) | omega | simp) [wrap_i64, le_most, lt_omega, le_omega, ne_omega, allLen, tt, tu, ta]
            refine CallK.of (dar) (by first | exact .inl rfl | exact .inr (by simp)) (by simp) ?_
            simp (maxSteps := 1000000) (disch := first | (exact DrawOk.mk (by decide +kernel)) | omega | simp) [wrap_i64, le_most, lt_omega, le_omega, ne_omega, allLen, tt, tu, ta]
            refine CallK.of (da) (by first | exact .inl rfl | exact .inr (by simp)) (by simp) ?_
            simp (maxSteps := 1000000) (disch := first | (exact DrawOk.mk (by decide +kernel)) | omega | simp) [wrap_i64, le_most, lt_omega, le_omega, ne_omega, allLen]
      · have hmx : max (mrun a).most (mrun b).most = (mrun a).most := by omega
        have c2 : ((mrun a).most < (mrun b).most) = False := eq_false c
        rw [hmx] at dab
        simp (maxSteps := 1000000) (disch := first | (exact DrawOk.mk (by decide +kernel)) | omega | simp) [wrap_i64, le_most, lt_omega, le_omega, ne_omega, allLen, c2, ta, tb, tab]
        refine CallK.of (dab) (by first | exact .inl rfl | exact .inr (by simp)) (by simp) ?_
        simp (maxSteps := 1000000) (disch := first | (exact DrawOk.mk (by decide +kernel)) | omega | simp) [wrap_i64, le_most, lt_omega, le_omega, ne_omega, allLen, ta, tb, tab]
        refine XL.by hE (ι := { k : Nat // k ≤ a.length }) (fun k => ⟨[(5, .own 16 0 a.length), (9, .i (.bool ((a.take k.1).any fun x => decide (x.e = 1)))), (10, .i (.int .i64 k.1))], [(16, ⟨3, a.map encL⟩)]⟩) (fun k => a.length - k.1) ⟨0, Nat.zero_le _⟩ ⟨by simp, by simp, by simp⟩ (by kernel_rfl) ?_
        rintro ⟨k, hk⟩
        by_cases hlt : k < a.length
        · have hs : ((a.take (k + 1)).any fun x => decide (x.e = 1)) = (((a.take k).any fun x => decide (x.e = 1)) || decide (a[k].e = 1)) := by
            rw [List.take_succ_eq_append_getElem hlt, List.any_append]; simp
          generalize ((a.take k).any fun x => decide (x.e = 1)) = q at hs
          cases q
          · simp (maxSteps := 1000000) (disch := first | (exact DrawOk.mk (by decide +kernel)) | omega | simp) [wrap_i64, le_most, lt_omega, le_omega, ne_omega, allLen, hlt, encL]
            (refine ⟨⟨k + 1, by omega⟩, by (simp; try omega), ?_⟩; constructor <;> (simp (maxSteps := 1000000) (disch := first | (exact DrawOk.mk (by decide +kernel)) | omega | simp) [wrap_i64, le_most, lt_omega, le_omega, ne_omega, allLen, hs]) <;> (try omega))
          · simp (maxSteps := 1000000) (disch := first | (exact DrawOk.mk (by decide +kernel)) | omega | simp) [wrap_i64, le_most, lt_omega, le_omega, ne_omega, allLen, hlt, encL]
            (refine ⟨⟨k + 1, by omega⟩, by (simp; try omega), ?_⟩; constructor <;> (simp (maxSteps := 1000000) (disch := first | (exact DrawOk.mk (by decide +kernel)) | omega | simp) [wrap_i64, le_most, lt_omega, le_omega, ne_omega, allLen, hs]) <;> (try omega))
        · obtain rfl : k = a.length := by omega
          rw [List.take_length]
          simp (maxSteps := 1000000) (disch := first | (exact DrawOk.mk (by decide +kernel)) | omega | simp) [wrap_i64, le_most, lt_omega, le_omega, ne_omega, allLen, hlt, ta]
          have tt : List.take (1 + a.length) ([.int .i64 1000, .int .i64 3, .int .i64 1001] :: a.map encL) = [.int .i64 1000, .int .i64 3, .int .i64 1001] :: a.map encL := List.take_of_length_le (by simp; omega)
          have tu : List.take (1 + a.length + 1) ([.int .i64 1000, .int .i64 3, .int .i64 1001] :: (a.map encL ++ [[.int .i64 1001, .int .i64 3, .int .i64 1000]])) = [.int .i64 1000, .int .i64 3, .int .i64 1001] :: (a.map encL ++ [[.int .i64 1001, .int .i64 3, .int .i64 1000]]) := List.take_of_length_le (by simp; omega)
          try (simp (maxSteps := 1000000) (disch := first | (exact DrawOk.mk (by decide +kernel)) | omega | simp) [wrap_i64, le_most, lt_omega, le_omega, ne_omega, allLen, tt, tu, ta])
          refine CallK.of (bar) (by first | exact .inl rfl | exact .inr (by simp)) (by simp) ?_
          generalize (a.any fun x => decide (x.e = 1)) = q
          cases q
          · simp (maxSteps := 1000000) (disch := first | (exact DrawOk.mk (by decide +kernel)) | omega | simp) [wrap_i64, le_most, lt_omega, le_omega, ne_omega, allLen, tt, tu, ta]
            refine CallK.of (dar) (by first | exact .inl rfl | exact .inr (by simp)) (by simp) ?_
            simp (maxSteps := 1000000) (disch := first | (exact DrawOk.mk (by decide +kernel)) | omega | simp) [wrap_i64, le_most, lt_omega, le_omega, ne_omega, allLen, tt, tu, ta]
            refine CallK.of (da) (by first | exact .inl rfl | exact .inr (by simp)) (by simp) ?_
            simp (maxSteps := 1000000) (disch := first | (exact DrawOk.mk (by decide +kernel)) | omega | simp) [wrap_i64, le_most, lt_omega, le_omega, ne_omega, allLen]
          · simp (maxSteps := 1000000) (disch := first | (exact DrawOk.mk (by decide +kernel)) | omega | simp) [wrap_i64, le_most, lt_omega, le_omega, ne_omega, allLen, tt, tu, ta]
            refine CallK.of (dar) (by first | exact .inl rfl | exact .inr (by simp)) (by simp) ?_
            simp (maxSteps := 1000000) (disch := first | (exact DrawOk.mk (by decide +kernel)) | omega | simp) [wrap_i64, le_most, lt_omega, le_omega, ne_omega, allLen, tt, tu, ta]
            refine CallK.of (da) (by first | exact .inl rfl | exact .inr (by simp)) (by simp) ?_
            simp (maxSteps := 1000000) (disch := first | (exact DrawOk.mk (by decide +kernel)) | omega | simp) [wrap_i64, le_most, lt_omega, le_omega, ne_omega, allLen]
    · have qb' : okL b = false := by simpa using qb
      simp (maxSteps := 1000000) (disch := first | (exact DrawOk.mk (by decide +kernel)) | omega | simp) [wrap_i64, le_most, lt_omega, le_omega, ne_omega, allLen, qb', ta, tb]
      refine CallK.of (sa) (by first | exact .inl rfl | exact .inr (by simp)) (by simp) ?_
      simp (maxSteps := 1000000) (disch := first | (exact DrawOk.mk (by decide +kernel)) | omega | simp) [wrap_i64, le_most, lt_omega, le_omega, ne_omega, allLen, qa, ta, tb]
      refine CallK.of (sb) (by first | exact .inl rfl | exact .inr (by simp)) (by simp) ?_
      simp (maxSteps := 1000000) (disch := first | (exact DrawOk.mk (by decide +kernel)) | omega | simp) [wrap_i64, le_most, lt_omega, le_omega, ne_omega, allLen, qb']
  · have qa' : okL a = false := by simpa using qa
    simp (maxSteps := 1000000) (disch := first | (exact DrawOk.mk (by decide +kernel)) | omega | simp) [wrap_i64, le_most, lt_omega, le_omega, ne_omega, allLen, qa', ta, tb]
    refine CallK.of (sa) (by first | exact .inl rfl | exact .inr (by simp)) (by simp) ?_
    simp (maxSteps := 1000000) (disch := first | (exact DrawOk.mk (by decide +kernel)) | omega | simp) [wrap_i64, le_most, lt_omega, le_omega, ne_omega, allLen, qa']
end Go.Vai
