/- Merged texts of this claim: Zn13, Zn14. -/
import Derived.Test.YtkckffmnjpoclaaYb5
set_option linter.unusedVariables false
set_option linter.unusedSimpArgs false
set_option maxHeartbeats 4000000
namespace Go.Vai
/-! ### Motions -/
structure Mo where
  turn : Int
  flip : Bool
  sh : Pt
  deriving DecidableEq, Inhabited
def encMo (m : Mo) : List IV := [.int .i64 m.turn, .bool m.flip, .int .i64 m.sh.x.a, .int .i64 m.sh.x.b, .int .i64 m.sh.x.k, .int .i64 m.sh.y.a, .int .i64 m.sh.y.b, .int .i64 m.sh.y.k]
@[simp] theorem encMo_len (x : Mo) : (encMo x).length = 8 := rfl
@[simp] theorem encMo_take (x : Mo) : (encMo x).take 8 = encMo x := rfl
def vM (m : Mo) : Bool := inB m.turn 0 7 && (vN m.sh.x && vN m.sh.y)
def hlf : Nu := ⟨0, 1, 1⟩
theorem hlf_nb : NB 1 1 hlf := ⟨by decide, by decide, by decide, by decide⟩
def halfP (p : Pt) : Pt := ⟨nmul (nsub p.x p.y) hlf, nmul (nadd p.x p.y) hlf⟩
def quart (p : Pt) : Pt := ⟨nneg p.y, p.x⟩
def quartN : Nat → Pt → Pt
  | 0, p => p
  | n + 1, p => quart (quartN n p)
theorem quart_half (p : Pt) : quart (halfP p) = halfP (quart p) := by
  unfold quart halfP nsub
  simp only
  congr 1
  · rw [← nneg_nadd, nmul_neg_l, nadd_comm p.y p.x]
  · rw [nadd_comm (nneg p.y) p.x]
theorem quartN_half (p : Pt) : ∀ n, quartN n (halfP p) = halfP (quartN n p)
  | 0 => rfl
  | n + 1 => by simp only [quartN]; rw [quartN_half p n, quart_half]
theorem PB.quart {K M : Nat} {p : Pt} (h : PB K M p) : PB K M (Vai.quart p) := ⟨h.2.neg, h.1⟩
theorem PB.quartN {K M : Nat} {p : Pt} (h : PB K M p) : ∀ n, PB K M (Vai.quartN n p)
  | 0 => h
  | n + 1 => (PB.quartN h n).quart
theorem PB.half {K M : Nat} {p : Pt} (h : PB K M p) : PB (K + 1) (6 * M) (halfP p) := ⟨((h.1.sub h.2).mul hlf_nb).mono (by omega), ((h.1.add h.2).mul hlf_nb).mono (by omega)⟩
def rot (p : Pt) (t : Int) : Pt := quartN (t / 2).toNat (if t % 2 = 1 then halfP p else p)
theorem PB.up1 {K M : Nat} {p : Pt} (h : PB K M p) : PB (K + 1) (2 * M) p := by
  have := h.up (K' := K + 1) (by omega)
  have e : K + 1 - K = 1 := by omega
  rw [e] at this
  exact this.mono (by omega)
theorem PB.rot {K M : Nat} {p : Pt} (h : PB K M p) (t : Int) : PB (K + 1) (6 * M) (Vai.rot p t) := by
  unfold Vai.rot
  split
  · exact h.half.quartN _
  · exact (h.up1.mono (by omega)).quartN _
def flipP (f : Bool) (p : Pt) : Pt := if f = true then ⟨p.x, nneg p.y⟩ else p
theorem PB.flip {K M : Nat} {p : Pt} (h : PB K M p) (f : Bool) : PB K M (flipP f p) := by
  cases f
  · exact h
  · exact ⟨h.1, h.2.neg⟩
def mov (m : Mo) (p : Pt) : Pt := pplus (rot (flipP m.flip p) m.turn) m.sh
def dirM (m : Mo) (d : Int) : Int := (if m.flip = true then -d else d) + 2 * m.turn
end Go.Vai
set_option linter.unusedVariables false
set_option linter.unusedSimpArgs false
set_option maxHeartbeats 4000000
namespace Go.Vai
theorem PB.mov {K M M' : Nat} {p : Pt} {m : Mo} (h : PB K M p) (h' : PB (K + 1) M' m.sh) : PB (K + 1) (6 * M + M') (mov m p) := ((h.flip m.flip).rot m.turn).plus h'
theorem tmod8' {d : Int} (h : 0 ≤ d) : d.tmod 8 = d % 8 := Int.tmod_eq_emod_of_nonneg h
theorem sh_PB {m : Mo} (h : vM m = true) : 0 ≤ m.turn ∧ m.turn ≤ 7 ∧ PB 10 134217728 m.sh := by
  simp only [vM, Bool.and_eq_true, inB_iff] at h
  exact ⟨h.1.1, h.1.2, vN_bound h.2.1, vN_bound h.2.2⟩
theorem PB.up14 {M : Nat} {p : Pt} (h : PB 10 M p) : PB 14 (16 * M) p := (h.up (K' := 14) (by decide)).mono (by simp; omega)
def mLine (m : Mo) (l : Li) : Li := lat (mov m (footP l)) (dirM m l.dir % 8)
theorem tdiv2' {a : Int} (h : 0 ≤ a) : a.tdiv 2 = a / 2 := by rw [Int.tdiv_eq_ediv_of_nonneg h]
theorem tmod2' {a : Int} (h : 0 ≤ a) : a.tmod 2 = a % 2 := Int.tmod_eq_emod_of_nonneg h
def mlOk (m : Mo) (l : Li) : Bool := vM m && vL l && vN (mLine m l).off
def mlR (m : Mo) (l : Li) : Li := if mlOk m l = true then mLine m l else ⟨0, ⟨0, 0, 0⟩⟩
theorem c110 (m : Mo) : PC E 110 [.agg (encMo m)] [.agg (encMo m)] := by
  refine PC_start hE Proofs.Try.func110 rfl rfl Proofs.Try.ntmps110 (by kernel_rfl) (by kernel_rfl) (by simp) ?_
  simp (maxSteps := 1000000) (disch := first | (exact DrawOk.mk (by decide +kernel)) | omega | simp) [wrap_i64, le_most, lt_omega, le_omega, ne_omega, allLen, encMo]
  refine CallK.of (c109 m.sh.x) (by first | exact .inl rfl | exact .inr (by simp)) (by simp) ?_
  simp (maxSteps := 1000000) (disch := first | (exact DrawOk.mk (by decide +kernel)) | omega | simp) [wrap_i64, le_most, lt_omega, le_omega, ne_omega, allLen, encN]
  refine CallK.of (c109 m.sh.y) (by first | exact .inl rfl | exact .inr (by simp)) (by simp) ?_
  simp (maxSteps := 1000000) (disch := first | (exact DrawOk.mk (by decide +kernel)) | omega | simp) [wrap_i64, le_most, lt_omega, le_omega, ne_omega, allLen, encN]
theorem typedMo {n : Nat} {el : List IV} (h : Typed E n 135 el) : ∃ m : Mo, el = encMo m := by
  cases n with
  | zero => exact h.elim
  | succ n =>
    simp only [Typed, k135, fieldsT] at h
    obtain ⟨a0, b0, rfl, h0, a1, b1, rfl, h1, a2, b2, rfl, h2, a3, b3, rfl, h3, rfl⟩ := h
    obtain ⟨x, rfl, -⟩ := typedZ h0
    obtain ⟨y, rfl, -⟩ := typedNu h2
    obtain ⟨z, rfl, -⟩ := typedNu h3
    cases n with
    | zero => exact h1.elim
    | succ n =>
      simp only [Typed, k4] at h1
      obtain ⟨b, rfl⟩ := h1
      exact ⟨⟨x, b, ⟨y, z⟩⟩, rfl⟩
end Go.Vai
