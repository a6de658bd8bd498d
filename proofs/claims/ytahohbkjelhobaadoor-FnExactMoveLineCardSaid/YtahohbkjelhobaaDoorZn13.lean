import Derived.Test.YtahohbkjelhobaaDoorZn12
set_option linter.unusedVariables false
set_option linter.unusedSimpArgs false
set_option maxHeartbeats 4000000
namespace Go.Vai
/-! ### Motions -/
structure Mo where
  turn : Int
  flip : Bool
  sh : Pt
  deriving DecidableEq, Inhabited
def encMo (m : Mo) : List IV := [.int .i64 m.turn, .bool m.flip, .int .i64 m.sh.x.a, .int .i64 m.sh.x.b, .int .i64 m.sh.x.k, .int .i64 m.sh.y.a, .int .i64 m.sh.y.b, .int .i64 m.sh.y.k]
@[simp] theorem encMo_len (x : Mo) : (encMo x).length = 8 := rfl
@[simp] theorem encMo_take (x : Mo) : (encMo x).take 8 = encMo x := rfl
def vM (m : Mo) : Bool := inB m.turn 0 7 && (vN m.sh.x && vN m.sh.y)
def hlf : Nu := ⟨0, 1, 1⟩
theorem hlf_nb : NB 1 1 hlf := ⟨by decide, by decide, by decide, by decide⟩
def halfP (p : Pt) : Pt := ⟨nmul (nsub p.x p.y) hlf, nmul (nadd p.x p.y) hlf⟩
def quart (p : Pt) : Pt := ⟨nneg p.y, p.x⟩
def quartN : Nat → Pt → Pt
  | 0, p => p
  | n + 1, p => quart (quartN n p)
theorem quart_half (p : Pt) : quart (halfP p) = halfP (quart p) := by
  unfold quart halfP nsub
  simp only
  congr 1
  · rw [← nneg_nadd, nmul_neg_l, nadd_comm p.y p.x]
  · rw [nadd_comm (nneg p.y) p.x]
theorem quartN_half (p : Pt) : ∀ n, quartN n (halfP p) = halfP (quartN n p)
  | 0 => rfl
  | n + 1 => by simp only [quartN]; rw [quartN_half p n, quart_half]
theorem PB.quart {K M : Nat} {p : Pt} (h : PB K M p) : PB K M (Vai.quart p) := ⟨h.2.neg, h.1⟩
theorem PB.quartN {K M : Nat} {p : Pt} (h : PB K M p) : ∀ n, PB K M (Vai.quartN n p)
  | 0 => h
  | n + 1 => (PB.quartN h n).quart
theorem PB.half {K M : Nat} {p : Pt} (h : PB K M p) : PB (K + 1) (6 * M) (halfP p) := ⟨((h.1.sub h.2).mul hlf_nb).mono (by omega), ((h.1.add h.2).mul hlf_nb).mono (by omega)⟩
def rot (p : Pt) (t : Int) : Pt := quartN (t / 2).toNat (if t % 2 = 1 then halfP p else p)
theorem PB.up1 {K M : Nat} {p : Pt} (h : PB K M p) : PB (K + 1) (2 * M) p := by
  have := h.up (K' := K + 1) (by omega)
  have e : K + 1 - K = 1 := by omega
  rw [e] at this
  exact this.mono (by omega)
theorem PB.rot {K M : Nat} {p : Pt} (h : PB K M p) (t : Int) : PB (K + 1) (6 * M) (Vai.rot p t) := by
  unfold Vai.rot
  split
  · exact h.half.quartN _
  · exact (h.up1.mono (by omega)).quartN _
def flipP (f : Bool) (p : Pt) : Pt := if f = true then ⟨p.x, nneg p.y⟩ else p
theorem PB.flip {K M : Nat} {p : Pt} (h : PB K M p) (f : Bool) : PB K M (flipP f p) := by
  cases f
  · exact h
  · exact ⟨h.1, h.2.neg⟩
def mov (m : Mo) (p : Pt) : Pt := pplus (rot (flipP m.flip p) m.turn) m.sh
def dirM (m : Mo) (d : Int) : Int := (if m.flip = true then -d else d) + 2 * m.turn
theorem c86 (p : Pt) (t : Int) {K M : Nat} (h : PB K M p) (hK : K ≤ 50) (hM : 6 * M ≤ 4611686018427387904) (h0 : 0 ≤ t) (h1 : t ≤ 7) : PC E 86 [.agg (encP p), .i (.int .i64 t)] [.agg (encP (rot p t))] := by
  refine PC_start hE Proofs.Tryd.func86 rfl rfl Proofs.Tryd.ntmps86 (by kernel_rfl) (by kernel_rfl) (by simp) ?_
  have hh := h.half
  have n1 := h.1.sub h.2
  have n2 := h.1.add h.2
  have i1 := hh.1.i64 hM (by omega)
  have i2 := hh.2.i64 hM (by omega)
  have j1 := hh.1.ne hM
  have j2 := hh.2.ne hM
  have i3 := h.1.i64 (by omega) (by omega)
  have i4 := h.2.i64 (by omega) (by omega)
  have j3 := h.1.ne (by omega)
  have j4 := h.2.ne (by omega)
  rcases dir8 h0 h1 with rfl | rfl | rfl | rfl | rfl | rfl | rfl | rfl
  · simp (disch := first | omega | simp) [wrap_i64, le_most, lt_omega, le_omega, ne_omega, allLen, andI_one, encP]
    try simp [rot, quartN, quart, halfP, encP, encN, nneg]
  · simp (disch := first | omega | simp) [wrap_i64, le_most, lt_omega, le_omega, ne_omega, allLen, andI_one, encP]
    refine CallK.of (c56 p.x p.y h.1 h.2 (by omega) (by omega)) (by first | exact .inl rfl | exact .inr (by simp)) (by simp) ?_
    simp (disch := first | omega | simp) [wrap_i64, le_most, lt_omega, le_omega, ne_omega, allLen]
    refine CallK.of (c72 (nsub p.x p.y) hlf n1 hlf_nb (by omega) (by omega) (by omega)) (by first | exact .inl rfl | exact .inr (by simp)) (by simp) ?_
    simp (disch := first | omega | simp) [wrap_i64, le_most, lt_omega, le_omega, ne_omega, allLen]
    refine CallK.of (c60 p.x p.y h.1 h.2 (by omega) (by omega)) (by first | exact .inl rfl | exact .inr (by simp)) (by simp) ?_
    simp (disch := first | omega | simp) [wrap_i64, le_most, lt_omega, le_omega, ne_omega, allLen]
    refine CallK.of (c72 (nadd p.x p.y) hlf n2 hlf_nb (by omega) (by omega) (by omega)) (by first | exact .inl rfl | exact .inr (by simp)) (by simp) ?_
    simp (disch := first | omega | simp) [wrap_i64, le_most, lt_omega, le_omega, ne_omega, allLen, encN]
    try simp [rot, quartN, quart, halfP, encP, encN, nneg]
  · simp (disch := first | omega | simp) [wrap_i64, le_most, lt_omega, le_omega, ne_omega, allLen, andI_one, encP]
    refine CallK.of (c73 p.y i4 j4.1 j4.2) (by first | exact .inl rfl | exact .inr (by simp)) (by simp) ?_
    simp (disch := first | omega | simp) [wrap_i64, le_most, lt_omega, le_omega, ne_omega, allLen, encN]
    try simp [rot, quartN, quart, halfP, encP, encN, nneg]
  · simp (disch := first | omega | simp) [wrap_i64, le_most, lt_omega, le_omega, ne_omega, allLen, andI_one, encP]
    refine CallK.of (c56 p.x p.y h.1 h.2 (by omega) (by omega)) (by first | exact .inl rfl | exact .inr (by simp)) (by simp) ?_
    simp (disch := first | omega | simp) [wrap_i64, le_most, lt_omega, le_omega, ne_omega, allLen]
    refine CallK.of (c72 (nsub p.x p.y) hlf n1 hlf_nb (by omega) (by omega) (by omega)) (by first | exact .inl rfl | exact .inr (by simp)) (by simp) ?_
    simp (disch := first | omega | simp) [wrap_i64, le_most, lt_omega, le_omega, ne_omega, allLen]
    refine CallK.of (c60 p.x p.y h.1 h.2 (by omega) (by omega)) (by first | exact .inl rfl | exact .inr (by simp)) (by simp) ?_
    simp (disch := first | omega | simp) [wrap_i64, le_most, lt_omega, le_omega, ne_omega, allLen]
    refine CallK.of (c72 (nadd p.x p.y) hlf n2 hlf_nb (by omega) (by omega) (by omega)) (by first | exact .inl rfl | exact .inr (by simp)) (by simp) ?_
    simp (disch := first | omega | simp) [wrap_i64, le_most, lt_omega, le_omega, ne_omega, allLen, encN]
    refine CallK.of (c73 (halfP p).y i2 j2.1 j2.2) (by first | exact .inl rfl | exact .inr (by simp)) (by simp) ?_
    simp (disch := first | omega | simp) [wrap_i64, le_most, lt_omega, le_omega, ne_omega, allLen, encN]
    try simp [rot, quartN, quart, halfP, encP, encN, nneg]
  · simp (disch := first | omega | simp) [wrap_i64, le_most, lt_omega, le_omega, ne_omega, allLen, andI_one, encP]
    refine CallK.of (c73 p.x i3 j3.1 j3.2) (by first | exact .inl rfl | exact .inr (by simp)) (by simp) ?_
    simp (disch := first | omega | simp) [wrap_i64, le_most, lt_omega, le_omega, ne_omega, allLen, encN]
    refine CallK.of (c73 p.y i4 j4.1 j4.2) (by first | exact .inl rfl | exact .inr (by simp)) (by simp) ?_
    simp (disch := first | omega | simp) [wrap_i64, le_most, lt_omega, le_omega, ne_omega, allLen, encN]
    try simp [rot, quartN, quart, halfP, encP, encN, nneg]
  · simp (disch := first | omega | simp) [wrap_i64, le_most, lt_omega, le_omega, ne_omega, allLen, andI_one, encP]
    refine CallK.of (c56 p.x p.y h.1 h.2 (by omega) (by omega)) (by first | exact .inl rfl | exact .inr (by simp)) (by simp) ?_
    simp (disch := first | omega | simp) [wrap_i64, le_most, lt_omega, le_omega, ne_omega, allLen]
    refine CallK.of (c72 (nsub p.x p.y) hlf n1 hlf_nb (by omega) (by omega) (by omega)) (by first | exact .inl rfl | exact .inr (by simp)) (by simp) ?_
    simp (disch := first | omega | simp) [wrap_i64, le_most, lt_omega, le_omega, ne_omega, allLen]
    refine CallK.of (c60 p.x p.y h.1 h.2 (by omega) (by omega)) (by first | exact .inl rfl | exact .inr (by simp)) (by simp) ?_
    simp (disch := first | omega | simp) [wrap_i64, le_most, lt_omega, le_omega, ne_omega, allLen]
    refine CallK.of (c72 (nadd p.x p.y) hlf n2 hlf_nb (by omega) (by omega) (by omega)) (by first | exact .inl rfl | exact .inr (by simp)) (by simp) ?_
    simp (disch := first | omega | simp) [wrap_i64, le_most, lt_omega, le_omega, ne_omega, allLen, encN]
    refine CallK.of (c73 (halfP p).x i1 j1.1 j1.2) (by first | exact .inl rfl | exact .inr (by simp)) (by simp) ?_
    simp (disch := first | omega | simp) [wrap_i64, le_most, lt_omega, le_omega, ne_omega, allLen, encN]
    refine CallK.of (c73 (halfP p).y i2 j2.1 j2.2) (by first | exact .inl rfl | exact .inr (by simp)) (by simp) ?_
    simp (disch := first | omega | simp) [wrap_i64, le_most, lt_omega, le_omega, ne_omega, allLen, encN]
    try simp [rot, quartN, quart, halfP, encP, encN, nneg]
  · simp (disch := first | omega | simp) [wrap_i64, le_most, lt_omega, le_omega, ne_omega, allLen, andI_one, encP]
    refine CallK.of (c73 p.x i3 j3.1 j3.2) (by first | exact .inl rfl | exact .inr (by simp)) (by simp) ?_
    simp (disch := first | omega | simp) [wrap_i64, le_most, lt_omega, le_omega, ne_omega, allLen, encN]
    try simp [rot, quartN, quart, halfP, encP, encN, nneg]
  · simp (disch := first | omega | simp) [wrap_i64, le_most, lt_omega, le_omega, ne_omega, allLen, andI_one, encP]
    refine CallK.of (c56 p.x p.y h.1 h.2 (by omega) (by omega)) (by first | exact .inl rfl | exact .inr (by simp)) (by simp) ?_
    simp (disch := first | omega | simp) [wrap_i64, le_most, lt_omega, le_omega, ne_omega, allLen]
    refine CallK.of (c72 (nsub p.x p.y) hlf n1 hlf_nb (by omega) (by omega) (by omega)) (by first | exact .inl rfl | exact .inr (by simp)) (by simp) ?_
    simp (disch := first | omega | simp) [wrap_i64, le_most, lt_omega, le_omega, ne_omega, allLen]
    refine CallK.of (c60 p.x p.y h.1 h.2 (by omega) (by omega)) (by first | exact .inl rfl | exact .inr (by simp)) (by simp) ?_
    simp (disch := first | omega | simp) [wrap_i64, le_most, lt_omega, le_omega, ne_omega, allLen]
    refine CallK.of (c72 (nadd p.x p.y) hlf n2 hlf_nb (by omega) (by omega) (by omega)) (by first | exact .inl rfl | exact .inr (by simp)) (by simp) ?_
    simp (disch := first | omega | simp) [wrap_i64, le_most, lt_omega, le_omega, ne_omega, allLen, encN]
    refine CallK.of (c73 (halfP p).x i1 j1.1 j1.2) (by first | exact .inl rfl | exact .inr (by simp)) (by simp) ?_
    simp (disch := first | omega | simp) [wrap_i64, le_most, lt_omega, le_omega, ne_omega, allLen, encN]
    try simp [rot, quartN, quart, halfP, encP, encN, nneg]
end Go.Vai
