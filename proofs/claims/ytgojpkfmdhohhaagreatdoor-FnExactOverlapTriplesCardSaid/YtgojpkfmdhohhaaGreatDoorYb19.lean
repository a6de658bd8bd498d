/- Merged texts of this claim: Zh7, Zh8. -/
import Derived.Test.YtgojpkfmdhohhaaGreatDoorYb16
/- Products of positive values. -/
set_option linter.unusedVariables false
set_option linter.unusedSimpArgs false
set_option maxHeartbeats 4000000
namespace Go.Vai
theorem rat_irr {a b : Rat} (h : a * a = 2 * (b * b)) : a = 0 ∧ b = 0 := by
  have d1 : (a.den : Rat) ≠ 0 := by have := a.den_nz; exact_mod_cast this
  have d2 : (b.den : Rat) ≠ 0 := by have := b.den_nz; exact_mod_cast this
  have f : ∀ a : Rat, a * (a.den : Rat) = (a.num : Rat) := fun a => by
    have d : (a.den : Rat) ≠ 0 := by have := a.den_nz; exact_mod_cast this
    have e : a = (a.num : Rat) / (a.den : Rat) := by
      conv => lhs; rw [← Rat.num_divInt_den a]
      rw [Rat.divInt_eq_div]; rfl
    grind
  have f1 := f a
  have f2 := f b
  have k : ((a.num * b.den : Int) : Rat) * ((a.num * b.den : Int) : Rat) = 2 * (((b.num * a.den : Int) : Rat) * ((b.num * a.den : Int) : Rat)) := by
    push_cast
    rw [← f1, ← f2]
    have : a * ↑a.den * ↑b.den * (a * ↑a.den * ↑b.den) = (a * a) * (↑a.den * ↑b.den * (↑a.den * ↑b.den) : Rat) := by grind
    rw [this, h]; grind
  have k2 : (a.num * b.den) * (a.num * b.den) = 2 * ((b.num * a.den) * (b.num * a.den)) := by exact_mod_cast k
  have hb0 : b.num * (a.den : Int) = 0 := irr k2
  have ha0 : a.num * (b.den : Int) = 0 := by
    rw [hb0] at k2
    have h0 : a.num * (b.den : Int) * (a.num * (b.den : Int)) = 0 := by omega
    rcases Int.mul_eq_zero.1 h0 with h | h <;> exact h
  have x1 : a.num = 0 := by
    rcases Int.mul_eq_zero.1 ha0 with h | h
    · exact h
    · exact absurd (by exact_mod_cast h) b.den_nz
  have x2 : b.num = 0 := by
    rcases Int.mul_eq_zero.1 hb0 with h | h
    · exact h
    · exact absurd (by exact_mod_cast h) a.den_nz
  exact ⟨Rat.num_eq_zero.1 x1, Rat.num_eq_zero.1 x2⟩
/-- Above 0, and the rational part decides. -/
def TyN (x : Q2) : Prop := 0 < x.a ∧ 2 * (x.b * x.b) < x.a * x.a
theorem TyN.pos {x : Q2} (h : TyN x) : Pos x := by
  obtain ⟨h1, h2⟩ := h
  by_cases hb : x.b < 0
  · exact pos_left h1 hb h2
  · exact pos_one (Rat.le_of_lt h1) (by grind) (.inl h1)
theorem pos_type {x : Q2} (h : Pos x) : TyN x ∨ TyN ⟨x.b, x.a / 2⟩ := by
  have hneg : ∀ y : Q2, y = -x → ¬ Pos y := fun y e p => h.anti (by rw [← e]; exact p)
  rcases (Rat.le_total : x.a * x.a ≤ 2 * (x.b * x.b) ∨ 2 * (x.b * x.b) ≤ x.a * x.a) with g | g
  · have hne : x.a * x.a ≠ 2 * (x.b * x.b) := fun e => by
      obtain ⟨e1, e2⟩ := rat_irr e
      exact h.ne (Q2.ext' (by rw [e1]; simp) (by rw [e2]; simp))
    have hlt : x.a * x.a < 2 * (x.b * x.b) := by grind
    right
    refine ⟨?_, by simp only; grind⟩
    simp only
    rcases (Rat.le_total : x.b ≤ 0 ∨ 0 ≤ x.b) with hb | hb
    · exfalso
      have hb' : x.b ≠ 0 := by
        intro e; rw [e] at hlt
        have : 0 ≤ x.a * x.a := by
          rcases (Rat.le_total : x.a ≤ 0 ∨ 0 ≤ x.a) with q | q
          · have := Rat.mul_nonneg (show 0 ≤ -x.a by grind) (show 0 ≤ -x.a by grind); grind
          · exact Rat.mul_nonneg q q
        grind
      refine hneg ⟨-x.a, -x.b⟩ rfl ?_
      rcases (Rat.le_total : x.a ≤ 0 ∨ 0 ≤ x.a) with q | q
      · exact pos_one (by simp only; grind) (by simp only; grind) (.inr (by simp only; grind))
      · by_cases q0 : x.a = 0
        · exact pos_one (by simp only; grind) (by simp only; grind) (.inr (by simp only; grind))
        · exact pos_right (by grind) (by grind) (by grind)
    · have hb' : x.b ≠ 0 := by
        intro e; rw [e] at hlt
        have : 0 ≤ x.a * x.a := by
          rcases (Rat.le_total : x.a ≤ 0 ∨ 0 ≤ x.a) with q | q
          · have := Rat.mul_nonneg (show 0 ≤ -x.a by grind) (show 0 ≤ -x.a by grind); grind
          · exact Rat.mul_nonneg q q
        grind
      grind
  · have hne : x.a * x.a ≠ 2 * (x.b * x.b) := fun e => by
      obtain ⟨e1, e2⟩ := rat_irr e
      exact h.ne (Q2.ext' (by rw [e1]; simp) (by rw [e2]; simp))
    have hlt : 2 * (x.b * x.b) < x.a * x.a := by grind
    left
    refine ⟨?_, hlt⟩
    have bb : 0 ≤ x.b * x.b := by
      rcases (Rat.le_total : x.b ≤ 0 ∨ 0 ≤ x.b) with q | q
      · have := Rat.mul_nonneg (show 0 ≤ -x.b by grind) (show 0 ≤ -x.b by grind); grind
      · exact Rat.mul_nonneg q q
    rcases (Rat.le_total : x.a ≤ 0 ∨ 0 ≤ x.a) with q | q
    · exfalso
      have q0 : x.a ≠ 0 := by intro e; rw [e] at hlt; grind
      refine hneg ⟨-x.a, -x.b⟩ rfl ?_
      exact TyN.pos ⟨by simp only; grind, by simp only; grind⟩
    · have q0 : x.a ≠ 0 := by intro e; rw [e] at hlt; grind
      grind
theorem sq_lt {u v : Rat} (hv : 0 < v) (h : u * u < v * v) : -v < u := by
  rcases (Rat.le_total : u ≤ -v ∨ -v ≤ u) with g | g
  · exfalso
    have := Rat.mul_nonneg (show 0 ≤ -v - u by grind) (show 0 ≤ v - u by grind)
    grind
  · by_cases e : u = -v
    · exfalso; rw [e] at h; grind
    · grind
theorem TyN.mul {x y : Q2} (h : TyN x) (h' : TyN y) : TyN (x * y) := by
  obtain ⟨h1, h2⟩ := h
  obtain ⟨g1, g2⟩ := h'
  have hxy := Rat.mul_pos h1 g1
  have n1 : 0 < x.a * x.a - 2 * (x.b * x.b) := by grind
  have n2 : 0 < y.a * y.a - 2 * (y.b * y.b) := by grind
  have nn := Rat.mul_pos n1 n2
  have yy : 0 ≤ y.b * y.b := by
    rcases (Rat.le_total : y.b ≤ 0 ∨ 0 ≤ y.b) with q | q
    · have := Rat.mul_nonneg (show 0 ≤ -y.b by grind) (show 0 ≤ -y.b by grind); grind
    · exact Rat.mul_nonneg q q
  have xx : 0 ≤ x.b * x.b := by
    rcases (Rat.le_total : x.b ≤ 0 ∨ 0 ≤ x.b) with q | q
    · have := Rat.mul_nonneg (show 0 ≤ -x.b by grind) (show 0 ≤ -x.b by grind); grind
    · exact Rat.mul_nonneg q q
  have k1 := Rat.mul_nonneg (Rat.le_of_lt n1) yy
  have k2 := Rat.mul_nonneg xx (Rat.le_of_lt n2)
  have hs := sq_lt (u := 2 * (x.b * y.b)) hxy (by grind)
  refine ⟨?_, ?_⟩
  · simp only [Q2.mul_a]; grind
  · simp only [Q2.mul_a, Q2.mul_b]; grind
theorem Pos.times {x y : Q2} (hx : Pos x) (hy : Pos y) : Pos (x * y) := by
  rcases pos_type hx with a | a <;> rcases pos_type hy with b | b
  · exact (a.mul b).pos
  · have := (a.mul b).pos.root
    have e : x * y = ⟨2 * (x * (⟨y.b, y.a / 2⟩ : Q2)).b, (x * (⟨y.b, y.a / 2⟩ : Q2)).a⟩ := Q2.ext' (by simp only [Q2.mul_a, Q2.mul_b]; grind) (by simp only [Q2.mul_a, Q2.mul_b]; grind)
    rw [e]; exact this
  · have := (a.mul b).pos.root
    have e : x * y = ⟨2 * ((⟨x.b, x.a / 2⟩ : Q2) * y).b, ((⟨x.b, x.a / 2⟩ : Q2) * y).a⟩ := Q2.ext' (by simp only [Q2.mul_a, Q2.mul_b]; grind) (by simp only [Q2.mul_a, Q2.mul_b]; grind)
    rw [e]; exact this
  · have := (a.mul b).pos.scale (c := 2) (by grind)
    have e : x * y = ⟨2 * ((⟨x.b, x.a / 2⟩ : Q2) * (⟨y.b, y.a / 2⟩ : Q2)).a, 2 * ((⟨x.b, x.a / 2⟩ : Q2) * (⟨y.b, y.a / 2⟩ : Q2)).b⟩ := Q2.ext' (by simp only [Q2.mul_a, Q2.mul_b]; grind) (by simp only [Q2.mul_a, Q2.mul_b]; grind)
    rw [e]; exact this
end Go.Vai
/- Cut polygons: a line crosses them at most twice. -/
set_option linter.unusedVariables false
set_option linter.unusedSimpArgs false
set_option maxHeartbeats 4000000
namespace Go.Vai
/-! ### Signs by turns -/
/-- Four places, one behind the other, on the two sides by turns. -/
def Alt (s : Nat → Int) (n : Nat) : Prop := ∃ i j k m, i < j ∧ j < k ∧ k < m ∧ m ≤ n ∧ s i ≠ 0 ∧ s j = -s i ∧ s k = -s j ∧ s m = -s k
theorem per_mul {s : Nat → Int} {n : Nat} (h : ∀ i, s (i + n) = s i) (c : Nat) : ∀ i, s (i + n * c) = s i := by
  induction c with
  | zero => intro i; rfl
  | succ c ih => intro i; rw [Nat.mul_succ, ← Nat.add_assoc, h, ih]
theorem per_mod {s : Nat → Int} {n : Nat} (h : ∀ i, s (i + n) = s i) (i c : Nat) : s (i + c) = s (i + c % n) := by
  conv => lhs; rw [← Nat.mod_add_div c n]
  rw [← Nat.add_assoc, per_mul h]
/-- A turned closed line. -/
theorem Alt.turn {s : Nat → Int} {n : Nat} (hn : 0 < n) (h : ∀ i, s (i + n) = s i) (c0 : Nat) (ha : Alt (fun i => s (i + c0)) n) : Alt s n := by
  obtain ⟨i, j, k, m, h1, h2, h3, h4, a0, a1, a2, a3⟩ := ha
  simp only at a0 a1 a2 a3
  rw [per_mod h i c0] at a0 a1
  rw [per_mod h j c0] at a1 a2
  rw [per_mod h k c0] at a2 a3
  rw [per_mod h m c0] at a3
  have hc : c0 % n < n := Nat.mod_lt _ hn
  generalize c0 % n = c at *
  have back : ∀ x, n < x + c → s (x + c - n) = s (x + c) := fun x hx => by
    have := h (x + c - n)
    rw [show x + c - n + n = x + c by omega] at this; exact this.symm
  have hm0 : ¬ (m = n ∧ i = 0) := by
    rintro ⟨rfl, rfl⟩
    have e : s (m + c) = s c := by rw [Nat.add_comm, h]
    rw [e] at a3
    rw [Nat.zero_add] at a0 a1
    omega
  by_cases hm : m + c ≤ n
  · exact ⟨i + c, j + c, k + c, m + c, by omega, by omega, by omega, hm, a0, a1, a2, a3⟩
  · have bm := back m (by omega)
    by_cases hk : k + c ≤ n
    · exact ⟨m + c - n, i + c, j + c, k + c, by omega, by omega, by omega, hk, by rw [bm]; omega, by rw [bm]; omega, a1, a2⟩
    · have bk := back k (by omega)
      by_cases hj : j + c ≤ n
      · exact ⟨k + c - n, m + c - n, i + c, j + c, by omega, by omega, by omega, hj, by rw [bk]; omega, by rw [bm, bk]; omega, by rw [bm]; omega, a1⟩
      · have bj := back j (by omega)
        by_cases hi : i + c ≤ n
        · exact ⟨j + c - n, k + c - n, m + c - n, i + c, by omega, by omega, by omega, hi, by rw [bj]; omega, by rw [bk, bj]; omega, by rw [bm, bk]; omega, by rw [bm]; omega⟩
        · have bi := back i (by omega)
          exact ⟨i + c - n, j + c - n, k + c - n, m + c - n, by omega, by omega, by omega, by omega, by rw [bi]; exact a0, by rw [bj, bi]; exact a1, by rw [bk, bj]; exact a2, by rw [bm, bk]; exact a3⟩
/-- How often the sign changes from one place to the next one. -/
def chN (s : Nat → Int) : Nat → Nat
  | 0 => 0
  | k + 1 => chN s k + if s k * s (k + 1) < 0 then 1 else 0
theorem chN_find {s : Nat → Int} {c : Nat} : ∀ {n : Nat}, c < chN s n → ∃ i, i < n ∧ s i * s (i + 1) < 0 ∧ c ≤ chN s i
  | 0, h => by simp [chN] at h
  | n + 1, h => by
    simp only [chN] at h
    by_cases hc : s n * s (n + 1) < 0
    · rw [if_pos hc] at h
      exact ⟨n, by omega, hc, by omega⟩
    · rw [if_neg hc] at h
      obtain ⟨i, h1, h2, h3⟩ := chN_find (n := n) (c := c) (by omega)
      exact ⟨i, by omega, h2, h3⟩
def Sg (s : Nat → Int) : Prop := ∀ i, s i = -1 ∨ s i = 0 ∨ s i = 1
theorem Sg.opp {s : Nat → Int} (h : Sg s) {i j : Nat} (hp : s i * s j < 0) : s i ≠ 0 ∧ s j = -s i := by
  rcases h i with e | e | e <;> rcases h j with g | g | g <;> rw [e, g] at hp ⊢ <;> simp at hp ⊢
theorem chN_two {s : Nat → Int} {n : Nat} (hs : Sg s) (h : ¬ Alt s n) : chN s n ≤ 2 := by
  refine Classical.byContradiction fun hc => h ?_
  obtain ⟨i3, l3, c3, r3⟩ := chN_find (s := s) (n := n) (c := 2) (by omega)
  obtain ⟨i2, l2, c2, r2⟩ := chN_find (s := s) (n := i3) (c := 1) (by omega)
  obtain ⟨i1, l1, c1, r1⟩ := chN_find (s := s) (n := i2) (c := 0) (by omega)
  obtain ⟨z1, e1⟩ := hs.opp c1
  obtain ⟨z2, e2⟩ := hs.opp c2
  obtain ⟨z3, e3⟩ := hs.opp c3
  have d1 := hs i1
  have d2 := hs i2
  have d3 := hs i3
  by_cases g2 : s i2 = s i1
  · have hne : i1 + 1 ≠ i2 := by rintro rfl; omega
    exact ⟨i1, i1 + 1, i2, i2 + 1, by omega, by omega, by omega, by omega, z1, e1, by omega, e2⟩
  · have g2' : s i2 = -s i1 := by omega
    by_cases g3 : s i3 = s i1
    · exact ⟨i1, i2, i2 + 1, i3 + 1, by omega, by omega, by omega, by omega, z1, g2', e2, by omega⟩
    · have hne : i2 + 1 ≠ i3 := by rintro rfl; omega
      exact ⟨i1, i2, i2 + 1, i3, by omega, by omega, by omega, by omega, z1, g2', e2, by omega⟩
/-! ### Lines and closed lists -/
/-- No line of the eight directions has four corners on its two sides by turns. -/
def Cvx (ps : List Pt) : Prop := ∀ l, Lok l → ¬ Alt (fun i => sd l (pt ps i)) ps.length
theorem pt_per (ps : List Pt) (i : Nat) : pt ps (i + ps.length) = pt ps i := by unfold pt; rw [Nat.add_mod_right]
theorem sg_sd (l : Li) (ps : List Pt) : Sg fun i => sd l (pt ps i) := fun i => sd_range l (pt ps i)
theorem Uni.noAlt' {n u : Nat} {G : Nat → Q2} (h : Uni n u G) {s : Nat → Int} (hs : ∀ i, SgnP (s i) (G i)) : ¬ Alt s n := by
  rintro ⟨i, j, k, l, h1, h2, h3, h4, e0, e1, e2, e3⟩
  have key : ∀ a b c, a < b → b < c → c ≤ n → s a = 1 → s b = -1 → s c = 1 → False := by
    intro a b c hab hbc hc ea eb ec
    by_cases hu : b ≤ u
    · have := (hs a).le (hs b) (h.rise a b (by omega) hu); omega
    · have := (hs c).le (hs b) (h.fall b (by omega) c (by omega) (by omega)); omega
  rcases (hs i).cases with e | e | e
  · exact key i j k h1 h2 (by omega) e (by omega) (by omega)
  · exact e0 e
  · exact key j k l h2 h3 h4 (by omega) (by omega) (by omega)
theorem Conv.cvx {ps : List Pt} (hc : Conv ps) : Cvx ps := by
  intro l hl ha
  have hpk : ∀ k, PK (pt ps k) := fun k => hc.pk _ (nth_mem (Nat.mod_lt _ hc.n))
  obtain ⟨j0, u, hu⟩ := hc.uni (m := l.dir + 4) (by have := hl.d0; omega) (by have := hl.d1; omega) (val l.off)
  refine hu.noAlt' (s := fun i => sd l (pt ps (j0 + i))) (fun i => sd_sgn hl (hpk _)) ?_
  have hj : j0 % ps.length < ps.length := Nat.mod_lt _ hc.n
  refine Alt.turn (s := fun i => sd l (pt ps (j0 + i))) hc.n (fun i => by simp only [← Nat.add_assoc, pt_per]) (ps.length - j0 % ps.length) ?_
  have e : (fun i => sd l (pt ps (j0 + (i + (ps.length - j0 % ps.length))))) = fun i => sd l (pt ps i) := by
    funext i
    congr 1
    unfold pt
    congr 1
    have h1 := Nat.mod_add_div j0 ps.length
    rw [show j0 + (i + (ps.length - j0 % ps.length)) = i + ps.length + ps.length * (j0 / ps.length) by omega, Nat.add_mul_mod_self_left, Nat.add_mod_right]
  simp only [e]
  exact ha
theorem nth_rot' {l : List Pt} {c : Nat} (hc : c ≤ l.length) (k : Nat) (h0 : 0 < l.length) : pt (l.drop c ++ l.take c) k = pt l (k + c) := by
  have hlen : (l.drop c ++ l.take c).length = l.length := by simp; omega
  unfold pt
  rw [hlen, nth_rot hc (Nat.mod_lt _ h0), Nat.mod_add_mod]
theorem Cvx.rot {ps : List Pt} (h : Cvx ps) : Cvx (rot0 ps) := by
  intro l hl ha
  by_cases h0 : 0 < ps.length
  · refine h l hl ?_
    rw [rot0_len] at ha
    have e : (fun i => sd l (pt (rot0 ps) i)) = fun i => sd l (pt ps (i + least ps)) := by
      funext i
      unfold rot0
      rw [nth_rot' (least_le ps) i h0]
    rw [e] at ha
    exact Alt.turn (s := fun i => sd l (pt ps i)) h0 (fun i => by simp only [pt_per]) (least ps) ha
  · rw [rot0_len] at ha
    obtain ⟨i, j, k, m, h1, h2, h3, h4, -⟩ := ha
    omega
/-! ### Between -/
theorem sq_unit {d : Int} (h0 : 0 ≤ d) (h1 : d ≤ 15) : ∃ i : Q2, (val (vec d).x * val (vec d).x + val (vec d).y * val (vec d).y) * i = 1 := by
  have hd := sq_Dv h0 h1
  have h1 : val (⟨1, 0, 0⟩ : Nu) = 1 := by apply Q2.ext' <;> simp [val, pr, pw] <;> grind
  have h2 := val_ndiv (x := ⟨1, 0, 0⟩) (by simp) hd
  rw [val_ndot (vec_k d) (vec_k d)] at h2
  exact ⟨_, by rw [Lean.Grind.CommSemiring.mul_comm]; rw [h2]; exact h1⟩
/-- Three points of a line: their places by one functional are as their places by another one. -/
theorem cross_ratio {L : Li} {p q x : Pt} (hL : Lok L) (o1 : on L p) (o2 : on L q) (o3 : on L x) (m k : Int) : (fv m x - fv m p) * (fv k q - fv k p) = (fv m q - fv m p) * (fv k x - fv k p) := by
  obtain ⟨i, hi⟩ := sq_unit (d := L.dir + 4) (by have := hL.d0; omega) (by have := hL.d1; omega)
  unfold on at o1 o2 o3
  generalize val (vec (L.dir + 4)).x = nx at *
  generalize val (vec (L.dir + 4)).y = ny at *
  have c1 : nx * ((val q.x - val p.x) * (val x.y - val p.y) - (val q.y - val p.y) * (val x.x - val p.x)) = 0 := by grind
  have c2 : ny * ((val q.x - val p.x) * (val x.y - val p.y) - (val q.y - val p.y) * (val x.x - val p.x)) = 0 := by grind
  have c : (val q.x - val p.x) * (val x.y - val p.y) - (val q.y - val p.y) * (val x.x - val p.x) = 0 := by grind
  unfold fv
  grind
theorem comb {X P Q u v w : Q2} {a b c : Int} (hu : Pos u) (hv : Pos v) (hw : Pos w) (he : X * w = P * u + Q * v) (hx : SgnP a X) (hp : SgnP b P) (hq : SgnP c Q) (ha : a ≠ 0) : b = a ∨ c = a := by
  refine Classical.byContradiction fun hno => ?_
  have n1 : b ≠ a := fun e => hno (.inl e)
  have n2 : c ≠ a := fun e => hno (.inr e)
  have key : ∀ {X P Q : Q2}, X * w = P * u + Q * v → Pos X → (P = 0 ∨ Pos (-P)) → (Q = 0 ∨ Pos (-Q)) → False := by
    intro X P Q he hX hP hQ
    have h1 := hX.times hw
    rw [he] at h1
    rcases hP with rfl | hP <;> rcases hQ with rfl | hQ
    · exact h1.ne (by grind)
    · have := h1.add (hQ.times hv)
      exact this.ne (by grind)
    · have := h1.add (hP.times hu)
      exact this.ne (by grind)
    · have := (h1.add (hP.times hu)).add (hQ.times hv)
      exact this.ne (by grind)
  rcases hx with ⟨rfl, hX⟩ | ⟨rfl, hX⟩ | ⟨rfl, hX⟩
  · refine key he hX ?_ ?_
    · rcases hp with ⟨e, h⟩ | ⟨e, h⟩ | ⟨e, h⟩
      · exact (n1 e).elim
      · exact .inl h
      · exact .inr h
    · rcases hq with ⟨e, h⟩ | ⟨e, h⟩ | ⟨e, h⟩
      · exact (n2 e).elim
      · exact .inl h
      · exact .inr h
  · exact ha rfl
  · refine key (X := -X) (P := -P) (Q := -Q) (by grind) hX ?_ ?_
    · rcases hp with ⟨e, h⟩ | ⟨e, h⟩ | ⟨e, h⟩
      · exact .inr (by rwa [show - -P = P by grind])
      · exact .inl (by rw [h]; grind)
      · exact (n1 e).elim
    · rcases hq with ⟨e, h⟩ | ⟨e, h⟩ | ⟨e, h⟩
      · exact .inr (by rwa [show - -Q = Q by grind])
      · exact .inl (by rw [h]; grind)
      · exact (n2 e).elim
/-- A point of a line, between two others of it by one functional, is between them by every other one. -/
theorem between {L l0 l : Li} {p q x : Pt} (hL : Lok L) (h0 : Lok l0) (hl : Lok l) (pp : PK p) (pq : PK q) (px : PK x) (o1 : on L p) (o2 : on L q) (o3 : on L x) (hx : on l0 x) (hs : sd l0 p * sd l0 q < 0) (hne : sd l x ≠ 0) :
    sd l p = sd l x ∨ sd l q = sd l x := by
  have a1 := sd_sgn h0 pp
  have a2 := sd_sgn h0 pq
  have b1 := sd_sgn hl pp
  have b2 := sd_sgn hl pq
  have b3 := sd_sgn hl px
  have hx0 : fv (l0.dir + 4) x = val l0.off := hx
  have cr := cross_ratio hL o1 o2 o3 (l.dir + 4) (l0.dir + 4)
  rw [hx0] at cr
  rcases a1 with ⟨e1, p1⟩ | ⟨e1, p1⟩ | ⟨e1, p1⟩
  · rcases a2 with ⟨e2, p2⟩ | ⟨e2, p2⟩ | ⟨e2, p2⟩
    · rw [e1, e2] at hs; simp at hs
    · rw [e1, e2] at hs; simp at hs
    · exact comb (u := -(fv (l0.dir + 4) q - val l0.off)) (v := fv (l0.dir + 4) p - val l0.off) (w := (fv (l0.dir + 4) p - val l0.off) + -(fv (l0.dir + 4) q - val l0.off)) p2 p1 (p1.add p2) (by grind) b3 b1 b2 hne
  · rw [e1] at hs; simp at hs
  · rcases a2 with ⟨e2, p2⟩ | ⟨e2, p2⟩ | ⟨e2, p2⟩
    · exact comb (u := fv (l0.dir + 4) q - val l0.off) (v := -(fv (l0.dir + 4) p - val l0.off)) (w := (fv (l0.dir + 4) q - val l0.off) + -(fv (l0.dir + 4) p - val l0.off)) p2 p1 (p2.add p1) (by grind) b3 b1 b2 hne
    · rw [e1, e2] at hs; simp at hs
    · rw [e1, e2] at hs; simp at hs
/-! ### A cut list -/
def cutX (l0 : Li) (ps : List Pt) (e : Nat × Bool) : Pt := if e.2 = true then meetP (sideL (nth ps e.1) (nxt ps e.1)) l0 else nth ps e.1
def cutP (l0 : Li) (s : Int) (ps : List Pt) : Nat → List (Nat × Bool)
  | 0 => []
  | k + 1 => cutP l0 s ps k ++ ((if 0 ≤ s * sd l0 (nth ps k) then [(k, false)] else []) ++ (if s * sd l0 (nth ps k) * (s * sd l0 (nxt ps k)) < 0 then [(k, true)] else []))
theorem cutP_map (l0 : Li) (s : Int) (ps : List Pt) : ∀ k, (cutP l0 s ps k).map (cutX l0 ps) = cutN l0 s ps k
  | 0 => rfl
  | k + 1 => by
    simp only [cutP, cutN, cutF, List.map_append, cutP_map l0 s ps k]
    congr 2
    · split <;> rfl
    · split <;> rfl
def cpos (e : Nat × Bool) : Nat := 2 * e.1 + if e.2 = true then 1 else 0
theorem cutP_bound (l0 : Li) (s : Int) (ps : List Pt) : ∀ k e, e ∈ cutP l0 s ps k → e.1 < k ∧ (e.2 = true → s * sd l0 (nth ps e.1) * (s * sd l0 (nxt ps e.1)) < 0)
  | 0, e, h => by simp [cutP] at h
  | k + 1, e, h => by
    simp only [cutP, List.mem_append] at h
    rcases h with h | h | h
    · have := cutP_bound l0 s ps k e h
      exact ⟨by omega, this.2⟩
    · split at h
      · obtain rfl := List.mem_singleton.1 h; exact ⟨by simp, by simp⟩
      · simp at h
    · split at h
      · rename_i hx; obtain rfl := List.mem_singleton.1 h; exact ⟨by simp, fun _ => hx⟩
      · simp at h
theorem cutP_sorted (l0 : Li) (s : Int) (ps : List Pt) : ∀ k, (cutP l0 s ps k).Pairwise fun a b => cpos a < cpos b
  | 0 => List.Pairwise.nil
  | k + 1 => by
    simp only [cutP]
    rw [List.pairwise_append]
    refine ⟨cutP_sorted l0 s ps k, ?_, fun a ha b hb => ?_⟩
    · split <;> split <;> simp [cpos]
    · have h1 := (cutP_bound l0 s ps k a ha).1
      have ha' : cpos a < 2 * k := by unfold cpos; split <;> omega
      have hb' : 2 * k ≤ cpos b := by
        rcases List.mem_append.1 hb with hb | hb
        · split at hb
          · obtain rfl := List.mem_singleton.1 hb; simp [cpos]
          · simp at hb
        · split at hb
          · obtain rfl := List.mem_singleton.1 hb; simp [cpos]
          · simp at hb
      omega
theorem Alt.strict {s : Nat → Int} {n : Nat} (h : ∀ i, s (i + n) = s i) (ha : Alt s n) : ∃ i j k m, i < j ∧ j < k ∧ k < m ∧ m < n ∧ s i ≠ 0 ∧ s j = -s i ∧ s k = -s j ∧ s m = -s k := by
  obtain ⟨i, j, k, m, h1, h2, h3, h4, a0, a1, a2, a3⟩ := ha
  by_cases hm : m < n
  · exact ⟨i, j, k, m, h1, h2, h3, hm, a0, a1, a2, a3⟩
  · have hmn : m = n := by omega
    have e0 : s m = s 0 := by rw [hmn]; have := h 0; rwa [Nat.zero_add] at this
    have hi : i ≠ 0 := by intro hi; rw [hi] at a0 a1; omega
    exact ⟨0, i, j, k, by omega, h1, h2, by omega, by omega, by omega, by omega, by omega⟩
/-- Cutting keeps that lines cross at most twice. -/
theorem Cvx.cut {K M : Nat} {ps : List Pt} {l0 : Li} {s : Int} (h : Cvx ps) (hg : Good K M l0 s ps) (h0 : Lok l0) (hs : s = 1 ∨ s = -1) (hp : ∀ p ∈ ps, PK p) : Cvx (cutN l0 s ps ps.length) := by
  intro l hl ha
  obtain ⟨i, j, k, m, h1, h2, h3, h4, a0, a1, a2, a3⟩ := ha.strict fun i => by simp only [pt_per]
  generalize hC : cutN l0 s ps ps.length = C at *
  rw [pt_lt (show i < C.length by omega)] at a0 a1
  rw [pt_lt (show j < C.length by omega)] at a1 a2
  rw [pt_lt (show k < C.length by omega)] at a2 a3
  rw [pt_lt h4] at a3
  have hmap := cutP_map l0 s ps ps.length
  rw [hC] at hmap
  have hsort := cutP_sorted l0 s ps ps.length
  have hbd := cutP_bound l0 s ps ps.length
  generalize cutP l0 s ps ps.length = D at *
  have hlen : D.length = C.length := by rw [← hmap]; simp
  rw [List.pairwise_iff_getElem] at hsort
  -- a corner with the same sign
  have pick : ∀ x, x < C.length → sd l (nth C x) ≠ 0 → ∃ g e, D[x]? = some e ∧ sd l (pt ps g) = sd l (nth C x) ∧ cpos e / 2 ≤ g ∧ g ≤ (cpos e + 1) / 2 ∧ g ≤ ps.length := by
    intro x hx hz
    have hxD : x < D.length := by omega
    have e1 : nth C x = cutX l0 ps D[x] := by
      rw [nth_eq hx]
      simp only [← hmap, List.getElem_map]
    rcases hDx : D[x] with ⟨c, b⟩
    have hm : D[x] ∈ D := List.getElem_mem _
    rw [hDx] at e1 hm
    obtain ⟨c1, c2⟩ := hbd _ hm
    simp only at c1 c2
    have hD : D[x]? = some (c, b) := by rw [List.getElem?_eq_getElem hxD, hDx]
    cases b with
    | false =>
      refine ⟨c, (c, false), hD, ?_, by simp [cpos], by simp [cpos]; omega, by omega⟩
      rw [e1, pt_lt c1]; rfl
    | true =>
      have hx2 := c2 rfl
      obtain ⟨g1, g2, g3⟩ := hg c c1 hx2
      have hmod : (c + 1) % ps.length < ps.length := Nat.mod_lt _ (by omega)
      have pp := hp _ (nth_mem c1)
      have pq : PK (nxt ps c) := hp _ (nth_mem hmod)
      have hL : Lok (sideL (nth ps c) (nxt ps c)) := sideL_ok pp
      obtain ⟨o1, o2⟩ := side_ends pp pq g1
      obtain ⟨o3, o4⟩ := meet_on hL h0 g2
      have hsd : sd l0 (nth ps c) * sd l0 (nxt ps c) < 0 := by
        rcases hs with rfl | rfl
        · simpa using hx2
        · simpa [Int.neg_mul_neg] using hx2
      have hcx : nth C x = meetP (sideL (nth ps c) (nxt ps c)) l0 := by rw [e1]; rfl
      rw [hcx] at hz ⊢
      rcases between hL h0 hl pp pq (meet_k hL h0) o1 o2 o3 o4 hsd hz with h | h
      · exact ⟨c, (c, true), hD, by rw [pt_lt c1]; exact h, by simp [cpos]; omega, by simp [cpos]; omega, by omega⟩
      · exact ⟨c + 1, (c, true), hD, h, by simp [cpos]; omega, by simp [cpos]; omega, by omega⟩
  have sorted : ∀ (x y : Nat) (e e' : Nat × Bool), x < y → D[x]? = some e → D[y]? = some e' → cpos e < cpos e' := by
    intro x y e e' hxy he he'
    obtain ⟨q1, rfl⟩ := List.getElem?_eq_some_iff.1 he
    obtain ⟨q2, rfl⟩ := List.getElem?_eq_some_iff.1 he'
    exact hsort x y q1 q2 hxy
  obtain ⟨gi, ei, di, si, li, ui, ni⟩ := pick i (by omega) a0
  obtain ⟨gj, ej, dj, sj, lj, uj, nj⟩ := pick j (by omega) (by omega)
  obtain ⟨gk, ek, dk, sk, lk, uk, nk⟩ := pick k (by omega) (by omega)
  obtain ⟨gm, em, dm', sm, lm, um, nm⟩ := pick m h4 (by omega)
  have t1 := sorted i j ei ej h1 di dj
  have t2 := sorted j k ej ek h2 dj dk
  have t3 := sorted k m ek em h3 dk dm'
  have n1 : gi ≠ gj := by rintro rfl; omega
  have n2 : gj ≠ gk := by rintro rfl; omega
  have n3 : gk ≠ gm := by rintro rfl; omega
  have r0 : sd l (pt ps gi) ≠ 0 := by rw [si]; exact a0
  have r1 : sd l (pt ps gj) = -sd l (pt ps gi) := by rw [sj, si]; exact a1
  have r2 : sd l (pt ps gk) = -sd l (pt ps gj) := by rw [sk, sj]; exact a2
  have r3 : sd l (pt ps gm) = -sd l (pt ps gk) := by rw [sm, sk]; exact a3
  exact h l hl ⟨gi, gj, gk, gm, by omega, by omega, by omega, by omega, r0, r1, r2, r3⟩
theorem Cvx.nil : Cvx [] := by
  rintro l hl ⟨i, j, k, m, h1, h2, h3, h4, -⟩
  simp only [List.length_nil] at h4; omega
theorem Cvx.half {K M : Nat} {ps : List Pt} {l0 : Li} {s : Int} (h : Cvx ps) (hg : Good K M l0 s ps) (h0 : Lok l0) (hs : s = 1 ∨ s = -1) (hp : ∀ p ∈ ps, PK p) : Cvx (halfR l0 s ps) := by
  unfold halfR; split
  · exact h.cut hg h0 hs hp
  · exact Cvx.nil
theorem Cvx.part {K M : Nat} {ps : List Pt} {l0 : Li} {s : Int} (h : Cvx ps) (hg : Good K M l0 s ps) (h0 : Lok l0) (hs : s = 1 ∨ s = -1) (hp : ∀ p ∈ ps, PK p) : Cvx (partR l0 s ps) := by
  rw [partR_eq]; split
  · exact (h.half hg h0 hs hp).rot
  · exact h.half hg h0 hs hp
/-- How long a cut list is. -/
theorem cutN_ch {l0 : Li} {s : Int} {ps : List Pt} (hs : s = 1 ∨ s = -1) : ∀ k, k ≤ ps.length → (cutN l0 s ps k).length ≤ k + chN (fun i => sd l0 (pt ps i)) k
  | 0, _ => by simp [cutN]
  | k + 1, hk => by
    have ih := cutN_ch (l0 := l0) (ps := ps) hs k (by omega)
    have e : s * sd l0 (nth ps k) * (s * sd l0 (nxt ps k)) = sd l0 (nth ps k) * sd l0 (nxt ps k) := by
      rcases hs with rfl | rfl
      · simp
      · simp [Int.neg_mul_neg]
    have hpk : pt ps k = nth ps k := pt_lt (by omega)
    have hnx : pt ps (k + 1) = nxt ps k := rfl
    simp only [cutN, cutF, List.length_append, chN, hpk, hnx, e]
    have u1 : (if 0 ≤ s * sd l0 (nth ps k) then [nth ps k] else []).length ≤ 1 := by split <;> simp
    by_cases hx : sd l0 (nth ps k) * sd l0 (nxt ps k) < 0
    · simp only [if_pos hx, List.length_singleton]; omega
    · simp only [if_neg hx, List.length_nil]; omega
theorem Cvx.len {ps : List Pt} {l0 : Li} {s : Int} (h : Cvx ps) (h0 : Lok l0) (hs : s = 1 ∨ s = -1) : (partR l0 s ps).length ≤ ps.length + 2 := by
  unfold partR; split
  · rw [rot0_len]
    have h1 := cutN_ch (l0 := l0) (ps := ps) hs ps.length (Nat.le_refl _)
    have h2 := chN_two (sg_sd l0 ps) (h l0 h0)
    omega
  · simp
theorem comN_cvx {a b : List Pt} (ha : Fine a) (ca : Cvx a) (hb : Poly b) : ∀ k, k ≤ b.length → Cvx (comN a b k) ∧ (comN a b k).length ≤ a.length + 2 * k
  | 0, _ => ⟨ca, by simp [comN]⟩
  | k + 1, hk => by
    obtain ⟨h1, h2⟩ := comN_cvx ha ca hb k (by omega)
    have hl := sideL_ok (q := nxt b k) (hb.pk _ (nth_mem (show k < b.length by omega)))
    have hf := comN_fine ha hb k (by omega)
    obtain ⟨S, q1, q2, q3⟩ := hf
    have hg : Good 10 MM (sideL (nth b k) (nxt b k)) (sideS (nth b k) (nxt b k)) (comN a b k) := Fine.good ⟨S, q1, q2, q3⟩ hl
    refine ⟨h1.part hg hl (sideS_or _ _) q3, ?_⟩
    have := h1.len (s := sideS (nth b k) (nxt b k)) hl (sideS_or _ _)
    show (partR _ _ _).length ≤ _
    omega
end Go.Vai
