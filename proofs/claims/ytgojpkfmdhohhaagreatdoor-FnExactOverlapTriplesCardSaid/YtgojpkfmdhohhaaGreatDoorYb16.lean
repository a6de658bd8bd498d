/- Merged texts of this claim: Zp12, Zh1, Zh2, Zh3. -/
import Derived.Test.YtgojpkfmdhohhaaGreatDoorYb15
import Derived.Test.YtgojpkfmdhohhaaGreatDoorYb21
/- Lists of points as a law hands them on; polygons that overlap. -/
set_option linter.unusedVariables false
set_option linter.unusedSimpArgs false
set_option maxHeartbeats 4000000
namespace Go.Vai
/-- What a valid polygon is known for. -/
theorem polI_poly {l : List Pt} (h : polI l = true) : Poly l ∧ 3 ≤ l.length ∧ l.length ≤ 16 ∧ ∀ p ∈ l, vP p = true := by
  unfold polI convI at h
  simp only [Bool.and_eq_true, decide_eq_true_eq, List.all_eq_true, List.mem_range] at h
  obtain ⟨⟨⟨hin, hv⟩, ⟨hc3, hok⟩, hsum⟩, hle⟩ := h
  have hin := (inB_iff ..).1 hin
  refine ⟨⟨fun p hp => vP_bound (hv p hp), fun k hk => ?_⟩, by omega, by omega, hv⟩
  have := hok k hk
  simp only [okI, Bool.and_eq_true, decide_eq_true_eq] at this
  exact this.1.1
theorem pow_len {n m : Nat} (hn : n ≤ 16) (hm : m ≤ 16) : n * 2 ^ (m + 1) ≤ 2097152 := by
  have h1 : 2 ^ (m + 1) ≤ 2 ^ 17 := Nat.pow_le_pow_right (by decide) (by omega)
  have := Nat.mul_le_mul hn h1
  omega
def ovI (a b : List Pt) : Bool := decide (0 < (commonR a b).length)
theorem o46 {a b : List Pt} (ha : polI a = true) (hb : polI b = true) : PC E 46 [.i (.sl (encPs a)), .i (.sl (encPs b))] [.i (.bool (ovI a b))] := by
  obtain ⟨p1, n1, m1, -⟩ := polI_poly ha
  obtain ⟨p2, n2, m2, -⟩ := polI_poly hb
  have := pow_len m1 m2
  exact c46 a b (com_of p1.fine (fun p hp => up13 (p1.v p hp)) p2) (by decide) (by decide) (by decide) (by omega) (by omega)
theorem o33 {a b : List Pt} (ha : polI a = true) (hb : polI b = true) : PC E 33 [.i (.sl (encPs a)), .i (.sl (encPs b))] [.i (.bool (ovI a b))] := by
  obtain ⟨p1, n1, m1, -⟩ := polI_poly ha
  obtain ⟨p2, n2, m2, -⟩ := polI_poly hb
  have := pow_len m1 m2
  unfold ovI
  rw [overlap_eq]
  exact c33 a b (spc_of p1.fine (fun p hp => up13 (p1.v p hp)) p2) (by decide) (by decide) (by decide) (by omega) (by omega) (by omega)
def ovB (a b : List Pt) : Bool := polI a && polI b && ovI a b
end Go.Vai
/- A closed line that goes up once and down once meets a level exactly twice. -/
set_option linter.unusedVariables false
set_option linter.unusedSimpArgs false
set_option maxHeartbeats 4000000
namespace Go.Vai
/-- s is the sign of x. -/
def SgnP (s : Int) (x : Q2) : Prop := (s = 1 ∧ Pos x) ∨ (s = 0 ∧ x = 0) ∨ (s = -1 ∧ Pos (-x))
theorem sgnP_nsign (x : Nu) : SgnP (nsign x) (val x) := by
  rcases nsign_range x with h | h | h
  · refine .inr (.inr ⟨h, ?_⟩)
    have := pos_of (x := nneg x) (by rw [nsign_neg, h]; rfl)
    rwa [val_nneg] at this
  · exact .inr (.inl ⟨h, nsign_zero.1 h⟩)
  · exact .inl ⟨h, pos_of h⟩
def LeQ (x y : Q2) : Prop := y = x ∨ Pos (y - x)
theorem LeQ.refl (x : Q2) : LeQ x x := .inl rfl
theorem LeQ.trans {x y z : Q2} (h : LeQ x y) (h' : LeQ y z) : LeQ x z := by
  rcases h with rfl | h
  · exact h'
  · rcases h' with rfl | h'
    · exact .inr h
    · refine .inr ?_
      have := h.add h'
      rwa [show y - x + (z - y) = z - x by grind] at this
theorem SgnP.cases {s : Int} {x : Q2} (h : SgnP s x) : s = 1 ∨ s = 0 ∨ s = -1 := by
  rcases h with h | h | h
  · exact .inl h.1
  · exact .inr (.inl h.1)
  · exact .inr (.inr h.1)
theorem SgnP.pos {x : Q2} {s : Int} (h : SgnP s x) : s = 1 ↔ Pos x := by
  constructor
  · intro e; subst e
    rcases h with h | h | h
    · exact h.2
    · exact absurd h.1 (by decide)
    · exact absurd h.1 (by decide)
  · intro p
    rcases h with h | h | h
    · exact h.1
    · exact absurd h.2 p.ne
    · exact (p.anti h.2).elim
theorem SgnP.neg {x : Q2} {s : Int} (h : SgnP s x) : s = -1 ↔ Pos (-x) := by
  constructor
  · intro e; subst e
    rcases h with h | h | h
    · exact absurd h.1 (by decide)
    · exact absurd h.1 (by decide)
    · exact h.2
  · intro p
    rcases h with h | h | h
    · exact (h.2.anti p).elim
    · exact absurd (show -x = 0 by rw [h.2]; grind) p.ne
    · exact h.1
theorem SgnP.lt {x y : Q2} {a b : Int} (ha : SgnP a x) (hb : SgnP b y) (h : Pos (y - x)) : a ≤ b ∧ (a = 0 → b = 1) ∧ (b = 0 → a = -1) := by
  have k1 : Pos x → Pos y := fun p => by have := p.add h; rwa [show x + (y - x) = y by grind] at this
  have k2 : x = 0 → Pos y := fun e => by rwa [e, show y - 0 = y by grind] at h
  have k3 : y = 0 → Pos (-x) := fun e => by rwa [e, show 0 - x = -x by grind] at h
  rcases ha with ⟨rfl, pa⟩ | ⟨rfl, pa⟩ | ⟨rfl, pa⟩
  · have := hb.pos.2 (k1 pa); omega
  · have := hb.pos.2 (k2 pa); omega
  · rcases hb.cases with e | e | e <;> omega
theorem SgnP.eq {x y : Q2} {a b : Int} (ha : SgnP a x) (hb : SgnP b y) (h : y = x) : a = b := by
  subst h
  rcases ha.cases with e | e | e
  · rw [e]; exact (hb.pos.2 (ha.pos.1 e)).symm
  · rcases hb.cases with g | g | g
    · have := ha.pos.2 (hb.pos.1 g); omega
    · omega
    · have := ha.neg.2 (hb.neg.1 g); omega
  · rw [e]; exact (hb.neg.2 (ha.neg.1 e)).symm
theorem SgnP.le {x y : Q2} {a b : Int} (ha : SgnP a x) (hb : SgnP b y) (h : LeQ x y) : a ≤ b := by
  rcases h with h | h
  · exact Int.le_of_eq (ha.eq hb h)
  · exact (ha.lt hb h).1
def eN (s t : Int) : Nat := (if s = 0 then 1 else 0) + (if s * t < 0 then 1 else 0)
def cN (s : Nat → Int) : Nat → Nat
  | 0 => 0
  | k + 1 => cN s k + eN (s k) (s (k + 1))
/-- Up once, then down once. -/
structure Uni (n u : Nat) (G : Nat → Q2) : Prop where
  hu : u < n
  up : ∀ i, i < u → Pos (G (i + 1) - G i)
  top : LeQ (G (u + 1)) (G u)
  down : ∀ i, u < i → i + 1 < n → Pos (G i - G (i + 1))
  bot : LeQ (G n) (G (n - 1))
  per : G n = G 0
theorem Uni.rise {n u : Nat} {G : Nat → Q2} (h : Uni n u G) (i : Nat) : ∀ j, i ≤ j → j ≤ u → LeQ (G i) (G j) := by
  intro j
  induction j with
  | zero => intro h1 _; obtain rfl : i = 0 := by omega
            exact LeQ.refl _
  | succ j ih =>
    intro h1 h2
    by_cases e : i = j + 1
    · subst e; exact LeQ.refl _
    · exact (ih (by omega) (by omega)).trans (.inr (h.up j (by omega)))
theorem Uni.fallStep {n u : Nat} {G : Nat → Q2} (h : Uni n u G) {i : Nat} (h1 : u ≤ i) (h2 : i < n) : LeQ (G (i + 1)) (G i) := by
  by_cases e : i = u
  · subst e; exact h.top
  · by_cases e2 : i + 1 < n
    · exact .inr (h.down i (by omega) e2)
    · have e3 : i + 1 = n := by omega
      have e4 : n - 1 = i := by omega
      have := h.bot
      rwa [e4, ← e3] at this
theorem Uni.fall {n u : Nat} {G : Nat → Q2} (h : Uni n u G) (i : Nat) (h0 : u ≤ i) : ∀ j, i ≤ j → j ≤ n → LeQ (G j) (G i) := by
  intro j
  induction j with
  | zero => intro h1 _; obtain rfl : i = 0 := by omega
            exact LeQ.refl _
  | succ j ih =>
    intro h1 h2
    by_cases e : i = j + 1
    · subst e; exact LeQ.refl _
    · exact (h.fallStep (by omega) (by omega)).trans (ih (by omega) (by omega))
theorem Uni.least {n u : Nat} {G : Nat → Q2} (h : Uni n u G) {i : Nat} (hi : i ≤ n) : LeQ (G 0) (G i) := by
  by_cases e : i ≤ u
  · exact h.rise 0 i (by omega) e
  · have := h.fall i (by omega) n hi (Nat.le_refl _)
    rwa [h.per] at this
theorem Uni.most {n u : Nat} {G : Nat → Q2} (h : Uni n u G) {i : Nat} (hi : i ≤ n) : LeQ (G i) (G u) := by
  by_cases e : i ≤ u
  · exact h.rise i u e (Nat.le_refl _)
  · exact h.fall u (Nat.le_refl _) i (by omega) hi
theorem Uni.two {n u : Nat} {G : Nat → Q2} (h : Uni n u G) {s : Nat → Int} (hs : ∀ i, SgnP (s i) (G i)) (hp : ∃ i, i < n ∧ s i = 1) (hm : ∃ i, i < n ∧ s i = -1) : cN s n = 2 := by
  obtain ⟨a, ha, ea⟩ := hp
  obtain ⟨b, hb, eb⟩ := hm
  have s0 : s 0 = -1 := by
    have := (hs 0).le (hs b) (h.least (by omega))
    rcases (hs 0).cases with e | e | e <;> omega
  have sn : s n = -1 := by rw [← s0]; exact (hs n).eq (hs 0) h.per.symm
  have su : s u = 1 := by
    have := (hs a).le (hs u) (h.most (by omega))
    rcases (hs u).cases with e | e | e <;> omega
  have U : ∀ i, i ≤ u → cN s i = if s i = 1 then 1 else 0 := by
    intro i
    induction i with
    | zero => intro _; simp [cN, s0]
    | succ i ih =>
      intro hi
      have hl := (hs i).lt (hs (i + 1)) (h.up i (by omega))
      simp only [cN, ih (by omega), eN]
      rcases (hs i).cases with e | e | e <;> rcases (hs (i + 1)).cases with g | g | g <;> (first | (exfalso; omega) | (simp only [e, g]; decide))
  have cu : cN s u = 1 := by rw [U u (Nat.le_refl _), su]; rfl
  have D : ∀ i, u < i → i < n → cN s i = if s i = -1 then 2 else 1 := by
    intro i
    induction i with
    | zero => intro h1; omega
    | succ i ih =>
      intro h1 h2
      by_cases e : i = u
      · subst e
        simp only [cN, cu, eN, su]
        rcases (hs (i + 1)).cases with g | g | g <;> rw [g] <;> decide
      · have hl := (hs (i + 1)).lt (hs i) (h.down i (by omega) h2)
        simp only [cN, ih (by omega) (by omega), eN]
        rcases (hs i).cases with e | e | e <;> rcases (hs (i + 1)).cases with g | g | g <;> (first | (exfalso; omega) | (simp only [e, g]; decide))
  have hn : n = (n - 1) + 1 := by have := h.hu; omega
  have hu := h.hu
  rw [hn]
  simp only [cN]
  rw [← hn, sn]
  by_cases e : n - 1 = u
  · rw [e, cu, su]; decide
  · rw [D (n - 1) (by omega) (by omega)]
    have hl := (hs n).le (hs (n - 1)) h.bot
    rcases h.bot with hb2 | hb2
    · have := (hs n).eq (hs (n - 1)) hb2
      rw [← this, sn]; decide
    · have := (hs n).lt (hs (n - 1)) hb2
      rcases (hs (n - 1)).cases with g | g | g <;> rw [g] <;> decide
/-- No four places that lie on the two sides by turns. -/
theorem Uni.noAlt {n u : Nat} {G : Nat → Q2} (h : Uni n u G) {s : Nat → Int} (hs : ∀ i, SgnP (s i) (G i)) {i j k l : Nat} (h1 : i < j) (h2 : j < k) (h3 : k < l) (h4 : l < n)
    (e1 : s j = -s i) (e2 : s k = -s j) (e3 : s l = -s k) : s i = 0 := by
  have key : ∀ a b c, a < b → b < c → c < n → s a = 1 → s b = -1 → s c = 1 → False := by
    intro a b c hab hbc hc ea eb ec
    by_cases hu : b ≤ u
    · have := (hs a).le (hs b) (h.rise a b (by omega) hu); omega
    · have := (hs c).le (hs b) (h.fall b (by omega) c (by omega) (by omega)); omega
  rcases (hs i).cases with e | e | e
  · exact (key i j k h1 h2 (by omega) e (by omega) (by omega)).elim
  · exact e
  · exact (key j k l h2 h3 h4 (by omega) (by omega) (by omega)).elim
end Go.Vai
/- A valid polygon goes up once and down once along every direction. -/
set_option linter.unusedVariables false
set_option linter.unusedSimpArgs false
set_option maxHeartbeats 4000000
namespace Go.Vai
theorem fv_half {m : Int} (h0 : 0 ≤ m) (h1 : m ≤ 15) (p : Pt) : fv ((m + 8) % 16) p = -fv m p := by
  have hx : val (vec ((m + 8) % 16)).x = -val (vec m).x ∧ val (vec ((m + 8) % 16)).y = -val (vec m).y := by
    rw [← val_nneg, ← val_nneg]
    rcases dir16 h0 h1 with rfl | rfl | rfl | rfl | rfl | rfl | rfl | rfl | rfl | rfl | rfl | rfl | rfl | rfl | rfl | rfl <;> exact ⟨rfl, rfl⟩
  unfold fv
  rw [hx.1, hx.2]; grind
theorem side_up {l : List Pt} (h : Poly l) (hn : 0 < l.length) {m : Int} (h0 : 0 ≤ m) (h1 : m ≤ 15) (k : Nat) (hr : (m - dm l k) % 16 ≤ 3 ∨ 13 ≤ (m - dm l k) % 16) : Pos (fv m (pt l (k + 1)) - fv m (pt l k)) := by
  have hpk : ∀ k, PK (pt l k) := fun k => h.pk _ (nth_mem (Nat.mod_lt _ hn))
  have hd : 0 ≤ dm l k ∧ dm l k ≤ 15 := ⟨h.d _ (Nat.mod_lt _ hn), (dl_range l _).2⟩
  have hw := dir_pos (w := pminus (pt l (k + 1)) (pt l k)) (t := dm l k) (m := m) (pk_minus (hpk _)) hd.1 hd.2 h0 h1 hr (dm_side k hn)
  have e := fv_way (m := m) (hpk k) (hpk (k + 1))
  rw [e]
  rwa [show fv m (pt l k) + val (ndot (vec m) (pminus (pt l (k + 1)) (pt l k))) - fv m (pt l k) = val (ndot (vec m) (pminus (pt l (k + 1)) (pt l k))) by grind]
theorem side_down {l : List Pt} (h : Poly l) (hn : 0 < l.length) {m : Int} (h0 : 0 ≤ m) (h1 : m ≤ 15) (k : Nat) (hr : 5 ≤ (m - dm l k) % 16 ∧ (m - dm l k) % 16 ≤ 11) : Pos (fv m (pt l k) - fv m (pt l (k + 1))) := by
  have := side_up h hn (m := (m + 8) % 16) (by omega) (by omega) k (by omega)
  rw [fv_half h0 h1, fv_half h0 h1] at this
  rwa [show -fv m (pt l (k + 1)) - -fv m (pt l k) = fv m (pt l k) - fv m (pt l (k + 1)) by grind] at this
theorem side_flat {l : List Pt} (h : Poly l) (hn : 0 < l.length) {m : Int} (h0 : 0 ≤ m) (h1 : m ≤ 15) (k : Nat) (hr : (m - dm l k) % 16 = 4 ∨ (m - dm l k) % 16 = 12) : fv m (pt l (k + 1)) = fv m (pt l k) := by
  have hpk : ∀ k, PK (pt l k) := fun k => h.pk _ (nth_mem (Nat.mod_lt _ hn))
  have hd : 0 ≤ dm l k ∧ dm l k ≤ 15 := ⟨h.d _ (Nat.mod_lt _ hn), (dl_range l _).2⟩
  have key : ∀ m : Int, 0 ≤ m → m ≤ 15 → (m - dm l k) % 16 = 12 → fv m (pt l (k + 1)) = fv m (pt l k) := by
    intro m h0 h1 hr
    have hz := dir_zero (w := pminus (pt l (k + 1)) (pt l k)) (t := dm l k) (m := m) (pk_minus (hpk _)) hd.1 hd.2 h0 h1 hr (dm_side k hn)
    rw [fv_way (m := m) (hpk k) (hpk (k + 1)), hz]; grind
  rcases hr with hr | hr
  · have := key ((m + 8) % 16) (by omega) (by omega) (by omega)
    rw [fv_half h0 h1, fv_half h0 h1] at this
    grind
  · exact key m h0 h1 hr
/-- A closed list whose sides turn to the left, once round. -/
structure Conv (l : List Pt) : Prop extends Poly l where
  n : 0 < l.length
  t : ∀ k, 1 ≤ tau l k ∧ tau l k ≤ 7
  s : sg l 0 l.length = 16
theorem Conv.full {l : List Pt} (h : Conv l) : ∀ j, sg l j l.length = 16
  | 0 => h.s
  | j + 1 => by
    have ih := h.full j
    have e1 := sg_split l j 1 l.length
    have e2 : sg l j (1 + l.length) = sg l j l.length + tau l (j + l.length) := by rw [Nat.add_comm]; rfl
    have e3 : sg l j 1 = tau l j := by simp [sg]
    rw [tau_add] at e2
    omega
theorem sg_le (l : List Pt) (j : Nat) (a : Nat) : ∀ b, a ≤ b → sg l j a ≤ sg l j b := by
  intro b
  induction b with
  | zero => intro h; obtain rfl : a = 0 := by omega
            exact Int.le_refl _
  | succ b ih =>
    intro h
    by_cases e : a = b + 1
    · subst e; exact Int.le_refl _
    · have := ih (by omega)
      have := (sg_mono l j b).2
      omega
theorem first_not {p : Nat → Bool} {n : Nat} (h : ∃ j, j < n ∧ p j = false) : ∃ j, j < n ∧ p j = false ∧ ∀ i, i < j → p i = true := by
  obtain ⟨j, h1, h2, h3⟩ := least_not n h
  exact ⟨j, h1, h2, h3⟩
theorem Conv.uni {l : List Pt} (h : Conv l) {m : Int} (h0 : 0 ≤ m) (h1 : m ≤ 15) (c : Q2) : ∃ j0 u, Uni l.length u fun i => fv m (pt l (j0 + i)) - c := by
  have hn := h.n
  have hd : ∀ k, 0 ≤ dm l k ∧ dm l k ≤ 15 := fun k => ⟨h.d _ (Nat.mod_lt _ hn), (dl_range l _).2⟩
  -- where the way up begins
  obtain ⟨j0, t0, q1, q2, q3, q4⟩ : ∃ (j0 : Nat) (t0 : Int), -3 ≤ t0 ∧ t0 ≤ 3 ∧ (dm l j0 - m - t0) % 16 = 0 ∧ t0 + sg l j0 (l.length - 1) ≤ 12 := by
    obtain ⟨A, hA⟩ : ∃ A : Int, A = (dm l 0 - m) % 16 := ⟨_, rfl⟩
    obtain ⟨thr, ht⟩ : ∃ thr : Int, (thr = 13 ∧ A ≤ 12) ∨ (thr = 29 ∧ 13 ≤ A) := by
      by_cases hh : A ≤ 12
      · exact ⟨13, .inl ⟨rfl, hh⟩⟩
      · exact ⟨29, .inr ⟨rfl, by omega⟩⟩
    obtain ⟨j, hj, hj1, hj2⟩ := first_not (p := fun i => decide (A + sg l 0 i < thr)) (n := l.length + 1) ⟨l.length, by omega, by have := h.s; simp; omega⟩
    simp only [decide_eq_false_iff_not, decide_eq_true_eq] at hj1 hj2
    have hjp : 0 < j := by
      rcases Nat.eq_zero_or_pos j with e | e
      · subst e; simp [sg] at hj1; omega
      · exact e
    have hb := hj2 (j - 1) (by omega)
    have e1 := sg_split l 0 (j - 1) 1
    rw [show j - 1 + 1 = j by omega] at e1
    have e3 : sg l (0 + (j - 1)) 1 = tau l (j - 1) := by simp [sg]
    have ht7 := h.t (j - 1)
    have hg := dm_sg l 0 j
    rw [Nat.zero_add] at hg
    have hf := h.full j
    have e4 : sg l j l.length = sg l j (l.length - 1) + tau l (j + (l.length - 1)) := by
      conv => lhs; rw [show l.length = (l.length - 1) + 1 by omega]
      rfl
    have e5 : tau l (j + (l.length - 1)) = tau l (j - 1) := by
      rw [show j + (l.length - 1) = (j - 1) + l.length by omega, tau_add]
    refine ⟨j, A + sg l 0 j - (thr + 3), ?_, ?_, ?_, ?_⟩ <;> omega
  have hth : ∀ i, (dm l (j0 + i) - m - (t0 + sg l j0 i)) % 16 = 0 := fun i => by have := dm_sg l j0 i; omega
  have hlast : sg l j0 (l.length - 1) + tau l (j0 + (l.length - 1)) = 16 := by
    have := h.full j0
    conv at this => lhs; rw [show l.length = (l.length - 1) + 1 by omega]
    exact this
  have ht7 := h.t (j0 + (l.length - 1))
  obtain ⟨u, hu, hu1, hu2⟩ := first_not (p := fun i => decide (t0 + sg l j0 i ≤ 3)) (n := l.length) ⟨l.length - 1, by omega, by simp; omega⟩
  simp only [decide_eq_false_iff_not, decide_eq_true_eq] at hu1 hu2
  have hmono : ∀ i, i + 1 ≤ l.length - 1 → sg l j0 i + 1 ≤ sg l j0 (l.length - 1) := fun i hi => by
    have a := sg_le l j0 (i + 1) (l.length - 1) hi
    have b := (h.t (j0 + i)).1
    simp only [sg] at a; omega
  have hall : ∀ i, i < l.length → 0 ≤ sg l j0 i ∧ t0 + sg l j0 i ≤ 12 := fun i hi => by
    have a := sg_le l j0 i (l.length - 1) (by omega)
    have b := (sg_mono l j0 i).1
    omega
  refine ⟨j0, u, hu, fun i hi => ?_, ?_, fun i hi hi2 => ?_, ?_, ?_⟩
  · have a := hu2 i hi
    have b := hth i
    have c1 := (hall i (by omega)).1
    have d1 := hd (j0 + i)
    have := side_up h.toPoly hn h0 h1 (j0 + i) (by omega)
    rwa [show fv m (pt l (j0 + (i + 1))) - c - (fv m (pt l (j0 + i)) - c) = fv m (pt l (j0 + i + 1)) - fv m (pt l (j0 + i)) by rw [← Nat.add_assoc]; grind]
  · have b := hth u
    have c1 := hall u hu
    have d1 := hd (j0 + u)
    by_cases e : t0 + sg l j0 u = 4 ∨ t0 + sg l j0 u = 12
    · refine .inl ?_
      have := side_flat h.toPoly hn h0 h1 (j0 + u) (by omega)
      rw [← Nat.add_assoc, this]
    · refine .inr ?_
      have := side_down h.toPoly hn h0 h1 (j0 + u) (by omega)
      rwa [show fv m (pt l (j0 + u)) - c - (fv m (pt l (j0 + (u + 1))) - c) = fv m (pt l (j0 + u)) - fv m (pt l (j0 + u + 1)) by rw [← Nat.add_assoc]; grind]
  · have a := sg_le l j0 (u + 1) i (by omega)
    have b := hth i
    have b1 := (h.t (j0 + u)).1
    simp only [sg] at a
    have c1 := hmono i (by omega)
    have c2 := hall (l.length - 1) (by omega)
    have d1 := hd (j0 + i)
    have := side_down h.toPoly hn h0 h1 (j0 + i) (by omega)
    rwa [show fv m (pt l (j0 + i)) - c - (fv m (pt l (j0 + (i + 1))) - c) = fv m (pt l (j0 + i)) - fv m (pt l (j0 + i + 1)) by rw [← Nat.add_assoc]; grind]
  · have b := hth (l.length - 1)
    have c1 := hall (l.length - 1) (by omega)
    have d1 := hd (j0 + (l.length - 1))
    have en : j0 + l.length = j0 + (l.length - 1) + 1 := by omega
    by_cases e : t0 + sg l j0 (l.length - 1) = 12
    · refine .inl ?_
      have := side_flat h.toPoly hn h0 h1 (j0 + (l.length - 1)) (by omega)
      rw [en, this]
    · refine .inr ?_
      have := side_down h.toPoly hn h0 h1 (j0 + (l.length - 1)) (by omega)
      rwa [en, show fv m (pt l (j0 + (l.length - 1))) - c - (fv m (pt l (j0 + (l.length - 1) + 1)) - c) = fv m (pt l (j0 + (l.length - 1))) - fv m (pt l (j0 + (l.length - 1) + 1)) by grind]
  · simp only [Nat.add_zero]
    unfold pt
    rw [Nat.add_mod_right]
theorem polI_conv {l : List Pt} (h : polI l = true) : Conv l := by
  obtain ⟨hp, hn3, hn16, -⟩ := polI_poly h
  rw [pol_eq] at h
  unfold polS turnsS at h
  simp only [Bool.and_eq_true, decide_eq_true_eq, List.all_eq_true, List.mem_range] at h
  obtain ⟨⟨-, hturn⟩, hsum⟩ := h
  have hn : 0 < l.length := by omega
  refine ⟨hp, hn, fun k => ?_, by rw [← sumT_sg l _ (Nat.le_refl _)]; exact hsum⟩
  have hm : k % l.length < l.length := Nat.mod_lt _ hn
  have e : tau l k = tau l (k % l.length) := by
    unfold tau dm
    rw [Nat.mod_mod, Nat.mod_add_mod]
  rw [e, tau_turnS hm]
  exact (inB_iff ..).1 (hturn _ hm)
end Go.Vai
/- Where a line meets a valid polygon; what of a segment is inside. -/
set_option linter.unusedVariables false
set_option linter.unusedSimpArgs false
set_option maxHeartbeats 4000000
namespace Go.Vai
/-! ### The two ends of a chord -/
def endsF (l : Li) (p q : Pt) : List Pt := (if sd l p = 0 then [p] else []) ++ (if sd l p * sd l q < 0 then [meetP (sideL p q) l] else [])
def endsN (l : Li) (ps : List Pt) : Nat → List Pt
  | 0 => []
  | k + 1 => endsN l ps k ++ endsF l (nth ps k) (nxt ps k)
theorem endsF_len (l : Li) (p q : Pt) : (endsF l p q).length = eN (sd l p) (sd l q) := by
  unfold endsF eN
  rw [List.length_append]
  congr 1 <;> split <;> rfl
theorem endsN_len (l : Li) (ps : List Pt) : ∀ k, k ≤ ps.length → (endsN l ps k).length = cN (fun i => sd l (pt ps i)) k
  | 0, _ => rfl
  | k + 1, h => by
    simp only [endsN, List.length_append, cN]
    rw [endsN_len l ps k (by omega), endsF_len, pt_lt (by omega)]
    rfl
theorem cN_add (s : Nat → Int) (j : Nat) : ∀ r, cN s (j + r) = cN s j + cN (fun i => s (j + i)) r
  | 0 => rfl
  | r + 1 => by
    rw [← Nat.add_assoc]
    simp only [cN]
    rw [cN_add s j r, Nat.add_assoc, Nat.add_assoc]
theorem cN_shift {s : Nat → Int} {n : Nat} (h : ∀ i, s (i + n) = s i) (j : Nat) : cN (fun i => s (j + i)) n = cN s n := by
  have e1 := cN_add s j n
  have e2 := cN_add s n j
  have e3 : (fun i => s (n + i)) = s := by funext i; rw [Nat.add_comm, h]
  rw [e3, Nat.add_comm n j] at e2
  omega
theorem sd_sgn {l : Li} {p : Pt} (hl : Lok l) (hp : PK p) : SgnP (sd l p) (fv (l.dir + 4) p - val l.off) := by
  have := sgnP_nsign (nsub (ndot (vec (l.dir + 4)) p) l.off)
  rw [val_nsub (ndot_k (vec_k _) hp) hl.k0, val_ndot (vec_k _) hp] at this
  exact this
theorem hasN_pt {l : Li} {s : Int} {ps : List Pt} (h : hasN l s ps ps.length = true) (j0 : Nat) : ∃ i, i < ps.length ∧ 0 < s * sd l (pt ps (j0 + i)) := by
  obtain ⟨k, hk, hs⟩ := (hasN_any l s ps ps.length).1 h
  have hn : 0 < ps.length := by omega
  refine ⟨(k + ps.length - j0 % ps.length) % ps.length, Nat.mod_lt _ hn, ?_⟩
  have hj : j0 % ps.length < ps.length := Nat.mod_lt _ hn
  have e : (j0 + (k + ps.length - j0 % ps.length) % ps.length) % ps.length = k := by
    rw [Nat.add_mod_mod]
    have h1 : (j0 + (k + ps.length - j0 % ps.length)) % ps.length = (j0 % ps.length + (k + ps.length - j0 % ps.length)) % ps.length := by rw [Nat.mod_add_mod]
    rw [h1, show j0 % ps.length + (k + ps.length - j0 % ps.length) = k + ps.length by omega, Nat.add_mod_right, Nat.mod_eq_of_lt hk]
  unfold pt
  rw [e]; exact hs
theorem ends_two {l : Li} {ps : List Pt} (hc : Conv ps) (hl : Lok l) (h1 : hasN l 1 ps ps.length = true) (h2 : hasN l (-1) ps ps.length = true) : (endsN l ps ps.length).length = 2 := by
  have hn := hc.n
  have hpk : ∀ k, PK (pt ps k) := fun k => hc.pk _ (nth_mem (Nat.mod_lt _ hn))
  obtain ⟨j0, u, hu⟩ := hc.uni (m := l.dir + 4) (by have := hl.d0; omega) (by have := hl.d1; omega) (val l.off)
  rw [endsN_len l ps _ (Nat.le_refl _), ← cN_shift (s := fun i => sd l (pt ps i)) (n := ps.length) (fun i => by simp only [pt, Nat.add_mod_right]) j0]
  refine hu.two (fun i => sd_sgn hl (hpk _)) ?_ ?_
  · obtain ⟨i, hi, hs⟩ := hasN_pt h1 j0
    refine ⟨i, hi, ?_⟩
    rcases sd_range l (pt ps (j0 + i)) with e | e | e <;> rw [e] at hs <;> simp_all
  · obtain ⟨i, hi, hs⟩ := hasN_pt h2 j0
    refine ⟨i, hi, ?_⟩
    rcases sd_range l (pt ps (j0 + i)) with e | e | e <;> rw [e] at hs <;> simp_all
theorem sd_on {l : Li} {p : Pt} (hl : Lok l) (hp : PK p) (h : on l p) : sd l p = 0 := by
  have := sd_sgn hl hp
  have e : fv (l.dir + 4) p - val l.off = 0 := by
    have h' : fv (l.dir + 4) p = val l.off := h
    rw [h']; grind
  rw [e] at this
  rcases this with ⟨-, h⟩ | h | ⟨-, h⟩
  · exact (h.ne rfl).elim
  · exact h.1
  · exact (h.ne (by grind)).elim
def onB (l : Li) (p : Pt) : Bool := decide (sd l p = 0)
theorem cutF_filter {l : Li} {p q : Pt} (h : sd l p * sd l q < 0 → sd l (meetP (sideL p q) l) = 0) : (cutF l 1 p q).filter (onB l) = endsF l p q := by
  unfold cutF endsF
  rw [List.filter_append]
  congr 1
  · by_cases h0 : sd l p = 0
    · simp [h0, onB]
    · rw [if_neg h0]
      split <;> simp [onB, h0]
  · rw [Int.one_mul, Int.one_mul]
    by_cases h0 : sd l p * sd l q < 0
    · rw [if_pos h0]; simp [onB, h h0]
    · rw [if_neg h0]; rfl
theorem good_meet {K M : Nat} {l : Li} {ps : List Pt} (hg : Good K M l 1 ps) (hl : Lok l) (hp : ∀ p ∈ ps, PK p) {k : Nat} (hk : k < ps.length) (h : sd l (nth ps k) * sd l (nxt ps k) < 0) : sd l (meetP (sideL (nth ps k) (nxt ps k)) l) = 0 := by
  obtain ⟨g1, g2, g3⟩ := hg k hk (by rw [Int.one_mul, Int.one_mul]; exact h)
  have hs : Lok (sideL (nth ps k) (nxt ps k)) := sideL_ok (hp _ (nth_mem hk))
  exact sd_on hl (meet_k hs hl) (meet_on hs hl g2).2
theorem cutN_filter {K M : Nat} {l : Li} {ps : List Pt} (hg : Good K M l 1 ps) (hl : Lok l) (hp : ∀ p ∈ ps, PK p) : ∀ k, k ≤ ps.length → (cutN l 1 ps k).filter (onB l) = endsN l ps k
  | 0, _ => rfl
  | k + 1, hk => by
    simp only [cutN, endsN, List.filter_append]
    rw [cutN_filter hg hl hp k (by omega), cutF_filter fun h => good_meet hg hl hp (by omega) h]
def chordE (l : Li) (ps : List Pt) : List Pt := (partR l 1 ps).filter (onB l)
theorem chord_two {K M : Nat} {l : Li} {ps : List Pt} (hg : Good K M l 1 ps) (hl : Lok l) (hp : ∀ p ∈ ps, PK p) (h1 : hasN l 1 ps ps.length = true) (h2 : (endsN l ps ps.length).length = 2) :
    ∃ x y, endsN l ps ps.length = [x, y] ∧ (chordE l ps = [x, y] ∨ chordE l ps = [y, x]) := by
  obtain ⟨x, y, e⟩ : ∃ x y, endsN l ps ps.length = [x, y] := by
    match h : endsN l ps ps.length, h2 with
    | [x, y], _ => exact ⟨x, y, rfl⟩
  refine ⟨x, y, e, ?_⟩
  have hf := cutN_filter hg hl hp ps.length (Nat.le_refl _)
  rw [e] at hf
  unfold chordE partR
  rw [if_pos h1]
  unfold rot0
  generalize cutN l 1 ps ps.length = X at *
  generalize least X = c
  rw [List.filter_append]
  have hs : (List.take c X).filter (onB l) ++ (List.drop c X).filter (onB l) = [x, y] := by rw [← List.filter_append, List.take_append_drop]; exact hf
  generalize (List.take c X).filter (onB l) = A at *
  generalize (List.drop c X).filter (onB l) = B at *
  match A, hs with
  | [], hs => left; simpa using hs
  | [a], hs =>
    right
    simp only [List.cons_append, List.nil_append, List.cons.injEq] at hs
    obtain ⟨rfl, rfl⟩ := hs
    rfl
  | [a, b], hs =>
    left
    simp only [List.cons_append, List.nil_append, List.cons.injEq] at hs
    obtain ⟨rfl, rfl, rfl⟩ := hs
    rfl
  | a :: b :: c :: t, hs => simp at hs
/-! ### The common part of two segments of a line -/
theorem nsign_val {x y : Nu} (h : val x = val y) : nsign x = nsign y := (sgnP_nsign x).eq (sgnP_nsign y) h.symm
theorem nsign_opp {x y : Nu} (h : val x = -val y) : nsign x = -nsign y := by
  rw [← nsign_neg]; exact nsign_val (by rw [val_nneg]; exact h)
def nleast (a b : Nu) : Nu := if nsign (nsub a b) < 0 then a else b
def nmost (a b : Nu) : Nu := if 0 < nsign (nsub a b) then a else b
def crS (a b x y : Nu) : Bool := decide (0 < nsign (nsub (nleast (nmost x y) b) (nmost (nleast x y) a)))
theorem nleast_k {a b : Nu} (ha : 0 ≤ a.k) (hb : 0 ≤ b.k) : 0 ≤ (nleast a b).k := by unfold nleast; split <;> assumption
theorem nmost_k {a b : Nu} (ha : 0 ≤ a.k) (hb : 0 ≤ b.k) : 0 ≤ (nmost a b).k := by unfold nmost; split <;> assumption
theorem nsub_val {a b c d : Nu} (ha : 0 ≤ a.k) (hb : 0 ≤ b.k) (hc : 0 ≤ c.k) (hd : 0 ≤ d.k) (h1 : val a = val c) (h2 : val b = val d) : nsign (nsub a b) = nsign (nsub c d) :=
  nsign_val (by rw [val_nsub ha hb, val_nsub hc hd, h1, h2])
theorem nleast_val {a b c d : Nu} (ha : 0 ≤ a.k) (hb : 0 ≤ b.k) (hc : 0 ≤ c.k) (hd : 0 ≤ d.k) (h1 : val a = val c) (h2 : val b = val d) : val (nleast a b) = val (nleast c d) := by
  unfold nleast
  rw [nsub_val ha hb hc hd h1 h2]
  split <;> assumption
theorem nmost_val {a b c d : Nu} (ha : 0 ≤ a.k) (hb : 0 ≤ b.k) (hc : 0 ≤ c.k) (hd : 0 ≤ d.k) (h1 : val a = val c) (h2 : val b = val d) : val (nmost a b) = val (nmost c d) := by
  unfold nmost
  rw [nsub_val ha hb hc hd h1 h2]
  split <;> assumption
theorem nsub_anti {a b : Nu} (ha : 0 ≤ a.k) (hb : 0 ≤ b.k) : nsign (nsub b a) = -nsign (nsub a b) := ncmp_anti ha hb
theorem nsub_eq {a b : Nu} (ha : 0 ≤ a.k) (hb : 0 ≤ b.k) (h : nsign (nsub a b) = 0) : val a = val b := (ncmp_zero ha hb).1 h
theorem nleast_comm {a b : Nu} (ha : 0 ≤ a.k) (hb : 0 ≤ b.k) : val (nleast a b) = val (nleast b a) := by
  unfold nleast
  have e := nsub_anti ha hb
  have z := nsub_eq ha hb
  have r := nsign_range (nsub a b)
  by_cases h : nsign (nsub a b) < 0
  · rw [if_pos h, if_neg (by omega)]
  · rw [if_neg h]
    by_cases h' : nsign (nsub b a) < 0
    · rw [if_pos h']
    · rw [if_neg h']; exact (z (by omega)).symm
theorem nmost_comm {a b : Nu} (ha : 0 ≤ a.k) (hb : 0 ≤ b.k) : val (nmost a b) = val (nmost b a) := by
  unfold nmost
  have e := nsub_anti ha hb
  have z := nsub_eq ha hb
  have r := nsign_range (nsub a b)
  by_cases h : 0 < nsign (nsub a b)
  · rw [if_pos h, if_neg (by omega)]
  · rw [if_neg h]
    by_cases h' : 0 < nsign (nsub b a)
    · rw [if_pos h']
    · rw [if_neg h']; exact (z (by omega)).symm
theorem crS_comm {a b x y : Nu} (ha : 0 ≤ a.k) (hb : 0 ≤ b.k) (hx : 0 ≤ x.k) (hy : 0 ≤ y.k) : crS a b x y = crS a b y x := by
  unfold crS
  rw [nsub_val (nleast_k (nmost_k hx hy) hb) (nmost_k (nleast_k hx hy) ha) (nleast_k (nmost_k hy hx) hb) (nmost_k (nleast_k hy hx) ha)
    (nleast_val (nmost_k hx hy) hb (nmost_k hy hx) hb (nmost_comm hx hy) rfl) (nmost_val (nleast_k hx hy) ha (nleast_k hy hx) ha (nleast_comm hx hy) rfl)]
/-- What the program reckons: the ends of both segments in order, then the part that both have. -/
def lo2 (a b : Nu) : Nu := if 0 < ncmp a b then b else a
def hi2 (a b : Nu) : Nu := if 0 < ncmp a b then a else b
def shLo (a c : Nu) : Nu := if 0 < ncmp c a then c else a
def shHi (b e : Nu) : Nu := if ncmp e b < 0 then e else b
def shB (a b x y : Nu) : Bool := decide (ncmp (shLo a (lo2 x y)) (shHi b (hi2 x y)) < 0)
theorem shB_crS {a b x y : Nu} (ha : 0 ≤ a.k) (hb : 0 ≤ b.k) (hx : 0 ≤ x.k) (hy : 0 ≤ y.k) : shB a b x y = crS a b x y := by
  have e1 : hi2 x y = nmost x y := rfl
  have k1 : 0 ≤ (lo2 x y).k := by unfold lo2; split <;> assumption
  have e2 : val (lo2 x y) = val (nleast x y) := by
    unfold lo2 nleast
    have z := nsub_eq hx hy
    have r := nsign_range (nsub x y)
    have hh : ncmp x y = nsign (nsub x y) := rfl
    rw [hh]
    by_cases h : 0 < nsign (nsub x y)
    · rw [if_pos h, if_neg (by omega)]
    · rw [if_neg h]
      by_cases h' : nsign (nsub x y) < 0
      · rw [if_pos h']
      · rw [if_neg h']; exact z (by omega)
  have e3 : val (shLo a (lo2 x y)) = val (nmost (nleast x y) a) := nmost_val k1 ha (nleast_k hx hy) ha e2 rfl
  have e4 : shHi b (hi2 x y) = nleast (nmost x y) b := rfl
  have k2 : 0 ≤ (shLo a (lo2 x y)).k := by unfold shLo; split <;> assumption
  unfold shB crS
  rw [e4]
  have k3 := nleast_k (nmost_k hx hy) hb
  have k4 := nmost_k (nleast_k hx hy) ha
  have : ncmp (shLo a (lo2 x y)) (nleast (nmost x y) b) = -nsign (nsub (nleast (nmost x y) b) (nmost (nleast x y) a)) := by
    unfold ncmp
    refine nsign_opp ?_
    rw [val_nsub k2 k3, val_nsub k3 k4, e3]; grind
  rw [this]
  apply decide_eq_decide.2
  omega
/-- Along its own direction a segment goes forward. -/
theorem ahead {p q : Pt} {d : Int} (hp : PK p) (hq : PK q) (h0 : 0 ≤ d) (hd : dirR (pminus q p) = d) : ncmp (ndot (vec d) p) (ndot (vec d) q) = -1 := by
  have h1 : d ≤ 15 := by have := (dirR_range (pminus q p)).2; omega
  have hw := dir_pos (w := pminus q p) (t := d) (m := d) (pk_minus hq) h0 h1 h0 h1 (by omega) hd
  have e := fv_way (m := d) hp hq
  have ep : val (ndot (vec d) p) = fv d p := val_ndot (vec_k _) hp
  have eq : val (ndot (vec d) q) = fv d q := val_ndot (vec_k _) hq
  have hs := sgnP_nsign (nsub (ndot (vec d) p) (ndot (vec d) q))
  rw [val_nsub (ndot_k (vec_k _) hp) (ndot_k (vec_k _) hq), ep, eq, e] at hs
  refine hs.neg.2 ?_
  rwa [show -(fv d p - (fv d p + val (ndot (vec d) (pminus q p)))) = val (ndot (vec d) (pminus q p)) by grind]
end Go.Vai
