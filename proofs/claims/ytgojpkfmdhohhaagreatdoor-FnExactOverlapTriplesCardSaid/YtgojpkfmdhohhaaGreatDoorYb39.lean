/- Merged texts of this claim: Zi1, Zi2. -/
import Derived.Test.YtgojpkfmdhohhaaGreatDoorYb19
/- Points inside of several cut polygons at once. -/
set_option linter.unusedVariables false
set_option linter.unusedSimpArgs false
set_option maxHeartbeats 4000000
namespace Go.Vai
/-! ### Signs of all values -/
theorem val_int (a b : Int) : val ⟨a, b, 0⟩ = ⟨(a : Rat), (b : Rat)⟩ := by apply Q2.ext' <;> simp [val, pr, pw] <;> grind
theorem sgn3 (x : Q2) : Pos x ∨ x = 0 ∨ Pos (-x) := by
  have da : (0 : Rat) < (x.a.den : Rat) := by have := x.a.den_pos; exact_mod_cast this
  have db : (0 : Rat) < (x.b.den : Rat) := by have := x.b.den_pos; exact_mod_cast this
  have f : ∀ a : Rat, a * (a.den : Rat) = (a.num : Rat) := fun a => by
    have d : (a.den : Rat) ≠ 0 := by have := a.den_nz; exact_mod_cast this
    have e : a = (a.num : Rat) / (a.den : Rat) := by
      conv => lhs; rw [← Rat.num_divInt_den a]
      rw [Rat.divInt_eq_div]; rfl
    grind
  have fa := f x.a
  have fb := f x.b
  have hD := Rat.mul_pos da db
  have eA : ((x.a.num * x.b.den : Int) : Rat) = x.a.den * x.b.den * x.a := by push_cast; rw [← fa]; grind
  have eB : ((x.b.num * x.a.den : Int) : Rat) = x.a.den * x.b.den * x.b := by push_cast; rw [← fb]; grind
  generalize ((x.a.den : Rat) * x.b.den) = D at *
  have hi := Rat.inv_pos.2 hD
  have hDi : D⁻¹ * D = 1 := Rat.inv_mul_cancel _ (by grind)
  have c1 : ∀ y : Rat, D⁻¹ * (D * y) = y := fun y => by grind
  rcases sgnP_nsign ⟨x.a.num * x.b.den, x.b.num * x.a.den, 0⟩ with ⟨-, h⟩ | ⟨-, h⟩ | ⟨-, h⟩ <;> rw [val_int, eA, eB] at h
  · left
    have := h.scale hi
    simp only [c1] at this
    exact this
  · right; left
    have h1 : D * x.a = 0 := congrArg Q2.a h
    have h2 : D * x.b = 0 := congrArg Q2.b h
    have a0 : x.a = 0 := by rw [← c1 x.a, h1]; grind
    have b0 : x.b = 0 := by rw [← c1 x.b, h2]; grind
    exact Q2.ext' a0 b0
  · right; right
    have := h.scale hi
    have e : (⟨D⁻¹ * (-(⟨D * x.a, D * x.b⟩ : Q2)).a, D⁻¹ * (-(⟨D * x.a, D * x.b⟩ : Q2)).b⟩ : Q2) = -x := by
      apply Q2.ext'
      · simp only [Q2.neg_a]; have := c1 x.a; grind
      · simp only [Q2.neg_b]; have := c1 x.b; grind
    rwa [e] at this
theorem pos1 : Pos (1 : Q2) := pos_one (by simp <;> grind) (by simp <;> grind) (.inl (by simp <;> grind))
theorem Pos.of_times {x y : Q2} (h : Pos (x * y)) (hy : Pos y) : Pos x := by
  rcases sgn3 x with hx | rfl | hx
  · exact hx
  · exact (h.ne (by grind)).elim
  · refine (h.anti ?_).elim
    have := hx.times hy
    rwa [show -x * y = -(x * y) by grind] at this
/-- Not below 0. -/
def NN (x : Q2) : Prop := x = 0 ∨ Pos x
theorem NN.pos_add {x y : Q2} (h : NN x) (h' : Pos y) : Pos (x + y) := by
  rcases h with rfl | h
  · rwa [show 0 + y = y by grind]
  · exact h.add h'
theorem NN.add {x y : Q2} (h : NN x) (h' : NN y) : NN (x + y) := by
  rcases h' with rfl | h'
  · rwa [show x + 0 = x by grind]
  · exact .inr (h.pos_add h')
theorem NN.mul {x y : Q2} (h : NN x) (h' : NN y) : NN (x * y) := by
  rcases h with rfl | h
  · exact .inl (by grind)
  · rcases h' with rfl | h'
    · exact .inl (by grind)
    · exact .inr (h.times h')
theorem NN.of_times {x y : Q2} (h : NN (x * y)) (hy : Pos y) : NN x := by
  rcases sgn3 x with hx | rfl | hx
  · exact .inr hx
  · exact .inl rfl
  · have := hx.times hy
    rw [show -x * y = -(x * y) by grind] at this
    rcases h with h | h
    · rw [h] at this; exact (this.ne (by grind)).elim
    · exact (h.anti this).elim
/-! ### Functions of the plane -/
structure Fu where
  a : Q2
  b : Q2
  c : Q2
def Fu.ev (f : Fu) (p : Pt) : Q2 := f.a * val p.x + f.b * val p.y - f.c
/-- A point with a weight. -/
structure Hp where
  x : Q2
  y : Q2
  h : Q2
def Fu.hv (f : Fu) (w : Hp) : Q2 := f.a * w.x + f.b * w.y - f.c * w.h
def crs (p q : Pt) (w : Hp) : Q2 := (val p.x * val q.y - val p.y * val q.x) * w.h - (val p.x * w.y - val p.y * w.x) + (val q.x * w.y - val q.y * w.x)
theorem crs_self (p : Pt) (w : Hp) : crs p p w = 0 := by unfold crs; grind
/-- Where the way from one point to another one meets the zeros of a function. -/
def Seg (f : Fu) (p q x : Pt) : Prop := val x.x * (f.ev p - f.ev q) = f.ev p * val q.x - f.ev q * val p.x ∧ val x.y * (f.ev p - f.ev q) = f.ev p * val q.y - f.ev q * val p.y
theorem Seg.ev {f : Fu} {p q x : Pt} (h : Seg f p q x) (g : Fu) : g.ev x * (f.ev p - f.ev q) = f.ev p * g.ev q - f.ev q * g.ev p := by
  obtain ⟨h1, h2⟩ := h
  generalize f.ev p = F at *
  generalize f.ev q = G at *
  unfold Fu.ev
  grind
theorem Seg.crs1 {f : Fu} {p q x : Pt} (h : Seg f p q x) (w : Hp) : crs p x w * (f.ev p - f.ev q) = f.ev p * crs p q w := by
  obtain ⟨h1, h2⟩ := h
  generalize f.ev p = F at *
  generalize f.ev q = G at *
  unfold crs
  grind
theorem Seg.crs2 {f : Fu} {p q x : Pt} (h : Seg f p q x) (w : Hp) : crs x q w * (f.ev p - f.ev q) = -f.ev q * crs p q w := by
  obtain ⟨h1, h2⟩ := h
  generalize f.ev p = F at *
  generalize f.ev q = G at *
  unfold crs
  grind
/-- Seen from a point the way turns to the left. -/
def Rl (w : Hp) (p q : Pt) : Prop := Pos (crs p q w)
theorem Rl.irr {w : Hp} {p : Pt} (h : Rl w p p) : False := Pos.ne h (crs_self p w)
def Dn (f : Fu) (p : Pt) : Prop := NN (-(f.ev p))
theorem Rl.trans {w : Hp} {f : Fu} {p q r : Pt} (hh : Pos w.h) (hw : Pos (f.hv w)) (hp : Dn f p) (hq : Dn f q) (hr : Dn f r) (h1 : Rl w p q) (h2 : Rl w q r) : Rl w p r := by
  have key : ∀ p, Dn f p → Pos (f.hv w - f.ev p * w.h) := fun p hp => by
    have := (NN.mul hp (.inr hh)).pos_add hw
    rwa [show -f.ev p * w.h + f.hv w = f.hv w - f.ev p * w.h by grind] at this
  have e : crs p r w * (f.hv w - f.ev q * w.h) = crs p q w * (f.hv w - f.ev r * w.h) + crs q r w * (f.hv w - f.ev p * w.h) := by
    unfold crs Fu.ev Fu.hv; grind
  have h := (Pos.times h1 (key r hr)).add (Pos.times h2 (key p hp))
  rw [← e] at h
  exact h.of_times (key q hq)
/-! ### Lists of points one behind the other -/
def chn (R : Pt → Pt → Prop) : Pt → List Pt → Prop
  | _, [] => True
  | a, b :: t => R a b ∧ chn R b t
def lst : Pt → List Pt → Pt
  | a, [] => a
  | _, b :: t => lst b t
theorem chn_snoc {R : Pt → Pt → Prop} {b : Pt} : ∀ {t : List Pt} {a : Pt}, chn R a t → R (lst a t) b → chn R a (t ++ [b])
  | [], a, _, h => ⟨h, trivial⟩
  | c :: t, a, h, h' => ⟨h.1, chn_snoc (t := t) h.2 h'⟩
theorem lst_snoc {b : Pt} : ∀ {t : List Pt} {a : Pt}, lst a (t ++ [b]) = b
  | [], a => rfl
  | c :: t, a => lst_snoc (t := t) (a := c)
theorem chn_get {R : Pt → Pt → Prop} : ∀ {t : List Pt} {a : Pt}, chn R a t → ∀ k, k + 1 < (a :: t).length → R (nth (a :: t) k) (nth (a :: t) (k + 1))
  | [], a, _, k, hk => by simp at hk
  | b :: t, a, h, 0, _ => h.1
  | b :: t, a, h, k + 1, hk => by
    have := chn_get (t := t) (a := b) h.2 k (by simpa using hk)
    simpa [nth] using this
theorem lst_get : ∀ (t : List Pt) (a : Pt), lst a t = nth (a :: t) t.length
  | [], a => rfl
  | b :: t, a => by
    have := lst_get t b
    simpa [nth, lst] using this
/-- Seen from a point a closed list turns to the left everywhere. -/
def Inn (w : Hp) (ps : List Pt) : Prop := ∀ k, Rl w (pt ps k) (pt ps (k + 1))
theorem inn_of {w : Hp} {a : Pt} {t : List Pt} (h : chn (Rl w) a t) (h' : Rl w (lst a t) a) : Inn w (a :: t) := by
  intro k
  unfold pt
  have hm : k % (a :: t).length < (a :: t).length := Nat.mod_lt _ (by simp)
  have e : (k + 1) % (a :: t).length = (k % (a :: t).length + 1) % (a :: t).length := by rw [Nat.mod_add_mod]
  rw [e]
  generalize k % (a :: t).length = j at *
  by_cases hj : j + 1 < (a :: t).length
  · rw [Nat.mod_eq_of_lt hj]
    exact chn_get h j hj
  · have hj' : j + 1 = (a :: t).length := by omega
    rw [hj', Nat.mod_self]
    have : j = t.length := by simp at hj'; omega
    rw [this, ← lst_get]
    exact h'
theorem Inn.rot {w : Hp} {ps : List Pt} (h : Inn w ps) (h0 : 0 < ps.length) : Inn w (rot0 ps) := by
  intro k
  unfold rot0
  rw [nth_rot' (least_le ps) k h0, nth_rot' (least_le ps) (k + 1) h0]
  have := h (k + least ps)
  rwa [show k + 1 + least ps = k + least ps + 1 by omega]
/-! ### A cut list -/
/-- A cut list as far as it is made; the next point. -/
def Iv (f : Fu) (w : Hp) (P0 c : Pt) : List Pt → Prop
  | [] => c = P0 ∨ (Pos (-(f.ev P0)) ∧ Dn f c ∧ Rl w P0 c)
  | a :: t => chn (Rl w) a t ∧ Rl w (lst a t) c ∧ (Pos (-(f.ev c)) → Dn f (lst a t)) ∧ (a = P0 ∨ (Pos (-(f.ev P0)) ∧ Dn f a ∧ Rl w P0 a))
theorem Iv.put {f : Fu} {w : Hp} {P0 p q : Pt} {o : List Pt} (h : Iv f w P0 p o) (hr : Rl w p q) (hd : Pos (-(f.ev q)) → Dn f p) : Iv f w P0 q (o ++ [p]) := by
  cases o with
  | nil => exact ⟨trivial, hr, hd, h⟩
  | cons a t =>
    obtain ⟨h1, h2, h3, h4⟩ := h
    refine ⟨chn_snoc h1 h2, ?_, ?_, h4⟩
    · show Rl w (lst a (t ++ [p])) q
      rw [lst_snoc]; exact hr
    · show Pos (-f.ev q) → Dn f (lst a (t ++ [p]))
      rw [lst_snoc]; exact hd
theorem Iv.pass {f : Fu} {w : Hp} {P0 p q : Pt} {o : List Pt} (hh : Pos w.h) (hw : Pos (f.hv w)) (h : Iv f w P0 p o) (hr : Rl w p q) (hp : Pos (-(f.ev p))) (hq : Dn f q) : Iv f w P0 q o := by
  cases o with
  | nil =>
    rcases h with rfl | ⟨h1, h2, h3⟩
    · exact .inr ⟨hp, hq, hr⟩
    · exact .inr ⟨h1, hq, Rl.trans hh hw (.inr h1) h2 hq h3 hr⟩
  | cons a t =>
    obtain ⟨h1, h2, h3, h4⟩ := h
    exact ⟨h1, Rl.trans hh hw (h3 hp) (.inr hp) hq h2 hr, fun _ => h3 hp, h4⟩
theorem Iv.close {f : Fu} {w : Hp} {P0 a : Pt} {t : List Pt} (hh : Pos w.h) (hw : Pos (f.hv w)) (h : Iv f w P0 P0 (a :: t)) : Inn w (a :: t) := by
  obtain ⟨h1, h2, h3, h4⟩ := h
  refine inn_of h1 ?_
  rcases h4 with rfl | ⟨g1, g2, g3⟩
  · exact h2
  · exact Rl.trans hh hw (h3 g1) (.inr g1) g2 h2 g3
theorem SgnP.opp {s : Int} {x : Q2} (h : SgnP s x) : SgnP (-s) (-x) := by
  rcases h with ⟨rfl, h⟩ | ⟨rfl, rfl⟩ | ⟨rfl, h⟩
  · exact .inr (.inr ⟨rfl, by rwa [show - -x = x by grind]⟩)
  · exact .inr (.inl ⟨rfl, by grind⟩)
  · exact .inl ⟨rfl, h⟩
/-- A line as a function, its side counted. -/
def lf (l : Li) (s : Int) : Fu := if s = 1 then ⟨val (vec (l.dir + 4)).x, val (vec (l.dir + 4)).y, val l.off⟩ else ⟨-val (vec (l.dir + 4)).x, -val (vec (l.dir + 4)).y, -val l.off⟩
theorem lf_sgn {l : Li} {s : Int} {p : Pt} (hl : Lok l) (hp : PK p) (hs : s = 1 ∨ s = -1) : SgnP (s * sd l p) ((lf l s).ev p) := by
  have h := sd_sgn hl hp
  rcases hs with rfl | rfl
  · rw [Int.one_mul]; exact h
  · have e : (lf l (-1)).ev p = -(fv (l.dir + 4) p - val l.off) := by
      unfold lf Fu.ev fv
      rw [if_neg (by omega)]
      simp only; grind
    rw [e, show -1 * sd l p = -sd l p by omega]
    exact h.opp
theorem fv0 (p : Pt) : fv 0 p = val p.x := by
  have e1 : val (vec 0).x = 1 := by show val ⟨1, 0, 0⟩ = 1; apply Q2.ext' <;> simp [val, pr, pw] <;> grind
  have e2 : val (vec 0).y = 0 := val_zero
  unfold fv; rw [e1, e2]; grind
theorem fv4 (p : Pt) : fv 4 p = val p.y := by
  have e1 : val (vec 4).y = 1 := by show val ⟨1, 0, 0⟩ = 1; apply Q2.ext' <;> simp [val, pr, pw] <;> grind
  have e2 : val (vec 4).x = 0 := val_zero
  unfold fv; rw [e1, e2]; grind
theorem seg_meet {K M : Nat} {l : Li} {s : Int} {ps : List Pt} (hg : Good K M l s ps) (hl : Lok l) (hs : s = 1 ∨ s = -1) (hp : ∀ p ∈ ps, PK p) {k : Nat} (hk : k < ps.length) (h : s * sd l (nth ps k) * (s * sd l (nxt ps k)) < 0) :
    Seg (lf l s) (nth ps k) (nxt ps k) (meetP (sideL (nth ps k) (nxt ps k)) l) := by
  obtain ⟨g1, g2, -⟩ := hg k hk h
  have pp := hp _ (nth_mem hk)
  have pq : PK (nxt ps k) := hp _ (nth_mem (Nat.mod_lt _ (by omega)))
  have hL : Lok (sideL (nth ps k) (nxt ps k)) := sideL_ok pp
  obtain ⟨o1, o2⟩ := side_ends pp pq g1
  obtain ⟨o3, o4⟩ := meet_on hL hl g2
  generalize meetP (sideL (nth ps k) (nxt ps k)) l = x at *
  generalize sideL (nth ps k) (nxt ps k) = L at *
  generalize nth ps k = p at *
  generalize nxt ps k = q at *
  have c0 := cross_ratio hL o1 o2 o3 0 (l.dir + 4)
  have c4 := cross_ratio hL o1 o2 o3 4 (l.dir + 4)
  rw [fv0, fv0, fv0] at c0
  rw [fv4, fv4, fv4] at c4
  have ox : fv (l.dir + 4) x = val l.off := o4
  rw [ox] at c0 c4
  have ev : ∀ p, (lf l s).ev p = fv (l.dir + 4) p - val l.off ∨ (lf l s).ev p = -(fv (l.dir + 4) p - val l.off) := fun p => by
    rcases hs with rfl | rfl
    · exact .inl rfl
    · right
      unfold lf Fu.ev fv
      rw [if_neg (by omega)]
      simp only; grind
  unfold Seg
  rcases hs with rfl | rfl
  · have e : ∀ p, (lf l 1).ev p = fv (l.dir + 4) p - val l.off := fun p => rfl
    rw [e, e]
    generalize fv (l.dir + 4) p = F at *
    generalize fv (l.dir + 4) q = G at *
    exact ⟨by grind, by grind⟩
  · have e : ∀ p, (lf l (-1)).ev p = -(fv (l.dir + 4) p - val l.off) := fun p => by
      unfold lf Fu.ev fv
      rw [if_neg (by omega)]
      simp only; grind
    rw [e, e]
    generalize fv (l.dir + 4) p = F at *
    generalize fv (l.dir + 4) q = G at *
    exact ⟨by grind, by grind⟩
theorem sg_prod {a b : Int} {x y : Q2} (ha : SgnP a x) (hb : SgnP b y) (h : a * b < 0) : (a = 1 ∧ b = -1) ∨ (a = -1 ∧ b = 1) := by
  rcases ha.cases with rfl | rfl | rfl <;> rcases hb.cases with rfl | rfl | rfl <;> simp at h ⊢
theorem cutN_iv {K M : Nat} {l : Li} {s : Int} {ps : List Pt} {w : Hp} (hi : Inn w ps) (hh : Pos w.h) (hl : Lok l) (hs : s = 1 ∨ s = -1) (hp : ∀ p ∈ ps, PK p) (hg : Good K M l s ps) (hw : Pos ((lf l s).hv w)) :
    ∀ k, k ≤ ps.length → Iv (lf l s) w (pt ps 0) (pt ps k) (cutN l s ps k)
  | 0, _ => .inl rfl
  | k + 1, hk => by
    have ih := cutN_iv hi hh hl hs hp hg hw k (by omega)
    have hr := hi k
    have e1 : pt ps k = nth ps k := pt_lt (by omega)
    have e2 : pt ps (k + 1) = nxt ps k := rfl
    have s1 := lf_sgn (s := s) hl (hp _ (nth_mem (show k < ps.length by omega))) hs
    have s2 := lf_sgn (s := s) hl (hp _ (nxt_mem (show k < ps.length by omega))) hs
    have hx := seg_meet hg hl hs hp (show k < ps.length by omega)
    rw [e1] at ih hr
    rw [e2] at hr ⊢
    show Iv _ _ _ _ (cutN l s ps k ++ cutF l s (nth ps k) (nxt ps k))
    unfold cutF
    generalize hX : meetP (sideL (nth ps k) (nxt ps k)) l = x at *
    generalize nth ps k = p at *
    generalize nxt ps k = q at *
    generalize s * sd l p = a at *
    generalize s * sd l q = b at *
    generalize lf l s = f at *
    by_cases hab : a * b < 0
    · have hS := hx hab
      rw [if_pos hab]
      have x0 : ∀ {d : Q2}, f.ev p - f.ev q = d → (Pos d ∨ Pos (-d)) → f.ev x = 0 := fun {d} e hd => by
        have := hS.ev f
        rw [e] at this
        have z : f.ev x * d = 0 := by rw [this]; grind
        rcases sgn3 (f.ev x) with h | h | h
        · rcases hd with hd | hd
          · exact ((h.times hd).ne z).elim
          · exact ((h.times hd).ne (by rw [show f.ev x * -d = -(f.ev x * d) by grind, z]; grind)).elim
        · exact h
        · rcases hd with hd | hd
          · exact ((h.times hd).ne (by rw [show -f.ev x * d = -(f.ev x * d) by grind, z]; grind)).elim
          · exact ((h.times hd).ne (by rw [show -f.ev x * -d = f.ev x * d by grind, z])).elim
      have c1 := hS.crs1 w
      have c2 := hS.crs2 w
      rcases sg_prod s1 s2 hab with ⟨ea, eb⟩ | ⟨ea, eb⟩
      · -- down
        have p1 : Pos (f.ev p) := s1.pos.1 ea
        have p2 : Pos (-(f.ev q)) := s2.neg.1 eb
        have pd : Pos (f.ev p - f.ev q) := by have := p1.add p2; rwa [show f.ev p + -f.ev q = f.ev p - f.ev q by grind] at this
        have z := x0 rfl (.inl pd)
        have r1 : Rl w p x := Pos.of_times (by rw [c1]; exact p1.times hr) pd
        have r2 : Rl w x q := Pos.of_times (by rw [c2]; exact p2.times hr) pd
        rw [if_pos (by omega), ← List.append_assoc]
        have dx : Dn f x := .inl (by rw [z]; grind)
        exact (ih.put r1 fun hx => (hx.ne (by rw [z]; grind)).elim).put r2 fun _ => dx
      · -- up
        have p1 : Pos (-(f.ev p)) := s1.neg.1 ea
        have p2 : Pos (f.ev q) := s2.pos.1 eb
        have pd : Pos (-(f.ev p - f.ev q)) := by have := p1.add p2; rwa [show -f.ev p + f.ev q = -(f.ev p - f.ev q) by grind] at this
        have z := x0 rfl (.inr pd)
        have r1 : Rl w p x := Pos.of_times (y := -(f.ev p - f.ev q)) (by rw [show crs p x w * -(f.ev p - f.ev q) = -(crs p x w * (f.ev p - f.ev q)) by grind, c1, show -(f.ev p * crs p q w) = -f.ev p * crs p q w by grind]; exact p1.times hr) pd
        have r2 : Rl w x q := Pos.of_times (y := -(f.ev p - f.ev q)) (by rw [show crs x q w * -(f.ev p - f.ev q) = -(crs x q w * (f.ev p - f.ev q)) by grind, c2, show -(-f.ev q * crs p q w) = f.ev q * crs p q w by grind]; exact p2.times hr) pd
        rw [if_neg (by omega), List.nil_append]
        have dx : Dn f x := .inl (by rw [z]; grind)
        exact (ih.pass hh hw r1 p1 dx).put r2 fun hq => (hq.anti (by rwa [show - -f.ev q = f.ev q by grind])).elim
    · rw [if_neg hab, List.append_nil]
      by_cases ha : 0 ≤ a
      · rw [if_pos ha]
        refine ih.put hr fun hq => ?_
        have eb : b = -1 := s2.neg.2 hq
        rcases s1 with ⟨e, h⟩ | ⟨e, h⟩ | ⟨e, h⟩
        · rw [e, eb] at hab; simp at hab
        · exact .inl (by rw [h]; grind)
        · omega
      · rw [if_neg ha, List.append_nil]
        rcases s1 with ⟨e, h⟩ | ⟨e, h⟩ | ⟨e, h⟩
        · omega
        · omega
        · refine ih.pass hh hw hr h ?_
          rcases s2 with ⟨e', h'⟩ | ⟨e', h'⟩ | ⟨e', h'⟩
          · rw [e, e'] at hab; simp at hab
          · exact .inl (by rw [h']; grind)
          · exact .inr h'
theorem Inn.has {l : Li} {s : Int} {ps : List Pt} {w : Hp} (hi : Inn w ps) (hn : 0 < ps.length) (hh : Pos w.h) (hl : Lok l) (hs : s = 1 ∨ s = -1) (hp : ∀ p ∈ ps, PK p) (hw : Pos ((lf l s).hv w)) : hasN l s ps ps.length = true := by
  refine Classical.byContradiction fun hno => ?_
  have hd : ∀ k, Dn (lf l s) (pt ps k) := fun k => by
    have hm : k % ps.length < ps.length := Nat.mod_lt _ hn
    have sg := lf_sgn (s := s) hl (hp _ (nth_mem hm)) hs
    have : ¬ 0 < s * sd l (nth ps (k % ps.length)) := fun h => hno ((hasN_any l s ps ps.length).2 ⟨_, hm, h⟩)
    rcases sg with ⟨e, h⟩ | ⟨e, h⟩ | ⟨e, h⟩
    · omega
    · exact .inl (by unfold pt; rw [h]; grind)
    · exact .inr h
  have key : ∀ k, Rl w (pt ps 0) (pt ps (k + 1)) := fun k => by
    induction k with
    | zero => exact hi 0
    | succ k ih => exact Rl.trans hh hw (hd _) (hd _) (hd _) ih (hi (k + 1))
  have := key (ps.length - 1)
  rw [show ps.length - 1 + 1 = 0 + ps.length by omega, pt_per] at this
  exact this.irr
theorem cutN_keeps {l : Li} {s : Int} {ps : List Pt} {j : Nat} (hj : 0 ≤ s * sd l (nth ps j)) : ∀ k, j < k → nth ps j ∈ cutN l s ps k
  | 0, h => by omega
  | k + 1, h => by
    simp only [cutN, List.mem_append]
    by_cases e : j = k
    · subst e; right; unfold cutF; rw [if_pos hj]; simp
    · exact .inl (cutN_keeps hj k (by omega))
theorem Inn.part {K M : Nat} {l : Li} {s : Int} {ps : List Pt} {w : Hp} (hi : Inn w ps) (hn : 0 < ps.length) (hh : Pos w.h) (hl : Lok l) (hs : s = 1 ∨ s = -1) (hp : ∀ p ∈ ps, PK p) (hg : Good K M l s ps) (hw : Pos ((lf l s).hv w)) :
    Inn w (partR l s ps) ∧ 0 < (partR l s ps).length := by
  have hh' := hi.has hn hh hl hs hp hw
  have iv := cutN_iv hi hh hl hs hp hg hw ps.length (Nat.le_refl _)
  obtain ⟨j, hj, hj'⟩ := (hasN_any l s ps ps.length).1 hh'
  have hm := cutN_keeps (ps := ps) (j := j) (show 0 ≤ s * sd l (nth ps j) by omega) ps.length hj
  have e : pt ps ps.length = pt ps 0 := by have := pt_per ps 0; rwa [Nat.zero_add] at this
  rw [e] at iv
  unfold partR
  rw [if_pos hh', rot0_len]
  cases hc : cutN l s ps ps.length with
  | nil => rw [hc] at hm; simp at hm
  | cons a t =>
    rw [hc] at iv
    exact ⟨(iv.close hh hw).rot (by simp), by simp⟩
/-! ### Two polygons -/
def sf (b : List Pt) (j : Nat) : Fu := lf (sideL (nth b j) (nxt b j)) (sideS (nth b j) (nxt b j))
theorem Inn.com {a b : List Pt} {w : Hp} (ha : Fine a) (hb : Poly b) (hi : Inn w a) (hn : 0 < a.length) (hh : Pos w.h) : ∀ k, k ≤ b.length → (∀ j, j < k → Pos ((sf b j).hv w)) → Inn w (comN a b k) ∧ 0 < (comN a b k).length
  | 0, _, _ => ⟨hi, hn⟩
  | k + 1, hk, hw => by
    obtain ⟨h1, h2⟩ := Inn.com ha hb hi hn hh k (by omega) fun j hj => hw j (by omega)
    have hl := sideL_ok (q := nxt b k) (hb.pk _ (nth_mem (show k < b.length by omega)))
    have hf := comN_fine ha hb k (by omega)
    obtain ⟨S, q1, q2, q3⟩ := hf
    have hg : Good 10 MM (sideL (nth b k) (nxt b k)) (sideS (nth b k) (nxt b k)) (comN a b k) := Fine.good ⟨S, q1, q2, q3⟩ hl
    exact h1.part h2 hh hl (sideS_or _ _) q3 hg (hw k (by omega))
end Go.Vai
/- A point inside of all lines; what three polygons have in common. -/
set_option linter.unusedVariables false
set_option linter.unusedSimpArgs false
set_option maxHeartbeats 4000000
namespace Go.Vai
/-- A point on which all functions of a set are above 0, and a list on whose points they are not below 0. -/
structure Wt (S : Fu → Prop) (Q : List Pt) (w : Hp) : Prop where
  h : Pos w.h
  on : ∀ f, S f → Pos (f.hv w)
  up : ∀ f, S f → ∀ p ∈ Q, NN (f.ev p)
theorem Wt.mono {S S' : Fu → Prop} {Q Q' : List Pt} {w : Hp} (h : Wt S Q w) (hs : ∀ f, S' f → S f) (hq : ∀ p ∈ Q', p ∈ Q) : Wt S' Q' w :=
  ⟨h.h, fun f hf => h.on f (hs f hf), fun f hf p hp => h.up f (hs f hf) p (hq p hp)⟩
def mix (u : Q2) (p : Pt) (v : Q2) (w : Hp) : Hp := ⟨u * val p.x + v * w.x, u * val p.y + v * w.y, u + v * w.h⟩
theorem mix_hv (f : Fu) (u : Q2) (p : Pt) (v : Q2) (w : Hp) : f.hv (mix u p v w) = u * f.ev p + v * f.hv w := by
  unfold mix Fu.hv Fu.ev; simp only; grind
theorem cutN_of {l : Li} {s : Int} {ps : List Pt} {p : Pt} : ∀ k, k ≤ ps.length → p ∈ cutN l s ps k →
    ∃ j, j < ps.length ∧ ((p = nth ps j ∧ 0 ≤ s * sd l (nth ps j)) ∨ (p = meetP (sideL (nth ps j) (nxt ps j)) l ∧ s * sd l (nth ps j) * (s * sd l (nxt ps j)) < 0))
  | 0, _, h => by simp [cutN] at h
  | k + 1, hk, h => by
    simp only [cutN, List.mem_append] at h
    rcases h with h | h
    · exact cutN_of k (by omega) h
    · unfold cutF at h
      rcases List.mem_append.1 h with h | h
      · split at h
        · rename_i h0
          exact ⟨k, by omega, .inl ⟨List.mem_singleton.1 h, h0⟩⟩
        · simp at h
      · split at h
        · rename_i h0
          exact ⟨k, by omega, .inr ⟨List.mem_singleton.1 h, h0⟩⟩
        · simp at h
theorem Wt.part {K M : Nat} {S : Fu → Prop} {l : Li} {s : Int} {ps : List Pt} {w : Hp} (h : Wt S ps w) (hl : Lok l) (hs : s = 1 ∨ s = -1) (hp : ∀ p ∈ ps, PK p) (hg : Good K M l s ps) (hne : 0 < (partR l s ps).length) :
    ∃ w', Wt (fun f => S f ∨ f = lf l s) (partR l s ps) w' := by
  have hh : hasN l s ps ps.length = true := by
    unfold partR at hne
    split at hne
    · assumption
    · simp at hne
  obtain ⟨k, hk, hk'⟩ := (hasN_any l s ps ps.length).1 hh
  have vm := nth_mem hk
  have hv : Pos ((lf l s).ev (nth ps k)) := by
    rcases lf_sgn (s := s) hl (hp _ vm) hs with ⟨e, h⟩ | ⟨e, h⟩ | ⟨e, h⟩
    · exact h
    · omega
    · omega
  have up : ∀ f, S f ∨ f = lf l s → ∀ p ∈ partR l s ps, NN (f.ev p) := by
    intro f hf p hp'
    have hp'' : p ∈ cutN l s ps ps.length := by
      unfold partR at hp'; rw [if_pos hh] at hp'; exact rot0_mem hp'
    obtain ⟨j, hj, ⟨rfl, h0⟩ | ⟨rfl, h0⟩⟩ := cutN_of _ (Nat.le_refl _) hp''
    · rcases hf with hf | rfl
      · exact h.up f hf _ (nth_mem hj)
      · rcases lf_sgn (s := s) hl (hp _ (nth_mem hj)) hs with ⟨e, h⟩ | ⟨e, h⟩ | ⟨e, h⟩
        · exact .inr h
        · exact .inl h
        · omega
    · have hS := seg_meet hg hl hs hp hj h0
      have s1 := lf_sgn (s := s) hl (hp _ (nth_mem hj)) hs
      have s2 := lf_sgn (s := s) hl (hp _ (nxt_mem hj)) hs
      have hev := hS.ev f
      rcases sg_prod s1 s2 h0 with ⟨ea, eb⟩ | ⟨ea, eb⟩
      · have p1 : Pos ((lf l s).ev (nth ps j)) := s1.pos.1 ea
        have p2 : Pos (-((lf l s).ev (nxt ps j))) := s2.neg.1 eb
        refine NN.of_times (y := (lf l s).ev (nth ps j) - (lf l s).ev (nxt ps j)) ?_ (by have := p1.add p2; rwa [show (lf l s).ev (nth ps j) + -(lf l s).ev (nxt ps j) = (lf l s).ev (nth ps j) - (lf l s).ev (nxt ps j) by grind] at this)
        rw [hev]
        rcases hf with hf | rfl
        · have := (NN.mul (.inr p1) (h.up f hf _ (nxt_mem hj))).add (NN.mul (.inr p2) (h.up f hf _ (nth_mem hj)))
          rwa [show (lf l s).ev (nth ps j) * f.ev (nxt ps j) + -(lf l s).ev (nxt ps j) * f.ev (nth ps j) = (lf l s).ev (nth ps j) * f.ev (nxt ps j) - (lf l s).ev (nxt ps j) * f.ev (nth ps j) by grind] at this
        · exact .inl (by grind)
      · have p1 : Pos (-((lf l s).ev (nth ps j))) := s1.neg.1 ea
        have p2 : Pos ((lf l s).ev (nxt ps j)) := s2.pos.1 eb
        refine NN.of_times (y := -((lf l s).ev (nth ps j) - (lf l s).ev (nxt ps j))) ?_ (by have := p1.add p2; rwa [show -(lf l s).ev (nth ps j) + (lf l s).ev (nxt ps j) = -((lf l s).ev (nth ps j) - (lf l s).ev (nxt ps j)) by grind] at this)
        generalize meetP (sideL (nth ps j) (nxt ps j)) l = x at *
        rw [show f.ev x * -((lf l s).ev (nth ps j) - (lf l s).ev (nxt ps j)) = -(f.ev x * ((lf l s).ev (nth ps j) - (lf l s).ev (nxt ps j))) by grind, hev]
        rcases hf with hf | rfl
        · have := (NN.mul (.inr p1) (h.up f hf _ (nxt_mem hj))).add (NN.mul (.inr p2) (h.up f hf _ (nth_mem hj)))
          rwa [show -(lf l s).ev (nth ps j) * f.ev (nxt ps j) + (lf l s).ev (nxt ps j) * f.ev (nth ps j) = -((lf l s).ev (nth ps j) * f.ev (nxt ps j) - (lf l s).ev (nxt ps j) * f.ev (nth ps j)) by grind] at this
        · exact .inl (by grind)
  have fin : ∀ u v : Q2, Pos u → Pos v → Pos (u * (lf l s).ev (nth ps k) + v * (lf l s).hv w) → ∃ w', Wt (fun f => S f ∨ f = lf l s) (partR l s ps) w' := fun u v hu hv' hgo =>
    ⟨mix u (nth ps k) v w, show Pos (u + v * w.h) from hu.add (hv'.times h.h), fun f hf => by
      rw [mix_hv]
      rcases hf with hf | rfl
      · exact (NN.mul (.inr hu) (h.up f hf _ vm)).pos_add (hv'.times (h.on f hf))
      · exact hgo, up⟩
  rcases sgn3 ((lf l s).hv w) with h' | h' | h'
  · exact fin 1 1 pos1 pos1 (by have := hv.add h'; rwa [show 1 * (lf l s).ev (nth ps k) + 1 * (lf l s).hv w = (lf l s).ev (nth ps k) + (lf l s).hv w by grind])
  · exact fin 1 1 pos1 pos1 (by rw [h']; rwa [show 1 * (lf l s).ev (nth ps k) + 1 * 0 = (lf l s).ev (nth ps k) by grind])
  · refine fin (-((lf l s).hv w) + -((lf l s).hv w)) ((lf l s).ev (nth ps k)) (h'.add h') hv ?_
    have := h'.times hv
    rwa [show (-((lf l s).hv w) + -((lf l s).hv w)) * (lf l s).ev (nth ps k) + (lf l s).ev (nth ps k) * (lf l s).hv w = -(lf l s).hv w * (lf l s).ev (nth ps k) by grind]
theorem Wt.com {a b : List Pt} {S : Fu → Prop} {w : Hp} (ha : Fine a) (hb : Poly b) (h : Wt S a w) : ∀ k, k ≤ b.length → 0 < (comN a b k).length → ∃ w', Wt (fun f => S f ∨ ∃ j, j < k ∧ f = sf b j) (comN a b k) w'
  | 0, _, _ => ⟨w, h.mono (fun f hf => by
      rcases hf with hf | ⟨j, hj, -⟩
      · exact hf
      · omega) fun p hp => hp⟩
  | k + 1, hk, hne => by
    have hl := sideL_ok (q := nxt b k) (hb.pk _ (nth_mem (show k < b.length by omega)))
    have hf := comN_fine ha hb k (by omega)
    obtain ⟨S', q1, q2, q3⟩ := hf
    have hg : Good 10 MM (sideL (nth b k) (nxt b k)) (sideS (nth b k) (nxt b k)) (comN a b k) := Fine.good ⟨S', q1, q2, q3⟩ hl
    have hpr : 0 < (comN a b k).length := by
      rcases Nat.eq_zero_or_pos (comN a b k).length with e | e
      · have e' := List.length_eq_zero_iff.1 e
        change 0 < (partR _ _ (comN a b k)).length at hne
        rw [e', partR_nil] at hne
        simp at hne
      · exact e
    obtain ⟨w1, h1⟩ := Wt.com ha hb h k (by omega) hpr
    obtain ⟨w2, h2⟩ := h1.part hl (sideS_or _ _) q3 hg hne
    refine ⟨w2, h2.mono (fun f hf => ?_) fun p hp => hp⟩
    rcases hf with hf | ⟨j, hj, e⟩
    · exact .inl (.inl hf)
    · by_cases hjk : j = k
      · subst hjk; exact .inr e
      · exact .inl (.inr ⟨j, by omega, e⟩)
/-! ### The middle of a polygon -/
def sumP : List Pt → Hp
  | [] => ⟨0, 0, 0⟩
  | p :: t => ⟨val p.x + (sumP t).x, val p.y + (sumP t).y, 1 + (sumP t).h⟩
theorem sum_cons (f : Fu) (p : Pt) (t : List Pt) : f.hv (sumP (p :: t)) = f.ev p + f.hv (sumP t) := by
  unfold Fu.hv Fu.ev; simp only [sumP]; grind
theorem sum_nn (f : Fu) : ∀ l : List Pt, (∀ p ∈ l, NN (f.ev p)) → NN (f.hv (sumP l))
  | [], _ => .inl (by unfold Fu.hv; simp only [sumP]; grind)
  | p :: t, h => by
    rw [sum_cons]
    exact (h p (by simp)).add (sum_nn f t fun q hq => h q (by simp [hq]))
theorem sum_pos (f : Fu) : ∀ l : List Pt, (∀ p ∈ l, NN (f.ev p)) → (∃ p ∈ l, Pos (f.ev p)) → Pos (f.hv (sumP l))
  | [], _, h => by obtain ⟨p, hp, -⟩ := h; simp at hp
  | p :: t, h, h' => by
    rw [sum_cons]
    obtain ⟨q, hq, hq'⟩ := h'
    rcases List.mem_cons.1 hq with rfl | hq
    · have := (sum_nn f t fun q hq => h q (by simp [hq])).pos_add hq'
      rwa [show f.hv (sumP t) + f.ev q = f.ev q + f.hv (sumP t) by grind] at this
    · exact (h p (by simp)).pos_add (sum_pos f t (fun q hq => h q (by simp [hq])) ⟨q, hq, hq'⟩)
theorem sum_h0 : ∀ l : List Pt, NN (sumP l).h
  | [] => .inl rfl
  | p :: t => NN.add (.inr pos1) (sum_h0 t)
theorem sum_h {l : List Pt} (h : 0 < l.length) : Pos (sumP l).h := by
  cases l with
  | nil => simp at h
  | cons p t =>
    have := (sum_h0 t).pos_add pos1
    show Pos (1 + (sumP t).h)
    rwa [show 1 + (sumP t).h = (sumP t).h + 1 by grind]
theorem vec_opp {m : Int} (h0 : 0 ≤ m) (h1 : m ≤ 15) : val (vec ((m + 8) % 16)).x = -val (vec m).x ∧ val (vec ((m + 8) % 16)).y = -val (vec m).y := by
  rw [← val_nneg, ← val_nneg]
  rcases dir16 h0 h1 with rfl | rfl | rfl | rfl | rfl | rfl | rfl | rfl | rfl | rfl | rfl | rfl | rfl | rfl | rfl | rfl <;> exact ⟨rfl, rfl⟩
theorem sf_eq {b : List Pt} (hb : Poly b) {j : Nat} (hj : j < b.length) : sf b j = ⟨val (vec ((dm b j + 4) % 16)).x, val (vec ((dm b j + 4) % 16)).y, fv ((dm b j + 4) % 16) (pt b j)⟩ := by
  have hdj : dm b j = dl b j := by unfold dm; rw [Nat.mod_eq_of_lt hj]
  have h0 : 0 ≤ dl b j := hb.d j hj
  have h1 := (dl_range b j).2
  have hpk : PK (nth b j) := hb.pk _ (nth_mem hj)
  rw [hdj, pt_lt hj]
  have hd : dirR (pminus (nxt b j) (nth b j)) = dl b j := rfl
  unfold sf lf sideS sideL lat
  rw [hd]
  simp only [val_ndot (vec_k _) hpk]
  generalize dl b j = d at *
  by_cases h8 : d < 8
  · have e1 : d % 8 + 4 = (d + 4) % 16 := by omega
    rw [if_pos h8, if_pos rfl, e1]
    rfl
  · have e1 : (d + 4) % 16 = ((d % 8 + 4) + 8) % 16 := by omega
    rw [if_neg h8, if_neg (by omega), e1]
    have hv := vec_opp (m := d % 8 + 4) (by omega) (by omega)
    unfold fv
    rw [hv.1, hv.2]
    congr 1
    grind
theorem sf_ev {b : List Pt} (hb : Poly b) {j : Nat} (hj : j < b.length) (p : Pt) : (sf b j).ev p = fv ((dm b j + 4) % 16) p - fv ((dm b j + 4) % 16) (pt b j) := by
  rw [sf_eq hb hj]; rfl
theorem Conv.upS {a : List Pt} (h : Conv a) {j : Nat} (hj : j < a.length) : (∀ p ∈ a, NN ((sf a j).ev p)) ∧ ∃ p ∈ a, Pos ((sf a j).ev p) := by
  have hn := h.n
  have hd : ∀ k, 0 ≤ dm a k ∧ dm a k ≤ 15 := fun k => ⟨h.d _ (Nat.mod_lt _ hn), (dl_range a _).2⟩
  have hfull := h.full j
  have hev := fun p => sf_ev h.toPoly hj p
  have hd0 := hd j
  obtain ⟨m, hm⟩ : ∃ m, m = (dm a j + 4) % 16 := ⟨_, rfl⟩
  have m0 : 0 ≤ m := by omega
  have m1 : m ≤ 15 := by omega
  rw [← hm] at hev
  have hth := dm_sg a j
  have hlast : sg a j (a.length - 1) ≤ 15 := by
    have e : sg a j a.length = sg a j (a.length - 1) + tau a (j + (a.length - 1)) := by
      conv => lhs; rw [show a.length = (a.length - 1) + 1 by omega]
      rfl
    have := (h.t (j + (a.length - 1))).1
    omega
  have hsg : ∀ k, k < a.length → 0 ≤ sg a j k ∧ sg a j k ≤ 15 := fun k hk => by
    have a1 := sg_le a j k (a.length - 1) (by omega)
    have a2 := (sg_mono a j k).1
    omega
  have up : ∀ k, k < a.length → sg a j k ≤ 8 → NN (fv m (pt a (j + (k + 1))) - fv m (pt a (j + k))) := fun k hk h8 => by
    have b := hth k
    have d1 := hd (j + k)
    have s1 := hsg k hk
    by_cases e : sg a j k = 0 ∨ sg a j k = 8
    · have := side_flat h.toPoly hn m0 m1 (j + k) (by omega)
      refine .inl ?_
      rw [← Nat.add_assoc, this]; grind
    · exact .inr (side_up h.toPoly hn m0 m1 (j + k) (by omega))
  have down : ∀ k, k < a.length → 8 ≤ sg a j k → NN (fv m (pt a (j + k)) - fv m (pt a (j + (k + 1)))) := fun k hk h8 => by
    have b := hth k
    have d1 := hd (j + k)
    have s1 := hsg k hk
    by_cases e : sg a j k = 8
    · have := side_flat h.toPoly hn m0 m1 (j + k) (by omega)
      refine .inl ?_
      rw [← Nat.add_assoc, this]; grind
    · exact .inr (side_down h.toPoly hn m0 m1 (j + k) (by omega))
  have A : ∀ k, k ≤ a.length → (∀ i, i < k → sg a j i ≤ 8) → NN (fv m (pt a (j + k)) - fv m (pt a j)) := by
    intro k
    induction k with
    | zero => intro _ _; exact .inl (by rw [Nat.add_zero]; grind)
    | succ k ih =>
      intro hk hi
      have := (up k (by omega) (hi k (by omega))).add (ih (by omega) fun i hi' => hi i (by omega))
      rwa [show fv m (pt a (j + (k + 1))) - fv m (pt a (j + k)) + (fv m (pt a (j + k)) - fv m (pt a j)) = fv m (pt a (j + (k + 1))) - fv m (pt a j) by grind] at this
  have B : ∀ r, r ≤ a.length → 8 ≤ sg a j (a.length - r) → NN (fv m (pt a (j + (a.length - r))) - fv m (pt a j)) := by
    intro r
    induction r with
    | zero => intro _ _; exact .inl (by rw [Nat.sub_zero, pt_per]; grind)
    | succ r ih =>
      intro hr h8
      have e : a.length - (r + 1) + 1 = a.length - r := by omega
      have d1 := down (a.length - (r + 1)) (by omega) h8
      rw [e] at d1
      have := sg_le a j (a.length - (r + 1)) (a.length - r) (by omega)
      have := d1.add (ih (by omega) (by omega))
      rwa [show fv m (pt a (j + (a.length - (r + 1)))) - fv m (pt a (j + (a.length - r))) + (fv m (pt a (j + (a.length - r))) - fv m (pt a j)) = fv m (pt a (j + (a.length - (r + 1)))) - fv m (pt a j) by grind] at this
  refine ⟨fun p hp => ?_, pt a (j + 2), nth_mem (Nat.mod_lt _ hn), ?_⟩
  · rw [hev]
    obtain ⟨i, hi, rfl⟩ := List.getElem_of_mem hp
    obtain ⟨k, hk, e⟩ : ∃ k, k < a.length ∧ pt a (j + k) = a[i] := by
      by_cases hij : j ≤ i
      · exact ⟨i - j, by omega, by rw [show j + (i - j) = i by omega, pt_lt hi, nth_eq hi]⟩
      · exact ⟨i + a.length - j, by omega, by rw [show j + (i + a.length - j) = i + a.length by omega, pt_per, pt_lt hi, nth_eq hi]⟩
    rw [← e]
    by_cases h8 : sg a j k ≤ 8
    · exact A k (by omega) fun i hi => by have := sg_le a j i k (by omega); omega
    · have := B (a.length - k) (by omega) (by rw [show a.length - (a.length - k) = k by omega]; omega)
      rwa [show a.length - (a.length - k) = k by omega] at this
  · rw [hev]
    have z0 := hth 0
    have z1 := hth 1
    have t1 := h.t j
    have e1 : sg a j 1 = tau a j := by simp [sg]
    have e0 : sg a j 0 = 0 := rfl
    have d1 := hd (j + 1)
    have f0 := side_flat h.toPoly hn m0 m1 j (by omega)
    have f1 := side_up h.toPoly hn m0 m1 (j + 1) (by omega)
    rw [f0] at f1
    exact f1
theorem Conv.wit {a : List Pt} (h : Conv a) : Wt (fun f => ∃ j, j < a.length ∧ f = sf a j) a (sumP a) :=
  ⟨sum_h h.n, fun f hf => by obtain ⟨j, hj, rfl⟩ := hf; exact sum_pos _ _ (h.upS hj).1 (h.upS hj).2, fun f hf p hp => by obtain ⟨j, hj, rfl⟩ := hf; exact (h.upS hj).1 p hp⟩
/-- A point inside of all lines of the sides sees the sides turn to the left. -/
theorem Conv.inn {a : List Pt} (h : Conv a) {w : Hp} (hw : ∀ j, j < a.length → Pos ((sf a j).hv w)) : Inn w a := by
  intro k
  have hn := h.n
  have hm : k % a.length < a.length := Nat.mod_lt _ hn
  have e1 : pt a k = pt a (k % a.length) := by unfold pt; rw [Nat.mod_mod]
  have e2 : pt a (k + 1) = pt a (k % a.length + 1) := by unfold pt; rw [Nat.mod_add_mod]
  rw [e1, e2]
  generalize k % a.length = j at *
  have hd : 0 ≤ dm a j ∧ dm a j ≤ 15 := ⟨h.d _ (Nat.mod_lt _ hn), (dl_range a _).2⟩
  have hj := hw j hm
  rw [sf_eq h.toPoly hm] at hj
  have f0 := side_flat h.toPoly hn (m := (dm a j + 4) % 16) (by omega) (by omega) j (by omega)
  have f1 := side_up h.toPoly hn (m := dm a j) hd.1 hd.2 j (by omega)
  have hvt := vec_turn hd.1 hd.2
  have hsq := nn_mul (sq_plain hd.1 hd.2) pos1
  have hv := vec_k (dm a j)
  rw [val_nmul (by decide) (ndot_k hv hv), val_ndot hv hv] at hsq
  unfold fv at f0 f1 hj
  rw [hvt] at f0 hj
  unfold Fu.hv at hj
  simp only [val_nneg] at f0 hj
  generalize pt a j = p at *
  generalize pt a (j + 1) = q at *
  generalize val (vec (dm a j)).x = vx at *
  generalize val (vec (dm a j)).y = vy at *
  have hc : Pos (val wN) := by
    show Pos (val ⟨1, 1, 0⟩)
    rw [val_int]
    exact pos_one (by simp <;> grind) (by simp <;> grind) (.inl (by simp <;> grind))
  generalize val wN = c at *
  refine Pos.of_times (y := c * (vx * vx + vy * vy) * 1) ?_ hsq
  have := hc.times (f1.times hj)
  have e : crs p q w * (c * (vx * vx + vy * vy) * 1) = c * ((vx * val q.x + vy * val q.y - (vx * val p.x + vy * val p.y)) * (-vy * w.x + vx * w.y - (-vy * val p.x + vx * val p.y) * w.h)) := by
    unfold crs
    grind
  rw [e]; exact this
/-! ### Three polygons -/
theorem common_pos (a b : List Pt) : 0 < (commonR a b).length ↔ 0 < (comN a b b.length).length := by unfold commonR; rw [rot0_len]
/-- What three polygons have in common has a point inside of all three. -/
theorem wit3 {a b c : List Pt} (ha : Conv a) (hb : Conv b) (hc : Conv c) (h : 0 < (commonR (commonR a b) c).length) :
    ∃ w : Hp, Pos w.h ∧ (∀ j, j < a.length → Pos ((sf a j).hv w)) ∧ (∀ j, j < b.length → Pos ((sf b j).hv w)) ∧ (∀ j, j < c.length → Pos ((sf c j).hv w)) := by
  rw [common_pos] at h
  have h1 : 0 < (commonR a b).length := by
    rcases Nat.eq_zero_or_pos (commonR a b).length with e | e
    · have e' := List.length_eq_zero_iff.1 e
      rw [e'] at h
      have := comN_nil [] c (k := 0) rfl c.length
      rw [Nat.zero_add] at this
      rw [this] at h
      simp at h
    · exact e
  rw [common_pos] at h1
  obtain ⟨w1, g1⟩ := Wt.com ha.toPoly.fine hb.toPoly ha.wit b.length (Nat.le_refl _) h1
  have g1' := g1.mono (S' := _) (Q' := commonR a b) (fun f hf => hf) fun p hp => rot0_mem hp
  obtain ⟨w2, g2⟩ := Wt.com (comN_fine ha.toPoly.fine hb.toPoly b.length (Nat.le_refl _)).rot hc.toPoly g1' c.length (Nat.le_refl _) h
  exact ⟨w2, g2.h, fun j hj => g2.on _ (.inl (.inl ⟨j, hj, rfl⟩)), fun j hj => g2.on _ (.inl (.inr ⟨j, hj, rfl⟩)), fun j hj => g2.on _ (.inr ⟨j, hj, rfl⟩)⟩
theorem wit2 {a b : List Pt} (ha : Conv a) (hb : Conv b) (h : 0 < (commonR a b).length) :
    ∃ w : Hp, Pos w.h ∧ (∀ j, j < a.length → Pos ((sf a j).hv w)) ∧ (∀ j, j < b.length → Pos ((sf b j).hv w)) := by
  rw [common_pos] at h
  obtain ⟨w1, g1⟩ := Wt.com ha.toPoly.fine hb.toPoly ha.wit b.length (Nat.le_refl _) h
  exact ⟨w1, g1.h, fun j hj => g1.on _ (.inl ⟨j, hj, rfl⟩), fun j hj => g1.on _ (.inr ⟨j, hj, rfl⟩)⟩
theorem of_wit2 {a b : List Pt} (ha : Conv a) (hb : Conv b) {w : Hp} (hh : Pos w.h) (h1 : ∀ j, j < a.length → Pos ((sf a j).hv w)) (h2 : ∀ j, j < b.length → Pos ((sf b j).hv w)) : 0 < (commonR a b).length := by
  rw [common_pos]
  exact (Inn.com ha.toPoly.fine hb.toPoly (ha.inn h1) ha.n hh b.length (Nat.le_refl _) h2).2
/-- Three polygons with common area overlap by twos. -/
theorem three_two {a b c : List Pt} (ha : Conv a) (hb : Conv b) (hc : Conv c) (h : 0 < (commonR (commonR a b) c).length) : 0 < (commonR a c).length ∧ 0 < (commonR b c).length := by
  obtain ⟨w, hh, h1, h2, h3⟩ := wit3 ha hb hc h
  exact ⟨of_wit2 ha hc hh h1 h3, of_wit2 hb hc hh h2 h3⟩
end Go.Vai
