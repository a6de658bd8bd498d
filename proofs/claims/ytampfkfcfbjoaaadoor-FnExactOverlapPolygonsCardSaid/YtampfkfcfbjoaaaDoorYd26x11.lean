/- Merged texts of this claim: Zg11, Zt6, Zt7, Zt8, Zt9, Zt10, Zp12. -/
import Derived.Test.YtampfkfcfbjoaaaDoorYd26x10
import Derived.Test.YtampfkfcfbjoaaaDoorZvE
import Derived.Test.YtampfkfcfbjoaaaDoorZv18
/- Valid polygons: program and reference agree. -/
set_option linter.unusedVariables false
set_option linter.unusedSimpArgs false
set_option maxHeartbeats 4000000
namespace Go.Vai
theorem vN_low {x : Nu} (h : vN x = true) : low x = x := by
  simp only [vN, Bool.and_eq_true, Bool.or_eq_true, decide_eq_true_eq, inB_iff] at h
  obtain ⟨-, -, h3, h4⟩ := h
  exact low_end (by omega) (by omega)
theorem vN_k {x : Nu} (h : vN x = true) : 0 ≤ x.k := (vN_bound h).k0
/-! ### Order of numbers and points -/
theorem ncmp_zero {x y : Nu} (hx : 0 ≤ x.k) (hy : 0 ≤ y.k) : ncmp x y = 0 ↔ val x = val y := by
  unfold ncmp
  rw [nsign_zero, val_nsub hx hy]
  constructor
  · intro h; grind
  · intro h; rw [h]; grind
theorem ncmp_pos {x y : Nu} (hx : 0 ≤ x.k) (hy : 0 ≤ y.k) (h : ncmp x y = 1) : Pos (val x - val y) := by
  have := pos_of h
  rwa [val_nsub hx hy] at this
theorem ncmp_neg {x y : Nu} (hx : 0 ≤ x.k) (hy : 0 ≤ y.k) (h : ncmp x y = -1) : Pos (val y - val x) := by
  have := pos_of (x := nneg (nsub x y)) (by rw [nsign_neg]; unfold ncmp at h; rw [h]; rfl)
  rw [val_nneg, val_nsub hx hy] at this
  have e : val y - val x = -(val x - val y) := by grind
  rw [e]; exact this
theorem Pos.anti {x : Q2} (h : Pos x) (h' : Pos (-x)) : False := (h.add h').ne (by grind)
theorem ncmp_anti {x y : Nu} (hx : 0 ≤ x.k) (hy : 0 ≤ y.k) : ncmp y x = -ncmp x y := by
  have r1 := nsign_range (nsub x y)
  have r2 := nsign_range (nsub y x)
  have r1' : ncmp x y = -1 ∨ ncmp x y = 0 ∨ ncmp x y = 1 := r1
  have r2' : ncmp y x = -1 ∨ ncmp y x = 0 ∨ ncmp y x = 1 := r2
  have z : ncmp x y = 0 ↔ ncmp y x = 0 := by
    rw [ncmp_zero hx hy, ncmp_zero hy hx]; exact eq_comm
  have nn : ¬ (ncmp x y = 1 ∧ ncmp y x = 1) := fun ⟨a, b⟩ => by
    have p := ncmp_pos hx hy a
    have q := ncmp_pos hy hx b
    exact p.anti (by rwa [show -(val x - val y) = val y - val x by grind])
  have mm : ¬ (ncmp x y = -1 ∧ ncmp y x = -1) := fun ⟨a, b⟩ => by
    have p := ncmp_neg hx hy a
    have q := ncmp_neg hy hx b
    exact p.anti (by rwa [show -(val y - val x) = val x - val y by grind])
  rcases r1' with h | h | h <;> rcases r2' with g | g | g <;> simp only [h, g] at * <;> first | rfl | (exfalso; simp at z; done) | simp_all
theorem pcmp_anti {p q : Pt} (hp : PK p) (hq : PK q) : pcmp q p = -pcmp p q := by
  unfold pcmp
  rw [ncmp_anti hp.1 hq.1, ncmp_anti hp.2 hq.2]
  split <;> split <;> omega
theorem pcmp_self (p : Pt) (hp : PK p) : pcmp p p = 0 := by
  have := pcmp_anti hp hp
  omega
theorem pcmp_eq {p q : Pt} (hp : vP p = true) (hq : vP q = true) (h : pcmp p q = 0) : p = q := by
  simp only [vP, Bool.and_eq_true] at hp hq
  unfold pcmp at h
  split at h
  · rename_i h1
    have e1 := (nsub_zero (vN_k hp.1) (vN_k hq.1) (vN_low hp.1) (vN_low hq.1)).1 h1
    have e2 := (nsub_zero (vN_k hp.2) (vN_k hq.2) (vN_low hp.2) (vN_low hq.2)).1 h
    cases p; cases q; simp_all
  · contradiction
/-! ### The least corner is the first -/
theorem leastF_zero {l : List Pt} : ∀ {k : Nat}, (∀ j, j < k → ¬ pcmp (nth l j) (nth l 0) < 0) → leastF l k = 0
  | 0, _ => rfl
  | k + 1, h => by
    have ih := leastF_zero (k := k) fun j hj => h j (by omega)
    unfold leastF
    rw [ih, if_neg (h k (by omega))]
theorem leastF_stays {l : List Pt} (h0 : ¬ pcmp (nth l 0) (nth l 0) < 0) : ∀ {k : Nat}, leastF l k = 0 → ∀ j, j < k → ¬ pcmp (nth l j) (nth l 0) < 0
  | 0, _ => fun j hj => by omega
  | k + 1, h => by
    unfold leastF at h
    split at h
    · rename_i hc
      subst h
      intro j hj
      obtain rfl : j = 0 := by omega
      exact h0
    · rename_i hc
      intro j hj
      rcases Nat.lt_succ_iff_lt_or_eq.1 hj with hj' | rfl
      · exact leastF_stays h0 h j hj'
      · rw [h] at hc; exact hc
theorem least_zero {l : List Pt} (hl : 0 < l.length) (hp : ∀ p ∈ l, PK p) : least l = 0 ↔ ∀ j, j < l.length → ¬ pcmp (nth l j) (nth l 0) < 0 :=
  ⟨leastF_stays (by rw [pcmp_self _ (hp _ (nth_mem hl))]; omega), leastF_zero⟩
/-! ### Sums of turns -/
theorem dm_add (l : List Pt) (k : Nat) : dm l (k + l.length) = dm l k := by unfold dm; rw [Nat.add_mod_right]
theorem tau_add (l : List Pt) (k : Nat) : tau l (k + l.length) = tau l k := by
  unfold tau
  rw [show k + l.length + 1 = k + 1 + l.length by omega, dm_add, dm_add]
theorem sg_split (l : List Pt) (j r : Nat) : ∀ s, sg l j (r + s) = sg l j r + sg l (j + r) s
  | 0 => by simp [sg]
  | s + 1 => by
    have := sg_split l j r s
    rw [← Nat.add_assoc]
    simp only [sg]
    rw [this, Nat.add_assoc]; omega
theorem sg_turn (l : List Pt) (j : Nat) : ∀ r, sg l (j + l.length) r = sg l j r
  | 0 => rfl
  | r + 1 => by
    simp only [sg]
    rw [sg_turn l j r, show j + l.length + r = j + r + l.length by omega, tau_add]
theorem tau_turnS {l : List Pt} {k : Nat} (hk : k < l.length) : tau l k = turnS l k := by
  unfold tau turnS dm
  rw [Nat.mod_eq_of_lt hk]
theorem sumT_sg (l : List Pt) : ∀ k, k ≤ l.length → sumT l k = sg l 0 k
  | 0, _ => rfl
  | k + 1, h => by
    simp only [sumT, sg]
    rw [sumT_sg l k (by omega), Nat.zero_add, tau_turnS (by omega)]
theorem bef_dm {l : List Pt} {k : Nat} (hk : k < l.length) : bef l k = dm l (k + (l.length - 1)) := by
  unfold bef dm
  split
  · rename_i h0
    subst h0
    rw [Nat.zero_add, Nat.mod_eq_of_lt (show l.length - 1 < l.length by omega)]
    unfold dl nxt
    rw [show (l.length - 1 + 1) % l.length = 0 by rw [Nat.sub_add_cancel (by omega)]; exact Nat.mod_self _]
  · rename_i h0
    rw [show k + (l.length - 1) = (k - 1) + l.length by omega, Nat.add_mod_right, Nat.mod_eq_of_lt (by omega)]
theorem turn_tau {l : List Pt} {k : Nat} (hk : k < l.length) : (dl l k - bef l k) % 16 = tau l (k + (l.length - 1)) := by
  unfold tau
  rw [bef_dm hk, show k + (l.length - 1) + 1 = k + l.length by omega, dm_add]
  unfold dm
  rw [Nat.mod_eq_of_lt hk]
theorem sumI_sg (l : List Pt) : ∀ k, k ≤ l.length → sumI l k = sg l (l.length - 1) k
  | 0, _ => rfl
  | k + 1, h => by
    simp only [sumI, sg]
    rw [sumI_sg l k (by omega), turn_tau (by omega), Nat.add_comm k]
theorem sum_eq (l : List Pt) (h : 0 < l.length) : sumI l l.length = sumT l l.length := by
  rw [sumI_sg l _ (Nat.le_refl _), sumT_sg l _ (Nat.le_refl _)]
  have e := sg_split l (l.length - 1) 1 (l.length - 1)
  rw [show 1 + (l.length - 1) = l.length by omega] at e
  rw [e, show l.length - 1 + 1 = 0 + l.length by omega, sg_turn]
  have e2 : sg l 0 l.length = sg l 0 (l.length - 1) + tau l (0 + (l.length - 1)) := by
    have : l.length = (l.length - 1) + 1 := by omega
    conv => lhs; rw [this]
    rfl
  rw [e2]
  simp only [sg, Nat.add_zero, Nat.zero_add]
  omega
/-! ### A convex list meets its first corner once -/
theorem once {l : List Pt} (h : Poly l) (hn : 0 < l.length) (h1 : ∀ k, 1 ≤ tau l k) (hs : sg l 0 l.length = 16) {i : Nat} (h0 : 0 < i) (hi : i < l.length) : nth l i ≠ nth l 0 := by
  intro he
  have a1 : ¬ sg l 0 (i - 1) ≤ 7 := fun hle => by
    have := chain_apart h hn 0 (i - 1) hle
    rw [show 0 + (i - 1) + 1 = i by omega, pt_lt hi, pt_lt hn] at this
    exact this he
  have a2 : ¬ sg l i (l.length - i - 1) ≤ 7 := fun hle => by
    have := chain_apart h hn i (l.length - i - 1) hle
    rw [show i + (l.length - i - 1) + 1 = l.length by omega, pt_lt hi] at this
    refine this ?_
    unfold pt
    rw [Nat.mod_self]; exact he.symm
  have e1 := sg_split l 0 i (l.length - i)
  rw [show i + (l.length - i) = l.length by omega, Nat.zero_add] at e1
  have e2 := sg_split l 0 (i - 1) 1
  rw [show i - 1 + 1 = i by omega] at e2
  have e3 := sg_split l i (l.length - i - 1) 1
  rw [show l.length - i - 1 + 1 = l.length - i by omega] at e3
  have b1 := h1 (0 + (i - 1) + 0)
  have b2 := h1 (i + (l.length - i - 1) + 0)
  simp only [sg] at e2 e3
  omega
theorem pol_eq (l : List Pt) : polI l = polS l := by
  rw [Bool.eq_iff_iff]
  unfold polI polS convI ptsS sidesOk turnsS
  simp only [Bool.and_eq_true, decide_eq_true_eq, List.all_eq_true, List.mem_range]
  constructor
  · rintro ⟨⟨⟨hin, hv⟩, ⟨hc3, hok⟩, hsum⟩, hle⟩
    have hn : 0 < l.length := by omega
    have hvk : ∀ k, k < l.length → vP (nth l k) = true := fun k hk => hv _ (nth_mem hk)
    have hside : ∀ k, k < l.length → 0 ≤ dl l k := fun k hk => by
      have := hok k hk
      simp only [okI, Bool.and_eq_true, decide_eq_true_eq] at this
      exact this.1.1
    have hpoly : Poly l := ⟨fun p hp => vP_bound (hv p hp), hside⟩
    have htau : ∀ k, inB (tau l k) 1 7 = true := fun k => by
      have hm : (k + 1) % l.length < l.length := Nat.mod_lt _ hn
      have := hok _ hm
      simp only [okI, Bool.and_eq_true, decide_eq_true_eq] at this
      have e := turn_tau hm
      rw [e] at this
      have e2 : tau l ((k + 1) % l.length + (l.length - 1)) = tau l k := by
        unfold tau dm
        rw [show (k + 1) % l.length + (l.length - 1) + 1 = (k + 1) % l.length + l.length by omega, Nat.add_mod_right, Nat.mod_mod, Nat.mod_add_mod,
          show k + 1 + (l.length - 1) = k + l.length by omega, Nat.add_mod_right]
      rw [e2] at this
      exact this.2
    have hs16 : sumT l l.length = 16 := by rw [← sum_eq l hn]; exact hsum
    have hlz := (least_zero hn hpoly.pk).1 hle
    refine ⟨⟨⟨⟨hin, fun j hj => ?_⟩, hside⟩, fun k hk => ?_⟩, hs16⟩
    · simp only [okP, Bool.and_eq_true, Bool.or_eq_true, decide_eq_true_eq]
      refine ⟨hvk j hj, ?_⟩
      by_cases h0 : j = 0
      · exact .inl h0
      · refine .inr ?_
        have c := hlz j hj
        have hne := once hpoly hn (fun k => ((inB_iff ..).1 (htau k)).1) (by rw [← sumT_sg l _ (Nat.le_refl _)]; exact hs16) (i := j) (by omega) hj
        have ha := pcmp_anti (hpoly.pk _ (nth_mem hj)) (hpoly.pk _ (nth_mem hn))
        have hz : pcmp (nth l j) (nth l 0) ≠ 0 := fun hz => hne (pcmp_eq (hvk j hj) (hvk 0 hn) hz)
        omega
    · rw [← tau_turnS hk]; exact htau k
  · rintro ⟨⟨⟨⟨hin, hpts⟩, hside⟩, hturn⟩, hsum⟩
    have hin' := (inB_iff ..).1 hin
    have hn : 0 < l.length := by omega
    have hv : ∀ p ∈ l, vP p = true := fun p hp => by
      obtain ⟨j, hj, rfl⟩ := List.getElem_of_mem hp
      have := hpts j hj
      simp only [okP, Bool.and_eq_true] at this
      rw [nth_eq hj] at this
      exact this.1
    have hpoly : Poly l := ⟨fun p hp => vP_bound (hv p hp), hside⟩
    refine ⟨⟨⟨hin, hv⟩, ⟨by omega, fun k hk => ?_⟩, by rw [sum_eq l hn]; exact hsum⟩, (least_zero hn hpoly.pk).2 fun j hj => ?_⟩
    · simp only [okI, Bool.and_eq_true, decide_eq_true_eq]
      refine ⟨⟨hside k hk, ?_⟩, ?_⟩
      · rw [bef_dm hk]; exact hside _ (Nat.mod_lt _ hn)
      · rw [turn_tau hk]
        have hm : (k + (l.length - 1)) % l.length < l.length := Nat.mod_lt _ hn
        have e : tau l (k + (l.length - 1)) = tau l ((k + (l.length - 1)) % l.length) := by
          unfold tau dm
          rw [Nat.mod_mod, Nat.mod_add_mod]
        rw [e, tau_turnS hm]
        exact hturn _ hm
    · have := hpts j hj
      simp only [okP, Bool.and_eq_true, Bool.or_eq_true, decide_eq_true_eq] at this
      rcases this.2 with h0 | h0
      · subst h0; rw [pcmp_self _ (hpoly.pk _ (nth_mem hn))]; omega
      · rw [pcmp_anti (hpoly.pk _ (nth_mem hn)) (hpoly.pk _ (nth_mem hj))]; omega
end Go.Vai
set_option linter.unusedVariables false
set_option linter.unusedSimpArgs false
set_option maxHeartbeats 4000000
namespace Go.Vai
structure Nd where
  kind : Int
  var : Int
  value : Int
  rule : Int
  deriving DecidableEq, Inhabited
def encNd (x : Nd) : List IV := [.int .i64 x.kind, .int .i64 x.var, .int .i64 x.value, .int .i64 x.rule]
@[simp] theorem encNd_len (x : Nd) : (encNd x).length = 4 := rfl
@[simp] theorem encNd_take (x : Nd) : (encNd x).take 4 = encNd x := rfl
/-- The depth of the refutation that begins a list, and the rest behind it. -/
def dep : Nat → List Nd → Option (Nat × List Nd)
  | 0, _ => none
  | _ + 1, [] => none
  | n + 1, x :: r => if x.kind = 3 then some (0, r) else if x.kind = 2 then (match dep n r with
      | none => none
      | some (a, b) => some (a + 1, b))
    else if x.kind = 1 then (match dep n r with
      | none => none
      | some (a, b) => match dep n b with
        | none => none
        | some (c, d) => some (max a c + 1, d))
    else none
theorem dep_len : ∀ (n : Nat) (l : List Nd) (a : Nat) (b : List Nd), dep n l = some (a, b) → a + b.length < l.length
  | 0, l, a, b, h => by simp [dep] at h
  | n + 1, [], a, b, h => by simp [dep] at h
  | n + 1, x :: r, a, b, h => by
    simp only [dep] at h
    split at h
    · simp at h; obtain ⟨rfl, rfl⟩ := h; simp
    · split at h
      · split at h
        · simp at h
        · rename_i a' b' h'
          have := dep_len n r a' b' h'
          simp at h; obtain ⟨rfl, rfl⟩ := h; simp; omega
      · split at h
        · split at h
          · simp at h
          · rename_i a' b' h'
            have h1 := dep_len n r a' b' h'
            split at h
            · simp at h
            · rename_i c d h''
              have h2 := dep_len n b' c d h''
              simp at h; obtain ⟨rfl, rfl⟩ := h; simp; omega
        · simp at h
def depI (o : Option (Nat × List Nd)) : Int := match o with
  | none => -1
  | some (a, _) => a
def depR (o : Option (Nat × List Nd)) : List Nd := match o with
  | none => []
  | some (_, b) => b
end Go.Vai
set_option linter.unusedVariables false
set_option linter.unusedSimpArgs false
set_option maxHeartbeats 4000000
namespace Go.Vai
/-- What the loop finds: the depth or -1, and the rest at which it stands. -/
def sdep : Nat → List Nd → Nat → Int × List Nd
  | 0, l, _ => (-1, l)
  | _ + 1, [], _ => (-1, [])
  | n + 1, x :: r, m => if x.kind = 3 then ((m : Int), r) else if x.kind = 2 then sdep n r (m + 1)
    else if x.kind = 1 then
      if (sdep n r 0).1 < 0 then (-1, (sdep n r 0).2)
      else if (sdep n (sdep n r 0).2 0).1 < 0 then (-1, (sdep n (sdep n r 0).2 0).2)
      else ((m : Int) + 1 + max (sdep n r 0).1 (sdep n (sdep n r 0).2 0).1, (sdep n (sdep n r 0).2 0).2)
    else (-1, x :: r)
theorem sdep_dep : ∀ (n : Nat) (l : List Nd) (m : Nat), match dep n l with
    | none => (sdep n l m).1 = -1
    | some (a, b) => sdep n l m = ((m : Int) + a, b)
  | 0, l, m => by simp [dep, sdep]
  | n + 1, [], m => by simp [dep, sdep]
  | n + 1, x :: r, m => by
    have ih := sdep_dep n r
    simp only [dep, sdep]
    by_cases h1 : x.kind = 3
    · simp [h1]
    by_cases h2 : x.kind = 2
    · have := ih (m + 1)
      simp only [h1, h2, if_true, if_false]
      cases hd : dep n r with
      | none => rw [hd] at this; simpa using this
      | some p => obtain ⟨a, b⟩ := p; rw [hd] at this; simp at this ⊢; rw [this]; simp; omega
    by_cases h3 : x.kind = 1
    · have h4 := ih 0
      simp only [h1, h2, h3, if_true, if_false]
      cases hd : dep n r with
      | none => rw [hd] at h4; simp at h4; simp [h4]
      | some p =>
        obtain ⟨a, b⟩ := p
        rw [hd] at h4; simp at h4
        have h5 := sdep_dep n b 0
        simp only [h4]
        rw [if_neg (by simp)]
        cases hd2 : dep n b with
        | none => rw [hd2] at h5; simp at h5; simp [h5]
        | some q => obtain ⟨c, d⟩ := q; rw [hd2] at h5; simp at h5; simp only [h5]; rw [if_neg (by simp)]; simp; omega
    · simp [h1, h2, h3]
theorem sdep_suffix : ∀ (n : Nat) (l : List Nd) (m : Nat), (sdep n l m).2 <:+ l
  | 0, l, m => by simp [sdep]
  | n + 1, [], m => by simp [sdep]
  | n + 1, x :: r, m => by
    have h1 := sdep_suffix n r
    simp only [sdep]
    split
    · simp
    · split
      · exact (h1 _).trans (List.suffix_cons _ _)
      · split
        · split
          · exact (h1 _).trans (List.suffix_cons _ _)
          · have h2 := (sdep_suffix n (sdep n r 0).2 0).trans ((h1 0).trans (List.suffix_cons x r))
            split
            · exact h2
            · exact h2
        · exact List.suffix_refl _
end Go.Vai
set_option linter.unusedVariables false
set_option linter.unusedSimpArgs false
set_option maxHeartbeats 4000000
namespace Go.Vai
theorem sdep_le (n : Nat) (l : List Nd) (m : Nat) : (sdep n l m).1 ≤ m + l.length ∧ -1 ≤ (sdep n l m).1 := by
  have h := sdep_dep n l m
  cases hd : dep n l with
  | none => rw [hd] at h; simp at h; rw [h]; omega
  | some p => obtain ⟨a, b⟩ := p; rw [hd] at h; simp at h; rw [h]; have := dep_len n l a b hd; simp; omega
end Go.Vai
set_option linter.unusedVariables false
set_option linter.unusedSimpArgs false
set_option maxHeartbeats 4000000
namespace Go.Vai
/-- The depth of a refutation, or -1. -/
def rdep (l : List Nd) : Int := if l.length ≤ 4000 then (match dep l.length l with
  | some (a, []) => a
  | _ => -1) else -1
end Go.Vai
set_option linter.unusedVariables false
set_option linter.unusedSimpArgs false
set_option maxHeartbeats 4000000
namespace Go.Vai
def encI (n : Int) : List IV := [.int .i64 n]
@[simp] theorem encI_len (x : Int) : (encI x).length = 1 := rfl
theorem typedI {n : Nat} {el : List IV} (h : Typed E n 2 el) : ∃ x, el = encI x := by
  cases n with
  | zero => exact h.elim
  | succ n =>
    simp only [Typed, k2] at h
    obtain ⟨x, rfl, -⟩ := h
    exact ⟨x, rfl⟩
theorem typedSlice {α : Type} {enc : α → List IV} {t u : TypeId} (hk : tkOf E t = some (.slice u)) (he : ∀ n el, Typed E n u el → ∃ x, el = enc x) {n : Nat} {el : List IV} (h : Typed E n t el) :
    ∃ xs : List α, el = [.sl (xs.map enc)] ∧ xs.length ≤ maxLen := by
  cases n with
  | zero => exact h.elim
  | succ n =>
    simp only [Typed, hk] at h
    obtain ⟨els, rfl, hl, hx⟩ := h
    obtain ⟨xs, rfl⟩ := exists_map enc els fun el hel => he n el (hx el hel)
    exact ⟨xs, rfl, by simpa using hl⟩
theorem c25 (ls : List Int) (h : (ls.length : Int) ≤ 1048576) : PC E 25 [.i (.sl (ls.map encI))] [.own 1 (ls.map encI)] := by
  refine PC_start hE Proofs.Tryd.func25 rfl rfl Proofs.Tryd.ntmps25 (by kernel_rfl) (by kernel_rfl) (by simp) ?_
  simp (maxSteps := 1000000) (disch := first | (exact DrawOk.mk (by kernel_rfl)) | omega | simp) [wrap_i64, le_most, lt_omega, le_omega, ne_omega, allLen]
  have hl : (ls.map encI).length = ls.length := by simp
  refine XL.by hE (ι := { k : Nat // k ≤ ls.length }) (fun k => ⟨[(3, .own 7 0 ls.length), (4, .i (.int .i64 k.1)), (0, .i (.sl (ls.map encI)))],
    [(7, ⟨1, fill (ls.map encI) [.int .i64 0] k.1⟩)]⟩) (fun k => ls.length - k.1) ⟨0, Nat.zero_le _⟩ ⟨by simp, by simp [fill_zero], by simp⟩ (by kernel_rfl) ?_
  rintro ⟨k, hk⟩
  by_cases hlt : k < ls.length
  · have hz := fill_get (ls.map encI) [.int .i64 0] k (by omega)
    have hs := fill_set (ls.map encI) [.int .i64 0] k (encI ls[k]) (by simp [hlt])
    simp [encI] at hs
    simp (maxSteps := 1000000) (disch := first | (exact DrawOk.mk (by kernel_rfl)) | omega | simp) [wrap_i64, le_most, lt_omega, le_omega, ne_omega, allLen, hlt, hz, hs, encI]
    (refine ⟨⟨k + 1, by omega⟩, by (simp; try omega), ?_⟩; constructor <;> (simp (maxSteps := 1000000) (disch := first | (exact DrawOk.mk (by kernel_rfl)) | omega | simp) [wrap_i64, le_most, lt_omega, le_omega, ne_omega, allLen]) <;> (try omega))
  · have hf := fill_all (ls.map encI) [.int .i64 0] k (by omega)
    simp (maxSteps := 1000000) (disch := first | (exact DrawOk.mk (by kernel_rfl)) | omega | simp) [wrap_i64, le_most, lt_omega, le_omega, ne_omega, allLen, hlt, hf]
theorem take_eq_of {α : Type} {ls ms : List α} (h1 : ls.length = ms.length) {k : Nat} (hk : ls.length ≤ k) (h : ls.take k = ms.take k) : ls = ms := by
  rwa [List.take_of_length_le hk, List.take_of_length_le (by omega)] at h
theorem take_step {α : Type} {ls ms : List α} {k : Nat} (h1 : k < ls.length) (h2 : k < ms.length) (h : ls.take k = ms.take k) (he : ls[k] = ms[k]) : ls.take (k + 1) = ms.take (k + 1) := by
  rw [List.take_succ_eq_append_getElem h1, List.take_succ_eq_append_getElem h2, h, he]
theorem c28 (ls ms : List Int) (h : (ls.length : Int) ≤ 1048576) (hm : (ms.length : Int) ≤ 1048576) : PC E 28 [.i (.sl (ls.map encI)), .i (.sl (ms.map encI))] [.i (.bool (decide (ls = ms)))] := by
  refine PC_start hE Proofs.Tryd.func28 rfl rfl Proofs.Tryd.ntmps28 (by kernel_rfl) (by kernel_rfl) (by simp) ?_
  simp (maxSteps := 1000000) (disch := first | (exact DrawOk.mk (by kernel_rfl)) | omega | simp) [wrap_i64, le_most, lt_omega, le_omega, ne_omega, allLen]
  (first | refine Gd.dec (fun h1 => ?_) (fun h1 => ?_) | refine Gd.intro (fun h1 => ?_) (fun h1 => ?_)) <;> simp (maxSteps := 1000000) (disch := first | (exact DrawOk.mk (by kernel_rfl)) | omega | simp) [wrap_i64, le_most, lt_omega, le_omega, ne_omega, allLen, h1]
  rotate_left
  · intro e; subst e; exact h1 rfl
  refine XL.by hE (ι := { k : Nat // k ≤ ls.length ∧ ls.take k = ms.take k }) (fun p => ⟨[(5, .i (.int .i64 p.1)), (0, .i (.sl (ls.map encI))), (1, .i (.sl (ms.map encI)))], []⟩) (fun p => ls.length - p.1) ⟨0, by simp⟩
    ⟨by simp, by simp, by simp⟩ (by kernel_rfl) ?_
  rintro ⟨k, hk, he⟩
  have hl : ls.length = ms.length := by omega
  by_cases hlt : k < ls.length
  · have hlt' : k < ms.length := by omega
    simp (maxSteps := 1000000) (disch := first | (exact DrawOk.mk (by kernel_rfl)) | omega | simp) [wrap_i64, le_most, lt_omega, le_omega, ne_omega, allLen, hlt, hlt', encI]
    (first | refine Gd.dec (fun h4 => ?_) (fun h4 => ?_) | refine Gd.intro (fun h4 => ?_) (fun h4 => ?_)) <;> simp (maxSteps := 1000000) (disch := first | (exact DrawOk.mk (by kernel_rfl)) | omega | simp) [wrap_i64, le_most, lt_omega, le_omega, ne_omega, allLen, h4]
    · (refine ⟨⟨k + 1, by omega, take_step hlt hlt' he h4⟩, by (simp; try omega), ?_⟩; constructor <;> (simp (maxSteps := 1000000) (disch := first | (exact DrawOk.mk (by kernel_rfl)) | omega | simp) [wrap_i64, le_most, lt_omega, le_omega, ne_omega, allLen]) <;> (try omega))
    · intro e; subst e; exact h4 rfl
  · obtain rfl : ls = ms := take_eq_of hl (by omega) he
    simp (maxSteps := 1000000) (disch := first | (exact DrawOk.mk (by kernel_rfl)) | omega | simp) [wrap_i64, le_most, lt_omega, le_omega, ne_omega, allLen, hlt]
/-- A certificate. -/
structure Ct where
  kind : Int
  a : Int
  b : Int
  order : List Int
  nodes : List Nd
  deriving DecidableEq
def encC (x : Ct) : List IV := [.int .i64 x.kind, .int .i64 x.a, .int .i64 x.b, .sl (x.order.map encI), .sl (x.nodes.map encNd)]
@[simp] theorem encC_len (x : Ct) : (encC x).length = 5 := rfl
end Go.Vai
/- Lists of points as a law hands them on; polygons that overlap. -/
set_option linter.unusedVariables false
set_option linter.unusedSimpArgs false
set_option maxHeartbeats 4000000
namespace Go.Vai
@[simp] theorem flat_encP' (p : Pt) : flatC (encP p) = True := eq_true (flat_encP p)
@[simp] theorem encPs_at (l : List Pt) (k : Nat) (h : k < (encPs l).length) : (encPs l)[k] = encP (nth l k) := by
  have h' : k < l.length := by simpa using h
  have := encPs_get h'
  rw [List.getElem?_eq_getElem h] at this
  exact Option.some.inj this
@[simp] theorem encP_len6 (p : Pt) : (encP p).length = 6 := rfl
theorem typedPts {n : Nat} {el : List IV} (h : Typed E n 22 el) : ∃ l : List Pt, el = [.sl (encPs l)] ∧ l.length ≤ maxLen :=
  typedSlice k22 (fun _ _ h => let ⟨p, hp, _⟩ := typedPt h; ⟨p, hp⟩) h
theorem c8 (ls : List Pt) (n : Int) (h0 : 0 ≤ n) (h1 : n ≤ 1048576) (h : (ls.length : Int) ≤ 9223372036854775807) : PC E 8 [.i (.sl (encPs ls)), .i (.int .i64 n)] [.i (.int .i64 (if n - ls.length < 0 then -1 else n - ls.length))] := by
  refine PC_start hE Proofs.Tryd.func8 rfl rfl Proofs.Tryd.ntmps8 (by kernel_rfl) (by kernel_rfl) (by simp) ?_
  simp (maxSteps := 1000000) (disch := first | (exact DrawOk.mk (by kernel_rfl)) | omega | simp) [wrap_i64, le_most, lt_omega, le_omega, ne_omega, allLen]
  (first | refine Gd.dec (fun h2 => ?_) (fun h2 => ?_) | refine Gd.intro (fun h2 => ?_) (fun h2 => ?_)) <;> simp (maxSteps := 1000000) (disch := first | (exact DrawOk.mk (by kernel_rfl)) | omega | simp) [wrap_i64, le_most, lt_omega, le_omega, ne_omega, allLen, h2]
theorem c10 (ls : List Pt) (h : (ls.length : Int) ≤ 1048576) : PC E 10 [.i (.sl (encPs ls))] [.own 6 (encPs ls)] := by
  refine PC_start hE Proofs.Tryd.func10 rfl rfl Proofs.Tryd.ntmps10 (by kernel_rfl) (by kernel_rfl) (by simp) ?_
  simp (maxSteps := 1000000) (disch := first | (exact DrawOk.mk (by kernel_rfl)) | omega | simp) [wrap_i64, le_most, lt_omega, le_omega, ne_omega, allLen]
  have hl : (encPs ls).length = ls.length := by simp
  refine XL.by hE (ι := { k : Nat // k ≤ ls.length }) (fun k => ⟨[(3, .own 7 0 ls.length), (4, .i (.int .i64 k.1)), (0, .i (.sl (encPs ls)))],
    [(7, ⟨6, fill (encPs ls) [.int .i64 0, .int .i64 0, .int .i64 0, .int .i64 0, .int .i64 0, .int .i64 0] k.1⟩)]⟩) (fun k => ls.length - k.1) ⟨0, Nat.zero_le _⟩ ⟨by simp, by simp [fill_zero], by simp⟩ (by kernel_rfl) ?_
  rintro ⟨k, hk⟩
  by_cases hlt : k < ls.length
  · have hz := fill_get (encPs ls) [.int .i64 0, .int .i64 0, .int .i64 0, .int .i64 0, .int .i64 0, .int .i64 0] k (by omega)
    have hs := fill_set (encPs ls) [.int .i64 0, .int .i64 0, .int .i64 0, .int .i64 0, .int .i64 0, .int .i64 0] k (encP (nth ls k)) (encPs_get hlt)
    simp (maxSteps := 1000000) (disch := first | (exact DrawOk.mk (by kernel_rfl)) | omega | simp) [wrap_i64, le_most, lt_omega, le_omega, ne_omega, allLen, hlt, encPs_get hlt]
    refine CallK.of (c20 (nth ls k)) (by first | exact .inl rfl | exact .inr (by simp)) (by simp) ?_
    simp [encP] at hs
    simp (maxSteps := 1000000) (disch := first | (exact DrawOk.mk (by kernel_rfl)) | omega | simp) [wrap_i64, le_most, lt_omega, le_omega, ne_omega, allLen, hlt, hz, hs, encP]
    (refine ⟨⟨k + 1, by omega⟩, by (simp; try omega), ?_⟩; constructor <;> (simp (maxSteps := 1000000) (disch := first | (exact DrawOk.mk (by kernel_rfl)) | omega | simp) [wrap_i64, le_most, lt_omega, le_omega, ne_omega, allLen]) <;> (try omega))
  · have hf := fill_all (encPs ls) [.int .i64 0, .int .i64 0, .int .i64 0, .int .i64 0, .int .i64 0, .int .i64 0] k (by omega)
    simp (maxSteps := 1000000) (disch := first | (exact DrawOk.mk (by kernel_rfl)) | omega | simp) [wrap_i64, le_most, lt_omega, le_omega, ne_omega, allLen, hlt, hf, take_encPs]
theorem c12 (ls ms : List Pt) (h : (ls.length : Int) ≤ 1048576) (hm : (ms.length : Int) ≤ 1048576) : PC E 12 [.i (.sl (encPs ls)), .i (.sl (encPs ms))] [.i (.bool (decide (ls = ms)))] := by
  refine PC_start hE Proofs.Tryd.func12 rfl rfl Proofs.Tryd.ntmps12 (by kernel_rfl) (by kernel_rfl) (by simp) ?_
  simp (maxSteps := 1000000) (disch := first | (exact DrawOk.mk (by kernel_rfl)) | omega | simp) [wrap_i64, le_most, lt_omega, le_omega, ne_omega, allLen]
  (first | refine Gd.dec (fun h1 => ?_) (fun h1 => ?_) | refine Gd.intro (fun h1 => ?_) (fun h1 => ?_)) <;> simp (maxSteps := 1000000) (disch := first | (exact DrawOk.mk (by kernel_rfl)) | omega | simp) [wrap_i64, le_most, lt_omega, le_omega, ne_omega, allLen, h1]
  rotate_left
  · intro e; subst e; exact h1 rfl
  refine XL.by hE (ι := { k : Nat // k ≤ ls.length ∧ ls.take k = ms.take k }) (fun p => ⟨[(5, .i (.int .i64 p.1)), (0, .i (.sl (encPs ls))), (1, .i (.sl (encPs ms)))], []⟩) (fun p => ls.length - p.1) ⟨0, by simp⟩
    ⟨by simp, by simp, by simp⟩ (by kernel_rfl) ?_
  rintro ⟨k, hk, he⟩
  have hl : ls.length = ms.length := by omega
  by_cases hlt : k < ls.length
  · have hlt' : k < ms.length := by omega
    simp (maxSteps := 1000000) (disch := first | (exact DrawOk.mk (by kernel_rfl)) | omega | simp) [wrap_i64, le_most, lt_omega, le_omega, ne_omega, allLen, hlt, hlt', encPs_get hlt, encPs_get hlt']
    refine CallK.of (c35 (nth ls k) (nth ms k)) (by first | exact .inl rfl | exact .inr (by simp)) (by simp) ?_
    simp (maxSteps := 1000000) (disch := first | (exact DrawOk.mk (by kernel_rfl)) | omega | simp) [wrap_i64, le_most, lt_omega, le_omega, ne_omega, allLen, hlt, hlt']
    (first | refine Gd.dec (fun h4 => ?_) (fun h4 => ?_) | refine Gd.intro (fun h4 => ?_) (fun h4 => ?_)) <;> simp (maxSteps := 1000000) (disch := first | (exact DrawOk.mk (by kernel_rfl)) | omega | simp) [wrap_i64, le_most, lt_omega, le_omega, ne_omega, allLen, h4]
    · have : ls.take (k + 1) = ms.take (k + 1) := by
        rw [nth_eq hlt, nth_eq hlt'] at h4
        rw [List.take_succ_eq_append_getElem hlt, List.take_succ_eq_append_getElem hlt', he, h4]
      (refine ⟨⟨k + 1, by omega, this⟩, by (simp; try omega), ?_⟩; constructor <;> (simp (maxSteps := 1000000) (disch := first | (exact DrawOk.mk (by kernel_rfl)) | omega | simp) [wrap_i64, le_most, lt_omega, le_omega, ne_omega, allLen]) <;> (try omega))
    · intro e; subst e; exact h4 rfl
  · obtain rfl : k = ls.length := by omega
    rw [List.take_of_length_le (by omega), List.take_of_length_le (by omega)] at he
    simp (maxSteps := 1000000) (disch := first | (exact DrawOk.mk (by kernel_rfl)) | omega | simp) [wrap_i64, le_most, lt_omega, le_omega, ne_omega, allLen, hl, he]
/-- What a valid polygon is known for. -/
theorem polI_poly {l : List Pt} (h : polI l = true) : Poly l ∧ 3 ≤ l.length ∧ l.length ≤ 16 ∧ ∀ p ∈ l, vP p = true := by
  unfold polI convI at h
  simp only [Bool.and_eq_true, decide_eq_true_eq, List.all_eq_true, List.mem_range] at h
  obtain ⟨⟨⟨hin, hv⟩, ⟨hc3, hok⟩, hsum⟩, hle⟩ := h
  have hin := (inB_iff ..).1 hin
  refine ⟨⟨fun p hp => vP_bound (hv p hp), fun k hk => ?_⟩, by omega, by omega, hv⟩
  have := hok k hk
  simp only [okI, Bool.and_eq_true, decide_eq_true_eq] at this
  exact this.1.1
theorem pow_len {n m : Nat} (hn : n ≤ 16) (hm : m ≤ 16) : n * 2 ^ (m + 1) ≤ 2097152 := by
  have h1 : 2 ^ (m + 1) ≤ 2 ^ 17 := Nat.pow_le_pow_right (by decide) (by omega)
  have := Nat.mul_le_mul hn h1
  omega
def ovI (a b : List Pt) : Bool := decide (0 < (commonR a b).length)
theorem o34 {a b : List Pt} (ha : polI a = true) (hb : polI b = true) : PC E 34 [.i (.sl (encPs a)), .i (.sl (encPs b))] [.i (.bool (ovI a b))] := by
  obtain ⟨p1, n1, m1, -⟩ := polI_poly ha
  obtain ⟨p2, n2, m2, -⟩ := polI_poly hb
  have := pow_len m1 m2
  exact c34 a b (com_of p1.fine (fun p hp => up13 (p1.v p hp)) p2) (by decide) (by decide) (by decide) (by omega) (by omega)
theorem o32 {a b : List Pt} (ha : polI a = true) (hb : polI b = true) : PC E 32 [.i (.sl (encPs a)), .i (.sl (encPs b))] [.i (.bool (ovI a b))] := by
  obtain ⟨p1, n1, m1, -⟩ := polI_poly ha
  obtain ⟨p2, n2, m2, -⟩ := polI_poly hb
  have := pow_len m1 m2
  unfold ovI
  rw [overlap_eq]
  exact c32 a b (spc_of p1.fine (fun p hp => up13 (p1.v p hp)) p2) (by decide) (by decide) (by decide) (by omega) (by omega) (by omega)
def ovB (a b : List Pt) : Bool := polI a && polI b && ovI a b
theorem c11 (a b : List Pt) (h : (a.length : Int) ≤ 1048576) (h' : (b.length : Int) ≤ 1048576) : PC E 11 [.i (.sl (encPs a)), .i (.sl (encPs b))] [.i (.bool (ovB a b))] := by
  refine PC_start hE Proofs.Tryd.func11 rfl rfl Proofs.Tryd.ntmps11 (by kernel_rfl) (by kernel_rfl) (by simp) ?_
  simp (maxSteps := 1000000) (disch := first | (exact DrawOk.mk (by kernel_rfl)) | omega | simp) [wrap_i64, le_most, lt_omega, le_omega, ne_omega, allLen]
  refine CallK.of (c33 a h) (by first | exact .inl rfl | exact .inr (by simp)) (by simp) ?_
  simp (maxSteps := 1000000) (disch := first | (exact DrawOk.mk (by kernel_rfl)) | omega | simp) [wrap_i64, le_most, lt_omega, le_omega, ne_omega, allLen]
  (first | refine Gd.dec (fun h1 => ?_) (fun h1 => ?_) | refine Gd.intro (fun h1 => ?_) (fun h1 => ?_)) <;> simp (maxSteps := 1000000) (disch := first | (exact DrawOk.mk (by kernel_rfl)) | omega | simp) [wrap_i64, le_most, lt_omega, le_omega, ne_omega, allLen, h1]
  rotate_left
  · simp [ovB, h1]
  refine CallK.of (c33 b h') (by first | exact .inl rfl | exact .inr (by simp)) (by simp) ?_
  simp (maxSteps := 1000000) (disch := first | (exact DrawOk.mk (by kernel_rfl)) | omega | simp) [wrap_i64, le_most, lt_omega, le_omega, ne_omega, allLen]
  (first | refine Gd.dec (fun h2 => ?_) (fun h2 => ?_) | refine Gd.intro (fun h2 => ?_) (fun h2 => ?_)) <;> simp (maxSteps := 1000000) (disch := first | (exact DrawOk.mk (by kernel_rfl)) | omega | simp) [wrap_i64, le_most, lt_omega, le_omega, ne_omega, allLen, h2]
  rotate_left
  · simp [ovB, h2]
  refine CallK.of (o34 h1 h2) (by first | exact .inl rfl | exact .inr (by simp)) (by simp) ?_
  simp (maxSteps := 1000000) (disch := first | (exact DrawOk.mk (by kernel_rfl)) | omega | simp) [wrap_i64, le_most, lt_omega, le_omega, ne_omega, allLen, ovB, h1, h2]
theorem c9 (a b : List Pt) (h : (a.length : Int) ≤ 1048576) (h' : (b.length : Int) ≤ 1048576) : PC E 9 [.i (.sl (encPs a)), .i (.sl (encPs b))] [.i (.bool (ovB a b))] := by
  refine PC_start hE Proofs.Tryd.func9 rfl rfl Proofs.Tryd.ntmps9 (by kernel_rfl) (by kernel_rfl) (by simp) ?_
  simp (maxSteps := 1000000) (disch := first | (exact DrawOk.mk (by kernel_rfl)) | omega | simp) [wrap_i64, le_most, lt_omega, le_omega, ne_omega, allLen]
  refine CallK.of (c31 a h) (by first | exact .inl rfl | exact .inr (by simp)) (by simp) ?_
  simp (maxSteps := 1000000) (disch := first | (exact DrawOk.mk (by kernel_rfl)) | omega | simp) [wrap_i64, le_most, lt_omega, le_omega, ne_omega, allLen, ← pol_eq]
  (first | refine Gd.dec (fun h1 => ?_) (fun h1 => ?_) | refine Gd.intro (fun h1 => ?_) (fun h1 => ?_)) <;> simp (maxSteps := 1000000) (disch := first | (exact DrawOk.mk (by kernel_rfl)) | omega | simp) [wrap_i64, le_most, lt_omega, le_omega, ne_omega, allLen, h1]
  rotate_left
  · simp [ovB, h1]
  refine CallK.of (c31 b h') (by first | exact .inl rfl | exact .inr (by simp)) (by simp) ?_
  simp (maxSteps := 1000000) (disch := first | (exact DrawOk.mk (by kernel_rfl)) | omega | simp) [wrap_i64, le_most, lt_omega, le_omega, ne_omega, allLen, ← pol_eq]
  (first | refine Gd.dec (fun h2 => ?_) (fun h2 => ?_) | refine Gd.intro (fun h2 => ?_) (fun h2 => ?_)) <;> simp (maxSteps := 1000000) (disch := first | (exact DrawOk.mk (by kernel_rfl)) | omega | simp) [wrap_i64, le_most, lt_omega, le_omega, ne_omega, allLen, h2]
  rotate_left
  · simp [ovB, h2]
  refine CallK.of (o32 h1 h2) (by first | exact .inl rfl | exact .inr (by simp)) (by simp) ?_
  simp (maxSteps := 1000000) (disch := first | (exact DrawOk.mk (by kernel_rfl)) | omega | simp) [wrap_i64, le_most, lt_omega, le_omega, ne_omega, allLen, ovB, h1, h2]
theorem c3 (a b : List Pt) (h : a.length ≤ maxLen) (h' : b.length ≤ maxLen) :
    PC E 3 [.i (.sl (encPs a)), .i (.sl (encPs b))] [.i (.bool true)] := by
  have m : maxLen = 9223372036854775807 := by decide
  refine PC_start hE Proofs.Tryd.func3 rfl rfl Proofs.Tryd.ntmps3 (by kernel_rfl) (by kernel_rfl) (by simp) ?_
  simp (maxSteps := 1000000) (disch := first | (exact DrawOk.mk (by kernel_rfl)) | omega | simp) [wrap_i64, le_most, lt_omega, le_omega, ne_omega, allLen]
  refine CallK.of (c8 a 1048576 (by omega) (by omega) (by omega)) (by first | exact .inl rfl | exact .inr (by simp)) (by simp) ?_
  simp (maxSteps := 1000000) (disch := first | (exact DrawOk.mk (by kernel_rfl)) | omega | simp) [wrap_i64, le_most, lt_omega, le_omega, ne_omega, allLen]
  (first | refine Gd.dec (fun h1 => ?_) (fun h1 => ?_) | refine Gd.intro (fun h1 => ?_) (fun h1 => ?_)) <;> simp (maxSteps := 1000000) (disch := first | (exact DrawOk.mk (by kernel_rfl)) | omega | simp) [wrap_i64, le_most, lt_omega, le_omega, ne_omega, allLen, h1]
  have g1 : (a.length : Int) ≤ 1048576 := by split at h1 <;> omega
  rw [if_neg (show ¬ (1048576 : Int) - a.length < 0 by omega)]
  refine CallK.of (c8 b (1048576 - a.length) (by omega) (by omega) (by omega)) (by first | exact .inl rfl | exact .inr (by simp)) (by simp) ?_
  simp (maxSteps := 1000000) (disch := first | (exact DrawOk.mk (by kernel_rfl)) | omega | simp) [wrap_i64, le_most, lt_omega, le_omega, ne_omega, allLen]
  (first | refine Gd.dec (fun h2 => ?_) (fun h2 => ?_) | refine Gd.intro (fun h2 => ?_) (fun h2 => ?_)) <;> simp (maxSteps := 1000000) (disch := first | (exact DrawOk.mk (by kernel_rfl)) | omega | simp) [wrap_i64, le_most, lt_omega, le_omega, ne_omega, allLen, h2]
  have g2 : (b.length : Int) ≤ 1048576 := by split at h2 <;> omega
  refine CallK.of ((c10 a g1).imm) (by first | exact .inl rfl | exact .inr (by simp)) (by simp) ?_
  simp (maxSteps := 1000000) (disch := first | (exact DrawOk.mk (by kernel_rfl)) | omega | simp) [wrap_i64, le_most, lt_omega, le_omega, ne_omega, allLen]
  refine CallK.of ((c10 b g2).imm) (by first | exact .inl rfl | exact .inr (by simp)) (by simp) ?_
  simp (maxSteps := 1000000) (disch := first | (exact DrawOk.mk (by kernel_rfl)) | omega | simp) [wrap_i64, le_most, lt_omega, le_omega, ne_omega, allLen]
  refine CallK.of (c9 a b g1 g2) (by first | exact .inl rfl | exact .inr (by simp)) (by simp) ?_
  simp (maxSteps := 1000000) (disch := first | (exact DrawOk.mk (by kernel_rfl)) | omega | simp) [wrap_i64, le_most, lt_omega, le_omega, ne_omega, allLen]
  refine CallK.of ((c10 a g1).imm) (by first | exact .inl rfl | exact .inr (by simp)) (by simp) ?_
  simp (maxSteps := 1000000) (disch := first | (exact DrawOk.mk (by kernel_rfl)) | omega | simp) [wrap_i64, le_most, lt_omega, le_omega, ne_omega, allLen]
  refine CallK.of ((c10 b g2).imm) (by first | exact .inl rfl | exact .inr (by simp)) (by simp) ?_
  simp (maxSteps := 1000000) (disch := first | (exact DrawOk.mk (by kernel_rfl)) | omega | simp) [wrap_i64, le_most, lt_omega, le_omega, ne_omega, allLen]
  refine CallK.of (c11 a b g1 g2) (by first | exact .inl rfl | exact .inr (by simp)) (by simp) ?_
  simp (maxSteps := 1000000) (disch := first | (exact DrawOk.mk (by kernel_rfl)) | omega | simp) [wrap_i64, le_most, lt_omega, le_omega, ne_omega, allLen]
  refine CallK.of ((c10 a g1).imm) (by first | exact .inl rfl | exact .inr (by simp)) (by simp) ?_
  simp (maxSteps := 1000000) (disch := first | (exact DrawOk.mk (by kernel_rfl)) | omega | simp) [wrap_i64, le_most, lt_omega, le_omega, ne_omega, allLen]
  refine CallK.of (c12 a a g1 g1) (by first | exact .inl rfl | exact .inr (by simp)) (by simp) ?_
  simp (maxSteps := 1000000) (disch := first | (exact DrawOk.mk (by kernel_rfl)) | omega | simp) [wrap_i64, le_most, lt_omega, le_omega, ne_omega, allLen]
  refine CallK.of ((c10 b g2).imm) (by first | exact .inl rfl | exact .inr (by simp)) (by simp) ?_
  simp (maxSteps := 1000000) (disch := first | (exact DrawOk.mk (by kernel_rfl)) | omega | simp) [wrap_i64, le_most, lt_omega, le_omega, ne_omega, allLen]
  refine CallK.of (c12 b b g2 g2) (by first | exact .inl rfl | exact .inr (by simp)) (by simp) ?_
  simp (maxSteps := 1000000) (disch := first | (exact DrawOk.mk (by kernel_rfl)) | omega | simp) [wrap_i64, le_most, lt_omega, le_omega, ne_omega, allLen]
end Go.Vai
