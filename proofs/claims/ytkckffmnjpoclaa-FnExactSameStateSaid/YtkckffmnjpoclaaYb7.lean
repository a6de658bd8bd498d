/- Merged texts of this claim: Zp1, Zp2, Zp3. -/
import Derived.Test.YtkckffmnjpoclaaYb5
/- Lists of points put together: slices.Grow of nothing, slices.Concat. -/
set_option linter.unusedVariables false
set_option linter.unusedSimpArgs false
set_option maxHeartbeats 4000000
namespace Go.Vai
def encPs (l : List Pt) : List (List IV) := l.map encP
@[simp] theorem encPs_length (l : List Pt) : (encPs l).length = l.length := by simp [encPs]
def encPL (l : List Pt) : List IV := [.sl (encPs l)]
def sumLen (L : List (List Pt)) : Nat := (L.map List.length).sum
theorem sumLen_take {L : List (List Pt)} {k : Nat} (h : k < L.length) : sumLen (L.take (k + 1)) = sumLen (L.take k) + L[k].length := by
  unfold sumLen
  rw [List.take_succ_eq_append_getElem h, List.map_append, List.sum_append]
  simp
theorem sumLen_le (L : List (List Pt)) (k : Nat) : sumLen (L.take k) ≤ sumLen L := by
  have : sumLen L = sumLen (L.take k) + sumLen (L.drop k) := by
    unfold sumLen
    rw [← List.sum_append, ← List.map_append, List.take_append_drop]
  omega
theorem flat_take {L : List (List Pt)} {k : Nat} (h : k < L.length) : (L.take (k + 1)).flatten = (L.take k).flatten ++ L[k] := by
  rw [List.take_succ_eq_append_getElem h, List.flatten_append]
  simp
theorem flat_len (L : List (List Pt)) : L.flatten.length = sumLen L := by simp [sumLen, List.length_flatten]
theorem encPs_append (a b : List Pt) : encPs (a ++ b) = encPs a ++ encPs b := by simp [encPs]
theorem take_flat (L : List (List Pt)) : (encPs L.flatten).take (sumLen L) = encPs L.flatten := List.take_of_length_le (by rw [encPs_length, flat_len]; exact Nat.le_refl _)
theorem mem_encPs (l : List Pt) : (∀ x ∈ encPs l, x.length = 6) = True := by
  simp [encPs, encP]
end Go.Vai
/- Points compared, sides' lines, lines that meet. -/
set_option linter.unusedVariables false
set_option linter.unusedSimpArgs false
set_option maxHeartbeats 4000000
namespace Go.Vai
def ncmp (x y : Nu) : Int := nsign (nsub x y)
def pcmp (p q : Pt) : Int := if ncmp p.x q.x = 0 then ncmp p.y q.y else ncmp p.x q.x
theorem dirR_lt {w : Pt} (h : 0 ≤ dirR w) : 0 ≤ dirR w ∧ dirR w ≤ 15 := ⟨h, (dirR_range w).2⟩
def sideL (p q : Pt) : Li := lat p (dirR (pminus q p) % 8)
def dvS (y : Nu) : Int := if y.a * y.a - 2 * (y.b * y.b) < 0 then -1 else 1
def dvE (y : Nu) : Nat := let n := (y.a * y.a - 2 * (y.b * y.b)).natAbs; if n = 1 then 0 else if n = 2 then 1 else if n = 4 then 2 else 3
def detL (l m : Li) : Nu := pcross (vec (l.dir + 4)) (vec (m.dir + 4))
theorem det_Dv {l m : Li} (h0 : 0 ≤ l.dir) (h1 : l.dir ≤ 7) (g0 : 0 ≤ m.dir) (g1 : m.dir ≤ 7) (hne : l.dir ≠ m.dir) : Dv (detL l m) (dvS (detL l m)) (dvE (detL l m)) := by
  unfold detL
  generalize l.dir = d at *
  generalize m.dir = e at *
  rcases dir8 h0 h1 with rfl | rfl | rfl | rfl | rfl | rfl | rfl | rfl <;> rcases dir8 g0 g1 with rfl | rfl | rfl | rfl | rfl | rfl | rfl | rfl <;>
    first | exact absurd rfl hne | exact ⟨by decide, by decide, by decide, by decide, by decide, by decide⟩
def over (x det : Nu) : Nu := ndiv x det (dvS det) (dvE det)
def meetP (l m : Li) : Pt := ⟨over (nsub (nmul l.off (vec (m.dir + 4)).y) (nmul m.off (vec (l.dir + 4)).y)) (detL l m), over (nsub (nmul m.off (vec (l.dir + 4)).x) (nmul l.off (vec (m.dir + 4)).x)) (detL l m)⟩
theorem NB.vecm {K M : Nat} {x : Nu} (h : NB K M x) {v : Nu} (hv : NB 0 1 v) : NB K (3 * M) (nmul x v) := by
  have := h.mul hv; simpa using this
theorem meet_PB {l m : Li} {K M : Nat} (h : NB K M l.off) (h' : NB K M m.off) (h0 : 0 ≤ l.dir) (h1 : l.dir ≤ 7) (g0 : 0 ≤ m.dir) (g1 : m.dir ≤ 7) (hne : l.dir ≠ m.dir) : PB (K + 3) (576 * M) (meetP l m) := by
  have hl := vec_PB (d := l.dir + 4) (by omega) (by omega)
  have hm := vec_PB (d := m.dir + 4) (by omega) (by omega)
  have hd := det_Dv h0 h1 g0 g1 hne
  exact ⟨(((h.vecm hm.2).sub (h'.vecm hl.2)).div hd).mono (by omega), (((h'.vecm hl.1).sub (h.vecm hm.1)).div hd).mono (by omega)⟩
end Go.Vai
/- The least corner; corners that begin with it. -/
set_option linter.unusedVariables false
set_option linter.unusedSimpArgs false
set_option maxHeartbeats 4000000
namespace Go.Vai
def nth (l : List Pt) (k : Nat) : Pt := l.getD k ⟨⟨0, 0, 0⟩, ⟨0, 0, 0⟩⟩
theorem nth_eq {l : List Pt} {k : Nat} (h : k < l.length) : nth l k = l[k] := by simp [nth, h]
theorem nth_mem {l : List Pt} {k : Nat} (h : k < l.length) : nth l k ∈ l := by rw [nth_eq h]; exact List.getElem_mem h
theorem encPs_get {l : List Pt} {k : Nat} (h : k < l.length) : (encPs l)[k]? = some (encP (nth l k)) := by simp [encPs, nth_eq h, h]
theorem flat_encP (p : Pt) : flatC (encP p) := by
  intro x hx
  simp only [encP, List.mem_cons, List.not_mem_nil, or_false] at hx
  rcases hx with rfl | rfl | rfl | rfl | rfl | rfl <;> rfl
@[simp] theorem flat_encPs (l : List Pt) : (∀ el, el ∈ encPs l → flatC el) = True := by
  simp only [eq_iff_iff, iff_true]
  intro el he
  obtain ⟨p, -, rfl⟩ := List.mem_map.1 he
  exact flat_encP p
theorem encPs_drop (l : List Pt) (k : Nat) : (encPs l).drop k = encPs (l.drop k) := by simp [encPs]
theorem encPs_take (l : List Pt) (k : Nat) : (encPs l).take k = encPs (l.take k) := by simp [encPs]
def leastF (l : List Pt) : Nat → Nat
  | 0 => 0
  | k + 1 => if pcmp (nth l k) (nth l (leastF l k)) < 0 then k else leastF l k
theorem leastF_lt {l : List Pt} : ∀ {k : Nat}, k ≤ l.length → 0 < l.length → leastF l k < l.length
  | 0, _, h => h
  | k + 1, h, h0 => by
    unfold leastF
    split
    · omega
    · exact leastF_lt (by omega) h0
def least (l : List Pt) : Nat := leastF l l.length
def rot0 (l : List Pt) : List Pt := l.drop (least l) ++ l.take (least l)
end Go.Vai
