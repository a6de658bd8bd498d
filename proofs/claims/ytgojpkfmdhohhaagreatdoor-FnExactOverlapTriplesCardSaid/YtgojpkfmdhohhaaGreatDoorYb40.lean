/- Merged texts of this claim: Zy5, Zy6. -/
import Derived.Test.YtgojpkfmdhohhaaGreatDoorYb37
import Derived.Test.YtgojpkfmdhohhaaGreatDoorYb39
/- Triples of places that have common area: marks; the lists. -/
set_option linter.unusedVariables false
set_option linter.unusedSimpArgs false
set_option maxHeartbeats 8000000
namespace Go.Vai
open Iq
/-- Three numbers. -/
abbrev Tr3 := Nat × Nat × Nat
def encT (t : Tr3) : List IV := [.int .i64 t.1, .int .i64 t.2.1, .int .i64 t.2.2]
@[simp] theorem encT_len (p : Tr3) : (encT p).length = 3 := rfl
theorem c17 (els : List (List IV)) (hr : ∀ el ∈ els, el.length = 3) (k : Int) (h0 : 0 ≤ k) (h1 : k + 3 * els.length ≤ 1099511627776) : PM E 17 [.sl ⟨3, els⟩, .i (.i (.int .i64 k))] [⟨3, (List.range els.length).map (m3 k)⟩] [.i (.int .i64 (k + 3 * els.length))] := by
  refine PM_start hE Proofs.Tryz.func17 rfl rfl Proofs.Tryz.ntmps17 (by kernel_rfl) (by kernel_rfl) (by simp) (by simp) ?_
  simp (maxSteps := 1000000) (disch := first | (exact DrawOk.mk (by decide +kernel)) | omega | simp) [wrap_i64, le_most, lt_omega, le_omega, ne_omega, allLen]
  refine XL.by hE (ι := { q : Nat // q ≤ els.length }) (fun q => ⟨[(0, .own 700000 0 els.length), (1, .i (.int .i64 (k + 3 * (q.1 : Int)))), (5, .i (.int .i64 q.1))], [(700000, ⟨3, mixR (m3 k) els q.1⟩)]⟩)
    (fun q => els.length - q.1) ⟨0, Nat.zero_le _⟩ ⟨by simp, by simp [mixR_zero], by simp⟩ (by kernel_rfl) ?_
  rintro ⟨q, hq⟩
  by_cases hlt : q < els.length
  · have hA := mixR_len (m3 k) els q (by omega)
    have hg := mixR_get (m3 k) els q (by omega)
    have hs : (mixR (m3 k) els q).set q (r3 (k + 3 * (q : Int))) = mixR (m3 k) els (q + 1) := mixR_set (m3 k) els q (by omega)
    have hl := hr _ (List.getElem_mem hlt)
    obtain ⟨x, y, z, hxy⟩ : ∃ x y z, els[q] = [x, y, z] := by
      match els[q], hl with
      | [x, y, z], _ => exact ⟨x, y, z, rfl⟩
    rw [hxy] at hg
    obtain ⟨hg1, hg2⟩ := List.getElem?_eq_some_iff.1 hg
    unfold r3 at hs
    simp (maxSteps := 1000000) (disch := first | (exact DrawOk.mk (by decide +kernel)) | omega | simp) [wrap_i64, le_most, lt_omega, le_omega, ne_omega, allLen, hlt, hA, hg2]
    (refine ⟨⟨q + 1, by omega⟩, by (simp; try omega), ?_⟩; constructor <;> (simp (maxSteps := 1000000) (disch := first | (exact DrawOk.mk (by decide +kernel)) | omega | simp) [wrap_i64, le_most, lt_omega, le_omega, ne_omega, allLen, hs]) <;> (try omega))
  · obtain rfl : q = els.length := by omega
    have := mixR_all (m3 k) els
    simp (maxSteps := 1000000) (disch := first | (exact DrawOk.mk (by decide +kernel)) | omega | simp) [wrap_i64, le_most, lt_omega, le_omega, ne_omega, allLen, hlt, this]
theorem c18 (n : Nat) (k : Int) (h0 : 0 ≤ k) (h1 : k + 3 * n ≤ 1099511627776) : PC E 18 [.i (.sl ((List.range n).map (m3 k))), .i (.int .i64 k)] [.i (.int .i64 (k + 3 * n))] := by
  refine PC_start hE Proofs.Tryz.func18 rfl rfl Proofs.Tryz.ntmps18 (by kernel_rfl) (by kernel_rfl) (by simp) ?_
  simp (maxSteps := 1000000) (disch := first | (exact DrawOk.mk (by decide +kernel)) | omega | simp) [wrap_i64, le_most, lt_omega, le_omega, ne_omega, allLen]
  refine XL.by hE (ι := { q : Nat // q ≤ n }) (fun q => ⟨[(0, .i (.sl ((List.range n).map (m3 k)))), (1, .i (.int .i64 (k + 3 * (q.1 : Int)))), (5, .i (.int .i64 q.1))], []⟩)
    (fun q => n - q.1) ⟨0, Nat.zero_le _⟩ ⟨by simp, by simp, by simp⟩ (by kernel_rfl) ?_
  rintro ⟨q, hq⟩
  by_cases hlt : q < n
  · have hg : ((List.range n).map (m3 k))[q]? = some [.int .i64 (k + 3 * q), .int .i64 (k + 3 * q + 1), .int .i64 (k + 3 * q + 1 + 1)] := by simp [hlt, m3, r3]
    have hl : ((List.range n).map (m3 k)).length = n := by simp
    generalize (List.range n).map (m3 k) = A at *
    obtain ⟨hg1, hg2⟩ := List.getElem?_eq_some_iff.1 hg
    simp (maxSteps := 1000000) (disch := first | (exact DrawOk.mk (by decide +kernel)) | omega | simp) [wrap_i64, le_most, lt_omega, le_omega, ne_omega, allLen, hlt, hg2, hl]
    (refine ⟨⟨q + 1, by omega⟩, by (simp; try omega), ?_⟩; constructor <;> (simp (maxSteps := 1000000) (disch := first | (exact DrawOk.mk (by decide +kernel)) | omega | simp) [wrap_i64, le_most, lt_omega, le_omega, ne_omega, allLen]) <;> (try omega))
  · obtain rfl : q = n := by omega
    simp (maxSteps := 1000000) (disch := first | (exact DrawOk.mk (by decide +kernel)) | omega | simp) [wrap_i64, le_most, lt_omega, le_omega, ne_omega, allLen, hlt]
theorem c30 (p : Tr3) : PC E 30 [.agg (encT p), .agg (encT p)] [.i (.bool true)] := by
  obtain ⟨a, b, c⟩ := p
  refine PC_start hE Proofs.Tryz.func30 rfl rfl Proofs.Tryz.ntmps30 (by kernel_rfl) (by kernel_rfl) (by simp) ?_
  simp (maxSteps := 1000000) (disch := first | (exact DrawOk.mk (by decide +kernel)) | omega | simp) [wrap_i64, le_most, lt_omega, le_omega, ne_omega, allLen, encT]
theorem c16 (l : List Tr3) (h : (l.length : Int) ≤ 1048576) : PC E 16 [.i (.sl (l.map encT)), .i (.sl (l.map encT))] [.i (.bool true)] := by
  refine PC_start hE Proofs.Tryz.func16 rfl rfl Proofs.Tryz.ntmps16 (by kernel_rfl) (by kernel_rfl) (by simp) ?_
  simp (maxSteps := 1000000) (disch := first | (exact DrawOk.mk (by decide +kernel)) | omega | simp) [wrap_i64, le_most, lt_omega, le_omega, ne_omega, allLen]
  refine XL.by hE (ι := { k : Nat // k ≤ l.length }) (fun k => ⟨[(5, .i (.int .i64 k.1)), (0, .i (.sl (l.map encT))), (1, .i (.sl (l.map encT)))], []⟩) (fun k => l.length - k.1) ⟨0, Nat.zero_le _⟩
    ⟨by simp, by simp, by simp⟩ (by kernel_rfl) ?_
  rintro ⟨k, hk⟩
  by_cases hlt : k < l.length
  · simp (maxSteps := 1000000) (disch := first | (exact DrawOk.mk (by decide +kernel)) | omega | simp) [wrap_i64, le_most, lt_omega, le_omega, ne_omega, allLen, hlt]
    refine CallK.of (c30 l[k]) (by first | exact .inl rfl | exact .inr (by simp)) (by simp) ?_
    simp (maxSteps := 1000000) (disch := first | (exact DrawOk.mk (by decide +kernel)) | omega | simp) [wrap_i64, le_most, lt_omega, le_omega, ne_omega, allLen]
    (refine ⟨⟨k + 1, by omega⟩, by (simp; try omega), ?_⟩; constructor <;> (simp (maxSteps := 1000000) (disch := first | (exact DrawOk.mk (by decide +kernel)) | omega | simp) [wrap_i64, le_most, lt_omega, le_omega, ne_omega, allLen]) <;> (try omega))
  · simp (maxSteps := 1000000) (disch := first | (exact DrawOk.mk (by decide +kernel)) | omega | simp) [wrap_i64, le_most, lt_omega, le_omega, ne_omega, allLen, hlt]
/-! ### The lists -/
def plG (ls : List (List Pt)) (a : Nat) : List Pt := ls.getD a []
def trG (ls : List (List Pt)) (a b c : Nat) : Bool := decide (0 < (commonR (commonR (plG ls a) (plG ls b)) (plG ls c)).length)
def rowT (ls : List (List Pt)) (a b : Nat) : Nat → List Tr3
  | 0 => []
  | c + 1 => rowT ls a b c ++ if b < c ∧ trG ls a b c = true then [(a, b, c)] else []
def allT (ls : List (List Pt)) (ps : List (Nat × Nat)) : Nat → List Tr3
  | 0 => []
  | i + 1 => allT ls ps i ++ rowT ls (ps.getD i (0, 0)).1 (ps.getD i (0, 0)).2 ls.length
theorem rowT_zero (ls : List (List Pt)) (a b : Nat) : ∀ c, c ≤ b + 1 → rowT ls a b c = []
  | 0, _ => rfl
  | c + 1, h => by
    simp only [rowT]
    rw [rowT_zero ls a b c (by omega), if_neg (by omega)]; rfl
theorem rowT_len (ls : List (List Pt)) (a b : Nat) : ∀ c, (rowT ls a b c).length ≤ c
  | 0 => by simp [rowT]
  | c + 1 => by
    have := rowT_len ls a b c
    simp only [rowT, List.length_append]
    split <;> simp <;> omega
theorem allT_len (ls : List (List Pt)) (ps : List (Nat × Nat)) : ∀ i, (allT ls ps i).length ≤ i * ls.length
  | 0 => by simp [allT]
  | i + 1 => by
    have h1 := allT_len ls ps i
    have h2 := rowT_len ls (ps.getD i (0, 0)).1 (ps.getD i (0, 0)).2 ls.length
    simp only [allT, List.length_append, Nat.add_mul, Nat.one_mul]; omega
def accT (ls : List (List Pt)) (ps : List (Nat × Nat)) (i a b c : Nat) : List Tr3 := allT ls ps i ++ rowT ls a b c
theorem rowT_step (ls : List (List Pt)) (ps : List (Nat × Nat)) (i : Nat) {a b c : Nat} (h : b < c) : accT ls ps i a b (c + 1) = accT ls ps i a b c ++ if trG ls a b c = true then [(a, b, c)] else [] := by
  unfold accT
  simp only [rowT, ← List.append_assoc]
  congr 1
  by_cases ht : trG ls a b c = true
  · rw [if_pos ⟨h, ht⟩, if_pos ht]
  · rw [if_neg (by rintro ⟨-, h'⟩; exact ht h'), if_neg ht]
theorem accT_zero (ls : List (List Pt)) (ps : List (Nat × Nat)) (i a b : Nat) : accT ls ps i a b (b + 1) = allT ls ps i := by
  unfold accT; rw [rowT_zero ls a b _ (Nat.le_refl _), List.append_nil]
theorem accT_all (ls : List (List Pt)) (ps : List (Nat × Nat)) {i a b : Nat} (h : ps.getD i (0, 0) = (a, b)) : accT ls ps i a b ls.length = allT ls ps (i + 1) := by
  unfold accT; simp only [allT]; rw [h]
theorem accT_len (ls : List (List Pt)) (ps : List (Nat × Nat)) {i a b c : Nat} (hi : i < ps.length) (hps : ps.length ≤ 576) (hc : c ≤ ls.length) (hn : ls.length ≤ 24) : (accT ls ps i a b c).length ≤ 14000 := by
  have h1 := allT_len ls ps i
  have h2 := rowT_len ls a b c
  have h3 := Nat.mul_le_mul (show i ≤ 576 by omega) hn
  unfold accT; simp only [List.length_append]; omega
/-- The two polygons of a pair, cut: what the walks ask for. -/
theorem both_ok {ls : List (List Pt)} (h : ∀ l ∈ ls, polI l = true) {a b : Nat} (ha : a < ls.length) (hb : b < ls.length) : Cp (commonR (plG ls a) (plG ls b)) ∧ (commonR (plG ls a) (plG ls b)).length ≤ 48 := by
  have hx := getD_pol h ha
  have hg : PolL [plG ls b] := fun g hg => by obtain rfl := List.mem_singleton.1 hg; exact getD_pol h hb
  obtain ⟨h1, -, h3⟩ := hcK_ok hx hg 1 (by simp)
  exact ⟨h1, h3⟩
theorem three_pairs {ls : List (List Pt)} (h : ∀ l ∈ ls, polI l = true) {a b c : Nat} (ha : a < ls.length) (hb : b < ls.length) (hc : c < ls.length) (ht : trG ls a b c = true) : ovG ls a c = true ∧ ovG ls b c = true := by
  have := three_two (polI_conv (getD_pol h ha)) (polI_conv (getD_pol h hb)) (polI_conv (getD_pol h hc)) (by simpa [trG, plG] using ht)
  exact ⟨by simpa [ovG, ovI] using this.1, by simpa [ovG, ovI] using this.2⟩
end Go.Vai
/- The lists of triples: the program's and the reference's. -/
set_option linter.unusedVariables false
set_option linter.unusedSimpArgs false
set_option maxHeartbeats 8000000
namespace Go.Vai
open Iq
theorem x46 {a b : List Pt} (ha : Cp a) (hn : a.length ≤ 48) (hb : polI b = true) : PC E 46 [.i (.sl (encPs a)), .i (.sl (encPs b))] [.i (.bool (ovI a b))] := by
  obtain ⟨p2, n2, m2, -⟩ := polI_poly hb
  exact c46 a b (com_of ha.fine ha.pb p2) (by decide) (by decide) (by decide) (len_big (k := 1) hn (by decide) m2) (by omega)
theorem x45 {a b : List Pt} (ha : polI a = true) (hb : polI b = true) : PC E 45 [.i (.sl (encPs a)), .i (.sl (encPs b))] [.i (.sl (encPs (commonR a b)))] := by
  obtain ⟨p1, n1, m1, -⟩ := polI_poly ha
  obtain ⟨p2, n2, m2, -⟩ := polI_poly hb
  have hc := Cp.of_pol ha
  exact (c45 a b (com_of hc.fine hc.pb p2) (by decide) (by decide) (by decide) (len_big (k := 0) (by omega) (by decide) m2) (by omega)).imm
def triL (ls : List (List Pt)) : List Tr3 := allT ls (allP ls ls.length) (allP ls ls.length).length
theorem allP_576 {ls : List (List Pt)} (hn : ls.length ≤ 24) : (allP ls ls.length).length ≤ 576 := by
  have := allP_len ls ls.length
  have := Nat.mul_le_mul hn hn
  omega
theorem c29 (ls : List (List Pt)) (h : ∀ l ∈ ls, polI l = true) (hn : ls.length ≤ 24) : PC E 29 [.i (.sl (ls.map encG))] [.own 3 ((triL ls).map encT)] := by
  have hpr := c24 ls h hn
  have hV : ∀ x ∈ allP ls ls.length, x.1 < ls.length ∧ x.1 < x.2 ∧ x.2 < ls.length := fun x hx => by
    obtain ⟨h1, h2, h3, -⟩ := (allP_mem ls x _).1 hx
    exact ⟨h1, h2, h3⟩
  have hVl := allP_576 hn
  unfold triL
  generalize allP ls ls.length = V at *
  refine PC_start hE Proofs.Tryz.func29 rfl rfl Proofs.Tryz.ntmps29 (by kernel_rfl) (by kernel_rfl) (by simp) ?_
  simp (maxSteps := 1000000) (disch := first | (exact DrawOk.mk (by decide +kernel)) | omega | simp) [wrap_i64, le_most, lt_omega, le_omega, ne_omega, allLen]
  refine CallK.of (hpr) (by first | exact .inl rfl | exact .inr (by simp)) (by simp) ?_
  simp (maxSteps := 1000000) (disch := first | (exact DrawOk.mk (by decide +kernel)) | omega | simp) [wrap_i64, le_most, lt_omega, le_omega, ne_omega, allLen]
  refine XL.by hE (ι := { i : Nat // i ≤ V.length }) (fun i => ⟨[(0, .i (.sl (ls.map encG))), (3, .own 49 0 (allT ls V i.1).length), (9, .own 9 0 V.length), (10, .i (.int .i64 V.length)), (11, .i (.int .i64 i.1))], [(9, ⟨2, V.map encPr⟩), (49, ⟨3, (allT ls V i.1).map encT⟩)]⟩)
    (fun i => V.length - i.1) ⟨0, Nat.zero_le _⟩ ⟨by simp [allT], by simp [allT], by simp⟩ (by kernel_rfl) ?_
  rintro ⟨i, hi⟩
  by_cases hlt : i < V.length
  · obtain ⟨⟨a, b⟩, hab⟩ : ∃ p, V[i] = p := ⟨_, rfl⟩
    obtain ⟨ha, hab', hb⟩ := hV _ (List.getElem_mem hlt)
    rw [hab] at ha hab' hb
    simp only at ha hab' hb
    have hgp : (V.map encPr)[i]? = some [.int .i64 a, .int .i64 b] := by simp [hlt, hab, encPr]
    have hgd : V.getD i (0, 0) = (a, b) := by simp [hlt, hab]
    have ea : ls.getD a [] = ls[a] := by simp [ha]
    have eb : ls.getD b [] = ls[b] := by simp [hb]
    have rz := accT_zero ls V i a b
    obtain ⟨hc1, hc2⟩ := both_ok h ha hb
    have hcm := x45 (getD_pol h ha) (getD_pol h hb)
    unfold plG at hc1 hc2
    rw [ea, eb] at hcm hc1 hc2
    generalize hW : commonR ls[a] ls[b] = W at *
    simp (maxSteps := 1000000) (disch := first | (exact DrawOk.mk (by decide +kernel)) | omega | simp) [wrap_i64, le_most, lt_omega, le_omega, ne_omega, allLen, hlt, hgp, ha, hb, encG]
    refine CallK.of (hcm) (by first | exact .inl rfl | exact .inr (by simp)) (by simp) ?_
    simp (maxSteps := 1000000) (disch := first | (exact DrawOk.mk (by decide +kernel)) | omega | simp) [wrap_i64, le_most, lt_omega, le_omega, ne_omega, allLen]
    refine XL.by hE (ι := { c : Nat // b + 1 ≤ c ∧ c ≤ ls.length }) (fun c => ⟨[(0, .i (.sl (ls.map encG))), (3, .own 49 0 (accT ls V i a b c.1).length), (5, .ptr 5 0 0), (6, .i (.sl (encPs W))), (7, .i (.int .i64 c.1)), (9, .own 9 0 V.length), (10, .i (.int .i64 V.length)), (11, .i (.int .i64 i))],
        [(5, ⟨2, [[.int .i64 a, .int .i64 b]]⟩), (9, ⟨2, V.map encPr⟩), (49, ⟨3, (accT ls V i a b c.1).map encT⟩)]⟩)
      (fun c => ls.length - c.1) ⟨b + 1, Nat.le_refl _, by omega⟩ ⟨by simp [rz], by simp [rz], by simp⟩ (by kernel_rfl) ?_
    rintro ⟨c, hcb, hcl⟩
    have hRl := accT_len ls V (i := i) (a := a) (b := b) (c := c) hlt hVl hcl hn
    by_cases hlc : c < ls.length
    · have hst := rowT_step ls V i (a := a) (b := b) (c := c) (by omega)
      have ec : ls.getD c [] = ls[c] := by simp [hlc]
      have hov := x46 hc1 hc2 (getD_pol h hlc)
      have eT : ovI W (ls.getD c []) = trG ls a b c := by unfold trG ovI plG; rw [ea, eb, hW]
      rw [eT, ec] at hov
      generalize trG ls a b c = t at *
      simp (maxSteps := 1000000) (disch := first | (exact DrawOk.mk (by decide +kernel)) | omega | simp) [wrap_i64, le_most, lt_omega, le_omega, ne_omega, allLen]
      refine CallK.of (c36 ls) (by first | exact .inl rfl | exact .inr (by simp)) (by simp) ?_
      simp (maxSteps := 1000000) (disch := first | (exact DrawOk.mk (by decide +kernel)) | omega | simp) [wrap_i64, le_most, lt_omega, le_omega, ne_omega, allLen, hlc, encG]
      refine CallK.of (hov) (by first | exact .inl rfl | exact .inr (by simp)) (by simp) ?_
      cases t
      · rw [if_neg (by simp), List.append_nil] at hst
        simp (maxSteps := 1000000) (disch := first | (exact DrawOk.mk (by decide +kernel)) | omega | simp) [wrap_i64, le_most, lt_omega, le_omega, ne_omega, allLen]
        (refine ⟨⟨c + 1, by omega, by omega⟩, by (simp; try omega), ?_⟩; constructor <;> (simp (maxSteps := 1000000) (disch := first | (exact DrawOk.mk (by decide +kernel)) | omega | simp) [wrap_i64, le_most, lt_omega, le_omega, ne_omega, allLen, hst]) <;> (try omega))
      · rw [if_pos rfl] at hst
        simp (maxSteps := 1000000) (disch := first | (exact DrawOk.mk (by decide +kernel)) | omega | simp) [wrap_i64, le_most, lt_omega, le_omega, ne_omega, allLen]
        (refine ⟨⟨c + 1, by omega, by omega⟩, by (simp; try omega), ?_⟩; constructor <;> (simp (maxSteps := 1000000) (disch := first | (exact DrawOk.mk (by decide +kernel)) | omega | simp) [wrap_i64, le_most, lt_omega, le_omega, ne_omega, allLen, hst, encT]) <;> (try omega))
    · obtain rfl : c = ls.length := by omega
      have hst := accT_all ls V hgd
      simp (maxSteps := 1000000) (disch := first | (exact DrawOk.mk (by decide +kernel)) | omega | simp) [wrap_i64, le_most, lt_omega, le_omega, ne_omega, allLen]
      refine CallK.of (c36 ls) (by first | exact .inl rfl | exact .inr (by simp)) (by simp) ?_
      simp (maxSteps := 1000000) (disch := first | (exact DrawOk.mk (by decide +kernel)) | omega | simp) [wrap_i64, le_most, lt_omega, le_omega, ne_omega, allLen]
      (refine ⟨⟨i + 1, by omega⟩, by (simp; try omega), ?_⟩; constructor <;> (simp (maxSteps := 1000000) (disch := first | (exact DrawOk.mk (by decide +kernel)) | omega | simp) [wrap_i64, le_most, lt_omega, le_omega, ne_omega, allLen, ← hst]) <;> (try omega))
  · obtain rfl : i = V.length := by omega
    simp (maxSteps := 1000000) (disch := first | (exact DrawOk.mk (by decide +kernel)) | omega | simp) [wrap_i64, le_most, lt_omega, le_omega, ne_omega, allLen]
end Go.Vai
