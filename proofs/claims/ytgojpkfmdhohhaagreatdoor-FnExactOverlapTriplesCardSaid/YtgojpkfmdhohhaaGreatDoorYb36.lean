/- Merged texts of this claim: Zy1, Zy2. -/
import Derived.Test.YtgojpkfmdhohhaaGreatDoorYb22
import Derived.Test.YtgojpkfmdhohhaaGreatDoorYb32
/- Marks of flat structs, and lists of polygons made anew as trees. -/
set_option linter.unusedVariables false
set_option linter.unusedSimpArgs false
set_option maxHeartbeats 4000000
set_option maxRecDepth 20000
namespace Go.Vai
/-- The first q rows are new, the others as they were. -/
def mixR (f : Nat → List IV) (els : List (List IV)) (q : Nat) : List (List IV) := (List.range q).map f ++ els.drop q
theorem mixR_zero (f : Nat → List IV) (els : List (List IV)) : mixR f els 0 = els := by simp [mixR]
theorem mixR_all (f : Nat → List IV) (els : List (List IV)) : mixR f els els.length = (List.range els.length).map f := by simp [mixR]
theorem mixR_len (f : Nat → List IV) (els : List (List IV)) (q : Nat) (h : q ≤ els.length) : (mixR f els q).length = els.length := by simp [mixR]; omega
theorem mixR_get (f : Nat → List IV) (els : List (List IV)) (q : Nat) (h : q < els.length) : (mixR f els q)[q]? = some els[q] := by
  simp only [mixR]
  rw [List.getElem?_append_right (by simp)]; simp [h]
theorem mixR_set (f : Nat → List IV) (els : List (List IV)) (q : Nat) (h : q < els.length) : (mixR f els q).set q (f q) = mixR f els (q + 1) := by
  simp only [mixR]
  rw [List.set_append_right _ _ (by simp), List.length_map, List.length_range, Nat.sub_self, List.drop_eq_getElem_cons h, List.set_cons_zero, List.range_succ]
  simp
def r6 (k : Int) : List IV := [.int .i64 k, .int .i64 (k + 1), .int .i64 (k + 1 + 1), .int .i64 (k + 1 + 1 + 1), .int .i64 (k + 1 + 1 + 1 + 1), .int .i64 (k + 1 + 1 + 1 + 1 + 1)]
def m6 (k : Int) (i : Nat) : List IV := r6 (k + 6 * (i : Int))
def r2 (k : Int) : List IV := [.int .i64 k, .int .i64 (k + 1)]
def m2 (k : Int) (i : Nat) : List IV := r2 (k + 2 * (i : Int))
def r3 (k : Int) : List IV := [.int .i64 k, .int .i64 (k + 1), .int .i64 (k + 1 + 1)]
def m3 (k : Int) (i : Nat) : List IV := r3 (k + 3 * (i : Int))
theorem c27 (l : List Pt) (k : Int) (h0 : 0 ≤ k) (h1 : k + 6 * l.length ≤ 1099511627776) : PM E 27 [.sl ⟨6, encPs l⟩, .i (.i (.int .i64 k))] [⟨6, (List.range l.length).map (m6 k)⟩] [.i (.int .i64 (k + 6 * l.length))] := by
  have hel : (encPs l).length = l.length := by simp [encPs]
  refine PM_start hE Proofs.Tryz.func27 rfl rfl Proofs.Tryz.ntmps27 (by kernel_rfl) (by kernel_rfl) (by simp) (by simp [hel]) ?_
  simp (maxSteps := 1000000) (disch := first | (exact DrawOk.mk (by decide +kernel)) | omega | simp) [wrap_i64, le_most, lt_omega, le_omega, ne_omega, allLen, hel]
  refine XL.by hE (ι := { q : Nat // q ≤ l.length }) (fun q => ⟨[(0, .own 700000 0 l.length), (1, .i (.int .i64 (k + 6 * (q.1 : Int)))), (5, .i (.int .i64 q.1))], [(700000, ⟨6, mixR (m6 k) (encPs l) q.1⟩)]⟩)
    (fun q => l.length - q.1) ⟨0, Nat.zero_le _⟩ ⟨by simp, by simp [mixR_zero], by simp⟩ (by kernel_rfl) ?_
  rintro ⟨q, hq⟩
  by_cases hlt : q < l.length
  · have hA := mixR_len (m6 k) (encPs l) q (by omega)
    have hg := mixR_get (m6 k) (encPs l) q (by omega)
    have hs : (mixR (m6 k) (encPs l) q).set q (r6 (k + 6 * (q : Int))) = mixR (m6 k) (encPs l) (q + 1) := mixR_set (m6 k) (encPs l) q (by omega)
    have hp : (encPs l)[q]'(by omega) = encP l[q] := by simp [encPs]
    rw [hp] at hg
    rw [hel] at hA
    obtain ⟨hg1, hg2⟩ := List.getElem?_eq_some_iff.1 hg
    unfold r6 at hs
    simp (maxSteps := 1000000) (disch := first | (exact DrawOk.mk (by decide +kernel)) | omega | simp) [wrap_i64, le_most, lt_omega, le_omega, ne_omega, allLen, hlt, hA, hg2, encP]
    (refine ⟨⟨q + 1, by omega⟩, by (simp; try omega), ?_⟩; constructor <;> (simp (maxSteps := 1000000) (disch := first | (exact DrawOk.mk (by decide +kernel)) | omega | simp) [wrap_i64, le_most, lt_omega, le_omega, ne_omega, allLen, hs]) <;> (try omega))
  · obtain rfl : q = l.length := by omega
    have := mixR_all (m6 k) (encPs l)
    rw [hel] at this
    simp (maxSteps := 1000000) (disch := first | (exact DrawOk.mk (by decide +kernel)) | omega | simp) [wrap_i64, le_most, lt_omega, le_omega, ne_omega, allLen, hlt, this]
theorem mark0P (s : Nat) (k : Int) : PM E 27 [.sl ⟨s, []⟩, .i (.i (.int .i64 k))] [⟨s, []⟩] [.i (.int .i64 k)] := by
  refine PM_start hE Proofs.Tryz.func27 rfl rfl Proofs.Tryz.ntmps27 (by kernel_rfl) (by kernel_rfl) (by simp) (by simp) ?_
  simp (maxSteps := 1000000) (disch := first | (exact DrawOk.mk (by decide +kernel)) | omega | simp) [wrap_i64, le_most, lt_omega, le_omega, ne_omega, allLen]
  refine XL.by hE (ι := Unit) (fun _ => ⟨[(0, .own 700000 0 0), (1, .i (.int .i64 k)), (5, .i (.int .i64 0))], [(700000, ⟨s, []⟩)]⟩)
    (fun _ => 0) () ⟨by simp, by simp, by simp⟩ (by kernel_rfl) ?_
  rintro ⟨⟩
  simp (maxSteps := 1000000) (disch := first | (exact DrawOk.mk (by decide +kernel)) | omega | simp) [wrap_i64, le_most, lt_omega, le_omega, ne_omega, allLen]
theorem numP (l : List Pt) : ∀ el ∈ encPs l, ∀ x ∈ el, x.num = true := fun el hel x hx => by
  obtain ⟨a, -, rfl⟩ := List.mem_map.1 hel
  simp [encP, encN] at hx
  rcases hx with rfl | rfl | rfl | rfl | rfl | rfl <;> rfl
theorem PDPts (l : List Pt) (h : (l.length : Int) ≤ 1048576) : PD E 22 [.i (.sl (encPs l))] (.i (.sl (encPs l))) := PD.of_own (c22 l h) (numP l)
theorem PWPts (l : List Pt) (k : Int) (h0 : 0 ≤ k) (h1 : k + 6 * l.length ≤ 1099511627776) : PW E 27 (.i (.sl (encPs l))) k (k + 6 * l.length) :=
  PW.of_pm (numP l) (fun el hel => by obtain ⟨a, -, rfl⟩ := List.mem_map.1 hel; rfl) (c27 l k h0 h1) fun he s => by
    have : l = [] := by simpa [encPs] using he
    subst this
    refine ⟨⟨s, []⟩, ?_⟩
    have := mark0P s k
    simpa using this
end Go.Vai
/- Lists of polygons as trees; marks all over them. -/
set_option linter.unusedVariables false
set_option linter.unusedSimpArgs false
set_option maxHeartbeats 4000000
set_option maxRecDepth 20000
namespace Go.Vai
open Go.RowKit (Below)
theorem PDPtss (ls : List (List Pt)) (h : (ls.length : Int) ≤ 1048576) (hr : (gsum ls : Int) ≤ 1048576) : PD E 7 [.i (.sl (ls.map encG))] (.i (.sl (ls.map encG))) := by
  refine ⟨by kernel_rfl, fun F w cargs hG hlt hsz hrep => ?_⟩
  refine hand_start hE Proofs.Tryz.func7 rfl Proofs.Tryz.ntmps7 (by simp) hG hlt hsz hrep fun a hx hf => ?_
  have hz0 : half [] ls.length [.sl []] = List.replicate ls.length [IV.sl []] := by simp [half]
  refine segN hE 1 ⟨[(0, .i (.sl (ls.map encG))), (3, .own 7 0 ls.length)], [(7, ⟨1, half [] ls.length [.sl []]⟩)]⟩ hx hf (by kernel_rfl) (by kernel_rfl) ?_ fun a w1 hf => ?_
  · rw [hz0]
    simp (maxSteps := 1000000) (disch := first | (exact DrawOk.mk (by decide +kernel)) | omega | simp) [wrap_i64, le_most, lt_omega, le_omega, ne_omega, allLen, cutC]
    exact ⟨by simp (maxSteps := 1000000) (disch := first | (exact DrawOk.mk (by decide +kernel)) | omega | simp) [wrap_i64, le_most, lt_omega, le_omega, ne_omega, allLen], by simp (maxSteps := 1000000) (disch := first | (exact DrawOk.mk (by decide +kernel)) | omega | simp) [wrap_i64, le_most, lt_omega, le_omega, ne_omega, allLen], by simp (maxSteps := 1000000) (disch := first | (exact DrawOk.mk (by decide +kernel)) | omega | simp) [wrap_i64, le_most, lt_omega, le_omega, ne_omega, allLen]⟩
  simp only [restN]
  refine wp_seq ?_
  refine segN hE 0 ⟨[(0, .i (.sl (ls.map encG))), (3, .own 7 0 ls.length), (4, .i (.int .i64 0))], [(7, ⟨1, half [] ls.length [.sl []]⟩)]⟩ hx hf (by kernel_rfl) (by kernel_rfl) ?_ fun a w1 hf => ?_
  · simp (maxSteps := 1000000) (disch := first | (exact DrawOk.mk (by decide +kernel)) | omega | simp) [wrap_i64, le_most, lt_omega, le_omega, ne_omega, allLen, cutC]
    exact ⟨by simp (maxSteps := 1000000) (disch := first | (exact DrawOk.mk (by decide +kernel)) | omega | simp) [wrap_i64, le_most, lt_omega, le_omega, ne_omega, allLen], by simp (maxSteps := 1000000) (disch := first | (exact DrawOk.mk (by decide +kernel)) | omega | simp) [wrap_i64, le_most, lt_omega, le_omega, ne_omega, allLen], by simp (maxSteps := 1000000) (disch := first | (exact DrawOk.mk (by decide +kernel)) | omega | simp) [wrap_i64, le_most, lt_omega, le_omega, ne_omega, allLen]⟩
  simp only [restN]
  refine wp_block (loop_hand (ι := { k : Nat // k ≤ ls.length }) (fun k a w' => ∃ z1 F1 Rr rws, Rows E w F 23 (ls.map encG) (fun rws => ⟨[(0, .i (.sl (ls.map encG))), (3, .own 7 0 ls.length), (4, .i (.int .i64 k.1))], [(7, ⟨1, half rws ls.length [.sl []]⟩)]⟩) k.1 a w' z1 F1 Rr rws)
    (fun k => ls.length - k.1) ⟨0, Nat.zero_le _⟩ ⟨_, _, fun _ _ => False, [], ⟨hx, Back.refl _ _, hf, rfl, fun j r q _ hq => by simp at hq, fun j b hb => hb.elim, fun j j' b hb => hb.elim⟩⟩ ?_)
  rintro ⟨k, hk⟩ a w2 ⟨z1, F1, Rr, rws, hI⟩
  have hlen : rws.length = k := hI.len
  by_cases hlt : k < ls.length
  · -- a round
    have hzl := half_len (rws := rws) [.sl []] (n := ls.length) (by omega)
    have hzg := half_get (rws := rws) [.sl []] (n := ls.length) (by omega)
    have hzs := fun x => half_set (rws := rws) [.sl []] x (n := ls.length) (by omega)
    rw [hlen] at hzg hzs
    have hfI := hI.fits
    refine segN hE 0 ⟨[(0, .i (.sl (ls.map encG))), (3, .own 7 0 ls.length), (4, .i (.int .i64 k))], [(7, ⟨1, half rws ls.length [.sl []]⟩)]⟩ hI.ctx hfI (by kernel_rfl) (by kernel_rfl) ?_ fun a w3 hf => ?_
    · simp (maxSteps := 1000000) (disch := first | (exact DrawOk.mk (by decide +kernel)) | omega | simp) [wrap_i64, le_most, lt_omega, le_omega, ne_omega, allLen, cutC, hlt]
      exact ⟨by simp (maxSteps := 1000000) (disch := first | (exact DrawOk.mk (by decide +kernel)) | omega | simp) [wrap_i64, le_most, lt_omega, le_omega, ne_omega, allLen], by simp (maxSteps := 1000000) (disch := first | (exact DrawOk.mk (by decide +kernel)) | omega | simp) [wrap_i64, le_most, lt_omega, le_omega, ne_omega, allLen], by simp (maxSteps := 1000000) (disch := first | (exact DrawOk.mk (by decide +kernel)) | omega | simp) [wrap_i64, le_most, lt_omega, le_omega, ne_omega, allLen]⟩
    simp only [restN]
    have hg := gsum_get hlt
    refine wp_seq (wp_block (region_hand hE 6 (S1 := ⟨[(0, .i (.sl (ls.map encG))), (3, .own 7 0 ls.length), (4, .i (.int .i64 k)), (14, .own 7 0 ls.length), (15, .i (.int .i64 k)), (19, .i (.sl (encPs ls[k])))], [(7, ⟨1, half rws ls.length [.sl []]⟩)]⟩) hI.ctx hf (by kernel_rfl) rfl rfl ?_ fun a w4 hf => ?_))
    · simp (maxSteps := 1000000) (disch := first | (exact DrawOk.mk (by decide +kernel)) | omega | simp) [wrap_i64, le_most, lt_omega, le_omega, ne_omega, allLen, hlt, encG]
      exact ⟨by simp (maxSteps := 1000000) (disch := first | (exact DrawOk.mk (by decide +kernel)) | omega | simp) [wrap_i64, le_most, lt_omega, le_omega, ne_omega, allLen, encG], by simp (maxSteps := 1000000) (disch := first | (exact DrawOk.mk (by decide +kernel)) | omega | simp) [wrap_i64, le_most, lt_omega, le_omega, ne_omega, allLen], by simp (maxSteps := 1000000) (disch := first | (exact DrawOk.mk (by decide +kernel)) | omega | simp) [wrap_i64, le_most, lt_omega, le_omega, ne_omega, allLen]⟩
    have hs4 := hf.size_le
    refine Oper.wp_mono ?_ (deepCall_wp hI.ctx hf (d := 20) rfl (by decide) (vs := [.i (.sl (encPs ls[k]))]) (by simp) (by simp) rfl (PDPts ls[k] (by omega)) [] (by simp) _)
    rintro a' w' ⟨z2, F2, R2, v2, us2, hz2, hx2, hb2, h02, hFR2, hG2, hm2, ht2, -, hf2⟩
    refine ⟨z2, _, _, ⟨[(0, .i (.sl (ls.map encG))), (3, .own 7 0 ls.length), (4, .i (.int .i64 k))], [(7, ⟨1, half (rws ++ [[.raw v2]]) ls.length [.sl []]⟩)]⟩, hx2, hf2.recast (u' := .i (.raw v2)) fun F ρ v h => pin_raw h, ?_, fun a w5 hf => ?_⟩
    · have hzs2 := hzs [.raw v2]
      generalize half (rws ++ [[.raw v2]]) ls.length [.sl []] = A' at *
      generalize half rws ls.length [.sl []] = A at *
      obtain ⟨hA1, hA2⟩ := List.getElem?_eq_some_iff.1 hzg
      simp (maxSteps := 1000000) (disch := first | (exact DrawOk.mk (by decide +kernel)) | omega | simp) [wrap_i64, le_most, lt_omega, le_omega, ne_omega, allLen, hlt, pinT, hzl, hA2]
      exact ⟨by simp (maxSteps := 1000000) (disch := first | (exact DrawOk.mk (by decide +kernel)) | omega | simp) [wrap_i64, le_most, lt_omega, le_omega, ne_omega, allLen], by simp (maxSteps := 1000000) (disch := first | (exact DrawOk.mk (by decide +kernel)) | omega | simp) [wrap_i64, le_most, lt_omega, le_omega, ne_omega, allLen, hzs2], by simp (maxSteps := 1000000) (disch := first | (exact DrawOk.mk (by decide +kernel)) | omega | simp) [wrap_i64, le_most, lt_omega, le_omega, ne_omega, allLen]⟩
    show Code.wp _ _ _ _ _
    refine pieceN hE (normQ ⟨[(0, .i (.sl (ls.map encG))), (3, .own 7 0 ls.length), (4, .i (.int .i64 ((k : Int) + 1)))], [(7, ⟨1, half (rws ++ [[.raw v2]]) ls.length [.sl []]⟩)]⟩) hx2 hf (by kernel_rfl) ?_ fun e s a' w' hq hf' => ?_
    · simp (maxSteps := 1000000) (disch := first | (exact DrawOk.mk (by decide +kernel)) | omega | simp) [wrap_i64, le_most, lt_omega, le_omega, ne_omega, allLen]
      exact ⟨by simp (maxSteps := 1000000) (disch := first | (exact DrawOk.mk (by decide +kernel)) | omega | simp) [wrap_i64, le_most, lt_omega, le_omega, ne_omega, allLen], by simp (maxSteps := 1000000) (disch := first | (exact DrawOk.mk (by decide +kernel)) | omega | simp) [wrap_i64, le_most, lt_omega, le_omega, ne_omega, allLen], by simp (maxSteps := 1000000) (disch := first | (exact DrawOk.mk (by decide +kernel)) | omega | simp) [wrap_i64, le_most, lt_omega, le_omega, ne_omega, allLen]⟩
    cases e with
    | normal =>
      have hff := hf'.le hq
      refine ⟨⟨k + 1, by omega⟩, by show ls.length - (k + 1) < ls.length - k; omega, z2, _, _, _, hI.next (S' := fun rws => ⟨[(0, .i (.sl (ls.map encG))), (3, .own 7 0 ls.length), (4, .i (.int .i64 ((k + 1 : Nat) : Int)))], [(7, ⟨1, half rws ls.length [.sl []]⟩)]⟩) hx2 hb2 h02 hFR2 ht2.new hs4 (row := encG ls[k]) (by simp [hlt]) (by rw [hz2]; exact RowOk.of_slice ht2.tr) hff⟩
    | _ => exact hq.elim
  · -- the end
    obtain rfl : k = ls.length := by omega
    refine pieceN hE (fun e s => e = .exit 0 ∧ Le s ⟨[(3, .own 7 0 ls.length)], [(7, ⟨1, half rws ls.length [.sl []]⟩)]⟩) hI.ctx hI.fits (by kernel_rfl) ?_ fun e s a' w' hq hf' => ?_
    · simp (maxSteps := 1000000) (disch := first | (exact DrawOk.mk (by decide +kernel)) | omega | simp) [wrap_i64, le_most, lt_omega, le_omega, ne_omega, allLen]
      exact ⟨by simp (maxSteps := 1000000) (disch := first | (exact DrawOk.mk (by decide +kernel)) | omega | simp) [wrap_i64, le_most, lt_omega, le_omega, ne_omega, allLen], by simp (maxSteps := 1000000) (disch := first | (exact DrawOk.mk (by decide +kernel)) | omega | simp) [wrap_i64, le_most, lt_omega, le_omega, ne_omega, allLen], by simp (maxSteps := 1000000) (disch := first | (exact DrawOk.mk (by decide +kernel)) | omega | simp) [wrap_i64, le_most, lt_omega, le_omega, ne_omega, allLen]⟩
    obtain ⟨rfl, hle⟩ := hq
    have hff := hf'.le hle
    rw [half_all _ hlen] at hff
    show Code.wp _ _ _ _ _
    refine end_hand hE ⟨[(2, .own 7 0 ls.length)], [(7, ⟨1, rws⟩)]⟩ rfl (u := .own 7 0 ls.length) (by simp) hI.ctx hff (by kernel_rfl) ?_ fun a5 w5 F5 ρ v hfit hv => ?_
    · simp (maxSteps := 1000000) (disch := first | (exact DrawOk.mk (by decide +kernel)) | omega | simp) [wrap_i64, le_most, lt_omega, le_omega, ne_omega, allLen]
      exact ⟨by simp (maxSteps := 1000000) (disch := first | (exact DrawOk.mk (by decide +kernel)) | omega | simp) [wrap_i64, le_most, lt_omega, le_omega, ne_omega, allLen], by simp (maxSteps := 1000000) (disch := first | (exact DrawOk.mk (by decide +kernel)) | omega | simp) [wrap_i64, le_most, lt_omega, le_omega, ne_omega, allLen], by simp (maxSteps := 1000000) (disch := first | (exact DrawOk.mk (by decide +kernel)) | omega | simp) [wrap_i64, le_most, lt_omega, le_omega, ne_omega, allLen]⟩
    have hf5 : Fits z1 F1 _ _ a5 w5 := ⟨F5, ρ, hfit⟩
    have hl2 : (ls.map encG).length = ls.length := by simp
    obtain ⟨R', ht⟩ := own_tree (E := E) hI.back hfit (Rr := Rr) (els := ls.map encG) (rws := rws) (sz := 1) (o := 7) (by simp [look_cons]) (by rw [hl2]; exact hv) (by rw [hlen, hl2]) (fun j r q hj hq => (hI.row j r q hj hq).mono (fun _ h => h) fun b hb => same_of_fits hI.ctx hf5 b (hI.sub j b hb).1) (fun j b hb => (hI.sub j b hb).1) hI.dis fun j b hb => (hI.sub j b hb).2
    exact ⟨v, R', rfl, (hI.back.fits hf5).below0, ht⟩
/-! ### Marks -/
def rows1 (n : Nat) (cv : Nat → Nat → Value) : List (List IV) := (List.range n).map fun j => [.raw (cv j 0)]
theorem rows1_get {n : Nat} {cv : Nat → Nat → Value} {i : Nat} (h : i < n) : (rows1 n cv)[i]? = some [.raw (cv i 0)] := by simp [rows1, h]
theorem rows1_start (ls : List (List Pt)) (cv : Nat → Nat → Value) : ((ls.map encG).mapIdx fun i el => rawRow el (cv i)) = rows1 ls.length cv := by
  apply List.ext_getElem?
  intro j
  simp only [rows1, List.getElem?_mapIdx, List.getElem?_map, Option.map_map]
  by_cases h : j < ls.length
  · simp [h, rawRow, encG, IV.num]
  · simp [h]
theorem PWPtss (ls : List (List Pt)) (k : Int) (h0 : 0 ≤ k) (hk : k + 6 * gsum ls ≤ 1099511627776) (hl : (ls.length : Int) ≤ 1048576) : PW E 11 (.i (.sl (ls.map encG))) k (k + 6 * gsum ls) := by
  by_cases hne : ls = []
  · subst hne
    have hpc : PC E 11 [.i (.sl []), .i (.int .i64 k)] [.i (.int .i64 k)] := by
      refine PC_start hE Proofs.Tryz.func11 rfl rfl Proofs.Tryz.ntmps11 (by kernel_rfl) (by kernel_rfl) (by simp) ?_
      simp (maxSteps := 1000000) (disch := first | (exact DrawOk.mk (by decide +kernel)) | omega | simp) [wrap_i64, le_most, lt_omega, le_omega, ne_omega, allLen]
      refine XL.by hE (ι := Unit) (fun _ => ⟨[(0, .i (.sl [])), (1, .i (.int .i64 k)), (5, .i (.int .i64 0))], []⟩) (fun _ => 0) () ⟨by simp, by simp, by simp⟩ (by kernel_rfl) ?_
      rintro ⟨⟩
      simp (maxSteps := 1000000) (disch := first | (exact DrawOk.mk (by decide +kernel)) | omega | simp) [wrap_i64, le_most, lt_omega, le_omega, ne_omega, allLen]
    have := PW.of_pc hpc
    simpa [gsum] using this
  refine ⟨by kernel_rfl, fun F R w v hG hlt hFR ht hRlt => ?_⟩
  have hlm : (ls.map encG).length = ls.length := by simp
  refine tree_start hE Proofs.Tryz.func11 rfl Proofs.Tryz.ntmps11 (by simp) 1 (by simpa using hne) (fun el hel => by obtain ⟨a, -, rfl⟩ := List.mem_map.1 hel; rfl) hG hlt hFR ht hRlt fun cv Rs z1 F1 a hx hb hz1 hO hd htr hf => ?_
  rw [rows1_start, hlm] at hf
  refine segN hE 0 ⟨[(0, .own 9 0 ls.length), (1, .i (.int .i64 k))], [(9, ⟨1, rows1 ls.length cv⟩)]⟩ hx hf (by kernel_rfl) (by kernel_rfl) ?_ fun a w1 hf => ?_
  · simp (maxSteps := 1000000) (disch := first | (exact DrawOk.mk (by decide +kernel)) | omega | simp) [wrap_i64, le_most, lt_omega, le_omega, ne_omega, allLen, cutC]
    exact ⟨by simp (maxSteps := 1000000) (disch := first | (exact DrawOk.mk (by decide +kernel)) | omega | simp) [wrap_i64, le_most, lt_omega, le_omega, ne_omega, allLen], by simp (maxSteps := 1000000) (disch := first | (exact DrawOk.mk (by decide +kernel)) | omega | simp) [wrap_i64, le_most, lt_omega, le_omega, ne_omega, allLen], by simp (maxSteps := 1000000) (disch := first | (exact DrawOk.mk (by decide +kernel)) | omega | simp) [wrap_i64, le_most, lt_omega, le_omega, ne_omega, allLen]⟩
  simp only [restN]
  refine wp_seq ?_
  refine segN hE 0 ⟨[(0, .own 9 0 ls.length), (1, .i (.int .i64 k)), (5, .i (.int .i64 0))], [(9, ⟨1, rows1 ls.length cv⟩)]⟩ hx hf (by kernel_rfl) (by kernel_rfl) ?_ fun a w1 hf => ?_
  · simp (maxSteps := 1000000) (disch := first | (exact DrawOk.mk (by decide +kernel)) | omega | simp) [wrap_i64, le_most, lt_omega, le_omega, ne_omega, allLen, cutC]
    exact ⟨by simp (maxSteps := 1000000) (disch := first | (exact DrawOk.mk (by decide +kernel)) | omega | simp) [wrap_i64, le_most, lt_omega, le_omega, ne_omega, allLen], by simp (maxSteps := 1000000) (disch := first | (exact DrawOk.mk (by decide +kernel)) | omega | simp) [wrap_i64, le_most, lt_omega, le_omega, ne_omega, allLen], by simp (maxSteps := 1000000) (disch := first | (exact DrawOk.mk (by decide +kernel)) | omega | simp) [wrap_i64, le_most, lt_omega, le_omega, ne_omega, allLen]⟩
  simp only [restN]
  have hM0 : MarkI E w R F 19 (ls.map encG) cv Rs _ (0, 0) a w1 z1 F1 := ⟨hx, hb, hf, hO, fun i el j x h1 h2 _ => by rw [hz1]; exact htr i el j x h1 h2⟩
  refine wp_block (loop_hand (ι := { i : Nat // i ≤ ls.length }) (fun i a w' => ∃ z1 F1, MarkI E w R F 19 (ls.map encG) cv Rs ⟨[(0, .own 9 0 ls.length), (1, .i (.int .i64 (k + 6 * gsum (ls.take i.1)))), (5, .i (.int .i64 i.1))], [(9, ⟨1, rows1 ls.length cv⟩)]⟩ (i.1, 0) a w' z1 F1)
    (fun i => ls.length - i.1) ⟨0, Nat.zero_le _⟩ ⟨z1, F1, by simpa [gsum] using hM0⟩ ?_)
  rintro ⟨i, hi⟩ a w2 ⟨z1, F1, hI⟩
  by_cases hlt : i < ls.length
  · -- a round
    have hst := gsum_step hlt
    have hle := gsum_le ls (i + 1)
    generalize hK : k + 6 * (gsum (ls.take i) : Int) = K at *
    have hK0 : 0 ≤ K := by omega
    have hK1 : K + 6 * ls[i].length ≤ 1099511627776 := by omega
    have hg := rows1_get (cv := cv) hlt
    have hrl : (rows1 ls.length cv).length = ls.length := by simp [rows1]
    refine segN hE 0 ⟨[(0, .own 9 0 ls.length), (1, .i (.int .i64 K)), (5, .i (.int .i64 i))], [(9, ⟨1, rows1 ls.length cv⟩)]⟩ hI.ctx hI.fits (by kernel_rfl) (by kernel_rfl) ?_ fun a w3 hf => ?_
    · simp (maxSteps := 1000000) (disch := first | (exact DrawOk.mk (by decide +kernel)) | omega | simp) [wrap_i64, le_most, lt_omega, le_omega, ne_omega, allLen, cutC, hlt]
      exact ⟨by simp (maxSteps := 1000000) (disch := first | (exact DrawOk.mk (by decide +kernel)) | omega | simp) [wrap_i64, le_most, lt_omega, le_omega, ne_omega, allLen], by simp (maxSteps := 1000000) (disch := first | (exact DrawOk.mk (by decide +kernel)) | omega | simp) [wrap_i64, le_most, lt_omega, le_omega, ne_omega, allLen], by simp (maxSteps := 1000000) (disch := first | (exact DrawOk.mk (by decide +kernel)) | omega | simp) [wrap_i64, le_most, lt_omega, le_omega, ne_omega, allLen]⟩
    simp only [restN]
    refine wp_seq (wp_block (region_hand hE 5 (S1 := ⟨[(0, .own 9 0 ls.length), (1, .i (.int .i64 K)), (5, .i (.int .i64 i)), (15, .i (.raw (cv i 0))), (16, .i (.int .i64 K))], [(9, ⟨1, rows1 ls.length cv⟩)]⟩) hI.ctx hf (by kernel_rfl) rfl rfl ?_ fun a w4 hf => ?_))
    · obtain ⟨hg1, hg2⟩ := List.getElem?_eq_some_iff.1 hg
      simp (maxSteps := 1000000) (disch := first | (exact DrawOk.mk (by decide +kernel)) | omega | simp) [wrap_i64, le_most, lt_omega, le_omega, ne_omega, allLen, hlt, hg2, hrl]
      exact ⟨by simp (maxSteps := 1000000) (disch := first | (exact DrawOk.mk (by decide +kernel)) | omega | simp) [wrap_i64, le_most, lt_omega, le_omega, ne_omega, allLen], by simp (maxSteps := 1000000) (disch := first | (exact DrawOk.mk (by decide +kernel)) | omega | simp) [wrap_i64, le_most, lt_omega, le_omega, ne_omega, allLen], by simp (maxSteps := 1000000) (disch := first | (exact DrawOk.mk (by decide +kernel)) | omega | simp) [wrap_i64, le_most, lt_omega, le_omega, ne_omega, allLen]⟩
    refine Oper.wp_mono ?_ ((hI.state hf (p' := (i, 0)) (by simp)).call hd (el := encG ls[i]) (x := .sl (encPs ls[i])) (by simp [hlt]) rfl (d := 17) rfl (by decide) rfl (by simp) (by simp) (PWPts ls[i] K hK0 hK1) _)
    rintro a' w' ⟨z2, F2, hI2⟩
    refine ⟨z2, F2, _, ⟨[(0, .own 9 0 ls.length), (1, .i (.int .i64 (K + 6 * ls[i].length))), (5, .i (.int .i64 i))], [(9, ⟨1, rows1 ls.length cv⟩)]⟩, hI2.ctx, hI2.fits, ?_, fun a w5 hf => ?_⟩
    · simp (maxSteps := 1000000) (disch := first | (exact DrawOk.mk (by decide +kernel)) | omega | simp) [wrap_i64, le_most, lt_omega, le_omega, ne_omega, allLen]
      exact ⟨by simp (maxSteps := 1000000) (disch := first | (exact DrawOk.mk (by decide +kernel)) | omega | simp) [wrap_i64, le_most, lt_omega, le_omega, ne_omega, allLen], by simp (maxSteps := 1000000) (disch := first | (exact DrawOk.mk (by decide +kernel)) | omega | simp) [wrap_i64, le_most, lt_omega, le_omega, ne_omega, allLen], by simp (maxSteps := 1000000) (disch := first | (exact DrawOk.mk (by decide +kernel)) | omega | simp) [wrap_i64, le_most, lt_omega, le_omega, ne_omega, allLen]⟩
    show Code.wp _ _ _ _ _
    refine pieceN hE (normQ ⟨[(0, .own 9 0 ls.length), (1, .i (.int .i64 (K + 6 * ls[i].length))), (5, .i (.int .i64 ((i : Int) + 1)))], [(9, ⟨1, rows1 ls.length cv⟩)]⟩) hI2.ctx hf (by kernel_rfl) ?_ fun e s a' w' hq hf' => ?_
    · simp (maxSteps := 1000000) (disch := first | (exact DrawOk.mk (by decide +kernel)) | omega | simp) [wrap_i64, le_most, lt_omega, le_omega, ne_omega, allLen]
      exact ⟨by simp (maxSteps := 1000000) (disch := first | (exact DrawOk.mk (by decide +kernel)) | omega | simp) [wrap_i64, le_most, lt_omega, le_omega, ne_omega, allLen], by simp (maxSteps := 1000000) (disch := first | (exact DrawOk.mk (by decide +kernel)) | omega | simp) [wrap_i64, le_most, lt_omega, le_omega, ne_omega, allLen], by simp (maxSteps := 1000000) (disch := first | (exact DrawOk.mk (by decide +kernel)) | omega | simp) [wrap_i64, le_most, lt_omega, le_omega, ne_omega, allLen]⟩
    cases e with
    | normal =>
      have hff := hf'.le hq
      have eK : K + 6 * (ls[i].length : Int) = k + 6 * (gsum (ls.take (i + 1)) : Nat) := by omega
      rw [eK] at hff
      exact ⟨⟨i + 1, by omega⟩, by show ls.length - (i + 1) < ls.length - i; omega, z2, F2, hI2.state hff (by simp)⟩
    | _ => exact hq.elim
  · -- the end
    obtain rfl : i = ls.length := by omega
    refine pieceN hE (fun e s => e = .exit 0 ∧ Le s ⟨[(1, .i (.int .i64 (k + 6 * gsum ls)))], []⟩) hI.ctx hI.fits (by kernel_rfl) ?_ fun e s a' w' hq hf' => ?_
    · simp (maxSteps := 1000000) (disch := first | (exact DrawOk.mk (by decide +kernel)) | omega | simp) [wrap_i64, le_most, lt_omega, le_omega, ne_omega, allLen]
      exact ⟨by simp (maxSteps := 1000000) (disch := first | (exact DrawOk.mk (by decide +kernel)) | omega | simp) [wrap_i64, le_most, lt_omega, le_omega, ne_omega, allLen], by simp (maxSteps := 1000000) (disch := first | (exact DrawOk.mk (by decide +kernel)) | omega | simp) [wrap_i64, le_most, lt_omega, le_omega, ne_omega, allLen], by simp (maxSteps := 1000000) (disch := first | (exact DrawOk.mk (by decide +kernel)) | omega | simp) [wrap_i64, le_most, lt_omega, le_omega, ne_omega, allLen]⟩
    obtain ⟨rfl, hle⟩ := hq
    have hff := hf'.le hle
    show Code.wp _ _ _ _ _
    refine end_hand hE ⟨[(4, .i (.int .i64 (k + 6 * gsum ls)))], []⟩ rfl (u := .i (.int .i64 (k + 6 * gsum ls))) (by simp) hI.ctx hff (by kernel_rfl) ?_ fun a5 w5 F5 ρ v hfit hv => ?_
    · simp (maxSteps := 1000000) (disch := first | (exact DrawOk.mk (by decide +kernel)) | omega | simp) [wrap_i64, le_most, lt_omega, le_omega, ne_omega, allLen]
      exact ⟨by simp (maxSteps := 1000000) (disch := first | (exact DrawOk.mk (by decide +kernel)) | omega | simp) [wrap_i64, le_most, lt_omega, le_omega, ne_omega, allLen], by simp (maxSteps := 1000000) (disch := first | (exact DrawOk.mk (by decide +kernel)) | omega | simp) [wrap_i64, le_most, lt_omega, le_omega, ne_omega, allLen], by simp (maxSteps := 1000000) (disch := first | (exact DrawOk.mk (by decide +kernel)) | omega | simp) [wrap_i64, le_most, lt_omega, le_omega, ne_omega, allLen]⟩
    obtain rfl := hv.int_inv
    obtain ⟨F6, ρ6, hf6⟩ := hI.back.fits ⟨F5, ρ, hfit⟩
    exact ⟨rfl, hf6.below⟩
end Go.Vai
