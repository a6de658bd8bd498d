/- Merged texts of this claim: Zy7, Zy8. -/
import Derived.Test.YtgojpkfmdhohhaaGreatDoorYb40
/- The reference's list of triples. -/
set_option linter.unusedVariables false
set_option linter.unusedSimpArgs false
set_option maxHeartbeats 8000000
namespace Go.Vai
open Iq
def trS (l : List Tr3) : AV := if l = [] then .esl else .own 76 0 l.length
def trH (l : List Tr3) : List (Nat × Obj) := if l = [] then [] else [(76, ⟨3, l.map encT⟩)]
theorem c28 (ls : List (List Pt)) (h : ∀ l ∈ ls, polI l = true) (hn : ls.length ≤ 24) : PC E 28 [.i (.sl (ls.map encG)), .i (.sl ((allP ls ls.length).map encPr))] [.own 3 ((triL ls).map encT)] := by
  have hV : ∀ x ∈ allP ls ls.length, x.1 < ls.length ∧ x.1 < x.2 ∧ x.2 < ls.length := fun x hx => by
    obtain ⟨h1, h2, h3, -⟩ := (allP_mem ls x _).1 hx
    exact ⟨h1, h2, h3⟩
  have hVm : ∀ a b : Nat, a < b → b < ls.length → (decide (0 ≤ pairAt (allP ls ls.length) a b) = ovG ls a b) := fun a b h1 h2 => by
    rw [pairAt_mem]
    have := allP_mem ls (a, b) ls.length
    simp only at this
    cases ho : ovG ls a b
    · simp only [decide_eq_false_iff_not]; rw [this, ho]; simp
    · simp only [decide_eq_true_eq]; rw [this]; exact ⟨by omega, h1, h2, ho⟩
  have hVl := allP_576 hn
  unfold triL
  generalize allP ls ls.length = V at *
  refine PC_start hE Proofs.Tryz.func28 rfl rfl Proofs.Tryz.ntmps28 (by kernel_rfl) (by kernel_rfl) (by simp) ?_
  simp (maxSteps := 1000000) (disch := first | (exact DrawOk.mk (by decide +kernel)) | omega | simp) [wrap_i64, le_most, lt_omega, le_omega, ne_omega, allLen]
  refine XL.by hE (ι := { i : Nat // i ≤ V.length }) (fun i => ⟨[(0, .i (.sl (ls.map encG))), (1, .i (.sl (V.map encPr))), (5, trS (allT ls V i.1)), (6, .i (.int .i64 i.1))], trH (allT ls V i.1)⟩)
    (fun i => V.length - i.1) ⟨0, Nat.zero_le _⟩ ⟨by simp [trS, allT], by simp [trH, allT], by simp [trS, allT]⟩ (by kernel_rfl) ?_
  rintro ⟨i, hi⟩
  have hal := allT_len ls V i
  have hab : (allT ls V i).length ≤ 14000 := Nat.le_trans hal (by have := Nat.mul_le_mul (show i ≤ 576 by omega) hn; omega)
  by_cases hlt : i < V.length
  · obtain ⟨⟨a, b⟩, hab⟩ : ∃ p, V[i] = p := ⟨_, rfl⟩
    obtain ⟨ha, hab', hb⟩ := hV _ (List.getElem_mem hlt)
    rw [hab] at ha hab' hb
    simp only at ha hab' hb
    have hgp : (V.map encPr)[i]? = some [.int .i64 a, .int .i64 b] := by simp [hlt, hab, encPr]
    have hgd : V.getD i (0, 0) = (a, b) := by simp [hlt, hab]
    have ea : ls.getD a [] = ls[a] := by simp [ha]
    have eb : ls.getD b [] = ls[b] := by simp [hb]
    have rz := accT_zero ls V i a b
    have pa := getD_pol h ha
    have pb := getD_pol h hb
    have hPL : PolL [ls.getD b []] := fun g hg => by obtain rfl := List.mem_singleton.1 hg; exact pb
    obtain ⟨hc1, hc2⟩ := scK_ok pa hPL 1 (by simp)
    obtain ⟨q1, -, n16a, -⟩ := polI_poly pa
    obtain ⟨q2, -, n16b, -⟩ := polI_poly pb
    have hcp := Cp.of_pol pa
    have hcm := c42 (ls.getD a []) (ls.getD b []) (spc_of hcp.fine hcp.pb q2) (by decide) (by decide) (by decide) (len_big (k := 0) (by omega) (by decide) n16b) (by omega)
    have eW : scK (ls.getD a []) [ls.getD b []] 1 = spcN (ls.getD a []) (ls.getD b []) (ls.getD b []).length := rfl
    rw [eW] at hc1 hc2
    have hT : ∀ c, decide (0 < (spcN (spcN (ls.getD a []) (ls.getD b []) (ls.getD b []).length) (ls.getD c []) (ls.getD c []).length).length) = trG ls a b c := fun c => by
      have := (sc_hc (ls.getD a []) [ls.getD b [], ls.getD c []] 2).1
      change (spcN (spcN (ls.getD a []) (ls.getD b []) (ls.getD b []).length) (ls.getD c []) (ls.getD c []).length).length = (commonR (commonR (ls.getD a []) (ls.getD b [])) (ls.getD c [])).length at this
      rw [this]; rfl
    generalize hW : spcN (ls.getD a []) (ls.getD b []) (ls.getD b []).length = W at *
    rw [ea, eb] at hcm
    rw [ea] at n16a
    rw [eb] at n16b
    rcases Classical.em (allT ls V i = []) with h0 | h0 <;> simp (maxSteps := 1000000) (disch := first | (exact DrawOk.mk (by decide +kernel)) | omega | simp) [wrap_i64, le_most, lt_omega, le_omega, ne_omega, allLen, hlt, hgp, ha, hb, encG, trS, trH, h0]
    all_goals
      refine CallK.of ((c43 ls[a] (by omega)).imm) (by first | exact .inl rfl | exact .inr (by simp)) (by simp) ?_
      simp (maxSteps := 1000000) (disch := first | (exact DrawOk.mk (by decide +kernel)) | omega | simp) [wrap_i64, le_most, lt_omega, le_omega, ne_omega, allLen, ha, hb, encG]
      refine CallK.of ((c43 ls[b] (by omega)).imm) (by first | exact .inl rfl | exact .inr (by simp)) (by simp) ?_
      simp (maxSteps := 1000000) (disch := first | (exact DrawOk.mk (by decide +kernel)) | omega | simp) [wrap_i64, le_most, lt_omega, le_omega, ne_omega, allLen]
      refine CallK.of (hcm) (by first | exact .inl rfl | exact .inr (by simp)) (by simp) ?_
      simp (maxSteps := 1000000) (disch := first | (exact DrawOk.mk (by decide +kernel)) | omega | simp) [wrap_i64, le_most, lt_omega, le_omega, ne_omega, allLen]
      refine XL.by hE (ι := { c : Nat // b + 1 ≤ c ∧ c ≤ ls.length }) (fun c => ⟨[(0, .i (.sl (ls.map encG))), (1, .i (.sl (V.map encPr))), (5, trS (accT ls V i a b c.1)), (6, .i (.int .i64 i)), (7, .i (.int .i64 a)), (8, .i (.int .i64 b)), (9, .i (.sl (encPs W))), (10, .i (.int .i64 c.1))], trH (accT ls V i a b c.1)⟩)
        (fun c => ls.length - c.1) ⟨b + 1, Nat.le_refl _, by omega⟩ ⟨by simp [trS, h0, rz], by simp [trH, h0, rz], by simp [trS, trH, h0, rz]⟩ (by kernel_rfl) ?_
      rintro ⟨c, hcb, hcl⟩
      have hRl := accT_len ls V (i := i) (a := a) (b := b) (c := c) hlt hVl hcl hn
      by_cases hlc : c < ls.length
      · have hst := rowT_step ls V i (a := a) (b := b) (c := c) (by omega)
        have ec : ls.getD c [] = ls[c] := by simp [hlc]
        have pc := getD_pol h hlc
        obtain ⟨q3, -, n16c, -⟩ := polI_poly pc
        have hco := c42 W (ls.getD c []) (spc_of hc1.fine hc1.pb q3) (by decide) (by decide) (by decide) (len_big (k := 1) hc2 (by decide) n16c) (by omega)
        have hTc := hT c
        have m1 := hVm a c (by omega) hlc
        have m2 := hVm b c (by omega) hlc
        have h3 := three_pairs h ha hb hlc
        rw [ec] at hco hTc n16c
        generalize spcN W ls[c] ls[c].length = X at *
        have tk : List.take (accT ls V i a b c).length (List.map encT (accT ls V i a b c)) = List.map encT (accT ls V i a b c) := List.take_of_length_le (by simp)
        have big1 : ((accT ls V i a b c).length : Int) + 1 ≤ 140737488355328 := by omega
        have big2 : (((accT ls V i a b c).length : Int) + 1) * 24 ≤ 140737488355328 := by omega
        have hno : ∀ {x : Bool}, ovG ls a c = false ∨ ovG ls b c = false → trG ls a b c = false := fun hx => by
          cases ht : trG ls a b c
          · rfl
          · obtain ⟨u, v⟩ := h3 ht
            rcases hx with hx | hx
            · rw [u] at hx; simp at hx
            · rw [v] at hx; simp at hx
        have skip : trG ls a b c = false → accT ls V i a b (c + 1) = accT ls V i a b c := fun ht => by rw [hst, ht]; simp
        have take : trG ls a b c = true → accT ls V i a b (c + 1) = accT ls V i a b c ++ [(a, b, c)] := fun ht => by rw [hst, ht]; simp
        rcases Classical.em (accT ls V i a b c = []) with hR | hR
        all_goals
          simp (maxSteps := 1000000) (disch := first | (exact DrawOk.mk (by decide +kernel)) | omega | simp) [wrap_i64, le_most, lt_omega, le_omega, ne_omega, allLen, hlc, trS, trH, hR]
          refine CallK.of (c44 V (a : Int) (c : Int) (by omega)) (by first | exact .inl rfl | exact .inr (by simp)) (by simp) ?_
          simp (maxSteps := 1000000) (disch := first | (exact DrawOk.mk (by decide +kernel)) | omega | simp) [wrap_i64, le_most, lt_omega, le_omega, ne_omega, allLen]
          (first | refine Gd.dec (fun g1 => ?_) (fun g1 => ?_) | refine Gd.intro (fun g1 => ?_) (fun g1 => ?_)) <;> simp (maxSteps := 1000000) (disch := first | (exact DrawOk.mk (by decide +kernel)) | omega | simp) [wrap_i64, le_most, lt_omega, le_omega, ne_omega, allLen, g1]
          · refine CallK.of (c44 V (b : Int) (c : Int) (by omega)) (by first | exact .inl rfl | exact .inr (by simp)) (by simp) ?_
            simp (maxSteps := 1000000) (disch := first | (exact DrawOk.mk (by decide +kernel)) | omega | simp) [wrap_i64, le_most, lt_omega, le_omega, ne_omega, allLen]
            (first | refine Gd.dec (fun g2 => ?_) (fun g2 => ?_) | refine Gd.intro (fun g2 => ?_) (fun g2 => ?_)) <;> simp (maxSteps := 1000000) (disch := first | (exact DrawOk.mk (by decide +kernel)) | omega | simp) [wrap_i64, le_most, lt_omega, le_omega, ne_omega, allLen, g2]
            · simp (maxSteps := 1000000) (disch := first | (exact DrawOk.mk (by decide +kernel)) | omega | simp) [wrap_i64, le_most, lt_omega, le_omega, ne_omega, allLen, hlc, encG]
              refine CallK.of ((c43 ls[c] (by omega)).imm) (by first | exact .inl rfl | exact .inr (by simp)) (by simp) ?_
              simp (maxSteps := 1000000) (disch := first | (exact DrawOk.mk (by decide +kernel)) | omega | simp) [wrap_i64, le_most, lt_omega, le_omega, ne_omega, allLen]
              refine CallK.of (hco) (by first | exact .inl rfl | exact .inr (by simp)) (by simp) ?_
              simp (maxSteps := 1000000) (disch := first | (exact DrawOk.mk (by decide +kernel)) | omega | simp) [wrap_i64, le_most, lt_omega, le_omega, ne_omega, allLen]
              (first | refine Gd.dec (fun g3 => ?_) (fun g3 => ?_) | refine Gd.intro (fun g3 => ?_) (fun g3 => ?_)) <;> simp (maxSteps := 1000000) (disch := first | (exact DrawOk.mk (by decide +kernel)) | omega | simp) [wrap_i64, le_most, lt_omega, le_omega, ne_omega, allLen, g3]
              · have st := take (by rw [← hTc]; simpa using g3)
                first
                  | (rw [hR, List.nil_append] at st
                     try (simp (maxSteps := 1000000) (disch := first | (exact DrawOk.mk (by decide +kernel)) | omega | simp) [wrap_i64, le_most, lt_omega, le_omega, ne_omega, allLen, most])
                     (refine ⟨⟨c + 1, by omega, by omega⟩, by (simp; try omega), ?_⟩; constructor <;> (simp (maxSteps := 1000000) (disch := first | (exact DrawOk.mk (by decide +kernel)) | omega | simp) [wrap_i64, le_most, lt_omega, le_omega, ne_omega, allLen, st, trS, trH, encT]) <;> (try omega)))
                  | (try (simp (maxSteps := 1000000) (disch := first | (exact DrawOk.mk (by decide +kernel)) | omega | simp) [wrap_i64, le_most, lt_omega, le_omega, ne_omega, allLen, most, big1, big2])
                     (refine ⟨⟨c + 1, by omega, by omega⟩, by (simp; try omega), ?_⟩; constructor <;> (simp (maxSteps := 1000000) (disch := first | (exact DrawOk.mk (by decide +kernel)) | omega | simp) [wrap_i64, le_most, lt_omega, le_omega, ne_omega, allLen, st, trS, trH, encT, tk]) <;> (try omega)))
              · have st := skip (by rw [← hTc]; simpa using g3)
                (refine ⟨⟨c + 1, by omega, by omega⟩, by (simp; try omega), ?_⟩; constructor <;> (simp (maxSteps := 1000000) (disch := first | (exact DrawOk.mk (by decide +kernel)) | omega | simp) [wrap_i64, le_most, lt_omega, le_omega, ne_omega, allLen, st, trS, trH, hR]) <;> (try omega))
            · have st := skip (hno (x := true) (.inr (by rw [← m2]; simpa using g2)))
              (refine ⟨⟨c + 1, by omega, by omega⟩, by (simp; try omega), ?_⟩; constructor <;> (simp (maxSteps := 1000000) (disch := first | (exact DrawOk.mk (by decide +kernel)) | omega | simp) [wrap_i64, le_most, lt_omega, le_omega, ne_omega, allLen, st, trS, trH, hR]) <;> (try omega))
          · have st := skip (hno (x := true) (.inl (by rw [← m1]; simpa using g1)))
            (refine ⟨⟨c + 1, by omega, by omega⟩, by (simp; try omega), ?_⟩; constructor <;> (simp (maxSteps := 1000000) (disch := first | (exact DrawOk.mk (by decide +kernel)) | omega | simp) [wrap_i64, le_most, lt_omega, le_omega, ne_omega, allLen, st, trS, trH, hR]) <;> (try omega))
      · obtain rfl : c = ls.length := by omega
        have hst := accT_all ls V hgd
        rcases Classical.em (accT ls V i a b ls.length = []) with hR | hR
        · simp (maxSteps := 1000000) (disch := first | (exact DrawOk.mk (by decide +kernel)) | omega | simp) [wrap_i64, le_most, lt_omega, le_omega, ne_omega, allLen, trS, trH, hR]
          (refine ⟨⟨i + 1, by omega⟩, by (simp; try omega), ?_⟩; constructor <;> (simp (maxSteps := 1000000) (disch := first | (exact DrawOk.mk (by decide +kernel)) | omega | simp) [wrap_i64, le_most, lt_omega, le_omega, ne_omega, allLen, ← hst, trS, trH, hR]) <;> (try omega))
        · simp (maxSteps := 1000000) (disch := first | (exact DrawOk.mk (by decide +kernel)) | omega | simp) [wrap_i64, le_most, lt_omega, le_omega, ne_omega, allLen, trS, trH, hR]
          (refine ⟨⟨i + 1, by omega⟩, by (simp; try omega), ?_⟩; constructor <;> (simp (maxSteps := 1000000) (disch := first | (exact DrawOk.mk (by decide +kernel)) | omega | simp) [wrap_i64, le_most, lt_omega, le_omega, ne_omega, allLen, ← hst, trS, trH, hR]) <;> (try omega))
  · obtain rfl : i = V.length := by omega
    by_cases h0 : allT ls V V.length = []
    · simp (maxSteps := 1000000) (disch := first | (exact DrawOk.mk (by decide +kernel)) | omega | simp) [wrap_i64, le_most, lt_omega, le_omega, ne_omega, allLen, trS, trH, h0]
    · have tk : List.take (allT ls V V.length).length (List.map encT (allT ls V V.length)) = List.map encT (allT ls V V.length) := List.take_of_length_le (by simp)
      simp (maxSteps := 1000000) (disch := first | (exact DrawOk.mk (by decide +kernel)) | omega | simp) [wrap_i64, le_most, lt_omega, le_omega, ne_omega, allLen, trS, trH, h0, tk]
end Go.Vai
/- The law of OverlapTriples. -/
set_option linter.unusedVariables false
set_option linter.unusedSimpArgs false
set_option maxHeartbeats 4000000
set_option maxRecDepth 20000
namespace Go.Vai
open Go.RowKit (Below)
theorem flatT3 (V : List Tr3) : flatO ⟨3, V.map encT⟩ := fun el hel => by
  obtain ⟨a, -, rfl⟩ := List.mem_map.1 hel
  intro x hx
  simp [encT] at hx
  rcases hx with rfl | rfl | rfl <;> rfl
@[simp ↓] theorem flatT3A (V : List Tr3) : (∀ el ∈ V.map encT, flatC el) ↔ True := ⟨fun _ => trivial, fun _ => flatT3 V⟩
theorem encT3 (V : List Tr3) : ∀ el ∈ V.map encT, el.length = 3 := fun el hel => by
  obtain ⟨a, -, rfl⟩ := List.mem_map.1 hel; rfl
/-- The triples of places. -/
def trisV (ls : List (List Pt)) : List Tr3 := if plcB ls = true then triL ls else []
def codeT (ls : List (List Pt)) : Int := if plcB ls = true then 0 else 1
theorem c15 (ls : List (List Pt)) (h : (ls.length : Int) ≤ 1048576) (hr : (gsum ls : Int) ≤ 1048576) : PC E 15 [.i (.sl (ls.map encG))] [.own 3 ((trisV ls).map encT), .i (.int .i64 (codeT ls))] := by
  refine PC_start hE Proofs.Tryz.func15 rfl rfl Proofs.Tryz.ntmps15 (by kernel_rfl) (by kernel_rfl) (by simp) ?_
  simp (maxSteps := 1000000) (disch := first | (exact DrawOk.mk (by decide +kernel)) | omega | simp) [wrap_i64, le_most, lt_omega, le_omega, ne_omega, allLen]
  refine CallK.of (c23 ls h hr) (by first | exact .inl rfl | exact .inr (by simp)) (by simp) ?_
  unfold trisV codeT
  cases hq : plcB ls
  · simp (maxSteps := 1000000) (disch := first | (exact DrawOk.mk (by decide +kernel)) | omega | simp) [wrap_i64, le_most, lt_omega, le_omega, ne_omega, allLen]
  · obtain ⟨h1, h2⟩ := plcB_spec hq
    simp (maxSteps := 1000000) (disch := first | (exact DrawOk.mk (by decide +kernel)) | omega | simp) [wrap_i64, le_most, lt_omega, le_omega, ne_omega, allLen]
    refine CallK.of (c29 ls h1 h2) (by first | exact .inl rfl | exact .inr (by simp)) (by simp) ?_
    simp (maxSteps := 1000000) (disch := first | (exact DrawOk.mk (by decide +kernel)) | omega | simp) [wrap_i64, le_most, lt_omega, le_omega, ne_omega, allLen]
theorem c14 (ls : List (List Pt)) (h : (ls.length : Int) ≤ 1048576) (hr : (gsum ls : Int) ≤ 1048576) : PC E 14 [.i (.sl (ls.map encG))] [.own 3 ((trisV ls).map encT), .i (.int .i64 (codeT ls))] := by
  refine PC_start hE Proofs.Tryz.func14 rfl rfl Proofs.Tryz.ntmps14 (by kernel_rfl) (by kernel_rfl) (by simp) ?_
  simp (maxSteps := 1000000) (disch := first | (exact DrawOk.mk (by decide +kernel)) | omega | simp) [wrap_i64, le_most, lt_omega, le_omega, ne_omega, allLen]
  refine CallK.of (c20 ls h hr) (by first | exact .inl rfl | exact .inr (by simp)) (by simp) ?_
  unfold trisV codeT
  cases hq : plcB ls
  · simp (maxSteps := 1000000) (disch := first | (exact DrawOk.mk (by decide +kernel)) | omega | simp) [wrap_i64, le_most, lt_omega, le_omega, ne_omega, allLen]
  · obtain ⟨h1, h2⟩ := plcB_spec hq
    simp (maxSteps := 1000000) (disch := first | (exact DrawOk.mk (by decide +kernel)) | omega | simp) [wrap_i64, le_most, lt_omega, le_omega, ne_omega, allLen]
    refine CallK.of (o21 ls h1 h2) (by first | exact .inl rfl | exact .inr (by simp)) (by simp) ?_
    simp (maxSteps := 1000000) (disch := first | (exact DrawOk.mk (by decide +kernel)) | omega | simp) [wrap_i64, le_most, lt_omega, le_omega, ne_omega, allLen]
    refine CallK.of (c28 ls h1 h2) (by first | exact .inl rfl | exact .inr (by simp)) (by simp) ?_
    simp (maxSteps := 1000000) (disch := first | (exact DrawOk.mk (by decide +kernel)) | omega | simp) [wrap_i64, le_most, lt_omega, le_omega, ne_omega, allLen]
theorem trisV_len (ls : List (List Pt)) : (trisV ls).length ≤ 14000 := by
  unfold trisV
  split
  · rename_i h
    obtain ⟨-, h2⟩ := plcB_spec h
    have h3 := allP_576 h2
    have := allT_len ls (allP ls ls.length) (allP ls ls.length).length
    have h4 := Nat.mul_le_mul h3 h2
    unfold triL; omega
  · simp
theorem flat_m3 (k : Int) (n : Nat) : ∀ a, a < n → flatC (m3 k a) := fun a _ x hx => by
  simp [m3, r3] at hx
  rcases hx with rfl | rfl | rfl <;> rfl
theorem c4 (ls : List (List Pt)) (h : ls.length ≤ maxLen) (hf : ∀ x ∈ ls, Gfine x) : PC E 4 [.i (.sl (ls.map encG))] [.i (.bool true)] := by
  refine law_start hE Proofs.Tryz.func4 rfl rfl Proofs.Tryz.ntmps4 (by kernel_rfl) (by simp) fun F w a hx hf0 => ?_
  by_cases hbig : (ls.length : Int) + gsum ls ≤ 1048576
  rotate_left
  · refine segEnd hE hx (Back.refl _ _) hf0 (by kernel_rfl) ?_
    simp (maxSteps := 1000000) (disch := first | (exact DrawOk.mk (by decide +kernel)) | omega | simp) [wrap_i64, le_most, lt_omega, le_omega, ne_omega, allLen]
    refine CallK.of (c5 ls 1048576 (by omega) (by omega) h hf) (by first | exact .inl rfl | exact .inr (by simp)) (by simp) ?_
    simp (maxSteps := 1000000) (disch := first | (exact DrawOk.mk (by decide +kernel)) | omega | simp) [wrap_i64, le_most, lt_omega, le_omega, ne_omega, allLen]
  have g1 : (ls.length : Int) ≤ 1048576 := by omega
  have g2 : (gsum ls : Int) ≤ 1048576 := by omega
  have hvl := trisV_len ls
  generalize hV : trisV ls = V at *
  generalize hC : codeT ls = C at *
  refine seg hE 4 ⟨[(0, .i (.sl (ls.map encG))), (4, .own 22 0 V.length), (5, .i (.int .i64 C))], [(22, ⟨3, V.map encT⟩)]⟩ hx (Back.refl _ _) hf0 (by kernel_rfl) (by kernel_rfl) ?_ fun a w1 hf1 => ?_
  · simp (maxSteps := 1000000) (disch := first | (exact DrawOk.mk (by decide +kernel)) | omega | simp) [wrap_i64, le_most, lt_omega, le_omega, ne_omega, allLen, cutC]
    refine CallK.of (c5 ls 1048576 (by omega) (by omega) h hf) (by first | exact .inl rfl | exact .inr (by simp)) (by simp) ?_
    have e : ¬ ((1048576 : Int) - ls.length - gsum ls < 0) := by omega
    simp (maxSteps := 1000000) (disch := first | (exact DrawOk.mk (by decide +kernel)) | omega | simp) [wrap_i64, le_most, lt_omega, le_omega, ne_omega, allLen, e]
    refine CallK.of (c7 ls g1 g2) (by first | exact .inl rfl | exact .inr (by simp)) (by simp) ?_
    simp (maxSteps := 1000000) (disch := first | (exact DrawOk.mk (by decide +kernel)) | omega | simp) [wrap_i64, le_most, lt_omega, le_omega, ne_omega, allLen]
    refine CallK.of (c14 ls g1 g2) (by first | exact .inl rfl | exact .inr (by simp)) (by simp) ?_
    rw [hV, hC]
    simp (maxSteps := 1000000) (disch := first | (exact DrawOk.mk (by decide +kernel)) | omega | simp) [wrap_i64, le_most, lt_omega, le_omega, ne_omega, allLen]
    exact ⟨by simp (maxSteps := 1000000) (disch := first | (exact DrawOk.mk (by decide +kernel)) | omega | simp) [wrap_i64, le_most, lt_omega, le_omega, ne_omega, allLen], by simp (maxSteps := 1000000) (disch := first | (exact DrawOk.mk (by decide +kernel)) | omega | simp) [wrap_i64, le_most, lt_omega, le_omega, ne_omega, allLen], by simp (maxSteps := 1000000) (disch := first | (exact DrawOk.mk (by decide +kernel)) | omega | simp) [wrap_i64, le_most, lt_omega, le_omega, ne_omega, allLen]⟩
  simp only [restN]
  refine wp_seq (region_hand hE 1 (S1 := ⟨[(25, .i (.sl (ls.map encG))), (0, .i (.sl (ls.map encG))), (4, .own 22 0 V.length), (5, .i (.int .i64 C))], [(22, ⟨3, V.map encT⟩)]⟩) hx hf1 (by kernel_rfl) rfl rfl ?_ fun a w2 hf2 => ?_)
  · simp (maxSteps := 1000000) (disch := first | (exact DrawOk.mk (by decide +kernel)) | omega | simp) [wrap_i64, le_most, lt_omega, le_omega, ne_omega, allLen]
    exact ⟨by simp (maxSteps := 1000000) (disch := first | (exact DrawOk.mk (by decide +kernel)) | omega | simp) [wrap_i64, le_most, lt_omega, le_omega, ne_omega, allLen], by simp (maxSteps := 1000000) (disch := first | (exact DrawOk.mk (by decide +kernel)) | omega | simp) [wrap_i64, le_most, lt_omega, le_omega, ne_omega, allLen], by simp (maxSteps := 1000000) (disch := first | (exact DrawOk.mk (by decide +kernel)) | omega | simp) [wrap_i64, le_most, lt_omega, le_omega, ne_omega, allLen]⟩
  refine Oper.wp_mono ?_ (deepCall_wp hx hf2 (d := 26) rfl (by decide) (vs := [.i (.sl (ls.map encG))]) (by simp) (by simp) rfl (PDPtss ls g1 g2) [(0, .i (.sl (ls.map encG)))] (by simp [fixB]) _)
  rintro a' w' ⟨z1, F1, R1, v1, us, hz1, hx1, hb1, h01, hFR1, hG1, hm1, ht1, hps, hf3⟩
  have hp0 := hps (0, .i (.sl (ls.map encG))) (by simp)
  simp only at hp0
  subst hz1
  simp only [pinT, List.map_cons, List.map_nil, List.cons_append, List.nil_append] at hf3
  generalize us 0 = u0 at *
  clear hps hf2 hf1 hf0
  refine ⟨z1, _, _, ⟨[(0, .pin u0 (.i (.sl (ls.map encG)))), (6, .pin v1 (.i (.sl (ls.map encG)))), (4, .own 22 0 V.length), (5, .i (.int .i64 C))], [(22, ⟨3, V.map encT⟩)]⟩, hx1, hf3, ?_, fun a w3 hf4 => ?_⟩
  · simp (maxSteps := 1000000) (disch := first | (exact DrawOk.mk (by decide +kernel)) | omega | simp) [wrap_i64, le_most, lt_omega, le_omega, ne_omega, allLen]
    exact ⟨by simp (maxSteps := 1000000) (disch := first | (exact DrawOk.mk (by decide +kernel)) | omega | simp) [wrap_i64, le_most, lt_omega, le_omega, ne_omega, allLen], by simp (maxSteps := 1000000) (disch := first | (exact DrawOk.mk (by decide +kernel)) | omega | simp) [wrap_i64, le_most, lt_omega, le_omega, ne_omega, allLen], by simp (maxSteps := 1000000) (disch := first | (exact DrawOk.mk (by decide +kernel)) | omega | simp) [wrap_i64, le_most, lt_omega, le_omega, ne_omega, allLen]⟩
  show Code.wp _ _ _ _ _
  refine seg hE 3 ⟨[(0, .pin u0 (.i (.sl (ls.map encG)))), (6, .pin v1 (.i (.sl (ls.map encG)))), (4, .own 22 0 V.length), (5, .i (.int .i64 C)), (7, .own 29 0 V.length), (8, .i (.int .i64 C)), (9, .i (.int .i64 1))],
    [(22, ⟨3, V.map encT⟩), (29, ⟨3, V.map encT⟩)]⟩ hx1 hb1 hf4 (by kernel_rfl) (by kernel_rfl) ?_ fun a w5 hf5 => ?_
  · simp (maxSteps := 1000000) (disch := first | (exact DrawOk.mk (by decide +kernel)) | omega | simp) [wrap_i64, le_most, lt_omega, le_omega, ne_omega, allLen, cutC]
    refine CallK.of (c15 ls g1 g2) (by first | exact .inl rfl | exact .inr (by simp)) (by simp) ?_
    rw [hV, hC]
    simp (maxSteps := 1000000) (disch := first | (exact DrawOk.mk (by decide +kernel)) | omega | simp) [wrap_i64, le_most, lt_omega, le_omega, ne_omega, allLen]
    refine CallK.of (c16 V (by omega)) (by first | exact .inl rfl | exact .inr (by simp)) (by simp) ?_
    simp (maxSteps := 1000000) (disch := first | (exact DrawOk.mk (by decide +kernel)) | omega | simp) [wrap_i64, le_most, lt_omega, le_omega, ne_omega, allLen]
    refine CallK.of (c7 ls g1 g2) (by first | exact .inl rfl | exact .inr (by simp)) (by simp) ?_
    simp (maxSteps := 1000000) (disch := first | (exact DrawOk.mk (by decide +kernel)) | omega | simp) [wrap_i64, le_most, lt_omega, le_omega, ne_omega, allLen]
    refine CallK.of (c10 ls ls g1 g1 g2 g2) (by first | exact .inl rfl | exact .inr (by simp)) (by simp) ?_
    simp (maxSteps := 1000000) (disch := first | (exact DrawOk.mk (by decide +kernel)) | omega | simp) [wrap_i64, le_most, lt_omega, le_omega, ne_omega, allLen]
    exact ⟨by simp (maxSteps := 1000000) (disch := first | (exact DrawOk.mk (by decide +kernel)) | omega | simp) [wrap_i64, le_most, lt_omega, le_omega, ne_omega, allLen], by simp (maxSteps := 1000000) (disch := first | (exact DrawOk.mk (by decide +kernel)) | omega | simp) [wrap_i64, le_most, lt_omega, le_omega, ne_omega, allLen], by simp (maxSteps := 1000000) (disch := first | (exact DrawOk.mk (by decide +kernel)) | omega | simp) [wrap_i64, le_most, lt_omega, le_omega, ne_omega, allLen]⟩
  simp only [restN]
  refine wp_seq (region_hand hE 2 (S1 := ⟨[(46, .pin v1 (.i (.sl (ls.map encG)))), (47, .i (.int .i64 1)), (0, .pin u0 (.i (.sl (ls.map encG)))), (4, .own 22 0 V.length), (5, .i (.int .i64 C)), (7, .own 29 0 V.length), (8, .i (.int .i64 C))],
    [(22, ⟨3, V.map encT⟩), (29, ⟨3, V.map encT⟩)]⟩) hx1 hf5 (by kernel_rfl) rfl rfl ?_ fun a w6 hf6 => ?_)
  · simp (maxSteps := 1000000) (disch := first | (exact DrawOk.mk (by decide +kernel)) | omega | simp) [wrap_i64, le_most, lt_omega, le_omega, ne_omega, allLen]
    exact ⟨by simp (maxSteps := 1000000) (disch := first | (exact DrawOk.mk (by decide +kernel)) | omega | simp) [wrap_i64, le_most, lt_omega, le_omega, ne_omega, allLen], by simp (maxSteps := 1000000) (disch := first | (exact DrawOk.mk (by decide +kernel)) | omega | simp) [wrap_i64, le_most, lt_omega, le_omega, ne_omega, allLen], by simp (maxSteps := 1000000) (disch := first | (exact DrawOk.mk (by decide +kernel)) | omega | simp) [wrap_i64, le_most, lt_omega, le_omega, ne_omega, allLen]⟩
  refine Oper.wp_mono ?_ (meltCall_wp hx1 hb1 hf6 h01 hFR1 hG1 hm1 ht1 (d := 48) rfl (by decide) rfl (by simp [look_cons]) (by simp [look_cons]) (PWPtss ls 1 (by omega) (by omega) g1)
    [(0, .pin u0 (.i (.sl (ls.map encG)))), (4, .own 22 0 V.length), (5, .i (.int .i64 C)), (7, .own 29 0 V.length), (8, .i (.int .i64 C))]
    ⟨⟨by simp [look_cons], .inr (.inr ⟨_, _, rfl, rfl, hp0⟩)⟩, ⟨by simp [look_cons], .inr (.inl ⟨_, _, _, rfl⟩)⟩, ⟨by simp [look_cons], .inl ⟨_, rfl, rfl⟩⟩, ⟨by simp [look_cons], .inr (.inl ⟨_, _, _, rfl⟩)⟩, ⟨by simp [look_cons], .inl ⟨_, rfl, rfl⟩⟩, trivial⟩
    ⟨flatT3 _, flatT3 _, trivial⟩ _)
  rintro a' w' ⟨z2, hx2, hb2, hf7⟩
  refine ⟨z2, F1, _, ⟨[(0, .pin u0 (.i (.sl (ls.map encG)))), (9, .i (.int .i64 (1 + 6 * gsum ls))), (4, .own 22 0 V.length), (5, .i (.int .i64 C)), (7, .own 29 0 V.length), (8, .i (.int .i64 C))],
    [(22, ⟨3, V.map encT⟩), (29, ⟨3, V.map encT⟩)]⟩, hx2, hf7, ?_, fun a w8 hf8 => ?_⟩
  · simp (maxSteps := 1000000) (disch := first | (exact DrawOk.mk (by decide +kernel)) | omega | simp) [wrap_i64, le_most, lt_omega, le_omega, ne_omega, allLen]
    exact ⟨by simp (maxSteps := 1000000) (disch := first | (exact DrawOk.mk (by decide +kernel)) | omega | simp) [wrap_i64, le_most, lt_omega, le_omega, ne_omega, allLen], by simp (maxSteps := 1000000) (disch := first | (exact DrawOk.mk (by decide +kernel)) | omega | simp) [wrap_i64, le_most, lt_omega, le_omega, ne_omega, allLen], by simp (maxSteps := 1000000) (disch := first | (exact DrawOk.mk (by decide +kernel)) | omega | simp) [wrap_i64, le_most, lt_omega, le_omega, ne_omega, allLen]⟩
  show Code.wp _ _ _ _ _
  refine segEnd hE hx2 hb2 hf8 (by kernel_rfl) ?_
  have e1 : ¬ ((1 : Int) + 6 * gsum ls < 0) := by omega
  have e2 : ¬ ((1 : Int) + 3 * V.length < 0) := by omega
  have hml : (V.map encT).length = V.length := by simp
  have cm := c17 (V.map encT) (encT3 V) 1 (by omega) (by rw [hml]; omega)
  rw [hml] at cm
  have htm : ((List.range V.length).map (m3 1)).take V.length = (List.range V.length).map (m3 1) := by rw [List.take_of_length_le (by simp)]
  have hfm := flat_m3 1 V.length
  simp (maxSteps := 1000000) (disch := first | (exact DrawOk.mk (by decide +kernel)) | omega | simp) [wrap_i64, le_most, lt_omega, le_omega, ne_omega, allLen, e1]
  refine CallK.of (c16 V (by omega)) (by first | exact .inl rfl | exact .inr (by simp)) (by simp) ?_
  simp (maxSteps := 1000000) (disch := first | (exact DrawOk.mk (by decide +kernel)) | omega | simp) [wrap_i64, le_most, lt_omega, le_omega, ne_omega, allLen]
  refine MutK.of cm (by simp) (by simp) (by simp) (by simp) (by simp) ?_
  simp (maxSteps := 1000000) (disch := first | (exact DrawOk.mk (by decide +kernel)) | omega | simp) [wrap_i64, le_most, lt_omega, le_omega, ne_omega, allLen, htm]
  refine CallK.of (c18 V.length 1 (by omega) (by omega)) (by first | exact .inl rfl | exact .inr (by simp)) (by simp) ?_
  simp (maxSteps := 1000000) (disch := first | (exact DrawOk.mk (by decide +kernel)) | omega | simp) [wrap_i64, le_most, lt_omega, le_omega, ne_omega, allLen, e2]
  refine CallK.of (c7 ls g1 g2) (by first | exact .inl rfl | exact .inr (by simp)) (by simp) ?_
  simp (maxSteps := 1000000) (disch := first | (exact DrawOk.mk (by decide +kernel)) | omega | simp) [wrap_i64, le_most, lt_omega, le_omega, ne_omega, allLen]
  refine CallK.of (c15 ls g1 g2) (by first | exact .inl rfl | exact .inr (by simp)) (by simp) ?_
  rw [hV, hC]
  simp (maxSteps := 1000000) (disch := first | (exact DrawOk.mk (by decide +kernel)) | omega | simp) [wrap_i64, le_most, lt_omega, le_omega, ne_omega, allLen]
  refine CallK.of (c16 V (by omega)) (by first | exact .inl rfl | exact .inr (by simp)) (by simp) ?_
  simp (maxSteps := 1000000) (disch := first | (exact DrawOk.mk (by decide +kernel)) | omega | simp) [wrap_i64, le_most, lt_omega, le_omega, ne_omega, allLen, htm]
  refine CallK.of (c18 V.length 1 (by omega) (by omega)) (by first | exact .inl rfl | exact .inr (by simp)) (by simp) ?_
  simp (maxSteps := 1000000) (disch := first | (exact DrawOk.mk (by decide +kernel)) | omega | simp) [wrap_i64, le_most, lt_omega, le_omega, ne_omega, allLen, e2]
end Go.Vai
