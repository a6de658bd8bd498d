/- Texts of this claim: Zq25, Zq26. -/
import Derived.Test.YtcclapmdkobcgaaGreatDoorYb50
set_option linter.unusedVariables false
set_option linter.unusedSimpArgs false
set_option maxHeartbeats 8000000
set_option maxRecDepth 20000
namespace Go.Vai
open Pq
theorem eqlP (x y : Pt) : eqOp E .eql 42 (encP x) (encP y) = some (.i (.bool (decide (x = y)))) := by
  obtain ⟨⟨a, b, k⟩, ⟨c, d, l⟩⟩ := x
  obtain ⟨⟨a', b', k'⟩, ⟨c', d', l'⟩⟩ := y
  simp [encP, eqOp, eqA, eqFs, partA, and_assoc, Bool.and_assoc, Bool.or_assoc]
def pidx (l : List Pt) (q : Pt) : Int := fidx (fun x => decide (x = q)) l
theorem c55 (l : List Pt) (q : Pt) (h : (l.length : Int) ≤ 1048576) : PC E 55 [.i (.sl (encPs l)), .agg (encP q)] [.i (.int .i64 (pidx l q))] := by
  refine PC_start hE Proofs.Tryz.func55 rfl rfl Proofs.Tryz.ntmps55 (by kernel_rfl) (by kernel_rfl) (by simp) ?_
  simp (maxSteps:=999999) (disch:=first|exact {}|omega|simp) [Lw,Lm,Lt,Lo,Ln,allLen]
  refine XL.by hE (ι := { k : Nat // k ≤ l.length ∧ ∀ (j : Nat) (hj : j < l.length), j < k → (fun x => decide (x = q)) l[j] = false }) (fun k => ⟨[(0, .i (.sl (encPs l))), (3, .ptr 3 0 0), (7, .i (.int .i64 l.length)), (8, .i (.int .i64 k.1))], [(3, ⟨6, [encP q]⟩)]⟩)
    (fun k => l.length - k.1) ⟨0, Nat.zero_le _, by simp⟩ ⟨by simp, by simp, by simp⟩ (by kernel_rfl) ?_
  rintro ⟨k, hk, hno⟩
  by_cases hlt : k < l.length
  · have hg : (encPs l)[k]? = some (encP l[k]) := by simp [encPs, hlt]
    have hat := fun h => fidx_at (p := fun x => decide (x = q)) hlt hno h
    have hnx := fun h => step_no (p := fun x => decide (x = q)) hno hlt h
    have heq := eqlP q l[k]
    obtain ⟨hg1, hg2⟩ := List.getElem?_eq_some_iff.1 hg
    have l6 : ∀ p : Pt, (encP p).length = 6 := fun _ => rfl
    generalize l[k] = x at *
    simp (maxSteps:=999999) (disch:=first|exact {}|omega|simp) [Lw,Lm,Lt,Lo,Ln,allLen,hlt, hg, hg2, heq]
    by_cases e : q = x
    · have := hat (by simp [e])
      simp (maxSteps:=999999) (disch:=first|exact {}|omega|simp) [Lw,Lm,Lt,Lo,Ln,allLen,e]
      rw [pidx, ← e, this]
    · simp (maxSteps:=999999) (disch:=first|exact {}|omega|simp) [Lw,Lm,Lt,Lo,Ln,allLen,e]
      (refine ⟨⟨k + 1, by omega, hnx (by simp; exact fun h => e h.symm)⟩, by (simp; try omega), ?_⟩; constructor <;> (simp (maxSteps:=999999) (disch:=first|exact {}|omega|simp) [Lw,Lm,Lt,Lo,Ln,allLen]) <;> (try omega))
  · obtain rfl : k = l.length := by omega
    simp (maxSteps:=999999) (disch:=first|exact {}|omega|simp) [Lw,Lm,Lt,Lo,Ln,allLen,pidx, fidx_none (p := fun x => decide (x = q)) fun j hj => hno j hj hj]
theorem c53 (l : List Pt) (q : Pt) (h : (l.length : Int) ≤ 1048576) : PC E 53 [.i (.sl (encPs l)), .agg (encP q)] [.i (.int .i64 (pidx l q))] := by
  refine PC_start hE Proofs.Tryz.func53 rfl rfl Proofs.Tryz.ntmps53 (by kernel_rfl) (by kernel_rfl) (by simp) ?_
  simp (maxSteps:=999999) (disch:=first|exact {}|omega|simp) [Lw,Lm,Lt,Lo,Ln,allLen]
  refine XL.by hE (ι := { k : Nat // k ≤ l.length ∧ ∀ (j : Nat) (hj : j < l.length), j < k → (fun x => decide (x = q)) l[j] = false }) (fun k => ⟨[(0, .i (.sl (encPs l))), (3, .ptr 3 0 0), (5, .i (.int .i64 k.1))], [(3, ⟨6, [encP q]⟩)]⟩)
    (fun k => l.length - k.1) ⟨0, Nat.zero_le _, by simp⟩ ⟨by simp, by simp, by simp⟩ (by kernel_rfl) ?_
  rintro ⟨k, hk, hno⟩
  by_cases hlt : k < l.length
  · have hg : (encPs l)[k]? = some (encP l[k]) := by simp [encPs, hlt]
    have hat := fun h => fidx_at (p := fun x => decide (x = q)) hlt hno h
    have hnx := fun h => step_no (p := fun x => decide (x = q)) hno hlt h
    have heq := eqlP l[k] q
    obtain ⟨hg1, hg2⟩ := List.getElem?_eq_some_iff.1 hg
    generalize l[k] = x at *
    simp (maxSteps:=999999) (disch:=first|exact {}|omega|simp) [Lw,Lm,Lt,Lo,Ln,allLen,hlt, hg, hg2, heq]
    by_cases e : x = q
    · have := hat (by simp [e])
      simp (maxSteps:=999999) (disch:=first|exact {}|omega|simp) [Lw,Lm,Lt,Lo,Ln,allLen,e]
      rw [pidx, this]
    · simp (maxSteps:=999999) (disch:=first|exact {}|omega|simp) [Lw,Lm,Lt,Lo,Ln,allLen,e]
      (refine ⟨⟨k + 1, by omega, hnx (by simp [e])⟩, by (simp; try omega), ?_⟩; constructor <;> (simp (maxSteps:=999999) (disch:=first|exact {}|omega|simp) [Lw,Lm,Lt,Lo,Ln,allLen]) <;> (try omega))
  · obtain rfl : k = l.length := by omega
    simp (maxSteps:=999999) (disch:=first|exact {}|omega|simp) [Lw,Lm,Lt,Lo,Ln,allLen,pidx, fidx_none (p := fun x => decide (x = q)) fun j hj => hno j hj hj]
noncomputable def ptOf (ps : List Pt) (cs : List Cr) (q : Pt) : Int := if vB ps cs = true then pidx ps q else -1
theorem c18 (ps : List Pt) (cs : List Cr) (q : Pt) (h : (ps.length : Int) ≤ 1048576) (hc : (cs.length : Int) ≤ 1048576) : PC E 18 [.agg (encPa ps cs), .agg (encP q)] [.i (.int .i64 (ptOf ps cs q))] := by
  have hV := c14 ps cs h hc
  have hd : ptOf ps cs q = if vB ps cs = true then pidx ps q else -1 := rfl
  refine PC_start hE Proofs.Tryz.func18 rfl rfl Proofs.Tryz.ntmps18 (by kernel_rfl) (by kernel_rfl) (by simp) ?_
  simp (maxSteps:=999999) (disch:=first|exact {}|omega|simp) [Lw,Lm,Lt,Lo,Ln,allLen,encPa]
  refine CallK.of (hV) (by first | exact .inl rfl | exact .inr (by simp)) (by simp) ?_
  simp (maxSteps:=999999) (disch:=first|exact {}|omega|simp) [Lw,Lm,Lt,Lo,Ln,allLen]
  generalize vB ps cs = v at *
  cases v
  · simp (maxSteps:=999999) (disch:=first|exact {}|omega|simp) [Lw,Lm,Lt,Lo,Ln,allLen,hd]
  · simp (maxSteps:=999999) (disch:=first|exact {}|omega|simp) [Lw,Lm,Lt,Lo,Ln,allLen,encPa]
    refine CallK.of (c55 ps q h) (by first | exact .inl rfl | exact .inr (by simp)) (by simp) ?_
    simp (maxSteps:=999999) (disch:=first|exact {}|omega|simp) [Lw,Lm,Lt,Lo,Ln,allLen,hd]
theorem c16 (ps : List Pt) (cs : List Cr) (q : Pt) (h : (ps.length : Int) ≤ 1048576) (hc : (cs.length : Int) ≤ 1048576) : PC E 16 [.agg (encPa ps cs), .agg (encP q)] [.i (.int .i64 (ptOf ps cs q))] := by
  have hV := c40 ps cs h hc
  have hd : ptOf ps cs q = if vB ps cs = true then pidx ps q else -1 := rfl
  refine PC_start hE Proofs.Tryz.func16 rfl rfl Proofs.Tryz.ntmps16 (by kernel_rfl) (by kernel_rfl) (by simp) ?_
  simp (maxSteps:=999999) (disch:=first|exact {}|omega|simp) [Lw,Lm,Lt,Lo,Ln,allLen,encPa]
  refine CallK.of (hV) (by first | exact .inl rfl | exact .inr (by simp)) (by simp) ?_
  simp (maxSteps:=999999) (disch:=first|exact {}|omega|simp) [Lw,Lm,Lt,Lo,Ln,allLen]
  generalize vB ps cs = v at *
  cases v
  · simp (maxSteps:=999999) (disch:=first|exact {}|omega|simp) [Lw,Lm,Lt,Lo,Ln,allLen,hd]
  · simp (maxSteps:=999999) (disch:=first|exact {}|omega|simp) [Lw,Lm,Lt,Lo,Ln,allLen,encPa]
    refine CallK.of (c53 ps q h) (by first | exact .inl rfl | exact .inr (by simp)) (by simp) ?_
    simp (maxSteps:=999999) (disch:=first|exact {}|omega|simp) [Lw,Lm,Lt,Lo,Ln,allLen,hd]
theorem c4 (ps : List Pt) (cs : List Cr) (q : Pt) (h : ps.length ≤ maxLen) (hc : cs.length ≤ maxLen) : PC E 4 [.agg (encPa ps cs), .agg (encP q)] [.i (.bool true)] := by
  have m : maxLen = 9223372036854775807 := by decide
  refine PC_start hE Proofs.Tryz.func4 rfl rfl Proofs.Tryz.ntmps4 (by kernel_rfl) (by kernel_rfl) (by simp) ?_
  have hln : (encPa ps cs).length = 2 := rfl
  simp (maxSteps:=999999) (disch:=first|exact {}|omega|simp) [Lw,Lm,Lt,Lo,Ln,allLen,hln]
  refine CallK.of (c11 ps cs (by omega) (by omega)) (by first | exact .inl rfl | exact .inr (by simp)) (by simp) ?_
  simp (maxSteps:=999999) (disch:=first|exact {}|omega|simp) [Lw,Lm,Lt,Lo,Ln,allLen,hln]
  by_cases hle : (ps.length : Int) + cs.length ≤ 1048576
  rotate_left
  · simp (maxSteps:=999999) (disch:=first|exact {}|omega|simp) [Lw,Lm,Lt,Lo,Ln,allLen,hle, hln]
  have hA := c13 ps cs (by omega) (by omega)
  have hS := c16 ps cs q (by omega) (by omega)
  have hI := c18 ps cs q (by omega) (by omega)
  have hQ := c15 ps cs (by omega) (by omega)
  generalize encPa ps cs = e at *
  have tke : List.take 2 e = e := List.take_of_length_le (by omega)
  have tkd : List.drop 2 e = [] := List.drop_of_length_le (by omega)
  generalize ptOf ps cs q = v at *
  have e0 : ¬ ((1048576 : Int) - ps.length - cs.length < 0) := by omega
  simp (maxSteps:=999999) (disch:=first|exact {}|omega|simp) [Lw,Lm,Lt,Lo,Ln,allLen,hle, e0, hln, tke, tkd]
  refine CallK.of (hA) (by first | exact .inl rfl | exact .inr (by simp)) (by simp) ?_
  simp (maxSteps:=999999) (disch:=first|exact {}|omega|simp) [Lw,Lm,Lt,Lo,Ln,allLen,hln, tke, tkd]
  refine CallK.of (c17 q) (by first | exact .inl rfl | exact .inr (by simp)) (by simp) ?_
  simp (maxSteps:=999999) (disch:=first|exact {}|omega|simp) [Lw,Lm,Lt,Lo,Ln,allLen,hln, tke, tkd]
  refine CallK.of (hS) (by first | exact .inl rfl | exact .inr (by simp)) (by simp) ?_
  simp (maxSteps:=999999) (disch:=first|exact {}|omega|simp) [Lw,Lm,Lt,Lo,Ln,allLen,hln, tke, tkd]
  refine CallK.of (hA) (by first | exact .inl rfl | exact .inr (by simp)) (by simp) ?_
  simp (maxSteps:=999999) (disch:=first|exact {}|omega|simp) [Lw,Lm,Lt,Lo,Ln,allLen,hln, tke, tkd]
  refine CallK.of (c17 q) (by first | exact .inl rfl | exact .inr (by simp)) (by simp) ?_
  simp (maxSteps:=999999) (disch:=first|exact {}|omega|simp) [Lw,Lm,Lt,Lo,Ln,allLen,hln, tke, tkd]
  refine CallK.of (hI) (by first | exact .inl rfl | exact .inr (by simp)) (by simp) ?_
  simp (maxSteps:=999999) (disch:=first|exact {}|omega|simp) [Lw,Lm,Lt,Lo,Ln,allLen,hln, tke, tkd]
  refine CallK.of (hA) (by first | exact .inl rfl | exact .inr (by simp)) (by simp) ?_
  simp (maxSteps:=999999) (disch:=first|exact {}|omega|simp) [Lw,Lm,Lt,Lo,Ln,allLen,hln, tke, tkd]
  refine CallK.of (hQ) (by first | exact .inl rfl | exact .inr (by simp)) (by simp) ?_
  simp (maxSteps:=999999) (disch:=first|exact {}|omega|simp) [Lw,Lm,Lt,Lo,Ln,allLen,hln, tke, tkd]
def cbB (a b : Int) (c : Cr) : Bool := decide (c.a = if b < a then b else a) && decide (c.b = if b > a then b else a)
theorem c88 (a b : Int) (c : Cr) : PC E 88 [.agg (encK c), .i (.ptr [.int .i64 a]), .i (.ptr [.int .i64 b])] [.i (.bool (cbB a b c))] := by
  have hd : cbB a b c = (decide (c.a = if b < a then b else a) && decide (c.b = if b > a then b else a)) := rfl
  generalize hm : (if b < a then b else a) = mn at *
  generalize hM : (if b > a then b else a) = mx at *
  have hM' : (if a < b then b else a) = mx := hM
  refine PC_start hE Proofs.Tryz.func88 rfl rfl Proofs.Tryz.ntmps88 (by kernel_rfl) (by kernel_rfl) (by simp) ?_
  by_cases h1 : c.a = mn
  · simp (maxSteps:=999999) (disch:=first|exact {}|omega|simp) [Lw,Lm,Lt,Lo,Ln,allLen,encK, hm, h1, hM, hM', hd]
  · simp (maxSteps:=999999) (disch:=first|exact {}|omega|simp) [Lw,Lm,Lt,Lo,Ln,allLen,encK, hm, h1, hd]
theorem c56 (ps : List Pt) (cs : List Cr) (a b : Int) (hc : (cs.length : Int) ≤ 1048576) : PC E 56 [.agg (encPa ps cs), .i (.int .i64 a), .i (.int .i64 b)] [.i (.int .i64 (fidx (cbB a b) cs))] := by
  refine PC_start hE Proofs.Tryz.func56 rfl rfl Proofs.Tryz.ntmps56 (by kernel_rfl) (by kernel_rfl) (by simp) ?_
  simp (maxSteps:=999999) (disch:=first|exact {}|omega|simp) [Lw,Lm,Lt,Lo,Ln,allLen,encPa]
  refine CallK.of (c87 cs 88 [.ptr [.int .i64 a], .ptr [.int .i64 b]] (cbB a b) (fun x _ => c88 a b x) hc) (by first | exact .inl rfl | exact .inr (by simp)) (by simp) ?_
  simp (maxSteps:=999999) (disch:=first|exact {}|omega|simp) [Lw,Lm,Lt,Lo,Ln,allLen]
noncomputable def cbOf (ps : List Pt) (cs : List Cr) (a b : Int) : Int := if vB ps cs = true then fidx (cbB a b) cs else -1
theorem c20 (ps : List Pt) (cs : List Cr) (a b : Int) (h : (ps.length : Int) ≤ 1048576) (hc : (cs.length : Int) ≤ 1048576) : PC E 20 [.agg (encPa ps cs), .i (.int .i64 a), .i (.int .i64 b)] [.i (.int .i64 (cbOf ps cs a b))] := by
  have hV := c14 ps cs h hc
  have hB := c56 ps cs a b hc
  have hd : cbOf ps cs a b = if vB ps cs = true then fidx (cbB a b) cs else -1 := rfl
  refine PC_start hE Proofs.Tryz.func20 rfl rfl Proofs.Tryz.ntmps20 (by kernel_rfl) (by kernel_rfl) (by simp) ?_
  simp (maxSteps:=999999) (disch:=first|exact {}|omega|simp) [Lw,Lm,Lt,Lo,Ln,allLen,encPa]
  refine CallK.of (hV) (by first | exact .inl rfl | exact .inr (by simp)) (by simp) ?_
  simp (maxSteps:=999999) (disch:=first|exact {}|omega|simp) [Lw,Lm,Lt,Lo,Ln,allLen]
  generalize vB ps cs = v at *
  cases v
  · simp (maxSteps:=999999) (disch:=first|exact {}|omega|simp) [Lw,Lm,Lt,Lo,Ln,allLen,hd]
  · simp (maxSteps:=999999) (disch:=first|exact {}|omega|simp) [Lw,Lm,Lt,Lo,Ln,allLen,encPa]
    refine CallK.of (hB) (by first | exact .inl rfl | exact .inr (by simp)) (by simp) ?_
    simp (maxSteps:=999999) (disch:=first|exact {}|omega|simp) [Lw,Lm,Lt,Lo,Ln,allLen,hd]
theorem vB_cin {ps : List Pt} {cs : List Cr} (h : vB ps cs = true) : ∀ c ∈ cs, Cin ps.length c := by
  unfold vB lstB at h
  simp only [Bool.and_eq_true] at h
  exact nmsOk_cin h.1.2.2
theorem c19 (ps : List Pt) (cs : List Cr) (a b : Int) (h : (ps.length : Int) ≤ 1048576) (hc : (cs.length : Int) ≤ 1048576) : PC E 19 [.agg (encPa ps cs), .i (.int .i64 a), .i (.int .i64 b)] [.i (.int .i64 (cbOf ps cs a b))] := by
  have hV := c40 ps cs h hc
  have hd : cbOf ps cs a b = if vB ps cs = true then fidx (cbB a b) cs else -1 := rfl
  have hcin := fun h => vB_cin (ps := ps) (cs := cs) h
  refine PC_start hE Proofs.Tryz.func19 rfl rfl Proofs.Tryz.ntmps19 (by kernel_rfl) (by kernel_rfl) (by simp) ?_
  simp (maxSteps:=999999) (disch:=first|exact {}|omega|simp) [Lw,Lm,Lt,Lo,Ln,allLen,encPa]
  refine CallK.of (hV) (by first | exact .inl rfl | exact .inr (by simp)) (by simp) ?_
  simp (maxSteps:=999999) (disch:=first|exact {}|omega|simp) [Lw,Lm,Lt,Lo,Ln,allLen]
  generalize vB ps cs = v at *
  cases v
  · simp (maxSteps:=999999) (disch:=first|exact {}|omega|simp) [Lw,Lm,Lt,Lo,Ln,allLen,hd]
  have hcin := hcin rfl
  simp only [if_true] at hd
  simp (maxSteps:=999999) (disch:=first|exact {}|omega|simp) [Lw,Lm,Lt,Lo,Ln,allLen,encPa]
  refine XL.by hE (ι := { k : Nat // k ≤ cs.length ∧ ∀ (j : Nat) (hj : j < cs.length), j < k → cbB a b cs[j] = false }) (fun k => ⟨[(1, .i (.int .i64 a)), (2, .i (.int .i64 b)), (3, .ptr 3 0 0), (7, .i (.int .i64 k.1))], [(3, ⟨2, [encPa ps cs]⟩)]⟩)
    (fun k => cs.length - k.1) ⟨0, Nat.zero_le _, by simp⟩ ⟨by simp, by simp [encPa], by simp⟩ (by kernel_rfl) ?_
  rintro ⟨k, hk, hno⟩
  by_cases hlt : k < cs.length
  · have hg : (cs.map encK)[k]? = some (encK cs[k]) := by simp [hlt]
    have hat := fun h => fidx_at (p := cbB a b) hlt hno h
    have hnx := fun h => step_no (p := cbB a b) hno hlt h
    have hci := hcin _ (List.getElem_mem hlt)
    generalize cs[k] = c at *
    obtain ⟨a0, ab, bn⟩ := hci
    by_cases g1 : c.a = a ∧ c.b = b
    · have e := hat (by unfold cbB; rw [if_neg (by omega), if_pos (by omega), decide_eq_true g1.1, decide_eq_true g1.2]; rfl)
      simp (maxSteps:=999999) (disch:=first|exact {}|omega|simp) [Lw,Lm,Lt,Lo,Ln,allLen,hlt, hg, encK, encPa, g1.1, g1.2]
      rw [hd, e]
    · by_cases g2 : c.a = b ∧ c.b = a
      · have e := hat (by unfold cbB; rw [if_pos (by omega), if_neg (by omega), decide_eq_true g2.1, decide_eq_true g2.2]; rfl)
        have n1 : ¬ b = a := by omega
        simp (maxSteps:=999999) (disch:=first|exact {}|omega|simp) [Lw,Lm,Lt,Lo,Ln,allLen,hlt, hg, encK, encPa, g2.1, g2.2, n1]
        rw [hd, e]
      · have e : cbB a b c = false := by
          unfold cbB
          rw [Bool.and_eq_false_iff]
          simp only [decide_eq_false_iff_not]
          split <;> split <;> omega
        by_cases q1 : c.a = a
        · have q2 : ¬ c.b = b := fun h => g1 ⟨q1, h⟩
          by_cases q3 : a = b
          · subst q3
            have q4 : ¬ c.b = a := q2
            simp (maxSteps:=999999) (disch:=first|exact {}|omega|simp) [Lw,Lm,Lt,Lo,Ln,allLen,hlt, hg, encK, encPa, q1, q2]
            (refine ⟨⟨k + 1, by omega, hnx e⟩, by (simp; try omega), ?_⟩; constructor <;> (simp (maxSteps:=999999) (disch:=first|exact {}|omega|simp) [Lw,Lm,Lt,Lo,Ln,allLen,encPa]) <;> (try omega))
          · simp (maxSteps:=999999) (disch:=first|exact {}|omega|simp) [Lw,Lm,Lt,Lo,Ln,allLen,hlt, hg, encK, encPa, q1, q2, q3]
            (refine ⟨⟨k + 1, by omega, hnx e⟩, by (simp; try omega), ?_⟩; constructor <;> (simp (maxSteps:=999999) (disch:=first|exact {}|omega|simp) [Lw,Lm,Lt,Lo,Ln,allLen,encPa]) <;> (try omega))
        · by_cases q3 : c.a = b
          · have q2 : ¬ c.b = a := fun h => g2 ⟨q3, h⟩
            have q4 : ¬ b = a := fun h => q1 (by omega)
            simp (maxSteps:=999999) (disch:=first|exact {}|omega|simp) [Lw,Lm,Lt,Lo,Ln,allLen,hlt, hg, encK, encPa, q3, q2, q4]
            (refine ⟨⟨k + 1, by omega, hnx e⟩, by (simp; try omega), ?_⟩; constructor <;> (simp (maxSteps:=999999) (disch:=first|exact {}|omega|simp) [Lw,Lm,Lt,Lo,Ln,allLen,encPa]) <;> (try omega))
          · simp (maxSteps:=999999) (disch:=first|exact {}|omega|simp) [Lw,Lm,Lt,Lo,Ln,allLen,hlt, hg, encK, encPa, q1, q3]
            (refine ⟨⟨k + 1, by omega, hnx e⟩, by (simp; try omega), ?_⟩; constructor <;> (simp (maxSteps:=999999) (disch:=first|exact {}|omega|simp) [Lw,Lm,Lt,Lo,Ln,allLen,encPa]) <;> (try omega))
  · obtain rfl : k = cs.length := by omega
    have e := fidx_none (p := cbB a b) fun j hj => hno j hj hj
    simp (maxSteps:=999999) (disch:=first|exact {}|omega|simp) [Lw,Lm,Lt,Lo,Ln,allLen,hd, e, encPa]
theorem c5 (ps : List Pt) (cs : List Cr) (a b : Int) (h : ps.length ≤ maxLen) (hc : cs.length ≤ maxLen) : PC E 5 [.agg (encPa ps cs), .i (.int .i64 a), .i (.int .i64 b)] [.i (.bool true)] := by
  have m : maxLen = 9223372036854775807 := by decide
  refine PC_start hE Proofs.Tryz.func5 rfl rfl Proofs.Tryz.ntmps5 (by kernel_rfl) (by kernel_rfl) (by simp) ?_
  have hln : (encPa ps cs).length = 2 := rfl
  simp (maxSteps:=999999) (disch:=first|exact {}|omega|simp) [Lw,Lm,Lt,Lo,Ln,allLen,hln]
  refine CallK.of (c11 ps cs (by omega) (by omega)) (by first | exact .inl rfl | exact .inr (by simp)) (by simp) ?_
  simp (maxSteps:=999999) (disch:=first|exact {}|omega|simp) [Lw,Lm,Lt,Lo,Ln,allLen,hln]
  by_cases hle : (ps.length : Int) + cs.length ≤ 1048576
  rotate_left
  · simp (maxSteps:=999999) (disch:=first|exact {}|omega|simp) [Lw,Lm,Lt,Lo,Ln,allLen,hle, hln]
  have hA := c13 ps cs (by omega) (by omega)
  have hS := c19 ps cs a b (by omega) (by omega)
  have hI := c20 ps cs a b (by omega) (by omega)
  have hQ := c15 ps cs (by omega) (by omega)
  generalize encPa ps cs = e at *
  have tke : List.take 2 e = e := List.take_of_length_le (by omega)
  have tkd : List.drop 2 e = [] := List.drop_of_length_le (by omega)
  generalize cbOf ps cs a b = v at *
  have e0 : ¬ ((1048576 : Int) - ps.length - cs.length < 0) := by omega
  simp (maxSteps:=999999) (disch:=first|exact {}|omega|simp) [Lw,Lm,Lt,Lo,Ln,allLen,hle, e0, hln, tke, tkd]
  refine CallK.of (hA) (by first | exact .inl rfl | exact .inr (by simp)) (by simp) ?_
  simp (maxSteps:=999999) (disch:=first|exact {}|omega|simp) [Lw,Lm,Lt,Lo,Ln,allLen,hln, tke, tkd]
  refine CallK.of (hS) (by first | exact .inl rfl | exact .inr (by simp)) (by simp) ?_
  simp (maxSteps:=999999) (disch:=first|exact {}|omega|simp) [Lw,Lm,Lt,Lo,Ln,allLen,hln, tke, tkd]
  refine CallK.of (hA) (by first | exact .inl rfl | exact .inr (by simp)) (by simp) ?_
  simp (maxSteps:=999999) (disch:=first|exact {}|omega|simp) [Lw,Lm,Lt,Lo,Ln,allLen,hln, tke, tkd]
  refine CallK.of (hI) (by first | exact .inl rfl | exact .inr (by simp)) (by simp) ?_
  simp (maxSteps:=999999) (disch:=first|exact {}|omega|simp) [Lw,Lm,Lt,Lo,Ln,allLen,hln, tke, tkd]
  refine CallK.of (hA) (by first | exact .inl rfl | exact .inr (by simp)) (by simp) ?_
  simp (maxSteps:=999999) (disch:=first|exact {}|omega|simp) [Lw,Lm,Lt,Lo,Ln,allLen,hln, tke, tkd]
  refine CallK.of (hQ) (by first | exact .inl rfl | exact .inr (by simp)) (by simp) ?_
  simp (maxSteps:=999999) (disch:=first|exact {}|omega|simp) [Lw,Lm,Lt,Lo,Ln,allLen,hln, tke, tkd]
end Go.Vai
namespace Go.Vai
def cmpL {α : Type} (f : α → α → Int) : List α → List α → Int
  | [], [] => 0
  | [], _ :: _ => -1
  | _ :: _, [] => 1
  | x :: xs, y :: ys => if f x y = 0 then cmpL f xs ys else f x y
theorem cmpL_at {α : Type} {f : α → α → Int} {l m : List α} {k : Nat} (h1 : k < l.length) (h2 : k < m.length) : cmpL f (l.drop k) (m.drop k) = if f l[k] m[k] = 0 then cmpL f (l.drop (k + 1)) (m.drop (k + 1)) else f l[k] m[k] := by
  rw [List.drop_eq_getElem_cons h1, List.drop_eq_getElem_cons h2]; rfl
theorem cmpL_end {α : Type} {f : α → α → Int} {l m : List α} {k : Nat} (h1 : k ≤ l.length) (h2 : k ≤ m.length) (h : ¬ k < l.length ∨ ¬ k < m.length) : cmpL f (l.drop k) (m.drop k) = cmpI l.length m.length := by
  unfold cmpI
  rcases Nat.lt_or_ge k l.length with a | a
  · have b : k = m.length := by omega
    rw [List.drop_eq_getElem_cons a, List.drop_of_length_le (show m.length ≤ k by omega), if_neg (by omega), if_pos (by omega)]; rfl
  · rw [List.drop_of_length_le (show l.length ≤ k by omega)]
    rcases Nat.lt_or_ge k m.length with b | b
    · rw [List.drop_eq_getElem_cons b, if_pos (by omega)]; rfl
    · rw [List.drop_of_length_le (show m.length ≤ k by omega), if_neg (by omega), if_neg (by omega)]; rfl
theorem cmpI_range (x y : Int) : -1 ≤ cmpI x y ∧ cmpI x y ≤ 1 := by unfold cmpI; split <;> (try split) <;> omega
def orL : List Int → Int
  | [] => 0
  | x :: l => if x = 0 then orL l else x
theorem orL_at {l : List Int} {k : Nat} (h : k < l.length) : orL (l.drop k) = if l[k] = 0 then orL (l.drop (k + 1)) else l[k] := by
  rw [List.drop_eq_getElem_cons h]; rfl
theorem o71 (l : List Int) (h : (l.length : Int) ≤ 1048576) : PC E 71 [.i (.sl (l.map encI))] [.i (.int .i64 (orL l))] := by
  refine PC_start hE Proofs.Tryz.func71 rfl rfl Proofs.Tryz.ntmps71 (by kernel_rfl) (by kernel_rfl) (by simp) ?_
  simp (maxSteps:=999999) (disch:=first|exact {}|omega|simp) [Lw,Lm,Lt,Lo,Ln,allLen]
  refine XL.by hE (ι := { k : Nat // k ≤ l.length ∧ orL l = orL (l.drop k) }) (fun k => ⟨[(3, .i (.int .i64 0)), (6, .i (.sl (l.map encI))), (7, .i (.int .i64 l.length)), (8, .i (.int .i64 k.1))], []⟩)
    (fun k => l.length - k.1) ⟨0, by omega, rfl⟩ ⟨by simp, by simp, by simp⟩ (by kernel_rfl) ?_
  rintro ⟨k, hk, ho⟩
  by_cases hlt : k < l.length
  · have hg : (l.map encI)[k]? = some [.int .i64 l[k]] := by simp [hlt, encI]
    rw [orL_at hlt] at ho
    obtain ⟨hg1, hg2⟩ := List.getElem?_eq_some_iff.1 hg
    generalize l[k] = x at *
    by_cases e : x = 0
    · rw [if_pos e] at ho
      simp (maxSteps:=999999) (disch:=first|exact {}|omega|simp) [Lw,Lm,Lt,Lo,Ln,allLen,hlt, hg, hg2, e]
      (refine ⟨⟨k + 1, by omega, ho⟩, by (simp; try omega), ?_⟩; constructor <;> (simp (maxSteps:=999999) (disch:=first|exact {}|omega|simp) [Lw,Lm,Lt,Lo,Ln,allLen]) <;> (try omega))
    · rw [if_neg e] at ho
      simp (maxSteps:=999999) (disch:=first|exact {}|omega|simp) [Lw,Lm,Lt,Lo,Ln,allLen,hlt, hg, hg2, e, ho]
  · obtain rfl : k = l.length := by omega
    have : orL l = 0 := by rw [ho, List.drop_length]; rfl
    simp (maxSteps:=999999) (disch:=first|exact {}|omega|simp) [Lw,Lm,Lt,Lo,Ln,allLen,this]
theorem c131 (l m : List Pt) (g : FuncId) (f : Pt → Pt → Int) (hf : ∀ x ∈ l, ∀ y ∈ m, PC E g [.agg (encP x), .agg (encP y)] [.i (.int .i64 (f x y))]) (h : (l.length : Int) ≤ 1048576) (hm : (m.length : Int) ≤ 1048576) :
    PC E 131 [.i (.sl (encPs l)), .i (.sl (encPs m)), .i (.fn g [])] [.i (.int .i64 (cmpL f l m))] := by
  refine PC_start hE Proofs.Tryz.func131 rfl rfl Proofs.Tryz.ntmps131 (by kernel_rfl) (by kernel_rfl) (by simp) ?_
  simp (maxSteps:=999999) (disch:=first|exact {}|omega|simp) [Lw,Lm,Lt,Lo,Ln,allLen]
  refine XL.by hE (ι := { k : Nat // k ≤ l.length ∧ k ≤ m.length ∧ cmpL f l m = cmpL f (l.drop k) (m.drop k) }) (fun k => ⟨[(0, .i (.sl (encPs l))), (1, .i (.sl (encPs m))), (2, .i (.fn g [])), (11, .i (.sl (encPs l))), (12, .i (.int .i64 l.length)), (13, .i (.int .i64 k.1))], []⟩)
    (fun k => l.length - k.1) ⟨0, Nat.zero_le _, Nat.zero_le _, rfl⟩ ⟨by simp, by simp, by simp⟩ (by kernel_rfl) ?_
  rintro ⟨k, hk, hkm, he⟩
  by_cases hlt : k < l.length
  · have hg : (encPs l)[k]? = some (encP l[k]) := by simp [encPs, hlt]
    by_cases hlm : k < m.length
    · have hg' : (encPs m)[k]? = some (encP m[k]) := by simp [encPs, hlm]
      have hc := hf _ (List.getElem_mem hlt) _ (List.getElem_mem hlm)
      rw [cmpL_at hlt hlm] at he
      obtain ⟨hg1, hg2⟩ := List.getElem?_eq_some_iff.1 hg
      obtain ⟨hg3, hg4⟩ := List.getElem?_eq_some_iff.1 hg'
      have hml : ¬ ((m.length : Int) ≤ k) := by omega
      generalize f l[k] m[k] = z at *
      generalize l[k] = x at *
      generalize m[k] = y at *
      simp (maxSteps:=999999) (disch:=first|exact {}|omega|simp) [Lw,Lm,Lt,Lo,Ln,allLen,hlt, hlm, hml, hg, hg2, hg', hg4, encP, encN]
      refine CallK.of (hc) (by first | exact .inl rfl | exact .inr (by simp)) (by simp) ?_
      simp (maxSteps:=999999) (disch:=first|exact {}|omega|simp) [Lw,Lm,Lt,Lo,Ln,allLen]
      by_cases ez : z = 0
      · rw [if_pos ez] at he
        simp (maxSteps:=999999) (disch:=first|exact {}|omega|simp) [Lw,Lm,Lt,Lo,Ln,allLen,ez]
        (refine ⟨⟨k + 1, by omega, by omega, he⟩, by (simp; try omega), ?_⟩; constructor <;> (simp (maxSteps:=999999) (disch:=first|exact {}|omega|simp) [Lw,Lm,Lt,Lo,Ln,allLen]) <;> (try omega))
      · rw [if_neg ez] at he
        simp (maxSteps:=999999) (disch:=first|exact {}|omega|simp) [Lw,Lm,Lt,Lo,Ln,allLen,ez, he]
    · have e1 := cmpL_end (f := f) hk hkm (.inr hlm)
      have e2 : cmpI (l.length : Int) m.length = 1 := by unfold cmpI; rw [if_neg (by omega), if_pos (by omega)]
      have hml : ((m.length : Int) ≤ k) := by omega
      obtain ⟨hg1, hg2⟩ := List.getElem?_eq_some_iff.1 hg
      rw [e1, e2] at he
      generalize l[k] = x at *
      simp (maxSteps:=999999) (disch:=first|exact {}|omega|simp) [Lw,Lm,Lt,Lo,Ln,allLen,hlt, hlm, hml, hg, hg2, he, encP, encN]
  · obtain rfl : k = l.length := by omega
    have e1 := cmpL_end (f := f) hk hkm (.inl hlt)
    rw [e1] at he
    unfold cmpI at he
    by_cases q : (l.length : Int) < m.length
    · rw [if_pos q] at he
      simp (maxSteps:=999999) (disch:=first|exact {}|omega|simp) [Lw,Lm,Lt,Lo,Ln,allLen,q, he]
    · rw [if_neg q, if_neg (by omega)] at he
      simp (maxSteps:=999999) (disch:=first|exact {}|omega|simp) [Lw,Lm,Lt,Lo,Ln,allLen,q, he]
theorem c92 (l m : List Cr) (g : FuncId) (f : Cr → Cr → Int) (hf : ∀ x ∈ l, ∀ y ∈ m, PC E g [.agg (encK x), .agg (encK y)] [.i (.int .i64 (f x y))]) (h : (l.length : Int) ≤ 1048576) (hm : (m.length : Int) ≤ 1048576) :
    PC E 92 [.i (.sl (l.map encK)), .i (.sl (m.map encK)), .i (.fn g [])] [.i (.int .i64 (cmpL f l m))] := by
  refine PC_start hE Proofs.Tryz.func92 rfl rfl Proofs.Tryz.ntmps92 (by kernel_rfl) (by kernel_rfl) (by simp) ?_
  simp (maxSteps:=999999) (disch:=first|exact {}|omega|simp) [Lw,Lm,Lt,Lo,Ln,allLen]
  refine XL.by hE (ι := { k : Nat // k ≤ l.length ∧ k ≤ m.length ∧ cmpL f l m = cmpL f (l.drop k) (m.drop k) }) (fun k => ⟨[(0, .i (.sl (l.map encK))), (1, .i (.sl (m.map encK))), (2, .i (.fn g [])), (11, .i (.sl (l.map encK))), (12, .i (.int .i64 l.length)), (13, .i (.int .i64 k.1))], []⟩)
    (fun k => l.length - k.1) ⟨0, Nat.zero_le _, Nat.zero_le _, rfl⟩ ⟨by simp, by simp, by simp⟩ (by kernel_rfl) ?_
  rintro ⟨k, hk, hkm, he⟩
  by_cases hlt : k < l.length
  · have hg : (l.map encK)[k]? = some (encK l[k]) := by simp [hlt]
    by_cases hlm : k < m.length
    · have hg' : (m.map encK)[k]? = some (encK m[k]) := by simp [hlm]
      have hc := hf _ (List.getElem_mem hlt) _ (List.getElem_mem hlm)
      rw [cmpL_at hlt hlm] at he
      obtain ⟨hg1, hg2⟩ := List.getElem?_eq_some_iff.1 hg
      obtain ⟨hg3, hg4⟩ := List.getElem?_eq_some_iff.1 hg'
      have hml : ¬ ((m.length : Int) ≤ k) := by omega
      generalize f l[k] m[k] = z at *
      generalize l[k] = x at *
      generalize m[k] = y at *
      simp (maxSteps:=999999) (disch:=first|exact {}|omega|simp) [Lw,Lm,Lt,Lo,Ln,allLen,hlt, hlm, hml, hg, hg2, hg', hg4, encK]
      refine CallK.of (hc) (by first | exact .inl rfl | exact .inr (by simp)) (by simp) ?_
      simp (maxSteps:=999999) (disch:=first|exact {}|omega|simp) [Lw,Lm,Lt,Lo,Ln,allLen]
      by_cases ez : z = 0
      · rw [if_pos ez] at he
        simp (maxSteps:=999999) (disch:=first|exact {}|omega|simp) [Lw,Lm,Lt,Lo,Ln,allLen,ez]
        (refine ⟨⟨k + 1, by omega, by omega, he⟩, by (simp; try omega), ?_⟩; constructor <;> (simp (maxSteps:=999999) (disch:=first|exact {}|omega|simp) [Lw,Lm,Lt,Lo,Ln,allLen]) <;> (try omega))
      · rw [if_neg ez] at he
        simp (maxSteps:=999999) (disch:=first|exact {}|omega|simp) [Lw,Lm,Lt,Lo,Ln,allLen,ez, he]
    · have e1 := cmpL_end (f := f) hk hkm (.inr hlm)
      have e2 : cmpI (l.length : Int) m.length = 1 := by unfold cmpI; rw [if_neg (by omega), if_pos (by omega)]
      have hml : ((m.length : Int) ≤ k) := by omega
      obtain ⟨hg1, hg2⟩ := List.getElem?_eq_some_iff.1 hg
      rw [e1, e2] at he
      generalize l[k] = x at *
      simp (maxSteps:=999999) (disch:=first|exact {}|omega|simp) [Lw,Lm,Lt,Lo,Ln,allLen,hlt, hlm, hml, hg, hg2, he, encK]
  · obtain rfl : k = l.length := by omega
    have e1 := cmpL_end (f := f) hk hkm (.inl hlt)
    rw [e1] at he
    unfold cmpI at he
    by_cases q : (l.length : Int) < m.length
    · rw [if_pos q] at he
      simp (maxSteps:=999999) (disch:=first|exact {}|omega|simp) [Lw,Lm,Lt,Lo,Ln,allLen,q, he]
    · rw [if_neg q, if_neg (by omega)] at he
      simp (maxSteps:=999999) (disch:=first|exact {}|omega|simp) [Lw,Lm,Lt,Lo,Ln,allLen,q, he]
def cmpK (c d : Cr) : Int := orL [cmpI c.a d.a, cmpI c.b d.b, cmpI c.k d.k]
theorem c132 (p q : Pt) (hp : PV p) (hq : PV q) : PC E 132 [.agg (encP p), .agg (encP q)] [.i (.int .i64 (pcmp p q))] := by
  refine PC_start hE Proofs.Tryz.func132 rfl rfl Proofs.Tryz.ntmps132 (by kernel_rfl) (by kernel_rfl) (by simp) ?_
  simp (maxSteps:=999999) (disch:=first|exact {}|omega|simp) [Lw,Lm,Lt,Lo,Ln,allLen,encP, encN]
  refine CallK.of (c68 p q hp hq (by decide) (by decide)) (by first | exact .inl rfl | exact .inr (by simp)) (by simp) ?_
  simp (maxSteps:=999999) (disch:=first|exact {}|omega|simp) [Lw,Lm,Lt,Lo,Ln,allLen]
theorem c91 (l m : List Pt) (hl : ∀ p ∈ l, PV p) (hm : ∀ p ∈ m, PV p) (h : (l.length : Int) ≤ 1048576) (h' : (m.length : Int) ≤ 1048576) : PC E 91 [.i (.sl (encPs l)), .i (.sl (encPs m))] [.i (.int .i64 (cmpL pcmp l m))] := by
  refine PC_start hE Proofs.Tryz.func91 rfl rfl Proofs.Tryz.ntmps91 (by kernel_rfl) (by kernel_rfl) (by simp) ?_
  simp (maxSteps:=999999) (disch:=first|exact {}|omega|simp) [Lw,Lm,Lt,Lo,Ln,allLen]
  refine CallK.of (c131 l m 132 pcmp (fun x hx y hy => c132 x y (hl x hx) (hm y hy)) h h') (by first | exact .inl rfl | exact .inr (by simp)) (by simp) ?_
  simp (maxSteps:=999999) (disch:=first|exact {}|omega|simp) [Lw,Lm,Lt,Lo,Ln,allLen]
theorem c93 (c d : Cr) : PC E 93 [.agg (encK c), .agg (encK d)] [.i (.int .i64 (cmpK c d))] := by
  have ho := o71 [cmpI c.a d.a, cmpI c.b d.b, cmpI c.k d.k] (by simp)
  have hd : cmpK c d = orL [cmpI c.a d.a, cmpI c.b d.b, cmpI c.k d.k] := rfl
  refine PC_start hE Proofs.Tryz.func93 rfl rfl Proofs.Tryz.ntmps93 (by kernel_rfl) (by kernel_rfl) (by simp) ?_
  simp (maxSteps:=999999) (disch:=first|exact {}|omega|simp) [Lw,Lm,Lt,Lo,Ln,allLen,encK]
  refine CallK.of (c72 c.a d.a) (by first | exact .inl rfl | exact .inr (by simp)) (by simp) ?_
  simp (maxSteps:=999999) (disch:=first|exact {}|omega|simp) [Lw,Lm,Lt,Lo,Ln,allLen]
  refine CallK.of (c72 c.b d.b) (by first | exact .inl rfl | exact .inr (by simp)) (by simp) ?_
  simp (maxSteps:=999999) (disch:=first|exact {}|omega|simp) [Lw,Lm,Lt,Lo,Ln,allLen]
  refine CallK.of (c72 c.k d.k) (by first | exact .inl rfl | exact .inr (by simp)) (by simp) ?_
  simp (maxSteps:=999999) (disch:=first|exact {}|omega|simp) [Lw,Lm,Lt,Lo,Ln,allLen]
  refine CallK.of (ho) (by first | exact .inl rfl | exact .inr (by simp)) (by simp) ?_
  simp (maxSteps:=999999) (disch:=first|exact {}|omega|simp) [Lw,Lm,Lt,Lo,Ln,allLen,hd]
def cmpPa (ps qs : List Pt) (cs ds : List Cr) : Int := orL [cmpL pcmp ps qs, cmpL cmpK cs ds]
theorem c58 (ps qs : List Pt) (cs ds : List Cr) (hl : ∀ p ∈ ps, PV p) (hm : ∀ p ∈ qs, PV p) (h : (ps.length : Int) ≤ 1048576) (h' : (qs.length : Int) ≤ 1048576) (hc : (cs.length : Int) ≤ 1048576) (hd : (ds.length : Int) ≤ 1048576) :
    PC E 58 [.agg (encPa ps cs), .agg (encPa qs ds)] [.i (.int .i64 (cmpPa ps qs cs ds))] := by
  have ho := o71 [cmpL pcmp ps qs, cmpL cmpK cs ds] (by simp)
  refine PC_start hE Proofs.Tryz.func58 rfl rfl Proofs.Tryz.ntmps58 (by kernel_rfl) (by kernel_rfl) (by simp) ?_
  simp (maxSteps:=999999) (disch:=first|exact {}|omega|simp) [Lw,Lm,Lt,Lo,Ln,allLen,encPa]
  refine CallK.of (c91 ps qs hl hm h h') (by first | exact .inl rfl | exact .inr (by simp)) (by simp) ?_
  simp (maxSteps:=999999) (disch:=first|exact {}|omega|simp) [Lw,Lm,Lt,Lo,Ln,allLen,encPa]
  refine CallK.of (c92 cs ds 93 cmpK (fun x _ y _ => c93 x y) hc hd) (by first | exact .inl rfl | exact .inr (by simp)) (by simp) ?_
  simp (maxSteps:=999999) (disch:=first|exact {}|omega|simp) [Lw,Lm,Lt,Lo,Ln,allLen]
  refine CallK.of (ho) (by first | exact .inl rfl | exact .inr (by simp)) (by simp) ?_
  simp (maxSteps:=999999) (disch:=first|exact {}|omega|simp) [Lw,Lm,Lt,Lo,Ln,allLen,cmpPa]
noncomputable def cmpV (ps qs : List Pt) (cs ds : List Cr) : Int := if (vB ps cs && vB qs ds) = true then cmpPa ps qs cs ds else 0
theorem vB_pv {ps : List Pt} {cs : List Cr} (h : vB ps cs = true) : ∀ p ∈ ps, vP p = true := by
  unfold vB lstB at h
  simp only [Bool.and_eq_true] at h
  exact ptsOk_vp h.1.2.1
theorem c22 (ps qs : List Pt) (cs ds : List Cr) (h : (ps.length : Int) ≤ 1048576) (h' : (qs.length : Int) ≤ 1048576) (hc : (cs.length : Int) ≤ 1048576) (hd : (ds.length : Int) ≤ 1048576) :
    PC E 22 [.agg (encPa ps cs), .agg (encPa qs ds)] [.i (.int .i64 (cmpV ps qs cs ds))] := by
  have h1 := c14 ps cs h hc
  have h2 := c14 qs ds h' hd
  have hcm := fun hl hm => c58 ps qs cs ds hl hm h h' hc hd
  have hV : cmpV ps qs cs ds = if (vB ps cs && vB qs ds) = true then cmpPa ps qs cs ds else 0 := rfl
  have hp1 := fun h => vB_pv (ps := ps) (cs := cs) h
  have hp2 := fun h => vB_pv (ps := qs) (cs := ds) h
  refine PC_start hE Proofs.Tryz.func22 rfl rfl Proofs.Tryz.ntmps22 (by kernel_rfl) (by kernel_rfl) (by simp) ?_
  simp (maxSteps:=999999) (disch:=first|exact {}|omega|simp) [Lw,Lm,Lt,Lo,Ln,allLen,encPa]
  refine CallK.of (h1) (by first | exact .inl rfl | exact .inr (by simp)) (by simp) ?_
  simp (maxSteps:=999999) (disch:=first|exact {}|omega|simp) [Lw,Lm,Lt,Lo,Ln,allLen]
  generalize vB ps cs = v1 at *
  generalize vB qs ds = v2 at *
  cases v1
  · simp (maxSteps:=999999) (disch:=first|exact {}|omega|simp) [Lw,Lm,Lt,Lo,Ln,allLen,hV]
  simp (maxSteps:=999999) (disch:=first|exact {}|omega|simp) [Lw,Lm,Lt,Lo,Ln,allLen,encPa]
  refine CallK.of (h2) (by first | exact .inl rfl | exact .inr (by simp)) (by simp) ?_
  simp (maxSteps:=999999) (disch:=first|exact {}|omega|simp) [Lw,Lm,Lt,Lo,Ln,allLen]
  cases v2
  · simp (maxSteps:=999999) (disch:=first|exact {}|omega|simp) [Lw,Lm,Lt,Lo,Ln,allLen,hV]
  simp (maxSteps:=999999) (disch:=first|exact {}|omega|simp) [Lw,Lm,Lt,Lo,Ln,allLen,encPa]
  refine CallK.of (hcm (fun p hp => vP_bound (hp1 rfl p hp)) (fun p hp => vP_bound (hp2 rfl p hp))) (by first | exact .inl rfl | exact .inr (by simp)) (by simp) ?_
  simp (maxSteps:=999999) (disch:=first|exact {}|omega|simp) [Lw,Lm,Lt,Lo,Ln,allLen,hV]
theorem c90 (a b : Int) : PC E 90 [.i (.int .i64 a), .i (.int .i64 b)] [.i (.int .i64 (cmpI a b))] := by
  refine PC_start hE Proofs.Tryz.func90 rfl rfl Proofs.Tryz.ntmps90 (by kernel_rfl) (by kernel_rfl) (by simp) ?_
  simp (maxSteps:=999999) (disch:=first|exact {}|omega|simp) [Lw,Lm,Lt,Lo,Ln,allLen]
  unfold cmpI
  (first | refine Gd.dec (fun h1 => ?_) (fun h1 => ?_) | refine Gd.intro (fun h1 => ?_) (fun h1 => ?_)) <;> simp (maxSteps:=999999) (disch:=first|exact {}|omega|simp) [Lw,Lm,Lt,Lo,Ln,allLen,h1]
  (first | refine Gd.dec (fun h2 => ?_) (fun h2 => ?_) | refine Gd.intro (fun h2 => ?_) (fun h2 => ?_)) <;> simp (maxSteps:=999999) (disch:=first|exact {}|omega|simp) [Lw,Lm,Lt,Lo,Ln,allLen,h2]
theorem c57 (ps qs : List Pt) (cs ds : List Cr) (hl : ∀ p ∈ ps, PV p) (hm : ∀ p ∈ qs, PV p) (h : (ps.length : Int) ≤ 1048576) (h' : (qs.length : Int) ≤ 1048576) (hc : (cs.length : Int) ≤ 1048576) (hd : (ds.length : Int) ≤ 1048576) :
    PC E 57 [.i (.ptr (encPa ps cs)), .i (.ptr (encPa qs ds))] [.i (.int .i64 (cmpPa ps qs cs ds))] := by
  have hdef : cmpPa ps qs cs ds = if cmpL pcmp ps qs = 0 then cmpL cmpK cs ds else cmpL pcmp ps qs := by
    unfold cmpPa
    simp only [orL]
    split
    · split <;> simp_all
    · rfl
  refine PC_start hE Proofs.Tryz.func57 rfl rfl Proofs.Tryz.ntmps57 (by kernel_rfl) (by kernel_rfl) (by simp) ?_
  simp (maxSteps:=999999) (disch:=first|exact {}|omega|simp) [Lw,Lm,Lt,Lo,Ln,allLen,encPa]
  refine XL.by hE (ι := { k : Nat // k ≤ ps.length ∧ k ≤ qs.length ∧ cmpL pcmp ps qs = cmpL pcmp (ps.drop k) (qs.drop k) }) (fun k => ⟨[(0, .i (.ptr (encPa ps cs))), (1, .i (.ptr (encPa qs ds))), (5, .i (.int .i64 k.1))], []⟩)
    (fun k => ps.length - k.1) ⟨0, Nat.zero_le _, Nat.zero_le _, rfl⟩ ⟨by simp [encPa], by simp, by simp⟩ (by kernel_rfl) ?_
  rintro ⟨k, hk, hkm, he⟩
  by_cases hboth : k < ps.length ∧ k < qs.length
  · obtain ⟨hlt, hlm⟩ := hboth
    have hg : (encPs ps)[k]? = some (encP ps[k]) := by simp [encPs, hlt]
    have hg' : (encPs qs)[k]? = some (encP qs[k]) := by simp [encPs, hlm]
    have hb := c89 ps[k] qs[k] (hl _ (List.getElem_mem hlt)) (hm _ (List.getElem_mem hlm)) (by decide) (by decide)
    rw [cmpL_at hlt hlm] at he
    obtain ⟨hg1, hg2⟩ := List.getElem?_eq_some_iff.1 hg
    obtain ⟨hg3, hg4⟩ := List.getElem?_eq_some_iff.1 hg'
    generalize pcmp ps[k] qs[k] = z at *
    generalize ps[k] = x at *
    generalize qs[k] = y at *
    simp (maxSteps:=999999) (disch:=first|exact {}|omega|simp) [Lw,Lm,Lt,Lo,Ln,allLen,hlt, hlm, hg, hg2, hg', hg4, encPa]
    refine CallK.of (hb) (by first | exact .inl rfl | exact .inr (by simp)) (by simp) ?_
    simp (maxSteps:=999999) (disch:=first|exact {}|omega|simp) [Lw,Lm,Lt,Lo,Ln,allLen]
    by_cases ez : z = 0
    · rw [if_pos ez] at he
      simp (maxSteps:=999999) (disch:=first|exact {}|omega|simp) [Lw,Lm,Lt,Lo,Ln,allLen,ez]
      (refine ⟨⟨k + 1, by omega, by omega, he⟩, by (simp; try omega), ?_⟩; constructor <;> (simp (maxSteps:=999999) (disch:=first|exact {}|omega|simp) [Lw,Lm,Lt,Lo,Ln,allLen,encPa]) <;> (try omega))
    · rw [if_neg ez] at he
      have : cmpPa ps qs cs ds = z := by rw [hdef, he, if_neg ez]
      simp (maxSteps:=999999) (disch:=first|exact {}|omega|simp) [Lw,Lm,Lt,Lo,Ln,allLen,ez, this]
  · have hend : ¬ k < ps.length ∨ ¬ k < qs.length := by omega
    have e1 := cmpL_end (f := pcmp) hk hkm hend
    rw [e1] at he
    rw [he] at hdef
    have hx : ∀ T : Prop, (¬ k < ps.length → T) → (k < ps.length → ¬ k < qs.length → T) → T := fun T a b => by
      by_cases q : k < ps.length
      · exact b q (hend.resolve_left (fun h => h q))
      · exact a q
    have rest : ∀ n0 : Int, n0 = cmpI ps.length qs.length → Nat → True := fun _ _ _ => trivial
    have horder := c90 (ps.length : Int) qs.length
    generalize hn0 : cmpI (ps.length : Int) qs.length = n0 at *
    refine hx _ (fun q => ?_) (fun q q2 => ?_)
    all_goals
      (first | simp (maxSteps:=999999) (disch:=first|exact {}|omega|simp) [Lw,Lm,Lt,Lo,Ln,allLen,q, q2, encPa] | simp (maxSteps:=999999) (disch:=first|exact {}|omega|simp) [Lw,Lm,Lt,Lo,Ln,allLen,q, encPa])
      refine CallK.of (horder) (by first | exact .inl rfl | exact .inr (by simp)) (by simp) ?_
      simp (maxSteps:=999999) (disch:=first|exact {}|omega|simp) [Lw,Lm,Lt,Lo,Ln,allLen]
      refine XL.by hE (ι := { p : Nat × Int // p.1 ≤ cs.length ∧ p.1 ≤ ds.length ∧ (if n0 = 0 then (if p.2 = 0 then cmpL cmpK cs ds = cmpL cmpK (cs.drop p.1) (ds.drop p.1) else cmpL cmpK cs ds = p.2) else p.2 = n0) }) (fun p => ⟨[(0, .i (.ptr (encPa ps cs))), (1, .i (.ptr (encPa qs ds))), (7, .i (.int .i64 p.1.2)), (8, .i (.int .i64 p.1.1))], []⟩)
        (fun p => cs.length - p.1.1) ⟨(0, n0), Nat.zero_le _, Nat.zero_le _, by by_cases z : n0 = 0 <;> simp [z]⟩ ⟨by simp [encPa], by simp, by simp⟩ (by kernel_rfl) ?_
      rintro ⟨⟨i, n⟩, hi, him, hI⟩
      simp only at hi him hI
      by_cases hn : n = 0
      · subst hn
        have hz : n0 = 0 := by
          by_cases z : n0 = 0
          · exact z
          · rw [if_neg z] at hI; exact hI.symm
        subst hz
        simp only [if_true] at hI hdef
        by_cases hb2 : i < cs.length ∧ i < ds.length
        · obtain ⟨il, im⟩ := hb2
          have hg : (cs.map encK)[i]? = some (encK cs[i]) := by simp [il]
          have hg' : (ds.map encK)[i]? = some (encK ds[i]) := by simp [im]
          rw [cmpL_at il im] at hI
          obtain ⟨hg1, hg2⟩ := List.getElem?_eq_some_iff.1 hg
          obtain ⟨hg3, hg4⟩ := List.getElem?_eq_some_iff.1 hg'
          have hK : cmpK cs[i] ds[i] = if cmpI cs[i].a ds[i].a = 0 then (if cmpI cs[i].b ds[i].b = 0 then (if cmpI cs[i].k ds[i].k = 0 then 0 else cmpI cs[i].k ds[i].k) else cmpI cs[i].b ds[i].b) else cmpI cs[i].a ds[i].a := rfl
          generalize cmpK cs[i] ds[i] = z at *
          generalize cs[i] = x at *
          generalize ds[i] = y at *
          have r1 := cmpI_range x.a y.a
          have r2 := cmpI_range x.b y.b
          have r3 := cmpI_range x.k y.k
          have f1 := c90 x.a y.a
          have f2 := c90 x.b y.b
          have f3 := c90 x.k y.k
          generalize cmpI x.a y.a = z1 at *
          generalize cmpI x.b y.b = z2 at *
          generalize cmpI x.k y.k = z3 at *
          simp (maxSteps:=999999) (disch:=first|exact {}|omega|simp) [Lw,Lm,Lt,Lo,Ln,allLen,il, im, hg, hg2, hg', hg4, encK, encPa]
          refine CallK.of (f1) (by first | exact .inl rfl | exact .inr (by simp)) (by simp) ?_
          simp (maxSteps:=999999) (disch:=first|exact {}|omega|simp) [Lw,Lm,Lt,Lo,Ln,allLen]
          by_cases e1 : z1 = 0
          · subst e1
            simp only [if_true] at hK
            simp (maxSteps:=999999) (disch:=first|exact {}|omega|simp) [Lw,Lm,Lt,Lo,Ln,allLen,encK]
            refine CallK.of (f2) (by first | exact .inl rfl | exact .inr (by simp)) (by simp) ?_
            simp (maxSteps:=999999) (disch:=first|exact {}|omega|simp) [Lw,Lm,Lt,Lo,Ln,allLen]
            by_cases e2 : z2 = 0
            · subst e2
              simp only [if_true] at hK
              simp (maxSteps:=999999) (disch:=first|exact {}|omega|simp) [Lw,Lm,Lt,Lo,Ln,allLen,encK]
              refine CallK.of (f3) (by first | exact .inl rfl | exact .inr (by simp)) (by simp) ?_
              simp (maxSteps:=999999) (disch:=first|exact {}|omega|simp) [Lw,Lm,Lt,Lo,Ln,allLen]
              by_cases e3 : z3 = 0
              · subst e3
                simp only [if_true] at hK
                subst hK
                simp only [if_true] at hI
                (refine ⟨⟨(i + 1, 0), by simp; omega, by simp; omega, by simpa using hI⟩, by (simp; try omega), ?_⟩; constructor <;> (simp (maxSteps:=999999) (disch:=first|exact {}|omega|simp) [Lw,Lm,Lt,Lo,Ln,allLen,encPa]) <;> (try omega))
              · rw [if_neg e3] at hK
                subst hK
                rw [if_neg e3] at hI
                (refine ⟨⟨(i + 1, z), by simp; omega, by simp; omega, by simp [e3, hI]⟩, by (simp; try omega), ?_⟩; constructor <;> (simp (maxSteps:=999999) (disch:=first|exact {}|omega|simp) [Lw,Lm,Lt,Lo,Ln,allLen,encPa]) <;> (try omega))
            · rw [if_neg e2] at hK
              subst hK
              rw [if_neg e2] at hI
              simp (maxSteps:=999999) (disch:=first|exact {}|omega|simp) [Lw,Lm,Lt,Lo,Ln,allLen,e2]
              (refine ⟨⟨(i + 1, z), by simp; omega, by simp; omega, by simp [e2, hI]⟩, by (simp; try omega), ?_⟩; constructor <;> (simp (maxSteps:=999999) (disch:=first|exact {}|omega|simp) [Lw,Lm,Lt,Lo,Ln,allLen,encPa]) <;> (try omega))
          · rw [if_neg e1] at hK
            subst hK
            rw [if_neg e1] at hI
            simp (maxSteps:=999999) (disch:=first|exact {}|omega|simp) [Lw,Lm,Lt,Lo,Ln,allLen,e1]
            (refine ⟨⟨(i + 1, z), by simp; omega, by simp; omega, by simp [e1, hI]⟩, by (simp; try omega), ?_⟩; constructor <;> (simp (maxSteps:=999999) (disch:=first|exact {}|omega|simp) [Lw,Lm,Lt,Lo,Ln,allLen,encPa]) <;> (try omega))
        · have hend2 : ¬ i < cs.length ∨ ¬ i < ds.length := by omega
          have e2 := cmpL_end (f := cmpK) hi him hend2
          rw [e2] at hI
          have ho2 := c90 (cs.length : Int) ds.length
          rw [hI] at hdef
          generalize cmpI (cs.length : Int) ds.length = z at *
          by_cases q1 : i < cs.length
          · have q2 : ¬ i < ds.length := hend2.resolve_left fun h => h q1
            simp (maxSteps:=999999) (disch:=first|exact {}|omega|simp) [Lw,Lm,Lt,Lo,Ln,allLen,q1, q2, encPa]
            refine CallK.of (ho2) (by first | exact .inl rfl | exact .inr (by simp)) (by simp) ?_
            simp (maxSteps:=999999) (disch:=first|exact {}|omega|simp) [Lw,Lm,Lt,Lo,Ln,allLen,hdef]
          · simp (maxSteps:=999999) (disch:=first|exact {}|omega|simp) [Lw,Lm,Lt,Lo,Ln,allLen,q1, encPa]
            refine CallK.of (ho2) (by first | exact .inl rfl | exact .inr (by simp)) (by simp) ?_
            simp (maxSteps:=999999) (disch:=first|exact {}|omega|simp) [Lw,Lm,Lt,Lo,Ln,allLen,hdef]
      · have hfin : cmpPa ps qs cs ds = n := by
          by_cases z : n0 = 0
          · rw [if_pos z, if_neg hn] at hI; rw [hdef, if_pos z, hI]
          · rw [if_neg z] at hI; rw [hdef, if_neg z, hI]
        by_cases q1 : i < cs.length
        · by_cases q2 : i < ds.length
          · simp (maxSteps:=999999) (disch:=first|exact {}|omega|simp) [Lw,Lm,Lt,Lo,Ln,allLen,q1, q2, hn, hfin, encPa]
          · simp (maxSteps:=999999) (disch:=first|exact {}|omega|simp) [Lw,Lm,Lt,Lo,Ln,allLen,q1, q2, hn, hfin, encPa]
        · simp (maxSteps:=999999) (disch:=first|exact {}|omega|simp) [Lw,Lm,Lt,Lo,Ln,allLen,q1, hn, hfin, encPa]
theorem c21 (ps qs : List Pt) (cs ds : List Cr) (h : (ps.length : Int) ≤ 1048576) (h' : (qs.length : Int) ≤ 1048576) (hc : (cs.length : Int) ≤ 1048576) (hd : (ds.length : Int) ≤ 1048576) :
    PC E 21 [.agg (encPa ps cs), .agg (encPa qs ds)] [.i (.int .i64 (cmpV ps qs cs ds))] := by
  have h1 := c40 ps cs h hc
  have h2 := c40 qs ds h' hd
  have hcm := fun hl hm => c57 ps qs cs ds hl hm h h' hc hd
  have hV : cmpV ps qs cs ds = if (vB ps cs && vB qs ds) = true then cmpPa ps qs cs ds else 0 := rfl
  have hp1 := fun h => vB_pv (ps := ps) (cs := cs) h
  have hp2 := fun h => vB_pv (ps := qs) (cs := ds) h
  refine PC_start hE Proofs.Tryz.func21 rfl rfl Proofs.Tryz.ntmps21 (by kernel_rfl) (by kernel_rfl) (by simp) ?_
  simp (maxSteps:=999999) (disch:=first|exact {}|omega|simp) [Lw,Lm,Lt,Lo,Ln,allLen,encPa]
  refine CallK.of (h1) (by first | exact .inl rfl | exact .inr (by simp)) (by simp) ?_
  simp (maxSteps:=999999) (disch:=first|exact {}|omega|simp) [Lw,Lm,Lt,Lo,Ln,allLen]
  generalize vB ps cs = v1 at *
  generalize vB qs ds = v2 at *
  cases v1
  · simp (maxSteps:=999999) (disch:=first|exact {}|omega|simp) [Lw,Lm,Lt,Lo,Ln,allLen,hV]
  simp (maxSteps:=999999) (disch:=first|exact {}|omega|simp) [Lw,Lm,Lt,Lo,Ln,allLen,encPa]
  refine CallK.of (h2) (by first | exact .inl rfl | exact .inr (by simp)) (by simp) ?_
  simp (maxSteps:=999999) (disch:=first|exact {}|omega|simp) [Lw,Lm,Lt,Lo,Ln,allLen]
  cases v2
  · simp (maxSteps:=999999) (disch:=first|exact {}|omega|simp) [Lw,Lm,Lt,Lo,Ln,allLen,hV]
  simp (maxSteps:=999999) (disch:=first|exact {}|omega|simp) [Lw,Lm,Lt,Lo,Ln,allLen,encPa]
  refine CallK.of (hcm (fun p hp => vP_bound (hp1 rfl p hp)) (fun p hp => vP_bound (hp2 rfl p hp))) (by first | exact .inl rfl | exact .inr (by simp)) (by simp) ?_
  simp (maxSteps:=999999) (disch:=first|exact {}|omega|simp) [Lw,Lm,Lt,Lo,Ln,allLen,hV]
theorem szPat (ps : List Pt) (cs : List Cr) (n : Int) (h0 : 0 ≤ n) (h1 : n ≤ 1048576) (h : (ps.length : Int) ≤ 9223372036854775807) (h' : (cs.length : Int) ≤ 9223372036854775807) :
    PC E 11 [.agg (encPa ps cs), .i (.int .i64 n)] [.i (.int .i64 (if (ps.length : Int) + cs.length ≤ n then n - ps.length - cs.length else -1))] := by
  refine PC_start hE Proofs.Tryz.func11 rfl rfl Proofs.Tryz.ntmps11 (by kernel_rfl) (by kernel_rfl) (by simp) ?_
  simp (maxSteps:=999999) (disch:=first|exact {}|omega|simp) [Lw,Lm,Lt,Lo,Ln,allLen,encPa]
  refine CallK.of (c38 ps n (by omega) (by omega) (by omega)) (by first | exact .inl rfl | exact .inr (by simp)) (by simp) ?_
  by_cases g1 : n - ps.length < 0
  · have e : ¬ (ps.length : Int) + cs.length ≤ n := by omega
    simp (maxSteps:=999999) (disch:=first|exact {}|omega|simp) [Lw,Lm,Lt,Lo,Ln,allLen,g1, e]
  · simp (maxSteps:=999999) (disch:=first|exact {}|omega|simp) [Lw,Lm,Lt,Lo,Ln,allLen,g1]
    refine CallK.of (c39 cs (n - ps.length) (by omega) (by omega) (by omega)) (by first | exact .inl rfl | exact .inr (by simp)) (by simp) ?_
    by_cases g2 : n - ps.length - cs.length < 0
    · have e : ¬ (ps.length : Int) + cs.length ≤ n := by omega
      simp (maxSteps:=999999) (disch:=first|exact {}|omega|simp) [Lw,Lm,Lt,Lo,Ln,allLen,g2, e]
    · have e : (ps.length : Int) + cs.length ≤ n := by omega
      simp (maxSteps:=999999) (disch:=first|exact {}|omega|simp) [Lw,Lm,Lt,Lo,Ln,allLen,g2, e]
theorem c6 (ps qs : List Pt) (cs ds : List Cr) (h : ps.length ≤ maxLen) (hc : cs.length ≤ maxLen) (h' : qs.length ≤ maxLen) (hd : ds.length ≤ maxLen) : PC E 6 [.agg (encPa ps cs), .agg (encPa qs ds)] [.i (.bool true)] := by
  have m : maxLen = 9223372036854775807 := by decide
  refine PC_start hE Proofs.Tryz.func6 rfl rfl Proofs.Tryz.ntmps6 (by kernel_rfl) (by kernel_rfl) (by simp) ?_
  have hln : (encPa ps cs).length = 2 := rfl
  have hln2 : (encPa qs ds).length = 2 := rfl
  simp (maxSteps:=999999) (disch:=first|exact {}|omega|simp) [Lw,Lm,Lt,Lo,Ln,allLen,hln, hln2]
  refine CallK.of (szPat ps cs 1048576 (by omega) (by omega) (by omega) (by omega)) (by first | exact .inl rfl | exact .inr (by simp)) (by simp) ?_
  simp (maxSteps:=999999) (disch:=first|exact {}|omega|simp) [Lw,Lm,Lt,Lo,Ln,allLen,hln, hln2]
  by_cases hle : (ps.length : Int) + cs.length ≤ 1048576
  rotate_left
  · simp (maxSteps:=999999) (disch:=first|exact {}|omega|simp) [Lw,Lm,Lt,Lo,Ln,allLen,hle, hln, hln2]
  have e0 : ¬ ((1048576 : Int) - ps.length - cs.length < 0) := by omega
  simp (maxSteps:=999999) (disch:=first|exact {}|omega|simp) [Lw,Lm,Lt,Lo,Ln,allLen,hle, e0, hln, hln2]
  refine CallK.of (szPat qs ds (1048576 - ps.length - cs.length) (by omega) (by omega) (by omega) (by omega)) (by first | exact .inl rfl | exact .inr (by simp)) (by simp) ?_
  simp (maxSteps:=999999) (disch:=first|exact {}|omega|simp) [Lw,Lm,Lt,Lo,Ln,allLen,hln, hln2]
  by_cases hle2 : (qs.length : Int) + ds.length ≤ 1048576 - ps.length - cs.length
  rotate_left
  · simp (maxSteps:=999999) (disch:=first|exact {}|omega|simp) [Lw,Lm,Lt,Lo,Ln,allLen,hle2, hln, hln2]
  have e1 : ¬ ((1048576 : Int) - ps.length - cs.length - qs.length - ds.length < 0) := by omega
  have hA := c13 ps cs (by omega) (by omega)
  have hB := c13 qs ds (by omega) (by omega)
  have hS := c21 ps qs cs ds (by omega) (by omega) (by omega) (by omega)
  have hI := c22 ps qs cs ds (by omega) (by omega) (by omega) (by omega)
  have hQ := c15 ps cs (by omega) (by omega)
  have hR := c15 qs ds (by omega) (by omega)
  generalize encPa ps cs = e at *
  generalize encPa qs ds = f at *
  have tke : List.take 2 e = e := List.take_of_length_le (by omega)
  have tkd : List.drop 2 e = [] := List.drop_of_length_le (by omega)
  have tkf : List.take 2 f = f := List.take_of_length_le (by omega)
  have tkg : List.drop 2 f = [] := List.drop_of_length_le (by omega)
  generalize cmpV ps qs cs ds = v at *
  simp (maxSteps:=999999) (disch:=first|exact {}|omega|simp) [Lw,Lm,Lt,Lo,Ln,allLen,hle2, e1, hln, hln2, tke, tkd, tkf, tkg]
  refine CallK.of (hA) (by first | exact .inl rfl | exact .inr (by simp)) (by simp) ?_
  simp (maxSteps:=999999) (disch:=first|exact {}|omega|simp) [Lw,Lm,Lt,Lo,Ln,allLen,hln, hln2, tke, tkd, tkf, tkg]
  refine CallK.of (hB) (by first | exact .inl rfl | exact .inr (by simp)) (by simp) ?_
  simp (maxSteps:=999999) (disch:=first|exact {}|omega|simp) [Lw,Lm,Lt,Lo,Ln,allLen,hln, hln2, tke, tkd, tkf, tkg]
  refine CallK.of (hS) (by first | exact .inl rfl | exact .inr (by simp)) (by simp) ?_
  simp (maxSteps:=999999) (disch:=first|exact {}|omega|simp) [Lw,Lm,Lt,Lo,Ln,allLen,hln, hln2, tke, tkd, tkf, tkg]
  refine CallK.of (hA) (by first | exact .inl rfl | exact .inr (by simp)) (by simp) ?_
  simp (maxSteps:=999999) (disch:=first|exact {}|omega|simp) [Lw,Lm,Lt,Lo,Ln,allLen,hln, hln2, tke, tkd, tkf, tkg]
  refine CallK.of (hB) (by first | exact .inl rfl | exact .inr (by simp)) (by simp) ?_
  simp (maxSteps:=999999) (disch:=first|exact {}|omega|simp) [Lw,Lm,Lt,Lo,Ln,allLen,hln, hln2, tke, tkd, tkf, tkg]
  refine CallK.of (hI) (by first | exact .inl rfl | exact .inr (by simp)) (by simp) ?_
  simp (maxSteps:=999999) (disch:=first|exact {}|omega|simp) [Lw,Lm,Lt,Lo,Ln,allLen,hln, hln2, tke, tkd, tkf, tkg]
  refine CallK.of (hA) (by first | exact .inl rfl | exact .inr (by simp)) (by simp) ?_
  simp (maxSteps:=999999) (disch:=first|exact {}|omega|simp) [Lw,Lm,Lt,Lo,Ln,allLen,hln, hln2, tke, tkd, tkf, tkg]
  refine CallK.of (hQ) (by first | exact .inl rfl | exact .inr (by simp)) (by simp) ?_
  simp (maxSteps:=999999) (disch:=first|exact {}|omega|simp) [Lw,Lm,Lt,Lo,Ln,allLen,hln, hln2, tke, tkd, tkf, tkg]
  refine CallK.of (hB) (by first | exact .inl rfl | exact .inr (by simp)) (by simp) ?_
  simp (maxSteps:=999999) (disch:=first|exact {}|omega|simp) [Lw,Lm,Lt,Lo,Ln,allLen,hln, hln2, tke, tkd, tkf, tkg]
  refine CallK.of (hR) (by first | exact .inl rfl | exact .inr (by simp)) (by simp) ?_
  simp (maxSteps:=999999) (disch:=first|exact {}|omega|simp) [Lw,Lm,Lt,Lo,Ln,allLen,hln, hln2, tke, tkd, tkf, tkg]
end Go.Vai
