/- Merged texts of this claim: Zx9, Zx10, Zx11, Zx12. -/
import Derived.Test.YtkljeldcjnpinaaYb34
/- Conclusions from rules: what both programs reckon. -/
set_option linter.unusedVariables false
set_option linter.unusedSimpArgs false
set_option maxHeartbeats 4000000
namespace Go.Vai
/-- A conclusion: the rule, the variable, the value. -/
structure Sp where
  rule : Int
  at_ : Int
  value : Int
def encSp (s : Sp) : List IV := [.int .i64 s.rule, .int .i64 s.at_, .int .i64 s.value]
@[simp] theorem encSp_len (s : Sp) : (encSp s).length = 3 := rfl
/-- One pass over the rules: values, whether any has changed, conclusions, the rule that is violated. -/
def pass : List Ru → Nat → List Int → Bool → List Sp → List Int × Bool × List Sp × Option Nat
  | [], _, vs, ch, st => (vs, ch, st, none)
  | r :: l, i, vs, ch, st =>
    if hol r vs < 0 then (vs, ch, st, some i)
    else if (forcedV r vs).2.2 = true then pass l (i + 1) (vs.set (forcedV r vs).1.toNat (forcedV r vs).2.1) true (st ++ [⟨i, (forcedV r vs).1, (forcedV r vs).2.1⟩])
    else pass l (i + 1) vs ch st
/-- Passes, until nothing changes: values, conclusions, the violated rule or -1. -/
def propF (rs : List Ru) : Nat → List Int → List Sp → List Int × List Sp × Int
  | 0, vs, st => (vs, st, -1)
  | m + 1, vs, st => match pass rs 0 vs false st with
    | (vs', _, st', some i) => (vs', st', i)
    | (vs', true, st', none) => propF rs m vs' st'
    | (vs', false, st', none) => (vs', st', -1)
def nzero (vs : List Int) : Nat := vs.count 0
theorem nzero_set {vs : List Int} {k : Nat} {x : Int} (h : k < vs.length) (h0 : vs[k] = 0) (hx : x ≠ 0) : nzero (vs.set k x) + 1 = nzero vs := by
  unfold nzero
  rw [List.count_set h, h0]
  have h1 : 0 < vs.count 0 := List.count_pos_iff.2 (h0 ▸ List.getElem_mem h)
  simp [hx]; omega
/-- What is forced is a free variable's value. -/
theorem forcedV_some {r : Ru} {vs : List Int} (hf : RFit r vs) (h : (forcedV r vs).2.2 = true) : ∃ (k : Nat) (hk : k < vs.length), (forcedV r vs).1 = k ∧ vs[k] = 0 ∧ ((forcedV r vs).2.1 = 1 ∨ (forcedV r vs).2.1 = -1) ∧ hol r vs = 0 ∧ frees r vs = [(k : Int)] ∧ hol r (vs.set k (-(forcedV r vs).2.1)) < 0 := by
  unfold forcedV at h ⊢
  by_cases h0 : hol r vs = 0
  · rw [if_pos h0] at h ⊢
    rcases hv : frees r vs with _ | ⟨v, _ | ⟨u, l⟩⟩
    · rw [hv] at h; simp at h
    · rw [hv] at h
      have hm := frees_mem (show v ∈ frees r vs by rw [hv]; simp)
      have hr := hf.mem hm.1
      obtain ⟨k, rfl⟩ : ∃ k : Nat, v = k := ⟨v.toNat, by omega⟩
      have hk : k < vs.length := by omega
      have hz : vs[k] = 0 := by have := hm.2; simp [hk] at this; exact this
      simp only [Int.toNat_natCast] at h ⊢
      by_cases c1 : hol r (vs.set k (-1)) < 0
      · simp only [if_pos c1]
        exact ⟨k, hk, rfl, hz, by simp, h0, rfl, c1⟩
      · simp only [if_neg c1] at h ⊢
        by_cases c2 : hol r (vs.set k 1) < 0
        · simp only [if_pos c2]
          exact ⟨k, hk, rfl, hz, by simp, h0, rfl, by simpa using c2⟩
        · simp only [if_neg c2] at h; simp at h
    · rw [hv] at h; simp at h
  · rw [if_neg h0] at h; simp at h
theorem valsB_put {vs : List Int} (h : valsB vs = true) (k : Nat) {x : Int} (hx : x = 1 ∨ x = -1) : valsB (vs.set k x) = true := by
  rw [valsB, List.all_eq_true] at h ⊢
  intro y hy
  rcases List.mem_or_eq_of_mem_set hy with hy | rfl
  · exact h y hy
  · rcases hx with rfl | rfl <;> decide
/-- All rules are valid for so many values. -/
def allV (l : List Ru) (n : Nat) : Prop := ∀ r ∈ l, rv r n = true
theorem pass_keep {n : Nat} : ∀ (l : List Ru) (i : Nat) (vs : List Int) (ch : Bool) (st : List Sp), allV l n → vs.length = n → valsB vs = true →
    (pass l i vs ch st).1.length = n ∧ valsB (pass l i vs ch st).1 = true ∧ nzero (pass l i vs ch st).1 ≤ nzero vs ∧ ((pass l i vs ch st).2.1 = true → ch = true ∨ nzero (pass l i vs ch st).1 < nzero vs)
  | [], i, vs, ch, st, _, hn, hv => ⟨hn, hv, Nat.le_refl _, .inl⟩
  | r :: l, i, vs, ch, st, ha, hn, hv => by
    have hl : allV l n := fun x hx => ha x (by simp [hx])
    have hrv := ha r (by simp)
    have hf : RFit r vs := rfit_of (by rw [hn]; exact hrv) hv
    simp only [pass]
    by_cases h1 : hol r vs < 0
    · rw [if_pos h1]; exact ⟨hn, hv, Nat.le_refl _, .inl⟩
    · rw [if_neg h1]
      by_cases h2 : (forcedV r vs).2.2 = true
      · rw [if_pos h2]
        obtain ⟨k, hk, e1, e2, e3, -⟩ := forcedV_some hf h2
        have hz := nzero_set (x := (forcedV r vs).2.1) hk e2 (by rcases e3 with e | e <;> rw [e] <;> simp)
        have ek : (forcedV r vs).1.toNat = k := by rw [e1]; simp
        rw [ek]
        obtain ⟨g1, g2, g3, g4⟩ := pass_keep l (i + 1) (vs.set k (forcedV r vs).2.1) true (st ++ [⟨i, (forcedV r vs).1, (forcedV r vs).2.1⟩]) hl (by simpa using hn) (valsB_put hv k e3)
        exact ⟨g1, g2, by omega, fun _ => .inr (by omega)⟩
      · rw [if_neg h2]
        exact pass_keep l (i + 1) vs ch st hl hn hv
theorem propF_keep {rs : List Ru} {n : Nat} (ha : allV rs n) : ∀ (m : Nat) (vs : List Int) (st : List Sp), vs.length = n → valsB vs = true → (propF rs m vs st).1.length = n ∧ valsB (propF rs m vs st).1 = true
  | 0, vs, st, hn, hv => ⟨hn, hv⟩
  | m + 1, vs, st, hn, hv => by
    obtain ⟨g1, g2, -⟩ := pass_keep rs 0 vs false st ha hn hv
    simp only [propF]
    split
    · rename_i vs' ch' st' i he; rw [he] at g1 g2; exact ⟨g1, g2⟩
    · rename_i vs' st' he; rw [he] at g1 g2; exact propF_keep ha m vs' st' g1 g2
    · rename_i vs' st' he; rw [he] at g1 g2; exact ⟨g1, g2⟩
theorem drop_step {rs : List Ru} {i : Nat} (h : i < rs.length) : rs.drop i = rs[i] :: rs.drop (i + 1) := List.drop_eq_getElem_cons h
/-- A pass, one rule further. -/
theorem pass_clash {rs : List Ru} {i : Nat} (h : i < rs.length) {vs : List Int} {ch : Bool} {st : List Sp} (h1 : hol rs[i] vs < 0) : pass (rs.drop i) i vs ch st = (vs, ch, st, some i) := by
  rw [drop_step h]; simp only [pass]; rw [if_pos h1]
theorem pass_force {rs : List Ru} {i : Nat} (h : i < rs.length) {vs : List Int} {ch : Bool} {st : List Sp} (h1 : ¬ hol rs[i] vs < 0) (h2 : (forcedV rs[i] vs).2.2 = true) :
    pass (rs.drop i) i vs ch st = pass (rs.drop (i + 1)) (i + 1) (vs.set (forcedV rs[i] vs).1.toNat (forcedV rs[i] vs).2.1) true (st ++ [⟨i, (forcedV rs[i] vs).1, (forcedV rs[i] vs).2.1⟩]) := by
  rw [drop_step h]; simp only [pass]; rw [if_neg h1, if_pos h2]
theorem pass_skip {rs : List Ru} {i : Nat} (h : i < rs.length) {vs : List Int} {ch : Bool} {st : List Sp} (h1 : ¬ hol rs[i] vs < 0) (h2 : ¬ (forcedV rs[i] vs).2.2 = true) : pass (rs.drop i) i vs ch st = pass (rs.drop (i + 1)) (i + 1) vs ch st := by
  rw [drop_step h]; simp only [pass]; rw [if_neg h1, if_neg h2]
theorem pass_end {rs : List Ru} {i : Nat} (h : ¬ i < rs.length) {vs : List Int} {ch : Bool} {st : List Sp} : pass (rs.drop i) i vs ch st = (vs, ch, st, none) := by
  rw [List.drop_eq_nil_of_le (by omega)]; rfl
end Go.Vai
/- Conclusions from rules: the program's loop. -/
set_option linter.unusedVariables false
set_option linter.unusedSimpArgs false
set_option maxHeartbeats 4000000
namespace Go.Vai
theorem c80 (a b d : Int) : PC E 80 [.i (.int .i64 a), .i (.int .i64 b), .i (.int .i64 d)] [] := by
  refine PC_start hE Proofs.Try.func80 rfl rfl Proofs.Try.ntmps80 (by kernel_rfl) (by kernel_rfl) (by simp) ?_
  simp (maxSteps := 1000000) (disch := first | (exact DrawOk.mk (by decide +kernel)) | omega | simp) [wrap_i64, le_most, lt_omega, le_omega, ne_omega, allLen]
theorem c79 (rs : List Ru) (n : Nat) (vs : List Int) (st : List Sp) (m : Nat) (Res : List Int × List Sp × Int) (ha : allV rs n) (hl : (rs.length : Int) ≤ 1048576) (hn : vs.length = n) (hn2 : (n : Int) ≤ 1048576) (hv : valsB vs = true) (hm : nzero vs < m) (hR : propF rs m vs st = Res) :
    PM E 79 [.i (.i (.sl (rs.map encR))), .sl ⟨1, vs.map encI⟩, .i (.i (.fn 80 []))] [⟨1, Res.1.map encI⟩] [.i (.int .i64 Res.2.2)] := by
  have hk := propF_keep ha m vs st hn hv
  rw [hR] at hk
  refine PM_start hE Proofs.Try.func79 rfl rfl Proofs.Try.ntmps79 (by kernel_rfl) (by kernel_rfl) (by simp) (by simp [hk.1, hn]) ?_
  simp (maxSteps := 1000000) (disch := first | (exact DrawOk.mk (by decide +kernel)) | omega | simp) [wrap_i64, le_most, lt_omega, le_omega, ne_omega, allLen]
  refine XL.by hE (ι := { p : List Int × List Sp × Bool × Nat // p.1.length = n ∧ valsB p.1 = true ∧ (p.2.2.1 = true → nzero p.1 < p.2.2.2 ∧ propF rs p.2.2.2 p.1 p.2.1 = Res) ∧ (p.2.2.1 = false → (p.1, p.2.1, (-1 : Int)) = Res) })
    (fun p => ⟨[(0, .i (.sl (rs.map encR))), (1, .own 700001 0 n), (2, .i (.fn 80 [])), (7, .i (.bool p.1.2.2.1))], [(700001, ⟨1, p.1.1.map encI⟩)]⟩)
    (fun p => if p.1.2.2.1 = true then p.1.2.2.2 + 1 else 0) ⟨(vs, st, true, m), hn, hv, fun _ => ⟨hm, hR⟩, fun h => by simp at h⟩ ⟨by simp [hn], by simp, by simp⟩ (by kernel_rfl) ?_
  rintro ⟨⟨vs0, st0, ch0, m0⟩, p1, p2, p3, p4⟩
  simp only at p1 p2 p3 p4
  cases ch0
  · have hr := p4 rfl
    subst hr
    simp (maxSteps := 1000000) (disch := first | (exact DrawOk.mk (by decide +kernel)) | omega | simp) [wrap_i64, le_most, lt_omega, le_omega, ne_omega, allLen, p1]
  obtain ⟨hz, hP⟩ := p3 rfl
  cases m0 with
  | zero => omega
  | succ m0 =>
  simp (maxSteps := 1000000) (disch := first | (exact DrawOk.mk (by decide +kernel)) | omega | simp) [wrap_i64, le_most, lt_omega, le_omega, ne_omega, allLen]
  refine XL.by hE (ι := { q : Nat × List Int × Bool × List Sp // q.1 ≤ rs.length ∧ q.2.1.length = n ∧ valsB q.2.1 = true ∧ nzero q.2.1 ≤ nzero vs0 ∧ (q.2.2.1 = true → nzero q.2.1 < nzero vs0) ∧ pass (rs.drop q.1) q.1 q.2.1 q.2.2.1 q.2.2.2 = pass rs 0 vs0 false st0 })
    (fun q => ⟨[(0, .i (.sl (rs.map encR))), (1, .own 700001 0 n), (2, .i (.fn 80 [])), (7, .i (.bool q.1.2.2.1)), (14, .i (.sl (rs.map encR))), (15, .i (.int .i64 rs.length)), (16, .i (.int .i64 q.1.1))], [(700001, ⟨1, q.1.2.1.map encI⟩)]⟩)
    (fun q => rs.length - q.1.1) ⟨(0, vs0, false, st0), Nat.zero_le _, p1, p2, Nat.le_refl _, fun h => by simp at h, rfl⟩ ⟨by simp, by simp, by simp⟩ (by kernel_rfl) ?_
  rintro ⟨⟨i, ws, ch, su⟩, q1, q2, q3, q4, q5, q6⟩
  simp only at q1 q2 q3 q4 q5 q6
  have ht : (ws.map encI).take n = ws.map encI := by rw [List.take_of_length_le (by simp; omega)]
  by_cases hlt : i < rs.length
  · have hrv : rv rs[i] n = true := ha _ (List.getElem_mem hlt)
    have hrv2 : rv rs[i] ws.length = true := by rw [q2]; exact hrv
    have hf : RFit rs[i] ws := rfit_of hrv2 q3
    have hh : ihol rs[i].kind (terms rs[i] ws) = hol rs[i] ws := rfl
    simp (maxSteps := 1000000) (disch := first | (exact DrawOk.mk (by decide +kernel)) | omega | simp) [wrap_i64, le_most, lt_omega, le_omega, ne_omega, allLen, hlt, ht]
    refine CallK.of (c75 rs[i] ws hf (rv_small hrv)) (by first | exact .inl rfl | exact .inr (by simp)) (by simp) ?_
    rw [hh]
    simp (maxSteps := 1000000) (disch := first | (exact DrawOk.mk (by decide +kernel)) | omega | simp) [wrap_i64, le_most, lt_omega, le_omega, ne_omega, allLen]
    (first | refine Gd.dec (fun h1 => ?_) (fun h1 => ?_) | refine Gd.intro (fun h1 => ?_) (fun h1 => ?_)) <;> simp (maxSteps := 1000000) (disch := first | (exact DrawOk.mk (by decide +kernel)) | omega | simp) [wrap_i64, le_most, lt_omega, le_omega, ne_omega, allLen, h1]
    · rw [pass_clash hlt h1] at q6
      have hr : (ws, su, (i : Int)) = Res := by rw [← hP]; simp only [propF, ← q6]
      subst hr
      simp (maxSteps := 1000000) (disch := first | (exact DrawOk.mk (by decide +kernel)) | omega | simp) [wrap_i64, le_most, lt_omega, le_omega, ne_omega, allLen]
    · have cf := c70 rs[i] ws hf (rv_pos hrv) (rv_small hrv)
      refine MutK.of cf (by simp [q2]) (by simp) (by simp) (by simp) (by simp) ?_
      cases h2 : (forcedV rs[i] ws).2.2
      · rw [pass_skip hlt h1 (by rw [h2]; simp)] at q6
        simp (maxSteps := 1000000) (disch := first | (exact DrawOk.mk (by decide +kernel)) | omega | simp) [wrap_i64, le_most, lt_omega, le_omega, ne_omega, allLen, h2]
        (refine ⟨⟨(i + 1, ws, ch, su), by omega, q2, q3, q4, q5, q6⟩, by (simp; try omega), ?_⟩; constructor <;> (simp (maxSteps := 1000000) (disch := first | (exact DrawOk.mk (by decide +kernel)) | omega | simp) [wrap_i64, le_most, lt_omega, le_omega, ne_omega, allLen]) <;> (try omega))
      · rw [pass_force hlt h1 h2] at q6
        obtain ⟨k, hk1, e1, e2, e3, -⟩ := forcedV_some hf h2
        have hzs := nzero_set (x := (forcedV rs[i] ws).2.1) hk1 e2 (by rcases e3 with e | e <;> rw [e] <;> simp)
        have ek : (forcedV rs[i] ws).1.toNat = k := by rw [e1]; simp
        rw [ek] at q6
        have hkn : k < n := by omega
        have hse := set_enc ws k (forcedV rs[i] ws).2.1
        have hvs := valsB_put q3 k e3
        generalize (forcedV rs[i] ws).2.1 = x at *
        simp (maxSteps := 1000000) (disch := first | (exact DrawOk.mk (by decide +kernel)) | omega | simp) [wrap_i64, le_most, lt_omega, le_omega, ne_omega, allLen, h2, e1, hkn, hk1, encI, hse, -List.map_set]
        refine CallK.of (c80 _ _ _) (by first | exact .inl rfl | exact .inr (by simp)) (by simp) ?_
        simp (maxSteps := 1000000) (disch := first | (exact DrawOk.mk (by decide +kernel)) | omega | simp) [wrap_i64, le_most, lt_omega, le_omega, ne_omega, allLen]
        (refine ⟨⟨(i + 1, ws.set k x, true, _), by omega, by simpa using q2, hvs, by show nzero (ws.set k x) ≤ nzero vs0; omega, fun _ => by show nzero (ws.set k x) < nzero vs0; omega, q6⟩, by (simp; try omega), ?_⟩; constructor <;> (simp (maxSteps := 1000000) (disch := first | (exact DrawOk.mk (by decide +kernel)) | omega | simp) [wrap_i64, le_most, lt_omega, le_omega, ne_omega, allLen]) <;> (try omega))
  · have q6' := q6
    rw [pass_end hlt] at q6'
    have hi : i = rs.length := by omega
    subst hi
    cases ch
    · have hr : (ws, su, (-1 : Int)) = Res := by rw [← hP]; simp only [propF, ← q6']
      simp (maxSteps := 1000000) (disch := first | (exact DrawOk.mk (by decide +kernel)) | omega | simp) [wrap_i64, le_most, lt_omega, le_omega, ne_omega, allLen]
      (refine ⟨⟨(ws, su, false, 0), q2, q3, fun h => by simp at h, fun _ => hr⟩, by (simp; try omega), ?_⟩; constructor <;> (simp (maxSteps := 1000000) (disch := first | (exact DrawOk.mk (by decide +kernel)) | omega | simp) [wrap_i64, le_most, lt_omega, le_omega, ne_omega, allLen]) <;> (try omega))
    · have hr : propF rs m0 ws su = Res := by rw [← hP]; simp only [propF, ← q6']
      have := q5 rfl
      simp (maxSteps := 1000000) (disch := first | (exact DrawOk.mk (by decide +kernel)) | omega | simp) [wrap_i64, le_most, lt_omega, le_omega, ne_omega, allLen]
      (refine ⟨⟨(ws, su, true, m0), q2, q3, fun _ => ⟨by show nzero ws < m0; omega, hr⟩, fun h => by simp at h⟩, by (simp; try omega), ?_⟩; constructor <;> (simp (maxSteps := 1000000) (disch := first | (exact DrawOk.mk (by decide +kernel)) | omega | simp) [wrap_i64, le_most, lt_omega, le_omega, ne_omega, allLen]) <;> (try omega))
end Go.Vai
/- Conclusions from rules: the reference's loop; Propagate. -/
set_option linter.unusedVariables false
set_option linter.unusedSimpArgs false
set_option maxHeartbeats 4000000
namespace Go.Vai
/-- An empty slice as it is. -/
theorem PC_raw {E : Env} {f : FuncId} {args : List AV} {rs : List RV} (h : ∀ ad c, PC E f (.i (.raw (.slice ad 0 c)) :: args) rs) : PC E f (.i (.sl []) :: args) rs := by
  refine ⟨(h none 0).goes, fun F w cargs hG hlt hsz hrep => ?_⟩
  have h0 : 0 < cargs.size := by rw [hsz]; simp
  have hr := hrep 0 _ _ rfl (Array.getElem?_eq_getElem h0)
  obtain ⟨ad, c, hv⟩ : ∃ ad c, cargs[0] = .slice ad 0 c := by
    generalize cargs[0] = v at hr
    cases hr with | i _ _ hr =>
    rcases hr.sl_inv with ⟨-, a, c, rfl⟩ | ⟨b, off, c, sz', rfl, -⟩
    · exact ⟨a, c, rfl⟩
    · exact ⟨_, c, rfl⟩
  refine (h ad c).run F w cargs hG hlt (by simpa using hsz) fun j x v hx hv' => ?_
  cases j with
  | zero =>
    obtain rfl := Option.some.inj hx
    have : v = cargs[0] := by rw [Array.getElem?_eq_getElem h0] at hv'; exact (Option.some.inj hv').symm
    rw [this, hv]
    exact .i _ _ (.raw _ rfl)
  | succ j => exact hrep (j + 1) x v (by simpa using hx) hv'
theorem cloneI (ls : List Int) (h : (ls.length : Int) ≤ 1048576) : PC E 71 [.i (.sl (ls.map encI))] [.own 1 (ls.map encI)] := by
  by_cases h0 : ls = []
  · subst h0
    refine PC_raw fun ad c => ?_
    refine PC_start hE Proofs.Try.func71 rfl rfl Proofs.Try.ntmps71 (by kernel_rfl) (by kernel_rfl) (by simp) ?_
    cases ad with
    | none => simp (maxSteps := 1000000) (disch := first | (exact DrawOk.mk (by decide +kernel)) | omega | simp) [wrap_i64, le_most, lt_omega, le_omega, ne_omega, allLen]
    | some b => simp (maxSteps := 1000000) (disch := first | (exact DrawOk.mk (by decide +kernel)) | omega | simp) [wrap_i64, le_most, lt_omega, le_omega, ne_omega, allLen]
  · exact c71 ls (List.length_pos_iff.2 h0) h
theorem pass_steps {n : Nat} : ∀ (l : List Ru) (i : Nat) (vs : List Int) (ch : Bool) (st : List Sp), allV l n → vs.length = n → valsB vs = true →
    (pass l i vs ch st).2.2.1.length + nzero (pass l i vs ch st).1 ≤ st.length + nzero vs
  | [], i, vs, ch, st, _, hn, hv => Nat.le_refl _
  | r :: l, i, vs, ch, st, ha, hn, hv => by
    have hl : allV l n := fun x hx => ha x (by simp [hx])
    have hrv := ha r (by simp)
    have hf : RFit r vs := rfit_of (by rw [hn]; exact hrv) hv
    simp only [pass]
    by_cases h1 : hol r vs < 0
    · rw [if_pos h1]; exact Nat.le_refl _
    · rw [if_neg h1]
      by_cases h2 : (forcedV r vs).2.2 = true
      · rw [if_pos h2]
        obtain ⟨k, hk, e1, e2, e3, -⟩ := forcedV_some hf h2
        have hz := nzero_set (x := (forcedV r vs).2.1) hk e2 (by rcases e3 with e | e <;> rw [e] <;> simp)
        have ek : (forcedV r vs).1.toNat = k := by rw [e1]; simp
        rw [ek]
        have := pass_steps l (i + 1) (vs.set k (forcedV r vs).2.1) true (st ++ [⟨i, (forcedV r vs).1, (forcedV r vs).2.1⟩]) hl (by simpa using hn) (valsB_put hv k e3)
        simp only [List.length_append, List.length_singleton] at this
        omega
      · rw [if_neg h2]
        exact pass_steps l (i + 1) vs ch st hl hn hv
/-- The result of Propagate. -/
def prR (rs : List Ru) (vs : List Int) : List Int × List Sp × Int := propF rs (nzero vs + 1) vs ([])
def prL (rs : List Ru) (vs : List Int) : List Int := if (rulesB rs vs.length && valsB vs) = true then (prR rs vs).1 else []
def prB (rs : List Ru) (vs : List Int) : Int := if (rulesB rs vs.length && valsB vs) = true then (prR rs vs).2.2 else 0
theorem rulesB_all {rs : List Ru} {n : Nat} (h : rulesB rs n = true) : allV rs n := fun r hr => by
  simp only [rulesB, Bool.and_eq_true, List.all_eq_true] at h
  exact h.2.2 r hr
theorem rulesB_n {rs : List Ru} {n : Nat} (h : rulesB rs n = true) : n ≤ 200 := by
  simp only [rulesB, Bool.and_eq_true] at h
  have := h.2.1; simp [inB] at this; omega
theorem c37 (rs : List Ru) (vs : List Int) (h : (rs.length : Int) ≤ 1048576) (hr : (rsum rs : Int) ≤ 1048576) (hv : (vs.length : Int) ≤ 1048576) :
    PC E 37 [.i (.sl (rs.map encR)), .i (.sl (vs.map encI))] [.own 1 ((prL rs vs).map encI), .i (.int .i64 (prB rs vs)), .i (.int .i64 (codeV rs vs))] := by
  refine PC_start hE Proofs.Try.func37 rfl rfl Proofs.Try.ntmps37 (by kernel_rfl) (by kernel_rfl) (by simp) ?_
  simp (maxSteps := 1000000) (disch := first | (exact DrawOk.mk (by decide +kernel)) | omega | simp) [wrap_i64, le_most, lt_omega, le_omega, ne_omega, allLen]
  refine CallK.of (c68 _) (by first | exact .inl rfl | exact .inr (by simp)) (by simp) ?_
  simp (maxSteps := 1000000) (disch := first | (exact DrawOk.mk (by decide +kernel)) | omega | simp) [wrap_i64, le_most, lt_omega, le_omega, ne_omega, allLen]
  refine CallK.of (c74 rs _ h hr) (by first | exact .inl rfl | exact .inr (by simp)) (by simp) ?_
  rw [← rulesB]
  unfold prL prB codeV
  cases hq : rulesB rs vs.length
  · simp (maxSteps := 1000000) (disch := first | (exact DrawOk.mk (by decide +kernel)) | omega | simp) [wrap_i64, le_most, lt_omega, le_omega, ne_omega, allLen]
  · simp (maxSteps := 1000000) (disch := first | (exact DrawOk.mk (by decide +kernel)) | omega | simp) [wrap_i64, le_most, lt_omega, le_omega, ne_omega, allLen]
    refine CallK.of (c69 vs hv) (by first | exact .inl rfl | exact .inr (by simp)) (by simp) ?_
    cases hw : valsB vs
    · simp (maxSteps := 1000000) (disch := first | (exact DrawOk.mk (by decide +kernel)) | omega | simp) [wrap_i64, le_most, lt_omega, le_omega, ne_omega, allLen]
    · have hall := rulesB_all hq
      simp (maxSteps := 1000000) (disch := first | (exact DrawOk.mk (by decide +kernel)) | omega | simp) [wrap_i64, le_most, lt_omega, le_omega, ne_omega, allLen]
      refine CallK.of (cloneI vs hv) (by first | exact .inl rfl | exact .inr (by simp)) (by simp) ?_
      simp (maxSteps := 1000000) (disch := first | (exact DrawOk.mk (by decide +kernel)) | omega | simp) [wrap_i64, le_most, lt_omega, le_omega, ne_omega, allLen]
      have hk := propF_keep hall (nzero vs + 1) vs ([]) rfl hw
      have ht : ((prR rs vs).1.map encI).take vs.length = (prR rs vs).1.map encI := by rw [List.take_of_length_le]; simp [prR, hk.1]
      refine MutK.of (c79 rs vs.length vs ([]) (nzero vs + 1) (prR rs vs) hall h rfl hv hw (Nat.lt_succ_self _) rfl) (by simp) (by simp) (by simp) (by simp) (by simp) ?_
      simp (maxSteps := 1000000) (disch := first | (exact DrawOk.mk (by decide +kernel)) | omega | simp) [wrap_i64, le_most, lt_omega, le_omega, ne_omega, allLen, ht]
theorem c86 (rs : List Ru) (n : Nat) (vs : List Int) (m : Nat) (Res : List Int × List Sp × Int) (ha : allV rs n) (hl : (rs.length : Int) ≤ 1048576) (hn : vs.length = n) (hn2 : n ≤ 200) (hv : valsB vs = true) (hm : nzero vs < m) (hR : propF rs m vs ([]) = Res) :
    PM E 86 [.i (.i (.sl (rs.map encR))), .sl ⟨1, vs.map encI⟩] [⟨1, Res.1.map encI⟩] [.own 3 (Res.2.1.map encSp), .i (.int .i64 Res.2.2)] := by
  have hk := propF_keep ha m vs ([]) hn hv
  rw [hR] at hk
  have hz0 : nzero vs ≤ n := by rw [← hn]; exact List.count_le_length
  refine PM_start hE Proofs.Try.func86 rfl rfl Proofs.Try.ntmps86 (by kernel_rfl) (by kernel_rfl) (by simp) (by simp [hk.1, hn]) ?_
  simp (maxSteps := 1000000) (disch := first | (exact DrawOk.mk (by decide +kernel)) | omega | simp) [wrap_i64, le_most, lt_omega, le_omega, ne_omega, allLen]
  refine XL.by hE (ι := { p : List Int × List Sp × Nat // p.1.length = n ∧ valsB p.1 = true ∧ nzero p.1 < p.2.2 ∧ propF rs p.2.2 p.1 p.2.1 = Res ∧ p.2.1.length + nzero p.1 ≤ n })
    (fun p => ⟨[(0, .i (.sl (rs.map encR))), (1, .own 700001 0 n), (6, .own 46 0 p.1.2.1.length)], [(46, ⟨3, p.1.2.1.map encSp⟩), (700001, ⟨1, p.1.1.map encI⟩)]⟩)
    (fun p => p.1.2.2) ⟨(vs, [], m), hn, hv, hm, hR, by simpa using hz0⟩ ⟨by simp [hn], by simp, by simp⟩ (by kernel_rfl) ?_
  rintro ⟨⟨vs0, st0, m0⟩, p1, p2, hz, hP, hb⟩
  simp only at p1 p2 hz hP hb
  cases m0 with
  | zero => omega
  | succ m0 =>
  simp (maxSteps := 1000000) (disch := first | (exact DrawOk.mk (by decide +kernel)) | omega | simp) [wrap_i64, le_most, lt_omega, le_omega, ne_omega, allLen]
  refine XL.by hE (ι := { q : Nat × List Int × Bool × List Sp // q.1 ≤ rs.length ∧ q.2.1.length = n ∧ valsB q.2.1 = true ∧ nzero q.2.1 ≤ nzero vs0 ∧ (q.2.2.1 = true → nzero q.2.1 < nzero vs0) ∧ pass (rs.drop q.1) q.1 q.2.1 q.2.2.1 q.2.2.2 = pass rs 0 vs0 false st0 ∧ q.2.2.2.length + nzero q.2.1 ≤ n })
    (fun q => ⟨[(0, .i (.sl (rs.map encR))), (1, .own 700001 0 n), (6, .own 46 0 q.1.2.2.2.length), (7, .i (.bool q.1.2.2.1)), (8, .i (.int .i64 q.1.1))], [(46, ⟨3, q.1.2.2.2.map encSp⟩), (700001, ⟨1, q.1.2.1.map encI⟩)]⟩)
    (fun q => rs.length - q.1.1) ⟨(0, vs0, false, st0), Nat.zero_le _, p1, p2, Nat.le_refl _, fun h => by simp at h, rfl, hb⟩ ⟨by simp, by simp, by simp⟩ (by kernel_rfl) ?_
  rintro ⟨⟨i, ws, ch, su⟩, q1, q2, q3, q4, q5, q6, q7⟩
  simp only at q1 q2 q3 q4 q5 q6 q7
  have ht : (ws.map encI).take n = ws.map encI := by rw [List.take_of_length_le (by simp; omega)]
  by_cases hlt : i < rs.length
  · have hrv : rv rs[i] n = true := ha _ (List.getElem_mem hlt)
    have hrv2 : rv rs[i] ws.length = true := by rw [q2]; exact hrv
    have hf : RFit rs[i] ws := rfit_of hrv2 q3
    simp (maxSteps := 1000000) (disch := first | (exact DrawOk.mk (by decide +kernel)) | omega | simp) [wrap_i64, le_most, lt_omega, le_omega, ne_omega, allLen, hlt, ht]
    refine CallK.of (c73 rs[i] ws hf (rv_small hrv)) (by first | exact .inl rfl | exact .inr (by simp)) (by simp) ?_
    rw [shol_hol hrv2 hf]
    simp (maxSteps := 1000000) (disch := first | (exact DrawOk.mk (by decide +kernel)) | omega | simp) [wrap_i64, le_most, lt_omega, le_omega, ne_omega, allLen]
    (first | refine Gd.dec (fun h1 => ?_) (fun h1 => ?_) | refine Gd.intro (fun h1 => ?_) (fun h1 => ?_)) <;> simp (maxSteps := 1000000) (disch := first | (exact DrawOk.mk (by decide +kernel)) | omega | simp) [wrap_i64, le_most, lt_omega, le_omega, ne_omega, allLen, h1]
    · rw [pass_clash hlt h1] at q6
      have hr : (ws, su, (i : Int)) = Res := by rw [← hP]; simp only [propF, ← q6]
      subst hr
      simp (maxSteps := 1000000) (disch := first | (exact DrawOk.mk (by decide +kernel)) | omega | simp) [wrap_i64, le_most, lt_omega, le_omega, ne_omega, allLen]
    · have cf := c65 rs[i] ws hrv2 hf (rv_small hrv) (by omega)
      refine MutK.of cf (by simp [q2]) (by simp) (by simp) (by simp) (by simp) ?_
      cases h2 : (forcedV rs[i] ws).2.2
      · have e1 : sfo rs[i] ws = (-1, 0) := by simp [sfo, h2]
        rw [pass_skip hlt h1 (by rw [h2]; simp)] at q6
        simp (maxSteps := 1000000) (disch := first | (exact DrawOk.mk (by decide +kernel)) | omega | simp) [wrap_i64, le_most, lt_omega, le_omega, ne_omega, allLen, e1]
        (refine ⟨⟨(i + 1, ws, ch, su), by omega, q2, q3, q4, q5, q6, q7⟩, by (simp; try omega), ?_⟩; constructor <;> (simp (maxSteps := 1000000) (disch := first | (exact DrawOk.mk (by decide +kernel)) | omega | simp) [wrap_i64, le_most, lt_omega, le_omega, ne_omega, allLen]) <;> (try omega))
      · have e0 : sfo rs[i] ws = ((forcedV rs[i] ws).1, (forcedV rs[i] ws).2.1) := by simp [sfo, h2]
        rw [pass_force hlt h1 h2] at q6
        obtain ⟨k, hk1, e1, e2, e3, -⟩ := forcedV_some hf h2
        have hzs := nzero_set (x := (forcedV rs[i] ws).2.1) hk1 e2 (by rcases e3 with e | e <;> rw [e] <;> simp)
        have ek : (forcedV rs[i] ws).1.toNat = k := by rw [e1]; simp
        rw [ek] at q6
        rw [e1] at q6 e0
        have hkn : k < n := by omega
        have hse := set_enc ws k (forcedV rs[i] ws).2.1
        have hvs := valsB_put q3 k e3
        generalize (forcedV rs[i] ws).2.1 = x at *
        simp (maxSteps := 1000000) (disch := first | (exact DrawOk.mk (by decide +kernel)) | omega | simp) [wrap_i64, le_most, lt_omega, le_omega, ne_omega, allLen, e0, hkn, hk1, encI, hse, -List.map_set]
        (refine ⟨⟨(i + 1, ws.set k x, true, _), by omega, by simpa using q2, hvs, by show nzero (ws.set k x) ≤ nzero vs0; omega, fun _ => by show nzero (ws.set k x) < nzero vs0; omega, q6, by show (su ++ [_]).length + nzero (ws.set k x) ≤ n; simp; omega⟩, by (simp; try omega), ?_⟩; constructor <;> (simp (maxSteps := 1000000) (disch := first | (exact DrawOk.mk (by decide +kernel)) | omega | simp) [wrap_i64, le_most, lt_omega, le_omega, ne_omega, allLen, encSp]) <;> (try omega))
  · have q6' := q6
    rw [pass_end hlt] at q6'
    have hi : i = rs.length := by omega
    subst hi
    cases ch
    · have hr : (ws, su, (-1 : Int)) = Res := by rw [← hP]; simp only [propF, ← q6']
      subst hr
      simp (maxSteps := 1000000) (disch := first | (exact DrawOk.mk (by decide +kernel)) | omega | simp) [wrap_i64, le_most, lt_omega, le_omega, ne_omega, allLen]
    · have hr : propF rs m0 ws su = Res := by rw [← hP]; simp only [propF, ← q6']
      have := q5 rfl
      simp (maxSteps := 1000000) (disch := first | (exact DrawOk.mk (by decide +kernel)) | omega | simp) [wrap_i64, le_most, lt_omega, le_omega, ne_omega, allLen]
      (refine ⟨⟨(ws, su, m0), q2, q3, by show nzero ws < m0; omega, hr, q7⟩, by (simp; try omega), ?_⟩; constructor <;> (simp (maxSteps := 1000000) (disch := first | (exact DrawOk.mk (by decide +kernel)) | omega | simp) [wrap_i64, le_most, lt_omega, le_omega, ne_omega, allLen]) <;> (try omega))
theorem c45 (rs : List Ru) (vs : List Int) (h : (rs.length : Int) ≤ 1048576) (hr : (rsum rs : Int) ≤ 1048576) (hv : (vs.length : Int) ≤ 1048576) :
    PC E 45 [.i (.sl (rs.map encR)), .i (.sl (vs.map encI))] [.own 1 ((prL rs vs).map encI), .i (.int .i64 (prB rs vs)), .i (.int .i64 (codeV rs vs))] := by
  refine PC_start hE Proofs.Try.func45 rfl rfl Proofs.Try.ntmps45 (by kernel_rfl) (by kernel_rfl) (by simp) ?_
  simp (maxSteps := 1000000) (disch := first | (exact DrawOk.mk (by decide +kernel)) | omega | simp) [wrap_i64, le_most, lt_omega, le_omega, ne_omega, allLen]
  refine CallK.of (c72 rs _ h hr) (by first | exact .inl rfl | exact .inr (by simp)) (by simp) ?_
  rw [← rulesB]
  unfold prL prB codeV
  cases hq : rulesB rs vs.length
  · simp (maxSteps := 1000000) (disch := first | (exact DrawOk.mk (by decide +kernel)) | omega | simp) [wrap_i64, le_most, lt_omega, le_omega, ne_omega, allLen]
  · simp (maxSteps := 1000000) (disch := first | (exact DrawOk.mk (by decide +kernel)) | omega | simp) [wrap_i64, le_most, lt_omega, le_omega, ne_omega, allLen]
    refine CallK.of (c64 vs hv) (by first | exact .inl rfl | exact .inr (by simp)) (by simp) ?_
    cases hw : valsB vs
    · simp (maxSteps := 1000000) (disch := first | (exact DrawOk.mk (by decide +kernel)) | omega | simp) [wrap_i64, le_most, lt_omega, le_omega, ne_omega, allLen]
    · have hall := rulesB_all hq
      simp (maxSteps := 1000000) (disch := first | (exact DrawOk.mk (by decide +kernel)) | omega | simp) [wrap_i64, le_most, lt_omega, le_omega, ne_omega, allLen]
      refine CallK.of (c66 vs hv) (by first | exact .inl rfl | exact .inr (by simp)) (by simp) ?_
      simp (maxSteps := 1000000) (disch := first | (exact DrawOk.mk (by decide +kernel)) | omega | simp) [wrap_i64, le_most, lt_omega, le_omega, ne_omega, allLen]
      have hk := propF_keep hall (nzero vs + 1) vs ([]) rfl hw
      have ht : ((prR rs vs).1.map encI).take vs.length = (prR rs vs).1.map encI := by rw [List.take_of_length_le]; simp [prR, hk.1]
      refine MutK.of (c86 rs vs.length vs (nzero vs + 1) (prR rs vs) hall h rfl (rulesB_n hq) hw (Nat.lt_succ_self _) rfl) (by simp) (by simp) (by simp) (by simp) (by simp) ?_
      simp (maxSteps := 1000000) (disch := first | (exact DrawOk.mk (by decide +kernel)) | omega | simp) [wrap_i64, le_most, lt_omega, le_omega, ne_omega, allLen, ht]
end Go.Vai
/- The law of Propagate. -/
set_option linter.unusedVariables false
set_option linter.unusedSimpArgs false
set_option maxHeartbeats 4000000
set_option maxRecDepth 20000
namespace Go.Vai
open Go.RowKit (Below)
theorem c9 (ls : List Ru) (vs : List Int) (h : ls.length ≤ maxLen) (hf : ∀ x ∈ ls, x.fine) (hv : vs.length ≤ maxLen) : PC E 9 [.i (.sl (ls.map encR)), .i (.sl (vs.map encI))] [.i (.bool true)] := by
  refine law_start hE Proofs.Try.func9 rfl rfl Proofs.Try.ntmps9 (by kernel_rfl) (by simp) fun F w a hx hf0 => ?_
  -- is it too long?
  by_cases hbig : (vs.length : Int) ≤ 1048576 ∧ (ls.length : Int) + rsum ls ≤ 1048576
  rotate_left
  · refine segEnd hE hx (Back.refl _ _) hf0 (by kernel_rfl) ?_
    simp (maxSteps := 1000000) (disch := first | (exact DrawOk.mk (by decide +kernel)) | omega | simp) [wrap_i64, le_most, lt_omega, le_omega, ne_omega, allLen]
    (first | refine Gd.dec (fun h1 => ?_) (fun h1 => ?_) | refine Gd.intro (fun h1 => ?_) (fun h1 => ?_)) <;> simp (maxSteps := 1000000) (disch := first | (exact DrawOk.mk (by decide +kernel)) | omega | simp) [wrap_i64, le_most, lt_omega, le_omega, ne_omega, allLen, h1]
    refine CallK.of (c27 ls 1048576 (by omega) (by omega) h hf) (by first | exact .inl rfl | exact .inr (by simp)) (by simp) ?_
    simp (maxSteps := 1000000) (disch := first | (exact DrawOk.mk (by decide +kernel)) | omega | simp) [wrap_i64, le_most, lt_omega, le_omega, ne_omega, allLen]
  obtain ⟨g3, g4⟩ := hbig
  have g1 : (ls.length : Int) ≤ 1048576 := by omega
  have g2 : (rsum ls : Int) ≤ 1048576 := by omega
  have hvl2 : (prL ls vs).length ≤ vs.length := by
    unfold prL
    split
    · rename_i hh
      simp only [Bool.and_eq_true] at hh
      have := (propF_keep (rulesB_all hh.1) (nzero vs + 1) vs ([]) rfl hh.2).1
      simp [prR, this]
    · simp
  generalize hV : prL ls vs = V at *
  generalize hB : prB ls vs = B at *
  generalize hC : codeV ls vs = C at *
  refine seg hE 5 ⟨[(0, .i (.sl (ls.map encR))), (1, .i (.sl (vs.map encI))), (6, .own 33 0 V.length), (7, .i (.int .i64 B)), (8, .i (.int .i64 C))], [(33, ⟨1, V.map encI⟩)]⟩ hx (Back.refl _ _) hf0 (by kernel_rfl) (by kernel_rfl) ?_ fun a w1 hf1 => ?_
  · have e0 : ¬ ((1048576 : Int) < vs.length) := by omega
    simp (maxSteps := 1000000) (disch := first | (exact DrawOk.mk (by decide +kernel)) | omega | simp) [wrap_i64, le_most, lt_omega, le_omega, ne_omega, allLen, cutN, e0]
    refine CallK.of (c27 ls 1048576 (by omega) (by omega) h hf) (by first | exact .inl rfl | exact .inr (by simp)) (by simp) ?_
    have e : ¬ ((1048576 : Int) - ls.length - rsum ls < 0) := by omega
    simp (maxSteps := 1000000) (disch := first | (exact DrawOk.mk (by decide +kernel)) | omega | simp) [wrap_i64, le_most, lt_omega, le_omega, ne_omega, allLen, e]
    refine CallK.of (c29 ls g1 g2) (by first | exact .inl rfl | exact .inr (by simp)) (by simp) ?_
    simp (maxSteps := 1000000) (disch := first | (exact DrawOk.mk (by decide +kernel)) | omega | simp) [wrap_i64, le_most, lt_omega, le_omega, ne_omega, allLen]
    refine CallK.of (c23 vs g3) (by first | exact .inl rfl | exact .inr (by simp)) (by simp) ?_
    simp (maxSteps := 1000000) (disch := first | (exact DrawOk.mk (by decide +kernel)) | omega | simp) [wrap_i64, le_most, lt_omega, le_omega, ne_omega, allLen]
    refine CallK.of (c45 ls vs g1 g2 g3) (by first | exact .inl rfl | exact .inr (by simp)) (by simp) ?_
    rw [hV, hB, hC]
    simp (maxSteps := 1000000) (disch := first | (exact DrawOk.mk (by decide +kernel)) | omega | simp) [wrap_i64, le_most, lt_omega, le_omega, ne_omega, allLen]
    exact ⟨by simp (maxSteps := 1000000) (disch := first | (exact DrawOk.mk (by decide +kernel)) | omega | simp) [wrap_i64, le_most, lt_omega, le_omega, ne_omega, allLen], by simp (maxSteps := 1000000) (disch := first | (exact DrawOk.mk (by decide +kernel)) | omega | simp) [wrap_i64, le_most, lt_omega, le_omega, ne_omega, allLen], by simp (maxSteps := 1000000) (disch := first | (exact DrawOk.mk (by decide +kernel)) | omega | simp) [wrap_i64, le_most, lt_omega, le_omega, ne_omega, allLen]⟩
  simp only [restN]
  refine wp_seq (region_hand hE 1 (S1 := ⟨[(37, .i (.sl (ls.map encR))), (0, .i (.sl (ls.map encR))), (1, .i (.sl (vs.map encI))), (6, .own 33 0 V.length), (7, .i (.int .i64 B)), (8, .i (.int .i64 C))], [(33, ⟨1, V.map encI⟩)]⟩) hx hf1 (by kernel_rfl) rfl rfl ?_ fun a w2 hf2 => ?_)
  · simp (maxSteps := 1000000) (disch := first | (exact DrawOk.mk (by decide +kernel)) | omega | simp) [wrap_i64, le_most, lt_omega, le_omega, ne_omega, allLen]
    exact ⟨by simp (maxSteps := 1000000) (disch := first | (exact DrawOk.mk (by decide +kernel)) | omega | simp) [wrap_i64, le_most, lt_omega, le_omega, ne_omega, allLen], by simp (maxSteps := 1000000) (disch := first | (exact DrawOk.mk (by decide +kernel)) | omega | simp) [wrap_i64, le_most, lt_omega, le_omega, ne_omega, allLen], by simp (maxSteps := 1000000) (disch := first | (exact DrawOk.mk (by decide +kernel)) | omega | simp) [wrap_i64, le_most, lt_omega, le_omega, ne_omega, allLen]⟩
  refine Oper.wp_mono ?_ (deepCall_wp hx hf2 (d := 38) rfl (by decide) (vs := [.i (.sl (ls.map encR))]) (by simp) (by simp) rfl (PDRules ls g1 g2) [(0, .i (.sl (ls.map encR))), (1, .i (.sl (vs.map encI)))] (by simp [fixB]) _)
  rintro a' w' ⟨z1, F1, R1, v1, us, hz1, hx1, hb1, h01, hFR1, hG1, hm1, ht1, hps, hf3⟩
  have hp0 := hps (0, .i (.sl (ls.map encR))) (by simp)
  have hp1 := hps (1, .i (.sl (vs.map encI))) (by simp)
  simp only at hp0 hp1
  subst hz1
  simp only [pinT, List.map_cons, List.map_nil, List.cons_append, List.nil_append] at hf3
  generalize us 0 = u0 at *
  generalize us 1 = u1 at *
  clear hps hf2 hf1 hf0
  refine ⟨z1, _, _, ⟨[(0, .pin u0 (.i (.sl (ls.map encR)))), (1, .pin u1 (.i (.sl (vs.map encI)))), (9, .pin v1 (.i (.sl (ls.map encR)))), (6, .own 33 0 V.length), (7, .i (.int .i64 B)), (8, .i (.int .i64 C))], [(33, ⟨1, V.map encI⟩)]⟩, hx1, hf3, ?_, fun a w3 hf4 => ?_⟩
  · simp (maxSteps := 1000000) (disch := first | (exact DrawOk.mk (by decide +kernel)) | omega | simp) [wrap_i64, le_most, lt_omega, le_omega, ne_omega, allLen]
    exact ⟨by simp (maxSteps := 1000000) (disch := first | (exact DrawOk.mk (by decide +kernel)) | omega | simp) [wrap_i64, le_most, lt_omega, le_omega, ne_omega, allLen], by simp (maxSteps := 1000000) (disch := first | (exact DrawOk.mk (by decide +kernel)) | omega | simp) [wrap_i64, le_most, lt_omega, le_omega, ne_omega, allLen], by simp (maxSteps := 1000000) (disch := first | (exact DrawOk.mk (by decide +kernel)) | omega | simp) [wrap_i64, le_most, lt_omega, le_omega, ne_omega, allLen]⟩
  show Code.wp _ _ _ _ _
  refine seg hE 5 ⟨[(0, .pin u0 (.i (.sl (ls.map encR)))), (1, .pin u1 (.i (.sl (vs.map encI)))), (9, .pin v1 (.i (.sl (ls.map encR)))), (6, .own 33 0 V.length), (7, .i (.int .i64 B)), (8, .i (.int .i64 C)), (10, .own 40 0 vs.length), (11, .own 44 0 V.length), (12, .i (.int .i64 B)), (13, .i (.int .i64 C)), (14, .i (.int .i64 1))],
    [(33, ⟨1, V.map encI⟩), (40, ⟨1, vs.map encI⟩), (44, ⟨1, V.map encI⟩)]⟩ hx1 hb1 hf4 (by kernel_rfl) (by kernel_rfl) ?_ fun a w5 hf5 => ?_
  · simp (maxSteps := 1000000) (disch := first | (exact DrawOk.mk (by decide +kernel)) | omega | simp) [wrap_i64, le_most, lt_omega, le_omega, ne_omega, allLen, cutN]
    refine CallK.of (c23 vs g3) (by first | exact .inl rfl | exact .inr (by simp)) (by simp) ?_
    simp (maxSteps := 1000000) (disch := first | (exact DrawOk.mk (by decide +kernel)) | omega | simp) [wrap_i64, le_most, lt_omega, le_omega, ne_omega, allLen]
    refine CallK.of (c37 ls vs g1 g2 g3) (by first | exact .inl rfl | exact .inr (by simp)) (by simp) ?_
    rw [hV, hB, hC]
    simp (maxSteps := 1000000) (disch := first | (exact DrawOk.mk (by decide +kernel)) | omega | simp) [wrap_i64, le_most, lt_omega, le_omega, ne_omega, allLen]
    refine CallK.of (c26 V V (by omega) (by omega)) (by first | exact .inl rfl | exact .inr (by simp)) (by simp) ?_
    simp (maxSteps := 1000000) (disch := first | (exact DrawOk.mk (by decide +kernel)) | omega | simp) [wrap_i64, le_most, lt_omega, le_omega, ne_omega, allLen]
    refine CallK.of (c29 ls g1 g2) (by first | exact .inl rfl | exact .inr (by simp)) (by simp) ?_
    simp (maxSteps := 1000000) (disch := first | (exact DrawOk.mk (by decide +kernel)) | omega | simp) [wrap_i64, le_most, lt_omega, le_omega, ne_omega, allLen]
    refine CallK.of (c31 ls ls g1 g1 g2 g2) (by first | exact .inl rfl | exact .inr (by simp)) (by simp) ?_
    simp (maxSteps := 1000000) (disch := first | (exact DrawOk.mk (by decide +kernel)) | omega | simp) [wrap_i64, le_most, lt_omega, le_omega, ne_omega, allLen]
    refine CallK.of (c23 vs g3) (by first | exact .inl rfl | exact .inr (by simp)) (by simp) ?_
    simp (maxSteps := 1000000) (disch := first | (exact DrawOk.mk (by decide +kernel)) | omega | simp) [wrap_i64, le_most, lt_omega, le_omega, ne_omega, allLen]
    refine CallK.of (c26 vs vs g3 g3) (by first | exact .inl rfl | exact .inr (by simp)) (by simp) ?_
    simp (maxSteps := 1000000) (disch := first | (exact DrawOk.mk (by decide +kernel)) | omega | simp) [wrap_i64, le_most, lt_omega, le_omega, ne_omega, allLen]
    exact ⟨by simp (maxSteps := 1000000) (disch := first | (exact DrawOk.mk (by decide +kernel)) | omega | simp) [wrap_i64, le_most, lt_omega, le_omega, ne_omega, allLen], by simp (maxSteps := 1000000) (disch := first | (exact DrawOk.mk (by decide +kernel)) | omega | simp) [wrap_i64, le_most, lt_omega, le_omega, ne_omega, allLen], by simp (maxSteps := 1000000) (disch := first | (exact DrawOk.mk (by decide +kernel)) | omega | simp) [wrap_i64, le_most, lt_omega, le_omega, ne_omega, allLen]⟩
  simp only [restN]
  refine wp_seq (region_hand hE 2 (S1 := ⟨[(72, .pin v1 (.i (.sl (ls.map encR)))), (73, .i (.int .i64 1)), (0, .pin u0 (.i (.sl (ls.map encR)))), (1, .pin u1 (.i (.sl (vs.map encI)))), (6, .own 33 0 V.length), (7, .i (.int .i64 B)), (8, .i (.int .i64 C)), (10, .own 40 0 vs.length), (11, .own 44 0 V.length), (12, .i (.int .i64 B)), (13, .i (.int .i64 C))],
    [(33, ⟨1, V.map encI⟩), (40, ⟨1, vs.map encI⟩), (44, ⟨1, V.map encI⟩)]⟩) hx1 hf5 (by kernel_rfl) rfl rfl ?_ fun a w6 hf6 => ?_)
  · simp (maxSteps := 1000000) (disch := first | (exact DrawOk.mk (by decide +kernel)) | omega | simp) [wrap_i64, le_most, lt_omega, le_omega, ne_omega, allLen]
    exact ⟨by simp (maxSteps := 1000000) (disch := first | (exact DrawOk.mk (by decide +kernel)) | omega | simp) [wrap_i64, le_most, lt_omega, le_omega, ne_omega, allLen], by simp (maxSteps := 1000000) (disch := first | (exact DrawOk.mk (by decide +kernel)) | omega | simp) [wrap_i64, le_most, lt_omega, le_omega, ne_omega, allLen], by simp (maxSteps := 1000000) (disch := first | (exact DrawOk.mk (by decide +kernel)) | omega | simp) [wrap_i64, le_most, lt_omega, le_omega, ne_omega, allLen]⟩
  have hfl : ∀ l : List Int, flatO ⟨1, l.map encI⟩ := fun l el hel => by
    obtain ⟨a, -, rfl⟩ := List.mem_map.1 hel
    exact flat_encI a
  refine Oper.wp_mono ?_ (meltCall_wp hx1 hb1 hf6 h01 hFR1 hG1 hm1 ht1 (d := 74) rfl (by decide) rfl (by simp [look_cons]) (by simp [look_cons]) (PWRules ls 1 (by omega) (by omega))
    [(0, .pin u0 (.i (.sl (ls.map encR)))), (1, .pin u1 (.i (.sl (vs.map encI)))), (6, .own 33 0 V.length), (7, .i (.int .i64 B)), (8, .i (.int .i64 C)), (10, .own 40 0 vs.length), (11, .own 44 0 V.length), (12, .i (.int .i64 B)), (13, .i (.int .i64 C))]
    ⟨⟨by simp [look_cons], .inr (.inr ⟨_, _, rfl, rfl, hp0⟩)⟩, ⟨by simp [look_cons], .inr (.inr ⟨_, _, rfl, rfl, hp1⟩)⟩, ⟨by simp [look_cons], .inr (.inl ⟨_, _, _, rfl⟩)⟩, ⟨by simp [look_cons], .inl ⟨_, rfl, rfl⟩⟩, ⟨by simp [look_cons], .inl ⟨_, rfl, rfl⟩⟩, ⟨by simp [look_cons], .inr (.inl ⟨_, _, _, rfl⟩)⟩, ⟨by simp [look_cons], .inr (.inl ⟨_, _, _, rfl⟩)⟩, ⟨by simp [look_cons], .inl ⟨_, rfl, rfl⟩⟩, ⟨by simp [look_cons], .inl ⟨_, rfl, rfl⟩⟩, trivial⟩
    ⟨hfl _, hfl _, hfl _, trivial⟩ _)
  rintro a' w' ⟨z2, hx2, hb2, hf7⟩
  refine ⟨z2, F1, _, ⟨[(0, .pin u0 (.i (.sl (ls.map encR)))), (1, .pin u1 (.i (.sl (vs.map encI)))), (14, .i (.int .i64 (1 + ls.length + rsum ls))), (6, .own 33 0 V.length), (7, .i (.int .i64 B)), (8, .i (.int .i64 C)), (10, .own 40 0 vs.length), (11, .own 44 0 V.length), (12, .i (.int .i64 B)), (13, .i (.int .i64 C))],
    [(33, ⟨1, V.map encI⟩), (40, ⟨1, vs.map encI⟩), (44, ⟨1, V.map encI⟩)]⟩, hx2, hf7, ?_, fun a w8 hf8 => ?_⟩
  · simp (maxSteps := 1000000) (disch := first | (exact DrawOk.mk (by decide +kernel)) | omega | simp) [wrap_i64, le_most, lt_omega, le_omega, ne_omega, allLen]
    exact ⟨by simp (maxSteps := 1000000) (disch := first | (exact DrawOk.mk (by decide +kernel)) | omega | simp) [wrap_i64, le_most, lt_omega, le_omega, ne_omega, allLen], by simp (maxSteps := 1000000) (disch := first | (exact DrawOk.mk (by decide +kernel)) | omega | simp) [wrap_i64, le_most, lt_omega, le_omega, ne_omega, allLen], by simp (maxSteps := 1000000) (disch := first | (exact DrawOk.mk (by decide +kernel)) | omega | simp) [wrap_i64, le_most, lt_omega, le_omega, ne_omega, allLen]⟩
  show Code.wp _ _ _ _ _
  refine segEnd hE hx2 hb2 hf8 (by kernel_rfl) ?_
  simp (maxSteps := 1000000) (disch := first | (exact DrawOk.mk (by decide +kernel)) | omega | simp) [wrap_i64, le_most, lt_omega, le_omega, ne_omega, allLen]
  refine MutK.of (c33 vs (1 + ls.length + rsum ls) (by omega) (by omega)) (by simp) (by simp) (by simp) (by simp) (by simp) ?_
  have e1 : ¬ ((1 : Int) + ls.length + rsum ls + vs.length < 0) := by omega
  simp (maxSteps := 1000000) (disch := first | (exact DrawOk.mk (by decide +kernel)) | omega | simp) [wrap_i64, le_most, lt_omega, le_omega, ne_omega, allLen, e1]
  refine CallK.of (c26 V V (by omega) (by omega)) (by first | exact .inl rfl | exact .inr (by simp)) (by simp) ?_
  simp (maxSteps := 1000000) (disch := first | (exact DrawOk.mk (by decide +kernel)) | omega | simp) [wrap_i64, le_most, lt_omega, le_omega, ne_omega, allLen]
  refine MutK.of (c33 V 1 (by omega) (by omega)) (by simp) (by simp) (by simp) (by simp) (by simp) ?_
  have htm : ((marks 1 V.length).map encI).take V.length = (marks 1 V.length).map encI := by rw [List.take_of_length_le (by simp)]
  simp (maxSteps := 1000000) (disch := first | (exact DrawOk.mk (by decide +kernel)) | omega | simp) [wrap_i64, le_most, lt_omega, le_omega, ne_omega, allLen, htm]
  refine CallK.of (c34 V.length 1 (by omega) (by omega)) (by first | exact .inl rfl | exact .inr (by simp)) (by simp) ?_
  have e2 : ¬ ((1 : Int) + V.length < 0) := by omega
  simp (maxSteps := 1000000) (disch := first | (exact DrawOk.mk (by decide +kernel)) | omega | simp) [wrap_i64, le_most, lt_omega, le_omega, ne_omega, allLen, e2]
  refine CallK.of (c29 ls g1 g2) (by first | exact .inl rfl | exact .inr (by simp)) (by simp) ?_
  simp (maxSteps := 1000000) (disch := first | (exact DrawOk.mk (by decide +kernel)) | omega | simp) [wrap_i64, le_most, lt_omega, le_omega, ne_omega, allLen]
  refine CallK.of (c23 vs g3) (by first | exact .inl rfl | exact .inr (by simp)) (by simp) ?_
  simp (maxSteps := 1000000) (disch := first | (exact DrawOk.mk (by decide +kernel)) | omega | simp) [wrap_i64, le_most, lt_omega, le_omega, ne_omega, allLen]
  refine CallK.of (c37 ls vs g1 g2 g3) (by first | exact .inl rfl | exact .inr (by simp)) (by simp) ?_
  rw [hV, hB, hC]
  simp (maxSteps := 1000000) (disch := first | (exact DrawOk.mk (by decide +kernel)) | omega | simp) [wrap_i64, le_most, lt_omega, le_omega, ne_omega, allLen]
  refine CallK.of (c26 V V (by omega) (by omega)) (by first | exact .inl rfl | exact .inr (by simp)) (by simp) ?_
  simp (maxSteps := 1000000) (disch := first | (exact DrawOk.mk (by decide +kernel)) | omega | simp) [wrap_i64, le_most, lt_omega, le_omega, ne_omega, allLen, htm]
  refine CallK.of (c34 V.length 1 (by omega) (by omega)) (by first | exact .inl rfl | exact .inr (by simp)) (by simp) ?_
  simp (maxSteps := 1000000) (disch := first | (exact DrawOk.mk (by decide +kernel)) | omega | simp) [wrap_i64, le_most, lt_omega, le_omega, ne_omega, allLen, e2]
end Go.Vai
