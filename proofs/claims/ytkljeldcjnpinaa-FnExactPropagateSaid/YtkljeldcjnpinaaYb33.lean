/- Merged texts of this claim: Zx3, Zx4, Zx6. -/
import Derived.Test.YtkljeldcjnpinaaYb32
import Derived.Test.YtkljeldcjnpinaaYb31
/- Marks of numbers; rules, made anew as trees. -/
set_option linter.unusedVariables false
set_option linter.unusedSimpArgs false
set_option maxHeartbeats 4000000
set_option maxRecDepth 20000
namespace Go.Vai
def marks (k : Int) (n : Nat) : List Int := (List.range n).map fun i : Nat => k + (i : Int)
@[simp] theorem marks_len (k : Int) (n : Nat) : (marks k n).length = n := by simp [marks]
theorem marks_set (k : Int) (vs : List Int) (q : Nat) (hq : q < vs.length) : ((marks k q ++ vs.drop q).map encI).set q [.int .i64 (k + q)] = (marks k (q + 1) ++ vs.drop (q + 1)).map encI := by
  rw [set_enc]
  congr 1
  rw [List.set_append_right _ _ (by simp), marks_len, Nat.sub_self, List.drop_eq_getElem_cons hq, List.set_cons_zero]
  simp [marks, List.range_succ]
theorem c33 (vs : List Int) (k : Int) (h0 : 0 ≤ k) (h1 : k + vs.length ≤ 1099511627776) : PM E 33 [.sl ⟨1, vs.map encI⟩, .i (.i (.int .i64 k))] [⟨1, (marks k vs.length).map encI⟩] [.i (.int .i64 (k + vs.length))] := by
  refine PM_start hE Proofs.Try.func33 rfl rfl Proofs.Try.ntmps33 (by kernel_rfl) (by kernel_rfl) (by simp) (by simp) ?_
  simp (maxSteps := 1000000) (disch := first | (exact DrawOk.mk (by decide +kernel)) | omega | simp) [wrap_i64, le_most, lt_omega, le_omega, ne_omega, allLen]
  refine XL.by hE (ι := { q : Nat // q ≤ vs.length }) (fun q => ⟨[(0, .own 700000 0 vs.length), (1, .i (.int .i64 (k + q.1))), (5, .i (.int .i64 q.1))], [(700000, ⟨1, (marks k q.1 ++ vs.drop q.1).map encI⟩)]⟩)
    (fun q => vs.length - q.1) ⟨0, Nat.zero_le _⟩ ⟨by simp, by simp [marks], by simp⟩ (by kernel_rfl) ?_
  rintro ⟨q, hq⟩
  by_cases hlt : q < vs.length
  · have hs := marks_set k vs q hlt
    have hl : (marks k q ++ vs.drop q).length = vs.length := by simp; omega
    have hg : (marks k q ++ vs.drop q)[q]? = some vs[q] := by rw [List.getElem?_append_right (by simp)]; simp [hlt]
    have hg2 : ((marks k q ++ vs.drop q).map encI)[q]? = some [.int .i64 vs[q]] := by rw [List.getElem?_map, hg]; rfl
    have hAl : ((marks k q ++ vs.drop q).map encI).length = vs.length := by rw [List.length_map]; exact hl
    generalize (marks k q ++ vs.drop q).map encI = A at *
    obtain ⟨hq2, hg4⟩ := List.getElem?_eq_some_iff.1 hg2
    simp (maxSteps := 1000000) (disch := first | (exact DrawOk.mk (by decide +kernel)) | omega | simp) [wrap_i64, le_most, lt_omega, le_omega, ne_omega, allLen, hlt, hg4, hAl]
    (refine ⟨⟨q + 1, by omega⟩, by (simp; try omega), ?_⟩; constructor <;> (simp (maxSteps := 1000000) (disch := first | (exact DrawOk.mk (by decide +kernel)) | omega | simp) [wrap_i64, le_most, lt_omega, le_omega, ne_omega, allLen, hs, -List.map_append]) <;> (try omega))
    rw [List.map_append, List.map_drop]
  · obtain rfl : q = vs.length := by omega
    simp (maxSteps := 1000000) (disch := first | (exact DrawOk.mk (by decide +kernel)) | omega | simp) [wrap_i64, le_most, lt_omega, le_omega, ne_omega, allLen, hlt]
theorem mark0 (s : Nat) (k : Int) : PM E 33 [.sl ⟨s, []⟩, .i (.i (.int .i64 k))] [⟨s, []⟩] [.i (.int .i64 k)] := by
  refine PM_start hE Proofs.Try.func33 rfl rfl Proofs.Try.ntmps33 (by kernel_rfl) (by kernel_rfl) (by simp) (by simp) ?_
  simp (maxSteps := 1000000) (disch := first | (exact DrawOk.mk (by decide +kernel)) | omega | simp) [wrap_i64, le_most, lt_omega, le_omega, ne_omega, allLen]
  refine XL.by hE (ι := Unit) (fun _ => ⟨[(0, .own 700000 0 0), (1, .i (.int .i64 k)), (5, .i (.int .i64 0))], [(700000, ⟨s, []⟩)]⟩)
    (fun _ => 0) () ⟨by simp, by simp, by simp⟩ (by kernel_rfl) ?_
  rintro ⟨⟩
  simp (maxSteps := 1000000) (disch := first | (exact DrawOk.mk (by decide +kernel)) | omega | simp) [wrap_i64, le_most, lt_omega, le_omega, ne_omega, allLen]
theorem numI (vs : List Int) : ∀ el ∈ vs.map encI, ∀ x ∈ el, x.num = true := fun el hel x hx => by
  obtain ⟨a, -, rfl⟩ := List.mem_map.1 hel
  simp [encI] at hx; subst hx; rfl
theorem PDInt (vs : List Int) (h : (vs.length : Int) ≤ 1048576) : PD E 23 [.i (.sl (vs.map encI))] (.i (.sl (vs.map encI))) :=
  PD.of_own (c23 vs h) (numI vs)
theorem PWInt (vs : List Int) (k : Int) (h0 : 0 ≤ k) (h1 : k + vs.length ≤ 1099511627776) : PW E 33 (.i (.sl (vs.map encI))) k (k + vs.length) :=
  PW.of_pm (numI vs) (fun el hel => by obtain ⟨a, -, rfl⟩ := List.mem_map.1 hel; rfl) (c33 vs k h0 h1) fun he s => by
    have : vs = [] := by simpa using he
    subst this
    refine ⟨⟨s, []⟩, ?_⟩
    have := mark0 s k
    simpa using this
/-- A rule, made anew, is a tree. -/
theorem PDRule (x : Ru) (h1 : (x.sz : Int) ≤ 1048576) : PD E 22 [.agg (encR x)] (.agg (encR x)) := by
  unfold Ru.sz at h1
  refine ⟨by kernel_rfl, fun F w cargs hG hlt hsz hrep => ?_⟩
  refine hand_start hE Proofs.Try.func22 rfl Proofs.Try.ntmps22 (by simp) hG hlt hsz hrep fun a hx hf => ?_
  refine segN hE 2 ⟨[(1, .ptr 1 0 0), (2, .ptr 2 0 0), (3, .ptr 3 0 0)], [(1, ⟨3, [encR x]⟩), (2, ⟨3, [[.int .i64 0, .sl [], .sl []]]⟩), (3, ⟨3, [[.int .i64 x.kind, .sl [], .sl []]]⟩)]⟩ hx hf (by kernel_rfl) (by kernel_rfl) ?_ fun a w1 hf => ?_
  · simp (maxSteps := 1000000) (disch := first | (exact DrawOk.mk (by decide +kernel)) | omega | simp) [wrap_i64, le_most, lt_omega, le_omega, ne_omega, allLen, cutN, encR]
    exact ⟨by simp (maxSteps := 1000000) (disch := first | (exact DrawOk.mk (by decide +kernel)) | omega | simp) [wrap_i64, le_most, lt_omega, le_omega, ne_omega, allLen], by simp (maxSteps := 1000000) (disch := first | (exact DrawOk.mk (by decide +kernel)) | omega | simp) [wrap_i64, le_most, lt_omega, le_omega, ne_omega, allLen, encR], by simp (maxSteps := 1000000) (disch := first | (exact DrawOk.mk (by decide +kernel)) | omega | simp) [wrap_i64, le_most, lt_omega, le_omega, ne_omega, allLen]⟩
  simp only [restN]
  refine wp_seq (region_hand hE 2 (S1 := ⟨[(8, .i (.sl (x.vars.map encI))), (1, .ptr 1 0 0), (2, .ptr 2 0 0), (3, .ptr 3 0 0)], [(1, ⟨3, [encR x]⟩), (2, ⟨3, [[.int .i64 0, .sl [], .sl []]]⟩), (3, ⟨3, [[.int .i64 x.kind, .sl [], .sl []]]⟩)]⟩) hx hf (by kernel_rfl) rfl rfl ?_ fun a w1 hf => ?_)
  · simp (maxSteps := 1000000) (disch := first | (exact DrawOk.mk (by decide +kernel)) | omega | simp) [wrap_i64, le_most, lt_omega, le_omega, ne_omega, allLen, encR]
    exact ⟨by simp (maxSteps := 1000000) (disch := first | (exact DrawOk.mk (by decide +kernel)) | omega | simp) [wrap_i64, le_most, lt_omega, le_omega, ne_omega, allLen], by simp (maxSteps := 1000000) (disch := first | (exact DrawOk.mk (by decide +kernel)) | omega | simp) [wrap_i64, le_most, lt_omega, le_omega, ne_omega, allLen, encR], by simp (maxSteps := 1000000) (disch := first | (exact DrawOk.mk (by decide +kernel)) | omega | simp) [wrap_i64, le_most, lt_omega, le_omega, ne_omega, allLen]⟩
  have hs1 : w.heap.size ≤ w1.heap.size := hf.size_le
  refine Oper.wp_mono ?_ (deepCall_wp hx hf (d := 9) rfl (by decide) (vs := [.i (.sl (x.vars.map encI))]) (by simp) (by simp) rfl (PDInt x.vars (by omega)) [] (by simp) _)
  rintro a' w' ⟨z1, F1, R1, v1, us, hz1, hx1, hb1, -, hFR1, hG1, hm1, ht1, -, hf1⟩
  refine ⟨z1, _, _, ⟨[(1, .ptr 1 0 0), (2, .ptr 2 0 0), (3, .ptr 3 0 0)], [(1, ⟨3, [encR x]⟩), (2, ⟨3, [[.int .i64 0, .sl [], .sl []]]⟩), (3, ⟨3, [[.int .i64 x.kind, .raw v1, .sl []]]⟩)]⟩, hx1, hf1.recast (u' := .i (.raw v1)) fun F ρ v h => pin_raw h, ?_, fun a w2 hf => ?_⟩
  · simp (maxSteps := 1000000) (disch := first | (exact DrawOk.mk (by decide +kernel)) | omega | simp) [wrap_i64, le_most, lt_omega, le_omega, ne_omega, allLen, encR, pinT]
    exact ⟨by simp (maxSteps := 1000000) (disch := first | (exact DrawOk.mk (by decide +kernel)) | omega | simp) [wrap_i64, le_most, lt_omega, le_omega, ne_omega, allLen], by simp (maxSteps := 1000000) (disch := first | (exact DrawOk.mk (by decide +kernel)) | omega | simp) [wrap_i64, le_most, lt_omega, le_omega, ne_omega, allLen, encR], by simp (maxSteps := 1000000) (disch := first | (exact DrawOk.mk (by decide +kernel)) | omega | simp) [wrap_i64, le_most, lt_omega, le_omega, ne_omega, allLen]⟩
  refine wp_seq (region_hand hE 2 (S1 := ⟨[(12, .i (.sl (x.signs.map encI))), (1, .ptr 1 0 0), (2, .ptr 2 0 0), (3, .ptr 3 0 0)], [(1, ⟨3, [encR x]⟩), (2, ⟨3, [[.int .i64 0, .sl [], .sl []]]⟩), (3, ⟨3, [[.int .i64 x.kind, .raw v1, .sl []]]⟩)]⟩) hx1 hf (by kernel_rfl) rfl rfl ?_ fun a w3 hf => ?_)
  · simp (maxSteps := 1000000) (disch := first | (exact DrawOk.mk (by decide +kernel)) | omega | simp) [wrap_i64, le_most, lt_omega, le_omega, ne_omega, allLen, encR]
    exact ⟨by simp (maxSteps := 1000000) (disch := first | (exact DrawOk.mk (by decide +kernel)) | omega | simp) [wrap_i64, le_most, lt_omega, le_omega, ne_omega, allLen], by simp (maxSteps := 1000000) (disch := first | (exact DrawOk.mk (by decide +kernel)) | omega | simp) [wrap_i64, le_most, lt_omega, le_omega, ne_omega, allLen, encR], by simp (maxSteps := 1000000) (disch := first | (exact DrawOk.mk (by decide +kernel)) | omega | simp) [wrap_i64, le_most, lt_omega, le_omega, ne_omega, allLen]⟩
  have hs3 := hf.size_le
  refine Oper.wp_mono ?_ (deepCall_wp hx1 hf (d := 13) rfl (by decide) (vs := [.i (.sl (x.signs.map encI))]) (by simp) (by simp) rfl (PDInt x.signs (by omega)) [] (by simp) _)
  rintro a' w' ⟨z2, F2, R2, v2, us2, hz2, hx2, hb2, h02, hFR2, hG2, hm2, ht2, -, hf2⟩
  refine ⟨z2, _, _, ⟨[(1, .ptr 1 0 0), (2, .ptr 2 0 0), (3, .ptr 3 0 0)], [(1, ⟨3, [encR x]⟩), (2, ⟨3, [[.int .i64 0, .sl [], .sl []]]⟩), (3, ⟨3, [[.int .i64 x.kind, .raw v1, .raw v2]]⟩)]⟩, hx2, hf2.recast (u' := .i (.raw v2)) fun F ρ v h => pin_raw h, ?_, fun a w4 hf => ?_⟩
  · simp (maxSteps := 1000000) (disch := first | (exact DrawOk.mk (by decide +kernel)) | omega | simp) [wrap_i64, le_most, lt_omega, le_omega, ne_omega, allLen, encR, pinT]
    exact ⟨by simp (maxSteps := 1000000) (disch := first | (exact DrawOk.mk (by decide +kernel)) | omega | simp) [wrap_i64, le_most, lt_omega, le_omega, ne_omega, allLen], by simp (maxSteps := 1000000) (disch := first | (exact DrawOk.mk (by decide +kernel)) | omega | simp) [wrap_i64, le_most, lt_omega, le_omega, ne_omega, allLen, encR], by simp (maxSteps := 1000000) (disch := first | (exact DrawOk.mk (by decide +kernel)) | omega | simp) [wrap_i64, le_most, lt_omega, le_omega, ne_omega, allLen]⟩
  refine end_hand hE ⟨[(1, .ptr 1 0 0), (2, .ptr 2 0 0), (3, .ptr 3 0 0)], [(1, ⟨3, [encR x]⟩), (2, ⟨3, [[.int .i64 x.kind, .raw v1, .raw v2]]⟩), (3, ⟨3, [[.int .i64 x.kind, .raw v1, .raw v2]]⟩)]⟩ rfl (u := .agg [.int .i64 x.kind, .raw v1, .raw v2]) (by simp) hx2 hf (by kernel_rfl) ?_ fun a5 w5 F ρ v hfit hv => ?_
  · simp (maxSteps := 1000000) (disch := first | (exact DrawOk.mk (by decide +kernel)) | omega | simp) [wrap_i64, le_most, lt_omega, le_omega, ne_omega, allLen]
    exact ⟨by simp (maxSteps := 1000000) (disch := first | (exact DrawOk.mk (by decide +kernel)) | omega | simp) [wrap_i64, le_most, lt_omega, le_omega, ne_omega, allLen], by simp (maxSteps := 1000000) (disch := first | (exact DrawOk.mk (by decide +kernel)) | omega | simp) [wrap_i64, le_most, lt_omega, le_omega, ne_omega, allLen, encR], by simp (maxSteps := 1000000) (disch := first | (exact DrawOk.mk (by decide +kernel)) | omega | simp) [wrap_i64, le_most, lt_omega, le_omega, ne_omega, allLen]⟩
  have hf5 : Fits z2 (fun b => F2 b ∨ R2 b) _ _ a5 w5 := ⟨F, ρ, hfit⟩
  have e1 : ∀ b, R1 b → w5.heap[b]? = z1.w.heap[b]? := fun b hb => (same_of_fits hx2 hf5 b (.inl (h02 b (.inr hb)))).trans (same_of_back hx1 hb2 b (.inr hb))
  have e2 : ∀ b, R2 b → w5.heap[b]? = z2.w.heap[b]? := fun b hb => same_of_fits hx2 hf5 b (.inr hb)
  rw [← hz1] at ht1
  rw [← hz2] at ht2
  have hsz0 := (hb1.kept).size
  refine ⟨v, fun b => R1 b ∨ R2 b, rfl, ((hb1.trans hb2).fits hf5).below0, agg_tree hv ⟨rfl, fun j b => (j = 1 ∧ R1 b) ∨ (j = 2 ∧ R2 b), fun j b hb => hb.imp (·.2) (·.2), fun j j' b h h' => ?_, fun c y hy => ?_⟩, fun b hb => ?_, fun b hb => ?_⟩
  · rcases h with ⟨rfl, h⟩ | ⟨rfl, h⟩ <;> rcases h' with ⟨rfl, h'⟩ | ⟨rfl, h'⟩
    · rfl
    · exact absurd h' (hFR2 b (h02 b (.inr h)))
    · exact absurd h (hFR2 b (h02 b (.inr h')))
    · rfl
  · match c with
    | 0 =>
      simp [encR] at hy; subst hy
      exact ⟨_, .int .i64 x.kind, rfl, .inr ⟨rfl, rfl⟩, .flat _ _ _ rfl (.int _ _)⟩
    | 1 =>
      simp [encR] at hy; subst hy
      exact ⟨_, v1, rfl, .inl rfl, TRep.mono ht1.tr (fun b hb => .inl ⟨rfl, hb⟩) e1⟩
    | 2 =>
      simp [encR] at hy; subst hy
      exact ⟨_, v2, rfl, .inl rfl, TRep.mono ht2.tr (fun b hb => .inr ⟨rfl, hb⟩) e2⟩
    | c + 3 => simp [encR] at hy
  · rcases hb with hb | hb
    · exact Nat.le_trans hs1 (ht1.new b hb)
    · have h5 : w.heap.size ≤ z1.w.heap.size := hsz0
      exact Nat.le_trans h5 (Nat.le_trans hs3 (ht2.new b hb))
  · rcases hb with hb | hb
    · exact hf5.lt_of b (.inl (h02 b (.inr hb)))
    · exact hf5.lt_of b (.inr hb)
end Go.Vai
/- Lists of rules, made anew as trees. -/
set_option linter.unusedVariables false
set_option linter.unusedSimpArgs false
set_option maxHeartbeats 4000000
set_option maxRecDepth 20000
namespace Go.Vai
open Go.RowKit (Below)
/-- The first rows are trees, the others as they were made. -/
def half (rws : List (List IV)) (n : Nat) (z : List IV) : List (List IV) := rws ++ List.replicate (n - rws.length) z
theorem half_len {rws : List (List IV)} {n : Nat} (z : List IV) (h : rws.length ≤ n) : (half rws n z).length = n := by simp [half]; omega
theorem half_get {rws : List (List IV)} {n : Nat} (z : List IV) (h : rws.length < n) : (half rws n z)[rws.length]? = some z := by
  simp only [half]
  rw [List.getElem?_append_right (Nat.le_refl _), Nat.sub_self, List.getElem?_replicate, if_pos (by omega)]
theorem half_set {rws : List (List IV)} {n : Nat} (z x : List IV) (h : rws.length < n) : (half rws n z).set rws.length x = half (rws ++ [x]) n z := by
  simp only [half]
  rw [List.set_append_right _ _ (Nat.le_refl _), Nat.sub_self, show n - rws.length = (n - (rws ++ [x]).length) + 1 by simp; omega, List.replicate_succ, List.set_cons_zero]
  simp
theorem half_all {rws : List (List IV)} {n : Nat} (z : List IV) (h : rws.length = n) : half rws n z = rws := by simp [half, h]
/-- What stands at the head of a round of a loop that makes trees. -/
structure Rows (E : Env) (w0 : World) (F : Nat → Prop) (n : Nat) (els : List (List IV)) (S : List (List IV) → St) (k : Nat) (a : Act) (w : World) (z1 : Base) (F1 : Nat → Prop) (Rr : Nat → Nat → Prop) (rws : List (List IV)) : Prop where
  ctx : Ctx E z1 F1
  back : Back (base0 w0) F z1 F1
  fits : Fits z1 F1 n (S rws) a w
  len : rws.length = k
  row : ∀ (j : Nat) (row rw_ : List IV), els[j]? = some row → rws[j]? = some rw_ → RowOk (Rr j) z1.w row rw_
  sub : ∀ j b, Rr j b → F1 b ∧ w0.heap.size ≤ b
  dis : ∀ j j' b, Rr j b → Rr j' b → j = j'
/-- One more row. -/
theorem Rows.next {E : Env} {w0 : World} {F : Nat → Prop} {n : Nat} {els : List (List IV)} {S S' : List (List IV) → St} {k : Nat} {a a' : Act} {w w1 w' : World} {z1 z2 : Base} {F1 F2 R : Nat → Prop} {Rr : Nat → Nat → Prop} {rws : List (List IV)} {rw_ row : List IV}
    (h : Rows E w0 F n els S k a w z1 F1 Rr rws) (hx : Ctx E z2 (fun b => F2 b ∨ R b)) (hb : Back z1 F1 z2 (fun b => F2 b ∨ R b)) (h02 : ∀ b, F1 b → F2 b) (hFR : ∀ b, F2 b → ¬ R b) (hR : ∀ b, R b → w1.heap.size ≤ b) (hw1 : z1.w.heap.size ≤ w1.heap.size)
    (he : els[k]? = some row) (hrow : RowOk R z2.w row rw_) (hf : Fits z2 (fun b => F2 b ∨ R b) n (S' (rws ++ [rw_])) a' w') :
    Rows E w0 F n els S' (k + 1) a' w' z2 (fun b => F2 b ∨ R b) (fun j b => (j < k ∧ Rr j b) ∨ (j = k ∧ R b)) (rws ++ [rw_]) := by
  obtain ⟨g1, g2, g3, g4, g5, g6, g7⟩ := h
  have hsz0 : w0.heap.size ≤ z1.w.heap.size := g2.kept.size
  refine ⟨hx, g2.trans hb, hf, by simp [g4], fun j r q hj hq => ?_, fun j b hb' => ?_, fun j j' b h h' => ?_⟩
  · rw [List.getElem?_append] at hq
    split at hq
    · rename_i hlt
      refine (g5 j r q hj hq).mono (fun b hb' => .inl ⟨by omega, hb'⟩) fun b hb' => same_of_back g1 hb b (g6 j b hb').1
    · rename_i hge
      have hjk : j - rws.length = 0 := by
        have := (List.getElem?_eq_some_iff.1 hq).1
        simp at this; omega
      rw [hjk] at hq
      obtain rfl := Option.some.inj hq
      obtain rfl : j = k := by omega
      rw [he] at hj
      obtain rfl := Option.some.inj hj
      exact hrow.mono (fun b hb' => .inr ⟨rfl, hb'⟩) fun _ _ => rfl
  · rcases hb' with ⟨-, hb'⟩ | ⟨-, hb'⟩
    · exact ⟨.inl (h02 b (g6 j b hb').1), (g6 j b hb').2⟩
    · exact ⟨.inr hb', Nat.le_trans hsz0 (Nat.le_trans hw1 (hR b hb'))⟩
  · rcases h with ⟨h1, h⟩ | ⟨h1, h⟩ <;> rcases h' with ⟨h2, h'⟩ | ⟨h2, h'⟩
    · exact g7 j j' b h h'
    · exact absurd h' (hFR b (h02 b (g6 j b h).1))
    · exact absurd h (hFR b (h02 b (g6 j' b h').1))
    · omega
theorem raws_len {R : Nat → Prop} {w : World} {cells : List IV} {v : Value} (h : TRepA R w (.agg cells) v) : (rawsOf v).length = cells.length := by
  obtain ⟨cs, Rs, rfl, h1, -⟩ := h
  simp [rawsOf, h1]
theorem PDRules (ls : List Ru) (h : (ls.length : Int) ≤ 1048576) (hr : (rsum ls : Int) ≤ 1048576) : PD E 29 [.i (.sl (ls.map encR))] (.i (.sl (ls.map encR))) := by
  refine ⟨by kernel_rfl, fun F w cargs hG hlt hsz hrep => ?_⟩
  refine hand_start hE Proofs.Try.func29 rfl Proofs.Try.ntmps29 (by simp) hG hlt hsz hrep fun a hx hf => ?_
  have hz0 : half [] ls.length [.int .i64 0, .sl [], .sl []] = List.replicate ls.length [IV.int .i64 0, .sl [], .sl []] := by simp [half]
  refine segN hE 1 ⟨[(0, .i (.sl (ls.map encR))), (3, .own 7 0 ls.length)], [(7, ⟨3, half [] ls.length [.int .i64 0, .sl [], .sl []]⟩)]⟩ hx hf (by kernel_rfl) (by kernel_rfl) ?_ fun a w1 hf => ?_
  · rw [hz0]
    simp (maxSteps := 1000000) (disch := first | (exact DrawOk.mk (by decide +kernel)) | omega | simp) [wrap_i64, le_most, lt_omega, le_omega, ne_omega, allLen, cutN]
    exact ⟨by simp (maxSteps := 1000000) (disch := first | (exact DrawOk.mk (by decide +kernel)) | omega | simp) [wrap_i64, le_most, lt_omega, le_omega, ne_omega, allLen], by simp (maxSteps := 1000000) (disch := first | (exact DrawOk.mk (by decide +kernel)) | omega | simp) [wrap_i64, le_most, lt_omega, le_omega, ne_omega, allLen], by simp (maxSteps := 1000000) (disch := first | (exact DrawOk.mk (by decide +kernel)) | omega | simp) [wrap_i64, le_most, lt_omega, le_omega, ne_omega, allLen]⟩
  simp only [restN]
  refine wp_seq ?_
  refine segN hE 0 ⟨[(0, .i (.sl (ls.map encR))), (3, .own 7 0 ls.length), (4, .i (.int .i64 0))], [(7, ⟨3, half [] ls.length [.int .i64 0, .sl [], .sl []]⟩)]⟩ hx hf (by kernel_rfl) (by kernel_rfl) ?_ fun a w1 hf => ?_
  · simp (maxSteps := 1000000) (disch := first | (exact DrawOk.mk (by decide +kernel)) | omega | simp) [wrap_i64, le_most, lt_omega, le_omega, ne_omega, allLen, cutN]
    exact ⟨by simp (maxSteps := 1000000) (disch := first | (exact DrawOk.mk (by decide +kernel)) | omega | simp) [wrap_i64, le_most, lt_omega, le_omega, ne_omega, allLen], by simp (maxSteps := 1000000) (disch := first | (exact DrawOk.mk (by decide +kernel)) | omega | simp) [wrap_i64, le_most, lt_omega, le_omega, ne_omega, allLen], by simp (maxSteps := 1000000) (disch := first | (exact DrawOk.mk (by decide +kernel)) | omega | simp) [wrap_i64, le_most, lt_omega, le_omega, ne_omega, allLen]⟩
  simp only [restN]
  refine wp_block (loop_hand (ι := { k : Nat // k ≤ ls.length }) (fun k a w' => ∃ z1 F1 Rr rws, Rows E w F 23 (ls.map encR) (fun rws => ⟨[(0, .i (.sl (ls.map encR))), (3, .own 7 0 ls.length), (4, .i (.int .i64 k.1))], [(7, ⟨3, half rws ls.length [.int .i64 0, .sl [], .sl []]⟩)]⟩) k.1 a w' z1 F1 Rr rws)
    (fun k => ls.length - k.1) ⟨0, Nat.zero_le _⟩ ⟨_, _, fun _ _ => False, [], ⟨hx, Back.refl _ _, hf, rfl, fun j r q _ hq => by simp at hq, fun j b hb => hb.elim, fun j j' b hb => hb.elim⟩⟩ ?_)
  rintro ⟨k, hk⟩ a w2 ⟨z1, F1, Rr, rws, hI⟩
  have hlen : rws.length = k := hI.len
  by_cases hlt : k < ls.length
  · -- a round
    have hzl := half_len (rws := rws) [.int .i64 0, .sl [], .sl []] (n := ls.length) (by omega)
    have hzg := half_get (rws := rws) [.int .i64 0, .sl [], .sl []] (n := ls.length) (by omega)
    have hzs := fun x => half_set (rws := rws) [.int .i64 0, .sl [], .sl []] x (n := ls.length) (by omega)
    rw [hlen] at hzg hzs
    have hfI := hI.fits
    refine segN hE 0 ⟨[(0, .i (.sl (ls.map encR))), (3, .own 7 0 ls.length), (4, .i (.int .i64 k))], [(7, ⟨3, half rws ls.length [.int .i64 0, .sl [], .sl []]⟩)]⟩ hI.ctx hfI (by kernel_rfl) (by kernel_rfl) ?_ fun a w3 hf => ?_
    · simp (maxSteps := 1000000) (disch := first | (exact DrawOk.mk (by decide +kernel)) | omega | simp) [wrap_i64, le_most, lt_omega, le_omega, ne_omega, allLen, cutN, hlt]
      exact ⟨by simp (maxSteps := 1000000) (disch := first | (exact DrawOk.mk (by decide +kernel)) | omega | simp) [wrap_i64, le_most, lt_omega, le_omega, ne_omega, allLen], by simp (maxSteps := 1000000) (disch := first | (exact DrawOk.mk (by decide +kernel)) | omega | simp) [wrap_i64, le_most, lt_omega, le_omega, ne_omega, allLen], by simp (maxSteps := 1000000) (disch := first | (exact DrawOk.mk (by decide +kernel)) | omega | simp) [wrap_i64, le_most, lt_omega, le_omega, ne_omega, allLen]⟩
    simp only [restN]
    have hg := rsum_get hlt
    refine wp_seq (wp_block (region_hand hE 6 (S1 := ⟨[(0, .i (.sl (ls.map encR))), (3, .own 7 0 ls.length), (4, .i (.int .i64 k)), (14, .own 7 0 ls.length), (15, .i (.int .i64 k)), (19, .agg (encR ls[k]))], [(7, ⟨3, half rws ls.length [.int .i64 0, .sl [], .sl []]⟩)]⟩) hI.ctx hf (by kernel_rfl) rfl rfl ?_ fun a w4 hf => ?_))
    · simp (maxSteps := 1000000) (disch := first | (exact DrawOk.mk (by decide +kernel)) | omega | simp) [wrap_i64, le_most, lt_omega, le_omega, ne_omega, allLen, hlt]
      exact ⟨by simp (maxSteps := 1000000) (disch := first | (exact DrawOk.mk (by decide +kernel)) | omega | simp) [wrap_i64, le_most, lt_omega, le_omega, ne_omega, allLen], by simp (maxSteps := 1000000) (disch := first | (exact DrawOk.mk (by decide +kernel)) | omega | simp) [wrap_i64, le_most, lt_omega, le_omega, ne_omega, allLen], by simp (maxSteps := 1000000) (disch := first | (exact DrawOk.mk (by decide +kernel)) | omega | simp) [wrap_i64, le_most, lt_omega, le_omega, ne_omega, allLen]⟩
    have hs4 := hf.size_le
    refine Oper.wp_mono ?_ (deepCall_wp hI.ctx hf (d := 20) rfl (by decide) (vs := [.agg (encR ls[k])]) (by simp) (by simp) rfl (PDRule ls[k] (by omega)) [] (by simp) _)
    rintro a' w' ⟨z2, F2, R2, v2, us2, hz2, hx2, hb2, h02, hFR2, hG2, hm2, ht2, -, hf2⟩
    have hrl : (rawsOf v2).length = 3 := raws_len ht2.tr
    refine ⟨z2, _, _, ⟨[(0, .i (.sl (ls.map encR))), (3, .own 7 0 ls.length), (4, .i (.int .i64 k))], [(7, ⟨3, half (rws ++ [rawsOf v2]) ls.length [.int .i64 0, .sl [], .sl []]⟩)]⟩, hx2, hf2.recast (u' := .agg (rawsOf v2)) fun F ρ v h => pin_raws h, ?_, fun a w5 hf => ?_⟩
    · have hzs2 := hzs (rawsOf v2)
      generalize half (rws ++ [rawsOf v2]) ls.length [.int .i64 0, .sl [], .sl []] = A' at *
      generalize half rws ls.length [.int .i64 0, .sl [], .sl []] = A at *
      obtain ⟨hA1, hA2⟩ := List.getElem?_eq_some_iff.1 hzg
      simp (maxSteps := 1000000) (disch := first | (exact DrawOk.mk (by decide +kernel)) | omega | simp) [wrap_i64, le_most, lt_omega, le_omega, ne_omega, allLen, hlt, pinT, hrl, hzl, hA2]
      exact ⟨by simp (maxSteps := 1000000) (disch := first | (exact DrawOk.mk (by decide +kernel)) | omega | simp) [wrap_i64, le_most, lt_omega, le_omega, ne_omega, allLen], by simp (maxSteps := 1000000) (disch := first | (exact DrawOk.mk (by decide +kernel)) | omega | simp) [wrap_i64, le_most, lt_omega, le_omega, ne_omega, allLen, hzs2], by simp (maxSteps := 1000000) (disch := first | (exact DrawOk.mk (by decide +kernel)) | omega | simp) [wrap_i64, le_most, lt_omega, le_omega, ne_omega, allLen]⟩
    show Code.wp _ _ _ _ _
    refine pieceN hE (normQ ⟨[(0, .i (.sl (ls.map encR))), (3, .own 7 0 ls.length), (4, .i (.int .i64 ((k : Int) + 1)))], [(7, ⟨3, half (rws ++ [rawsOf v2]) ls.length [.int .i64 0, .sl [], .sl []]⟩)]⟩) hx2 hf (by kernel_rfl) ?_ fun e s a' w' hq hf' => ?_
    · simp (maxSteps := 1000000) (disch := first | (exact DrawOk.mk (by decide +kernel)) | omega | simp) [wrap_i64, le_most, lt_omega, le_omega, ne_omega, allLen]
      exact ⟨by simp (maxSteps := 1000000) (disch := first | (exact DrawOk.mk (by decide +kernel)) | omega | simp) [wrap_i64, le_most, lt_omega, le_omega, ne_omega, allLen], by simp (maxSteps := 1000000) (disch := first | (exact DrawOk.mk (by decide +kernel)) | omega | simp) [wrap_i64, le_most, lt_omega, le_omega, ne_omega, allLen], by simp (maxSteps := 1000000) (disch := first | (exact DrawOk.mk (by decide +kernel)) | omega | simp) [wrap_i64, le_most, lt_omega, le_omega, ne_omega, allLen]⟩
    cases e with
    | normal =>
      have hff := hf'.le hq
      refine ⟨⟨k + 1, by omega⟩, by show ls.length - (k + 1) < ls.length - k; omega, z2, _, _, _, hI.next (S' := fun rws => ⟨[(0, .i (.sl (ls.map encR))), (3, .own 7 0 ls.length), (4, .i (.int .i64 ((k + 1 : Nat) : Int)))], [(7, ⟨3, half rws ls.length [.int .i64 0, .sl [], .sl []]⟩)]⟩) hx2 hb2 h02 hFR2 ht2.new hs4 (row := encR ls[k]) (by simp [hlt]) (by rw [hz2]; exact RowOk.of_agg ht2.tr) hff⟩
    | _ => exact hq.elim
  · -- the end
    obtain rfl : k = ls.length := by omega
    refine pieceN hE (fun e s => e = .exit 0 ∧ Le s ⟨[(3, .own 7 0 ls.length)], [(7, ⟨3, half rws ls.length [.int .i64 0, .sl [], .sl []]⟩)]⟩) hI.ctx hI.fits (by kernel_rfl) ?_ fun e s a' w' hq hf' => ?_
    · simp (maxSteps := 1000000) (disch := first | (exact DrawOk.mk (by decide +kernel)) | omega | simp) [wrap_i64, le_most, lt_omega, le_omega, ne_omega, allLen]
      exact ⟨by simp (maxSteps := 1000000) (disch := first | (exact DrawOk.mk (by decide +kernel)) | omega | simp) [wrap_i64, le_most, lt_omega, le_omega, ne_omega, allLen], by simp (maxSteps := 1000000) (disch := first | (exact DrawOk.mk (by decide +kernel)) | omega | simp) [wrap_i64, le_most, lt_omega, le_omega, ne_omega, allLen], by simp (maxSteps := 1000000) (disch := first | (exact DrawOk.mk (by decide +kernel)) | omega | simp) [wrap_i64, le_most, lt_omega, le_omega, ne_omega, allLen]⟩
    obtain ⟨rfl, hle⟩ := hq
    have hff := hf'.le hle
    rw [half_all _ hlen] at hff
    show Code.wp _ _ _ _ _
    refine end_hand hE ⟨[(2, .own 7 0 ls.length)], [(7, ⟨3, rws⟩)]⟩ rfl (u := .own 7 0 ls.length) (by simp) hI.ctx hff (by kernel_rfl) ?_ fun a5 w5 F5 ρ v hfit hv => ?_
    · simp (maxSteps := 1000000) (disch := first | (exact DrawOk.mk (by decide +kernel)) | omega | simp) [wrap_i64, le_most, lt_omega, le_omega, ne_omega, allLen]
      exact ⟨by simp (maxSteps := 1000000) (disch := first | (exact DrawOk.mk (by decide +kernel)) | omega | simp) [wrap_i64, le_most, lt_omega, le_omega, ne_omega, allLen], by simp (maxSteps := 1000000) (disch := first | (exact DrawOk.mk (by decide +kernel)) | omega | simp) [wrap_i64, le_most, lt_omega, le_omega, ne_omega, allLen], by simp (maxSteps := 1000000) (disch := first | (exact DrawOk.mk (by decide +kernel)) | omega | simp) [wrap_i64, le_most, lt_omega, le_omega, ne_omega, allLen]⟩
    have hf5 : Fits z1 F1 _ _ a5 w5 := ⟨F5, ρ, hfit⟩
    have hl2 : (ls.map encR).length = ls.length := by simp
    obtain ⟨R', ht⟩ := own_tree (E := E) hI.back hfit (Rr := Rr) (els := ls.map encR) (rws := rws) (sz := 3) (o := 7) (by simp [look_cons]) (by rw [hl2]; exact hv) (by rw [hlen, hl2]) (fun j r q hj hq => (hI.row j r q hj hq).mono (fun _ h => h) fun b hb => same_of_fits hI.ctx hf5 b (hI.sub j b hb).1) (fun j b hb => (hI.sub j b hb).1) hI.dis fun j b hb => (hI.sub j b hb).2
    exact ⟨v, R', rfl, (hI.back.fits hf5).below0, ht⟩
end Go.Vai
/- Marks all over a list of rules. -/
set_option linter.unusedVariables false
set_option linter.unusedSimpArgs false
set_option maxHeartbeats 4000000
set_option maxRecDepth 20000
namespace Go.Vai
open Go.RowKit (Below)
def rowsM (ms : List Int) (cv : Nat → Nat → Value) : List (List IV) := ms.mapIdx fun j m => [.int .i64 m, .raw (cv j 1), .raw (cv j 2)]
@[simp] theorem rowsM_len (ms : List Int) (cv : Nat → Nat → Value) : (rowsM ms cv).length = ms.length := by simp [rowsM]
theorem rowsM_get {ms : List Int} {cv : Nat → Nat → Value} {i : Nat} (h : i < ms.length) : (rowsM ms cv)[i]? = some [.int .i64 ms[i], .raw (cv i 1), .raw (cv i 2)] := by simp [rowsM, h]
theorem rowsM_set {ms : List Int} {cv : Nat → Nat → Value} {i : Nat} (x : Int) (h : i < ms.length) : (rowsM ms cv).set i [.int .i64 x, .raw (cv i 1), .raw (cv i 2)] = rowsM (ms.set i x) cv := by
  apply List.ext_getElem?
  intro j
  rw [List.getElem?_set]
  simp only [rowsM, List.getElem?_mapIdx, List.length_mapIdx]
  by_cases e : i = j
  · subst e
    rw [if_pos rfl, if_pos h, List.getElem?_set_self h]; rfl
  · rw [if_neg e, List.getElem?_set_ne e]
theorem rowsM_start (ls : List Ru) (cv : Nat → Nat → Value) : ((ls.map encR).mapIdx fun i el => rawRow el (cv i)) = rowsM (ls.map Ru.kind) cv := by
  apply List.ext_getElem?
  intro j
  simp only [rowsM, List.getElem?_mapIdx, List.getElem?_map, Option.map_map]
  congr 1
/-- What holds at the head of a round of marks. -/
structure MarkI (E : Env) (w0 : World) (R F : Nat → Prop) (n : Nat) (els : List (List IV)) (cv : Nat → Nat → Value) (Rs : Nat → Nat → Nat → Prop) (S : St) (p : Nat × Nat) (a : Act) (w : World) (z1 : Base) (F1 : Nat → Prop) : Prop where
  ctx : Ctx E z1 F1
  back : Back (baseR w0 R) F z1 F1
  fits : Fits z1 F1 n S a w
  out : Out (baseR w0 R) z1 F1 (fun b => ∃ i j, Rs i j b)
  tr : ∀ (i : Nat) (el : List IV) (j : Nat) (x : IV), els[i]? = some el → el[j]? = some x → (p.1 < i ∨ (p.1 = i ∧ p.2 ≤ j)) → TRep z1.w (Rs i j) x (cv i j)
theorem MarkI.state {E : Env} {w0 : World} {R F : Nat → Prop} {n : Nat} {els : List (List IV)} {cv : Nat → Nat → Value} {Rs : Nat → Nat → Nat → Prop} {S S' : St} {p p' : Nat × Nat} {a a' : Act} {w w' : World} {z1 : Base} {F1 : Nat → Prop}
    (h : MarkI E w0 R F n els cv Rs S p a w z1 F1) (hf : Fits z1 F1 n S' a' w') (hp : p.1 < p'.1 ∨ (p.1 = p'.1 ∧ p.2 ≤ p'.2)) : MarkI E w0 R F n els cv Rs S' p' a' w' z1 F1 :=
  ⟨h.ctx, h.back, hf, h.out, fun i el j x h1 h2 h3 => h.tr i el j x h1 h2 (by omega)⟩
/-- One more slice is marked. -/
theorem MarkI.call {E : Env} {w0 : World} {R F : Nat → Prop} {n : Nat} {els : List (List IV)} {cv : Nat → Nat → Value} {Rs : Nat → Nat → Nat → Prop} {S : St} {i j : Nat} {a : Act} {w : World} {z1 : Base} {F1 : Nat → Prop}
    (hd' : ∀ i j i' j' b', Rs i j b' → Rs i' j' b' → i = i' ∧ j = j') (h : MarkI E w0 R F n els cv Rs S (i, j) a w z1 F1) {el : List IV} {x : IV} (he : els[i]? = some el) (hxj : el[j]? = some x)
    {o : Oper} {d t1 t2 : Nat} (hd : o.dst = some d) (hdn : d < n) {g : FuncId} {ts : Array TypeId} (hop : o.op = .call ⟨.value (.func g), #[.tmp t1, .tmp t2], ts⟩) {k r : Int} (h1 : look S.T t1 = some (.i (.raw (cv i j)))) (h2 : look S.T t2 = some (.i (.int .i64 k))) (hpw : PW E g (.i x) k r)
    (P : Exit → Act → World → Prop) : o.wp E.P a w (fun a' w' => ∃ z2 F2, MarkI E w0 R F n els cv Rs ⟨(d, .i (.int .i64 r)) :: S.T, S.H⟩ (i, j + 1) a' w' z2 F2) P := by
  refine Oper.wp_mono ?_ (rawMark_wp h.ctx h.back h.fits (Q := Rs i j) (fun b hb => h.out b ⟨i, j, hb⟩) hd hdn hop h1 h2 hpw (h.tr i el j x he hxj (.inr ⟨rfl, Nat.le_refl _⟩)) P)
  rintro a' w' ⟨z2, F2, hz2, hx2, hb2, hf2, hO, hS⟩
  refine ⟨z2, F2, hx2, hb2, hf2, hO _ h.out, fun i' el' j' x' he' hx' hp => ?_⟩
  refine (h.tr i' el' j' x' he' hx' ?_).mono (fun _ h => h) fun b hb => ?_
  · simp only at hp ⊢; omega
  · rw [hz2]
    refine hS _ b h.out ⟨i', j', hb⟩ fun hq => ?_
    have := hd' i j i' j' b hq hb
    simp only at hp; omega
theorem PWRules (ls : List Ru) (k : Int) (h0 : 0 ≤ k) (hk : k + ls.length + rsum ls ≤ 1099511627776) : PW E 32 (.i (.sl (ls.map encR))) k (k + ls.length + rsum ls) := by
  by_cases hne : ls = []
  · subst hne
    have hpc : PC E 32 [.i (.sl []), .i (.int .i64 k)] [.i (.int .i64 k)] := by
      refine PC_start hE Proofs.Try.func32 rfl rfl Proofs.Try.ntmps32 (by kernel_rfl) (by kernel_rfl) (by simp) ?_
      simp (maxSteps := 1000000) (disch := first | (exact DrawOk.mk (by decide +kernel)) | omega | simp) [wrap_i64, le_most, lt_omega, le_omega, ne_omega, allLen]
      refine XL.by hE (ι := Unit) (fun _ => ⟨[(0, .i (.sl [])), (1, .i (.int .i64 k)), (5, .i (.int .i64 0))], []⟩) (fun _ => 0) () ⟨by simp, by simp, by simp⟩ (by kernel_rfl) ?_
      rintro ⟨⟩
      simp (maxSteps := 1000000) (disch := first | (exact DrawOk.mk (by decide +kernel)) | omega | simp) [wrap_i64, le_most, lt_omega, le_omega, ne_omega, allLen]
    have := PW.of_pc hpc
    simpa [rsum] using this
  refine ⟨by kernel_rfl, fun F R w v hG hlt hFR ht hRlt => ?_⟩
  have hlm : (ls.map encR).length = ls.length := by simp
  refine tree_start hE Proofs.Try.func32 rfl Proofs.Try.ntmps32 (by simp) 3 (by simpa using hne) (fun el hel => by obtain ⟨a, -, rfl⟩ := List.mem_map.1 hel; rfl) hG hlt hFR ht hRlt fun cv Rs z1 F1 a hx hb hz1 hO hd htr hf => ?_
  rw [rowsM_start, hlm] at hf
  refine segN hE 0 ⟨[(0, .own 9 0 ls.length), (1, .i (.int .i64 k))], [(9, ⟨3, rowsM (ls.map Ru.kind) cv⟩)]⟩ hx hf (by kernel_rfl) (by kernel_rfl) ?_ fun a w1 hf => ?_
  · simp (maxSteps := 1000000) (disch := first | (exact DrawOk.mk (by decide +kernel)) | omega | simp) [wrap_i64, le_most, lt_omega, le_omega, ne_omega, allLen, cutN]
    exact ⟨by simp (maxSteps := 1000000) (disch := first | (exact DrawOk.mk (by decide +kernel)) | omega | simp) [wrap_i64, le_most, lt_omega, le_omega, ne_omega, allLen], by simp (maxSteps := 1000000) (disch := first | (exact DrawOk.mk (by decide +kernel)) | omega | simp) [wrap_i64, le_most, lt_omega, le_omega, ne_omega, allLen], by simp (maxSteps := 1000000) (disch := first | (exact DrawOk.mk (by decide +kernel)) | omega | simp) [wrap_i64, le_most, lt_omega, le_omega, ne_omega, allLen]⟩
  simp only [restN]
  refine wp_seq ?_
  refine segN hE 0 ⟨[(0, .own 9 0 ls.length), (1, .i (.int .i64 k)), (5, .i (.int .i64 0))], [(9, ⟨3, rowsM (ls.map Ru.kind) cv⟩)]⟩ hx hf (by kernel_rfl) (by kernel_rfl) ?_ fun a w1 hf => ?_
  · simp (maxSteps := 1000000) (disch := first | (exact DrawOk.mk (by decide +kernel)) | omega | simp) [wrap_i64, le_most, lt_omega, le_omega, ne_omega, allLen, cutN]
    exact ⟨by simp (maxSteps := 1000000) (disch := first | (exact DrawOk.mk (by decide +kernel)) | omega | simp) [wrap_i64, le_most, lt_omega, le_omega, ne_omega, allLen], by simp (maxSteps := 1000000) (disch := first | (exact DrawOk.mk (by decide +kernel)) | omega | simp) [wrap_i64, le_most, lt_omega, le_omega, ne_omega, allLen], by simp (maxSteps := 1000000) (disch := first | (exact DrawOk.mk (by decide +kernel)) | omega | simp) [wrap_i64, le_most, lt_omega, le_omega, ne_omega, allLen]⟩
  simp only [restN]
  have hM0 : MarkI E w R F 34 (ls.map encR) cv Rs _ (0, 0) a w1 z1 F1 := ⟨hx, hb, hf, hO, fun i el j x h1 h2 _ => by rw [hz1]; exact htr i el j x h1 h2⟩
  refine wp_block (loop_hand (ι := { i : Nat // i ≤ ls.length }) (fun i a w' => ∃ z1 F1 ms, ms.length = ls.length ∧ MarkI E w R F 34 (ls.map encR) cv Rs ⟨[(0, .own 9 0 ls.length), (1, .i (.int .i64 (k + i.1 + rsum (ls.take i.1)))), (5, .i (.int .i64 i.1))], [(9, ⟨3, rowsM ms cv⟩)]⟩ (i.1, 0) a w' z1 F1)
    (fun i => ls.length - i.1) ⟨0, Nat.zero_le _⟩ ⟨z1, F1, ls.map Ru.kind, by simp, by simpa [rsum] using hM0⟩ ?_)
  rintro ⟨i, hi⟩ a w2 ⟨z1, F1, ms, hms, hI⟩
  by_cases hlt : i < ls.length
  · -- a round
    have hst := rsum_step hlt
    have hle := rsum_le ls (i + 1)
    generalize hK : k + i + rsum (ls.take i) = K at *
    have hsz : ls[i].sz = ls[i].vars.length + ls[i].signs.length := rfl
    have hK0 : 0 ≤ K := by omega
    have hK1 : K + 1 + ls[i].vars.length + ls[i].signs.length ≤ 1099511627776 := by omega
    have him : i < ms.length := by omega
    have hg := rowsM_get (cv := cv) him
    have hs := rowsM_set (cv := cv) K him
    have him2 : i < (ms.set i K).length := by simpa using him
    have hg2 := rowsM_get (cv := cv) him2
    refine segN hE 0 ⟨[(0, .own 9 0 ls.length), (1, .i (.int .i64 K)), (5, .i (.int .i64 i))], [(9, ⟨3, rowsM ms cv⟩)]⟩ hI.ctx hI.fits (by kernel_rfl) (by kernel_rfl) ?_ fun a w3 hf => ?_
    · simp (maxSteps := 1000000) (disch := first | (exact DrawOk.mk (by decide +kernel)) | omega | simp) [wrap_i64, le_most, lt_omega, le_omega, ne_omega, allLen, cutN, hlt]
      exact ⟨by simp (maxSteps := 1000000) (disch := first | (exact DrawOk.mk (by decide +kernel)) | omega | simp) [wrap_i64, le_most, lt_omega, le_omega, ne_omega, allLen], by simp (maxSteps := 1000000) (disch := first | (exact DrawOk.mk (by decide +kernel)) | omega | simp) [wrap_i64, le_most, lt_omega, le_omega, ne_omega, allLen], by simp (maxSteps := 1000000) (disch := first | (exact DrawOk.mk (by decide +kernel)) | omega | simp) [wrap_i64, le_most, lt_omega, le_omega, ne_omega, allLen]⟩
    simp only [restN]
    refine wp_seq (wp_block ?_)
    refine segN hE 1 ⟨[(0, .own 9 0 ls.length), (1, .i (.int .i64 (K + 1))), (5, .i (.int .i64 i))], [(9, ⟨3, rowsM (ms.set i K) cv⟩)]⟩ hI.ctx hf (by kernel_rfl) (by kernel_rfl) ?_ fun a w3 hf => ?_
    · simp (maxSteps := 1000000) (disch := first | (exact DrawOk.mk (by decide +kernel)) | omega | simp) [wrap_i64, le_most, lt_omega, le_omega, ne_omega, allLen, cutN, hlt, him, hg, hms]
      exact ⟨by simp (maxSteps := 1000000) (disch := first | (exact DrawOk.mk (by decide +kernel)) | omega | simp) [wrap_i64, le_most, lt_omega, le_omega, ne_omega, allLen], by simp (maxSteps := 1000000) (disch := first | (exact DrawOk.mk (by decide +kernel)) | omega | simp) [wrap_i64, le_most, lt_omega, le_omega, ne_omega, allLen, hs], by simp (maxSteps := 1000000) (disch := first | (exact DrawOk.mk (by decide +kernel)) | omega | simp) [wrap_i64, le_most, lt_omega, le_omega, ne_omega, allLen]⟩
    simp only [restN]
    refine wp_seq (region_hand hE 6 (S1 := ⟨[(0, .own 9 0 ls.length), (1, .i (.int .i64 (K + 1))), (5, .i (.int .i64 i)), (23, .i (.raw (cv i 1))), (24, .i (.int .i64 (K + 1)))], [(9, ⟨3, rowsM (ms.set i K) cv⟩)]⟩) hI.ctx hf (by kernel_rfl) rfl rfl ?_ fun a w4 hf => ?_)
    · simp (maxSteps := 1000000) (disch := first | (exact DrawOk.mk (by decide +kernel)) | omega | simp) [wrap_i64, le_most, lt_omega, le_omega, ne_omega, allLen, hlt, him, hg2, hms]
      exact ⟨by simp (maxSteps := 1000000) (disch := first | (exact DrawOk.mk (by decide +kernel)) | omega | simp) [wrap_i64, le_most, lt_omega, le_omega, ne_omega, allLen], by simp (maxSteps := 1000000) (disch := first | (exact DrawOk.mk (by decide +kernel)) | omega | simp) [wrap_i64, le_most, lt_omega, le_omega, ne_omega, allLen], by simp (maxSteps := 1000000) (disch := first | (exact DrawOk.mk (by decide +kernel)) | omega | simp) [wrap_i64, le_most, lt_omega, le_omega, ne_omega, allLen]⟩
    refine Oper.wp_mono ?_ ((hI.state hf (p' := (i, 1)) (by simp)).call hd (el := encR ls[i]) (x := .sl (ls[i].vars.map encI)) (by simp [hlt]) rfl (d := 25) rfl (by decide) rfl (by simp) (by simp) (PWInt ls[i].vars (K + 1) (by omega) (by omega)) _)
    rintro a' w' ⟨z2, F2, hI2⟩
    refine ⟨z2, F2, _, ⟨[(0, .own 9 0 ls.length), (1, .i (.int .i64 (K + 1 + ls[i].vars.length))), (5, .i (.int .i64 i))], [(9, ⟨3, rowsM (ms.set i K) cv⟩)]⟩, hI2.ctx, hI2.fits, ?_, fun a w5 hf => ?_⟩
    · simp (maxSteps := 1000000) (disch := first | (exact DrawOk.mk (by decide +kernel)) | omega | simp) [wrap_i64, le_most, lt_omega, le_omega, ne_omega, allLen]
      exact ⟨by simp (maxSteps := 1000000) (disch := first | (exact DrawOk.mk (by decide +kernel)) | omega | simp) [wrap_i64, le_most, lt_omega, le_omega, ne_omega, allLen], by simp (maxSteps := 1000000) (disch := first | (exact DrawOk.mk (by decide +kernel)) | omega | simp) [wrap_i64, le_most, lt_omega, le_omega, ne_omega, allLen], by simp (maxSteps := 1000000) (disch := first | (exact DrawOk.mk (by decide +kernel)) | omega | simp) [wrap_i64, le_most, lt_omega, le_omega, ne_omega, allLen]⟩
    show Code.wp _ _ _ _ _
    refine region_hand hE 6 (S1 := ⟨[(0, .own 9 0 ls.length), (1, .i (.int .i64 (K + 1 + ls[i].vars.length))), (5, .i (.int .i64 i)), (30, .i (.raw (cv i 2))), (31, .i (.int .i64 (K + 1 + ls[i].vars.length)))], [(9, ⟨3, rowsM (ms.set i K) cv⟩)]⟩) hI2.ctx hf (by kernel_rfl) rfl rfl ?_ fun a w6 hf => ?_
    · simp (maxSteps := 1000000) (disch := first | (exact DrawOk.mk (by decide +kernel)) | omega | simp) [wrap_i64, le_most, lt_omega, le_omega, ne_omega, allLen, hlt, him, hg2, hms]
      exact ⟨by simp (maxSteps := 1000000) (disch := first | (exact DrawOk.mk (by decide +kernel)) | omega | simp) [wrap_i64, le_most, lt_omega, le_omega, ne_omega, allLen], by simp (maxSteps := 1000000) (disch := first | (exact DrawOk.mk (by decide +kernel)) | omega | simp) [wrap_i64, le_most, lt_omega, le_omega, ne_omega, allLen], by simp (maxSteps := 1000000) (disch := first | (exact DrawOk.mk (by decide +kernel)) | omega | simp) [wrap_i64, le_most, lt_omega, le_omega, ne_omega, allLen]⟩
    refine Oper.wp_mono ?_ ((hI2.state hf (p' := (i, 2)) (by simp)).call hd (el := encR ls[i]) (x := .sl (ls[i].signs.map encI)) (by simp [hlt]) rfl (d := 32) rfl (by decide) rfl (by simp) (by simp) (PWInt ls[i].signs (K + 1 + ls[i].vars.length) (by omega) (by omega)) _)
    rintro a' w' ⟨z3, F3, hI3⟩
    refine ⟨z3, F3, _, ⟨[(0, .own 9 0 ls.length), (1, .i (.int .i64 (K + 1 + ls[i].vars.length + ls[i].signs.length))), (5, .i (.int .i64 i))], [(9, ⟨3, rowsM (ms.set i K) cv⟩)]⟩, hI3.ctx, hI3.fits, ?_, fun a w7 hf => ?_⟩
    · simp (maxSteps := 1000000) (disch := first | (exact DrawOk.mk (by decide +kernel)) | omega | simp) [wrap_i64, le_most, lt_omega, le_omega, ne_omega, allLen]
      exact ⟨by simp (maxSteps := 1000000) (disch := first | (exact DrawOk.mk (by decide +kernel)) | omega | simp) [wrap_i64, le_most, lt_omega, le_omega, ne_omega, allLen], by simp (maxSteps := 1000000) (disch := first | (exact DrawOk.mk (by decide +kernel)) | omega | simp) [wrap_i64, le_most, lt_omega, le_omega, ne_omega, allLen], by simp (maxSteps := 1000000) (disch := first | (exact DrawOk.mk (by decide +kernel)) | omega | simp) [wrap_i64, le_most, lt_omega, le_omega, ne_omega, allLen]⟩
    show Code.wp _ _ _ _ _
    refine pieceN hE (normQ ⟨[(0, .own 9 0 ls.length), (1, .i (.int .i64 (K + 1 + ls[i].vars.length + ls[i].signs.length))), (5, .i (.int .i64 ((i : Int) + 1)))], [(9, ⟨3, rowsM (ms.set i K) cv⟩)]⟩) hI3.ctx hf (by kernel_rfl) ?_ fun e s a' w' hq hf' => ?_
    · simp (maxSteps := 1000000) (disch := first | (exact DrawOk.mk (by decide +kernel)) | omega | simp) [wrap_i64, le_most, lt_omega, le_omega, ne_omega, allLen]
      exact ⟨by simp (maxSteps := 1000000) (disch := first | (exact DrawOk.mk (by decide +kernel)) | omega | simp) [wrap_i64, le_most, lt_omega, le_omega, ne_omega, allLen], by simp (maxSteps := 1000000) (disch := first | (exact DrawOk.mk (by decide +kernel)) | omega | simp) [wrap_i64, le_most, lt_omega, le_omega, ne_omega, allLen], by simp (maxSteps := 1000000) (disch := first | (exact DrawOk.mk (by decide +kernel)) | omega | simp) [wrap_i64, le_most, lt_omega, le_omega, ne_omega, allLen]⟩
    cases e with
    | normal =>
      have hff := hf'.le hq
      have eK : K + 1 + (ls[i].vars.length : Int) + ls[i].signs.length = k + ((i + 1 : Nat) : Int) + (rsum (ls.take (i + 1)) : Nat) := by omega
      rw [eK] at hff
      exact ⟨⟨i + 1, by omega⟩, by show ls.length - (i + 1) < ls.length - i; omega, z3, F3, ms.set i K, by simpa using hms, hI3.state hff (by simp)⟩
    | _ => exact hq.elim
  · -- the end
    obtain rfl : i = ls.length := by omega
    refine pieceN hE (fun e s => e = .exit 0 ∧ Le s ⟨[(1, .i (.int .i64 (k + ls.length + rsum ls)))], []⟩) hI.ctx hI.fits (by kernel_rfl) ?_ fun e s a' w' hq hf' => ?_
    · simp (maxSteps := 1000000) (disch := first | (exact DrawOk.mk (by decide +kernel)) | omega | simp) [wrap_i64, le_most, lt_omega, le_omega, ne_omega, allLen]
      exact ⟨by simp (maxSteps := 1000000) (disch := first | (exact DrawOk.mk (by decide +kernel)) | omega | simp) [wrap_i64, le_most, lt_omega, le_omega, ne_omega, allLen], by simp (maxSteps := 1000000) (disch := first | (exact DrawOk.mk (by decide +kernel)) | omega | simp) [wrap_i64, le_most, lt_omega, le_omega, ne_omega, allLen], by simp (maxSteps := 1000000) (disch := first | (exact DrawOk.mk (by decide +kernel)) | omega | simp) [wrap_i64, le_most, lt_omega, le_omega, ne_omega, allLen]⟩
    obtain ⟨rfl, hle⟩ := hq
    have hff := hf'.le hle
    show Code.wp _ _ _ _ _
    refine end_hand hE ⟨[(4, .i (.int .i64 (k + ls.length + rsum ls)))], []⟩ rfl (u := .i (.int .i64 (k + ls.length + rsum ls))) (by simp) hI.ctx hff (by kernel_rfl) ?_ fun a5 w5 F5 ρ v hfit hv => ?_
    · simp (maxSteps := 1000000) (disch := first | (exact DrawOk.mk (by decide +kernel)) | omega | simp) [wrap_i64, le_most, lt_omega, le_omega, ne_omega, allLen]
      exact ⟨by simp (maxSteps := 1000000) (disch := first | (exact DrawOk.mk (by decide +kernel)) | omega | simp) [wrap_i64, le_most, lt_omega, le_omega, ne_omega, allLen], by simp (maxSteps := 1000000) (disch := first | (exact DrawOk.mk (by decide +kernel)) | omega | simp) [wrap_i64, le_most, lt_omega, le_omega, ne_omega, allLen], by simp (maxSteps := 1000000) (disch := first | (exact DrawOk.mk (by decide +kernel)) | omega | simp) [wrap_i64, le_most, lt_omega, le_omega, ne_omega, allLen]⟩
    obtain rfl := hv.int_inv
    obtain ⟨F6, ρ6, hf6⟩ := hI.back.fits ⟨F5, ρ, hfit⟩
    exact ⟨rfl, hf6.below⟩
end Go.Vai
