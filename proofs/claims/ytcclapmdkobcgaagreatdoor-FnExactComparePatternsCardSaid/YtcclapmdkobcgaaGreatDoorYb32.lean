/- Texts of this claim: Zx1, Zx2, Zx5. -/
import Derived.Test.YtcclapmdkobcgaaGreatDoorYv17
set_option linter.unusedVariables false
set_option linter.unusedSimpArgs false
namespace Go.Vai
open Go.RowKit (Below)
structure Back (z : Base) (F0 : Nat → Prop) (z' : Base) (F0' : Nat → Prop) : Prop where
  kept : z.Kept z'.w
  mine : ∀ b, z'.mine b → z.mine b
  sub : ∀ b, F0 b → F0' b
  sup : ∀ b, F0' b → F0 b ∨ z.mine b
  at_ : ∀ o, 700000 ≤ o → z'.at_ o = z.at_ o
theorem Back.refl (z : Base) (F0 : Nat → Prop) : Back z F0 z F0 := ⟨Base.Kept.refl z, fun _ h => h, fun _ h => h, fun _ h => .inl h, fun _ _ => rfl⟩
theorem Base.Kept.trans_of {z z' : Base} {w : World} (h : z.Kept z'.w) (hm : ∀ b, z'.mine b → z.mine b) (k : z'.Kept w) : z.Kept w :=
  ⟨k.os.trans h.os, k.tape.trans h.tape, k.output.trans h.output, Nat.le_trans h.size k.size, fun i hi => by
    rw [k.block i fun hmi => hi (hm i hmi)]; exact h.block i hi⟩
theorem Back.trans {z z1 z2 : Base} {F0 F1 F2 : Nat → Prop} (a : Back z F0 z1 F1) (b : Back z1 F1 z2 F2) : Back z F0 z2 F2 :=
  ⟨a.kept.trans_of a.mine b.kept, fun x h => a.mine x (b.mine x h), fun x h => b.sub x (a.sub x h), fun x h => (b.sup x h).elim (a.sup x) fun h => .inr (a.mine x h), fun o h => (b.at_ o h).trans (a.at_ o h)⟩
theorem Back.fits {z z' : Base} {F0 F0' : Nat → Prop} (hb : Back z F0 z' F0') {n : Nat} {st : St} {a : Act} {w : World} (h : Fits z' F0' n st a w) : Fits z F0 n st a w := by
  obtain ⟨F, ρ, hf⟩ := h
  exact ⟨F, ρ, ⟨⟨hb.kept.trans_of hb.mine hf.below, hf.defers, hf.size, fun b h => hf.sub b (hb.sub b h), fun b h => (hf.sup b h).elim (hb.sup b) fun h => .inr (hb.mine b h), hf.lt, hf.tmps,
    ⟨fun o ob L h1 h2 => ⟨(hf.heap.obj o ob L h1 h2).1, hb.mine _ (hf.heap.obj o ob L h1 h2).2.1, (hf.heap.obj o ob L h1 h2).2.2⟩, hf.heap.sm, hf.heap.apart⟩⟩, hf.dom, fun o h7 ho => (hf.pin o h7 ho).trans (hb.at_ o h7)⟩⟩
theorem Fit.restart {E : Env} {z : Base} {F0 : Nat → Prop} {n : Nat} {st : St} {a : Act} {w : World} {F : Nat → Prop} {ρ : Locs} (hx : Ctx E z F0) (h : Fit z F0 n st a w F ρ) :
    Ctx E ⟨w, Dm ρ st.H, z.at_⟩ F ∧ Fit ⟨w, Dm ρ st.H, z.at_⟩ F n st a w F ρ ∧ Back z F0 ⟨w, Dm ρ st.H, z.at_⟩ F := by
  refine ⟨⟨hx.glob.mono h.sub fun b hb => h.below.block b (hx.lt b hb), fun b hb hm => ?_⟩, ⟨⟨Base.Kept.refl _, h.defers, h.size, fun _ h => h, fun _ h => .inl h, h.lt, h.tmps, ⟨fun o ob L h1 h2 => ?_, h.heap.sm, h.heap.apart⟩⟩, h.dom, h.pin⟩, ⟨h.below, fun b hb => ?_, h.sub, h.sup, fun _ _ => rfl⟩⟩
  · rcases hm with hm | ⟨o, ob, L, h1, h2, rfl⟩
    · exact absurd (h.lt b hb) (Nat.not_lt.2 hm)
    · exact (h.heap.obj o ob L h1 h2).2.2 hb
  · exact ⟨(h.heap.obj o ob L h1 h2).1, .inr ⟨o, ob, L, h1, h2, rfl⟩, (h.heap.obj o ob L h1 h2).2.2⟩
  · rcases hb with hb | ⟨o, ob, L, h1, h2, rfl⟩
    · exact .inl (Nat.le_trans h.below.size hb)
    · exact (h.heap.obj o ob L h1 h2).2.1
def cutC : Nat → Code → Code
  | 0, .seq a _ => a
  | k + 1, .seq a b => .seq a (cutC k b)
  | _, c => c
def restN : Nat → Code → Code
  | 0, .seq _ b => b
  | k + 1, .seq _ b => restN k b
  | _, _ => .skip
def seqsN : Nat → Code → Bool
  | 0, .seq _ _ => true
  | k + 1, .seq _ b => seqsN k b
  | _, _ => false
theorem X_cut {E : Env} (hE : E.Ok) {n : Nat} {z : Base} {F0 : Nat → Prop} (hx : Ctx E z F0) {Q1 : Exit → St → Prop} {Q : Exit → Act → World → Prop} : ∀ (k : Nat) (c : Code) (st : St) (a : Act) (w : World), seqsN k c = true → codeOk E.M n (cutC k c) = true → X E n (cutC k c) st Q1 →
    Fits z F0 n st a w → (∀ st' a' w', Q1 .normal st' → Fits z F0 n st' a' w' → (restN k c).wp E.P Q a' w') → (∀ e st' a' w', e ≠ .normal → Q1 e st' → Fits z F0 n st' a' w' → Q e a' w') → c.wp E.P Q a w
  | 0, .seq x y, st, a, w, _, hok, hX, hf, h1, h2 => by
    refine wp_seq (wp_mono (X_sound hE x st Q1 hok hX z F0 a w hx hf) ?_)
    rintro e a' w' ⟨s, hs, hf'⟩
    cases e with
    | normal => exact h1 s a' w' hs hf'
    | ret => exact h2 .ret s a' w' (by simp) hs hf'
    | exit i => exact h2 (.exit i) s a' w' (by simp) hs hf'
    | goto i => exact h2 (.goto i) s a' w' (by simp) hs hf'
    | panic c => exact h2 (.panic c) s a' w' (by simp) hs hf'
    | outgrown => exact h2 .outgrown s a' w' (by simp) hs hf'
  | k + 1, .seq x y, st, a, w, hs, hok, hX, hf, h1, h2 => by
    simp only [cutC, codeOk, Bool.and_eq_true] at hok
    have hX' : X E n x st (thenX (fun s => X E n (cutC k y) s Q1) Q1) := hX
    refine wp_seq (wp_mono (X_sound hE x st _ hok.1 hX' z F0 a w hx hf) ?_)
    rintro e a' w' ⟨s, hs', hf'⟩
    cases e with
    | normal => exact X_cut hE hx k y s a' w' hs hok.2 hs' hf' h1 h2
    | ret => exact h2 .ret s a' w' (by simp) hs' hf'
    | exit i => exact h2 (.exit i) s a' w' (by simp) hs' hf'
    | goto i => exact h2 (.goto i) s a' w' (by simp) hs' hf'
    | panic c => exact h2 (.panic c) s a' w' (by simp) hs' hf'
    | outgrown => exact h2 .outgrown s a' w' (by simp) hs' hf'
  | 0, .skip, st, a, w, hs, _, _, _, _, _ => by simp [seqsN] at hs
  | 0, .region .., st, a, w, hs, _, _, _, _, _ => by simp [seqsN] at hs
  | 0, .cond .., st, a, w, hs, _, _, _, _, _ => by simp [seqsN] at hs
  | 0, .block .., st, a, w, hs, _, _, _, _, _ => by simp [seqsN] at hs
  | 0, .loop .., st, a, w, hs, _, _, _, _, _ => by simp [seqsN] at hs
  | 0, .exit .., st, a, w, hs, _, _, _, _, _ => by simp [seqsN] at hs
  | 0, .ret, st, a, w, hs, _, _, _, _, _ => by simp [seqsN] at hs
  | 0, .rangeFunc .., st, a, w, hs, _, _, _, _, _ => by simp [seqsN] at hs
  | 0, .scope .., st, a, w, hs, _, _, _, _, _ => by simp [seqsN] at hs
  | 0, .label .., st, a, w, hs, _, _, _, _, _ => by simp [seqsN] at hs
  | 0, .goto .., st, a, w, hs, _, _, _, _, _ => by simp [seqsN] at hs
  | 0, .refuse .., st, a, w, hs, _, _, _, _, _ => by simp [seqsN] at hs
  | k + 1, .skip, st, a, w, hs, _, _, _, _, _ => by simp [seqsN] at hs
  | k + 1, .region .., st, a, w, hs, _, _, _, _, _ => by simp [seqsN] at hs
  | k + 1, .cond .., st, a, w, hs, _, _, _, _, _ => by simp [seqsN] at hs
  | k + 1, .block .., st, a, w, hs, _, _, _, _, _ => by simp [seqsN] at hs
  | k + 1, .loop .., st, a, w, hs, _, _, _, _, _ => by simp [seqsN] at hs
  | k + 1, .exit .., st, a, w, hs, _, _, _, _, _ => by simp [seqsN] at hs
  | k + 1, .ret, st, a, w, hs, _, _, _, _, _ => by simp [seqsN] at hs
  | k + 1, .rangeFunc .., st, a, w, hs, _, _, _, _, _ => by simp [seqsN] at hs
  | k + 1, .scope .., st, a, w, hs, _, _, _, _, _ => by simp [seqsN] at hs
  | k + 1, .label .., st, a, w, hs, _, _, _, _, _ => by simp [seqsN] at hs
  | k + 1, .goto .., st, a, w, hs, _, _, _, _, _ => by simp [seqsN] at hs
  | k + 1, .refuse .., st, a, w, hs, _, _, _, _, _ => by simp [seqsN] at hs
def segQ (E : Env) (rl : List ResultVar) (rs : List RV) (S : St) : Exit → St → Prop
  | .normal, s => Le s S
  | .ret, s => RetL E rl rs s
  | _, _ => False
@[simp] theorem segQ_normal (E : Env) (rl : List ResultVar) (rs : List RV) (S s : St) : segQ E rl rs S .normal s = Le s S := (rfl)
@[simp] theorem segQ_ret (E : Env) (rl : List ResultVar) (rs : List RV) (S s : St) : segQ E rl rs S .ret s = RetL E rl rs s := (rfl)
theorem seg {E : Env} (hE : E.Ok) {n : Nat} {z z1 : Base} {F0 F1 : Nat → Prop} {rl : List ResultVar} {rs : List RV} {st : St} {a : Act} {w : World} {c : Code} (k : Nat) (S : St) (hx : Ctx E z1 F1) (hb : Back z F0 z1 F1) (hf : Fits z1 F1 n st a w)
    (hs : seqsN k c = true) (hok : codeOk E.M n (cutC k c) = true) (hX : Xc E n (cutC k c) (segQ E rl rs S) st) (h1 : ∀ a' w', Fits z1 F1 n S a' w' → (restN k c).wp E.P (conc z F0 n (retE E rl rs)) a' w') :
    c.wp E.P (conc z F0 n (retE E rl rs)) a w := by
  refine X_cut hE hx k c st a w hs hok hX hf (fun st' a' w' hq hf' => h1 a' w' (hf'.le hq)) fun e st' a' w' hne hq hf' => ?_
  cases e with
  | normal => exact absurd rfl hne
  | ret => exact ⟨st', hq, hb.fits hf'⟩
  | exit i => exact hq.elim
  | goto i => exact hq.elim
  | panic c => exact hq.elim
  | outgrown => exact hq.elim
theorem segEnd {E : Env} (hE : E.Ok) {n : Nat} {z z1 : Base} {F0 F1 : Nat → Prop} {rl : List ResultVar} {rs : List RV} {st : St} {a : Act} {w : World} {c : Code} (hx : Ctx E z1 F1) (hb : Back z F0 z1 F1) (hf : Fits z1 F1 n st a w)
    (hok : codeOk E.M n c = true) (hX : Xc E n c (retE E rl rs) st) : c.wp E.P (conc z F0 n (retE E rl rs)) a w :=
  wp_mono (X_sound hE c st _ hok hX z1 F1 a w hx hf) fun e a' w' ⟨s, hs, hf'⟩ => ⟨s, hs, hb.fits hf'⟩
theorem XR_part {E : Env} (hE : E.Ok) {w0 : Base} {F0 : Nat → Prop} {n : Nat} (hx : Ctx E w0 F0) {ops : Array Oper} (hdst : dstOk n ops = true) {K : St → Prop} {Q : Exit → Act → World → Prop} {rest : List Nat}
    (hQ : ∀ st a w, K st → Fits w0 F0 n st a w → wpOps E.P ops Q rest a w) : ∀ (os : List Oper) (k : Nat) (st : St) (a : Act) (w : World), (ops.toList.drop k).take os.length = os → XR E ops os st K → Fits w0 F0 n st a w → wpOps E.P ops Q (List.range' k os.length ++ rest) a w
  | [], k, st, a, w, _, hX, h => hQ st a w hX h
  | o :: os, k, st, a, w, hk, hX, h => by
    have ho : ops[k]? = some o := by
      have := congrArg (fun l => l[0]?) hk
      simpa using this
    have hkl : k < ops.size := (Array.getElem?_eq_some_iff.1 ho).1
    have hk' : (ops.toList.drop (k + 1)).take os.length = os := by
      have h2 : ops.toList.drop k = o :: ops.toList.drop (k + 1) := by
        rw [List.drop_eq_getElem_cons (by simpa using hkl)]
        congr 1
        have := (Array.getElem?_eq_some_iff.1 ho).2
        simpa using this
      rw [h2] at hk
      simpa using hk
    have hmem : o ∈ ops.toList := List.mem_of_getElem? (i := k) (by simpa using ho)
    rw [List.length_cons, List.range'_succ, List.cons_append, wpOps_cons]
    simp only [XR] at hX
    split at hX
    · exact hX.elim
    · rename_i g hg
      obtain ⟨F, ρ, hf⟩ := h
      have hw := guard_run (a := a) (F := F) (ρ := ρ) (w := w) hg fun j want d v _ hd hv => by
        obtain ⟨o', ho', hd'⟩ := Option.bind_eq_some_iff.1 hd
        exact ⟨by rw [hf.size]; exact dstOk_spec hdst (by simpa using Array.mem_of_getElem? ho') hd', hf.tmps d v hv⟩
      unfold wpOp
      rw [ho]
      simp only
      cases g with
      | true =>
        rw [if_pos hw]
        exact .inl (Oper.wp_mono (fun a' w' ⟨st', h1, h2⟩ => XR_part hE hx hdst hQ os (k + 1) st' a' w' hk' h1 h2) (opX_wp hE hx ⟨F, ρ, hf⟩ (fun d hd => dstOk_spec hdst hmem hd) (hX.1 rfl) Q))
      | false =>
        rw [if_neg (by rw [hw]; simp)]
        refine XR_part hE hx hdst hQ os (k + 1) _ _ w hk' (hX.2 rfl) ⟨F, ρ, hf.post (v := .tup []) (frs := []) ?_ (fun _ h => by simp [look] at h) fun d hd => dstOk_spec hdst hmem hd⟩
        exact ⟨Below.refl _ _, fun _ h => h, fun _ h => .inl h, hf.lt, .tup [] #[] rfl (fun j x v h => by simp at h), fun _ _ => rfl, fun _ _ _ h => by simp [look] at h, fun _ _ h => by simp [look] at h, fun _ _ _ _ _ _ h => by simp [look] at h⟩
theorem region_hand {E : Env} (hE : E.Ok) {n : Nat} {z1 : Base} {F1 : Nat → Prop} {id : Nat} {ops : Array Oper} {Q : Exit → Act → World → Prop} (m : Nat) {st S1 : St} {a : Act} {w : World} {o : Oper} (hx : Ctx E z1 F1) (hf : Fits z1 F1 n st a w) (hdst : dstOk n ops = true)
    (hm : ops[m]? = some o) (hg : o.guard = none) (hX : Rc E ops (ops.toList.take m) (fun s => Le s S1) st)
    (hop : ∀ a w, Fits z1 F1 n S1 a w → o.wp E.P a w (fun a' w' => ∃ z2 F2 S2 S3, Ctx E z2 F2 ∧ Fits z2 F2 n S2 a' w' ∧ Rc E ops (ops.toList.drop (m + 1)) (fun s => Le s S3) S2 ∧ ∀ a w, Fits z2 F2 n S3 a w → Q .normal a w) Q) :
    (Code.region id ops false).wp E.P Q a w := by
  refine wp_region ?_
  have hml := (Array.getElem?_eq_some_iff.1 hm).1
  have e : List.range ops.size = List.range' 0 (ops.toList.take m).length ++ m :: List.range' (m + 1) (ops.toList.drop (m + 1)).length := by
    have h1 : (ops.toList.take m).length = m := by simp; omega
    rw [h1, List.range_eq_range']
    have h2 : ops.size = m + ((ops.toList.drop (m + 1)).length + 1) := by simp; omega
    rw [h2, ← List.range'_append_1]
    simp [List.range'_succ]
  rw [e]
  refine XR_part hE hx hdst (K := fun s => Le s S1) (fun s a w hs hf' => ?_) (ops.toList.take m) 0 st a w (by simp) hX hf
  rw [wpOps_cons]
  unfold wpOp
  rw [hm]
  simp only
  rw [if_pos (by simp [Region.wanted, hg])]
  refine .inl (Oper.wp_mono ?_ (hop a w (hf'.le hs)))
  rintro a' w' ⟨z2, F2, S2, S3, hx2, hf2, hX2, hq⟩
  exact XR_seq (K := fun s => Le s S3) hE hx2 hdst (fun s a w hs hf' => hq a w (hf'.le hs)) _ (m + 1) S2 a' w' rfl hX2 hf2
def IV.num : IV → Bool
  | .int .. | .bool _ | .str _ => true
  | _ => false
theorem IV.num_flat {x : IV} (h : x.num = true) : x.flat = true := by cases x <;> simp [IV.num] at h <;> rfl
inductive TRep (w : World) : (Nat → Prop) → IV → Value → Prop
  | flat (R : Nat → Prop) (x : IV) (v : Value) (hx : x.num = true) (h : Rep (fun _ => False) w x v) : TRep w R x v
  | nil (R : Nat → Prop) (a : Option Addr) : TRep w R (.sl []) (.slice a 0 0)
  | sl (R : Nat → Prop) (els : List (List IV)) (b off c sz : Nat) (cs : Array Value) (ty : TypeId) (cv : Nat → Nat → Value) (Rs : Nat → Nat → Nat → Prop) (hb : R b) (hcs : w.heap[b]? = some (.cells cs ty (0, 0))) (hN : off + c * sz ≤ cs.size)
      (hlc : els.length ≤ c) (hsz : ∀ el ∈ els, el.length = sz) (hR : ∀ i j b', Rs i j b' → R b' ∧ b' ≠ b) (hd : ∀ i j i' j' b', Rs i j b' → Rs i' j' b' → i = i' ∧ j = j')
      (hc : ∀ (i : Nat) (el : List IV) (j : Nat) (x : IV), els[i]? = some el → el[j]? = some x → cs[off + i * sz + j]? = some (cv i j))
      (hr : ∀ (i : Nat) (el : List IV) (j : Nat) (x : IV), els[i]? = some el → el[j]? = some x → TRep w (Rs i j) x (cv i j)) : TRep w R (.sl els) (.slice (some ⟨b, off, none⟩) els.length c)
theorem TRep.rep {w : World} {R : Nat → Prop} {x : IV} {v : Value} (h : TRep w R x v) : Rep R w x v := by
  induction h with
  | flat R x v hx h => exact h.of_flat (IV.num_flat hx)
  | nil R a => exact .slE _ _
  | sl R els b off c sz cs ty cv Rs hb hcs hN hlc hsz hR hd hc hr ih =>
    refine .sl els b off c sz cv hb hlc hsz (fun i el j x h1 h2 => ?_) fun i el j x h1 h2 => (ih i el j x h1 h2).mono (fun b' hb' => (hR i j b' hb').1) fun _ _ => rfl
    simp [World.cell?, hcs, hc i el j x h1 h2]
theorem TRep.mono {w w' : World} {R : Nat → Prop} {x : IV} {v : Value} (h : TRep w R x v) : ∀ {R' : Nat → Prop}, (∀ b, R b → R' b) → (∀ b, R b → w'.heap[b]? = w.heap[b]?) → TRep w' R' x v := by
  induction h with
  | flat R x v hx h => exact fun _ _ => .flat _ x v hx (h.of_flat (IV.num_flat hx))
  | nil R a => exact fun _ _ => .nil _ a
  | sl R els b off c sz cs ty cv Rs hb hcs hN hlc hsz hR hd hc hr ih =>
    intro R' hRR hw
    exact .sl R' els b off c sz cs ty cv Rs (hRR b hb) ((hw b hb).trans hcs) hN hlc hsz (fun i j b' h => ⟨hRR b' (hR i j b' h).1, (hR i j b' h).2⟩) hd hc fun i el j x h1 h2 => ih i el j x h1 h2 (fun _ h => h) fun b' hb' => hw b' (hR i j b' hb').1
def TRepA (R : Nat → Prop) (w : World) : AV → Value → Prop
  | .i x, v => TRep w R x v
  | .agg cells, v => ∃ (cs : Array Value) (Rs : Nat → Nat → Prop), v = .agg cs ∧ cs.size = cells.length ∧ (∀ j b, Rs j b → R b) ∧ (∀ j j' b, Rs j b → Rs j' b → j = j') ∧ ∀ (j : Nat) (x : IV) (u : Value), cells[j]? = some x → cs[j]? = some u → TRep w (Rs j) x u
  | _, _ => False
theorem TRepA.rep {R : Nat → Prop} {w : World} {y : AV} {v : Value} {ρ : Locs} (h : TRepA R w y v) : RepA R ρ w y v := by
  cases y <;> (try exact h.elim)
  · exact .i _ _ (TRep.rep h)
  · obtain ⟨cs, Rs, rfl, h1, h2, h3, h4⟩ := h
    exact .agg _ _ h1 fun j x u hx hu => (h4 j x u hx hu).rep.mono (h2 j) fun _ _ => rfl
theorem TRepA.mono {R R' : Nat → Prop} {w w' : World} {y : AV} {v : Value} (h : TRepA R w y v) (hR : ∀ b, R b → R' b) (hw : ∀ b, R b → w'.heap[b]? = w.heap[b]?) : TRepA R' w' y v := by
  cases y <;> (try exact h.elim)
  · exact TRep.mono h hR hw
  · obtain ⟨cs, Rs, rfl, h1, h2, h3, h4⟩ := h
    exact ⟨cs, Rs, rfl, h1, fun j b hb => hR b (h2 j b hb), h3, fun j x u hx hu => (h4 j x u hx hu).mono (fun _ h => h) fun b hb => hw b (h2 j b hb)⟩
structure Tree (R : Nat → Prop) (B : Nat) (w : World) (y : AV) (v : Value) : Prop where
  tr : TRepA R w y v
  new : ∀ b, R b → B ≤ b
  lt : ∀ b, R b → b < w.heap.size
theorem Tree.rep {R : Nat → Prop} {B : Nat} {w : World} {y : AV} {v : Value} (h : Tree R B w y v) : RepA R (fun _ => none) w y v := h.tr.rep
end Go.Vai
namespace Go.Vai
open Go.RowKit (Below)
def base0 (w : World) : Base := ⟨w, fun _ => False, fun _ => none⟩
def normQ (S : St) : Exit → St → Prop
  | .normal, s => Le s S
  | _, _ => False
@[simp] theorem normQ_normal (S s : St) : normQ S .normal s = Le s S := (rfl)
theorem segN {E : Env} (hE : E.Ok) {n : Nat} {z1 : Base} {F1 : Nat → Prop} {Q : Exit → Act → World → Prop} {st : St} {a : Act} {w : World} {c : Code} (k : Nat) (S : St) (hx : Ctx E z1 F1) (hf : Fits z1 F1 n st a w)
    (hs : seqsN k c = true) (hok : codeOk E.M n (cutC k c) = true) (hX : Xc E n (cutC k c) (normQ S) st) (h1 : ∀ a' w', Fits z1 F1 n S a' w' → (restN k c).wp E.P Q a' w') : c.wp E.P Q a w := by
  refine X_cut hE hx k c st a w hs hok hX hf (fun st' a' w' hq hf' => h1 a' w' (hf'.le hq)) fun e st' a' w' hne hq hf' => ?_
  cases e with
  | normal => exact absurd rfl hne
  | ret => exact hq.elim
  | exit i => exact hq.elim
  | goto i => exact hq.elim
  | panic c => exact hq.elim
  | outgrown => exact hq.elim
theorem pieceN {E : Env} (hE : E.Ok) {n : Nat} {z1 : Base} {F1 : Nat → Prop} {Q : Exit → Act → World → Prop} {st : St} {a : Act} {w : World} {c : Code} (Q1 : Exit → St → Prop) (hx : Ctx E z1 F1) (hf : Fits z1 F1 n st a w)
    (hok : codeOk E.M n c = true) (hX : Xc E n c Q1 st) (h1 : ∀ e s a' w', Q1 e s → Fits z1 F1 n s a' w' → Q e a' w') : c.wp E.P Q a w :=
  wp_mono (X_sound hE c st _ hok hX z1 F1 a w hx hf) fun e a' w' ⟨s, hs, hf'⟩ => h1 e s a' w' hs hf'
theorem loop_hand {P : Program} {c : Code} {Q : Exit → Act → World → Prop} {a : Act} {w : World} {ι : Type} (I : ι → Act → World → Prop) (μ : ι → Nat) (i0 : ι) (h0 : I i0 a w)
    (step : ∀ i a w, I i a w → c.wp P (Exit.then (fun a' w' => ∃ i', μ i' < μ i ∧ I i' a' w') Q) a w) : (Code.loop c).wp P Q a w := by
  refine wp_loop (fun a w => ∃ i, I i a w) (fun a w => leastOr fun k => ∃ i, μ i = k ∧ I i a w) ⟨i0, h0⟩ ?_
  rintro a w ⟨i1, hi1⟩
  obtain ⟨⟨i, hi, hfi⟩, -⟩ := leastOr_spec (p := fun k => ∃ i, μ i = k ∧ I i a w) ⟨i1, rfl, hi1⟩
  refine wp_mono (step i a w hfi) ?_
  intro e a' w' hq
  cases e with
  | normal =>
    obtain ⟨i', hlt, hI'⟩ := hq
    refine ⟨⟨i', hI'⟩, ?_⟩
    have := (leastOr_spec (p := fun k => ∃ i, μ i = k ∧ I i a' w') ⟨i', rfl, hI'⟩).2
    omega
  | _ => exact hq
def IsV (y : IV) (v : Value) : Prop := y = .raw v ∨ (y.num = true ∧ v = y.toV)
theorem IsV.eq {y : IV} {v u : Value} {F : Nat → Prop} {w : World} (h : IsV y v) (hr : Rep F w y u) : u = v := by
  rcases h with rfl | ⟨h1, rfl⟩
  · cases hr; rfl
  · cases y <;> simp [IV.num] at h1 <;> cases hr <;> rfl
def RowOk (R : Nat → Prop) (w : World) (row rw_ : List IV) : Prop :=
  rw_.length = row.length ∧ ∃ Rs : Nat → Nat → Prop, (∀ j b, Rs j b → R b) ∧ (∀ j j' b, Rs j b → Rs j' b → j = j') ∧ ∀ (c : Nat) (x : IV), row[c]? = some x → ∃ y v, rw_[c]? = some y ∧ IsV y v ∧ TRep w (Rs c) x v
theorem RowOk.mono {R R' : Nat → Prop} {w w' : World} {row rw_ : List IV} (h : RowOk R w row rw_) (hR : ∀ b, R b → R' b) (hw : ∀ b, R b → w'.heap[b]? = w.heap[b]?) : RowOk R' w' row rw_ := by
  obtain ⟨h1, Rs, h2, h3, h4⟩ := h
  exact ⟨h1, Rs, fun j b hb => hR b (h2 j b hb), h3, fun c x hx => let ⟨y, v, g1, g2, g3⟩ := h4 c x hx; ⟨y, v, g1, g2, g3.mono (fun _ h => h) fun b hb => hw b (h2 c b hb)⟩⟩
def endQ (S : St) : Exit → St → Prop
  | .normal, s => Le s S
  | .ret, s => Le s S
  | _, _ => False
@[simp] theorem endQ_normal (S s : St) : endQ S .normal s = Le s S := (rfl)
@[simp] theorem endQ_ret (S s : St) : endQ S .ret s = Le s S := (rfl)
end Go.Vai
namespace Go.Vai
open Go.RowKit (Below)
def Out (z0 z1 : Base) (F1 Q : Nat → Prop) : Prop := ∀ b, Q b → ¬ F1 b ∧ ¬ z1.mine b ∧ z0.mine b ∧ b < z1.w.heap.size
theorem Out.same {z0 z1 : Base} {F1 Q : Nat → Prop} (h : Out z0 z1 F1 Q) {n : Nat} {st : St} {a : Act} {w : World} (hf : Fits z1 F1 n st a w) (b : Nat) (hb : Q b) : w.heap[b]? = z1.w.heap[b]? := by
  obtain ⟨F, ρ, hf⟩ := hf
  exact hf.below.block b (h b hb).2.1
theorem PC_sem {E : Env} (hE : E.Ok) {f : FuncId} {fn : Func} {c : Code} {args : List AV} {rs : List RV} (hf : E.P.funcs[f]? = some fn) (hb : fn.body = some c) (hg : goesB E.P f = true)
    (hn : args.length ≤ fn.ntmps) (h : ∀ F w a, Ctx E (base0 w) F → Fits (base0 w) F fn.ntmps ⟨numT 0 args, []⟩ a w → c.wp E.P (conc (base0 w) F fn.ntmps (retQ E fn rs)) a w) : PC E f args rs := by
  refine ⟨hg, fun F w cargs hG hlt hsz hrep => ?_⟩
  refine calls_of_wp hf hb ?_
  have hfit : Fits ⟨w, fun _ => False, fun _ => none⟩ F fn.ntmps ⟨numT 0 args, []⟩ { tmps := cargs ++ Array.replicate (fn.ntmps - cargs.size) undef, defers := [] } w := by
    refine ⟨F, fun _ => none, ⟨⟨Base.Kept.refl _, rfl, by simp; omega, fun _ h => h, fun _ h => .inl h, hlt, fun t v hv => ?_, ⟨fun o ob L h1 => by simp [look] at h1, fun o ob h1 => by simp [look] at h1, fun o o' ob ob' L L' h1 => by simp [look] at h1⟩⟩, fun o L h => by simp at h, fun _ _ _ => rfl⟩⟩
    obtain ⟨-, h2⟩ := look_numT args 0 t v hv
    have h3 : t < cargs.size := by rw [hsz]; exact (List.getElem?_eq_some_iff.1 h2).1
    have h4 : (cargs ++ Array.replicate (fn.ntmps - cargs.size) undef).getD t undef = cargs[t] := by
      rw [Array.getD_eq_getD_getElem?, Array.getElem?_append, if_pos h3, Array.getElem?_eq_getElem h3]; rfl
    simp only
    rw [h4]
    exact hrep t v _ h2 (Array.getElem?_eq_getElem h3)
  have hmine : ∀ b, (Base.mk w (fun _ => False) fun _ => none).mine b → w.heap.size ≤ b := fun b hb => hb.elim id False.elim
  refine wp_mono (h F w _ ⟨hG, fun b hb hm => absurd (hlt b hb) (Nat.not_lt.2 (hmine b hm))⟩ hfit) ?_
  rintro e a w' ⟨st, hQ, F', ρ, hf'⟩
  have fin : RetX E fn rs st → a.defers = [] ∧ ∃ v, (results fn a.tmps).run E.P w' = .ok v w' ∧ ∃ vs F' ls, Ending.returned v = .returned (packV vs) ∧ Below w.heap.size w w' ∧ (∀ b, F b → F' b) ∧ (∀ b, F' b → F b ∨ w.heap.size ≤ b) ∧
      (∀ b, F' b → b < w'.heap.size) ∧ RepRs F' w.heap.size w' rs vs ls := by
    rintro ⟨vs, h1, h2, h3⟩
    obtain ⟨us, g1, g2, g3⟩ := resV_run hE hf'.tmps (fun id ob L q1 q2 => (hf'.heap.obj id ob L q1 q2).1) h1
    refine ⟨hf'.defers, packV us, ?_, ?_⟩
    · rw [results_eq, Array.mapM_eq_mapM_toList]
      simp only [Sem.run_bind, Sem.run_map, g1, Result.andThen_ok, Sem.run_pure]
      rw [packV_results]
    · obtain ⟨ls, hls, -⟩ := retV_rep (B := w.heap.size) (fun id ob L q1 q2 => ⟨(hf'.heap.obj id ob L q1 q2).1, (hf'.heap.obj id ob L q1 q2).2.2⟩) hf'.heap.apart vs rs h3 (fun o ho => ho) (nodupB_spec h2)
        (fun o ob L _ q1 q2 => hmine _ (hf'.heap.obj o ob L q1 q2).2.1) us g2 g3
      refine ⟨us, _, ls, rfl, hf'.below.to_below, fun b hb => .inl (hf'.sub b hb), fun b hb => ?_, fun b hb => ?_, hls⟩
      · rcases hb with hb | ⟨o, ob, L, q1, q2, rfl⟩
        · exact (hf'.sup b hb).imp_right (hmine b)
        · exact .inr (hmine _ (hf'.heap.obj o ob L (look_without q1).1 q2).2.1)
      · rcases hb with hb | ⟨o, ob, L, q1, q2, rfl⟩
        · exact hf'.lt b hb
        · obtain ⟨cs, ty, q3, -⟩ := (hf'.heap.obj o ob L (look_without q1).1 q2).1.at_
          exact (Array.getElem?_eq_some_iff.1 q3).1
  cases e with
  | normal => exact fin hQ
  | ret => exact fin hQ
  | exit i => exact hQ.elim
  | goto i => exact hQ.elim
  | panic c => exact hQ.elim
  | outgrown => exact hQ.elim
theorem law_start {E : Env} (hE : E.Ok) {f : FuncId} {fn : Func} {c : Code} {rl : List ResultVar} {n : Nat} {args : List AV} {rs : List RV} (hf : E.P.funcs[f]? = some fn) (hb : fn.body = some c) (hr : fn.results.toList = rl) (hnt : fn.ntmps = n)
    (hg : goesB E.P f = true) (hn : args.length ≤ n) (h : ∀ F w a, Ctx E (base0 w) F → Fits (base0 w) F n ⟨numT 0 args, []⟩ a w → c.wp E.P (conc (base0 w) F n (retE E rl rs)) a w) : PC E f args rs := by
  subst hnt
  refine PC_sem hE hf hb hg hn ?_
  have e : retQ E fn rs = retE E rl rs := by
    funext e s
    subst hr
    cases e <;> rfl
  rw [e]; exact h
end Go.Vai
