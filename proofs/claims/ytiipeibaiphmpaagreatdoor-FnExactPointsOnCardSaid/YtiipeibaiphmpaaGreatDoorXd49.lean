/- For all crease patterns and lines, the law FnExactPointsOn returns true and its arguments read as before. No conditions. -/
import Derived.Test.YtiipeibaiphmpaaGreatDoorTw37
import Derived.Test.YtiipeibaiphmpaaGreatDoorTb65
import Derived.Test.YtiipeibaiphmpaaGreatDoorCards
import Derived.Test.YtiipeibaiphmpaaGreatDoorTie
import Derived.WalkKit
import Derived.ProofKit
import Derived.OpenShut
import Derived.Deep.DeepHandedRow
import Derived.ShutString
import Derived.ChangeOld
import Derived.Below
import Derived.ChangeVars
namespace Go.Proofs.YtiipeibaiphmpaaGreatDoor.fnExactPointsOn
open Go.ChangeShapes Go.WideShapes Go.ChangeAt Go.RowKit Go.Vai
set_option linter.unusedVariables false
set_option linter.unusedSimpArgs false
def ts : List TypeId := [25, 22, 122, 43, 23, 124, 2, 45]
theorem hts : ts.all (layB E ts) = true := by kernel_rfl
theorem walk (avs : List AV) (h : ArgsT E [25, 45] avs) : PC E 7 avs [.i (.bool true)] := by
  match avs, h with
  | [a, b], h =>
    simp only [ArgsT, k25, k45] at h
    obtain ⟨⟨n, x, rfl, hx⟩, ⟨m, y, rfl, hy⟩, -⟩ := h
    obtain ⟨p, c, rfl, lp, lc⟩ := typedPa hx
    obtain ⟨q, rfl, -⟩ := typedLi hy
    exact c7 p c q lp lc
theorem own : ownKnob Tryz.prog.godebug = none := by kernel_rfl
theorem laidOut : laidOutB Tryz.prog = true := pf_laid
theorem gTab : Tryz.prog.globalNamed "loop.example/g00857/impl.vectors" = some 0 := by kernel_rfl
theorem gTabType : (Tryz.prog.globals[0]?).map (·.type) = some 255 := by kernel_rfl
def tl : List TypeId := [255, 85, 48, 2]
theorem htl : tl.all (layL E tl) = true := by kernel_rfl
set_option maxRecDepth 100000 in
theorem table {W : World} (h : laidMetH Tryz.prog Rows.fnExactPointsOnRow.laid W) : GRep E (fun b => b < W.heap.size) W := by
  have hm : laidMet E.P (("loop.example/g00857/impl.vectors", Rows.laid_loop_example_g00857_impl_vectors) :: []) W := h
  intro g cells hg
  rw [EG, look_cons] at hg
  split at hg
  · rename_i e; subst e; obtain rfl := Option.some.inj hg
    exact laid_var hE htl gTab gTabType (by decide) (by rfl) hm (laid_lt gTab hm)
  · simp [look] at hg
set_option maxRecDepth 100000 in
theorem contract (H : Type) (enc : TypeId × Value → H) (W : World) (base : Nat) (args : Array Value) (ds gs : List (DataW H)) (before : List MemPlace)
    (hval0 : ∀ (j : Nat) t v, Tryz.f7.params[j]? = some t → args[j]? = some v → Value.okWide Tryz.prog W .any base t v)
    (hW : DataW.Whole enc Tryz.prog Tryz.f7.params.toList Rows.fnExactPointsOnSpec.vars false W args.toList ds gs before) (hL : laidMetH Tryz.prog Rows.fnExactPointsOnRow.laid W) :
    Calls Tryz.prog 7 args W fun e W' => ∃ v, e = .returned v ∧ Rows.fnExactPointsOnSpec.post enc Tryz.prog Tryz.f7 false true false false W args v W' := by
  have hval : ∀ (j : Nat) t v, Tryz.f7.params[j]? = some t → args[j]? = some v → Value.okWide Tryz.prog W .any base t v := hval0
  have hW' := hW
  obtain ⟨p, q, hA0, hV, rfl, hfz, hnd⟩ := hW
  have hA : DataW.TrodAll enc Tryz.prog W 0 (fun _ => true) true Tryz.f7.params.toList args.toList ds p := hA0
  rw [Tryz.params7] at hA hval
  obtain ⟨avs, has, hlen, hrep⟩ := args_read (E := E) hE hts _ _ _ _ (by decide) (fun j t v h1 h2 => hval j t v (by simpa using h1) (by simpa using h2)) hA
  have hag := fun W' bel => args_again (enc := enc) (W' := W') laidOut bel _ _ _ _ (by kernel_rfl) hA
  have hvg := fun W' bel => vars_again (enc := enc) (W' := W') laidOut bel _ _ _ (by kernel_rfl) hV
  obtain ⟨v0, vs0, d0, ds0, p0, q0, hargs, rfl, rfl, h0, r0⟩ := trodAll_cons hA
  obtain ⟨v1, vs1, d1, ds1, p1, q1, rfl, rfl, rfl, h1, r1⟩ := trodAll_cons r0
  obtain ⟨rfl, rfl, rfl⟩ := trodAll_nil r1
  obtain ⟨gg, gt, gcs, gf, gd, gp, rfl, -⟩ := trodVars_one hV
  clear hA0 hval0
  refine (calls_of_PCG (E := E) (walk avs has) W (table hL) args (by simpa using hlen.symm) (fun j x v h1 h2 => hrep j x v h1 (by simpa using h2))).mono fun e W' ⟨he, bel⟩ => ?_
  subst he
  exact ⟨_, rfl, _, _, _, [], _, _, hW', trodAll_mk1 (shut_bool Tryz.underlying4 _), hag W' bel, hvg W' bel, bel.frame _, fun h => by cases h⟩
/-- A world for the witness: the settled one, the table holding what its initialiser lays. -/
noncomputable def laidWorld (os : Os) : World :=
  { World.holding Tryz.prog os ⟨#[], #[], []⟩ with heap := (World.holding Tryz.prog os ⟨#[], #[], []⟩).heap.modify 0 fun
      | .cells _ t frozen => .cells (gv0.map IV.toV).toArray t frozen
      | o => o }
set_option maxRecDepth 100000 in
theorem laid_met (os : Os) : laidMet Tryz.prog Rows.fnExactPointsOnRow.laid ((laidWorld os).forCall (fun _ _ => 0) ⟨#[], #[.agg #[.slice none 0 0, .slice none 0 0], .agg #[.int .i64 0, .int .i64 0, .int .i64 0, .int .i64 0]], []⟩).memory :=
  laidMet_of_run' 8 (by kernel_rfl) (by kernel_rfl)
set_option maxRecDepth 100000 in
theorem reads (os : Os) {H : Type} (enc : TypeId × Value → H) : ∃ places, DataW.whole enc Tryz.prog ((laidWorld os).forCall (fun _ _ => 0) ⟨#[], #[.agg #[.slice none 0 0, .slice none 0 0], .agg #[.int .i64 0, .int .i64 0, .int .i64 0, .int .i64 0]], []⟩).memory Tryz.f7.params.toList Rows.fnExactPointsOnSpec.vars false (#[.agg #[.slice none 0 0, .slice none 0 0], .agg #[.int .i64 0, .int .i64 0, .int .i64 0, .int .i64 0]] : Array Value).toList 8 = some ([.agg [.nil, .nil], .agg [.lit (.int .i64 0), .agg [.lit (.int .i64 0), .lit (.int .i64 0), .lit (.int .i64 0)]]], [Rows.laid_loop_example_g00857_impl_vectors], places) :=
  ⟨MemPlace.row ⟨0, 0, none⟩ 48, by kernel_rfl⟩
set_option maxRecDepth 100000 in
theorem lifted (os : Os) (started : os.Started) (H : Type) (enc : TypeId × Value → H) (F : Stop.Interp) :
    ReturnsInHanded {} Tryz.checked os 7 .any ((OpenSpec.ofChange Rows.fnExactPointsOnSpec).preRow enc Tryz.prog Tryz.f7 Rows.fnExactPointsOnRow.domain false Rows.fnExactPointsOnRow.laid) (((OpenSpec.ofChange Rows.fnExactPointsOnSpec).at F).post enc Tryz.prog Tryz.f7 false true false false) := by
  obtain ⟨places, hx⟩ := reads os enc
  refine returnsInHanded_of_row (C := Tryz.checked) (s := OpenSpec.ofChange Rows.fnExactPointsOnSpec) own started (by kernel_rfl) Tryz.func7
    (witness_row_at (enc := enc) (C := Tryz.checked) false (laidWorld os) #[.agg #[.slice none 0 0, .slice none 0 0], .agg #[.int .i64 0, .int .i64 0, .int .i64 0, .int .i64 0]] rfl (by kernel_rfl) (by kernel_rfl) (by kernel_rfl)
      (OpenSpec.preRow_of_cond 8 hx (by kernel_rfl) (fun k hk => by cases hk) (by kernel_rfl) (laid_met os))) ?_
  intro W base args ds gs before hval hW _ _ _ hL _ _
  exact contract H enc W base args ds gs before hval hW hL
set_option maxRecDepth 100000 in
theorem f_place : Tryz.pinned.checked.prog.inPlace 7 = Rows.fnExactPointsOnRow.inPlace := by kernel_rfl
set_option maxRecDepth 100000 in
theorem f_follow : Tryz.pinned.checked.prog.unfollowed 7 = Rows.fnExactPointsOnRow.unfollowed := by kernel_rfl
set_option maxRecDepth 100000 in
theorem f_rec : Tryz.pinned.checked.prog.recurses 7 = Rows.fnExactPointsOnRow.recurses := by kernel_rfl
set_option maxRecDepth 100000 in
theorem f_vars : Tryz.pinned.checked.prog.varsNamed 7 = Rows.fnExactPointsOnRow.named := by kernel_rfl
set_option maxRecDepth 100000 in
theorem facts : joinedFacts Tryz.pinned.checked.prog 7 Tryz.f7 (OpenSpec.ofChange Rows.fnExactPointsOnSpec).bare Rows.fnExactPointsOnRow = true := by
  unfold joinedFacts
  rw [pf_laid, pf_maps, pf_stops, pf_knobs, pf_keys, pf_heard, pf_enter, pf_lifts, pf_make, f_place, f_follow, f_rec, f_vars]
  kernel_rfl
set_option maxRecDepth 100000 in
theorem f_name : Tryz.pinned.checked.prog.funcNamed Rows.fnExactPointsOnRow.func = some 7 := by kernel_rfl
set_option maxRecDepth 100000 in
theorem f_goes : false = Rows.fnExactPointsOnRow.goesBy Tryz.pinned.checked.prog := by kernel_rfl
set_option maxRecDepth 100000 in
theorem said : Rows.FnExactPointsOnSaid :=
  OpenClaim.holds_of_cond 7 Tryz.f7 rfl rfl rfl rfl rfl rfl rfl ⟨rfl, rfl, rfl, rfl, rfl⟩ rfl rfl rfl rfl rfl f_name Tryz.func7 facts
    (of_decide_eq_true (by kernel_rfl)) (by unfold Func.isWrapper; first | (rw [if_pos (by decide +kernel)]; kernel_rfl) | (rw [if_neg (by decide +kernel)]; exact ⟨rfl, rfl⟩))
    (fun os started H enc _ F => by rw [OpenClaim.pre_eq_preRow]; exact lifted os started H enc F)
set_option maxRecDepth 100000 in
theorem plain (f : FuncId) (fn : Func) (hf : Tryz.pinned.checked.prog.funcNamed "loop.example/g00857/laws.FnExactPointsOn" = some f) (hfn : Tryz.pinned.checked.prog.funcs[f]? = some fn) :
    false = Tryz.pinned.checked.prog.looks [] ∧ ∀ (j : Nat) t, fn.params[j]? = some t → Tryz.pinned.checked.prog.wantsStandIn t = false := by
  obtain rfl : f = 7 := Option.some.inj ((show Tryz.prog.funcNamed "loop.example/g00857/laws.FnExactPointsOn" = some 7 by kernel_rfl).symm.trans hf) |>.symm
  obtain rfl : fn = Tryz.f7 := (Option.some.inj (Tryz.func7.symm.trans hfn)).symm
  refine ⟨pf_looks.symm, fun j t ht => ?_⟩
  have hal : Tryz.f7.params.toList.all (fun t => Tryz.prog.wantsStandIn t == false) = true := by kernel_rfl
  have := List.all_eq_true.1 hal t (by simpa using Array.mem_of_getElem? ht)
  exact (by simpa using this : Tryz.prog.wantsStandIn t = false)
set_option maxRecDepth 100000 in
/-- THE STATEMENT: the card -/
theorem proved : Rows.FnExactPointsOnCardSaid :=
  Claim7.holds_tied_plain_at .later [] _ _ _ _ said (fun _ h => by cases h) (by kernel_rfl) (fun _ h => by cases h) fnExactPointsOn_row_tie rfl ⟨rfl, rfl⟩ (by kernel_rfl) rfl plain f_goes

end Go.Proofs.YtiipeibaiphmpaaGreatDoor.fnExactPointsOn
