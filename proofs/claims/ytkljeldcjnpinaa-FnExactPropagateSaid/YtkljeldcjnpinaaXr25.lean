/- For all lists of rules and all lists of values, the law FnExactPropagate returns true and its arguments read as before. No conditions. -/
import Derived.Test.YtkljeldcjnpinaaYb35
import Derived.Test.YtkljeldcjnpinaaRows
import Derived.WalkKit
import Derived.ProofKit
import Derived.OpenShut
import Derived.ShutString
import Derived.ChangeOld
import Derived.Below
namespace Go.Proofs.Ytkljeldcjnpinaa.fnExactPropagate
open Go.ChangeShapes Go.WideShapes Go.ChangeAt Go.RowKit Go.Vai
set_option linter.unusedVariables false
set_option linter.unusedSimpArgs false
def ts : List TypeId := [54, 44, 32, 2]
theorem hts : ts.all (layB E ts) = true := by kernel_rfl
theorem walk (avs : List AV) (h : ArgsT E [54, 32] avs) : PC E 9 avs [.i (.bool true)] := by
  match avs, h with
  | [a, b], h =>
    simp only [ArgsT, k54, k32] at h
    obtain ⟨⟨n, x, rfl, hx⟩, ⟨m, y, rfl, hy⟩, -⟩ := h
    obtain ⟨ls, he, hl, hf⟩ := typedSlice' (enc := encR) (q := Ru.fine) k54 (fun _ _ h => typedR h) hx
    obtain rfl := (List.cons.inj he).1
    obtain ⟨y, he, hv⟩ := typedSlice (enc := encI) k32 (fun _ _ => typedI) hy
    obtain rfl := (List.cons.inj he).1
    exact c9 ls y hl hf hv
theorem own : ownKnob Try.prog.godebug = none := by kernel_rfl
theorem laidOut : laidOutB Try.prog = true := by kernel_rfl
set_option maxRecDepth 100000 in
theorem lifted (os : Os) (started : os.Started) (H : Type) (enc : TypeId × Value → H) :
    ReturnsInHanded {} Try.checked os 9 .any (Rows.fnExactPropagateSpec.pre6 enc Try.prog Try.f9 Rows.fnExactPropagateRow.domain false) (Rows.fnExactPropagateSpec.post enc Try.prog Try.f9 false true false false) := by
  refine returnsInHanded_of_change (C := Try.checked) own started (by kernel_rfl) Try.func9
    (ChangeSpec.witness6 (enc := enc) (C := Try.checked) false ⟨#[], #[.slice none 0 0, .slice none 0 0], []⟩ 8 (by kernel_rfl) (by kernel_rfl) (by kernel_rfl) (by kernel_rfl)) ?_
  intro W base args ds gs before hval0 hW hcnd _
  have hval : ∀ (j : Nat) t v, Try.f9.params[j]? = some t → args[j]? = some v → Value.okWide Try.prog W .any base t v := hval0
  have hW' := hW
  obtain ⟨p, q, hA0, hV, rfl, hfz, hnd⟩ := hW
  have hA : DataW.TrodAll enc Try.prog W 0 (fun _ => true) true Try.f9.params.toList args.toList ds p := hA0
  rw [Try.params9] at hA hval
  obtain ⟨avs, has, hlen, hrep⟩ := args_read (E := E) hE hts _ _ _ _ (by decide) (fun j t v h1 h2 => hval j t v (by simpa using h1) (by simpa using h2)) hA
  have hag := fun W' bel => args_again (enc := enc) (W' := W') laidOut bel _ _ _ _ (by kernel_rfl) hA
  obtain ⟨v0, vs0, d0, ds0, p0, q0, hargs, rfl, rfl, h0, r0⟩ := trodAll_cons hA
  obtain ⟨v1, vs1, d1, ds1, p1, q1, rfl, rfl, rfl, h1, r1⟩ := trodAll_cons r0
  obtain ⟨rfl, rfl, rfl⟩ := trodAll_nil r1
  obtain ⟨rfl, rfl⟩ := trodVars_none hV
  clear hA0 hval0
  refine (calls_of_PC (E := E) rfl (walk avs has) W args (by simpa using hlen.symm) (fun j x v h1 h2 => hrep j x v h1 (by simpa using h2))).mono fun e W' ⟨he, bel⟩ => ?_
  subst he
  exact ⟨_, rfl, _, _, _, [], _, [], hW', trodAll_mk1 (shut_bool Try.underlying4 _), hag W' bel, rfl, bel.frame _, fun h => by cases h⟩
theorem over : Rows.fnExactPropagateRow.holds Try.pinned (OpenSpec.ofChange Rows.fnExactPropagateSpec) :=
  OpenClaim.holds_of_wide 9 Try.f9 rfl rfl rfl rfl rfl rfl rfl ⟨rfl, rfl, rfl, rfl, rfl⟩ rfl rfl rfl rfl rfl (by kernel_rfl) Try.func9 (by kernel_rfl)
    (of_decide_eq_true (by kernel_rfl)) (by unfold Func.isWrapper; first | (rw [if_pos (by decide +kernel)]; kernel_rfl) | (rw [if_neg (by decide +kernel)]; exact ⟨rfl, rfl⟩))
    (fun os started H enc _ => lifted os started H enc)
/-- THE STATEMENT -/
theorem proved : Rows.FnExactPropagateSaid := over

end Go.Proofs.Ytkljeldcjnpinaa.fnExactPropagate
