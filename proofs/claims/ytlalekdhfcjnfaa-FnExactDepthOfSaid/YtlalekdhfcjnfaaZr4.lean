/- For every stack of layers, the law FnExactDepthOf returns true and its argument reads as before. No conditions. -/
import Derived.Test.YtlalekdhfcjnfaaZt5
import Derived.Test.YtlalekdhfcjnfaaZv18
import Derived.Test.YtlalekdhfcjnfaaRows
import Derived.WalkKit
import Derived.ProofKit
import Derived.OpenShut
import Derived.ShutString
import Derived.ChangeOld
import Derived.Below
namespace Go.Proofs.Ytlalekdhfcjnfaa.fnExactDepthOf
open Go.ChangeShapes Go.WideShapes Go.ChangeAt Go.RowKit Go.Vai
set_option linter.unusedVariables false
set_option linter.unusedSimpArgs false
def ts : List TypeId := [22, 83, 2]
theorem hts : ts.all (layB E ts) = true := by kernel_rfl
theorem typedLayer {n : Nat} {el : List IV} (h : Typed E n 83 el) : ∃ x, el = encL x := by
  cases n with
  | zero => exact h.elim
  | succ n =>
    simp only [Typed, k83, fieldsT] at h
    obtain ⟨a, b, rfl, ha, a', b', rfl, hb, a'', b'', rfl, hc, rfl⟩ := h
    cases n with
    | zero => exact ha.elim
    | succ n =>
      simp only [Typed, k2] at ha hb hc
      obtain ⟨f, rfl, -⟩ := ha
      obtain ⟨e, rfl, -⟩ := hb
      obtain ⟨m, rfl, -⟩ := hc
      exact ⟨⟨f, e, m⟩, rfl⟩
theorem walk (avs : List AV) (h : ArgsT E [22] avs) : PC E 4 avs [.i (.bool true)] := by
  match avs, h with
  | [a], h =>
    simp only [ArgsT, k22] at h
    obtain ⟨⟨n, x, rfl, hx⟩, -⟩ := h
    cases n with
    | zero => exact hx.elim
    | succ n =>
      simp only [Typed, k22] at hx
      obtain ⟨els, he, hl, hx⟩ := hx
      obtain rfl := (List.cons.inj he).1
      obtain ⟨ls, rfl⟩ := exists_map encL els fun el hel => typedLayer (hx el hel)
      exact c4 ls (by simp [maxLen] at hl; omega)
theorem own : ownKnob Try.prog.godebug = none := by kernel_rfl
theorem laidOut : laidOutB Try.prog = true := by kernel_rfl
set_option maxRecDepth 100000 in
theorem lifted (os : Os) (started : os.Started) (H : Type) (enc : TypeId × Value → H) :
    ReturnsInHanded {} Try.checked os 4 .any (Rows.fnExactDepthOfSpec.pre6 enc Try.prog Try.f4 Rows.fnExactDepthOfRow.domain false) (Rows.fnExactDepthOfSpec.post enc Try.prog Try.f4 false true false false) := by
  refine returnsInHanded_of_change (C := Try.checked) own started (by kernel_rfl) Try.func4
    (ChangeSpec.witness6 (enc := enc) (C := Try.checked) false ⟨#[], #[.slice none 0 0], []⟩ 8 (by kernel_rfl) (by kernel_rfl) (by kernel_rfl) (by kernel_rfl)) ?_
  intro W base args ds gs before hval0 hW hcnd _
  have hval : ∀ (j : Nat) t v, Try.f4.params[j]? = some t → args[j]? = some v → Value.okWide Try.prog W .any base t v := hval0
  have hW' := hW
  obtain ⟨p, q, hA0, hV, rfl, hfz, hnd⟩ := hW
  have hA : DataW.TrodAll enc Try.prog W 0 (fun _ => true) true Try.f4.params.toList args.toList ds p := hA0
  rw [Try.params4] at hA hval
  obtain ⟨avs, has, hlen, hrep⟩ := args_read (E := E) hE hts _ _ _ _ (by decide) (fun j t v h1 h2 => hval j t v (by simpa using h1) (by simpa using h2)) hA
  have hag := fun W' bel => args_again (enc := enc) (W' := W') laidOut bel _ _ _ _ (by kernel_rfl) hA
  obtain ⟨v0, vs0, d0, ds0, p0, q0, hargs, rfl, rfl, h0, r0⟩ := trodAll_cons hA
  obtain ⟨rfl, rfl, rfl⟩ := trodAll_nil r0
  obtain ⟨rfl, rfl⟩ := trodVars_none hV
  clear hA0 hval0
  refine (calls_of_PC (E := E) rfl (walk avs has) W args (by simpa using hlen.symm) (fun j x v h1 h2 => hrep j x v h1 (by simpa using h2))).mono fun e W' ⟨he, bel⟩ => ?_
  subst he
  exact ⟨_, rfl, _, _, _, [], _, [], hW', trodAll_mk1 (shut_bool Try.underlying4 _), hag W' bel, rfl, bel.frame _, fun h => by cases h⟩
theorem over : Rows.fnExactDepthOfRow.holds Try.pinned (OpenSpec.ofChange Rows.fnExactDepthOfSpec) :=
  OpenClaim.holds_of_wide 4 Try.f4 rfl rfl rfl rfl rfl rfl rfl ⟨rfl, rfl, rfl, rfl, rfl⟩ rfl rfl rfl rfl rfl (by kernel_rfl) Try.func4 (by kernel_rfl)
    (of_decide_eq_true (by kernel_rfl)) (by unfold Func.isWrapper; first | (rw [if_pos (by decide +kernel)]; kernel_rfl) | (rw [if_neg (by decide +kernel)]; exact ⟨rfl, rfl⟩))
    (fun os started H enc _ => lifted os started H enc)
/-- THE STATEMENT -/
theorem proved : Rows.FnExactDepthOfSaid := over

end Go.Proofs.Ytlalekdhfcjnfaa.fnExactDepthOf
