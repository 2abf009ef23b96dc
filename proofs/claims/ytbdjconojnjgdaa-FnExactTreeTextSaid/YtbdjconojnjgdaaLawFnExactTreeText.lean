/- The row of FnExactTreeText, out of its pure statement and the printed walk. Conditions: those of the row alone. -/
import Derived.Test.YtbdjconojnjgdaaRows
import Derived.Test.YtbdjconojnjgdaaHFnExactTreeTextx6
import Derived.Test.YtbdjconojnjgdaaPureFnExactTreeText
import Derived.Test.YtbdjconojnjgdaaO
import Derived.WalkKit
import Derived.ProofKit
import Derived.OpenShut
import Derived.ShutString
import Derived.ChangeOld
import Derived.Below
import Derived.SizedLaws
import Derived.Carry
namespace Go.Proofs.Ytbdjconojnjgdaa.fnExactTreeText
open Go.ChangeShapes Go.WideShapes Go.ChangeAt Go.RowKit Go.Joins
open Go.ChangeMaps (open_string shut_string)
open Go.Proofs.Ytbdjconojnjgdaa.HFnExactTreeText Go.Proofs.YtbdjconojnjgdaaW.PrintWords
set_option linter.unusedVariables false
theorem own : ownKnob Try.prog.godebug = none := by kernel_rfl
theorem laidOut : laidOutB Try.prog = true := by kernel_rfl
set_option maxRecDepth 100000 in
theorem lifted (os : Os) (started : os.Started) (H : Type) (enc : TypeId × Value → H) :
    ReturnsInHanded {} Try.checked os 5 .any (Rows.fnExactTreeTextSpec.pre6 enc Try.prog Try.f5 Rows.fnExactTreeTextRow.domain false) (Rows.fnExactTreeTextSpec.post enc Try.prog Try.f5 false true false false) := by
  refine returnsInHanded_of_change_sized (C := Try.checked) own started (by kernel_rfl) Try.func5
    (ChangeSpec.witness6 (enc := enc) (C := Try.checked) false ⟨#[], #[.slice none 0 0], []⟩ 8 (by kernel_rfl) (by kernel_rfl) (by kernel_rfl) (by kernel_rfl)) ?_
  intro W base args ds gs before hval0 hW hcnd hsz0 _
  have hval : ∀ (j : Nat) t v, Try.f5.params[j]? = some t → args[j]? = some v → Value.okWide Try.prog W .any base t v := hval0
  have hW' := hW
  obtain ⟨p, q, hA0, hV, rfl, hfz, hnd⟩ := hW
  have hA : DataW.TrodAll enc Try.prog W 0 (fun _ => true) true Try.f5.params.toList args.toList ds p := hA0
  rw [Try.params5] at hA hval
  obtain ⟨v0, vs0, d0, ds0, p0, q0, hargs, rfl, rfl, h0, r0⟩ := trodAll_cons hA
  obtain ⟨rfl, rfl, rfl⟩ := trodAll_nil r0
  obtain rfl : args = #[v0] := by cases args; simp_all
  obtain ⟨rfl, rfl⟩ := trodVars_none hV
  have k0 := h0
  have lt0 : ∀ x ∈ p0, x.block < W.heap.size := by obtain ⟨m, hm⟩ := k0; exact DataW.trod_lt m _ _ _ hm
  obtain ⟨a0, len0, cp0, rfl⟩ := okWide_slice Try.underlying35 (hval 0 35 v0 rfl rfl)
  obtain ⟨fuel0, hf0⟩ := h0
  obtain ⟨A0, c0, xs0, ev0, hcap0, hlen0, hC0, hwf0⟩ := O.pairs_of (v := .slice a0 len0 cp0) Try.underlying35 Try.underlying67 (by kernel_rfl) rfl rfl (by kernel_rfl) (by kernel_rfl) Try.underlying3 Try.underlying3 hf0
  injection ev0 with e1_0 e2_0 e3_0
  subst e1_0
  subst e2_0
  subst e3_0
  have hk0 : Kd.C k67 W a0 (xs0.map fun p => (⟨p.1, p.2⟩ : S67)).length (xs0.map fun p => (⟨p.1, p.2⟩ : S67)) := O.iso_C (fun _ => rfl) hC0
  obtain ⟨k, h⟩ := Pure.FnExactTreeText (xs0.map fun p => (⟨p.1, p.2⟩ : S67)) (by simpa using hlen0) (by intro x hx; obtain ⟨y, hy, rfl⟩ := List.mem_map.1 hx; exact hwf0 y hy)
  have hcall := laws_FnExactTreeText.calls k a0 cp0 _ true W hk0 (by simpa using hcap0) ⟨rfl⟩ h
  simp only [List.length_map] at hcall
  clear hA0 hval0 hsz0
  refine hcall.mono fun e W' ⟨he, bel⟩ => ?_
  subst he
  exact ⟨_, rfl, _, _, _, [], _, [], hW', trodAll_mk1 (shut_bool Try.underlying4 _), (trodAll_cons_mk (Below.trod laidOut (by kernel_rfl) (of_decide_eq_true (by kernel_rfl)) k0 bel lt0) trodAll_mk0), rfl, bel.frame _, fun h => by cases h⟩
theorem over : Rows.fnExactTreeTextRow.holds Try.pinned (OpenSpec.ofChange Rows.fnExactTreeTextSpec) :=
  OpenClaim.holds_of_wide 5 Try.f5 rfl rfl rfl rfl rfl rfl rfl ⟨rfl, rfl, rfl, rfl, rfl⟩ rfl rfl rfl rfl rfl (by kernel_rfl) Try.func5 (by kernel_rfl)
    (of_decide_eq_true (by kernel_rfl)) (by unfold Func.isWrapper; first | (rw [if_pos (by decide +kernel)]; kernel_rfl) | (rw [if_neg (by decide +kernel)]; exact ⟨rfl, rfl⟩))
    (fun os started H enc _ => lifted os started H enc)
theorem proved : Rows.FnExactTreeTextSaid := over
#print axioms proved
end Go.Proofs.Ytbdjconojnjgdaa.fnExactTreeText
namespace Go.Proofs.Ytbdjconojnjgdaa
/-- The row, under a short name, for the claim. -/
theorem fnExactTreeText_holds : Rows.FnExactTreeTextSaid := fnExactTreeText.proved
end Go.Proofs.Ytbdjconojnjgdaa
