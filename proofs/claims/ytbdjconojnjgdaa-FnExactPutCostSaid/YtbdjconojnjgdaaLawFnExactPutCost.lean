/- The row of FnExactPutCost, out of its pure statement and the printed walk. Conditions: those of the row alone. -/
import Derived.Test.YtbdjconojnjgdaaRows
import Derived.Test.YtbdjconojnjgdaaHFnExactPutCostx4
import Derived.Test.YtbdjconojnjgdaaPureFnExactPutCost
import Derived.Test.YtbdjconojnjgdaaO
import Derived.WalkKit
import Derived.ProofKit
import Derived.OpenShut
import Derived.ShutString
import Derived.ChangeOld
import Derived.Below
import Derived.SizedLaws
import Derived.Carry
namespace Go.Proofs.Ytbdjconojnjgdaa.fnExactPutCost
open Go.ChangeShapes Go.WideShapes Go.ChangeAt Go.RowKit Go.Joins
open Go.ChangeMaps (open_string shut_string)
open Go.Proofs.Ytbdjconojnjgdaa.HFnExactPutCost Go.Proofs.YtbdjconojnjgdaaW.PrintWords
set_option linter.unusedVariables false
theorem own : ownKnob Try.prog.godebug = none := by kernel_rfl
theorem laidOut : laidOutB Try.prog = true := by kernel_rfl
set_option maxRecDepth 100000 in
theorem lifted (os : Os) (started : os.Started) (H : Type) (enc : TypeId × Value → H) :
    ReturnsInHanded {} Try.checked os 3 .any (Rows.fnExactPutCostSpec.pre6 enc Try.prog Try.f3 Rows.fnExactPutCostRow.domain false) (Rows.fnExactPutCostSpec.post enc Try.prog Try.f3 false true false false) := by
  refine returnsInHanded_of_change_sized (C := Try.checked) own started (by kernel_rfl) Try.func3
    (ChangeSpec.witness6 (enc := enc) (C := Try.checked) false ⟨#[], #[.agg #[.slice none 0 0, .slice none 0 0, .slice none 0 0]], []⟩ 8 (by kernel_rfl) (by kernel_rfl) (by kernel_rfl) (by kernel_rfl)) ?_
  intro W base args ds gs before hval0 hW hcnd hsz0 _
  have hval : ∀ (j : Nat) t v, Try.f3.params[j]? = some t → args[j]? = some v → Value.okWide Try.prog W .any base t v := hval0
  have hW' := hW
  obtain ⟨p, q, hA0, hV, rfl, hfz, hnd⟩ := hW
  have hA : DataW.TrodAll enc Try.prog W 0 (fun _ => true) true Try.f3.params.toList args.toList ds p := hA0
  rw [Try.params3] at hA hval
  obtain ⟨v0, vs0, d0, ds0, p0, q0, hargs, rfl, rfl, h0, r0⟩ := trodAll_cons hA
  obtain ⟨rfl, rfl, rfl⟩ := trodAll_nil r0
  obtain rfl : args = #[v0] := by cases args; simp_all
  obtain ⟨rfl, rfl⟩ := trodVars_none hV
  have k0 := h0
  have lt0 : ∀ x ∈ p0, x.block < W.heap.size := by obtain ⟨m, hm⟩ := k0; exact DataW.trod_lt m _ _ _ hm
  obtain ⟨u0_0, u0_1, u0_2, y0_0, y0_1, y0_2, n0, rfl, -, -, g0_0, g0_1, g0_2⟩ := open_agg3 Try.underlying24 (by kernel_rfl) (by kernel_rfl) (hval 0 24 v0 rfl rfl) h0
  obtain ⟨A0_0, c0_0, xs0_0, rfl, hcap0_0, hlen0_0, hC0_0, hwf0_0⟩ := O.ints_of Try.underlying22 Try.underlying3 (by kernel_rfl) g0_0
  obtain ⟨A0_1, c0_1, xs0_1, rfl, hcap0_1, hlen0_1, hC0_1, hwf0_1⟩ := O.ints_of Try.underlying22 Try.underlying3 (by kernel_rfl) g0_1
  obtain ⟨A0_2, c0_2, xs0_2, rfl, hcap0_2, hlen0_2, hC0_2, hwf0_2⟩ := O.ints_of Try.underlying22 Try.underlying3 (by kernel_rfl) g0_2
  obtain ⟨k, h⟩ := Pure.FnExactPutCost xs0_0 xs0_1 xs0_2 hlen0_0 hwf0_0 hlen0_1 hwf0_1 hlen0_2 hwf0_2
  have hcall := laws_FnExactPutCost.calls k A0_0 c0_0 xs0_0 A0_1 c0_1 xs0_1 A0_2 c0_2 xs0_2 true W hC0_0 hcap0_0 hC0_1 hcap0_1 hC0_2 hcap0_2 ⟨rfl⟩ h
  clear hA0 hval0 hsz0
  refine hcall.mono fun e W' ⟨he, bel⟩ => ?_
  subst he
  exact ⟨_, rfl, _, _, _, [], _, [], hW', trodAll_mk1 (shut_bool Try.underlying4 _), (trodAll_cons_mk (Below.trod laidOut (by kernel_rfl) (of_decide_eq_true (by kernel_rfl)) k0 bel lt0) trodAll_mk0), rfl, bel.frame _, fun h => by cases h⟩
theorem over : Rows.fnExactPutCostRow.holds Try.pinned (OpenSpec.ofChange Rows.fnExactPutCostSpec) :=
  OpenClaim.holds_of_wide 3 Try.f3 rfl rfl rfl rfl rfl rfl rfl ⟨rfl, rfl, rfl, rfl, rfl⟩ rfl rfl rfl rfl rfl (by kernel_rfl) Try.func3 (by kernel_rfl)
    (of_decide_eq_true (by kernel_rfl)) (by unfold Func.isWrapper; first | (rw [if_pos (by decide +kernel)]; kernel_rfl) | (rw [if_neg (by decide +kernel)]; exact ⟨rfl, rfl⟩))
    (fun os started H enc _ => lifted os started H enc)
theorem proved : Rows.FnExactPutCostSaid := over
#print axioms proved
end Go.Proofs.Ytbdjconojnjgdaa.fnExactPutCost
namespace Go.Proofs.Ytbdjconojnjgdaa
/-- The row, under a short name, for the claim. -/
theorem fnExactPutCost_holds : Rows.FnExactPutCostSaid := fnExactPutCost.proved
end Go.Proofs.Ytbdjconojnjgdaa
