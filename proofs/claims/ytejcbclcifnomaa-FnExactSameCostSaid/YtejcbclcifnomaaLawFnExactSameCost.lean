/- The row of FnExactSameCost, out of its pure statement and the printed walk. Conditions: those of the row alone. -/
import Derived.Test.YtejcbclcifnomaaRows
import Derived.Test.YtejcbclcifnomaaHFnExactSameCostx3
import Derived.Test.YtejcbclcifnomaaPureFnExactSameCost
import Derived.Test.YtejcbclcifnomaaO
import Derived.WalkKit
import Derived.ProofKit
import Derived.OpenShut
import Derived.ShutString
import Derived.ChangeOld
import Derived.Below
import Derived.SizedLaws
import Derived.Carry
namespace Go.Proofs.Ytejcbclcifnomaa.fnExactSameCost
open Go.ChangeShapes Go.WideShapes Go.ChangeAt Go.RowKit Go.Joins
open Go.ChangeMaps (open_string shut_string)
open Go.Proofs.Ytejcbclcifnomaa.HFnExactSameCost Go.Proofs.YtejcbclcifnomaaW.PrintWords
set_option linter.unusedVariables false
theorem own : ownKnob Try.prog.godebug = none := by kernel_rfl
theorem laidOut : laidOutB Try.prog = true := by kernel_rfl
set_option maxRecDepth 100000 in
theorem lifted (os : Os) (started : os.Started) (H : Type) (enc : TypeId × Value → H) :
    ReturnsInHanded {} Try.checked os 7 .any (Rows.fnExactSameCostSpec.pre6 enc Try.prog Try.f7 Rows.fnExactSameCostRow.domain false) (Rows.fnExactSameCostSpec.post enc Try.prog Try.f7 false true false false) := by
  refine returnsInHanded_of_change_sized (C := Try.checked) own started (by kernel_rfl) Try.func7
    (ChangeSpec.witness6 (enc := enc) (C := Try.checked) false ⟨#[], #[.agg #[.slice none 0 0, .slice none 0 0, .slice none 0 0], .agg #[.slice none 0 0, .slice none 0 0, .slice none 0 0]], []⟩ 8 (by kernel_rfl) (by kernel_rfl) (by kernel_rfl) (by kernel_rfl)) ?_
  intro W base args ds gs before hval0 hW hcnd hsz0 _
  have hval : ∀ (j : Nat) t v, Try.f7.params[j]? = some t → args[j]? = some v → Value.okWide Try.prog W .any base t v := hval0
  have hW' := hW
  obtain ⟨p, q, hA0, hV, rfl, hfz, hnd⟩ := hW
  have hA : DataW.TrodAll enc Try.prog W 0 (fun _ => true) true Try.f7.params.toList args.toList ds p := hA0
  rw [Try.params7] at hA hval
  obtain ⟨v0, vs0, d0, ds0, p0, q0, hargs, rfl, rfl, h0, r0⟩ := trodAll_cons hA
  obtain ⟨v1, vs1, d1, ds1, p1, q1, rfl, rfl, rfl, h1, r1⟩ := trodAll_cons r0
  obtain ⟨rfl, rfl, rfl⟩ := trodAll_nil r1
  obtain rfl : args = #[v0, v1] := by cases args; simp_all
  obtain ⟨rfl, rfl⟩ := trodVars_none hV
  have k0 := h0
  have lt0 : ∀ x ∈ p0, x.block < W.heap.size := by obtain ⟨m, hm⟩ := k0; exact DataW.trod_lt m _ _ _ hm
  have k1 := h1
  have lt1 : ∀ x ∈ p1, x.block < W.heap.size := by obtain ⟨m, hm⟩ := k1; exact DataW.trod_lt m _ _ _ hm
  obtain ⟨u0_0, u0_1, u0_2, y0_0, y0_1, y0_2, n0, rfl, -, -, g0_0, g0_1, g0_2⟩ := open_agg3 Try.underlying36 (by kernel_rfl) (by kernel_rfl) (hval 0 36 v0 rfl rfl) h0
  obtain ⟨A0_0, c0_0, xs0_0, rfl, hcap0_0, hlen0_0, hC0_0, hwf0_0⟩ := O.ints_of Try.underlying34 Try.underlying3 (by kernel_rfl) g0_0
  obtain ⟨A0_1, c0_1, xs0_1, rfl, hcap0_1, hlen0_1, hC0_1, hwf0_1⟩ := O.ints_of Try.underlying34 Try.underlying3 (by kernel_rfl) g0_1
  obtain ⟨A0_2, c0_2, xs0_2, rfl, hcap0_2, hlen0_2, hC0_2, hwf0_2⟩ := O.ints_of Try.underlying34 Try.underlying3 (by kernel_rfl) g0_2
  obtain ⟨u1_0, u1_1, u1_2, y1_0, y1_1, y1_2, n1, rfl, -, -, g1_0, g1_1, g1_2⟩ := open_agg3 Try.underlying36 (by kernel_rfl) (by kernel_rfl) (hval 1 36 v1 rfl rfl) h1
  obtain ⟨A1_0, c1_0, xs1_0, rfl, hcap1_0, hlen1_0, hC1_0, hwf1_0⟩ := O.ints_of Try.underlying34 Try.underlying3 (by kernel_rfl) g1_0
  obtain ⟨A1_1, c1_1, xs1_1, rfl, hcap1_1, hlen1_1, hC1_1, hwf1_1⟩ := O.ints_of Try.underlying34 Try.underlying3 (by kernel_rfl) g1_1
  obtain ⟨A1_2, c1_2, xs1_2, rfl, hcap1_2, hlen1_2, hC1_2, hwf1_2⟩ := O.ints_of Try.underlying34 Try.underlying3 (by kernel_rfl) g1_2
  obtain ⟨k, h⟩ := Pure.FnExactSameCost xs0_0 xs0_1 xs0_2 xs1_0 xs1_1 xs1_2 hlen0_0 hwf0_0 hlen0_1 hwf0_1 hlen0_2 hwf0_2 hlen1_0 hwf1_0 hlen1_1 hwf1_1 hlen1_2 hwf1_2
  have hcall := laws_FnExactSameCost.calls k A0_0 c0_0 xs0_0 A0_1 c0_1 xs0_1 A0_2 c0_2 xs0_2 A1_0 c1_0 xs1_0 A1_1 c1_1 xs1_1 A1_2 c1_2 xs1_2 true W hC0_0 hcap0_0 hC0_1 hcap0_1 hC0_2 hcap0_2 hC1_0 hcap1_0 hC1_1 hcap1_1 hC1_2 hcap1_2 ⟨rfl⟩ h
  clear hA0 hval0 hsz0
  refine hcall.mono fun e W' ⟨he, bel⟩ => ?_
  subst he
  exact ⟨_, rfl, _, _, _, [], _, [], hW', trodAll_mk1 (shut_bool Try.underlying4 _), (trodAll_cons_mk (Below.trod laidOut (by kernel_rfl) (of_decide_eq_true (by kernel_rfl)) k0 bel lt0) (trodAll_cons_mk (Below.trod laidOut (by kernel_rfl) (of_decide_eq_true (by kernel_rfl)) k1 bel lt1) trodAll_mk0)), rfl, bel.frame _, fun h => by cases h⟩
theorem over : Rows.fnExactSameCostRow.holds Try.pinned (OpenSpec.ofChange Rows.fnExactSameCostSpec) :=
  OpenClaim.holds_of_wide 7 Try.f7 rfl rfl rfl rfl rfl rfl rfl ⟨rfl, rfl, rfl, rfl, rfl⟩ rfl rfl rfl rfl rfl (by kernel_rfl) Try.func7 (by kernel_rfl)
    (of_decide_eq_true (by kernel_rfl)) (by unfold Func.isWrapper; first | (rw [if_pos (by decide +kernel)]; kernel_rfl) | (rw [if_neg (by decide +kernel)]; exact ⟨rfl, rfl⟩))
    (fun os started H enc _ => lifted os started H enc)
theorem proved : Rows.FnExactSameCostSaid := over
#print axioms proved
end Go.Proofs.Ytejcbclcifnomaa.fnExactSameCost
namespace Go.Proofs.Ytejcbclcifnomaa
/-- The row, under a short name, for the claim. -/
theorem fnExactSameCost_holds : Rows.FnExactSameCostSaid := fnExactSameCost.proved
end Go.Proofs.Ytejcbclcifnomaa
