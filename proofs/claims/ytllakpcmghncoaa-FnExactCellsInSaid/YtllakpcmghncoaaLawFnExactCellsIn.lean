/- The row of FnExactCellsIn, out of its pure statement and the printed walk. Conditions: those of the row alone. -/
import Derived.Test.YtllakpcmghncoaaRows
import Derived.Test.YtllakpcmghncoaaHFnExactCellsInx9
import Derived.Test.YtllakpcmghncoaaPureFnExactCellsIn
import Derived.Test.YtllakpcmghncoaaO
import Derived.WalkKit
import Derived.ProofKit
import Derived.OpenShut
import Derived.ShutString
import Derived.ChangeOld
import Derived.Below
import Derived.SizedLaws
import Derived.Carry
namespace Go.Proofs.Ytllakpcmghncoaa.fnExactCellsIn
open Go.ChangeShapes Go.WideShapes Go.ChangeAt Go.RowKit Go.Joins
open Go.ChangeMaps (open_string shut_string)
open Go.Proofs.Ytllakpcmghncoaa.HFnExactCellsIn Go.Proofs.YtllakpcmghncoaaW.PrintWords
set_option linter.unusedVariables false
theorem own : ownKnob Try.prog.godebug = none := by kernel_rfl
theorem laidOut : laidOutB Try.prog = true := by kernel_rfl
set_option maxRecDepth 100000 in
theorem lifted (os : Os) (started : os.Started) (H : Type) (enc : TypeId × Value → H) :
    ReturnsInHanded {} Try.checked os 8 .any (Rows.fnExactCellsInSpec.pre6 enc Try.prog Try.f8 Rows.fnExactCellsInRow.domain false) (Rows.fnExactCellsInSpec.post enc Try.prog Try.f8 false true false false) := by
  refine returnsInHanded_of_change_sized (C := Try.checked) own started (by kernel_rfl) Try.func8
    (ChangeSpec.witness6 (enc := enc) (C := Try.checked) false ⟨#[], #[.slice none 0 0, .slice none 0 0], []⟩ 8 (by kernel_rfl) (by kernel_rfl) (by kernel_rfl) (by kernel_rfl)) ?_
  intro W base args ds gs before hval0 hW hcnd hsz0 _
  have hval : ∀ (j : Nat) t v, Try.f8.params[j]? = some t → args[j]? = some v → Value.okWide Try.prog W .any base t v := hval0
  have hW' := hW
  obtain ⟨p, q, hA0, hV, rfl, hfz, hnd⟩ := hW
  have hA : DataW.TrodAll enc Try.prog W 0 (fun _ => true) true Try.f8.params.toList args.toList ds p := hA0
  rw [Try.params8] at hA hval
  obtain ⟨v0, vs0, d0, ds0, p0, q0, hargs, rfl, rfl, h0, r0⟩ := trodAll_cons hA
  obtain ⟨v1, vs1, d1, ds1, p1, q1, rfl, rfl, rfl, h1, r1⟩ := trodAll_cons r0
  obtain ⟨rfl, rfl, rfl⟩ := trodAll_nil r1
  obtain rfl : args = #[v0, v1] := by cases args; simp_all
  obtain ⟨rfl, rfl⟩ := trodVars_none hV
  have k0 := h0
  have lt0 : ∀ x ∈ p0, x.block < W.heap.size := by obtain ⟨m, hm⟩ := k0; exact DataW.trod_lt m _ _ _ hm
  obtain ⟨a0, len0, cp0, rfl⟩ := okWide_slice Try.underlying27 (hval 0 27 v0 rfl rfl)
  obtain ⟨fuel0, hf0⟩ := h0
  obtain ⟨A0, c0, xs0, ev0, hcap0, hlen0, hC0, hwf0⟩ := O.pairs_of (v := .slice a0 len0 cp0) Try.underlying27 Try.underlying58 (by kernel_rfl) rfl rfl (by kernel_rfl) (by kernel_rfl) Try.underlying3 Try.underlying3 hf0
  injection ev0 with e1_0 e2_0 e3_0
  subst e1_0
  subst e2_0
  subst e3_0
  have hk0 : Kd.C k58 W a0 (xs0.map fun p => (⟨p.1, p.2⟩ : S58)).length (xs0.map fun p => (⟨p.1, p.2⟩ : S58)) := O.iso_C (fun _ => rfl) hC0
  have k1 := h1
  have lt1 : ∀ x ∈ p1, x.block < W.heap.size := by obtain ⟨m, hm⟩ := k1; exact DataW.trod_lt m _ _ _ hm
  obtain ⟨a1, len1, cp1, rfl⟩ := okWide_slice Try.underlying27 (hval 1 27 v1 rfl rfl)
  obtain ⟨fuel1, hf1⟩ := h1
  obtain ⟨A1, c1, xs1, ev1, hcap1, hlen1, hC1, hwf1⟩ := O.pairs_of (v := .slice a1 len1 cp1) Try.underlying27 Try.underlying58 (by kernel_rfl) rfl rfl (by kernel_rfl) (by kernel_rfl) Try.underlying3 Try.underlying3 hf1
  injection ev1 with e1_1 e2_1 e3_1
  subst e1_1
  subst e2_1
  subst e3_1
  have hk1 : Kd.C k58 W a1 (xs1.map fun p => (⟨p.1, p.2⟩ : S58)).length (xs1.map fun p => (⟨p.1, p.2⟩ : S58)) := O.iso_C (fun _ => rfl) hC1
  obtain ⟨k, h⟩ := Pure.FnExactCellsIn (xs0.map fun p => (⟨p.1, p.2⟩ : S58)) (xs1.map fun p => (⟨p.1, p.2⟩ : S58)) (by simpa using hlen0) (by intro x hx; obtain ⟨y, hy, rfl⟩ := List.mem_map.1 hx; exact hwf0 y hy) (by simpa using hlen1) (by intro x hx; obtain ⟨y, hy, rfl⟩ := List.mem_map.1 hx; exact hwf1 y hy)
  have hcall := laws_FnExactCellsIn.calls k a0 cp0 _ a1 cp1 _ true W hk0 (by simpa using hcap0) hk1 (by simpa using hcap1) ⟨rfl⟩ h
  simp only [List.length_map] at hcall
  clear hA0 hval0 hsz0
  refine hcall.mono fun e W' ⟨he, bel⟩ => ?_
  subst he
  exact ⟨_, rfl, _, _, _, [], _, [], hW', trodAll_mk1 (shut_bool Try.underlying4 _), (trodAll_cons_mk (Below.trod laidOut (by kernel_rfl) (of_decide_eq_true (by kernel_rfl)) k0 bel lt0) (trodAll_cons_mk (Below.trod laidOut (by kernel_rfl) (of_decide_eq_true (by kernel_rfl)) k1 bel lt1) trodAll_mk0)), rfl, bel.frame _, fun h => by cases h⟩
theorem over : Rows.fnExactCellsInRow.holds Try.pinned (OpenSpec.ofChange Rows.fnExactCellsInSpec) :=
  OpenClaim.holds_of_wide 8 Try.f8 rfl rfl rfl rfl rfl rfl rfl ⟨rfl, rfl, rfl, rfl, rfl⟩ rfl rfl rfl rfl rfl (by kernel_rfl) Try.func8 (by kernel_rfl)
    (of_decide_eq_true (by kernel_rfl)) (by unfold Func.isWrapper; first | (rw [if_pos (by decide +kernel)]; kernel_rfl) | (rw [if_neg (by decide +kernel)]; exact ⟨rfl, rfl⟩))
    (fun os started H enc _ => lifted os started H enc)
theorem proved : Rows.FnExactCellsInSaid := over
#print axioms proved
end Go.Proofs.Ytllakpcmghncoaa.fnExactCellsIn
namespace Go.Proofs.Ytllakpcmghncoaa
/-- The row, under a short name, for the claim. -/
theorem fnExactCellsIn_holds : Rows.FnExactCellsInSaid := fnExactCellsIn.proved
end Go.Proofs.Ytllakpcmghncoaa
