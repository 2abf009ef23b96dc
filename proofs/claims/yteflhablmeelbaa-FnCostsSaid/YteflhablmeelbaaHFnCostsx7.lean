/- Functions of the program and what each call of them comes to, for the law FnCosts; written by a program of this session. No condition beyond those of each theorem. -/
import Derived.Test.YteflhablmeelbaaHFnCostsx0
import Derived.Test.YteflhablmeelbaaHFnCostsx1
import Derived.Test.YteflhablmeelbaaHFnCostsx4
import Derived.Test.YteflhablmeelbaaHFnCostsx5
import Derived.Test.YteflhablmeelbaaHFnCostsx6
namespace Go.Proofs.Yteflhablmeelbaa.HFnCosts
open Go.RowKit Go.Proofs.YteflhablmeelbaaW.PrintWords Go.Proofs.YteflhablmeelbaaW.PrintLast Go.Proofs.YteflhablmeelbaaW.PrintMore
attribute [local go_sem] max2_int min2_int max_two min_two max_three min_three max_four min_four   -- for this text's walks alone
open List renaming setIfInBounds_toArray → s1_, set_cons_zero → s2_, set_cons_succ → s3_
set_option linter.unusedVariables false
set_option linter.unusedSimpArgs false

abbrev bs7_0 : Array Bool := #[false, false, false, false, false, false, false, false, false, false, false, false, false, false, false]
abbrev bs7_1 : Array Bool := #[true, false, false, false, false, false, false, false, false, false, false, false, false, false, false]
abbrev bs7_2 : Array Bool := #[true, false, true, false, false, false, false, false, false, false, false, false, false, false, false]
abbrev bs7_3 : Array Bool := #[true, true, true, false, false, false, false, false, false, false, false, false, false, false, false]
abbrev bs7_4 : Array Bool := #[true, true, true, true, false, false, false, false, false, false, false, false, false, false, false]
abbrev bs7_5 : Array Bool := #[true, true, true, true, true, false, false, false, false, false, false, false, false, false, false]
abbrev bs7_6 : Array Bool := #[true, true, true, true, true, true, false, false, false, false, false, false, false, false, false]
abbrev bs7_7 : Array Bool := #[true, true, true, true, true, true, true, false, false, false, false, false, false, false, false]
abbrev bs7_8 : Array Bool := #[true, true, true, true, true, true, true, true, false, false, false, false, false, false, false]
abbrev bs7_9 : Array Bool := #[true, true, true, true, true, true, true, true, true, false, false, false, false, false, false]
abbrev bs7_10 : Array Bool := #[true, true, true, true, true, true, true, true, true, true, false, false, false, false, false]
abbrev bs7_11 : Array Bool := #[true, true, true, true, true, true, true, true, true, true, true, false, false, false, false]
abbrev bs7_12 : Array Bool := #[true, true, true, true, true, true, true, true, true, true, true, true, false, false, false]
abbrev bs7_13 : Array Bool := #[true, true, true, true, true, true, true, true, true, true, true, true, true, false, false]
abbrev bs7_14 : Array Bool := #[true, true, true, true, true, true, true, true, true, true, true, true, true, true, false]
abbrev bs7_15 : Array Bool := #[true, true, true, true, true, true, true, true, true, true, true, true, true, true, true]
abbrev bs7_16 : Array Bool := #[false, false, false, false, false, false, false, false, false, false, false, false, false, false, false, false, false, false, false, false, false, false, false, false, false, false, false, false, false, false, false, false, false, false, false, false, false, false, false, false]
abbrev bs7_17 : Array Bool := #[true, false, false, false, false, false, false, false, false, false, false, false, false, false, false, false, false, false, false, false, false, false, false, false, false, false, false, false, false, false, false, false, false, false, false, false, false, false, false, false]
abbrev bs7_18 : Array Bool := #[true, true, false, false, false, false, false, false, false, false, false, false, false, false, false, false, false, false, false, false, false, false, false, false, false, false, false, false, false, false, false, false, false, false, false, false, false, false, false, false]
abbrev bs7_19 : Array Bool := #[true, true, false, true, false, false, false, false, false, false, false, false, false, false, false, false, false, false, false, false, false, false, false, false, false, false, false, false, false, false, false, false, false, false, false, false, false, false, false, false]
abbrev bs7_20 : Array Bool := #[true, true, false, true, true, false, false, false, false, false, false, false, false, false, false, false, false, false, false, false, false, false, false, false, false, false, false, false, false, false, false, false, false, false, false, false, false, false, false, false]
abbrev bs7_21 : Array Bool := #[true, true, false, true, true, true, false, false, false, false, false, false, false, false, false, false, false, false, false, false, false, false, false, false, false, false, false, false, false, false, false, false, false, false, false, false, false, false, false, false]
abbrev bs7_22 : Array Bool := #[true, true, false, true, true, true, true, false, false, false, false, false, false, false, false, false, false, false, false, false, false, false, false, false, false, false, false, false, false, false, false, false, false, false, false, false, false, false, false, false]
abbrev bs7_23 : Array Bool := #[true, true, true, true, true, true, true, false, false, false, false, false, false, false, false, false, false, false, false, false, false, false, false, false, false, false, false, false, false, false, false, false, false, false, false, false, false, false, false, false]
abbrev bs7_24 : Array Bool := #[true, true, true, true, true, true, true, true, false, false, false, false, false, false, false, false, false, false, false, false, false, false, false, false, false, false, false, false, false, false, false, false, false, false, false, false, false, false, false, false]
abbrev bs7_25 : Array Bool := #[true, true, true, true, true, true, true, true, true, false, false, false, false, false, false, false, false, false, false, false, false, false, false, false, false, false, false, false, false, false, false, false, false, false, false, false, false, false, false, false]
abbrev bs7_26 : Array Bool := #[true, true, true, true, true, true, true, true, true, true, false, false, false, false, false, false, false, false, false, false, false, false, false, false, false, false, false, false, false, false, false, false, false, false, false, false, false, false, false, false]
abbrev bs7_27 : Array Bool := #[true, true, true, true, true, true, true, true, true, true, true, false, false, false, false, false, false, false, false, false, false, false, false, false, false, false, false, false, false, false, false, false, false, false, false, false, false, false, false, false]
abbrev bs7_28 : Array Bool := #[true, true, true, true, true, true, true, true, true, true, true, false, true, false, false, false, false, false, false, false, false, false, false, false, false, false, false, false, false, false, false, false, false, false, false, false, false, false, false, false]
abbrev bs7_29 : Array Bool := #[true, true, true, true, true, true, true, true, true, true, true, false, true, false, true, false, false, false, false, false, false, false, false, false, false, false, false, false, false, false, false, false, false, false, false, false, false, false, false, false]
abbrev bs7_30 : Array Bool := #[true, true, true, true, true, true, true, true, true, true, true, false, true, false, true, false, true, false, false, false, false, false, false, false, false, false, false, false, false, false, false, false, false, false, false, false, false, false, false, false]
abbrev bs7_31 : Array Bool := #[true, true, true, true, true, true, true, true, true, true, true, true, true, false, true, false, true, false, false, false, false, false, false, false, false, false, false, false, false, false, false, false, false, false, false, false, false, false, false, false]
abbrev bs7_32 : Array Bool := #[true, true, true, true, true, true, true, true, true, true, true, true, true, false, true, true, true, false, false, false, false, false, false, false, false, false, false, false, false, false, false, false, false, false, false, false, false, false, false, false]
abbrev bs7_33 : Array Bool := #[true, true, true, true, true, true, true, true, true, true, true, true, true, false, true, true, true, true, false, false, false, false, false, false, false, false, false, false, false, false, false, false, false, false, false, false, false, false, false, false]
abbrev bs7_34 : Array Bool := #[true, true, true, true, true, true, true, true, true, true, true, true, true, false, true, true, true, true, true, false, false, false, false, false, false, false, false, false, false, false, false, false, false, false, false, false, false, false, false, false]
abbrev bs7_35 : Array Bool := #[true, true, true, true, true, true, true, true, true, true, true, true, true, true, true, true, true, true, true, false, false, false, false, false, false, false, false, false, false, false, false, false, false, false, false, false, false, false, false, false]
abbrev bs7_36 : Array Bool := #[true, true, true, true, true, true, true, true, true, true, true, true, true, true, true, true, true, true, true, true, false, false, false, false, false, false, false, false, false, false, false, false, false, false, false, false, false, false, false, false]
abbrev bs7_37 : Array Bool := #[true, true, true, true, true, true, true, true, true, true, true, true, true, true, true, true, true, true, true, true, true, false, false, false, false, false, false, false, false, false, false, false, false, false, false, false, false, false, false, false]
abbrev bs7_38 : Array Bool := #[true, true, true, true, true, true, true, true, true, true, true, true, true, true, true, true, true, true, true, true, true, true, false, false, false, false, false, false, false, false, false, false, false, false, false, false, false, false, false, false]
abbrev bs7_39 : Array Bool := #[true, true, true, true, true, true, true, true, true, true, true, true, true, true, true, true, true, true, true, true, true, true, false, true, false, false, false, false, false, false, false, false, false, false, false, false, false, false, false, false]
abbrev bs7_40 : Array Bool := #[true, true, true, true, true, true, true, true, true, true, true, true, true, true, true, true, true, true, true, true, true, true, false, true, false, true, false, false, false, false, false, false, false, false, false, false, false, false, false, false]
abbrev bs7_41 : Array Bool := #[true, true, true, true, true, true, true, true, true, true, true, true, true, true, true, true, true, true, true, true, true, true, false, true, false, true, false, true, false, false, false, false, false, false, false, false, false, false, false, false]
abbrev bs7_42 : Array Bool := #[true, true, true, true, true, true, true, true, true, true, true, true, true, true, true, true, true, true, true, true, true, true, true, true, false, true, false, true, false, false, false, false, false, false, false, false, false, false, false, false]
abbrev bs7_43 : Array Bool := #[true, true, true, true, true, true, true, true, true, true, true, true, true, true, true, true, true, true, true, true, true, true, true, true, false, true, true, true, false, false, false, false, false, false, false, false, false, false, false, false]
abbrev bs7_44 : Array Bool := #[true, true, true, true, true, true, true, true, true, true, true, true, true, true, true, true, true, true, true, true, true, true, true, true, false, true, true, true, true, false, false, false, false, false, false, false, false, false, false, false]
abbrev bs7_45 : Array Bool := #[true, true, true, true, true, true, true, true, true, true, true, true, true, true, true, true, true, true, true, true, true, true, true, true, false, true, true, true, true, true, false, false, false, false, false, false, false, false, false, false]
abbrev bs7_46 : Array Bool := #[true, true, true, true, true, true, true, true, true, true, true, true, true, true, true, true, true, true, true, true, true, true, true, true, true, true, true, true, true, true, false, false, false, false, false, false, false, false, false, false]
abbrev bs7_47 : Array Bool := #[true, true, true, true, true, true, true, true, true, true, true, true, true, true, true, true, true, true, true, true, true, true, true, true, true, true, true, true, true, true, true, false, false, false, false, false, false, false, false, false]
abbrev bs7_48 : Array Bool := #[true, true, true, true, true, true, true, true, true, true, true, true, true, true, true, true, true, true, true, true, true, true, true, true, true, true, true, true, true, true, true, true, false, false, false, false, false, false, false, false]
abbrev bs7_49 : Array Bool := #[true, true, true, true, true, true, true, true, true, true, true, true, true, true, true, true, true, true, true, true, true, true, true, true, true, true, true, true, true, true, true, true, true, false, false, false, false, false, false, false]
abbrev bs7_50 : Array Bool := #[true, true, true, true, true, true, true, true, true, true, true, true, true, true, true, true, true, true, true, true, true, true, true, true, true, true, true, true, true, true, true, true, true, false, true, false, false, false, false, false]
abbrev bs7_51 : Array Bool := #[true, true, true, true, true, true, true, true, true, true, true, true, true, true, true, true, true, true, true, true, true, true, true, true, true, true, true, true, true, true, true, true, true, false, true, true, false, false, false, false]
abbrev bs7_52 : Array Bool := #[true, true, true, true, true, true, true, true, true, true, true, true, true, true, true, true, true, true, true, true, true, true, true, true, true, true, true, true, true, true, true, true, true, true, true, true, false, false, false, false]
abbrev bs7_53 : Array Bool := #[true, true, true, true, true, true, true, true, true, true, true, true, true, true, true, true, true, true, true, true, true, true, true, true, true, true, true, true, true, true, true, true, true, true, true, true, true, false, false, false]
abbrev bs7_54 : Array Bool := #[true, true, true, true, true, true, true, true, true, true, true, true, true, true, true, true, true, true, true, true, true, true, true, true, true, true, true, true, true, true, true, true, true, true, true, true, true, true, false, false]
abbrev bs7_55 : Array Bool := #[true, true, true, true, true, true, true, true, true, true, true, true, true, true, true, true, true, true, true, true, true, true, true, true, true, true, true, true, true, true, true, true, true, true, true, true, true, true, true, false]
abbrev bs7_56 : Array Bool := #[true, true, true, true, true, true, true, true, true, true, true, true, true, true, true, true, true, true, true, true, true, true, true, true, true, true, true, true, true, true, true, true, true, true, true, true, true, true, true, true]
/-! ### laws_FnCosts: function 12 -/
mutual
def laws_FnCosts.j0 : Nat → Int → Int → Int → Bool → List Int → List Int → List Int → Option (Bool)
  | 0, _, _, _, _, _, _, _ => none
  | k + 1, x4, x5, x6, x33, x296000, x296001, x296002 => if x33 = true then (some false) else ((spec_CostOk.f k x296000 x296001 x296002).bind fun t319 => (if t319 = true then ((spec_LabelOk.f x4).bind fun t320 => (if t320 = true then ((spec_LabelOk.f x5).bind fun t321 => (laws_FnCosts.j1 k x4 x5 x6 (!t321) x296000 x296001 x296002)) else (laws_FnCosts.j1 k x4 x5 x6 true x296000 x296001 x296002))) else (laws_FnCosts.j1 k x4 x5 x6 true x296000 x296001 x296002)))
def laws_FnCosts.j1 : Nat → Int → Int → Int → Bool → List Int → List Int → List Int → Option (Bool)
  | 0, _, _, _, _, _, _, _ => none
  | k + 1, x4, x5, x6, x46, x296000, x296001, x296002 => if x46 = true then (if x6 = 0 then ((spec_LabelOk.f x4).bind fun t322 => (if t322 = true then (some true) else ((impl_DelCost.f k x296000 x296001 x296002 x4).bind fun t323 => (some (t323 == 0))))) else (some false)) else (if 0 ≤ (wrap64 ((wrap64 (x4 * 6)) + x5)) then (if (wrap64 ((wrap64 (x4 * 6)) + x5)) < (x296002.length : Int) then (if x6 = (rd x296002 (wrap64 ((wrap64 (x4 * 6)) + x5))) then ((impl_DelCost.f k x296000 x296001 x296002 x4).bind fun t325 => (if 0 ≤ x4 then (if x4 < (x296000.length : Int) then (if t325 = (rd x296000 x4) then ((impl_InsCost.f k x296000 x296001 x296002 x5).bind fun t327 => (if 0 ≤ x5 then (if x5 < (x296001.length : Int) then (if t327 = (rd x296001 x5) then ((impl_RelCost.f k x296000 x296001 x296002 x4 x4).bind fun t329 => (some (t329 == 0))) else (some false)) else (none)) else (none))) else (some false)) else (none)) else (none))) else (some false)) else (none)) else (none))
end
def laws_FnCosts.f (k : Nat) (l0 : List Int) : Option (Bool) := (laws_big.f l0).bind fun t283 => (if t283 = true then (some true) else ((spec_DrawRelCost.f k l0).bind fun bt284 => ((impl_RelCost.f k bt284.1 bt284.2.1 bt284.2.2.1 bt284.2.2.2.1 bt284.2.2.2.2).bind fun t296 => ((impl_CostOk.f k bt284.1 bt284.2.1 bt284.2.2.1).bind fun t297 => ((spec_CostOk.f k bt284.1 bt284.2.1 bt284.2.2.1).bind fun t298 => (if (t297 != t298) = true then (laws_FnCosts.j0 k bt284.2.2.2.1 bt284.2.2.2.2 t296 true bt284.1 bt284.2.1 bt284.2.2.1) else ((impl_UnitCost.f k).bind fun bt299 => ((impl_CostOk.f k bt299.1 bt299.2.1 bt299.2.2).bind fun t308 => (if t308 = true then ((impl_UnitCost.f k).bind fun bt309 => ((impl_RelCost.f k bt309.1 bt309.2.1 bt309.2.2 1 2).bind fun t318 => (laws_FnCosts.j0 k bt284.2.2.2.1 bt284.2.2.2.2 t296 (t318 != 1) bt284.1 bt284.2.1 bt284.2.2.1))) else (laws_FnCosts.j0 k bt284.2.2.2.1 bt284.2.2.2.2 t296 true bt284.1 bt284.2.1 bt284.2.2.1))))))))))
theorem laws_FnCosts.mono_l : ∀ k, (∀ y0 y1 y2 y3 y4 y5 y6, LeO (laws_FnCosts.j0 k y0 y1 y2 y3 y4 y5 y6) (laws_FnCosts.j0 (k + 1) y0 y1 y2 y3 y4 y5 y6)) ∧ (∀ y0 y1 y2 y3 y4 y5 y6, LeO (laws_FnCosts.j1 k y0 y1 y2 y3 y4 y5 y6) (laws_FnCosts.j1 (k + 1) y0 y1 y2 y3 y4 y5 y6))
  | 0 => ⟨fun _ _ _ _ _ _ _ r h => by simp [laws_FnCosts.j0] at h, fun _ _ _ _ _ _ _ r h => by simp [laws_FnCosts.j1] at h⟩
  | k + 1 => by
    obtain ⟨ih0, ih1⟩ := laws_FnCosts.mono_l k
    refine ⟨?_, ?_⟩
    · intro y0 y1 y2 y3 y4 y5 y6
      unfold laws_FnCosts.j0
      repeat' first
      | (with_reducible exact ih0 _ _ _ _ _ _ _)
      | (with_reducible exact ih1 _ _ _ _ _ _ _)
      | (with_reducible exact impl_CostOk.mono _ _ _ _)
      | (with_reducible exact impl_DelCost.mono _ _ _ _ _)
      | (with_reducible exact impl_InsCost.mono _ _ _ _ _)
      | (with_reducible exact impl_RelCost.mono _ _ _ _ _ _)
      | (with_reducible exact impl_UnitCost.mono _)
      | (with_reducible exact spec_CostOk.mono _ _ _ _)
      | (with_reducible exact spec_DrawRelCost.mono _ _)
      | (with_reducible exact LeO.refl _)
      | (with_reducible exact LeO.none _)
      | (with_reducible refine LeO.ite ?_ ?_)
      | (with_reducible refine LeO.bind ?_ (fun _ => ?_))
      | exact ih0 _ _ _ _ _ _ _
      | exact ih1 _ _ _ _ _ _ _
      | exact impl_CostOk.mono _ _ _ _
      | exact impl_DelCost.mono _ _ _ _ _
      | exact impl_InsCost.mono _ _ _ _ _
      | exact impl_RelCost.mono _ _ _ _ _ _
      | exact impl_UnitCost.mono _
      | exact spec_CostOk.mono _ _ _ _
      | exact spec_DrawRelCost.mono _ _
      | exact LeO.none _
      | refine LeO.ite ?_ ?_
      | refine LeO.bind ?_ (fun _ => ?_)
    · intro y0 y1 y2 y3 y4 y5 y6
      unfold laws_FnCosts.j1
      repeat' first
      | (with_reducible exact ih0 _ _ _ _ _ _ _)
      | (with_reducible exact ih1 _ _ _ _ _ _ _)
      | (with_reducible exact impl_CostOk.mono _ _ _ _)
      | (with_reducible exact impl_DelCost.mono _ _ _ _ _)
      | (with_reducible exact impl_InsCost.mono _ _ _ _ _)
      | (with_reducible exact impl_RelCost.mono _ _ _ _ _ _)
      | (with_reducible exact impl_UnitCost.mono _)
      | (with_reducible exact spec_CostOk.mono _ _ _ _)
      | (with_reducible exact spec_DrawRelCost.mono _ _)
      | (with_reducible exact LeO.refl _)
      | (with_reducible exact LeO.none _)
      | (with_reducible refine LeO.ite ?_ ?_)
      | (with_reducible refine LeO.bind ?_ (fun _ => ?_))
      | exact ih0 _ _ _ _ _ _ _
      | exact ih1 _ _ _ _ _ _ _
      | exact impl_CostOk.mono _ _ _ _
      | exact impl_DelCost.mono _ _ _ _ _
      | exact impl_InsCost.mono _ _ _ _ _
      | exact impl_RelCost.mono _ _ _ _ _ _
      | exact impl_UnitCost.mono _
      | exact spec_CostOk.mono _ _ _ _
      | exact spec_DrawRelCost.mono _ _
      | exact LeO.none _
      | refine LeO.ite ?_ ?_
      | refine LeO.bind ?_ (fun _ => ?_)
theorem laws_FnCosts.mono : ∀ a0 k, LeO (laws_FnCosts.f k a0) (laws_FnCosts.f (k + 1) a0) := by
  intro a0 k
  obtain ⟨ih0, ih1⟩ := laws_FnCosts.mono_l k
  unfold laws_FnCosts.f
  repeat' first
      | (with_reducible exact ih0 _ _ _ _ _ _ _)
      | (with_reducible exact ih1 _ _ _ _ _ _ _)
      | (with_reducible exact impl_CostOk.mono _ _ _ _)
      | (with_reducible exact impl_DelCost.mono _ _ _ _ _)
      | (with_reducible exact impl_InsCost.mono _ _ _ _ _)
      | (with_reducible exact impl_RelCost.mono _ _ _ _ _ _)
      | (with_reducible exact impl_UnitCost.mono _)
      | (with_reducible exact spec_CostOk.mono _ _ _ _)
      | (with_reducible exact spec_DrawRelCost.mono _ _)
      | (with_reducible exact LeO.refl _)
      | (with_reducible exact LeO.none _)
      | (with_reducible refine LeO.ite ?_ ?_)
      | (with_reducible refine LeO.bind ?_ (fun _ => ?_))
      | exact ih0 _ _ _ _ _ _ _
      | exact ih1 _ _ _ _ _ _ _
      | exact impl_CostOk.mono _ _ _ _
      | exact impl_DelCost.mono _ _ _ _ _
      | exact impl_InsCost.mono _ _ _ _ _
      | exact impl_RelCost.mono _ _ _ _ _ _
      | exact impl_UnitCost.mono _
      | exact spec_CostOk.mono _ _ _ _
      | exact spec_DrawRelCost.mono _ _
      | exact LeO.none _
      | refine LeO.ite ?_ ?_
      | refine LeO.bind ?_ (fun _ => ?_)
def laws_FnCosts.T5 : Bool × List (List Nat × List Nat) := (true, [([], []), ([0], [0]), ([], []), ([2, 1], [2]), ([1, 3], [1, 3]), ([4, 3], [4]), ([5, 5], [5]), ([6, 6, 5], [5, 6]), ([7, 5], [5, 7]), ([5, 8], [5, 8]), ([9, 7], [9]), ([10, 10], [10]), ([11, 11, 10], [10, 11]), ([12, 10], [10, 12]), ([10, 13], [10, 13])])
def laws_FnCosts.B5 : List Nat := [0, 1, 0, 7, 15, 31, 63, 127, 255, 511, 1023, 2047, 4095, 8191, 16383]
theorem laws_FnCosts.tab5 : rtab .any (opsOf Try.f12 5) = laws_FnCosts.T5 := by kernel_rfl
theorem laws_FnCosts.bits5 : waitsOk laws_FnCosts.T5.2 laws_FnCosts.B5 = true := by kernel_rfl
def laws_FnCosts.T9 : Bool × List (List Nat × List Nat) := (true, [([], []), ([], []), ([1], [1]), ([], []), ([3], [3]), ([], []), ([4, 5], [4, 5]), ([2, 6], [2, 6]), ([7], [7]), ([0, 8], [0, 8]), ([9], [9]), ([10], [10]), ([10], [10]), ([11, 12, 10, 10], [10, 11, 12]), ([10], [10]), ([14, 10], [10, 14]), ([10], [10]), ([15, 16, 10], [10, 15, 16]), ([17, 10], [10, 17]), ([13, 18, 10], [10, 13, 18]), ([10, 19], [10, 19]), ([20, 13], [20]), ([21], [21]), ([21], [21]), ([22, 23, 21, 21], [21, 22, 23]), ([21], [21]), ([25, 21], [21, 25]), ([21], [21]), ([26, 27, 21], [21, 26, 27]), ([28, 21], [21, 28]), ([24, 29, 21], [21, 24, 29]), ([21, 30], [21, 30]), ([31, 24], [31]), ([32], [32]), ([32], [32]), ([32], [32]), ([33, 34, 35, 32, 32], [32, 33, 34, 35]), ([36, 32], [32, 36]), ([32, 37], [32, 37]), ([38, 36, 0, 1, 2, 3, 4, 5, 6, 7, 8, 9, 10, 11, 12, 13, 14, 15, 16, 17, 18, 19, 20, 21, 22, 23, 24, 25, 26, 27, 28, 29, 30, 31, 32, 33, 34, 35, 36, 37, 38], [38])])
def laws_FnCosts.B9 : List Nat := [0, 0, 2, 0, 8, 0, 56, 126, 254, 511, 1023, 2047, 2047, 8191, 2047, 18431, 2047, 116735, 247807, 524287, 1048575, 2097151, 4194303, 4194303, 16777215, 4194303, 37748735, 4194303, 239075327, 507510783, 1073741823, 2147483647, 4294967295, 8589934591, 8589934591, 8589934591, 68719476735, 137438953471, 274877906943, 549755813887]
theorem laws_FnCosts.tab9 : rtab .any (opsOf Try.f12 9) = laws_FnCosts.T9 := by kernel_rfl
theorem laws_FnCosts.bits9 : waitsOk laws_FnCosts.T9.2 laws_FnCosts.B9 = true := by kernel_rfl
set_option maxHeartbeats 8000000 in
set_option maxRecDepth 100000 in
theorem laws_FnCosts.calls (k : Nat) (A0 : Option Addr) (c0 : Nat) (l0 : List Int) (r : Bool) (w : World) (hr0 : Kd.C (Kd.int .u8) w A0 l0.length l0) (hc0 : l0.length ≤ c0) (hq : Aside0 (r = true)) (h : laws_FnCosts.f k l0 = some r) :
    Calls Try.prog 12 #[.slice A0 l0.length c0] w fun e w' => e = .returned (.bool r) ∧ Below w.heap.size w w' := by
  have hu35 := Try.underlying35; have HR0 := Aside0.mk hr0; have HC0 := Aside0.mk hc0; clear hr0 hc0; have HB := Aside0.mk (Below.refl w.heap.size w)
  have H : ((laws_big.f l0).bind fun t283 => (if t283 = true then (some true) else ((spec_DrawRelCost.f k l0).bind fun bt284 => ((impl_RelCost.f k bt284.1 bt284.2.1 bt284.2.2.1 bt284.2.2.2.1 bt284.2.2.2.2).bind fun t296 => ((impl_CostOk.f k bt284.1 bt284.2.1 bt284.2.2.1).bind fun t297 => ((spec_CostOk.f k bt284.1 bt284.2.1 bt284.2.2.1).bind fun t298 => (if (t297 != t298) = true then (laws_FnCosts.j0 k bt284.2.2.2.1 bt284.2.2.2.2 t296 true bt284.1 bt284.2.1 bt284.2.2.1) else ((impl_UnitCost.f k).bind fun bt299 => ((impl_CostOk.f k bt299.1 bt299.2.1 bt299.2.2).bind fun t308 => (if t308 = true then ((impl_UnitCost.f k).bind fun bt309 => ((impl_RelCost.f k bt309.1 bt309.2.1 bt309.2.2 1 2).bind fun t318 => (laws_FnCosts.j0 k bt284.2.2.2.1 bt284.2.2.2.2 t296 (t318 != 1) bt284.1 bt284.2.1 bt284.2.2.1))) else (laws_FnCosts.j0 k bt284.2.2.2.1 bt284.2.2.2.2 t296 true bt284.1 bt284.2.1 bt284.2.2.1))))))))))) = some r := h
  clear h; replace H := Option.bind_eq_some_iff.mp H
  obtain ⟨t283, A20, H⟩ := H
  replace H : (if t283 = true then (some true) else ((spec_DrawRelCost.f k l0).bind fun bt284 => ((impl_RelCost.f k bt284.1 bt284.2.1 bt284.2.2.1 bt284.2.2.2.1 bt284.2.2.2.2).bind fun t296 => ((impl_CostOk.f k bt284.1 bt284.2.1 bt284.2.2.1).bind fun t297 => ((spec_CostOk.f k bt284.1 bt284.2.1 bt284.2.2.1).bind fun t298 => (if (t297 != t298) = true then (laws_FnCosts.j0 k bt284.2.2.2.1 bt284.2.2.2.2 t296 true bt284.1 bt284.2.1 bt284.2.2.1) else ((impl_UnitCost.f k).bind fun bt299 => ((impl_CostOk.f k bt299.1 bt299.2.1 bt299.2.2).bind fun t308 => (if t308 = true then ((impl_UnitCost.f k).bind fun bt309 => ((impl_RelCost.f k bt309.1 bt309.2.1 bt309.2.2 1 2).bind fun t318 => (laws_FnCosts.j0 k bt284.2.2.2.1 bt284.2.2.2.2 t296 (t318 != 1) bt284.1 bt284.2.1 bt284.2.2.1))) else (laws_FnCosts.j0 k bt284.2.2.2.1 bt284.2.2.2.2 t296 true bt284.1 bt284.2.1 bt284.2.2.1)))))))))) = some r := H
  have A2 := Aside0.mk A20; clear A20
  by_cases c3 : t283 = true
  · subst c3
    have H1 : (some true) = some r := by rw [if_pos rfl] at H; exact H
    clear H; have H := H1; clear H1
    obtain rfl := Option.some.inj H
    simp only [Option.some.injEq, Prod.mk.injEq] at H
    obtain ⟨rfl⟩ := H
    go_enter Try.func12, Try.ntmps12
    go_wp2_with (first | ((with_reducible refine gate_callee (f := 42) rfl ?_); refine goesL_ (some 8) rfl rfl Try.func42 (by kernel_rfl) rfl #[.slice A0 l0.length c0] rfl (by (try simp only [List.map_toArray, List.map_cons, List.map_nil]); first | done | rfl | (simp only [List.length_drop, List.length_take]; rfl)) ?_; (with_reducible refine (laws_big.calls _ _ l0 true _ ?side1 ?side2 A2.out).mono ?_); (case side1 => repeat (first | exact HR0.out | (with_reducible refine Kd.C_alloc ?_ _) | (with_reducible refine Kd.C_drewN ?_ _) | (with_reducible refine Kd.C_drew ?_))); (case side2 => exact HC0.out); rintro e w' ⟨rfl, ⟨nd, rfl⟩⟩; refine ⟨_, rfl, ?_⟩))
    go_ret
    exact ⟨by first | rfl | (simp [errW_none, errW_some] <;> rfl) | (simp [*, errW_none, errW_some] <;> rfl), by repeat (first | exact HB.out | apply below_alloc | apply pw_below_drewN | apply below_drew1)⟩
  · replace c3 := Bool.eq_false_iff.mpr c3
    subst c3
    have H1 : ((spec_DrawRelCost.f k l0).bind fun bt284 => ((impl_RelCost.f k bt284.1 bt284.2.1 bt284.2.2.1 bt284.2.2.2.1 bt284.2.2.2.2).bind fun t296 => ((impl_CostOk.f k bt284.1 bt284.2.1 bt284.2.2.1).bind fun t297 => ((spec_CostOk.f k bt284.1 bt284.2.1 bt284.2.2.1).bind fun t298 => (if (t297 != t298) = true then (laws_FnCosts.j0 k bt284.2.2.2.1 bt284.2.2.2.2 t296 true bt284.1 bt284.2.1 bt284.2.2.1) else ((impl_UnitCost.f k).bind fun bt299 => ((impl_CostOk.f k bt299.1 bt299.2.1 bt299.2.2).bind fun t308 => (if t308 = true then ((impl_UnitCost.f k).bind fun bt309 => ((impl_RelCost.f k bt309.1 bt309.2.1 bt309.2.2 1 2).bind fun t318 => (laws_FnCosts.j0 k bt284.2.2.2.1 bt284.2.2.2.2 t296 (t318 != 1) bt284.1 bt284.2.1 bt284.2.2.1))) else (laws_FnCosts.j0 k bt284.2.2.2.1 bt284.2.2.2.2 t296 true bt284.1 bt284.2.1 bt284.2.2.1))))))))) = some r := by rw [if_neg (show ¬ (false = true) by decide)] at H; exact H
    clear H; have H := H1; clear H1; replace H := Option.bind_eq_some_iff.mp H
    obtain ⟨⟨t284, t287, t290, t293, t294⟩, A40, H⟩ := H
    replace H : ((impl_RelCost.f k t284 t287 t290 t293 t294).bind fun t296 => ((impl_CostOk.f k t284 t287 t290).bind fun t297 => ((spec_CostOk.f k t284 t287 t290).bind fun t298 => (if (t297 != t298) = true then (laws_FnCosts.j0 k t293 t294 t296 true t284 t287 t290) else ((impl_UnitCost.f k).bind fun bt299 => ((impl_CostOk.f k bt299.1 bt299.2.1 bt299.2.2).bind fun t308 => (if t308 = true then ((impl_UnitCost.f k).bind fun bt309 => ((impl_RelCost.f k bt309.1 bt309.2.1 bt309.2.2 1 2).bind fun t318 => (laws_FnCosts.j0 k t293 t294 t296 (t318 != 1) t284 t287 t290))) else (laws_FnCosts.j0 k t293 t294 t296 true t284 t287 t290)))))))) = some r := H
    have A4 := Aside0.mk A40; clear A40; replace H := Option.bind_eq_some_iff.mp H
    obtain ⟨t296, A50, H⟩ := H
    replace H : ((impl_CostOk.f k t284 t287 t290).bind fun t297 => ((spec_CostOk.f k t284 t287 t290).bind fun t298 => (if (t297 != t298) = true then (laws_FnCosts.j0 k t293 t294 t296 true t284 t287 t290) else ((impl_UnitCost.f k).bind fun bt299 => ((impl_CostOk.f k bt299.1 bt299.2.1 bt299.2.2).bind fun t308 => (if t308 = true then ((impl_UnitCost.f k).bind fun bt309 => ((impl_RelCost.f k bt309.1 bt309.2.1 bt309.2.2 1 2).bind fun t318 => (laws_FnCosts.j0 k t293 t294 t296 (t318 != 1) t284 t287 t290))) else (laws_FnCosts.j0 k t293 t294 t296 true t284 t287 t290))))))) = some r := H
    have A5 := Aside0.mk A50; clear A50; have HC6 := Aside0.mk H; clear H
    go_enter Try.func12, Try.ntmps12
    go_upto_region 5 with (first | ((with_reducible refine gate_callee (f := 42) rfl ?_); refine goesL_ (some 8) rfl rfl Try.func42 (by kernel_rfl) rfl #[.slice A0 l0.length c0] rfl (by (try simp only [List.map_toArray, List.map_cons, List.map_nil]); first | done | rfl | (simp only [List.length_drop, List.length_take]; rfl)) ?_; (with_reducible refine (laws_big.calls _ _ l0 false _ ?side1 ?side2 A2.out).mono ?_); (case side1 => repeat (first | exact HR0.out | (with_reducible refine Kd.C_alloc ?_ _) | (with_reducible refine Kd.C_drewN ?_ _) | (with_reducible refine Kd.C_drew ?_))); (case side2 => exact HC0.out); rintro e w' ⟨rfl, ⟨nd, rfl⟩⟩; refine ⟨_, rfl, ?_⟩) | ((with_reducible refine gate_callee (f := 48) rfl ?_); refine goesL_ (some 11) rfl rfl Try.func48 (by kernel_rfl) rfl #[.slice A0 l0.length c0] rfl (by (try simp only [List.map_toArray, List.map_cons, List.map_nil]); first | done | rfl | (simp only [List.length_drop, List.length_take]; rfl)) ?_; (with_reducible refine (spec_DrawRelCost.calls k _ _ l0 t284 t287 t290 t293 t294 _ ?side1 ?side2 A4.out).mono ?_); (case side1 => repeat (first | exact HR0.out | (with_reducible refine Kd.C_alloc ?_ _) | (with_reducible refine Kd.C_drewN ?_ _) | (with_reducible refine Kd.C_drew ?_))); (case side2 => exact HC0.out); rintro e w7 ⟨v285, v288, v291, rfl, ho0, ho1, ho2, hb⟩; refine ⟨_, rfl, ?_⟩; have n0_ := Aside0.mk (Kd.R_lower ho0 (below_size (by repeat (first | exact HB.out | apply below_alloc | apply pw_below_drewN | apply below_drew1)))); have n1_ := Aside0.mk (Kd.Q_lower ho1 (below_size (by repeat (first | exact HB.out | apply below_alloc | apply pw_below_drewN | apply below_drew1)))); have n2_ := Aside0.mk (Kd.R_lower ho2 (below_size (by repeat (first | exact HB.out | apply below_alloc | apply pw_below_drewN | apply below_drew1)))); have n3_ := Aside0.mk (below_step (by repeat (first | exact HB.out | apply below_alloc | apply pw_below_drewN | apply below_drew1)) hb); clear HB; have HO286 := n0_; have HO289 := n1_; have HO292 := n2_; have HB := n3_; clear n0_ n1_ n2_ n3_; (try clear hb); (try clear hb2); (try clear hk); (try clear hi); (try clear ho0); (try clear ho1); (try clear ho2)) | ((with_reducible refine gate_dst (N := 3) rfl ?_); refine box_event ?hg (N := 3) ?hd (cs := #[.slice none 0 0, .slice none 0 0, .slice none 0 0]) (t := 35) ?hr ?_; (case hd => rfl); (case hg => rfl); (case hr => first | (go_simp; done) | (go_simp; rfl)); intro gb295 hg w8 hbox hb; have n0_ := Aside0.mk (Kd.R_below (by (with_reducible repeat (first | apply Kd.R_alloc | apply Kd.R_drewN | apply Kd.R_drew)); exact HO286.out) hb); have n1_ := Aside0.mk (Kd.Q_below (by (with_reducible repeat (first | apply Kd.Q_alloc | apply Kd.Q_drewN | apply Kd.Q_drew)); exact HO289.out) hb); have n2_ := Aside0.mk (Kd.R_below (by (with_reducible repeat (first | apply Kd.R_alloc | apply Kd.R_drewN | apply Kd.R_drew)); exact HO292.out) hb); have n3_ := Aside0.mk (below_step (by repeat (first | exact HB.out | apply below_alloc | apply pw_below_drewN | apply below_drew1)) hb); have n4_ := Aside0.mk (hbox); have n5_ := Aside0.mk ((by rw [hg]; exact (below_size (by repeat (first | exact HB.out | apply below_alloc | apply pw_below_drewN | apply below_drew1))) : w.heap.size ≤ gb295)); have n6_ := Aside0.mk ((by rw [hg]; exact (below_size (by repeat (first | exact HB.out | apply below_alloc | apply pw_below_drewN | apply below_drew1))) : w.heap.size ≤ gb295)); clear HO286; clear HO289; clear HO292; clear HB; have HO286 := n0_; have HO289 := n1_; have HO292 := n2_; have HB := n3_; have BK295 := n4_; have GW295 := n5_; have GE295 := n6_; clear n0_ n1_ n2_ n3_ n4_ n5_ n6_; clear hb hbox hg; obtain ⟨Ao9, co9, eo9⟩ := Kd.R_slice HO286.out; subst eo9; have hcz10_0 : w8.cell? ⟨gb295, 0, none⟩ = some (.slice none 0 0) := (blk_cell BK295.out 0).trans rfl; have hcz10_1 : w8.cell? ⟨gb295, 1, none⟩ = some (.slice none 0 0) := (blk_cell BK295.out 1).trans rfl; have hcz10_2 : w8.cell? ⟨gb295, 2, none⟩ = some (.slice none 0 0) := (blk_cell BK295.out 2).trans rfl; have hfz10_0 := blk_frozen BK295.out 0; have hfz10_1 := blk_frozen BK295.out 1; have hfz10_2 := blk_frozen BK295.out 2; obtain ⟨Ao11, co11, eo11, _⟩ := Kd.Q_slice HO289.out; subst eo11; obtain ⟨Ao12, co12, eo12⟩ := Kd.R_slice HO292.out; subst eo12) | ((with_reducible refine gate_callee (f := 30) rfl ?_); refine goesL_ (some 18) rfl rfl Try.func30 (by kernel_rfl) rfl #[.agg #[.slice Ao9 t284.length co9, .slice Ao11 t287.length co11, .slice Ao12 t290.length co12], .int .i64 t293, .int .i64 t294] rfl (by (try simp only [List.map_toArray, List.map_cons, List.map_nil]); first | done | rfl | (simp only [List.length_drop, List.length_take]; rfl)) ?_; (with_reducible refine (impl_RelCost.calls k _ _ t284 _ _ t287 _ _ t290 t293 t294 t296 _ ?side1 ?side2 ?side3 ?side4 ?side5 ?side6 A5.out).mono ?_); (case side1 => refine (Kd.R_reads' (e := 3) (base := w.heap.size) (ok := fun k_ => (some k_ ≠ (.slice Ao11 t287.length co11 : Value).ownBlock ∧ some k_ ≠ (.slice Ao12 t290.length co12 : Value).ownBlock)) (n := t284.length) (c := co9) ?_).2.2; exact (by (with_reducible repeat (first | apply Kd.R_alloc | apply Kd.R_drewN | apply Kd.R_drew)); exact (Kd.R_mono (Kd.R_far (p := ⟨gb295, 2, none⟩) (Kd.R_far (p := ⟨gb295, 1, none⟩) (Kd.R_far (p := ⟨gb295, 0, none⟩) (Kd.R_types HO286.out BK295.out (by decide)) (fun _ hk => hk.2) (.slice Ao9 t284.length co9)) (fun _ hk => hk.2) (.slice Ao11 t287.length co11)) (fun _ hk => hk.2) (.slice Ao12 t290.length co12)) (fun _ h_ => h_.1)))); (case side2 => exact (Kd.R_reads' HO286.out).2.1); (case side3 => refine (Kd.Q_reads' (e := 3) (base := w.heap.size) (ok := fun k_ => (some k_ ≠ (.slice Ao9 t284.length co9 : Value).ownBlock ∧ some k_ ≠ (.slice Ao12 t290.length co12 : Value).ownBlock)) (n := t287.length) (c := co11) ?_).2.2; exact (by (with_reducible repeat (first | apply Kd.Q_alloc | apply Kd.Q_drewN | apply Kd.Q_drew)); exact (Kd.Q_mono (Kd.Q_far (p := ⟨gb295, 2, none⟩) (Kd.Q_far (p := ⟨gb295, 1, none⟩) (Kd.Q_far (p := ⟨gb295, 0, none⟩) (Kd.Q_types HO289.out BK295.out (by decide)) (fun _ hk => hk.2) (.slice Ao9 t284.length co9)) (fun _ hk => hk.2) (.slice Ao11 t287.length co11)) (fun _ hk => hk.2) (.slice Ao12 t290.length co12)) (fun _ h_ => h_.1)))); (case side4 => exact (Kd.Q_reads' HO289.out).2.1); (case side5 => refine (Kd.R_reads' (e := 3) (base := w.heap.size) (ok := fun k_ => (some k_ ≠ (.slice Ao9 t284.length co9 : Value).ownBlock ∧ some k_ ≠ (.slice Ao11 t287.length co11 : Value).ownBlock)) (n := t290.length) (c := co12) ?_).2.2; exact (by (with_reducible repeat (first | apply Kd.R_alloc | apply Kd.R_drewN | apply Kd.R_drew)); exact (Kd.R_mono (Kd.R_far (p := ⟨gb295, 2, none⟩) (Kd.R_far (p := ⟨gb295, 1, none⟩) (Kd.R_far (p := ⟨gb295, 0, none⟩) (Kd.R_types HO292.out BK295.out (by decide)) (fun _ hk => hk.2) (.slice Ao9 t284.length co9)) (fun _ hk => hk.2) (.slice Ao11 t287.length co11)) (fun _ hk => hk.2) (.slice Ao12 t290.length co12)) (fun _ h_ => h_.1)))); (case side6 => exact (Kd.R_reads' HO292.out).2.1); rintro e w13 ⟨rfl, hb⟩; refine ⟨_, rfl, ?_⟩; have n0_ := Aside0.mk (Kd.R_below (by (with_reducible repeat (first | apply Kd.R_alloc | apply Kd.R_drewN | apply Kd.R_drew)); exact (Kd.R_mono (Kd.R_far (p := ⟨gb295, 2, none⟩) (Kd.R_far (p := ⟨gb295, 1, none⟩) (Kd.R_far (p := ⟨gb295, 0, none⟩) (Kd.R_types HO286.out BK295.out (by decide)) (fun _ hk => hk.2) (.slice Ao9 t284.length co9)) (fun _ hk => hk.2) (.slice Ao11 t287.length co11)) (fun _ hk => hk.2) (.slice Ao12 t290.length co12)) (fun _ h_ => h_.1))) hb); have n1_ := Aside0.mk (Kd.Q_below (by (with_reducible repeat (first | apply Kd.Q_alloc | apply Kd.Q_drewN | apply Kd.Q_drew)); exact (Kd.Q_mono (Kd.Q_far (p := ⟨gb295, 2, none⟩) (Kd.Q_far (p := ⟨gb295, 1, none⟩) (Kd.Q_far (p := ⟨gb295, 0, none⟩) (Kd.Q_types HO289.out BK295.out (by decide)) (fun _ hk => hk.2) (.slice Ao9 t284.length co9)) (fun _ hk => hk.2) (.slice Ao11 t287.length co11)) (fun _ hk => hk.2) (.slice Ao12 t290.length co12)) (fun _ h_ => h_.1))) hb); have n2_ := Aside0.mk (Kd.R_below (by (with_reducible repeat (first | apply Kd.R_alloc | apply Kd.R_drewN | apply Kd.R_drew)); exact (Kd.R_mono (Kd.R_far (p := ⟨gb295, 2, none⟩) (Kd.R_far (p := ⟨gb295, 1, none⟩) (Kd.R_far (p := ⟨gb295, 0, none⟩) (Kd.R_types HO292.out BK295.out (by decide)) (fun _ hk => hk.2) (.slice Ao9 t284.length co9)) (fun _ hk => hk.2) (.slice Ao11 t287.length co11)) (fun _ hk => hk.2) (.slice Ao12 t290.length co12)) (fun _ h_ => h_.1))) hb); have n3_ := Aside0.mk (blk_below (g := gb295) (o := .cells #[.slice Ao9 t284.length co9, .slice Ao11 t287.length co11, .slice Ao12 t290.length co12] 35 (0, 0)) (by (with_reducible repeat (first | refine blk_drewN ?_ _ | refine blk_drew ?_ | refine blk_alloc ?_ _)); refine blk_put (cs := #[.slice Ao9 t284.length co9, .slice Ao11 t287.length co11, .slice none 0 0]) ?_ 2 _ rfl; (with_reducible repeat (first | refine blk_drewN ?_ _ | refine blk_drew ?_ | refine blk_alloc ?_ _)); refine blk_put (cs := #[.slice Ao9 t284.length co9, .slice none 0 0, .slice none 0 0]) ?_ 1 _ rfl; (with_reducible repeat (first | refine blk_drewN ?_ _ | refine blk_drew ?_ | refine blk_alloc ?_ _)); refine blk_put (cs := #[.slice none 0 0, .slice none 0 0, .slice none 0 0]) ?_ 0 _ rfl; (with_reducible repeat (first | refine blk_drewN ?_ _ | refine blk_drew ?_ | refine blk_alloc ?_ _)); exact BK295.out) hb); have n4_ := Aside0.mk (below_step (by repeat (first | (with_reducible first | exact HB.out | apply below_alloc | apply pw_below_drewN | apply below_drew1 | refine below_set ?_ GE295.out) | exact HB.out)) hb); clear HO286; clear HO289; clear HO292; clear BK295; clear HB; have HO286 := n0_; have HO289 := n1_; have HO292 := n2_; have BK295 := n3_; have HB := n4_; clear n0_ n1_ n2_ n3_ n4_; (try clear hb); (try clear hb2); (try clear hk); (try clear hi)))
    (try simp only [Act.put, List.setIfInBounds_toArray, List.set_cons_zero, List.set_cons_succ])
    go_cut [33] (fun v33 wc => ∃ (kq : Nat) (x33_5 : Bool), v33 = .bool x33_5 ∧ Aside0 (laws_FnCosts.j0 kq t293 t294 t296 x33_5 t284 t287 t290 = some r) ∧ Aside0 (kq ≤ k) ∧ Aside0 (Kd.R (Kd.int .i64) 3 wc w.heap.size (fun k_ => some k_ ≠ ((.slice Ao11 t287.length co11) : Value).ownBlock ∧ some k_ ≠ ((.slice Ao12 t290.length co12) : Value).ownBlock) (.slice Ao9 t284.length co9) t284) ∧ Aside0 (Kd.Q (Kd.int .i64) 3 wc w.heap.size (fun k_ => some k_ ≠ ((.slice Ao9 t284.length co9) : Value).ownBlock ∧ some k_ ≠ ((.slice Ao12 t290.length co12) : Value).ownBlock) (.slice Ao11 t287.length co11) t287) ∧ Aside0 (Kd.R (Kd.int .i64) 3 wc w.heap.size (fun k_ => some k_ ≠ ((.slice Ao9 t284.length co9) : Value).ownBlock ∧ some k_ ≠ ((.slice Ao11 t287.length co11) : Value).ownBlock) (.slice Ao12 t290.length co12) t290) ∧ Aside0 (wc.heap[gb295]? = some (.cells #[(.slice Ao9 t284.length co9), (.slice Ao11 t287.length co11), (.slice Ao12 t290.length co12)] 35 (0, 0))) ∧ Aside0 (Below w.heap.size w wc))
    case first =>
      have H := HC6.out; clear HC6; replace H := Option.bind_eq_some_iff.mp H
      obtain ⟨t297, A140, H⟩ := H
      replace H : ((spec_CostOk.f k t284 t287 t290).bind fun t298 => (if (t297 != t298) = true then (laws_FnCosts.j0 k t293 t294 t296 true t284 t287 t290) else ((impl_UnitCost.f k).bind fun bt299 => ((impl_CostOk.f k bt299.1 bt299.2.1 bt299.2.2).bind fun t308 => (if t308 = true then ((impl_UnitCost.f k).bind fun bt309 => ((impl_RelCost.f k bt309.1 bt309.2.1 bt309.2.2 1 2).bind fun t318 => (laws_FnCosts.j0 k t293 t294 t296 (t318 != 1) t284 t287 t290))) else (laws_FnCosts.j0 k t293 t294 t296 true t284 t287 t290)))))) = some r := H
      have A14 := Aside0.mk A140; clear A140; replace H := Option.bind_eq_some_iff.mp H
      obtain ⟨t298, A150, H⟩ := H
      replace H : (if (t297 != t298) = true then (laws_FnCosts.j0 k t293 t294 t296 true t284 t287 t290) else ((impl_UnitCost.f k).bind fun bt299 => ((impl_CostOk.f k bt299.1 bt299.2.1 bt299.2.2).bind fun t308 => (if t308 = true then ((impl_UnitCost.f k).bind fun bt309 => ((impl_RelCost.f k bt309.1 bt309.2.1 bt309.2.2 1 2).bind fun t318 => (laws_FnCosts.j0 k t293 t294 t296 (t318 != 1) t284 t287 t290))) else (laws_FnCosts.j0 k t293 t294 t296 true t284 t287 t290))))) = some r := H
      have A15 := Aside0.mk A150; clear A150
      by_cases c16 : (t297 != t298) = true
      · rw [if_pos c16] at H
        have c16b0 : (t297 != t298) = true := c16
        (try (have c16b1 : decide (t297 = t298) = false := by simpa using c16))
        (try (have c16b2 : (t297 == t298) = false := by simpa using c16))
        (try (have c16b3 : ¬ (t297 = t298) := by simpa using c16))
        clear c16
        (first | rw [c16b0] | (simp only [i64_w, i32_w]; rw [c16b0]) | skip)
        have H' := Aside0.mk H; clear H
        try go_wp2
        have n0_ := Aside0.mk (Kd.R_drew HO286.out); have n1_ := Aside0.mk (Kd.Q_drew HO289.out); have n2_ := Aside0.mk (Kd.R_drew HO292.out); have n3_ := Aside0.mk (blk_drew BK295.out); have n4_ := Aside0.mk (below_drew1 HB.out); clear HO286; clear HO289; clear HO292; clear BK295; clear HB; have HO286 := n0_; have HO289 := n1_; have HO292 := n2_; have BK295 := n3_; have HB := n4_; clear n0_ n1_ n2_ n3_ n4_
        refine start_ (n := 15) (S := fun w' => w'.cell? ⟨gb295, 0, none⟩ = some (.slice Ao9 t284.length co9) ∧ w'.cell? ⟨gb295, 1, none⟩ = some (.slice Ao11 t287.length co11) ∧ w'.cell? ⟨gb295, 2, none⟩ = some (.slice Ao12 t290.length co12)) (ds := []) bs7_0 (by kernel_rfl) rfl rfl ⟨(blk_cell BK295.out 0).trans rfl, (blk_cell BK295.out 1).trans rfl, (blk_cell BK295.out 2).trans rfl⟩ (fun hHeld => ?_); refine with_tabW laws_FnCosts.tab5 laws_FnCosts.bits5 (fun HT_ HW_ => ?_)
        generalize w13.drew = w17 at HO286 HO289 HO292 BK295 HB hHeld ⊢
        refine take_ (i := 0) (N := some 19) (v := ?_) (a' := ?_) bs7_1 rfl rfl (take_ofW HT_.out HW_.out (by kernel_rfl)) (fun _ _ _ h => h) (Or.inl ⟨by rfl, ?_⟩) hHeld ?_ ?_; rotate_left; (rintro w' ⟨s0, s1, s2⟩; go_simp; with_reducible rfl); rotate_left; (simp only [Act.put, s1_, s2_, s3_, i64_w, i32_w]; rfl)
        refine take_ (i := 2) (N := some 21) (v := ?_) (a' := ?_) bs7_2 rfl rfl (take_ofW HT_.out HW_.out (by kernel_rfl)) (fun _ _ _ h => h) (Or.inl ⟨by rfl, ?_⟩) hHeld ?_ ?_; rotate_left; (rintro w' ⟨s0, s1, s2⟩; go_simp; with_reducible rfl); rotate_left; (simp only [Act.put, s1_, s2_, s3_, i64_w, i32_w]; rfl)
        refine one_ (i := 1) (N := some 20) bs7_3 rfl rfl (one_of HT_.out (by kernel_rfl)) (by decide) (fun K hK => ?_)
        refine goes_ Try.func49 (by kernel_rfl) rfl #[.agg #[.slice Ao9 t284.length co9, .slice Ao11 t287.length co11, .slice Ao12 t290.length co12]] (by rfl) rfl rfl (by (try simp only [List.map_toArray, List.map_cons, List.map_nil]); first | done | rfl | (simp only [List.length_drop, List.length_take]; rfl)) ?_
        with_reducible refine (impl_CostOk.calls k _ _ t284 _ _ t287 _ _ t290 t297 _ ?side1 ?side2 ?side3 ?side4 ?side5 ?side6 A14.out).mono ?_
        (case side1 => repeat (first | exact (Kd.R_reads' HO286.out).2.2 | (with_reducible refine Kd.C_alloc ?_ _) | (with_reducible refine Kd.C_drewN ?_ _) | (with_reducible refine Kd.C_drew ?_)))
        (case side2 => exact (Kd.R_reads' HO286.out).2.1)
        (case side3 => repeat (first | exact (Kd.Q_reads' HO289.out).2.2 | (with_reducible refine Kd.C_alloc ?_ _) | (with_reducible refine Kd.C_drewN ?_ _) | (with_reducible refine Kd.C_drew ?_)))
        (case side4 => exact (Kd.Q_reads' HO289.out).2.1)
        (case side5 => repeat (first | exact (Kd.R_reads' HO292.out).2.2 | (with_reducible refine Kd.C_alloc ?_ _) | (with_reducible refine Kd.C_drewN ?_ _) | (with_reducible refine Kd.C_drew ?_)))
        (case side6 => exact (Kd.R_reads' HO292.out).2.1)
        rintro e w18 ⟨rfl, hb⟩
        refine ⟨_, rfl, ?_⟩
        have n0_ := Aside0.mk (Kd.R_below (by (with_reducible repeat (first | apply Kd.R_alloc | apply Kd.R_drewN | apply Kd.R_drew)); exact HO286.out) hb)
        have n1_ := Aside0.mk (Kd.Q_below (by (with_reducible repeat (first | apply Kd.Q_alloc | apply Kd.Q_drewN | apply Kd.Q_drew)); exact HO289.out) hb)
        have n2_ := Aside0.mk (Kd.R_below (by (with_reducible repeat (first | apply Kd.R_alloc | apply Kd.R_drewN | apply Kd.R_drew)); exact HO292.out) hb)
        have n3_ := Aside0.mk (blk_below (g := gb295) (o := .cells #[.slice Ao9 t284.length co9, .slice Ao11 t287.length co11, .slice Ao12 t290.length co12] 35 (0, 0)) (by (with_reducible repeat (first | refine blk_drewN ?_ _ | refine blk_drew ?_ | refine blk_alloc ?_ _)); exact BK295.out) hb)
        have n4_ := Aside0.mk (below_step (by repeat (first | (with_reducible first | exact HB.out | apply below_alloc | apply pw_below_drewN | apply below_drew1 | refine below_set ?_ GE295.out) | exact HB.out)) hb)
        clear HO286; clear HO289; clear HO292; clear BK295; clear HB; have HO286 := n0_; have HO289 := n1_; have HO292 := n2_; have BK295 := n3_; have HB := n4_; clear n0_ n1_ n2_ n3_ n4_
        (try clear hb)
        (try clear hb2)
        (try clear hk)
        (try clear hi)
        refine hK.out _ _ ⟨(blk_cell BK295.out 0).trans rfl, (blk_cell BK295.out 1).trans rfl, (blk_cell BK295.out 2).trans rfl⟩ (fun hHeld => ?_)
        clear hK K
        refine norm_ (a' := ?_) ?_ ?_
        rotate_left
        · show Act.put _ (some 20) _ = _
          simp only [Act.put, s1_, s2_, s3_, i64_w, i32_w]
          rfl
        refine one_ (i := 3) (N := some 22) bs7_4 rfl rfl (one_of HT_.out (by kernel_rfl)) (by decide) (fun K hK => ?_)
        refine goes_ Try.func50 (by kernel_rfl) rfl #[.agg #[.slice Ao9 t284.length co9, .slice Ao11 t287.length co11, .slice Ao12 t290.length co12]] (by rfl) rfl rfl (by (try simp only [List.map_toArray, List.map_cons, List.map_nil]); first | done | rfl | (simp only [List.length_drop, List.length_take]; rfl)) ?_
        with_reducible refine (spec_CostOk.calls k _ _ t284 _ _ t287 _ _ t290 t298 _ ?side1 ?side2 ?side3 ?side4 ?side5 ?side6 A15.out).mono ?_
        (case side1 => repeat (first | exact (Kd.R_reads' HO286.out).2.2 | (with_reducible refine Kd.C_alloc ?_ _) | (with_reducible refine Kd.C_drewN ?_ _) | (with_reducible refine Kd.C_drew ?_)))
        (case side2 => exact (Kd.R_reads' HO286.out).2.1)
        (case side3 => repeat (first | exact (Kd.Q_reads' HO289.out).2.2 | (with_reducible refine Kd.C_alloc ?_ _) | (with_reducible refine Kd.C_drewN ?_ _) | (with_reducible refine Kd.C_drew ?_)))
        (case side4 => exact (Kd.Q_reads' HO289.out).2.1)
        (case side5 => repeat (first | exact (Kd.R_reads' HO292.out).2.2 | (with_reducible refine Kd.C_alloc ?_ _) | (with_reducible refine Kd.C_drewN ?_ _) | (with_reducible refine Kd.C_drew ?_)))
        (case side6 => exact (Kd.R_reads' HO292.out).2.1)
        rintro e w19 ⟨rfl, hb⟩
        refine ⟨_, rfl, ?_⟩
        have n0_ := Aside0.mk (Kd.R_below (by (with_reducible repeat (first | apply Kd.R_alloc | apply Kd.R_drewN | apply Kd.R_drew)); exact HO286.out) hb)
        have n1_ := Aside0.mk (Kd.Q_below (by (with_reducible repeat (first | apply Kd.Q_alloc | apply Kd.Q_drewN | apply Kd.Q_drew)); exact HO289.out) hb)
        have n2_ := Aside0.mk (Kd.R_below (by (with_reducible repeat (first | apply Kd.R_alloc | apply Kd.R_drewN | apply Kd.R_drew)); exact HO292.out) hb)
        have n3_ := Aside0.mk (blk_below (g := gb295) (o := .cells #[.slice Ao9 t284.length co9, .slice Ao11 t287.length co11, .slice Ao12 t290.length co12] 35 (0, 0)) (by (with_reducible repeat (first | refine blk_drewN ?_ _ | refine blk_drew ?_ | refine blk_alloc ?_ _)); exact BK295.out) hb)
        have n4_ := Aside0.mk (below_step (by repeat (first | (with_reducible first | exact HB.out | apply below_alloc | apply pw_below_drewN | apply below_drew1 | refine below_set ?_ GE295.out) | exact HB.out)) hb)
        clear HO286; clear HO289; clear HO292; clear BK295; clear HB; have HO286 := n0_; have HO289 := n1_; have HO292 := n2_; have BK295 := n3_; have HB := n4_; clear n0_ n1_ n2_ n3_ n4_
        (try clear hb)
        (try clear hb2)
        (try clear hk)
        (try clear hi)
        refine hK.out _ _ ⟨(blk_cell BK295.out 0).trans rfl, (blk_cell BK295.out 1).trans rfl, (blk_cell BK295.out 2).trans rfl⟩ (fun hHeld => ?_)
        clear hK K
        refine norm_ (a' := ?_) ?_ ?_
        rotate_left
        · show Act.put _ (some 22) _ = _
          simp only [Act.put, s1_, s2_, s3_, i64_w, i32_w]
          rfl
        refine pure_ (i := 4) (N := some 23) (v := ?_) (a' := ?_) bs7_5 rfl rfl (any_of HT_.out (by kernel_rfl)) (fun _ _ _ h => h) (Or.inl ⟨by rfl, ?_⟩) ?_ ?_; rotate_left; (intro w'; go_simp; with_reducible rfl); rotate_left; (simp only [Act.put, s1_, s2_, s3_, i64_w, i32_w]; rfl)
        refine pure_ (i := 5) (N := some 24) (v := ?_) (a' := ?_) bs7_6 rfl rfl (any_of HT_.out (by kernel_rfl)) (fun _ _ _ h => h) (Or.inl ⟨by rfl, ?_⟩) ?_ ?_; rotate_left; (intro w'; go_simp; with_reducible rfl); rotate_left; (simp only [Act.put, s1_, s2_, s3_, i64_w, i32_w]; rfl)
        refine pure_ (i := 6) (N := some 25) (v := undef) (a' := ?_) bs7_7 rfl rfl (any_of HT_.out (by kernel_rfl)) (fun _ _ _ h => h) (Or.inr ⟨by rfl, rfl⟩) ?_ ?_
        rotate_left
        · simp only [Act.put, s1_, s2_, s3_, i64_w, i32_w]
          rfl
        refine pure_ (i := 7) (N := some 26) (v := undef) (a' := ?_) bs7_8 rfl rfl (any_of HT_.out (by kernel_rfl)) (fun _ _ _ h => h) (Or.inr ⟨by rfl, rfl⟩) ?_ ?_
        rotate_left
        · simp only [Act.put, s1_, s2_, s3_, i64_w, i32_w]
          rfl
        refine pure_ (i := 8) (N := some 27) (v := undef) (a' := ?_) bs7_9 rfl rfl (any_of HT_.out (by kernel_rfl)) (fun _ _ _ h => h) (Or.inr ⟨by rfl, rfl⟩) ?_ ?_
        rotate_left
        · simp only [Act.put, s1_, s2_, s3_, i64_w, i32_w]
          rfl
        refine pure_ (i := 9) (N := some 28) (v := ?_) (a' := ?_) bs7_10 rfl rfl (any_of HT_.out (by kernel_rfl)) (fun _ _ _ h => h) (Or.inl ⟨by rfl, ?_⟩) ?_ ?_; rotate_left; (intro w'; go_simp; with_reducible rfl); rotate_left; (simp only [Act.put, s1_, s2_, s3_, i64_w, i32_w]; rfl)
        refine pure_ (i := 10) (N := some 29) (v := ?_) (a' := ?_) bs7_11 rfl rfl (any_of HT_.out (by kernel_rfl)) (fun _ _ _ h => h) (Or.inl ⟨by rfl, ?_⟩) ?_ ?_; rotate_left; (intro w'; go_simp; with_reducible rfl); rotate_left; (simp only [Act.put, s1_, s2_, s3_, i64_w, i32_w]; rfl)
        refine pure_ (i := 11) (N := some 30) (v := undef) (a' := ?_) bs7_12 rfl rfl (any_of HT_.out (by kernel_rfl)) (fun _ _ _ h => h) (Or.inr ⟨by rfl, rfl⟩) ?_ ?_
        rotate_left
        · simp only [Act.put, s1_, s2_, s3_, i64_w, i32_w]
          rfl
        refine pure_ (i := 12) (N := some 31) (v := undef) (a' := ?_) bs7_13 rfl rfl (any_of HT_.out (by kernel_rfl)) (fun _ _ _ h => h) (Or.inr ⟨by rfl, rfl⟩) ?_ ?_
        rotate_left
        · simp only [Act.put, s1_, s2_, s3_, i64_w, i32_w]
          rfl
        refine pure_ (i := 13) (N := some 32) (v := undef) (a' := ?_) bs7_14 rfl rfl (any_of HT_.out (by kernel_rfl)) (fun _ _ _ h => h) (Or.inr ⟨by rfl, rfl⟩) ?_ ?_
        rotate_left
        · simp only [Act.put, s1_, s2_, s3_, i64_w, i32_w]
          rfl
        refine pure_ (i := 14) (N := some 33) (v := ?_) (a' := ?_) bs7_15 rfl rfl (any_of HT_.out (by kernel_rfl)) (fun _ _ _ h => h) (Or.inl ⟨by rfl, ?_⟩) ?_ ?_; rotate_left; (intro w'; go_simp; with_reducible rfl); rotate_left; (simp only [Act.put, s1_, s2_, s3_, i64_w, i32_w]; rfl)
        refine done_ (done_of HT_.out (by kernel_rfl)) ?_
        try go_wp2
        go_meet
        case rel => exact ⟨_, (true), (by first | rfl | (simp; done) | (simp [*]; done)), H', ⟨by first | omega | exact Nat.le_refl _⟩, ⟨by (with_reducible repeat (first | apply Kd.R_alloc | apply Kd.R_drewN | apply Kd.R_drew)); exact HO286.out⟩, ⟨by (with_reducible repeat (first | apply Kd.Q_alloc | apply Kd.Q_drewN | apply Kd.Q_drew)); exact HO289.out⟩, ⟨by (with_reducible repeat (first | apply Kd.R_alloc | apply Kd.R_drewN | apply Kd.R_drew)); exact HO292.out⟩, ⟨by (with_reducible repeat (first | refine blk_drewN ?_ _ | refine blk_drew ?_ | refine blk_alloc ?_ _)); exact BK295.out⟩, ⟨by repeat (first | (with_reducible first | exact HB.out | apply below_alloc | apply pw_below_drewN | apply below_drew1 | refine below_set ?_ GE295.out) | exact HB.out)⟩⟩
      · rw [if_neg c16] at H
        have c16b0 : (t297 != t298) = false := by simpa using c16
        (try (have c16b1 : decide (t297 = t298) = true := by simpa using c16))
        (try (have c16b2 : (t297 == t298) = true := by simpa using c16))
        clear c16
        (first | rw [c16b0] | (simp only [i64_w, i32_w]; rw [c16b0]) | skip)
        replace H := Option.bind_eq_some_iff.mp H
        obtain ⟨⟨t299, t302, t305⟩, A200, H⟩ := H
        replace H : ((impl_CostOk.f k t299 t302 t305).bind fun t308 => (if t308 = true then ((impl_UnitCost.f k).bind fun bt309 => ((impl_RelCost.f k bt309.1 bt309.2.1 bt309.2.2 1 2).bind fun t318 => (laws_FnCosts.j0 k t293 t294 t296 (t318 != 1) t284 t287 t290))) else (laws_FnCosts.j0 k t293 t294 t296 true t284 t287 t290))) = some r := H
        have A20 := Aside0.mk A200; clear A200; replace H := Option.bind_eq_some_iff.mp H
        obtain ⟨t308, A210, H⟩ := H
        replace H : (if t308 = true then ((impl_UnitCost.f k).bind fun bt309 => ((impl_RelCost.f k bt309.1 bt309.2.1 bt309.2.2 1 2).bind fun t318 => (laws_FnCosts.j0 k t293 t294 t296 (t318 != 1) t284 t287 t290))) else (laws_FnCosts.j0 k t293 t294 t296 true t284 t287 t290)) = some r := H
        have A21 := Aside0.mk A210; clear A210
        by_cases c22 : t308 = true
        · subst c22
          have H1 : ((impl_UnitCost.f k).bind fun bt309 => ((impl_RelCost.f k bt309.1 bt309.2.1 bt309.2.2 1 2).bind fun t318 => (laws_FnCosts.j0 k t293 t294 t296 (t318 != 1) t284 t287 t290))) = some r := by rw [if_pos rfl] at H; exact H
          clear H; have H := H1; clear H1; replace H := Option.bind_eq_some_iff.mp H
          obtain ⟨⟨t309, t312, t315⟩, A230, H⟩ := H
          replace H : ((impl_RelCost.f k t309 t312 t315 1 2).bind fun t318 => (laws_FnCosts.j0 k t293 t294 t296 (t318 != 1) t284 t287 t290)) = some r := H
          have A23 := Aside0.mk A230; clear A230; replace H := Option.bind_eq_some_iff.mp H
          obtain ⟨t318, A240, H⟩ := H
          replace H : (laws_FnCosts.j0 k t293 t294 t296 (t318 != 1) t284 t287 t290) = some r := H
          have A24 := Aside0.mk A240; clear A240; have H' := Aside0.mk H; clear H
          try go_wp2
          have n0_ := Aside0.mk (Kd.R_drew HO286.out); have n1_ := Aside0.mk (Kd.Q_drew HO289.out); have n2_ := Aside0.mk (Kd.R_drew HO292.out); have n3_ := Aside0.mk (blk_drew BK295.out); have n4_ := Aside0.mk (below_drew1 HB.out); clear HO286; clear HO289; clear HO292; clear BK295; clear HB; have HO286 := n0_; have HO289 := n1_; have HO292 := n2_; have BK295 := n3_; have HB := n4_; clear n0_ n1_ n2_ n3_ n4_
          refine start_ (n := 15) (S := fun w' => w'.cell? ⟨gb295, 0, none⟩ = some (.slice Ao9 t284.length co9) ∧ w'.cell? ⟨gb295, 1, none⟩ = some (.slice Ao11 t287.length co11) ∧ w'.cell? ⟨gb295, 2, none⟩ = some (.slice Ao12 t290.length co12)) (ds := []) bs7_0 (by kernel_rfl) rfl rfl ⟨(blk_cell BK295.out 0).trans rfl, (blk_cell BK295.out 1).trans rfl, (blk_cell BK295.out 2).trans rfl⟩ (fun hHeld => ?_); refine with_tabW laws_FnCosts.tab5 laws_FnCosts.bits5 (fun HT_ HW_ => ?_)
          generalize w13.drew = w25 at HO286 HO289 HO292 BK295 HB hHeld ⊢
          refine take_ (i := 0) (N := some 19) (v := ?_) (a' := ?_) bs7_1 rfl rfl (take_ofW HT_.out HW_.out (by kernel_rfl)) (fun _ _ _ h => h) (Or.inl ⟨by rfl, ?_⟩) hHeld ?_ ?_; rotate_left; (rintro w' ⟨s0, s1, s2⟩; go_simp; with_reducible rfl); rotate_left; (simp only [Act.put, s1_, s2_, s3_, i64_w, i32_w]; rfl)
          refine take_ (i := 2) (N := some 21) (v := ?_) (a' := ?_) bs7_2 rfl rfl (take_ofW HT_.out HW_.out (by kernel_rfl)) (fun _ _ _ h => h) (Or.inl ⟨by rfl, ?_⟩) hHeld ?_ ?_; rotate_left; (rintro w' ⟨s0, s1, s2⟩; go_simp; with_reducible rfl); rotate_left; (simp only [Act.put, s1_, s2_, s3_, i64_w, i32_w]; rfl)
          refine one_ (i := 1) (N := some 20) bs7_3 rfl rfl (one_of HT_.out (by kernel_rfl)) (by decide) (fun K hK => ?_)
          refine goes_ Try.func49 (by kernel_rfl) rfl #[.agg #[.slice Ao9 t284.length co9, .slice Ao11 t287.length co11, .slice Ao12 t290.length co12]] (by rfl) rfl rfl (by (try simp only [List.map_toArray, List.map_cons, List.map_nil]); first | done | rfl | (simp only [List.length_drop, List.length_take]; rfl)) ?_
          with_reducible refine (impl_CostOk.calls k _ _ t284 _ _ t287 _ _ t290 t297 _ ?side1 ?side2 ?side3 ?side4 ?side5 ?side6 A14.out).mono ?_
          (case side1 => repeat (first | exact (Kd.R_reads' HO286.out).2.2 | (with_reducible refine Kd.C_alloc ?_ _) | (with_reducible refine Kd.C_drewN ?_ _) | (with_reducible refine Kd.C_drew ?_)))
          (case side2 => exact (Kd.R_reads' HO286.out).2.1)
          (case side3 => repeat (first | exact (Kd.Q_reads' HO289.out).2.2 | (with_reducible refine Kd.C_alloc ?_ _) | (with_reducible refine Kd.C_drewN ?_ _) | (with_reducible refine Kd.C_drew ?_)))
          (case side4 => exact (Kd.Q_reads' HO289.out).2.1)
          (case side5 => repeat (first | exact (Kd.R_reads' HO292.out).2.2 | (with_reducible refine Kd.C_alloc ?_ _) | (with_reducible refine Kd.C_drewN ?_ _) | (with_reducible refine Kd.C_drew ?_)))
          (case side6 => exact (Kd.R_reads' HO292.out).2.1)
          rintro e w26 ⟨rfl, hb⟩
          refine ⟨_, rfl, ?_⟩
          have n0_ := Aside0.mk (Kd.R_below (by (with_reducible repeat (first | apply Kd.R_alloc | apply Kd.R_drewN | apply Kd.R_drew)); exact HO286.out) hb)
          have n1_ := Aside0.mk (Kd.Q_below (by (with_reducible repeat (first | apply Kd.Q_alloc | apply Kd.Q_drewN | apply Kd.Q_drew)); exact HO289.out) hb)
          have n2_ := Aside0.mk (Kd.R_below (by (with_reducible repeat (first | apply Kd.R_alloc | apply Kd.R_drewN | apply Kd.R_drew)); exact HO292.out) hb)
          have n3_ := Aside0.mk (blk_below (g := gb295) (o := .cells #[.slice Ao9 t284.length co9, .slice Ao11 t287.length co11, .slice Ao12 t290.length co12] 35 (0, 0)) (by (with_reducible repeat (first | refine blk_drewN ?_ _ | refine blk_drew ?_ | refine blk_alloc ?_ _)); exact BK295.out) hb)
          have n4_ := Aside0.mk (below_step (by repeat (first | (with_reducible first | exact HB.out | apply below_alloc | apply pw_below_drewN | apply below_drew1 | refine below_set ?_ GE295.out) | exact HB.out)) hb)
          clear HO286; clear HO289; clear HO292; clear BK295; clear HB; have HO286 := n0_; have HO289 := n1_; have HO292 := n2_; have BK295 := n3_; have HB := n4_; clear n0_ n1_ n2_ n3_ n4_
          (try clear hb)
          (try clear hb2)
          (try clear hk)
          (try clear hi)
          refine hK.out _ _ ⟨(blk_cell BK295.out 0).trans rfl, (blk_cell BK295.out 1).trans rfl, (blk_cell BK295.out 2).trans rfl⟩ (fun hHeld => ?_)
          clear hK K
          refine norm_ (a' := ?_) ?_ ?_
          rotate_left
          · show Act.put _ (some 20) _ = _
            simp only [Act.put, s1_, s2_, s3_, i64_w, i32_w]
            rfl
          refine one_ (i := 3) (N := some 22) bs7_4 rfl rfl (one_of HT_.out (by kernel_rfl)) (by decide) (fun K hK => ?_)
          refine goes_ Try.func50 (by kernel_rfl) rfl #[.agg #[.slice Ao9 t284.length co9, .slice Ao11 t287.length co11, .slice Ao12 t290.length co12]] (by rfl) rfl rfl (by (try simp only [List.map_toArray, List.map_cons, List.map_nil]); first | done | rfl | (simp only [List.length_drop, List.length_take]; rfl)) ?_
          with_reducible refine (spec_CostOk.calls k _ _ t284 _ _ t287 _ _ t290 t298 _ ?side1 ?side2 ?side3 ?side4 ?side5 ?side6 A15.out).mono ?_
          (case side1 => repeat (first | exact (Kd.R_reads' HO286.out).2.2 | (with_reducible refine Kd.C_alloc ?_ _) | (with_reducible refine Kd.C_drewN ?_ _) | (with_reducible refine Kd.C_drew ?_)))
          (case side2 => exact (Kd.R_reads' HO286.out).2.1)
          (case side3 => repeat (first | exact (Kd.Q_reads' HO289.out).2.2 | (with_reducible refine Kd.C_alloc ?_ _) | (with_reducible refine Kd.C_drewN ?_ _) | (with_reducible refine Kd.C_drew ?_)))
          (case side4 => exact (Kd.Q_reads' HO289.out).2.1)
          (case side5 => repeat (first | exact (Kd.R_reads' HO292.out).2.2 | (with_reducible refine Kd.C_alloc ?_ _) | (with_reducible refine Kd.C_drewN ?_ _) | (with_reducible refine Kd.C_drew ?_)))
          (case side6 => exact (Kd.R_reads' HO292.out).2.1)
          rintro e w27 ⟨rfl, hb⟩
          refine ⟨_, rfl, ?_⟩
          have n0_ := Aside0.mk (Kd.R_below (by (with_reducible repeat (first | apply Kd.R_alloc | apply Kd.R_drewN | apply Kd.R_drew)); exact HO286.out) hb)
          have n1_ := Aside0.mk (Kd.Q_below (by (with_reducible repeat (first | apply Kd.Q_alloc | apply Kd.Q_drewN | apply Kd.Q_drew)); exact HO289.out) hb)
          have n2_ := Aside0.mk (Kd.R_below (by (with_reducible repeat (first | apply Kd.R_alloc | apply Kd.R_drewN | apply Kd.R_drew)); exact HO292.out) hb)
          have n3_ := Aside0.mk (blk_below (g := gb295) (o := .cells #[.slice Ao9 t284.length co9, .slice Ao11 t287.length co11, .slice Ao12 t290.length co12] 35 (0, 0)) (by (with_reducible repeat (first | refine blk_drewN ?_ _ | refine blk_drew ?_ | refine blk_alloc ?_ _)); exact BK295.out) hb)
          have n4_ := Aside0.mk (below_step (by repeat (first | (with_reducible first | exact HB.out | apply below_alloc | apply pw_below_drewN | apply below_drew1 | refine below_set ?_ GE295.out) | exact HB.out)) hb)
          clear HO286; clear HO289; clear HO292; clear BK295; clear HB; have HO286 := n0_; have HO289 := n1_; have HO292 := n2_; have BK295 := n3_; have HB := n4_; clear n0_ n1_ n2_ n3_ n4_
          (try clear hb)
          (try clear hb2)
          (try clear hk)
          (try clear hi)
          refine hK.out _ _ ⟨(blk_cell BK295.out 0).trans rfl, (blk_cell BK295.out 1).trans rfl, (blk_cell BK295.out 2).trans rfl⟩ (fun hHeld => ?_)
          clear hK K
          refine norm_ (a' := ?_) ?_ ?_
          rotate_left
          · show Act.put _ (some 22) _ = _
            simp only [Act.put, s1_, s2_, s3_, i64_w, i32_w]
            rfl
          refine pure_ (i := 4) (N := some 23) (v := ?_) (a' := ?_) bs7_5 rfl rfl (any_of HT_.out (by kernel_rfl)) (fun _ _ _ h => h) (Or.inl ⟨by rfl, ?_⟩) ?_ ?_; rotate_left; (intro w'; go_simp; with_reducible rfl); rotate_left; (simp only [Act.put, s1_, s2_, s3_, i64_w, i32_w]; rfl)
          refine pure_ (i := 5) (N := some 24) (v := ?_) (a' := ?_) bs7_6 rfl rfl (any_of HT_.out (by kernel_rfl)) (fun _ _ _ h => h) (Or.inl ⟨by rfl, ?_⟩) ?_ ?_; rotate_left; (intro w'; go_simp; with_reducible rfl); rotate_left; (simp only [Act.put, s1_, s2_, s3_, i64_w, i32_w]; rfl)
          refine one_ (i := 6) (N := some 25) bs7_7 rfl rfl (one_of HT_.out (by kernel_rfl)) (by decide) (fun K hK => ?_)
          refine goes_ Try.func51 (by kernel_rfl) rfl #[] (by rfl) rfl rfl (by (try simp only [List.map_toArray, List.map_cons, List.map_nil]); first | done | rfl | (simp only [List.length_drop, List.length_take]; rfl)) ?_
          with_reducible refine (impl_UnitCost.calls k  t299 t302 t305 _ A20.out).mono ?_
          rintro e w28 ⟨v300, v303, v306, rfl, ho0, ho1, ho2, hb⟩
          refine ⟨_, rfl, ?_⟩
          have n0_ := Aside0.mk (Kd.R_mono (Kd.R_told (Kd.R_told (Kd.R_told (Kd.R_old (by (with_reducible repeat (first | apply Kd.R_alloc | apply Kd.R_drewN | apply Kd.R_drew)); exact HO286.out) hb) (Kd.R_base ho0)) (Kd.R_base ho1)) (Kd.R_base ho2)) (fun _ h_ => h_.1))
          have n1_ := Aside0.mk (Kd.Q_mono (Kd.Q_told (Kd.Q_told (Kd.Q_told (Kd.Q_old (by (with_reducible repeat (first | apply Kd.Q_alloc | apply Kd.Q_drewN | apply Kd.Q_drew)); exact HO289.out) hb) (Kd.R_base ho0)) (Kd.R_base ho1)) (Kd.R_base ho2)) (fun _ h_ => h_.1))
          have n2_ := Aside0.mk (Kd.R_mono (Kd.R_told (Kd.R_told (Kd.R_told (Kd.R_old (by (with_reducible repeat (first | apply Kd.R_alloc | apply Kd.R_drewN | apply Kd.R_drew)); exact HO292.out) hb) (Kd.R_base ho0)) (Kd.R_base ho1)) (Kd.R_base ho2)) (fun _ h_ => h_.1))
          have n3_ := Aside0.mk (Kd.R_lower (Kd.R_new' (Kd.R_new' (Kd.R_new' ho0 (Kd.R_lt (by (with_reducible repeat (first | apply Kd.R_alloc | apply Kd.R_drewN | apply Kd.R_drew)); exact HO286.out))) (Kd.Q_lt (by (with_reducible repeat (first | apply Kd.Q_alloc | apply Kd.Q_drewN | apply Kd.Q_drew)); exact HO289.out))) (Kd.R_lt (by (with_reducible repeat (first | apply Kd.R_alloc | apply Kd.R_drewN | apply Kd.R_drew)); exact HO292.out))) (below_size (by repeat (first | (with_reducible first | exact HB.out | apply below_alloc | apply pw_below_drewN | apply below_drew1 | refine below_set ?_ GE295.out) | exact HB.out))))
          have n4_ := Aside0.mk (Kd.R_lower (Kd.R_new' (Kd.R_new' (Kd.R_new' ho1 (Kd.R_lt (by (with_reducible repeat (first | apply Kd.R_alloc | apply Kd.R_drewN | apply Kd.R_drew)); exact HO286.out))) (Kd.Q_lt (by (with_reducible repeat (first | apply Kd.Q_alloc | apply Kd.Q_drewN | apply Kd.Q_drew)); exact HO289.out))) (Kd.R_lt (by (with_reducible repeat (first | apply Kd.R_alloc | apply Kd.R_drewN | apply Kd.R_drew)); exact HO292.out))) (below_size (by repeat (first | (with_reducible first | exact HB.out | apply below_alloc | apply pw_below_drewN | apply below_drew1 | refine below_set ?_ GE295.out) | exact HB.out))))
          have n5_ := Aside0.mk (Kd.R_lower (Kd.R_new' (Kd.R_new' (Kd.R_new' ho2 (Kd.R_lt (by (with_reducible repeat (first | apply Kd.R_alloc | apply Kd.R_drewN | apply Kd.R_drew)); exact HO286.out))) (Kd.Q_lt (by (with_reducible repeat (first | apply Kd.Q_alloc | apply Kd.Q_drewN | apply Kd.Q_drew)); exact HO289.out))) (Kd.R_lt (by (with_reducible repeat (first | apply Kd.R_alloc | apply Kd.R_drewN | apply Kd.R_drew)); exact HO292.out))) (below_size (by repeat (first | (with_reducible first | exact HB.out | apply below_alloc | apply pw_below_drewN | apply below_drew1 | refine below_set ?_ GE295.out) | exact HB.out))))
          have n6_ := Aside0.mk (blk_below (g := gb295) (o := .cells #[.slice Ao9 t284.length co9, .slice Ao11 t287.length co11, .slice Ao12 t290.length co12] 35 (0, 0)) (by (with_reducible repeat (first | refine blk_drewN ?_ _ | refine blk_drew ?_ | refine blk_alloc ?_ _)); exact BK295.out) hb)
          have n7_ := Aside0.mk (below_step (by repeat (first | (with_reducible first | exact HB.out | apply below_alloc | apply pw_below_drewN | apply below_drew1 | refine below_set ?_ GE295.out) | exact HB.out)) hb)
          clear HO286; clear HO289; clear HO292; clear BK295; clear HB; have HO286 := n0_; have HO289 := n1_; have HO292 := n2_; have HO301 := n3_; have HO304 := n4_; have HO307 := n5_; have BK295 := n6_; have HB := n7_; clear n0_ n1_ n2_ n3_ n4_ n5_ n6_ n7_
          (try clear hb)
          (try clear hb2)
          (try clear hk)
          (try clear hi)
          (try clear ho0)
          (try clear ho1)
          (try clear ho2)
          obtain ⟨Ao29, co29, eo29⟩ := Kd.R_slice HO301.out
          (first | subst eo29 | (injection eo29 with f1_ f2_ f3_; have f4_ := f1_.symm; have f5_ := f3_.symm; clear f1_ f2_ f3_; subst f4_; subst f5_))
          obtain ⟨Ao30, co30, eo30⟩ := Kd.R_slice HO304.out
          (first | subst eo30 | (injection eo30 with f1_ f2_ f3_; have f4_ := f1_.symm; have f5_ := f3_.symm; clear f1_ f2_ f3_; subst f4_; subst f5_))
          obtain ⟨Ao31, co31, eo31⟩ := Kd.R_slice HO307.out
          (first | subst eo31 | (injection eo31 with f1_ f2_ f3_; have f4_ := f1_.symm; have f5_ := f3_.symm; clear f1_ f2_ f3_; subst f4_; subst f5_))
          refine hK.out _ _ ⟨(blk_cell BK295.out 0).trans rfl, (blk_cell BK295.out 1).trans rfl, (blk_cell BK295.out 2).trans rfl⟩ (fun hHeld => ?_)
          clear hK K
          refine norm_ (a' := ?_) ?_ ?_
          rotate_left
          · show Act.put _ (some 25) _ = _
            simp only [Act.put, s1_, s2_, s3_, i64_w, i32_w]
            rfl
          refine one_ (i := 7) (N := some 26) bs7_8 rfl rfl (one_of HT_.out (by kernel_rfl)) (by decide) (fun K hK => ?_)
          refine goes_ Try.func49 (by kernel_rfl) rfl #[.agg #[.slice Ao29 t299.length co29, .slice Ao30 t302.length co30, .slice Ao31 t305.length co31]] (by rfl) rfl rfl (by (try simp only [List.map_toArray, List.map_cons, List.map_nil]); first | done | rfl | (simp only [List.length_drop, List.length_take]; rfl)) ?_
          with_reducible refine (impl_CostOk.calls k _ _ t299 _ _ t302 _ _ t305 true _ ?side1 ?side2 ?side3 ?side4 ?side5 ?side6 A21.out).mono ?_
          (case side1 => repeat (first | exact (Kd.R_reads' HO301.out).2.2 | (with_reducible refine Kd.C_alloc ?_ _) | (with_reducible refine Kd.C_drewN ?_ _) | (with_reducible refine Kd.C_drew ?_)))
          (case side2 => exact (Kd.R_reads' HO301.out).2.1)
          (case side3 => repeat (first | exact (Kd.R_reads' HO304.out).2.2 | (with_reducible refine Kd.C_alloc ?_ _) | (with_reducible refine Kd.C_drewN ?_ _) | (with_reducible refine Kd.C_drew ?_)))
          (case side4 => exact (Kd.R_reads' HO304.out).2.1)
          (case side5 => repeat (first | exact (Kd.R_reads' HO307.out).2.2 | (with_reducible refine Kd.C_alloc ?_ _) | (with_reducible refine Kd.C_drewN ?_ _) | (with_reducible refine Kd.C_drew ?_)))
          (case side6 => exact (Kd.R_reads' HO307.out).2.1)
          rintro e w32 ⟨rfl, hb⟩
          refine ⟨_, rfl, ?_⟩
          have n0_ := Aside0.mk (Kd.R_below (by (with_reducible repeat (first | apply Kd.R_alloc | apply Kd.R_drewN | apply Kd.R_drew)); exact HO286.out) hb)
          have n1_ := Aside0.mk (Kd.Q_below (by (with_reducible repeat (first | apply Kd.Q_alloc | apply Kd.Q_drewN | apply Kd.Q_drew)); exact HO289.out) hb)
          have n2_ := Aside0.mk (Kd.R_below (by (with_reducible repeat (first | apply Kd.R_alloc | apply Kd.R_drewN | apply Kd.R_drew)); exact HO292.out) hb)
          have n3_ := Aside0.mk (Kd.R_below (by (with_reducible repeat (first | apply Kd.R_alloc | apply Kd.R_drewN | apply Kd.R_drew)); exact HO301.out) hb)
          have n4_ := Aside0.mk (Kd.R_below (by (with_reducible repeat (first | apply Kd.R_alloc | apply Kd.R_drewN | apply Kd.R_drew)); exact HO304.out) hb)
          have n5_ := Aside0.mk (Kd.R_below (by (with_reducible repeat (first | apply Kd.R_alloc | apply Kd.R_drewN | apply Kd.R_drew)); exact HO307.out) hb)
          have n6_ := Aside0.mk (blk_below (g := gb295) (o := .cells #[.slice Ao9 t284.length co9, .slice Ao11 t287.length co11, .slice Ao12 t290.length co12] 35 (0, 0)) (by (with_reducible repeat (first | refine blk_drewN ?_ _ | refine blk_drew ?_ | refine blk_alloc ?_ _)); exact BK295.out) hb)
          have n7_ := Aside0.mk (below_step (by repeat (first | (with_reducible first | exact HB.out | apply below_alloc | apply pw_below_drewN | apply below_drew1 | refine below_set ?_ GE295.out) | exact HB.out)) hb)
          clear HO286; clear HO289; clear HO292; clear HO301; clear HO304; clear HO307; clear BK295; clear HB; have HO286 := n0_; have HO289 := n1_; have HO292 := n2_; have HO301 := n3_; have HO304 := n4_; have HO307 := n5_; have BK295 := n6_; have HB := n7_; clear n0_ n1_ n2_ n3_ n4_ n5_ n6_ n7_
          (try clear hb)
          (try clear hb2)
          (try clear hk)
          (try clear hi)
          refine hK.out _ _ ⟨(blk_cell BK295.out 0).trans rfl, (blk_cell BK295.out 1).trans rfl, (blk_cell BK295.out 2).trans rfl⟩ (fun hHeld => ?_)
          clear hK K
          refine norm_ (a' := ?_) ?_ ?_
          rotate_left
          · show Act.put _ (some 26) _ = _
            simp only [Act.put, s1_, s2_, s3_, i64_w, i32_w]
            rfl
          refine pure_ (i := 8) (N := some 27) (v := ?_) (a' := ?_) bs7_9 rfl rfl (any_of HT_.out (by kernel_rfl)) (fun _ _ _ h => h) (Or.inl ⟨by rfl, ?_⟩) ?_ ?_; rotate_left; (intro w'; go_simp; with_reducible rfl); rotate_left; (simp only [Act.put, s1_, s2_, s3_, i64_w, i32_w]; rfl)
          refine pure_ (i := 9) (N := some 28) (v := ?_) (a' := ?_) bs7_10 rfl rfl (any_of HT_.out (by kernel_rfl)) (fun _ _ _ h => h) (Or.inl ⟨by rfl, ?_⟩) ?_ ?_; rotate_left; (intro w'; go_simp; with_reducible rfl); rotate_left; (simp only [Act.put, s1_, s2_, s3_, i64_w, i32_w]; rfl)
          refine pure_ (i := 10) (N := some 29) (v := ?_) (a' := ?_) bs7_11 rfl rfl (any_of HT_.out (by kernel_rfl)) (fun _ _ _ h => h) (Or.inl ⟨by rfl, ?_⟩) ?_ ?_; rotate_left; (intro w'; go_simp; with_reducible rfl); rotate_left; (simp only [Act.put, s1_, s2_, s3_, i64_w, i32_w]; rfl)
          refine one_ (i := 11) (N := some 30) bs7_12 rfl rfl (one_of HT_.out (by kernel_rfl)) (by decide) (fun K hK => ?_)
          refine goes_ Try.func51 (by kernel_rfl) rfl #[] (by rfl) rfl rfl (by (try simp only [List.map_toArray, List.map_cons, List.map_nil]); first | done | rfl | (simp only [List.length_drop, List.length_take]; rfl)) ?_
          with_reducible refine (impl_UnitCost.calls k  t309 t312 t315 _ A23.out).mono ?_
          rintro e w33 ⟨v310, v313, v316, rfl, ho0, ho1, ho2, hb⟩
          refine ⟨_, rfl, ?_⟩
          have n0_ := Aside0.mk (Kd.R_mono (Kd.R_told (Kd.R_told (Kd.R_told (Kd.R_old (by (with_reducible repeat (first | apply Kd.R_alloc | apply Kd.R_drewN | apply Kd.R_drew)); exact HO286.out) hb) (Kd.R_base ho0)) (Kd.R_base ho1)) (Kd.R_base ho2)) (fun _ h_ => h_.1))
          have n1_ := Aside0.mk (Kd.Q_mono (Kd.Q_told (Kd.Q_told (Kd.Q_told (Kd.Q_old (by (with_reducible repeat (first | apply Kd.Q_alloc | apply Kd.Q_drewN | apply Kd.Q_drew)); exact HO289.out) hb) (Kd.R_base ho0)) (Kd.R_base ho1)) (Kd.R_base ho2)) (fun _ h_ => h_.1))
          have n2_ := Aside0.mk (Kd.R_mono (Kd.R_told (Kd.R_told (Kd.R_told (Kd.R_old (by (with_reducible repeat (first | apply Kd.R_alloc | apply Kd.R_drewN | apply Kd.R_drew)); exact HO292.out) hb) (Kd.R_base ho0)) (Kd.R_base ho1)) (Kd.R_base ho2)) (fun _ h_ => h_.1))
          have n3_ := Aside0.mk (Kd.R_mono (Kd.R_told (Kd.R_told (Kd.R_told (Kd.R_old (by (with_reducible repeat (first | apply Kd.R_alloc | apply Kd.R_drewN | apply Kd.R_drew)); exact HO301.out) hb) (Kd.R_base ho0)) (Kd.R_base ho1)) (Kd.R_base ho2)) (fun _ h_ => h_.1))
          have n4_ := Aside0.mk (Kd.R_mono (Kd.R_told (Kd.R_told (Kd.R_told (Kd.R_old (by (with_reducible repeat (first | apply Kd.R_alloc | apply Kd.R_drewN | apply Kd.R_drew)); exact HO304.out) hb) (Kd.R_base ho0)) (Kd.R_base ho1)) (Kd.R_base ho2)) (fun _ h_ => h_.1))
          have n5_ := Aside0.mk (Kd.R_mono (Kd.R_told (Kd.R_told (Kd.R_told (Kd.R_old (by (with_reducible repeat (first | apply Kd.R_alloc | apply Kd.R_drewN | apply Kd.R_drew)); exact HO307.out) hb) (Kd.R_base ho0)) (Kd.R_base ho1)) (Kd.R_base ho2)) (fun _ h_ => h_.1))
          have n6_ := Aside0.mk (Kd.R_lower (Kd.R_new' (Kd.R_new' (Kd.R_new' (Kd.R_new' (Kd.R_new' (Kd.R_new' ho0 (Kd.R_lt (by (with_reducible repeat (first | apply Kd.R_alloc | apply Kd.R_drewN | apply Kd.R_drew)); exact HO286.out))) (Kd.Q_lt (by (with_reducible repeat (first | apply Kd.Q_alloc | apply Kd.Q_drewN | apply Kd.Q_drew)); exact HO289.out))) (Kd.R_lt (by (with_reducible repeat (first | apply Kd.R_alloc | apply Kd.R_drewN | apply Kd.R_drew)); exact HO292.out))) (Kd.R_lt (by (with_reducible repeat (first | apply Kd.R_alloc | apply Kd.R_drewN | apply Kd.R_drew)); exact HO301.out))) (Kd.R_lt (by (with_reducible repeat (first | apply Kd.R_alloc | apply Kd.R_drewN | apply Kd.R_drew)); exact HO304.out))) (Kd.R_lt (by (with_reducible repeat (first | apply Kd.R_alloc | apply Kd.R_drewN | apply Kd.R_drew)); exact HO307.out))) (below_size (by repeat (first | (with_reducible first | exact HB.out | apply below_alloc | apply pw_below_drewN | apply below_drew1 | refine below_set ?_ GE295.out) | exact HB.out))))
          have n7_ := Aside0.mk (Kd.R_lower (Kd.R_new' (Kd.R_new' (Kd.R_new' (Kd.R_new' (Kd.R_new' (Kd.R_new' ho1 (Kd.R_lt (by (with_reducible repeat (first | apply Kd.R_alloc | apply Kd.R_drewN | apply Kd.R_drew)); exact HO286.out))) (Kd.Q_lt (by (with_reducible repeat (first | apply Kd.Q_alloc | apply Kd.Q_drewN | apply Kd.Q_drew)); exact HO289.out))) (Kd.R_lt (by (with_reducible repeat (first | apply Kd.R_alloc | apply Kd.R_drewN | apply Kd.R_drew)); exact HO292.out))) (Kd.R_lt (by (with_reducible repeat (first | apply Kd.R_alloc | apply Kd.R_drewN | apply Kd.R_drew)); exact HO301.out))) (Kd.R_lt (by (with_reducible repeat (first | apply Kd.R_alloc | apply Kd.R_drewN | apply Kd.R_drew)); exact HO304.out))) (Kd.R_lt (by (with_reducible repeat (first | apply Kd.R_alloc | apply Kd.R_drewN | apply Kd.R_drew)); exact HO307.out))) (below_size (by repeat (first | (with_reducible first | exact HB.out | apply below_alloc | apply pw_below_drewN | apply below_drew1 | refine below_set ?_ GE295.out) | exact HB.out))))
          have n8_ := Aside0.mk (Kd.R_lower (Kd.R_new' (Kd.R_new' (Kd.R_new' (Kd.R_new' (Kd.R_new' (Kd.R_new' ho2 (Kd.R_lt (by (with_reducible repeat (first | apply Kd.R_alloc | apply Kd.R_drewN | apply Kd.R_drew)); exact HO286.out))) (Kd.Q_lt (by (with_reducible repeat (first | apply Kd.Q_alloc | apply Kd.Q_drewN | apply Kd.Q_drew)); exact HO289.out))) (Kd.R_lt (by (with_reducible repeat (first | apply Kd.R_alloc | apply Kd.R_drewN | apply Kd.R_drew)); exact HO292.out))) (Kd.R_lt (by (with_reducible repeat (first | apply Kd.R_alloc | apply Kd.R_drewN | apply Kd.R_drew)); exact HO301.out))) (Kd.R_lt (by (with_reducible repeat (first | apply Kd.R_alloc | apply Kd.R_drewN | apply Kd.R_drew)); exact HO304.out))) (Kd.R_lt (by (with_reducible repeat (first | apply Kd.R_alloc | apply Kd.R_drewN | apply Kd.R_drew)); exact HO307.out))) (below_size (by repeat (first | (with_reducible first | exact HB.out | apply below_alloc | apply pw_below_drewN | apply below_drew1 | refine below_set ?_ GE295.out) | exact HB.out))))
          have n9_ := Aside0.mk (blk_below (g := gb295) (o := .cells #[.slice Ao9 t284.length co9, .slice Ao11 t287.length co11, .slice Ao12 t290.length co12] 35 (0, 0)) (by (with_reducible repeat (first | refine blk_drewN ?_ _ | refine blk_drew ?_ | refine blk_alloc ?_ _)); exact BK295.out) hb)
          have n10_ := Aside0.mk (below_step (by repeat (first | (with_reducible first | exact HB.out | apply below_alloc | apply pw_below_drewN | apply below_drew1 | refine below_set ?_ GE295.out) | exact HB.out)) hb)
          clear HO286; clear HO289; clear HO292; clear HO301; clear HO304; clear HO307; clear BK295; clear HB; have HO286 := n0_; have HO289 := n1_; have HO292 := n2_; have HO301 := n3_; have HO304 := n4_; have HO307 := n5_; have HO311 := n6_; have HO314 := n7_; have HO317 := n8_; have BK295 := n9_; have HB := n10_; clear n0_ n1_ n2_ n3_ n4_ n5_ n6_ n7_ n8_ n9_ n10_
          (try clear hb)
          (try clear hb2)
          (try clear hk)
          (try clear hi)
          (try clear ho0)
          (try clear ho1)
          (try clear ho2)
          obtain ⟨Ao34, co34, eo34⟩ := Kd.R_slice HO311.out
          (first | subst eo34 | (injection eo34 with f1_ f2_ f3_; have f4_ := f1_.symm; have f5_ := f3_.symm; clear f1_ f2_ f3_; subst f4_; subst f5_))
          obtain ⟨Ao35, co35, eo35⟩ := Kd.R_slice HO314.out
          (first | subst eo35 | (injection eo35 with f1_ f2_ f3_; have f4_ := f1_.symm; have f5_ := f3_.symm; clear f1_ f2_ f3_; subst f4_; subst f5_))
          obtain ⟨Ao36, co36, eo36⟩ := Kd.R_slice HO317.out
          (first | subst eo36 | (injection eo36 with f1_ f2_ f3_; have f4_ := f1_.symm; have f5_ := f3_.symm; clear f1_ f2_ f3_; subst f4_; subst f5_))
          refine hK.out _ _ ⟨(blk_cell BK295.out 0).trans rfl, (blk_cell BK295.out 1).trans rfl, (blk_cell BK295.out 2).trans rfl⟩ (fun hHeld => ?_)
          clear hK K
          refine norm_ (a' := ?_) ?_ ?_
          rotate_left
          · show Act.put _ (some 30) _ = _
            simp only [Act.put, s1_, s2_, s3_, i64_w, i32_w]
            rfl
          refine one_ (i := 12) (N := some 31) bs7_13 rfl rfl (one_of HT_.out (by kernel_rfl)) (by decide) (fun K hK => ?_)
          refine goes_ Try.func30 (by kernel_rfl) rfl #[.agg #[.slice Ao34 t309.length co34, .slice Ao35 t312.length co35, .slice Ao36 t315.length co36], .int .i64 1, .int .i64 2] (by rfl) rfl rfl (by (try simp only [List.map_toArray, List.map_cons, List.map_nil]); first | done | rfl | (simp only [List.length_drop, List.length_take]; rfl)) ?_
          with_reducible refine (impl_RelCost.calls k _ _ t309 _ _ t312 _ _ t315 1 2 t318 _ ?side1 ?side2 ?side3 ?side4 ?side5 ?side6 A24.out).mono ?_
          (case side1 => repeat (first | exact (Kd.R_reads' HO311.out).2.2 | (with_reducible refine Kd.C_alloc ?_ _) | (with_reducible refine Kd.C_drewN ?_ _) | (with_reducible refine Kd.C_drew ?_)))
          (case side2 => exact (Kd.R_reads' HO311.out).2.1)
          (case side3 => repeat (first | exact (Kd.R_reads' HO314.out).2.2 | (with_reducible refine Kd.C_alloc ?_ _) | (with_reducible refine Kd.C_drewN ?_ _) | (with_reducible refine Kd.C_drew ?_)))
          (case side4 => exact (Kd.R_reads' HO314.out).2.1)
          (case side5 => repeat (first | exact (Kd.R_reads' HO317.out).2.2 | (with_reducible refine Kd.C_alloc ?_ _) | (with_reducible refine Kd.C_drewN ?_ _) | (with_reducible refine Kd.C_drew ?_)))
          (case side6 => exact (Kd.R_reads' HO317.out).2.1)
          rintro e w37 ⟨rfl, hb⟩
          refine ⟨_, rfl, ?_⟩
          have n0_ := Aside0.mk (Kd.R_below (by (with_reducible repeat (first | apply Kd.R_alloc | apply Kd.R_drewN | apply Kd.R_drew)); exact HO286.out) hb)
          have n1_ := Aside0.mk (Kd.Q_below (by (with_reducible repeat (first | apply Kd.Q_alloc | apply Kd.Q_drewN | apply Kd.Q_drew)); exact HO289.out) hb)
          have n2_ := Aside0.mk (Kd.R_below (by (with_reducible repeat (first | apply Kd.R_alloc | apply Kd.R_drewN | apply Kd.R_drew)); exact HO292.out) hb)
          have n3_ := Aside0.mk (Kd.R_below (by (with_reducible repeat (first | apply Kd.R_alloc | apply Kd.R_drewN | apply Kd.R_drew)); exact HO301.out) hb)
          have n4_ := Aside0.mk (Kd.R_below (by (with_reducible repeat (first | apply Kd.R_alloc | apply Kd.R_drewN | apply Kd.R_drew)); exact HO304.out) hb)
          have n5_ := Aside0.mk (Kd.R_below (by (with_reducible repeat (first | apply Kd.R_alloc | apply Kd.R_drewN | apply Kd.R_drew)); exact HO307.out) hb)
          have n6_ := Aside0.mk (Kd.R_below (by (with_reducible repeat (first | apply Kd.R_alloc | apply Kd.R_drewN | apply Kd.R_drew)); exact HO311.out) hb)
          have n7_ := Aside0.mk (Kd.R_below (by (with_reducible repeat (first | apply Kd.R_alloc | apply Kd.R_drewN | apply Kd.R_drew)); exact HO314.out) hb)
          have n8_ := Aside0.mk (Kd.R_below (by (with_reducible repeat (first | apply Kd.R_alloc | apply Kd.R_drewN | apply Kd.R_drew)); exact HO317.out) hb)
          have n9_ := Aside0.mk (blk_below (g := gb295) (o := .cells #[.slice Ao9 t284.length co9, .slice Ao11 t287.length co11, .slice Ao12 t290.length co12] 35 (0, 0)) (by (with_reducible repeat (first | refine blk_drewN ?_ _ | refine blk_drew ?_ | refine blk_alloc ?_ _)); exact BK295.out) hb)
          have n10_ := Aside0.mk (below_step (by repeat (first | (with_reducible first | exact HB.out | apply below_alloc | apply pw_below_drewN | apply below_drew1 | refine below_set ?_ GE295.out) | exact HB.out)) hb)
          clear HO286; clear HO289; clear HO292; clear HO301; clear HO304; clear HO307; clear HO311; clear HO314; clear HO317; clear BK295; clear HB; have HO286 := n0_; have HO289 := n1_; have HO292 := n2_; have HO301 := n3_; have HO304 := n4_; have HO307 := n5_; have HO311 := n6_; have HO314 := n7_; have HO317 := n8_; have BK295 := n9_; have HB := n10_; clear n0_ n1_ n2_ n3_ n4_ n5_ n6_ n7_ n8_ n9_ n10_
          (try clear hb)
          (try clear hb2)
          (try clear hk)
          (try clear hi)
          refine hK.out _ _ ⟨(blk_cell BK295.out 0).trans rfl, (blk_cell BK295.out 1).trans rfl, (blk_cell BK295.out 2).trans rfl⟩ (fun hHeld => ?_)
          clear hK K
          refine norm_ (a' := ?_) ?_ ?_
          rotate_left
          · show Act.put _ (some 31) _ = _
            simp only [Act.put, s1_, s2_, s3_, i64_w, i32_w]
            rfl
          refine pure_ (i := 13) (N := some 32) (v := ?_) (a' := ?_) bs7_14 rfl rfl (any_of HT_.out (by kernel_rfl)) (fun _ _ _ h => h) (Or.inl ⟨by rfl, ?_⟩) ?_ ?_; rotate_left; (intro w'; go_simp; with_reducible rfl); rotate_left; (simp only [Act.put, s1_, s2_, s3_, i64_w, i32_w]; rfl)
          refine pure_ (i := 14) (N := some 33) (v := ?_) (a' := ?_) bs7_15 rfl rfl (any_of HT_.out (by kernel_rfl)) (fun _ _ _ h => h) (Or.inl ⟨by rfl, ?_⟩) ?_ ?_; rotate_left; (intro w'; go_simp; with_reducible rfl); rotate_left; (simp only [Act.put, s1_, s2_, s3_, i64_w, i32_w]; rfl)
          refine done_ (done_of HT_.out (by kernel_rfl)) ?_
          try go_wp2
          go_meet
          case rel => exact ⟨_, ((t318 != 1)), (by first | rfl | (simp; done) | (simp [*]; done)), H', ⟨by first | omega | exact Nat.le_refl _⟩, ⟨by (with_reducible repeat (first | apply Kd.R_alloc | apply Kd.R_drewN | apply Kd.R_drew)); exact Kd.R_mono HO286.out (fun _ hk => ⟨hk.1.1.1.1.1.1.1, hk.1.1.1.1.1.1.2⟩)⟩, ⟨by (with_reducible repeat (first | apply Kd.Q_alloc | apply Kd.Q_drewN | apply Kd.Q_drew)); exact Kd.Q_mono HO289.out (fun _ hk => ⟨hk.1.1.1.1.1.1.1, hk.1.1.1.1.1.1.2⟩)⟩, ⟨by (with_reducible repeat (first | apply Kd.R_alloc | apply Kd.R_drewN | apply Kd.R_drew)); exact Kd.R_mono HO292.out (fun _ hk => ⟨hk.1.1.1.1.1.1.1, hk.1.1.1.1.1.1.2⟩)⟩, ⟨by (with_reducible repeat (first | refine blk_drewN ?_ _ | refine blk_drew ?_ | refine blk_alloc ?_ _)); exact BK295.out⟩, ⟨by repeat (first | (with_reducible first | exact HB.out | apply below_alloc | apply pw_below_drewN | apply below_drew1 | refine below_set ?_ GE295.out) | exact HB.out)⟩⟩
        · replace c22 := Bool.eq_false_iff.mpr c22
          subst c22
          have H1 : (laws_FnCosts.j0 k t293 t294 t296 true t284 t287 t290) = some r := by rw [if_neg (show ¬ (false = true) by decide)] at H; exact H
          clear H; have H := H1; clear H1; have H' := Aside0.mk H; clear H
          try go_wp2
          have n0_ := Aside0.mk (Kd.R_drew HO286.out); have n1_ := Aside0.mk (Kd.Q_drew HO289.out); have n2_ := Aside0.mk (Kd.R_drew HO292.out); have n3_ := Aside0.mk (blk_drew BK295.out); have n4_ := Aside0.mk (below_drew1 HB.out); clear HO286; clear HO289; clear HO292; clear BK295; clear HB; have HO286 := n0_; have HO289 := n1_; have HO292 := n2_; have BK295 := n3_; have HB := n4_; clear n0_ n1_ n2_ n3_ n4_
          refine start_ (n := 15) (S := fun w' => w'.cell? ⟨gb295, 0, none⟩ = some (.slice Ao9 t284.length co9) ∧ w'.cell? ⟨gb295, 1, none⟩ = some (.slice Ao11 t287.length co11) ∧ w'.cell? ⟨gb295, 2, none⟩ = some (.slice Ao12 t290.length co12)) (ds := []) bs7_0 (by kernel_rfl) rfl rfl ⟨(blk_cell BK295.out 0).trans rfl, (blk_cell BK295.out 1).trans rfl, (blk_cell BK295.out 2).trans rfl⟩ (fun hHeld => ?_); refine with_tabW laws_FnCosts.tab5 laws_FnCosts.bits5 (fun HT_ HW_ => ?_)
          generalize w13.drew = w38 at HO286 HO289 HO292 BK295 HB hHeld ⊢
          refine take_ (i := 0) (N := some 19) (v := ?_) (a' := ?_) bs7_1 rfl rfl (take_ofW HT_.out HW_.out (by kernel_rfl)) (fun _ _ _ h => h) (Or.inl ⟨by rfl, ?_⟩) hHeld ?_ ?_; rotate_left; (rintro w' ⟨s0, s1, s2⟩; go_simp; with_reducible rfl); rotate_left; (simp only [Act.put, s1_, s2_, s3_, i64_w, i32_w]; rfl)
          refine take_ (i := 2) (N := some 21) (v := ?_) (a' := ?_) bs7_2 rfl rfl (take_ofW HT_.out HW_.out (by kernel_rfl)) (fun _ _ _ h => h) (Or.inl ⟨by rfl, ?_⟩) hHeld ?_ ?_; rotate_left; (rintro w' ⟨s0, s1, s2⟩; go_simp; with_reducible rfl); rotate_left; (simp only [Act.put, s1_, s2_, s3_, i64_w, i32_w]; rfl)
          refine one_ (i := 1) (N := some 20) bs7_3 rfl rfl (one_of HT_.out (by kernel_rfl)) (by decide) (fun K hK => ?_)
          refine goes_ Try.func49 (by kernel_rfl) rfl #[.agg #[.slice Ao9 t284.length co9, .slice Ao11 t287.length co11, .slice Ao12 t290.length co12]] (by rfl) rfl rfl (by (try simp only [List.map_toArray, List.map_cons, List.map_nil]); first | done | rfl | (simp only [List.length_drop, List.length_take]; rfl)) ?_
          with_reducible refine (impl_CostOk.calls k _ _ t284 _ _ t287 _ _ t290 t297 _ ?side1 ?side2 ?side3 ?side4 ?side5 ?side6 A14.out).mono ?_
          (case side1 => repeat (first | exact (Kd.R_reads' HO286.out).2.2 | (with_reducible refine Kd.C_alloc ?_ _) | (with_reducible refine Kd.C_drewN ?_ _) | (with_reducible refine Kd.C_drew ?_)))
          (case side2 => exact (Kd.R_reads' HO286.out).2.1)
          (case side3 => repeat (first | exact (Kd.Q_reads' HO289.out).2.2 | (with_reducible refine Kd.C_alloc ?_ _) | (with_reducible refine Kd.C_drewN ?_ _) | (with_reducible refine Kd.C_drew ?_)))
          (case side4 => exact (Kd.Q_reads' HO289.out).2.1)
          (case side5 => repeat (first | exact (Kd.R_reads' HO292.out).2.2 | (with_reducible refine Kd.C_alloc ?_ _) | (with_reducible refine Kd.C_drewN ?_ _) | (with_reducible refine Kd.C_drew ?_)))
          (case side6 => exact (Kd.R_reads' HO292.out).2.1)
          rintro e w39 ⟨rfl, hb⟩
          refine ⟨_, rfl, ?_⟩
          have n0_ := Aside0.mk (Kd.R_below (by (with_reducible repeat (first | apply Kd.R_alloc | apply Kd.R_drewN | apply Kd.R_drew)); exact HO286.out) hb)
          have n1_ := Aside0.mk (Kd.Q_below (by (with_reducible repeat (first | apply Kd.Q_alloc | apply Kd.Q_drewN | apply Kd.Q_drew)); exact HO289.out) hb)
          have n2_ := Aside0.mk (Kd.R_below (by (with_reducible repeat (first | apply Kd.R_alloc | apply Kd.R_drewN | apply Kd.R_drew)); exact HO292.out) hb)
          have n3_ := Aside0.mk (blk_below (g := gb295) (o := .cells #[.slice Ao9 t284.length co9, .slice Ao11 t287.length co11, .slice Ao12 t290.length co12] 35 (0, 0)) (by (with_reducible repeat (first | refine blk_drewN ?_ _ | refine blk_drew ?_ | refine blk_alloc ?_ _)); exact BK295.out) hb)
          have n4_ := Aside0.mk (below_step (by repeat (first | (with_reducible first | exact HB.out | apply below_alloc | apply pw_below_drewN | apply below_drew1 | refine below_set ?_ GE295.out) | exact HB.out)) hb)
          clear HO286; clear HO289; clear HO292; clear BK295; clear HB; have HO286 := n0_; have HO289 := n1_; have HO292 := n2_; have BK295 := n3_; have HB := n4_; clear n0_ n1_ n2_ n3_ n4_
          (try clear hb)
          (try clear hb2)
          (try clear hk)
          (try clear hi)
          refine hK.out _ _ ⟨(blk_cell BK295.out 0).trans rfl, (blk_cell BK295.out 1).trans rfl, (blk_cell BK295.out 2).trans rfl⟩ (fun hHeld => ?_)
          clear hK K
          refine norm_ (a' := ?_) ?_ ?_
          rotate_left
          · show Act.put _ (some 20) _ = _
            simp only [Act.put, s1_, s2_, s3_, i64_w, i32_w]
            rfl
          refine one_ (i := 3) (N := some 22) bs7_4 rfl rfl (one_of HT_.out (by kernel_rfl)) (by decide) (fun K hK => ?_)
          refine goes_ Try.func50 (by kernel_rfl) rfl #[.agg #[.slice Ao9 t284.length co9, .slice Ao11 t287.length co11, .slice Ao12 t290.length co12]] (by rfl) rfl rfl (by (try simp only [List.map_toArray, List.map_cons, List.map_nil]); first | done | rfl | (simp only [List.length_drop, List.length_take]; rfl)) ?_
          with_reducible refine (spec_CostOk.calls k _ _ t284 _ _ t287 _ _ t290 t298 _ ?side1 ?side2 ?side3 ?side4 ?side5 ?side6 A15.out).mono ?_
          (case side1 => repeat (first | exact (Kd.R_reads' HO286.out).2.2 | (with_reducible refine Kd.C_alloc ?_ _) | (with_reducible refine Kd.C_drewN ?_ _) | (with_reducible refine Kd.C_drew ?_)))
          (case side2 => exact (Kd.R_reads' HO286.out).2.1)
          (case side3 => repeat (first | exact (Kd.Q_reads' HO289.out).2.2 | (with_reducible refine Kd.C_alloc ?_ _) | (with_reducible refine Kd.C_drewN ?_ _) | (with_reducible refine Kd.C_drew ?_)))
          (case side4 => exact (Kd.Q_reads' HO289.out).2.1)
          (case side5 => repeat (first | exact (Kd.R_reads' HO292.out).2.2 | (with_reducible refine Kd.C_alloc ?_ _) | (with_reducible refine Kd.C_drewN ?_ _) | (with_reducible refine Kd.C_drew ?_)))
          (case side6 => exact (Kd.R_reads' HO292.out).2.1)
          rintro e w40 ⟨rfl, hb⟩
          refine ⟨_, rfl, ?_⟩
          have n0_ := Aside0.mk (Kd.R_below (by (with_reducible repeat (first | apply Kd.R_alloc | apply Kd.R_drewN | apply Kd.R_drew)); exact HO286.out) hb)
          have n1_ := Aside0.mk (Kd.Q_below (by (with_reducible repeat (first | apply Kd.Q_alloc | apply Kd.Q_drewN | apply Kd.Q_drew)); exact HO289.out) hb)
          have n2_ := Aside0.mk (Kd.R_below (by (with_reducible repeat (first | apply Kd.R_alloc | apply Kd.R_drewN | apply Kd.R_drew)); exact HO292.out) hb)
          have n3_ := Aside0.mk (blk_below (g := gb295) (o := .cells #[.slice Ao9 t284.length co9, .slice Ao11 t287.length co11, .slice Ao12 t290.length co12] 35 (0, 0)) (by (with_reducible repeat (first | refine blk_drewN ?_ _ | refine blk_drew ?_ | refine blk_alloc ?_ _)); exact BK295.out) hb)
          have n4_ := Aside0.mk (below_step (by repeat (first | (with_reducible first | exact HB.out | apply below_alloc | apply pw_below_drewN | apply below_drew1 | refine below_set ?_ GE295.out) | exact HB.out)) hb)
          clear HO286; clear HO289; clear HO292; clear BK295; clear HB; have HO286 := n0_; have HO289 := n1_; have HO292 := n2_; have BK295 := n3_; have HB := n4_; clear n0_ n1_ n2_ n3_ n4_
          (try clear hb)
          (try clear hb2)
          (try clear hk)
          (try clear hi)
          refine hK.out _ _ ⟨(blk_cell BK295.out 0).trans rfl, (blk_cell BK295.out 1).trans rfl, (blk_cell BK295.out 2).trans rfl⟩ (fun hHeld => ?_)
          clear hK K
          refine norm_ (a' := ?_) ?_ ?_
          rotate_left
          · show Act.put _ (some 22) _ = _
            simp only [Act.put, s1_, s2_, s3_, i64_w, i32_w]
            rfl
          refine pure_ (i := 4) (N := some 23) (v := ?_) (a' := ?_) bs7_5 rfl rfl (any_of HT_.out (by kernel_rfl)) (fun _ _ _ h => h) (Or.inl ⟨by rfl, ?_⟩) ?_ ?_; rotate_left; (intro w'; go_simp; with_reducible rfl); rotate_left; (simp only [Act.put, s1_, s2_, s3_, i64_w, i32_w]; rfl)
          refine pure_ (i := 5) (N := some 24) (v := ?_) (a' := ?_) bs7_6 rfl rfl (any_of HT_.out (by kernel_rfl)) (fun _ _ _ h => h) (Or.inl ⟨by rfl, ?_⟩) ?_ ?_; rotate_left; (intro w'; go_simp; with_reducible rfl); rotate_left; (simp only [Act.put, s1_, s2_, s3_, i64_w, i32_w]; rfl)
          refine one_ (i := 6) (N := some 25) bs7_7 rfl rfl (one_of HT_.out (by kernel_rfl)) (by decide) (fun K hK => ?_)
          refine goes_ Try.func51 (by kernel_rfl) rfl #[] (by rfl) rfl rfl (by (try simp only [List.map_toArray, List.map_cons, List.map_nil]); first | done | rfl | (simp only [List.length_drop, List.length_take]; rfl)) ?_
          with_reducible refine (impl_UnitCost.calls k  t299 t302 t305 _ A20.out).mono ?_
          rintro e w41 ⟨v300, v303, v306, rfl, ho0, ho1, ho2, hb⟩
          refine ⟨_, rfl, ?_⟩
          have n0_ := Aside0.mk (Kd.R_mono (Kd.R_told (Kd.R_told (Kd.R_told (Kd.R_old (by (with_reducible repeat (first | apply Kd.R_alloc | apply Kd.R_drewN | apply Kd.R_drew)); exact HO286.out) hb) (Kd.R_base ho0)) (Kd.R_base ho1)) (Kd.R_base ho2)) (fun _ h_ => h_.1))
          have n1_ := Aside0.mk (Kd.Q_mono (Kd.Q_told (Kd.Q_told (Kd.Q_told (Kd.Q_old (by (with_reducible repeat (first | apply Kd.Q_alloc | apply Kd.Q_drewN | apply Kd.Q_drew)); exact HO289.out) hb) (Kd.R_base ho0)) (Kd.R_base ho1)) (Kd.R_base ho2)) (fun _ h_ => h_.1))
          have n2_ := Aside0.mk (Kd.R_mono (Kd.R_told (Kd.R_told (Kd.R_told (Kd.R_old (by (with_reducible repeat (first | apply Kd.R_alloc | apply Kd.R_drewN | apply Kd.R_drew)); exact HO292.out) hb) (Kd.R_base ho0)) (Kd.R_base ho1)) (Kd.R_base ho2)) (fun _ h_ => h_.1))
          have n3_ := Aside0.mk (Kd.R_lower (Kd.R_new' (Kd.R_new' (Kd.R_new' ho0 (Kd.R_lt (by (with_reducible repeat (first | apply Kd.R_alloc | apply Kd.R_drewN | apply Kd.R_drew)); exact HO286.out))) (Kd.Q_lt (by (with_reducible repeat (first | apply Kd.Q_alloc | apply Kd.Q_drewN | apply Kd.Q_drew)); exact HO289.out))) (Kd.R_lt (by (with_reducible repeat (first | apply Kd.R_alloc | apply Kd.R_drewN | apply Kd.R_drew)); exact HO292.out))) (below_size (by repeat (first | (with_reducible first | exact HB.out | apply below_alloc | apply pw_below_drewN | apply below_drew1 | refine below_set ?_ GE295.out) | exact HB.out))))
          have n4_ := Aside0.mk (Kd.R_lower (Kd.R_new' (Kd.R_new' (Kd.R_new' ho1 (Kd.R_lt (by (with_reducible repeat (first | apply Kd.R_alloc | apply Kd.R_drewN | apply Kd.R_drew)); exact HO286.out))) (Kd.Q_lt (by (with_reducible repeat (first | apply Kd.Q_alloc | apply Kd.Q_drewN | apply Kd.Q_drew)); exact HO289.out))) (Kd.R_lt (by (with_reducible repeat (first | apply Kd.R_alloc | apply Kd.R_drewN | apply Kd.R_drew)); exact HO292.out))) (below_size (by repeat (first | (with_reducible first | exact HB.out | apply below_alloc | apply pw_below_drewN | apply below_drew1 | refine below_set ?_ GE295.out) | exact HB.out))))
          have n5_ := Aside0.mk (Kd.R_lower (Kd.R_new' (Kd.R_new' (Kd.R_new' ho2 (Kd.R_lt (by (with_reducible repeat (first | apply Kd.R_alloc | apply Kd.R_drewN | apply Kd.R_drew)); exact HO286.out))) (Kd.Q_lt (by (with_reducible repeat (first | apply Kd.Q_alloc | apply Kd.Q_drewN | apply Kd.Q_drew)); exact HO289.out))) (Kd.R_lt (by (with_reducible repeat (first | apply Kd.R_alloc | apply Kd.R_drewN | apply Kd.R_drew)); exact HO292.out))) (below_size (by repeat (first | (with_reducible first | exact HB.out | apply below_alloc | apply pw_below_drewN | apply below_drew1 | refine below_set ?_ GE295.out) | exact HB.out))))
          have n6_ := Aside0.mk (blk_below (g := gb295) (o := .cells #[.slice Ao9 t284.length co9, .slice Ao11 t287.length co11, .slice Ao12 t290.length co12] 35 (0, 0)) (by (with_reducible repeat (first | refine blk_drewN ?_ _ | refine blk_drew ?_ | refine blk_alloc ?_ _)); exact BK295.out) hb)
          have n7_ := Aside0.mk (below_step (by repeat (first | (with_reducible first | exact HB.out | apply below_alloc | apply pw_below_drewN | apply below_drew1 | refine below_set ?_ GE295.out) | exact HB.out)) hb)
          clear HO286; clear HO289; clear HO292; clear BK295; clear HB; have HO286 := n0_; have HO289 := n1_; have HO292 := n2_; have HO301 := n3_; have HO304 := n4_; have HO307 := n5_; have BK295 := n6_; have HB := n7_; clear n0_ n1_ n2_ n3_ n4_ n5_ n6_ n7_
          (try clear hb)
          (try clear hb2)
          (try clear hk)
          (try clear hi)
          (try clear ho0)
          (try clear ho1)
          (try clear ho2)
          obtain ⟨Ao42, co42, eo42⟩ := Kd.R_slice HO301.out
          (first | subst eo42 | (injection eo42 with f1_ f2_ f3_; have f4_ := f1_.symm; have f5_ := f3_.symm; clear f1_ f2_ f3_; subst f4_; subst f5_))
          obtain ⟨Ao43, co43, eo43⟩ := Kd.R_slice HO304.out
          (first | subst eo43 | (injection eo43 with f1_ f2_ f3_; have f4_ := f1_.symm; have f5_ := f3_.symm; clear f1_ f2_ f3_; subst f4_; subst f5_))
          obtain ⟨Ao44, co44, eo44⟩ := Kd.R_slice HO307.out
          (first | subst eo44 | (injection eo44 with f1_ f2_ f3_; have f4_ := f1_.symm; have f5_ := f3_.symm; clear f1_ f2_ f3_; subst f4_; subst f5_))
          refine hK.out _ _ ⟨(blk_cell BK295.out 0).trans rfl, (blk_cell BK295.out 1).trans rfl, (blk_cell BK295.out 2).trans rfl⟩ (fun hHeld => ?_)
          clear hK K
          refine norm_ (a' := ?_) ?_ ?_
          rotate_left
          · show Act.put _ (some 25) _ = _
            simp only [Act.put, s1_, s2_, s3_, i64_w, i32_w]
            rfl
          refine one_ (i := 7) (N := some 26) bs7_8 rfl rfl (one_of HT_.out (by kernel_rfl)) (by decide) (fun K hK => ?_)
          refine goes_ Try.func49 (by kernel_rfl) rfl #[.agg #[.slice Ao42 t299.length co42, .slice Ao43 t302.length co43, .slice Ao44 t305.length co44]] (by rfl) rfl rfl (by (try simp only [List.map_toArray, List.map_cons, List.map_nil]); first | done | rfl | (simp only [List.length_drop, List.length_take]; rfl)) ?_
          with_reducible refine (impl_CostOk.calls k _ _ t299 _ _ t302 _ _ t305 false _ ?side1 ?side2 ?side3 ?side4 ?side5 ?side6 A21.out).mono ?_
          (case side1 => repeat (first | exact (Kd.R_reads' HO301.out).2.2 | (with_reducible refine Kd.C_alloc ?_ _) | (with_reducible refine Kd.C_drewN ?_ _) | (with_reducible refine Kd.C_drew ?_)))
          (case side2 => exact (Kd.R_reads' HO301.out).2.1)
          (case side3 => repeat (first | exact (Kd.R_reads' HO304.out).2.2 | (with_reducible refine Kd.C_alloc ?_ _) | (with_reducible refine Kd.C_drewN ?_ _) | (with_reducible refine Kd.C_drew ?_)))
          (case side4 => exact (Kd.R_reads' HO304.out).2.1)
          (case side5 => repeat (first | exact (Kd.R_reads' HO307.out).2.2 | (with_reducible refine Kd.C_alloc ?_ _) | (with_reducible refine Kd.C_drewN ?_ _) | (with_reducible refine Kd.C_drew ?_)))
          (case side6 => exact (Kd.R_reads' HO307.out).2.1)
          rintro e w45 ⟨rfl, hb⟩
          refine ⟨_, rfl, ?_⟩
          have n0_ := Aside0.mk (Kd.R_below (by (with_reducible repeat (first | apply Kd.R_alloc | apply Kd.R_drewN | apply Kd.R_drew)); exact HO286.out) hb)
          have n1_ := Aside0.mk (Kd.Q_below (by (with_reducible repeat (first | apply Kd.Q_alloc | apply Kd.Q_drewN | apply Kd.Q_drew)); exact HO289.out) hb)
          have n2_ := Aside0.mk (Kd.R_below (by (with_reducible repeat (first | apply Kd.R_alloc | apply Kd.R_drewN | apply Kd.R_drew)); exact HO292.out) hb)
          have n3_ := Aside0.mk (Kd.R_below (by (with_reducible repeat (first | apply Kd.R_alloc | apply Kd.R_drewN | apply Kd.R_drew)); exact HO301.out) hb)
          have n4_ := Aside0.mk (Kd.R_below (by (with_reducible repeat (first | apply Kd.R_alloc | apply Kd.R_drewN | apply Kd.R_drew)); exact HO304.out) hb)
          have n5_ := Aside0.mk (Kd.R_below (by (with_reducible repeat (first | apply Kd.R_alloc | apply Kd.R_drewN | apply Kd.R_drew)); exact HO307.out) hb)
          have n6_ := Aside0.mk (blk_below (g := gb295) (o := .cells #[.slice Ao9 t284.length co9, .slice Ao11 t287.length co11, .slice Ao12 t290.length co12] 35 (0, 0)) (by (with_reducible repeat (first | refine blk_drewN ?_ _ | refine blk_drew ?_ | refine blk_alloc ?_ _)); exact BK295.out) hb)
          have n7_ := Aside0.mk (below_step (by repeat (first | (with_reducible first | exact HB.out | apply below_alloc | apply pw_below_drewN | apply below_drew1 | refine below_set ?_ GE295.out) | exact HB.out)) hb)
          clear HO286; clear HO289; clear HO292; clear HO301; clear HO304; clear HO307; clear BK295; clear HB; have HO286 := n0_; have HO289 := n1_; have HO292 := n2_; have HO301 := n3_; have HO304 := n4_; have HO307 := n5_; have BK295 := n6_; have HB := n7_; clear n0_ n1_ n2_ n3_ n4_ n5_ n6_ n7_
          (try clear hb)
          (try clear hb2)
          (try clear hk)
          (try clear hi)
          refine hK.out _ _ ⟨(blk_cell BK295.out 0).trans rfl, (blk_cell BK295.out 1).trans rfl, (blk_cell BK295.out 2).trans rfl⟩ (fun hHeld => ?_)
          clear hK K
          refine norm_ (a' := ?_) ?_ ?_
          rotate_left
          · show Act.put _ (some 26) _ = _
            simp only [Act.put, s1_, s2_, s3_, i64_w, i32_w]
            rfl
          refine pure_ (i := 8) (N := some 27) (v := ?_) (a' := ?_) bs7_9 rfl rfl (any_of HT_.out (by kernel_rfl)) (fun _ _ _ h => h) (Or.inl ⟨by rfl, ?_⟩) ?_ ?_; rotate_left; (intro w'; go_simp; with_reducible rfl); rotate_left; (simp only [Act.put, s1_, s2_, s3_, i64_w, i32_w]; rfl)
          refine pure_ (i := 9) (N := some 28) (v := ?_) (a' := ?_) bs7_10 rfl rfl (any_of HT_.out (by kernel_rfl)) (fun _ _ _ h => h) (Or.inl ⟨by rfl, ?_⟩) ?_ ?_; rotate_left; (intro w'; go_simp; with_reducible rfl); rotate_left; (simp only [Act.put, s1_, s2_, s3_, i64_w, i32_w]; rfl)
          refine pure_ (i := 10) (N := some 29) (v := ?_) (a' := ?_) bs7_11 rfl rfl (any_of HT_.out (by kernel_rfl)) (fun _ _ _ h => h) (Or.inl ⟨by rfl, ?_⟩) ?_ ?_; rotate_left; (intro w'; go_simp; with_reducible rfl); rotate_left; (simp only [Act.put, s1_, s2_, s3_, i64_w, i32_w]; rfl)
          refine pure_ (i := 11) (N := some 30) (v := undef) (a' := ?_) bs7_12 rfl rfl (any_of HT_.out (by kernel_rfl)) (fun _ _ _ h => h) (Or.inr ⟨by rfl, rfl⟩) ?_ ?_
          rotate_left
          · simp only [Act.put, s1_, s2_, s3_, i64_w, i32_w]
            rfl
          refine pure_ (i := 12) (N := some 31) (v := undef) (a' := ?_) bs7_13 rfl rfl (any_of HT_.out (by kernel_rfl)) (fun _ _ _ h => h) (Or.inr ⟨by rfl, rfl⟩) ?_ ?_
          rotate_left
          · simp only [Act.put, s1_, s2_, s3_, i64_w, i32_w]
            rfl
          refine pure_ (i := 13) (N := some 32) (v := undef) (a' := ?_) bs7_14 rfl rfl (any_of HT_.out (by kernel_rfl)) (fun _ _ _ h => h) (Or.inr ⟨by rfl, rfl⟩) ?_ ?_
          rotate_left
          · simp only [Act.put, s1_, s2_, s3_, i64_w, i32_w]
            rfl
          refine pure_ (i := 14) (N := some 33) (v := ?_) (a' := ?_) bs7_15 rfl rfl (any_of HT_.out (by kernel_rfl)) (fun _ _ _ h => h) (Or.inl ⟨by rfl, ?_⟩) ?_ ?_; rotate_left; (intro w'; go_simp; with_reducible rfl); rotate_left; (simp only [Act.put, s1_, s2_, s3_, i64_w, i32_w]; rfl)
          refine done_ (done_of HT_.out (by kernel_rfl)) ?_
          try go_wp2
          go_meet
          case rel => exact ⟨_, (true), (by first | rfl | (simp; done) | (simp [*]; done)), H', ⟨by first | omega | exact Nat.le_refl _⟩, ⟨by (with_reducible repeat (first | apply Kd.R_alloc | apply Kd.R_drewN | apply Kd.R_drew)); exact Kd.R_mono HO286.out (fun _ hk => ⟨hk.1.1.1.1, hk.1.1.1.2⟩)⟩, ⟨by (with_reducible repeat (first | apply Kd.Q_alloc | apply Kd.Q_drewN | apply Kd.Q_drew)); exact Kd.Q_mono HO289.out (fun _ hk => ⟨hk.1.1.1.1, hk.1.1.1.2⟩)⟩, ⟨by (with_reducible repeat (first | apply Kd.R_alloc | apply Kd.R_drewN | apply Kd.R_drew)); exact Kd.R_mono HO292.out (fun _ hk => ⟨hk.1.1.1.1, hk.1.1.1.2⟩)⟩, ⟨by (with_reducible repeat (first | refine blk_drewN ?_ _ | refine blk_drew ?_ | refine blk_alloc ?_ _)); exact BK295.out⟩, ⟨by repeat (first | (with_reducible first | exact HB.out | apply below_alloc | apply pw_below_drewN | apply below_drew1 | refine below_set ?_ GE295.out) | exact HB.out)⟩⟩
    case rest =>
      clear HC6
      try clear c2
      try clear p2
      try clear c3
      try clear c4
      try clear c5
      try clear c22
      try clear c30
      obtain ⟨kq, x33_5, rfl, HA, HJ5, HO_296000, HO_296001, HO_296002, BK295, HB⟩ := hcut
      cases kq with
      | zero => exact absurd HA.out (by simp [laws_FnCosts.j0])
      | succ kj5 =>
        have H := HA.out; clear HA
        simp only [laws_FnCosts.j0] at H
        by_cases c46 : x33_5 = true
        · subst c46
          have H1 : (some false) = some r := by rw [if_pos rfl] at H; exact H
          clear H; have H := H1; clear H1
          obtain rfl := Option.some.inj H
          exact absurd hq.out (by decide)
        · replace c46 := Bool.eq_false_iff.mpr c46
          subst c46
          have H1 : ((spec_CostOk.f kj5 t284 t287 t290).bind fun t319 => (if t319 = true then ((spec_LabelOk.f t293).bind fun t320 => (if t320 = true then ((spec_LabelOk.f t294).bind fun t321 => (laws_FnCosts.j1 kj5 t293 t294 t296 (!t321) t284 t287 t290)) else (laws_FnCosts.j1 kj5 t293 t294 t296 true t284 t287 t290))) else (laws_FnCosts.j1 kj5 t293 t294 t296 true t284 t287 t290))) = some r := by rw [if_neg (show ¬ (false = true) by decide)] at H; exact H
          clear H; have H := H1; clear H1; have HC47 := Aside0.mk H; clear H
          go_upto_region 7 with (fail)
          go_cut [46] (fun v46 wc => ∃ (kq : Nat) (x46_46 : Bool), v46 = .bool x46_46 ∧ Aside0 (laws_FnCosts.j1 kq t293 t294 t296 x46_46 t284 t287 t290 = some r) ∧ Aside0 (kq ≤ kj5) ∧ Aside0 (Kd.R (Kd.int .i64) 3 wc w.heap.size (fun k_ => some k_ ≠ ((.slice Ao11 t287.length co11) : Value).ownBlock ∧ some k_ ≠ ((.slice Ao12 t290.length co12) : Value).ownBlock) (.slice Ao9 t284.length co9) t284) ∧ Aside0 (Kd.Q (Kd.int .i64) 3 wc w.heap.size (fun k_ => some k_ ≠ ((.slice Ao9 t284.length co9) : Value).ownBlock ∧ some k_ ≠ ((.slice Ao12 t290.length co12) : Value).ownBlock) (.slice Ao11 t287.length co11) t287) ∧ Aside0 (Kd.R (Kd.int .i64) 3 wc w.heap.size (fun k_ => some k_ ≠ ((.slice Ao9 t284.length co9) : Value).ownBlock ∧ some k_ ≠ ((.slice Ao11 t287.length co11) : Value).ownBlock) (.slice Ao12 t290.length co12) t290) ∧ Aside0 (wc.heap[gb295]? = some (.cells #[(.slice Ao9 t284.length co9), (.slice Ao11 t287.length co11), (.slice Ao12 t290.length co12)] 35 (0, 0))) ∧ Aside0 (Below w.heap.size w wc))
          case first =>
            have H := HC47.out; clear HC47; replace H := Option.bind_eq_some_iff.mp H
            obtain ⟨t319, A480, H⟩ := H
            replace H : (if t319 = true then ((spec_LabelOk.f t293).bind fun t320 => (if t320 = true then ((spec_LabelOk.f t294).bind fun t321 => (laws_FnCosts.j1 kj5 t293 t294 t296 (!t321) t284 t287 t290)) else (laws_FnCosts.j1 kj5 t293 t294 t296 true t284 t287 t290))) else (laws_FnCosts.j1 kj5 t293 t294 t296 true t284 t287 t290)) = some r := H
            have A48 := Aside0.mk A480; clear A480
            by_cases c49 : t319 = true
            · subst c49
              have H1 : ((spec_LabelOk.f t293).bind fun t320 => (if t320 = true then ((spec_LabelOk.f t294).bind fun t321 => (laws_FnCosts.j1 kj5 t293 t294 t296 (!t321) t284 t287 t290)) else (laws_FnCosts.j1 kj5 t293 t294 t296 true t284 t287 t290))) = some r := by rw [if_pos rfl] at H; exact H
              clear H; have H := H1; clear H1; replace H := Option.bind_eq_some_iff.mp H
              obtain ⟨t320, A500, H⟩ := H
              replace H : (if t320 = true then ((spec_LabelOk.f t294).bind fun t321 => (laws_FnCosts.j1 kj5 t293 t294 t296 (!t321) t284 t287 t290)) else (laws_FnCosts.j1 kj5 t293 t294 t296 true t284 t287 t290)) = some r := H
              have A50 := Aside0.mk A500; clear A500
              by_cases c51 : t320 = true
              · subst c51
                have H1 : ((spec_LabelOk.f t294).bind fun t321 => (laws_FnCosts.j1 kj5 t293 t294 t296 (!t321) t284 t287 t290)) = some r := by rw [if_pos rfl] at H; exact H
                clear H; have H := H1; clear H1; replace H := Option.bind_eq_some_iff.mp H
                obtain ⟨t321, A520, H⟩ := H
                replace H : (laws_FnCosts.j1 kj5 t293 t294 t296 (!t321) t284 t287 t290) = some r := H
                have A52 := Aside0.mk A520; clear A520; have H' := Aside0.mk H; clear H
                have hcz53_0 : wc.cell? ⟨gb295, 0, none⟩ = some (.slice Ao9 t284.length co9) := (blk_cell BK295.out 0).trans rfl
                have hcz53_1 : wc.cell? ⟨gb295, 1, none⟩ = some (.slice Ao11 t287.length co11) := (blk_cell BK295.out 1).trans rfl
                have hcz53_2 : wc.cell? ⟨gb295, 2, none⟩ = some (.slice Ao12 t290.length co12) := (blk_cell BK295.out 2).trans rfl
                have hfz53_0 := blk_frozen BK295.out 0; have hfz53_1 := blk_frozen BK295.out 1; have hfz53_2 := blk_frozen BK295.out 2
                go_wp2_with (first | ((with_reducible refine gate_callee (f := 50) rfl ?_); refine goesL_ (some 35) rfl rfl Try.func50 (by kernel_rfl) rfl #[.agg #[.slice Ao9 t284.length co9, .slice Ao11 t287.length co11, .slice Ao12 t290.length co12]] rfl (by (try simp only [List.map_toArray, List.map_cons, List.map_nil]); first | done | rfl | (simp only [List.length_drop, List.length_take]; rfl)) ?_; (with_reducible refine (spec_CostOk.calls kj5 _ _ t284 _ _ t287 _ _ t290 true _ ?side1 ?side2 ?side3 ?side4 ?side5 ?side6 A48.out).mono ?_); (case side1 => repeat (first | exact (Kd.R_reads' HO_296000.out).2.2 | (with_reducible refine Kd.C_alloc ?_ _) | (with_reducible refine Kd.C_drewN ?_ _) | (with_reducible refine Kd.C_drew ?_))); (case side2 => exact (Kd.R_reads' HO_296000.out).2.1); (case side3 => repeat (first | exact (Kd.Q_reads' HO_296001.out).2.2 | (with_reducible refine Kd.C_alloc ?_ _) | (with_reducible refine Kd.C_drewN ?_ _) | (with_reducible refine Kd.C_drew ?_))); (case side4 => exact (Kd.Q_reads' HO_296001.out).2.1); (case side5 => repeat (first | exact (Kd.R_reads' HO_296002.out).2.2 | (with_reducible refine Kd.C_alloc ?_ _) | (with_reducible refine Kd.C_drewN ?_ _) | (with_reducible refine Kd.C_drew ?_))); (case side6 => exact (Kd.R_reads' HO_296002.out).2.1); rintro e w54 ⟨rfl, hb⟩; refine ⟨_, rfl, ?_⟩; have n0_ := Aside0.mk (Kd.R_below (by (with_reducible repeat (first | apply Kd.R_alloc | apply Kd.R_drewN | apply Kd.R_drew)); exact HO_296000.out) hb); have n1_ := Aside0.mk (Kd.Q_below (by (with_reducible repeat (first | apply Kd.Q_alloc | apply Kd.Q_drewN | apply Kd.Q_drew)); exact HO_296001.out) hb); have n2_ := Aside0.mk (Kd.R_below (by (with_reducible repeat (first | apply Kd.R_alloc | apply Kd.R_drewN | apply Kd.R_drew)); exact HO_296002.out) hb); have n3_ := Aside0.mk (blk_below (g := gb295) (o := .cells #[.slice Ao9 t284.length co9, .slice Ao11 t287.length co11, .slice Ao12 t290.length co12] 35 (0, 0)) (by (with_reducible repeat (first | refine blk_drewN ?_ _ | refine blk_drew ?_ | refine blk_alloc ?_ _)); exact BK295.out) hb); have n4_ := Aside0.mk (below_step (by repeat (first | (with_reducible first | exact HB.out | apply below_alloc | apply pw_below_drewN | apply below_drew1 | refine below_set ?_ GE295.out) | exact HB.out)) hb); clear HO_296000; clear HO_296001; clear HO_296002; clear BK295; clear HB; have HO_296000 := n0_; have HO_296001 := n1_; have HO_296002 := n2_; have BK295 := n3_; have HB := n4_; clear n0_ n1_ n2_ n3_ n4_; (try clear hb); (try clear hb2); (try clear hk); (try clear hi)) | (go_at_call 52; (with_reducible refine (spec_LabelOk.calls t293 true _ A50.out).mono ?_); rintro e w' ⟨rfl, ⟨nd, rfl⟩⟩) | (go_at_call 52; (with_reducible refine (spec_LabelOk.calls t294 t321 _ A52.out).mono ?_); rintro e w' ⟨rfl, ⟨nd, rfl⟩⟩))
                go_meet
                case rel => exact ⟨_, (!t321), (by first | rfl | (simp; done) | (simp [*]; done)), H', ⟨by have := HJ5.out; first | omega | exact Nat.le_refl _⟩, ⟨by (with_reducible repeat (first | apply Kd.R_alloc | apply Kd.R_drewN | apply Kd.R_drew)); exact HO_296000.out⟩, ⟨by (with_reducible repeat (first | apply Kd.Q_alloc | apply Kd.Q_drewN | apply Kd.Q_drew)); exact HO_296001.out⟩, ⟨by (with_reducible repeat (first | apply Kd.R_alloc | apply Kd.R_drewN | apply Kd.R_drew)); exact HO_296002.out⟩, ⟨by (with_reducible repeat (first | refine blk_drewN ?_ _ | refine blk_drew ?_ | refine blk_alloc ?_ _)); exact BK295.out⟩, ⟨by repeat (first | (with_reducible first | exact HB.out | apply below_alloc | apply pw_below_drewN | apply below_drew1 | refine below_set ?_ GE295.out) | exact HB.out)⟩⟩
              · replace c51 := Bool.eq_false_iff.mpr c51
                subst c51
                have H1 : (laws_FnCosts.j1 kj5 t293 t294 t296 true t284 t287 t290) = some r := by rw [if_neg (show ¬ (false = true) by decide)] at H; exact H
                clear H; have H := H1; clear H1; have H' := Aside0.mk H; clear H
                have hcz55_0 : wc.cell? ⟨gb295, 0, none⟩ = some (.slice Ao9 t284.length co9) := (blk_cell BK295.out 0).trans rfl
                have hcz55_1 : wc.cell? ⟨gb295, 1, none⟩ = some (.slice Ao11 t287.length co11) := (blk_cell BK295.out 1).trans rfl
                have hcz55_2 : wc.cell? ⟨gb295, 2, none⟩ = some (.slice Ao12 t290.length co12) := (blk_cell BK295.out 2).trans rfl
                have hfz55_0 := blk_frozen BK295.out 0; have hfz55_1 := blk_frozen BK295.out 1; have hfz55_2 := blk_frozen BK295.out 2
                go_wp2_with (first | ((with_reducible refine gate_callee (f := 50) rfl ?_); refine goesL_ (some 35) rfl rfl Try.func50 (by kernel_rfl) rfl #[.agg #[.slice Ao9 t284.length co9, .slice Ao11 t287.length co11, .slice Ao12 t290.length co12]] rfl (by (try simp only [List.map_toArray, List.map_cons, List.map_nil]); first | done | rfl | (simp only [List.length_drop, List.length_take]; rfl)) ?_; (with_reducible refine (spec_CostOk.calls kj5 _ _ t284 _ _ t287 _ _ t290 true _ ?side1 ?side2 ?side3 ?side4 ?side5 ?side6 A48.out).mono ?_); (case side1 => repeat (first | exact (Kd.R_reads' HO_296000.out).2.2 | (with_reducible refine Kd.C_alloc ?_ _) | (with_reducible refine Kd.C_drewN ?_ _) | (with_reducible refine Kd.C_drew ?_))); (case side2 => exact (Kd.R_reads' HO_296000.out).2.1); (case side3 => repeat (first | exact (Kd.Q_reads' HO_296001.out).2.2 | (with_reducible refine Kd.C_alloc ?_ _) | (with_reducible refine Kd.C_drewN ?_ _) | (with_reducible refine Kd.C_drew ?_))); (case side4 => exact (Kd.Q_reads' HO_296001.out).2.1); (case side5 => repeat (first | exact (Kd.R_reads' HO_296002.out).2.2 | (with_reducible refine Kd.C_alloc ?_ _) | (with_reducible refine Kd.C_drewN ?_ _) | (with_reducible refine Kd.C_drew ?_))); (case side6 => exact (Kd.R_reads' HO_296002.out).2.1); rintro e w56 ⟨rfl, hb⟩; refine ⟨_, rfl, ?_⟩; have n0_ := Aside0.mk (Kd.R_below (by (with_reducible repeat (first | apply Kd.R_alloc | apply Kd.R_drewN | apply Kd.R_drew)); exact HO_296000.out) hb); have n1_ := Aside0.mk (Kd.Q_below (by (with_reducible repeat (first | apply Kd.Q_alloc | apply Kd.Q_drewN | apply Kd.Q_drew)); exact HO_296001.out) hb); have n2_ := Aside0.mk (Kd.R_below (by (with_reducible repeat (first | apply Kd.R_alloc | apply Kd.R_drewN | apply Kd.R_drew)); exact HO_296002.out) hb); have n3_ := Aside0.mk (blk_below (g := gb295) (o := .cells #[.slice Ao9 t284.length co9, .slice Ao11 t287.length co11, .slice Ao12 t290.length co12] 35 (0, 0)) (by (with_reducible repeat (first | refine blk_drewN ?_ _ | refine blk_drew ?_ | refine blk_alloc ?_ _)); exact BK295.out) hb); have n4_ := Aside0.mk (below_step (by repeat (first | (with_reducible first | exact HB.out | apply below_alloc | apply pw_below_drewN | apply below_drew1 | refine below_set ?_ GE295.out) | exact HB.out)) hb); clear HO_296000; clear HO_296001; clear HO_296002; clear BK295; clear HB; have HO_296000 := n0_; have HO_296001 := n1_; have HO_296002 := n2_; have BK295 := n3_; have HB := n4_; clear n0_ n1_ n2_ n3_ n4_; (try clear hb); (try clear hb2); (try clear hk); (try clear hi)) | (go_at_call 52; (with_reducible refine (spec_LabelOk.calls t293 false _ A50.out).mono ?_); rintro e w' ⟨rfl, ⟨nd, rfl⟩⟩))
                go_meet
                case rel => exact ⟨_, (true), (by first | rfl | (simp; done) | (simp [*]; done)), H', ⟨by have := HJ5.out; first | omega | exact Nat.le_refl _⟩, ⟨by (with_reducible repeat (first | apply Kd.R_alloc | apply Kd.R_drewN | apply Kd.R_drew)); exact HO_296000.out⟩, ⟨by (with_reducible repeat (first | apply Kd.Q_alloc | apply Kd.Q_drewN | apply Kd.Q_drew)); exact HO_296001.out⟩, ⟨by (with_reducible repeat (first | apply Kd.R_alloc | apply Kd.R_drewN | apply Kd.R_drew)); exact HO_296002.out⟩, ⟨by (with_reducible repeat (first | refine blk_drewN ?_ _ | refine blk_drew ?_ | refine blk_alloc ?_ _)); exact BK295.out⟩, ⟨by repeat (first | (with_reducible first | exact HB.out | apply below_alloc | apply pw_below_drewN | apply below_drew1 | refine below_set ?_ GE295.out) | exact HB.out)⟩⟩
            · replace c49 := Bool.eq_false_iff.mpr c49
              subst c49
              have H1 : (laws_FnCosts.j1 kj5 t293 t294 t296 true t284 t287 t290) = some r := by rw [if_neg (show ¬ (false = true) by decide)] at H; exact H
              clear H; have H := H1; clear H1; have H' := Aside0.mk H; clear H
              have hcz57_0 : wc.cell? ⟨gb295, 0, none⟩ = some (.slice Ao9 t284.length co9) := (blk_cell BK295.out 0).trans rfl
              have hcz57_1 : wc.cell? ⟨gb295, 1, none⟩ = some (.slice Ao11 t287.length co11) := (blk_cell BK295.out 1).trans rfl
              have hcz57_2 : wc.cell? ⟨gb295, 2, none⟩ = some (.slice Ao12 t290.length co12) := (blk_cell BK295.out 2).trans rfl
              have hfz57_0 := blk_frozen BK295.out 0; have hfz57_1 := blk_frozen BK295.out 1; have hfz57_2 := blk_frozen BK295.out 2
              go_wp2_with (first | ((with_reducible refine gate_callee (f := 50) rfl ?_); refine goesL_ (some 35) rfl rfl Try.func50 (by kernel_rfl) rfl #[.agg #[.slice Ao9 t284.length co9, .slice Ao11 t287.length co11, .slice Ao12 t290.length co12]] rfl (by (try simp only [List.map_toArray, List.map_cons, List.map_nil]); first | done | rfl | (simp only [List.length_drop, List.length_take]; rfl)) ?_; (with_reducible refine (spec_CostOk.calls kj5 _ _ t284 _ _ t287 _ _ t290 false _ ?side1 ?side2 ?side3 ?side4 ?side5 ?side6 A48.out).mono ?_); (case side1 => repeat (first | exact (Kd.R_reads' HO_296000.out).2.2 | (with_reducible refine Kd.C_alloc ?_ _) | (with_reducible refine Kd.C_drewN ?_ _) | (with_reducible refine Kd.C_drew ?_))); (case side2 => exact (Kd.R_reads' HO_296000.out).2.1); (case side3 => repeat (first | exact (Kd.Q_reads' HO_296001.out).2.2 | (with_reducible refine Kd.C_alloc ?_ _) | (with_reducible refine Kd.C_drewN ?_ _) | (with_reducible refine Kd.C_drew ?_))); (case side4 => exact (Kd.Q_reads' HO_296001.out).2.1); (case side5 => repeat (first | exact (Kd.R_reads' HO_296002.out).2.2 | (with_reducible refine Kd.C_alloc ?_ _) | (with_reducible refine Kd.C_drewN ?_ _) | (with_reducible refine Kd.C_drew ?_))); (case side6 => exact (Kd.R_reads' HO_296002.out).2.1); rintro e w58 ⟨rfl, hb⟩; refine ⟨_, rfl, ?_⟩; have n0_ := Aside0.mk (Kd.R_below (by (with_reducible repeat (first | apply Kd.R_alloc | apply Kd.R_drewN | apply Kd.R_drew)); exact HO_296000.out) hb); have n1_ := Aside0.mk (Kd.Q_below (by (with_reducible repeat (first | apply Kd.Q_alloc | apply Kd.Q_drewN | apply Kd.Q_drew)); exact HO_296001.out) hb); have n2_ := Aside0.mk (Kd.R_below (by (with_reducible repeat (first | apply Kd.R_alloc | apply Kd.R_drewN | apply Kd.R_drew)); exact HO_296002.out) hb); have n3_ := Aside0.mk (blk_below (g := gb295) (o := .cells #[.slice Ao9 t284.length co9, .slice Ao11 t287.length co11, .slice Ao12 t290.length co12] 35 (0, 0)) (by (with_reducible repeat (first | refine blk_drewN ?_ _ | refine blk_drew ?_ | refine blk_alloc ?_ _)); exact BK295.out) hb); have n4_ := Aside0.mk (below_step (by repeat (first | (with_reducible first | exact HB.out | apply below_alloc | apply pw_below_drewN | apply below_drew1 | refine below_set ?_ GE295.out) | exact HB.out)) hb); clear HO_296000; clear HO_296001; clear HO_296002; clear BK295; clear HB; have HO_296000 := n0_; have HO_296001 := n1_; have HO_296002 := n2_; have BK295 := n3_; have HB := n4_; clear n0_ n1_ n2_ n3_ n4_; (try clear hb); (try clear hb2); (try clear hk); (try clear hi)))
              go_meet
              case rel => exact ⟨_, (true), (by first | rfl | (simp; done) | (simp [*]; done)), H', ⟨by have := HJ5.out; first | omega | exact Nat.le_refl _⟩, ⟨by (with_reducible repeat (first | apply Kd.R_alloc | apply Kd.R_drewN | apply Kd.R_drew)); exact HO_296000.out⟩, ⟨by (with_reducible repeat (first | apply Kd.Q_alloc | apply Kd.Q_drewN | apply Kd.Q_drew)); exact HO_296001.out⟩, ⟨by (with_reducible repeat (first | apply Kd.R_alloc | apply Kd.R_drewN | apply Kd.R_drew)); exact HO_296002.out⟩, ⟨by (with_reducible repeat (first | refine blk_drewN ?_ _ | refine blk_drew ?_ | refine blk_alloc ?_ _)); exact BK295.out⟩, ⟨by repeat (first | (with_reducible first | exact HB.out | apply below_alloc | apply pw_below_drewN | apply below_drew1 | refine below_set ?_ GE295.out) | exact HB.out)⟩⟩
          case rest =>
            clear HC47
            try clear c2
            try clear p2
            try clear c3
            try clear c4
            try clear c5
            try clear c22
            try clear c30
            try clear c46
            try clear c49
            try clear c50
            try clear c51
            try clear hcz53_0
            try clear hcz53_1
            try clear hcz53_2
            try clear hcz55_0
            try clear hcz55_1
            try clear hcz55_2
            try clear hcz57_0
            try clear hcz57_1
            try clear hcz57_2
            try clear hfz53_0
            try clear hfz53_1
            try clear hfz53_2
            try clear hfz55_0
            try clear hfz55_1
            try clear hfz55_2
            try clear hfz57_0
            try clear hfz57_1
            try clear hfz57_2
            try clear p2
            obtain ⟨kq, x46_46, rfl, HA, HJ46, HO_296000, HO_296001, HO_296002, BK295, HB⟩ := hcut
            cases kq with
            | zero => exact absurd HA.out (by simp [laws_FnCosts.j1])
            | succ kj46 =>
              have H := HA.out; clear HA
              simp only [laws_FnCosts.j1] at H
              by_cases c59 : x46_46 = true
              · subst c59
                have H1 : (if t296 = 0 then ((spec_LabelOk.f t293).bind fun t322 => (if t322 = true then (some true) else ((impl_DelCost.f kj46 t284 t287 t290 t293).bind fun t323 => (some (t323 == 0))))) else (some false)) = some r := by rw [if_pos rfl] at H; exact H
                clear H; have H := H1; clear H1
                by_cases c60 : t296 = 0
                · rw [if_pos c60] at H
                  have c60b0 : (t296 == 0) = true := beq_iff_eq.mpr c60
                  have c60b1 : (t296 != 0) = false := bne_eq_false_iff_eq.mpr c60
                  clear c60; replace H := Option.bind_eq_some_iff.mp H
                  obtain ⟨t322, A610, H⟩ := H
                  replace H : (if t322 = true then (some true) else ((impl_DelCost.f kj46 t284 t287 t290 t293).bind fun t323 => (some (t323 == 0)))) = some r := H
                  have A61 := Aside0.mk A610; clear A610
                  by_cases c62 : t322 = true
                  · subst c62
                    have H1 : (some true) = some r := by rw [if_pos rfl] at H; exact H
                    clear H; have H := H1; clear H1
                    obtain rfl := Option.some.inj H
                    simp only [Option.some.injEq, Prod.mk.injEq] at H
                    obtain ⟨rfl⟩ := H
                    go_wp2_with (first | (go_at_call 52; (with_reducible refine (spec_LabelOk.calls t293 true _ A61.out).mono ?_); rintro e w' ⟨rfl, ⟨nd, rfl⟩⟩))
                    go_ret
                    exact ⟨by first | rfl | (simp [errW_none, errW_some] <;> rfl) | (simp [*, errW_none, errW_some] <;> rfl), by repeat (first | (with_reducible first | exact HB.out | apply below_alloc | apply pw_below_drewN | apply below_drew1 | refine below_set ?_ GE295.out) | exact HB.out)⟩
                  · replace c62 := Bool.eq_false_iff.mpr c62
                    subst c62
                    have H1 : ((impl_DelCost.f kj46 t284 t287 t290 t293).bind fun t323 => (some (t323 == 0))) = some r := by rw [if_neg (show ¬ (false = true) by decide)] at H; exact H
                    clear H; have H := H1; clear H1; replace H := Option.bind_eq_some_iff.mp H
                    obtain ⟨t323, A630, H⟩ := H
                    replace H : (some (t323 == 0)) = some r := H
                    have A63 := Aside0.mk A630; clear A630
                    obtain rfl := Option.some.inj H
                    simp only [Option.some.injEq, Prod.mk.injEq] at H
                    obtain ⟨rfl⟩ := H
                    go_wp2_with (first | (go_at_call 52; (with_reducible refine (spec_LabelOk.calls t293 false _ A61.out).mono ?_); rintro e w' ⟨rfl, ⟨nd, rfl⟩⟩; have hcz64_0 : wc.cell? ⟨gb295, 0, none⟩ = some (.slice Ao9 t284.length co9) := (blk_cell BK295.out 0).trans rfl; have hcz64_1 : wc.cell? ⟨gb295, 1, none⟩ = some (.slice Ao11 t287.length co11) := (blk_cell BK295.out 1).trans rfl; have hcz64_2 : wc.cell? ⟨gb295, 2, none⟩ = some (.slice Ao12 t290.length co12) := (blk_cell BK295.out 2).trans rfl; have hfz64_0 := blk_frozen BK295.out 0; have hfz64_1 := blk_frozen BK295.out 1; have hfz64_2 := blk_frozen BK295.out 2) | (go_at_call 25; (with_reducible refine (impl_DelCost.calls kj46 _ _ t284 _ _ t287 _ _ t290 t293 t323 _ ?side1 ?side2 ?side3 ?side4 ?side5 ?side6 A63.out).mono ?_); (case side1 => repeat (first | exact (Kd.R_reads' HO_296000.out).2.2 | (with_reducible refine Kd.C_alloc ?_ _) | (with_reducible refine Kd.C_drewN ?_ _) | (with_reducible refine Kd.C_drew ?_))); (case side2 => exact (Kd.R_reads' HO_296000.out).2.1); (case side3 => repeat (first | exact (Kd.Q_reads' HO_296001.out).2.2 | (with_reducible refine Kd.C_alloc ?_ _) | (with_reducible refine Kd.C_drewN ?_ _) | (with_reducible refine Kd.C_drew ?_))); (case side4 => exact (Kd.Q_reads' HO_296001.out).2.1); (case side5 => repeat (first | exact (Kd.R_reads' HO_296002.out).2.2 | (with_reducible refine Kd.C_alloc ?_ _) | (with_reducible refine Kd.C_drewN ?_ _) | (with_reducible refine Kd.C_drew ?_))); (case side6 => exact (Kd.R_reads' HO_296002.out).2.1); rintro e w65 ⟨rfl, hb⟩; have n0_ := Aside0.mk (Kd.R_below (by (with_reducible repeat (first | apply Kd.R_alloc | apply Kd.R_drewN | apply Kd.R_drew)); exact HO_296000.out) hb); have n1_ := Aside0.mk (Kd.Q_below (by (with_reducible repeat (first | apply Kd.Q_alloc | apply Kd.Q_drewN | apply Kd.Q_drew)); exact HO_296001.out) hb); have n2_ := Aside0.mk (Kd.R_below (by (with_reducible repeat (first | apply Kd.R_alloc | apply Kd.R_drewN | apply Kd.R_drew)); exact HO_296002.out) hb); have n3_ := Aside0.mk (blk_below (g := gb295) (o := .cells #[.slice Ao9 t284.length co9, .slice Ao11 t287.length co11, .slice Ao12 t290.length co12] 35 (0, 0)) (by (with_reducible repeat (first | refine blk_drewN ?_ _ | refine blk_drew ?_ | refine blk_alloc ?_ _)); exact BK295.out) hb); have n4_ := Aside0.mk (below_step (by repeat (first | (with_reducible first | exact HB.out | apply below_alloc | apply pw_below_drewN | apply below_drew1 | refine below_set ?_ GE295.out) | exact HB.out)) hb); clear HO_296000; clear HO_296001; clear HO_296002; clear BK295; clear HB; have HO_296000 := n0_; have HO_296001 := n1_; have HO_296002 := n2_; have BK295 := n3_; have HB := n4_; clear n0_ n1_ n2_ n3_ n4_; (try clear hb); (try clear hb2); (try clear hk); (try clear hi)))
                    go_ret
                    exact ⟨by first | rfl | (simp [errW_none, errW_some] <;> rfl) | (simp [*, errW_none, errW_some] <;> rfl), by repeat (first | (with_reducible first | exact HB.out | apply below_alloc | apply pw_below_drewN | apply below_drew1 | refine below_set ?_ GE295.out) | exact HB.out)⟩
                · rw [if_neg c60] at H
                  have c60b0 : (t296 == 0) = false := beq_eq_false_iff_ne.mpr c60
                  have c60b1 : (t296 != 0) = true := bne_iff_ne.mpr c60
                  obtain rfl := Option.some.inj H
                  exact absurd hq.out (by decide)
              · replace c59 := Bool.eq_false_iff.mpr c59
                subst c59
                have H1 : (if 0 ≤ (wrap64 ((wrap64 (t293 * 6)) + t294)) then (if (wrap64 ((wrap64 (t293 * 6)) + t294)) < (t290.length : Int) then (if t296 = (rd t290 (wrap64 ((wrap64 (t293 * 6)) + t294))) then ((impl_DelCost.f kj46 t284 t287 t290 t293).bind fun t325 => (if 0 ≤ t293 then (if t293 < (t284.length : Int) then (if t325 = (rd t284 t293) then ((impl_InsCost.f kj46 t284 t287 t290 t294).bind fun t327 => (if 0 ≤ t294 then (if t294 < (t287.length : Int) then (if t327 = (rd t287 t294) then ((impl_RelCost.f kj46 t284 t287 t290 t293 t293).bind fun t329 => (some (t329 == 0))) else (some false)) else (none)) else (none))) else (some false)) else (none)) else (none))) else (some false)) else (none)) else (none)) = some r := by rw [if_neg (show ¬ (false = true) by decide)] at H; exact H
                clear H; have H := H1; clear H1
                obtain ⟨ji66, hji66⟩ : ∃ j_ : Int, (wrap64 ((wrap64 (t293 * 6)) + t294)) = j_ := ⟨_, rfl⟩
                replace H : (if 0 ≤ (ji66) then (if (ji66) < (t290.length : Int) then (if t296 = (rd t290 (ji66)) then ((impl_DelCost.f kj46 t284 t287 t290 t293).bind fun t325 => (if 0 ≤ t293 then (if t293 < (t284.length : Int) then (if t325 = (rd t284 t293) then ((impl_InsCost.f kj46 t284 t287 t290 t294).bind fun t327 => (if 0 ≤ t294 then (if t294 < (t287.length : Int) then (if t327 = (rd t287 t294) then ((impl_RelCost.f kj46 t284 t287 t290 t293 t293).bind fun t329 => (some (t329 == 0))) else (some false)) else (none)) else (none))) else (some false)) else (none)) else (none))) else (some false)) else (none)) else (none)) = some r := by first | (rw [hji66] at H; exact H) | (simp only [hji66] at H ⊢; exact H)
                have hji66w : (IntKind.i64.wrap ((wrap64 (t293 * 6)) + t294)) = ji66 := (i64_w _).trans hji66
                by_cases c67 : 0 ≤ (ji66)
                · rw [if_pos c67] at H
                  have c67b0 : decide (0 ≤ (ji66)) = true := decide_eq_true c67
                  clear c67
                  by_cases c68 : (ji66) < (t290.length : Int)
                  · rw [if_pos c68] at H
                    have c68b0 : decide ((ji66) < (t290.length : Int)) = true := decide_eq_true c68
                    clear c68
                    by_cases c69 : t296 = (rd t290 (ji66))
                    · rw [if_pos c69] at H
                      have c69b0 : (t296 == (rd t290 (ji66))) = true := beq_iff_eq.mpr c69
                      have c69b1 : (t296 != (rd t290 (ji66))) = false := bne_eq_false_iff_eq.mpr c69
                      clear c69; replace H := Option.bind_eq_some_iff.mp H
                      obtain ⟨t325, A700, H⟩ := H
                      replace H : (if 0 ≤ t293 then (if t293 < (t284.length : Int) then (if t325 = (rd t284 t293) then ((impl_InsCost.f kj46 t284 t287 t290 t294).bind fun t327 => (if 0 ≤ t294 then (if t294 < (t287.length : Int) then (if t327 = (rd t287 t294) then ((impl_RelCost.f kj46 t284 t287 t290 t293 t293).bind fun t329 => (some (t329 == 0))) else (some false)) else (none)) else (none))) else (some false)) else (none)) else (none)) = some r := H
                      have A70 := Aside0.mk A700; clear A700
                      by_cases c71 : 0 ≤ t293
                      · rw [if_pos c71] at H
                        have c71b0 : decide (0 ≤ t293) = true := decide_eq_true c71
                        clear c71
                        by_cases c72 : t293 < (t284.length : Int)
                        · rw [if_pos c72] at H
                          have c72b0 : decide (t293 < (t284.length : Int)) = true := decide_eq_true c72
                          clear c72
                          by_cases c73 : t325 = (rd t284 t293)
                          · rw [if_pos c73] at H
                            have c73b0 : (t325 == (rd t284 t293)) = true := beq_iff_eq.mpr c73
                            have c73b1 : (t325 != (rd t284 t293)) = false := bne_eq_false_iff_eq.mpr c73
                            clear c73; replace H := Option.bind_eq_some_iff.mp H
                            obtain ⟨t327, A740, H⟩ := H
                            replace H : (if 0 ≤ t294 then (if t294 < (t287.length : Int) then (if t327 = (rd t287 t294) then ((impl_RelCost.f kj46 t284 t287 t290 t293 t293).bind fun t329 => (some (t329 == 0))) else (some false)) else (none)) else (none)) = some r := H
                            have A74 := Aside0.mk A740; clear A740
                            by_cases c75 : 0 ≤ t294
                            · rw [if_pos c75] at H
                              have c75b0 : decide (0 ≤ t294) = true := decide_eq_true c75
                              clear c75
                              by_cases c76 : t294 < (t287.length : Int)
                              · rw [if_pos c76] at H
                                have c76b0 : decide (t294 < (t287.length : Int)) = true := decide_eq_true c76
                                clear c76
                                by_cases c77 : t327 = (rd t287 t294)
                                · rw [if_pos c77] at H
                                  have c77b0 : (t327 == (rd t287 t294)) = true := beq_iff_eq.mpr c77
                                  have c77b1 : (t327 != (rd t287 t294)) = false := bne_eq_false_iff_eq.mpr c77
                                  clear c77; replace H := Option.bind_eq_some_iff.mp H
                                  obtain ⟨t329, A780, H⟩ := H
                                  replace H : (some (t329 == 0)) = some r := H
                                  have A78 := Aside0.mk A780; clear A780
                                  obtain rfl := Option.some.inj H
                                  simp only [Option.some.injEq, Prod.mk.injEq] at H
                                  obtain ⟨rfl⟩ := H
                                  try go_wp2
                                  have n0_ := Aside0.mk (Kd.R_drew HO_296000.out); have n1_ := Aside0.mk (Kd.Q_drew HO_296001.out); have n2_ := Aside0.mk (Kd.R_drew HO_296002.out); have n3_ := Aside0.mk (blk_drew BK295.out); have n4_ := Aside0.mk (below_drew1 HB.out); clear HO_296000; clear HO_296001; clear HO_296002; clear BK295; clear HB; have HO_296000 := n0_; have HO_296001 := n1_; have HO_296002 := n2_; have BK295 := n3_; have HB := n4_; clear n0_ n1_ n2_ n3_ n4_
                                  have p324 : 0 ≤ ((ji66) : Int) := of_decide_eq_true (by first | (with_reducible assumption) | assumption)
                                  have q324 : (ji66) < (t290.length : Int) := of_decide_eq_true (by first | (with_reducible assumption) | assumption)
                                  obtain ⟨ad324, e324, hx324_0⟩ := Kd.at_int (Kd.R_reads' HO_296002.out).2.2 (ji66) p324 q324
                                  cases e324; replace p324 := eq_true p324; replace q324 := eq_true q324
                                  have p326 : 0 ≤ (t293 : Int) := of_decide_eq_true (by first | (with_reducible assumption) | assumption)
                                  have q326 : t293 < (t284.length : Int) := of_decide_eq_true (by first | (with_reducible assumption) | assumption)
                                  obtain ⟨ad326, e326, hx326_0⟩ := Kd.at_int (Kd.R_reads' HO_296000.out).2.2 t293 p326 q326
                                  cases e326; replace p326 := eq_true p326; replace q326 := eq_true q326
                                  have p328 : 0 ≤ (t294 : Int) := of_decide_eq_true (by first | (with_reducible assumption) | assumption)
                                  have q328 : t294 < (t287.length : Int) := of_decide_eq_true (by first | (with_reducible assumption) | assumption)
                                  obtain ⟨ad328, e328, hx328_0⟩ := Kd.at_int (Kd.Q_reads' HO_296001.out).2.2 t294 p328 q328
                                  cases e328; replace p328 := eq_true p328; replace q328 := eq_true q328
                                  refine start_ (n := 40) (S := fun w' => w'.cell? ⟨gb295, 0, none⟩ = some (.slice (some ad326) t284.length co9) ∧ w'.cell? ⟨gb295, 1, none⟩ = some (.slice (some ad328) t287.length co11) ∧ w'.cell? ⟨gb295, 2, none⟩ = some (.slice (some ad324) t290.length co12) ∧ w'.cell? (ad324.add ((ji66)).toNat) = some (.int .i64 (rd t290 (ji66))) ∧ w'.cell? (ad326.add (t293).toNat) = some (.int .i64 (rd t284 t293)) ∧ w'.cell? (ad328.add (t294).toNat) = some (.int .i64 (rd t287 t294))) (ds := []) bs7_16 (by kernel_rfl) rfl rfl ⟨(blk_cell BK295.out 0).trans rfl, (blk_cell BK295.out 1).trans rfl, (blk_cell BK295.out 2).trans rfl, hx324_0, hx326_0, hx328_0⟩ (fun hHeld => ?_); refine with_tabW laws_FnCosts.tab9 laws_FnCosts.bits9 (fun HT_ HW_ => ?_)
                                  generalize wc.drew = w79 at HO_296000 HO_296001 HO_296002 BK295 HB hx324_0 hx326_0 hx328_0 hHeld ⊢
                                  refine pure_ (i := 0) (N := some 59) (v := ?_) (a' := ?_) bs7_17 rfl rfl (any_of HT_.out (by kernel_rfl)) (fun _ _ _ h => h) (Or.inl ⟨by rfl, ?_⟩) ?_ ?_; rotate_left; (intro w'; go_simp; with_reducible rfl); rotate_left; (simp only [Act.put, s1_, s2_, s3_, i64_w, i32_w]; rfl)
                                  refine pure_ (i := 1) (N := some 60) (v := ?_) (a' := ?_) bs7_18 rfl rfl (any_of HT_.out (by kernel_rfl)) (fun _ _ _ h => h) (Or.inl ⟨by rfl, ?_⟩) ?_ ?_; rotate_left; (intro w'; go_simp; with_reducible rfl); rotate_left; (simp only [Act.put, s1_, s2_, s3_, i64_w, i32_w]; rfl)
                                  refine pure_ (i := 3) (N := some 62) (v := ?_) (a' := ?_) bs7_19 rfl rfl (any_of HT_.out (by kernel_rfl)) (fun _ _ _ h => h) (Or.inl ⟨by rfl, ?_⟩) ?_ ?_; rotate_left; (intro w'; go_simp; with_reducible rfl); rotate_left; (simp only [Act.put, s1_, s2_, s3_, i64_w, i32_w]; rfl)
                                  refine pure_ (i := 4) (N := some 63) (v := ?_) (a' := ?_) bs7_20 rfl rfl (any_of HT_.out (by kernel_rfl)) (fun _ _ _ h => h) (Or.inl ⟨by rfl, ?_⟩) ?_ ?_; rotate_left; (intro w'; go_simp; with_reducible rfl); rotate_left; (simp only [Act.put, s1_, s2_, s3_, i64_w, i32_w]; rfl)
                                  refine pure_ (i := 5) (N := some 64) (v := ?_) (a' := ?_) bs7_21 rfl rfl (any_of HT_.out (by kernel_rfl)) (fun _ _ _ h => h) (Or.inl ⟨by rfl, ?_⟩) ?_ ?_; rotate_left; (intro w'; go_simp; with_reducible rfl); rotate_left; (simp only [Act.put, s1_, s2_, s3_, i64_w, i32_w]; rfl)
                                  refine pure_ (i := 6) (N := some 65) (v := ?_) (a' := ?_) bs7_22 rfl rfl (any_of HT_.out (by kernel_rfl)) (fun _ _ _ h => h) (Or.inl ⟨by rfl, ?_⟩) ?_ ?_; rotate_left; (intro w'; go_simp; with_reducible rfl); rotate_left; (simp only [Act.put, s1_, s2_, s3_, i64_w, i32_w]; rfl)
                                  refine take_ (i := 2) (N := some 61) (v := ?_) (a' := ?_) bs7_23 rfl rfl (take_ofW HT_.out HW_.out (by kernel_rfl)) (fun _ _ _ h => h) (Or.inl ⟨by rfl, ?_⟩) hHeld ?_ ?_; rotate_left; (rintro w' ⟨s0, s1, s2, s3, s4, s5⟩; go_simp; with_reducible rfl); rotate_left; (simp only [Act.put, s1_, s2_, s3_, i64_w, i32_w]; rfl)
                                  refine pure_ (i := 7) (N := some 66) (v := ?_) (a' := ?_) bs7_24 rfl rfl (any_of HT_.out (by kernel_rfl)) (fun _ _ _ h => h) (Or.inl ⟨by rfl, ?_⟩) ?_ ?_; rotate_left; (intro w'; go_simp; with_reducible rfl); rotate_left; (simp only [Act.put, s1_, s2_, s3_, i64_w, i32_w]; rfl)
                                  refine take_ (i := 8) (N := some 67) (v := ?_) (a' := ?_) bs7_25 rfl rfl (take_ofW HT_.out HW_.out (by kernel_rfl)) (fun _ _ _ h => h) (Or.inl ⟨by rfl, ?_⟩) hHeld ?_ ?_; rotate_left; (rintro w' ⟨s0, s1, s2, s3, s4, s5⟩; go_simp; with_reducible rfl); rotate_left; (simp only [Act.put, s1_, s2_, s3_, i64_w, i32_w]; rfl)
                                  refine pure_ (i := 9) (N := some 68) (v := ?_) (a' := ?_) bs7_26 rfl rfl (any_of HT_.out (by kernel_rfl)) (fun _ _ _ h => h) (Or.inl ⟨by rfl, ?_⟩) ?_ ?_; rotate_left; (intro w'; go_simp; with_reducible rfl); rotate_left; (simp only [Act.put, s1_, s2_, s3_, i64_w, i32_w]; rfl)
                                  refine pure_ (i := 10) (N := some 69) (v := ?_) (a' := ?_) bs7_27 rfl rfl (any_of HT_.out (by kernel_rfl)) (fun _ _ _ h => h) (Or.inl ⟨by rfl, ?_⟩) ?_ ?_; rotate_left; (intro w'; go_simp; with_reducible rfl); rotate_left; (simp only [Act.put, s1_, s2_, s3_, i64_w, i32_w]; rfl)
                                  refine pure_ (i := 12) (N := some 71) (v := ?_) (a' := ?_) bs7_28 rfl rfl (any_of HT_.out (by kernel_rfl)) (fun _ _ _ h => h) (Or.inl ⟨by rfl, ?_⟩) ?_ ?_; rotate_left; (intro w'; go_simp; with_reducible rfl); rotate_left; (simp only [Act.put, s1_, s2_, s3_, i64_w, i32_w]; rfl)
                                  refine pure_ (i := 14) (N := some 73) (v := ?_) (a' := ?_) bs7_29 rfl rfl (any_of HT_.out (by kernel_rfl)) (fun _ _ _ h => h) (Or.inl ⟨by rfl, ?_⟩) ?_ ?_; rotate_left; (intro w'; go_simp; with_reducible rfl); rotate_left; (simp only [Act.put, s1_, s2_, s3_, i64_w, i32_w]; rfl)
                                  refine pure_ (i := 16) (N := some 75) (v := ?_) (a' := ?_) bs7_30 rfl rfl (any_of HT_.out (by kernel_rfl)) (fun _ _ _ h => h) (Or.inl ⟨by rfl, ?_⟩) ?_ ?_; rotate_left; (intro w'; go_simp; with_reducible rfl); rotate_left; (simp only [Act.put, s1_, s2_, s3_, i64_w, i32_w]; rfl)
                                  refine take_ (i := 11) (N := some 70) (v := ?_) (a' := ?_) bs7_31 rfl rfl (take_ofW HT_.out HW_.out (by kernel_rfl)) (fun _ _ _ h => h) (Or.inl ⟨by rfl, ?_⟩) hHeld ?_ ?_; rotate_left; (rintro w' ⟨s0, s1, s2, s3, s4, s5⟩; go_simp; with_reducible rfl); rotate_left; (simp only [Act.put, s1_, s2_, s3_, i64_w, i32_w]; rfl)
                                  refine take_ (i := 15) (N := some 74) (v := ?_) (a' := ?_) bs7_32 rfl rfl (take_ofW HT_.out HW_.out (by kernel_rfl)) (fun _ _ _ h => h) (Or.inl ⟨by rfl, ?_⟩) hHeld ?_ ?_; rotate_left; (rintro w' ⟨s0, s1, s2, s3, s4, s5⟩; go_simp; with_reducible rfl); rotate_left; (simp only [Act.put, s1_, s2_, s3_, i64_w, i32_w]; rfl)
                                  refine pure_ (i := 17) (N := some 76) (v := ?_) (a' := ?_) bs7_33 rfl rfl (any_of HT_.out (by kernel_rfl)) (fun _ _ _ h => h) (Or.inl ⟨by rfl, ?_⟩) ?_ ?_; rotate_left; (intro w'; go_simp; with_reducible rfl); rotate_left; (simp only [Act.put, s1_, s2_, s3_, i64_w, i32_w]; rfl)
                                  refine take_ (i := 18) (N := some 77) (v := ?_) (a' := ?_) bs7_34 rfl rfl (take_ofW HT_.out HW_.out (by kernel_rfl)) (fun _ _ _ h => h) (Or.inl ⟨by rfl, ?_⟩) hHeld ?_ ?_; rotate_left; (rintro w' ⟨s0, s1, s2, s3, s4, s5⟩; go_simp; with_reducible rfl); rotate_left; (simp only [Act.put, s1_, s2_, s3_, i64_w, i32_w]; rfl)
                                  refine one_ (i := 13) (N := some 72) bs7_35 rfl rfl (one_of HT_.out (by kernel_rfl)) (by decide) (fun K hK => ?_)
                                  refine goes_ Try.func25 (by kernel_rfl) rfl #[.agg #[.slice (some ad326) t284.length co9, .slice (some ad328) t287.length co11, .slice (some ad324) t290.length co12], .int .i64 t293] (by rfl) rfl rfl (by (try simp only [List.map_toArray, List.map_cons, List.map_nil]); first | done | rfl | (simp only [List.length_drop, List.length_take]; rfl)) ?_
                                  with_reducible refine (impl_DelCost.calls kj46 _ _ t284 _ _ t287 _ _ t290 t293 t325 _ ?side1 ?side2 ?side3 ?side4 ?side5 ?side6 A70.out).mono ?_
                                  (case side1 => repeat (first | exact (Kd.R_reads' HO_296000.out).2.2 | (with_reducible refine Kd.C_alloc ?_ _) | (with_reducible refine Kd.C_drewN ?_ _) | (with_reducible refine Kd.C_drew ?_)))
                                  (case side2 => exact (Kd.R_reads' HO_296000.out).2.1)
                                  (case side3 => repeat (first | exact (Kd.Q_reads' HO_296001.out).2.2 | (with_reducible refine Kd.C_alloc ?_ _) | (with_reducible refine Kd.C_drewN ?_ _) | (with_reducible refine Kd.C_drew ?_)))
                                  (case side4 => exact (Kd.Q_reads' HO_296001.out).2.1)
                                  (case side5 => repeat (first | exact (Kd.R_reads' HO_296002.out).2.2 | (with_reducible refine Kd.C_alloc ?_ _) | (with_reducible refine Kd.C_drewN ?_ _) | (with_reducible refine Kd.C_drew ?_)))
                                  (case side6 => exact (Kd.R_reads' HO_296002.out).2.1)
                                  rintro e w80 ⟨rfl, hb⟩
                                  have HS3_ := (hb.cell (World.block_lt_of_cell? _ _ (hHeld.2.2.2.1))).trans (hHeld.2.2.2.1); have HS4_ := (hb.cell (World.block_lt_of_cell? _ _ (hHeld.2.2.2.2.1))).trans (hHeld.2.2.2.2.1); have HS5_ := (hb.cell (World.block_lt_of_cell? _ _ (hHeld.2.2.2.2.2))).trans (hHeld.2.2.2.2.2)
                                  refine ⟨_, rfl, ?_⟩
                                  have n0_ := Aside0.mk (Kd.R_below (by (with_reducible repeat (first | apply Kd.R_alloc | apply Kd.R_drewN | apply Kd.R_drew)); exact HO_296000.out) hb)
                                  have n1_ := Aside0.mk (Kd.Q_below (by (with_reducible repeat (first | apply Kd.Q_alloc | apply Kd.Q_drewN | apply Kd.Q_drew)); exact HO_296001.out) hb)
                                  have n2_ := Aside0.mk (Kd.R_below (by (with_reducible repeat (first | apply Kd.R_alloc | apply Kd.R_drewN | apply Kd.R_drew)); exact HO_296002.out) hb)
                                  have n3_ := Aside0.mk (blk_below (g := gb295) (o := .cells #[.slice (some ad326) t284.length co9, .slice (some ad328) t287.length co11, .slice (some ad324) t290.length co12] 35 (0, 0)) (by (with_reducible repeat (first | refine blk_drewN ?_ _ | refine blk_drew ?_ | refine blk_alloc ?_ _)); exact BK295.out) hb)
                                  have n4_ := Aside0.mk (below_step (by repeat (first | (with_reducible first | exact HB.out | apply below_alloc | apply pw_below_drewN | apply below_drew1 | refine below_set ?_ GE295.out) | exact HB.out)) hb)
                                  clear HO_296000; clear HO_296001; clear HO_296002; clear BK295; clear HB; have HO_296000 := n0_; have HO_296001 := n1_; have HO_296002 := n2_; have BK295 := n3_; have HB := n4_; clear n0_ n1_ n2_ n3_ n4_
                                  (try clear hb)
                                  (try clear hb2)
                                  (try clear hk)
                                  (try clear hi)
                                  refine hK.out _ _ ⟨(blk_cell BK295.out 0).trans rfl, (blk_cell BK295.out 1).trans rfl, (blk_cell BK295.out 2).trans rfl, HS3_, HS4_, HS5_⟩ (fun hHeld => ?_)
                                  clear hK K
                                  refine norm_ (a' := ?_) ?_ ?_
                                  rotate_left
                                  · show Act.put _ (some 72) _ = _
                                    simp only [Act.put, s1_, s2_, s3_, i64_w, i32_w]
                                    rfl
                                  refine pure_ (i := 19) (N := some 78) (v := ?_) (a' := ?_) bs7_36 rfl rfl (any_of HT_.out (by kernel_rfl)) (fun _ _ _ h => h) (Or.inl ⟨by rfl, ?_⟩) ?_ ?_; rotate_left; (intro w'; go_simp; with_reducible rfl); rotate_left; (simp only [Act.put, s1_, s2_, s3_, i64_w, i32_w]; rfl)
                                  refine pure_ (i := 20) (N := some 79) (v := ?_) (a' := ?_) bs7_37 rfl rfl (any_of HT_.out (by kernel_rfl)) (fun _ _ _ h => h) (Or.inl ⟨by rfl, ?_⟩) ?_ ?_; rotate_left; (intro w'; go_simp; with_reducible rfl); rotate_left; (simp only [Act.put, s1_, s2_, s3_, i64_w, i32_w]; rfl)
                                  refine pure_ (i := 21) (N := some 80) (v := ?_) (a' := ?_) bs7_38 rfl rfl (any_of HT_.out (by kernel_rfl)) (fun _ _ _ h => h) (Or.inl ⟨by rfl, ?_⟩) ?_ ?_; rotate_left; (intro w'; go_simp; with_reducible rfl); rotate_left; (simp only [Act.put, s1_, s2_, s3_, i64_w, i32_w]; rfl)
                                  refine pure_ (i := 23) (N := some 82) (v := ?_) (a' := ?_) bs7_39 rfl rfl (any_of HT_.out (by kernel_rfl)) (fun _ _ _ h => h) (Or.inl ⟨by rfl, ?_⟩) ?_ ?_; rotate_left; (intro w'; go_simp; with_reducible rfl); rotate_left; (simp only [Act.put, s1_, s2_, s3_, i64_w, i32_w]; rfl)
                                  refine pure_ (i := 25) (N := some 84) (v := ?_) (a' := ?_) bs7_40 rfl rfl (any_of HT_.out (by kernel_rfl)) (fun _ _ _ h => h) (Or.inl ⟨by rfl, ?_⟩) ?_ ?_; rotate_left; (intro w'; go_simp; with_reducible rfl); rotate_left; (simp only [Act.put, s1_, s2_, s3_, i64_w, i32_w]; rfl)
                                  refine pure_ (i := 27) (N := some 86) (v := ?_) (a' := ?_) bs7_41 rfl rfl (any_of HT_.out (by kernel_rfl)) (fun _ _ _ h => h) (Or.inl ⟨by rfl, ?_⟩) ?_ ?_; rotate_left; (intro w'; go_simp; with_reducible rfl); rotate_left; (simp only [Act.put, s1_, s2_, s3_, i64_w, i32_w]; rfl)
                                  refine take_ (i := 22) (N := some 81) (v := ?_) (a' := ?_) bs7_42 rfl rfl (take_ofW HT_.out HW_.out (by kernel_rfl)) (fun _ _ _ h => h) (Or.inl ⟨by rfl, ?_⟩) hHeld ?_ ?_; rotate_left; (rintro w' ⟨s0, s1, s2, s3, s4, s5⟩; go_simp; with_reducible rfl); rotate_left; (simp only [Act.put, s1_, s2_, s3_, i64_w, i32_w]; rfl)
                                  refine take_ (i := 26) (N := some 85) (v := ?_) (a' := ?_) bs7_43 rfl rfl (take_ofW HT_.out HW_.out (by kernel_rfl)) (fun _ _ _ h => h) (Or.inl ⟨by rfl, ?_⟩) hHeld ?_ ?_; rotate_left; (rintro w' ⟨s0, s1, s2, s3, s4, s5⟩; go_simp; with_reducible rfl); rotate_left; (simp only [Act.put, s1_, s2_, s3_, i64_w, i32_w]; rfl)
                                  refine pure_ (i := 28) (N := some 87) (v := ?_) (a' := ?_) bs7_44 rfl rfl (any_of HT_.out (by kernel_rfl)) (fun _ _ _ h => h) (Or.inl ⟨by rfl, ?_⟩) ?_ ?_; rotate_left; (intro w'; go_simp; with_reducible rfl); rotate_left; (simp only [Act.put, s1_, s2_, s3_, i64_w, i32_w]; rfl)
                                  refine take_ (i := 29) (N := some 88) (v := ?_) (a' := ?_) bs7_45 rfl rfl (take_ofW HT_.out HW_.out (by kernel_rfl)) (fun _ _ _ h => h) (Or.inl ⟨by rfl, ?_⟩) hHeld ?_ ?_; rotate_left; (rintro w' ⟨s0, s1, s2, s3, s4, s5⟩; go_simp; with_reducible rfl); rotate_left; (simp only [Act.put, s1_, s2_, s3_, i64_w, i32_w]; rfl)
                                  refine one_ (i := 24) (N := some 83) bs7_46 rfl rfl (one_of HT_.out (by kernel_rfl)) (by decide) (fun K hK => ?_)
                                  refine goes_ Try.func28 (by kernel_rfl) rfl #[.agg #[.slice (some ad326) t284.length co9, .slice (some ad328) t287.length co11, .slice (some ad324) t290.length co12], .int .i64 t294] (by rfl) rfl rfl (by (try simp only [List.map_toArray, List.map_cons, List.map_nil]); first | done | rfl | (simp only [List.length_drop, List.length_take]; rfl)) ?_
                                  with_reducible refine (impl_InsCost.calls kj46 _ _ t284 _ _ t287 _ _ t290 t294 t327 _ ?side1 ?side2 ?side3 ?side4 ?side5 ?side6 A74.out).mono ?_
                                  (case side1 => repeat (first | exact (Kd.R_reads' HO_296000.out).2.2 | (with_reducible refine Kd.C_alloc ?_ _) | (with_reducible refine Kd.C_drewN ?_ _) | (with_reducible refine Kd.C_drew ?_)))
                                  (case side2 => exact (Kd.R_reads' HO_296000.out).2.1)
                                  (case side3 => repeat (first | exact (Kd.Q_reads' HO_296001.out).2.2 | (with_reducible refine Kd.C_alloc ?_ _) | (with_reducible refine Kd.C_drewN ?_ _) | (with_reducible refine Kd.C_drew ?_)))
                                  (case side4 => exact (Kd.Q_reads' HO_296001.out).2.1)
                                  (case side5 => repeat (first | exact (Kd.R_reads' HO_296002.out).2.2 | (with_reducible refine Kd.C_alloc ?_ _) | (with_reducible refine Kd.C_drewN ?_ _) | (with_reducible refine Kd.C_drew ?_)))
                                  (case side6 => exact (Kd.R_reads' HO_296002.out).2.1)
                                  rintro e w81 ⟨rfl, hb⟩
                                  have HS3_ := (hb.cell (World.block_lt_of_cell? _ _ (hHeld.2.2.2.1))).trans (hHeld.2.2.2.1); have HS4_ := (hb.cell (World.block_lt_of_cell? _ _ (hHeld.2.2.2.2.1))).trans (hHeld.2.2.2.2.1); have HS5_ := (hb.cell (World.block_lt_of_cell? _ _ (hHeld.2.2.2.2.2))).trans (hHeld.2.2.2.2.2)
                                  refine ⟨_, rfl, ?_⟩
                                  have n0_ := Aside0.mk (Kd.R_below (by (with_reducible repeat (first | apply Kd.R_alloc | apply Kd.R_drewN | apply Kd.R_drew)); exact HO_296000.out) hb)
                                  have n1_ := Aside0.mk (Kd.Q_below (by (with_reducible repeat (first | apply Kd.Q_alloc | apply Kd.Q_drewN | apply Kd.Q_drew)); exact HO_296001.out) hb)
                                  have n2_ := Aside0.mk (Kd.R_below (by (with_reducible repeat (first | apply Kd.R_alloc | apply Kd.R_drewN | apply Kd.R_drew)); exact HO_296002.out) hb)
                                  have n3_ := Aside0.mk (blk_below (g := gb295) (o := .cells #[.slice (some ad326) t284.length co9, .slice (some ad328) t287.length co11, .slice (some ad324) t290.length co12] 35 (0, 0)) (by (with_reducible repeat (first | refine blk_drewN ?_ _ | refine blk_drew ?_ | refine blk_alloc ?_ _)); exact BK295.out) hb)
                                  have n4_ := Aside0.mk (below_step (by repeat (first | (with_reducible first | exact HB.out | apply below_alloc | apply pw_below_drewN | apply below_drew1 | refine below_set ?_ GE295.out) | exact HB.out)) hb)
                                  clear HO_296000; clear HO_296001; clear HO_296002; clear BK295; clear HB; have HO_296000 := n0_; have HO_296001 := n1_; have HO_296002 := n2_; have BK295 := n3_; have HB := n4_; clear n0_ n1_ n2_ n3_ n4_
                                  (try clear hb)
                                  (try clear hb2)
                                  (try clear hk)
                                  (try clear hi)
                                  refine hK.out _ _ ⟨(blk_cell BK295.out 0).trans rfl, (blk_cell BK295.out 1).trans rfl, (blk_cell BK295.out 2).trans rfl, HS3_, HS4_, HS5_⟩ (fun hHeld => ?_)
                                  clear hK K
                                  refine norm_ (a' := ?_) ?_ ?_
                                  rotate_left
                                  · show Act.put _ (some 83) _ = _
                                    simp only [Act.put, s1_, s2_, s3_, i64_w, i32_w]
                                    rfl
                                  refine pure_ (i := 30) (N := some 89) (v := ?_) (a' := ?_) bs7_47 rfl rfl (any_of HT_.out (by kernel_rfl)) (fun _ _ _ h => h) (Or.inl ⟨by rfl, ?_⟩) ?_ ?_; rotate_left; (intro w'; go_simp; with_reducible rfl); rotate_left; (simp only [Act.put, s1_, s2_, s3_, i64_w, i32_w]; rfl)
                                  refine pure_ (i := 31) (N := some 90) (v := ?_) (a' := ?_) bs7_48 rfl rfl (any_of HT_.out (by kernel_rfl)) (fun _ _ _ h => h) (Or.inl ⟨by rfl, ?_⟩) ?_ ?_; rotate_left; (intro w'; go_simp; with_reducible rfl); rotate_left; (simp only [Act.put, s1_, s2_, s3_, i64_w, i32_w]; rfl)
                                  refine pure_ (i := 32) (N := some 91) (v := ?_) (a' := ?_) bs7_49 rfl rfl (any_of HT_.out (by kernel_rfl)) (fun _ _ _ h => h) (Or.inl ⟨by rfl, ?_⟩) ?_ ?_; rotate_left; (intro w'; go_simp; with_reducible rfl); rotate_left; (simp only [Act.put, s1_, s2_, s3_, i64_w, i32_w]; rfl)
                                  refine pure_ (i := 34) (N := some 93) (v := ?_) (a' := ?_) bs7_50 rfl rfl (any_of HT_.out (by kernel_rfl)) (fun _ _ _ h => h) (Or.inl ⟨by rfl, ?_⟩) ?_ ?_; rotate_left; (intro w'; go_simp; with_reducible rfl); rotate_left; (simp only [Act.put, s1_, s2_, s3_, i64_w, i32_w]; rfl)
                                  refine pure_ (i := 35) (N := some 94) (v := ?_) (a' := ?_) bs7_51 rfl rfl (any_of HT_.out (by kernel_rfl)) (fun _ _ _ h => h) (Or.inl ⟨by rfl, ?_⟩) ?_ ?_; rotate_left; (intro w'; go_simp; with_reducible rfl); rotate_left; (simp only [Act.put, s1_, s2_, s3_, i64_w, i32_w]; rfl)
                                  refine take_ (i := 33) (N := some 92) (v := ?_) (a' := ?_) bs7_52 rfl rfl (take_ofW HT_.out HW_.out (by kernel_rfl)) (fun _ _ _ h => h) (Or.inl ⟨by rfl, ?_⟩) hHeld ?_ ?_; rotate_left; (rintro w' ⟨s0, s1, s2, s3, s4, s5⟩; go_simp; with_reducible rfl); rotate_left; (simp only [Act.put, s1_, s2_, s3_, i64_w, i32_w]; rfl)
                                  refine one_ (i := 36) (N := some 95) bs7_53 rfl rfl (one_of HT_.out (by kernel_rfl)) (by decide) (fun K hK => ?_)
                                  refine goes_ Try.func30 (by kernel_rfl) rfl #[.agg #[.slice (some ad326) t284.length co9, .slice (some ad328) t287.length co11, .slice (some ad324) t290.length co12], .int .i64 t293, .int .i64 t293] (by rfl) rfl rfl (by (try simp only [List.map_toArray, List.map_cons, List.map_nil]); first | done | rfl | (simp only [List.length_drop, List.length_take]; rfl)) ?_
                                  with_reducible refine (impl_RelCost.calls kj46 _ _ t284 _ _ t287 _ _ t290 t293 t293 t329 _ ?side1 ?side2 ?side3 ?side4 ?side5 ?side6 A78.out).mono ?_
                                  (case side1 => repeat (first | exact (Kd.R_reads' HO_296000.out).2.2 | (with_reducible refine Kd.C_alloc ?_ _) | (with_reducible refine Kd.C_drewN ?_ _) | (with_reducible refine Kd.C_drew ?_)))
                                  (case side2 => exact (Kd.R_reads' HO_296000.out).2.1)
                                  (case side3 => repeat (first | exact (Kd.Q_reads' HO_296001.out).2.2 | (with_reducible refine Kd.C_alloc ?_ _) | (with_reducible refine Kd.C_drewN ?_ _) | (with_reducible refine Kd.C_drew ?_)))
                                  (case side4 => exact (Kd.Q_reads' HO_296001.out).2.1)
                                  (case side5 => repeat (first | exact (Kd.R_reads' HO_296002.out).2.2 | (with_reducible refine Kd.C_alloc ?_ _) | (with_reducible refine Kd.C_drewN ?_ _) | (with_reducible refine Kd.C_drew ?_)))
                                  (case side6 => exact (Kd.R_reads' HO_296002.out).2.1)
                                  rintro e w82 ⟨rfl, hb⟩
                                  have HS3_ := (hb.cell (World.block_lt_of_cell? _ _ (hHeld.2.2.2.1))).trans (hHeld.2.2.2.1); have HS4_ := (hb.cell (World.block_lt_of_cell? _ _ (hHeld.2.2.2.2.1))).trans (hHeld.2.2.2.2.1); have HS5_ := (hb.cell (World.block_lt_of_cell? _ _ (hHeld.2.2.2.2.2))).trans (hHeld.2.2.2.2.2)
                                  refine ⟨_, rfl, ?_⟩
                                  have n0_ := Aside0.mk (Kd.R_below (by (with_reducible repeat (first | apply Kd.R_alloc | apply Kd.R_drewN | apply Kd.R_drew)); exact HO_296000.out) hb)
                                  have n1_ := Aside0.mk (Kd.Q_below (by (with_reducible repeat (first | apply Kd.Q_alloc | apply Kd.Q_drewN | apply Kd.Q_drew)); exact HO_296001.out) hb)
                                  have n2_ := Aside0.mk (Kd.R_below (by (with_reducible repeat (first | apply Kd.R_alloc | apply Kd.R_drewN | apply Kd.R_drew)); exact HO_296002.out) hb)
                                  have n3_ := Aside0.mk (blk_below (g := gb295) (o := .cells #[.slice (some ad326) t284.length co9, .slice (some ad328) t287.length co11, .slice (some ad324) t290.length co12] 35 (0, 0)) (by (with_reducible repeat (first | refine blk_drewN ?_ _ | refine blk_drew ?_ | refine blk_alloc ?_ _)); exact BK295.out) hb)
                                  have n4_ := Aside0.mk (below_step (by repeat (first | (with_reducible first | exact HB.out | apply below_alloc | apply pw_below_drewN | apply below_drew1 | refine below_set ?_ GE295.out) | exact HB.out)) hb)
                                  clear HO_296000; clear HO_296001; clear HO_296002; clear BK295; clear HB; have HO_296000 := n0_; have HO_296001 := n1_; have HO_296002 := n2_; have BK295 := n3_; have HB := n4_; clear n0_ n1_ n2_ n3_ n4_
                                  (try clear hb)
                                  (try clear hb2)
                                  (try clear hk)
                                  (try clear hi)
                                  refine hK.out _ _ ⟨(blk_cell BK295.out 0).trans rfl, (blk_cell BK295.out 1).trans rfl, (blk_cell BK295.out 2).trans rfl, HS3_, HS4_, HS5_⟩ (fun hHeld => ?_)
                                  clear hK K
                                  refine norm_ (a' := ?_) ?_ ?_
                                  rotate_left
                                  · show Act.put _ (some 95) _ = _
                                    simp only [Act.put, s1_, s2_, s3_, i64_w, i32_w]
                                    rfl
                                  refine pure_ (i := 37) (N := some 96) (v := ?_) (a' := ?_) bs7_54 rfl rfl (any_of HT_.out (by kernel_rfl)) (fun _ _ _ h => h) (Or.inl ⟨by rfl, ?_⟩) ?_ ?_; rotate_left; (intro w'; go_simp; with_reducible rfl); rotate_left; (simp only [Act.put, s1_, s2_, s3_, i64_w, i32_w]; rfl)
                                  refine pure_ (i := 38) (N := some 97) (v := ?_) (a' := ?_) bs7_55 rfl rfl (any_of HT_.out (by kernel_rfl)) (fun _ _ _ h => h) (Or.inl ⟨by rfl, ?_⟩) ?_ ?_; rotate_left; (intro w'; go_simp; with_reducible rfl); rotate_left; (simp only [Act.put, s1_, s2_, s3_, i64_w, i32_w]; rfl)
                                  refine pure_ (i := 39) (N := some 2) (v := ?_) (a' := ?_) bs7_56 rfl rfl (any_of HT_.out (by kernel_rfl)) (fun _ _ _ h => h) (Or.inl ⟨by rfl, ?_⟩) ?_ ?_; rotate_left; (intro w'; go_simp; with_reducible rfl); rotate_left; (simp only [Act.put, s1_, s2_, s3_, i64_w, i32_w]; rfl)
                                  refine done_ (done_of HT_.out (by kernel_rfl)) ?_
                                  try go_wp2
                                  go_ret
                                  exact ⟨by first | rfl | (simp [errW_none, errW_some] <;> rfl) | (simp only [← hji66]; first | rfl | (simp [errW_none, errW_some] <;> rfl)) | (simp [*, errW_none, errW_some] <;> rfl), by repeat (first | (with_reducible first | exact HB.out | apply below_alloc | apply pw_below_drewN | apply below_drew1 | refine below_set ?_ GE295.out) | exact HB.out)⟩
                                · rw [if_neg c77] at H
                                  have c77b0 : (t327 == (rd t287 t294)) = false := beq_eq_false_iff_ne.mpr c77
                                  have c77b1 : (t327 != (rd t287 t294)) = true := bne_iff_ne.mpr c77
                                  obtain rfl := Option.some.inj H
                                  exact absurd hq.out (by decide)
                              · rw [if_neg c76] at H
                                exact absurd H (by simp)
                            · rw [if_neg c75] at H
                              exact absurd H (by simp)
                          · rw [if_neg c73] at H
                            have c73b0 : (t325 == (rd t284 t293)) = false := beq_eq_false_iff_ne.mpr c73
                            have c73b1 : (t325 != (rd t284 t293)) = true := bne_iff_ne.mpr c73
                            obtain rfl := Option.some.inj H
                            exact absurd hq.out (by decide)
                        · rw [if_neg c72] at H
                          exact absurd H (by simp)
                      · rw [if_neg c71] at H
                        exact absurd H (by simp)
                    · rw [if_neg c69] at H
                      have c69b0 : (t296 == (rd t290 (ji66))) = false := beq_eq_false_iff_ne.mpr c69
                      have c69b1 : (t296 != (rd t290 (ji66))) = true := bne_iff_ne.mpr c69
                      obtain rfl := Option.some.inj H
                      exact absurd hq.out (by decide)
                  · rw [if_neg c68] at H
                    exact absurd H (by simp)
                · rw [if_neg c67] at H
                  exact absurd H (by simp)

/-- THE ONE PURE STATEMENT of laws_FnCosts: yours. -/
def laws_FnCosts.Pure : Prop := ∀ (l0 : List Int), l0.length ≤ maxLen → l0.length * 1 ≤ 140737488351232 → (∀ x ∈ l0, (Lit.int .u8 x).wf = true) → ∃ k, laws_FnCosts.f k l0 = some true
theorem laws_FnCosts.walk (P : laws_FnCosts.Pure) (a0 : Option Addr) (len0 cap0 : Nat) (z0 : List Int) (w : World) (w0 : (a0 = none ∧ len0 = 0 ∧ cap0 = 0 ∧ z0 = []) ∨ ∃ x, a0 = some x ∧ len0 ≤ cap0 ∧ cap0 ≤ maxLen ∧ z0.length = cap0 ∧ (∀ i, i < z0.length → w.cell? (x.add i) = some (.int .u8 (z0.getD i 0))) ∧ ∀ n ∈ z0, (Lit.int .u8 n).wf = true) (y0 : len0 * 1 ≤ 140737488351232) :
    Calls Try.prog 12 #[.slice a0 len0 cap0] w fun e w' => e = .returned (.bool true) ∧ Below w.heap.size w w' := by
  obtain ⟨l0, rfl, hr0, hm0, hw0, hc0⟩ := ReadsInt.ofRowC w0
  obtain ⟨k, h⟩ := P l0 hm0 y0 hw0
  refine (laws_FnCosts.calls k _ _ l0 true w (Kd.C_of_reads (d := (0 : Int)) (h1 := fun _ => rfl) hr0) hc0 ⟨rfl⟩ h).mono ?_
  rintro e w' ⟨rfl, hd⟩
  exact ⟨rfl, hd⟩

end Go.Proofs.Yteflhablmeelbaa.HFnCosts
