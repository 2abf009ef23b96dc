/- Functions of the program and what each call of them comes to, for the law FnNumbers; written by a program of this session. No condition beyond those of each theorem. -/
import Derived.Test.YtbdjconojnjgdaaDoorHFnNumbersx0
import Derived.Test.YtbdjconojnjgdaaDoorHFnNumbersx1
import Derived.Test.YtbdjconojnjgdaaDoorHFnNumbersx2
import Derived.Test.YtbdjconojnjgdaaDoorHFnNumbersx3
import Derived.Test.YtbdjconojnjgdaaDoorHFnNumbersx4
import Derived.Test.YtbdjconojnjgdaaDoorHFnNumbersx5
namespace Go.Proofs.YtbdjconojnjgdaaDoor.HFnNumbers
open Go.RowKit Go.Proofs.YtbdjconojnjgdaaDoorW.PrintWords Go.Proofs.YtbdjconojnjgdaaDoorW.PrintLast Go.Proofs.YtbdjconojnjgdaaDoorW.PrintMore
attribute [local go_sem] max2_int min2_int max_two min_two max_three min_three max_four min_four   -- for this text's walks alone
set_option linter.unusedVariables false
set_option linter.unusedSimpArgs false

theorem emp_ne (l : List UInt8) (b : Bool) (h : ((l != ([] : List UInt8)) != b) = true) : (l.isEmpty = !b) = False := by cases l <;> cases b <;> simp_all
theorem emp_eq (l : List UInt8) (b : Bool) (h : ((l != ([] : List UInt8)) != b) = false) : (l.isEmpty = !b) = True := by cases l <;> cases b <;> simp_all
/-! ### laws_FnNumbers: function 5 -/
mutual
def laws_FnNumbers.j0 : Nat → List Int → Int → ByteArray → Bool → Option (Bool)
  | 0, _, _, _, _ => none
  | k + 1, x0, x3, x4, x55 => if x55 = true then (some false) else ((impl_Fixed.f k x3 7).bind fun t276 => (if t276.size + x4.size ≤ 9223372036854775807 then ((impl_ReadFixed.f k (t276 ++ x4) 7).bind fun bt277 => (if t276.toList = ([] : List UInt8) then (if x3 < 0 then (laws_FnNumbers.j1 k x0 x3 x4 ((t276.toList == ([] : List UInt8)) != true)) else (laws_FnNumbers.j1 k x0 x3 x4 ((t276.toList == ([] : List UInt8)) != (decide (x3 ≥ 72057594037927936))))) else (if bt277.2 = true then (if bt277.1 = x3 then (if (t276.size : Int) = 7 then (if x3 < 0 then (laws_FnNumbers.j1 k x0 x3 x4 ((t276.toList == ([] : List UInt8)) != true)) else (laws_FnNumbers.j1 k x0 x3 x4 ((t276.toList == ([] : List UInt8)) != (decide (x3 ≥ 72057594037927936))))) else (laws_FnNumbers.j1 k x0 x3 x4 true)) else (laws_FnNumbers.j1 k x0 x3 x4 true)) else (laws_FnNumbers.j1 k x0 x3 x4 true)))) else (none)))
def laws_FnNumbers.j1 : Nat → List Int → Int → ByteArray → Bool → Option (Bool)
  | 0, _, _, _, _ => none
  | k + 1, x0, x3, x4, x91 => if x91 = true then (some false) else ((impl_Dec.f x3).bind fun t279 => ((impl_ReadDec.f k t279).bind fun bt280 => (if x3 > (-1000000000) then (if (bt280.2 != (decide (x3 < 1000000000))) = true then (laws_FnNumbers.j2 k x0 x4 true) else (if bt280.2 = true then (laws_FnNumbers.j2 k x0 x4 (bt280.1 != x3)) else (laws_FnNumbers.j2 k x0 x4 false))) else (if (bt280.2 != false) = true then (laws_FnNumbers.j2 k x0 x4 true) else (if bt280.2 = true then (laws_FnNumbers.j2 k x0 x4 (bt280.1 != x3)) else (laws_FnNumbers.j2 k x0 x4 false))))))
def laws_FnNumbers.j2 : Nat → List Int → ByteArray → Bool → Option (Bool)
  | 0, _, _, _ => none
  | k + 1, x0, x4, x113 => if x113 = true then (some false) else ((impl_Hex.f k x4).bind fun t282 => ((impl_Unhex.f k t282).bind fun bt283 => ((spec_DrawReadVar.f k x0).bind fun t285 => ((impl_ReadVar.f k t285).bind fun bt286 => (if bt283.2 = true then (if bt283.1.toList = x4.toList then (if bt286.2 = 0 then (some true) else (if bt286.2 > 0 then ((spec_DrawReadVar.f k x0).bind fun t288 => (if bt286.2 ≤ (t288.size : Int) then ((spec_DrawReadVar.f k x0).bind fun t289 => (if bt286.2 ≤ (t289.size : Int) then ((impl_Var.f k bt286.1).bind fun t290 => ((spec_DrawReadVar.f k x0).bind fun t291 => (if 0 ≤ bt286.2 then (if bt286.2 ≤ (t291.size : Int) then (some (t290.toList == (t291.extract 0 (bt286.2 : Int).toNat).toList)) else (none)) else (none)))) else (some false))) else (some false))) else (some false))) else (some false)) else (some false))))))
end
def laws_FnNumbers.f (k : Nat) (l0 : List Int) : Option (Bool) := (laws_big.f l0).bind fun t270 => (if t270 = true then (some true) else ((spec_DrawVar.f k l0).bind fun t271 => ((spec_DrawHex.f k l0).bind fun t272 => ((impl_Var.f k t271).bind fun t273 => (if t273.size + t272.size ≤ 9223372036854775807 then ((impl_ReadVar.f k (t273 ++ t272)).bind fun bt274 => (if t271 ≥ 0 then (if ((t273.toList != ([] : List UInt8)) != (decide (t271 ≤ 562949953421311))) = true then (laws_FnNumbers.j0 k l0 t271 t272 true) else (if t273.toList = ([] : List UInt8) then (laws_FnNumbers.j0 k l0 t271 t272 false) else (if bt274.1 = t271 then (laws_FnNumbers.j0 k l0 t271 t272 (bt274.2 != (t273.size : Int))) else (laws_FnNumbers.j0 k l0 t271 t272 true)))) else (if ((t273.toList != ([] : List UInt8)) != false) = true then (laws_FnNumbers.j0 k l0 t271 t272 true) else (if t273.toList = ([] : List UInt8) then (laws_FnNumbers.j0 k l0 t271 t272 false) else (if bt274.1 = t271 then (laws_FnNumbers.j0 k l0 t271 t272 (bt274.2 != (t273.size : Int))) else (laws_FnNumbers.j0 k l0 t271 t272 true)))))) else (none))))))
theorem laws_FnNumbers.mono_l : ∀ k, (∀ y0 y1 y2 y3, LeO (laws_FnNumbers.j0 k y0 y1 y2 y3) (laws_FnNumbers.j0 (k + 1) y0 y1 y2 y3)) ∧ (∀ y0 y1 y2 y3, LeO (laws_FnNumbers.j1 k y0 y1 y2 y3) (laws_FnNumbers.j1 (k + 1) y0 y1 y2 y3)) ∧ (∀ y0 y1 y2, LeO (laws_FnNumbers.j2 k y0 y1 y2) (laws_FnNumbers.j2 (k + 1) y0 y1 y2))
  | 0 => ⟨fun _ _ _ _ r h => by simp [laws_FnNumbers.j0] at h, fun _ _ _ _ r h => by simp [laws_FnNumbers.j1] at h, fun _ _ _ r h => by simp [laws_FnNumbers.j2] at h⟩
  | k + 1 => by
    obtain ⟨ih0, ih1, ih2⟩ := laws_FnNumbers.mono_l k
    refine ⟨?_, ?_, ?_⟩
    · intro y0 y1 y2 y3
      unfold laws_FnNumbers.j0
      repeat' first
      | (with_reducible exact ih0 _ _ _ _)
      | (with_reducible exact ih1 _ _ _ _)
      | (with_reducible exact ih2 _ _ _)
      | (with_reducible exact impl_Fixed.mono _ _ _)
      | (with_reducible exact impl_Hex.mono _ _)
      | (with_reducible exact impl_ReadDec.mono _ _)
      | (with_reducible exact impl_ReadFixed.mono _ _ _)
      | (with_reducible exact impl_ReadVar.mono _ _)
      | (with_reducible exact impl_Unhex.mono _ _)
      | (with_reducible exact impl_Var.mono _ _)
      | (with_reducible exact spec_DrawHex.mono _ _)
      | (with_reducible exact spec_DrawReadVar.mono _ _)
      | (with_reducible exact spec_DrawVar.mono _ _)
      | (with_reducible exact LeO.refl _)
      | (with_reducible exact LeO.none _)
      | (with_reducible refine LeO.ite ?_ ?_)
      | (with_reducible refine LeO.bind ?_ (fun _ => ?_))
      | exact ih0 _ _ _ _
      | exact ih1 _ _ _ _
      | exact ih2 _ _ _
      | exact impl_Fixed.mono _ _ _
      | exact impl_Hex.mono _ _
      | exact impl_ReadDec.mono _ _
      | exact impl_ReadFixed.mono _ _ _
      | exact impl_ReadVar.mono _ _
      | exact impl_Unhex.mono _ _
      | exact impl_Var.mono _ _
      | exact spec_DrawHex.mono _ _
      | exact spec_DrawReadVar.mono _ _
      | exact spec_DrawVar.mono _ _
      | exact LeO.none _
      | refine LeO.ite ?_ ?_
      | refine LeO.bind ?_ (fun _ => ?_)
    · intro y0 y1 y2 y3
      unfold laws_FnNumbers.j1
      repeat' first
      | (with_reducible exact ih0 _ _ _ _)
      | (with_reducible exact ih1 _ _ _ _)
      | (with_reducible exact ih2 _ _ _)
      | (with_reducible exact impl_Fixed.mono _ _ _)
      | (with_reducible exact impl_Hex.mono _ _)
      | (with_reducible exact impl_ReadDec.mono _ _)
      | (with_reducible exact impl_ReadFixed.mono _ _ _)
      | (with_reducible exact impl_ReadVar.mono _ _)
      | (with_reducible exact impl_Unhex.mono _ _)
      | (with_reducible exact impl_Var.mono _ _)
      | (with_reducible exact spec_DrawHex.mono _ _)
      | (with_reducible exact spec_DrawReadVar.mono _ _)
      | (with_reducible exact spec_DrawVar.mono _ _)
      | (with_reducible exact LeO.refl _)
      | (with_reducible exact LeO.none _)
      | (with_reducible refine LeO.ite ?_ ?_)
      | (with_reducible refine LeO.bind ?_ (fun _ => ?_))
      | exact ih0 _ _ _ _
      | exact ih1 _ _ _ _
      | exact ih2 _ _ _
      | exact impl_Fixed.mono _ _ _
      | exact impl_Hex.mono _ _
      | exact impl_ReadDec.mono _ _
      | exact impl_ReadFixed.mono _ _ _
      | exact impl_ReadVar.mono _ _
      | exact impl_Unhex.mono _ _
      | exact impl_Var.mono _ _
      | exact spec_DrawHex.mono _ _
      | exact spec_DrawReadVar.mono _ _
      | exact spec_DrawVar.mono _ _
      | exact LeO.none _
      | refine LeO.ite ?_ ?_
      | refine LeO.bind ?_ (fun _ => ?_)
    · intro y0 y1 y2
      unfold laws_FnNumbers.j2
      repeat' first
      | (with_reducible exact ih0 _ _ _ _)
      | (with_reducible exact ih1 _ _ _ _)
      | (with_reducible exact ih2 _ _ _)
      | (with_reducible exact impl_Fixed.mono _ _ _)
      | (with_reducible exact impl_Hex.mono _ _)
      | (with_reducible exact impl_ReadDec.mono _ _)
      | (with_reducible exact impl_ReadFixed.mono _ _ _)
      | (with_reducible exact impl_ReadVar.mono _ _)
      | (with_reducible exact impl_Unhex.mono _ _)
      | (with_reducible exact impl_Var.mono _ _)
      | (with_reducible exact spec_DrawHex.mono _ _)
      | (with_reducible exact spec_DrawReadVar.mono _ _)
      | (with_reducible exact spec_DrawVar.mono _ _)
      | (with_reducible exact LeO.refl _)
      | (with_reducible exact LeO.none _)
      | (with_reducible refine LeO.ite ?_ ?_)
      | (with_reducible refine LeO.bind ?_ (fun _ => ?_))
      | exact ih0 _ _ _ _
      | exact ih1 _ _ _ _
      | exact ih2 _ _ _
      | exact impl_Fixed.mono _ _ _
      | exact impl_Hex.mono _ _
      | exact impl_ReadDec.mono _ _
      | exact impl_ReadFixed.mono _ _ _
      | exact impl_ReadVar.mono _ _
      | exact impl_Unhex.mono _ _
      | exact impl_Var.mono _ _
      | exact spec_DrawHex.mono _ _
      | exact spec_DrawReadVar.mono _ _
      | exact spec_DrawVar.mono _ _
      | exact LeO.none _
      | refine LeO.ite ?_ ?_
      | refine LeO.bind ?_ (fun _ => ?_)
theorem laws_FnNumbers.mono : ∀ a0 k, LeO (laws_FnNumbers.f k a0) (laws_FnNumbers.f (k + 1) a0) := by
  intro a0 k
  obtain ⟨ih0, ih1, ih2⟩ := laws_FnNumbers.mono_l k
  unfold laws_FnNumbers.f
  repeat' first
      | (with_reducible exact ih0 _ _ _ _)
      | (with_reducible exact ih1 _ _ _ _)
      | (with_reducible exact ih2 _ _ _)
      | (with_reducible exact impl_Fixed.mono _ _ _)
      | (with_reducible exact impl_Hex.mono _ _)
      | (with_reducible exact impl_ReadDec.mono _ _)
      | (with_reducible exact impl_ReadFixed.mono _ _ _)
      | (with_reducible exact impl_ReadVar.mono _ _)
      | (with_reducible exact impl_Unhex.mono _ _)
      | (with_reducible exact impl_Var.mono _ _)
      | (with_reducible exact spec_DrawHex.mono _ _)
      | (with_reducible exact spec_DrawReadVar.mono _ _)
      | (with_reducible exact spec_DrawVar.mono _ _)
      | (with_reducible exact LeO.refl _)
      | (with_reducible exact LeO.none _)
      | (with_reducible refine LeO.ite ?_ ?_)
      | (with_reducible refine LeO.bind ?_ (fun _ => ?_))
      | exact ih0 _ _ _ _
      | exact ih1 _ _ _ _
      | exact ih2 _ _ _
      | exact impl_Fixed.mono _ _ _
      | exact impl_Hex.mono _ _
      | exact impl_ReadDec.mono _ _
      | exact impl_ReadFixed.mono _ _ _
      | exact impl_ReadVar.mono _ _
      | exact impl_Unhex.mono _ _
      | exact impl_Var.mono _ _
      | exact spec_DrawHex.mono _ _
      | exact spec_DrawReadVar.mono _ _
      | exact spec_DrawVar.mono _ _
      | exact LeO.none _
      | refine LeO.ite ?_ ?_
      | refine LeO.bind ?_ (fun _ => ?_)
set_option maxHeartbeats 8000000 in
set_option maxRecDepth 100000 in
theorem laws_FnNumbers.calls (k : Nat) (A0 : Option Addr) (c0 : Nat) (l0 : List Int) (r : Bool) (w : World) (hr0 : Kd.C (Kd.int .u8) w A0 l0.length l0) (hc0 : l0.length ≤ c0) (hq : Aside0 (r = true)) (ht : Lib.TabIs Tryd.prog w "internal/strconv.uint64pow10" .u64 Lib.pow10Tab) (h : laws_FnNumbers.f k l0 = some r) :
    Calls Tryd.prog 5 #[.slice A0 l0.length c0] w fun e w' => e = .returned (.bool r) ∧ Below w.heap.size w w' := by
  have HT := Aside0.mk ht
  clear ht
  have HR0 := Aside0.mk hr0
  have HC0 := Aside0.mk hc0
  clear hr0 hc0
  have HB := Aside0.mk (Below.refl w.heap.size w)
  have H : ((laws_big.f l0).bind fun t270 => (if t270 = true then (some true) else ((spec_DrawVar.f k l0).bind fun t271 => ((spec_DrawHex.f k l0).bind fun t272 => ((impl_Var.f k t271).bind fun t273 => (if t273.size + t272.size ≤ 9223372036854775807 then ((impl_ReadVar.f k (t273 ++ t272)).bind fun bt274 => (if t271 ≥ 0 then (if ((t273.toList != ([] : List UInt8)) != (decide (t271 ≤ 562949953421311))) = true then (laws_FnNumbers.j0 k l0 t271 t272 true) else (if t273.toList = ([] : List UInt8) then (laws_FnNumbers.j0 k l0 t271 t272 false) else (if bt274.1 = t271 then (laws_FnNumbers.j0 k l0 t271 t272 (bt274.2 != (t273.size : Int))) else (laws_FnNumbers.j0 k l0 t271 t272 true)))) else (if ((t273.toList != ([] : List UInt8)) != false) = true then (laws_FnNumbers.j0 k l0 t271 t272 true) else (if t273.toList = ([] : List UInt8) then (laws_FnNumbers.j0 k l0 t271 t272 false) else (if bt274.1 = t271 then (laws_FnNumbers.j0 k l0 t271 t272 (bt274.2 != (t273.size : Int))) else (laws_FnNumbers.j0 k l0 t271 t272 true)))))) else (none))))))) = some r := h
  clear h
  replace H := Option.bind_eq_some_iff.mp H
  obtain ⟨t270, A20, H⟩ := H
  replace H : (if t270 = true then (some true) else ((spec_DrawVar.f k l0).bind fun t271 => ((spec_DrawHex.f k l0).bind fun t272 => ((impl_Var.f k t271).bind fun t273 => (if t273.size + t272.size ≤ 9223372036854775807 then ((impl_ReadVar.f k (t273 ++ t272)).bind fun bt274 => (if t271 ≥ 0 then (if ((t273.toList != ([] : List UInt8)) != (decide (t271 ≤ 562949953421311))) = true then (laws_FnNumbers.j0 k l0 t271 t272 true) else (if t273.toList = ([] : List UInt8) then (laws_FnNumbers.j0 k l0 t271 t272 false) else (if bt274.1 = t271 then (laws_FnNumbers.j0 k l0 t271 t272 (bt274.2 != (t273.size : Int))) else (laws_FnNumbers.j0 k l0 t271 t272 true)))) else (if ((t273.toList != ([] : List UInt8)) != false) = true then (laws_FnNumbers.j0 k l0 t271 t272 true) else (if t273.toList = ([] : List UInt8) then (laws_FnNumbers.j0 k l0 t271 t272 false) else (if bt274.1 = t271 then (laws_FnNumbers.j0 k l0 t271 t272 (bt274.2 != (t273.size : Int))) else (laws_FnNumbers.j0 k l0 t271 t272 true)))))) else (none)))))) = some r := H
  have A2 := Aside0.mk A20
  clear A20
  by_cases c3 : t270 = true
  · subst c3
    have H1 : (some true) = some r := by rw [if_pos rfl] at H; exact H
    clear H
    have H := H1
    clear H1
    obtain rfl := Option.some.inj H
    simp only [Option.some.injEq, Prod.mk.injEq] at H
    obtain ⟨rfl⟩ := H
    go_enter Tryd.func5, Tryd.ntmps5
    go_wp2_with (first | ((with_reducible refine gate_callee (f := 10) rfl ?_); refine goesL_ (some 18) rfl rfl Tryd.func10 (by kernel_rfl) rfl #[.slice A0 l0.length c0] rfl (by (try simp only [List.map_toArray, List.map_cons, List.map_nil]); first | done | rfl | (simp only [List.length_drop, List.length_take]; rfl)) ?_; (with_reducible refine (laws_big.calls _ _ l0 true _ ?side1 ?side2 A2.out).mono ?_); (case side1 => repeat (first | exact HR0.out | (with_reducible refine Kd.C_alloc ?_ _) | (with_reducible refine Kd.C_drewN ?_ _) | (with_reducible refine Kd.C_drew ?_))); (case side2 => exact HC0.out); rintro e w' ⟨rfl, ⟨nd, rfl⟩⟩; refine ⟨_, rfl, ?_⟩))
    go_ret
    exact ⟨by first | rfl | (simp [errW_none, errW_some] <;> rfl) | (simp [*, errW_none, errW_some] <;> rfl), by repeat (first | (with_reducible first | exact HB.out | apply below_alloc | apply pw_below_drewN | apply below_drew1) | exact HB.out)⟩
  · replace c3 := Bool.eq_false_iff.mpr c3
    subst c3
    have H1 : ((spec_DrawVar.f k l0).bind fun t271 => ((spec_DrawHex.f k l0).bind fun t272 => ((impl_Var.f k t271).bind fun t273 => (if t273.size + t272.size ≤ 9223372036854775807 then ((impl_ReadVar.f k (t273 ++ t272)).bind fun bt274 => (if t271 ≥ 0 then (if ((t273.toList != ([] : List UInt8)) != (decide (t271 ≤ 562949953421311))) = true then (laws_FnNumbers.j0 k l0 t271 t272 true) else (if t273.toList = ([] : List UInt8) then (laws_FnNumbers.j0 k l0 t271 t272 false) else (if bt274.1 = t271 then (laws_FnNumbers.j0 k l0 t271 t272 (bt274.2 != (t273.size : Int))) else (laws_FnNumbers.j0 k l0 t271 t272 true)))) else (if ((t273.toList != ([] : List UInt8)) != false) = true then (laws_FnNumbers.j0 k l0 t271 t272 true) else (if t273.toList = ([] : List UInt8) then (laws_FnNumbers.j0 k l0 t271 t272 false) else (if bt274.1 = t271 then (laws_FnNumbers.j0 k l0 t271 t272 (bt274.2 != (t273.size : Int))) else (laws_FnNumbers.j0 k l0 t271 t272 true)))))) else (none))))) = some r := by rw [if_neg (show ¬ (false = true) by decide)] at H; exact H
    clear H
    have H := H1
    clear H1
    replace H := Option.bind_eq_some_iff.mp H
    obtain ⟨t271, A40, H⟩ := H
    replace H : ((spec_DrawHex.f k l0).bind fun t272 => ((impl_Var.f k t271).bind fun t273 => (if t273.size + t272.size ≤ 9223372036854775807 then ((impl_ReadVar.f k (t273 ++ t272)).bind fun bt274 => (if t271 ≥ 0 then (if ((t273.toList != ([] : List UInt8)) != (decide (t271 ≤ 562949953421311))) = true then (laws_FnNumbers.j0 k l0 t271 t272 true) else (if t273.toList = ([] : List UInt8) then (laws_FnNumbers.j0 k l0 t271 t272 false) else (if bt274.1 = t271 then (laws_FnNumbers.j0 k l0 t271 t272 (bt274.2 != (t273.size : Int))) else (laws_FnNumbers.j0 k l0 t271 t272 true)))) else (if ((t273.toList != ([] : List UInt8)) != false) = true then (laws_FnNumbers.j0 k l0 t271 t272 true) else (if t273.toList = ([] : List UInt8) then (laws_FnNumbers.j0 k l0 t271 t272 false) else (if bt274.1 = t271 then (laws_FnNumbers.j0 k l0 t271 t272 (bt274.2 != (t273.size : Int))) else (laws_FnNumbers.j0 k l0 t271 t272 true)))))) else (none)))) = some r := H
    have A4 := Aside0.mk A40
    clear A40
    replace H := Option.bind_eq_some_iff.mp H
    obtain ⟨t272, A50, H⟩ := H
    replace H : ((impl_Var.f k t271).bind fun t273 => (if t273.size + t272.size ≤ 9223372036854775807 then ((impl_ReadVar.f k (t273 ++ t272)).bind fun bt274 => (if t271 ≥ 0 then (if ((t273.toList != ([] : List UInt8)) != (decide (t271 ≤ 562949953421311))) = true then (laws_FnNumbers.j0 k l0 t271 t272 true) else (if t273.toList = ([] : List UInt8) then (laws_FnNumbers.j0 k l0 t271 t272 false) else (if bt274.1 = t271 then (laws_FnNumbers.j0 k l0 t271 t272 (bt274.2 != (t273.size : Int))) else (laws_FnNumbers.j0 k l0 t271 t272 true)))) else (if ((t273.toList != ([] : List UInt8)) != false) = true then (laws_FnNumbers.j0 k l0 t271 t272 true) else (if t273.toList = ([] : List UInt8) then (laws_FnNumbers.j0 k l0 t271 t272 false) else (if bt274.1 = t271 then (laws_FnNumbers.j0 k l0 t271 t272 (bt274.2 != (t273.size : Int))) else (laws_FnNumbers.j0 k l0 t271 t272 true)))))) else (none))) = some r := H
    have A5 := Aside0.mk A50
    clear A50
    replace H := Option.bind_eq_some_iff.mp H
    obtain ⟨t273, A60, H⟩ := H
    replace H : (if t273.size + t272.size ≤ 9223372036854775807 then ((impl_ReadVar.f k (t273 ++ t272)).bind fun bt274 => (if t271 ≥ 0 then (if ((t273.toList != ([] : List UInt8)) != (decide (t271 ≤ 562949953421311))) = true then (laws_FnNumbers.j0 k l0 t271 t272 true) else (if t273.toList = ([] : List UInt8) then (laws_FnNumbers.j0 k l0 t271 t272 false) else (if bt274.1 = t271 then (laws_FnNumbers.j0 k l0 t271 t272 (bt274.2 != (t273.size : Int))) else (laws_FnNumbers.j0 k l0 t271 t272 true)))) else (if ((t273.toList != ([] : List UInt8)) != false) = true then (laws_FnNumbers.j0 k l0 t271 t272 true) else (if t273.toList = ([] : List UInt8) then (laws_FnNumbers.j0 k l0 t271 t272 false) else (if bt274.1 = t271 then (laws_FnNumbers.j0 k l0 t271 t272 (bt274.2 != (t273.size : Int))) else (laws_FnNumbers.j0 k l0 t271 t272 true)))))) else (none)) = some r := H
    have A6 := Aside0.mk A60
    clear A60
    by_cases c7 : t273.size + t272.size ≤ 9223372036854775807
    · rw [if_pos c7] at H
      have c7b0 := eq_true c7
      have c7b1 : decide (t273.size + t272.size ≤ 9223372036854775807) = true := decide_eq_true c7
      try have c7b2 : (9223372036854775807 < t273.size + t272.size) = False := eq_false (Nat.not_lt.2 c7)
      replace H := Option.bind_eq_some_iff.mp H
      obtain ⟨⟨t274, t275⟩, A80, H⟩ := H
      replace H : (if t271 ≥ 0 then (if ((t273.toList != ([] : List UInt8)) != (decide (t271 ≤ 562949953421311))) = true then (laws_FnNumbers.j0 k l0 t271 t272 true) else (if t273.toList = ([] : List UInt8) then (laws_FnNumbers.j0 k l0 t271 t272 false) else (if t274 = t271 then (laws_FnNumbers.j0 k l0 t271 t272 (t275 != (t273.size : Int))) else (laws_FnNumbers.j0 k l0 t271 t272 true)))) else (if ((t273.toList != ([] : List UInt8)) != false) = true then (laws_FnNumbers.j0 k l0 t271 t272 true) else (if t273.toList = ([] : List UInt8) then (laws_FnNumbers.j0 k l0 t271 t272 false) else (if t274 = t271 then (laws_FnNumbers.j0 k l0 t271 t272 (t275 != (t273.size : Int))) else (laws_FnNumbers.j0 k l0 t271 t272 true))))) = some r := H
      have A8 := Aside0.mk A80
      clear A80
      have HC9 := Aside0.mk H
      clear H
      go_enter Tryd.func5, Tryd.ntmps5
      go_upto_region 7 with (first | ((with_reducible refine gate_callee (f := 10) rfl ?_); refine goesL_ (some 18) rfl rfl Tryd.func10 (by kernel_rfl) rfl #[.slice A0 l0.length c0] rfl (by (try simp only [List.map_toArray, List.map_cons, List.map_nil]); first | done | rfl | (simp only [List.length_drop, List.length_take]; rfl)) ?_; (with_reducible refine (laws_big.calls _ _ l0 false _ ?side1 ?side2 A2.out).mono ?_); (case side1 => repeat (first | exact HR0.out | (with_reducible refine Kd.C_alloc ?_ _) | (with_reducible refine Kd.C_drewN ?_ _) | (with_reducible refine Kd.C_drew ?_))); (case side2 => exact HC0.out); rintro e w' ⟨rfl, ⟨nd, rfl⟩⟩; refine ⟨_, rfl, ?_⟩) | ((with_reducible refine gate_callee (f := 11) rfl ?_); refine goesL_ (some 20) rfl rfl Tryd.func11 (by kernel_rfl) rfl #[.slice A0 l0.length c0] rfl (by (try simp only [List.map_toArray, List.map_cons, List.map_nil]); first | done | rfl | (simp only [List.length_drop, List.length_take]; rfl)) ?_; (with_reducible refine (spec_DrawVar.calls k _ _ l0 t271 _ ?side1 ?side2 A4.out).mono ?_); (case side1 => repeat (first | exact HR0.out | (with_reducible refine Kd.C_alloc ?_ _) | (with_reducible refine Kd.C_drewN ?_ _) | (with_reducible refine Kd.C_drew ?_))); (case side2 => exact HC0.out); rintro e w10 ⟨rfl, hb⟩; refine ⟨_, rfl, ?_⟩; have n0_ := Aside0.mk (below_step (by repeat (first | (with_reducible first | exact HB.out | apply below_alloc | apply pw_below_drewN | apply below_drew1) | exact HB.out)) hb); clear HB; have HB := n0_; clear n0_; (try clear hb); (try clear hb2); (try clear hk); (try clear hi)) | ((with_reducible refine gate_callee (f := 12) rfl ?_); refine goesL_ (some 22) rfl rfl Tryd.func12 (by kernel_rfl) rfl #[.slice A0 l0.length c0] rfl (by (try simp only [List.map_toArray, List.map_cons, List.map_nil]); first | done | rfl | (simp only [List.length_drop, List.length_take]; rfl)) ?_; (with_reducible refine (spec_DrawHex.calls k _ _ l0 t272 _ ?side1 ?side2 A5.out).mono ?_); (case side1 => repeat (first | exact (Kd.C_below HR0.out HB.out) | (with_reducible refine Kd.C_alloc ?_ _) | (with_reducible refine Kd.C_drewN ?_ _) | (with_reducible refine Kd.C_drew ?_))); (case side2 => exact HC0.out); rintro e w11 ⟨rfl, hb⟩; refine ⟨_, rfl, ?_⟩; have n0_ := Aside0.mk (below_step (by repeat (first | (with_reducible first | exact HB.out | apply below_alloc | apply pw_below_drewN | apply below_drew1) | exact HB.out)) hb); clear HB; have HB := n0_; clear n0_; (try clear hb); (try clear hb2); (try clear hk); (try clear hi)) | ((with_reducible refine gate_callee (f := 13) rfl ?_); refine goesL_ (some 24) rfl rfl Tryd.func13 (by kernel_rfl) rfl #[.int .i64 t271] rfl (by (try simp only [List.map_toArray, List.map_cons, List.map_nil]); first | done | rfl | (simp only [List.length_drop, List.length_take]; rfl)) ?_; (with_reducible refine (impl_Var.calls k t271 t273 _ A6.out).mono ?_); rintro e w12 ⟨rfl, hb⟩; refine ⟨_, rfl, ?_⟩; have n0_ := Aside0.mk (below_step (by repeat (first | (with_reducible first | exact HB.out | apply below_alloc | apply pw_below_drewN | apply below_drew1) | exact HB.out)) hb); clear HB; have HB := n0_; clear n0_; (try clear hb); (try clear hb2); (try clear hk); (try clear hi)) | ((with_reducible refine gate_callee (f := 14) rfl ?_); refine goesL_ (some 29) rfl rfl Tryd.func14 (by kernel_rfl) rfl #[.string (t273 ++ t272)] rfl (by (try simp only [List.map_toArray, List.map_cons, List.map_nil]); first | done | rfl | (simp only [List.length_drop, List.length_take]; rfl)) ?_; (with_reducible refine (impl_ReadVar.calls k (t273 ++ t272) t274 t275 _ A8.out).mono ?_); rintro e w13 ⟨rfl, hb⟩; refine ⟨_, rfl, ?_⟩; have n0_ := Aside0.mk (below_step (by repeat (first | (with_reducible first | exact HB.out | apply below_alloc | apply pw_below_drewN | apply below_drew1) | exact HB.out)) hb); clear HB; have HB := n0_; clear n0_; (try clear hb); (try clear hb2); (try clear hk); (try clear hi)))
      (try simp only [Act.put, List.setIfInBounds_toArray, List.set_cons_zero, List.set_cons_succ])
      go_cut [55] (fun v55 wc => ∃ (kq : Nat) (x55_8 : Bool), v55 = .bool x55_8 ∧ Aside0 (laws_FnNumbers.j0 kq l0 t271 t272 x55_8 = some r) ∧ Aside0 (kq ≤ k) ∧ Aside0 (Below w.heap.size w wc))
      case first =>
        have H := HC9.out
        clear HC9
        by_cases c14 : t271 ≥ 0
        · rw [if_pos c14] at H
          have c14b0 : decide (0 ≤ t271) = true := decide_eq_true c14
          clear c14
          (first | rw [c14b0] | (simp only [i64_w, i32_w]; rw [c14b0]) | skip)
          by_cases c15 : ((t273.toList != ([] : List UInt8)) != (decide (t271 ≤ 562949953421311))) = true
          · rw [if_pos c15] at H
            have c15b0 : ((t273.toList != ([] : List UInt8)) != (decide (t271 ≤ 562949953421311))) = true := c15
            have c15e : (t273.toList.isEmpty = !decide (t271 ≤ 562949953421311)) = False := emp_ne _ _ c15b0
            (try (have c15b1 : decide ((t273.toList != ([] : List UInt8)) = (decide (t271 ≤ 562949953421311))) = false := by simpa using c15))
            (try (have c15b2 : ((t273.toList != ([] : List UInt8)) == (decide (t271 ≤ 562949953421311))) = false := by simpa using c15))
            (try (have c15b3 : ¬ ((t273.toList != ([] : List UInt8)) = (decide (t271 ≤ 562949953421311))) := by simpa using c15))
            clear c15
            have H' := Aside0.mk H
            clear H
            go_wp2
            go_meet
            case rel => exact ⟨_, (true), (by first | rfl | (simp; done) | (simp [*]; done)), H', ⟨by first | omega | exact Nat.le_refl _⟩, ⟨by repeat (first | (with_reducible first | exact HB.out | apply below_alloc | apply pw_below_drewN | apply below_drew1) | exact HB.out)⟩⟩
          · rw [if_neg c15] at H
            have c15b0 : ((t273.toList != ([] : List UInt8)) != (decide (t271 ≤ 562949953421311))) = false := by simpa using c15
            have c15e : (t273.toList.isEmpty = !decide (t271 ≤ 562949953421311)) = True := emp_eq _ _ c15b0
            (try (have c15b1 : decide ((t273.toList != ([] : List UInt8)) = (decide (t271 ≤ 562949953421311))) = true := by simpa using c15))
            (try (have c15b2 : ((t273.toList != ([] : List UInt8)) == (decide (t271 ≤ 562949953421311))) = true := by simpa using c15))
            clear c15
            by_cases c16 : t273.toList = ([] : List UInt8)
            · rw [if_pos c16] at H
              have c16b0 : (t273.toList == ([] : List UInt8)) = true := beq_iff_eq.mpr c16
              have c16b1 : (t273.toList != ([] : List UInt8)) = false := bne_eq_false_iff_eq.mpr c16
              have c16f : (t271 ≤ 562949953421311) = False := eq_false (by intro hp_; have h_ := c15b0; rw [c16b1, decide_eq_true hp_] at h_; exact absurd h_ (by decide))
              have c16e := eq_true c16
              clear c16
              have H' := Aside0.mk H
              clear H
              go_wp2
              go_meet
              case rel => exact ⟨_, (false), (by first | rfl | (simp; done) | (simp [*]; done)), H', ⟨by first | omega | exact Nat.le_refl _⟩, ⟨by repeat (first | (with_reducible first | exact HB.out | apply below_alloc | apply pw_below_drewN | apply below_drew1) | exact HB.out)⟩⟩
            · rw [if_neg c16] at H
              have c16b0 : (t273.toList == ([] : List UInt8)) = false := beq_eq_false_iff_ne.mpr c16
              have c16b1 : (t273.toList != ([] : List UInt8)) = true := bne_iff_ne.mpr c16
              have c16f : (t271 ≤ 562949953421311) = True := eq_true (by have h_ := c15b0; rw [c16b1] at h_; revert h_; cases hd_ : decide (t271 ≤ 562949953421311) <;> intro h_ <;> first | exact absurd h_ (by decide) | exact of_decide_eq_true hd_)
              by_cases c17 : t274 = t271
              · rw [if_pos c17] at H
                have c17b0 : (t274 == t271) = true := beq_iff_eq.mpr c17
                have c17b1 : (t274 != t271) = false := bne_eq_false_iff_eq.mpr c17
                clear c17
                have H' := Aside0.mk H
                clear H
                go_wp2
                go_meet
                case rel => exact ⟨_, ((t275 != (t273.size : Int))), (by first | rfl | (simp; done) | (simp [*]; done)), H', ⟨by first | omega | exact Nat.le_refl _⟩, ⟨by repeat (first | (with_reducible first | exact HB.out | apply below_alloc | apply pw_below_drewN | apply below_drew1) | exact HB.out)⟩⟩
              · rw [if_neg c17] at H
                have c17b0 : (t274 == t271) = false := beq_eq_false_iff_ne.mpr c17
                have c17b1 : (t274 != t271) = true := bne_iff_ne.mpr c17
                have H' := Aside0.mk H
                clear H
                go_wp2
                go_meet
                case rel => exact ⟨_, (true), (by first | rfl | (simp; done) | (simp [*]; done)), H', ⟨by first | omega | exact Nat.le_refl _⟩, ⟨by repeat (first | (with_reducible first | exact HB.out | apply below_alloc | apply pw_below_drewN | apply below_drew1) | exact HB.out)⟩⟩
        · rw [if_neg c14] at H
          have c14b0 : decide (0 ≤ t271) = false := decide_eq_false c14
          clear c14
          (first | rw [c14b0] | (simp only [i64_w, i32_w]; rw [c14b0]) | skip)
          by_cases c18 : ((t273.toList != ([] : List UInt8)) != false) = true
          · rw [if_pos c18] at H
            have c18b0 : ((t273.toList != ([] : List UInt8)) != false) = true := c18
            have c18e : (t273.toList = ([] : List UInt8)) = False := eq_false (by have h_ := c18b0; intro hz; rw [hz] at h_; exact absurd h_ (by decide))
            (try (have c18b1 : decide ((t273.toList != ([] : List UInt8)) = false) = false := by simpa using c18))
            (try (have c18b2 : ((t273.toList != ([] : List UInt8)) == false) = false := by simpa using c18))
            (try (have c18b3 : ¬ ((t273.toList != ([] : List UInt8)) = false) := by simpa using c18))
            clear c18
            have H' := Aside0.mk H
            clear H
            go_wp2
            go_meet
            case rel => exact ⟨_, (true), (by first | rfl | (simp; done) | (simp [*]; done)), H', ⟨by first | omega | exact Nat.le_refl _⟩, ⟨by repeat (first | (with_reducible first | exact HB.out | apply below_alloc | apply pw_below_drewN | apply below_drew1) | exact HB.out)⟩⟩
          · rw [if_neg c18] at H
            have c18b0 : ((t273.toList != ([] : List UInt8)) != false) = false := by simpa using c18
            (try (have c18b1 : decide ((t273.toList != ([] : List UInt8)) = false) = true := by simpa using c18))
            (try (have c18b2 : ((t273.toList != ([] : List UInt8)) == false) = true := by simpa using c18))
            clear c18
            by_cases c19 : t273.toList = ([] : List UInt8)
            · rw [if_pos c19] at H
              have c19b0 : (t273.toList == ([] : List UInt8)) = true := beq_iff_eq.mpr c19
              have c19b1 : (t273.toList != ([] : List UInt8)) = false := bne_eq_false_iff_eq.mpr c19
              have c19e := eq_true c19
              clear c19
              have H' := Aside0.mk H
              clear H
              go_wp2
              go_meet
              case rel => exact ⟨_, (false), (by first | rfl | (simp; done) | (simp [*]; done)), H', ⟨by first | omega | exact Nat.le_refl _⟩, ⟨by repeat (first | (with_reducible first | exact HB.out | apply below_alloc | apply pw_below_drewN | apply below_drew1) | exact HB.out)⟩⟩
            · rw [if_neg c19] at H
              have c19b0 : (t273.toList == ([] : List UInt8)) = false := beq_eq_false_iff_ne.mpr c19
              have c19b1 : (t273.toList != ([] : List UInt8)) = true := bne_iff_ne.mpr c19
              exact absurd c18b0 (by rw [c19b1]; decide)
      case rest =>
        clear HC9
        try clear c1
        try clear c2
        try clear p2
        try clear c3
        try clear c5
        try clear c7
        try clear c7b0
        try clear c7b1
        try clear c7b2
        try clear c10
        try clear c11
        try clear c12
        try clear c13
        try clear c14
        try clear c14b0
        try clear c15
        try clear c15b0
        try clear c15b1
        try clear c15b2
        try clear c16
        try clear c16b0
        try clear c16b1
        try clear c17
        try clear c17b0
        try clear c17b1
        try clear c18
        try clear c18b0
        try clear c18b1
        try clear c18b2
        try clear c19
        try clear c19b0
        try clear c19b1
        try clear c20
        try clear c20b0
        try clear c20b1
        obtain ⟨kq, x55_8, rfl, HA, HJ8, HB⟩ := hcut
        cases kq with
        | zero => exact absurd HA.out (by simp [laws_FnNumbers.j0])
        | succ kj8 =>
          have H := HA.out
          clear HA
          simp only [laws_FnNumbers.j0] at H
          by_cases c21 : x55_8 = true
          · subst c21
            have H1 : (some false) = some r := by rw [if_pos rfl] at H; exact H
            clear H
            have H := H1
            clear H1
            obtain rfl := Option.some.inj H
            exact absurd hq.out (by decide)
          · replace c21 := Bool.eq_false_iff.mpr c21
            subst c21
            have H1 : ((impl_Fixed.f kj8 t271 7).bind fun t276 => (if t276.size + t272.size ≤ 9223372036854775807 then ((impl_ReadFixed.f kj8 (t276 ++ t272) 7).bind fun bt277 => (if t276.toList = ([] : List UInt8) then (if t271 < 0 then (laws_FnNumbers.j1 kj8 l0 t271 t272 ((t276.toList == ([] : List UInt8)) != true)) else (laws_FnNumbers.j1 kj8 l0 t271 t272 ((t276.toList == ([] : List UInt8)) != (decide (t271 ≥ 72057594037927936))))) else (if bt277.2 = true then (if bt277.1 = t271 then (if (t276.size : Int) = 7 then (if t271 < 0 then (laws_FnNumbers.j1 kj8 l0 t271 t272 ((t276.toList == ([] : List UInt8)) != true)) else (laws_FnNumbers.j1 kj8 l0 t271 t272 ((t276.toList == ([] : List UInt8)) != (decide (t271 ≥ 72057594037927936))))) else (laws_FnNumbers.j1 kj8 l0 t271 t272 true)) else (laws_FnNumbers.j1 kj8 l0 t271 t272 true)) else (laws_FnNumbers.j1 kj8 l0 t271 t272 true)))) else (none))) = some r := by rw [if_neg (show ¬ (false = true) by decide)] at H; exact H
            clear H
            have H := H1
            clear H1
            replace H := Option.bind_eq_some_iff.mp H
            obtain ⟨t276, A220, H⟩ := H
            replace H : (if t276.size + t272.size ≤ 9223372036854775807 then ((impl_ReadFixed.f kj8 (t276 ++ t272) 7).bind fun bt277 => (if t276.toList = ([] : List UInt8) then (if t271 < 0 then (laws_FnNumbers.j1 kj8 l0 t271 t272 ((t276.toList == ([] : List UInt8)) != true)) else (laws_FnNumbers.j1 kj8 l0 t271 t272 ((t276.toList == ([] : List UInt8)) != (decide (t271 ≥ 72057594037927936))))) else (if bt277.2 = true then (if bt277.1 = t271 then (if (t276.size : Int) = 7 then (if t271 < 0 then (laws_FnNumbers.j1 kj8 l0 t271 t272 ((t276.toList == ([] : List UInt8)) != true)) else (laws_FnNumbers.j1 kj8 l0 t271 t272 ((t276.toList == ([] : List UInt8)) != (decide (t271 ≥ 72057594037927936))))) else (laws_FnNumbers.j1 kj8 l0 t271 t272 true)) else (laws_FnNumbers.j1 kj8 l0 t271 t272 true)) else (laws_FnNumbers.j1 kj8 l0 t271 t272 true)))) else (none)) = some r := H
            have A22 := Aside0.mk A220
            clear A220
            by_cases c23 : t276.size + t272.size ≤ 9223372036854775807
            · rw [if_pos c23] at H
              have c23b0 := eq_true c23
              have c23b1 : decide (t276.size + t272.size ≤ 9223372036854775807) = true := decide_eq_true c23
              try have c23b2 : (9223372036854775807 < t276.size + t272.size) = False := eq_false (Nat.not_lt.2 c23)
              replace H := Option.bind_eq_some_iff.mp H
              obtain ⟨⟨t277, t278⟩, A240, H⟩ := H
              replace H : (if t276.toList = ([] : List UInt8) then (if t271 < 0 then (laws_FnNumbers.j1 kj8 l0 t271 t272 ((t276.toList == ([] : List UInt8)) != true)) else (laws_FnNumbers.j1 kj8 l0 t271 t272 ((t276.toList == ([] : List UInt8)) != (decide (t271 ≥ 72057594037927936))))) else (if t278 = true then (if t277 = t271 then (if (t276.size : Int) = 7 then (if t271 < 0 then (laws_FnNumbers.j1 kj8 l0 t271 t272 ((t276.toList == ([] : List UInt8)) != true)) else (laws_FnNumbers.j1 kj8 l0 t271 t272 ((t276.toList == ([] : List UInt8)) != (decide (t271 ≥ 72057594037927936))))) else (laws_FnNumbers.j1 kj8 l0 t271 t272 true)) else (laws_FnNumbers.j1 kj8 l0 t271 t272 true)) else (laws_FnNumbers.j1 kj8 l0 t271 t272 true))) = some r := H
              have A24 := Aside0.mk A240
              clear A240
              have HC25 := Aside0.mk H
              clear H
              go_upto_region 11 with (first | ((with_reducible refine gate_callee (f := 15) rfl ?_); refine goesL_ (some 57) rfl rfl Tryd.func15 (by kernel_rfl) rfl #[.int .i64 t271, .int .i64 7] rfl (by (try simp only [List.map_toArray, List.map_cons, List.map_nil]); first | done | rfl | (simp only [List.length_drop, List.length_take]; rfl)) ?_; (with_reducible refine (impl_Fixed.calls kj8 t271 7 t276 _ A22.out).mono ?_); rintro e w26 ⟨rfl, hb⟩; refine ⟨_, rfl, ?_⟩; have n0_ := Aside0.mk (below_step (by repeat (first | (with_reducible first | exact HB.out | apply below_alloc | apply pw_below_drewN | apply below_drew1) | exact HB.out)) hb); clear HB; have HB := n0_; clear n0_; (try clear hb); (try clear hb2); (try clear hk); (try clear hi)) | ((with_reducible refine gate_callee (f := 16) rfl ?_); refine goesL_ (some 62) rfl rfl Tryd.func16 (by kernel_rfl) rfl #[.string (t276 ++ t272), .int .i64 7] rfl (by (try simp only [List.map_toArray, List.map_cons, List.map_nil]); first | done | rfl | (simp only [List.length_drop, List.length_take]; rfl)) ?_; (with_reducible refine (impl_ReadFixed.calls kj8 (t276 ++ t272) 7 t277 t278 _ A24.out).mono ?_); rintro e w' ⟨rfl, ⟨nd, rfl⟩⟩; refine ⟨_, rfl, ?_⟩))
              (try simp only [Act.put, List.setIfInBounds_toArray, List.set_cons_zero, List.set_cons_succ])
              go_cut [91] (fun v91 wc => ∃ (kq : Nat) (x91_24 : Bool), v91 = .bool x91_24 ∧ Aside0 (laws_FnNumbers.j1 kq l0 t271 t272 x91_24 = some r) ∧ Aside0 (kq ≤ kj8) ∧ Aside0 (Below w.heap.size w wc))
              case first =>
                have H := HC25.out
                clear HC25
                by_cases c27 : t276.toList = ([] : List UInt8)
                · rw [if_pos c27] at H
                  have c27b0 : (t276.toList == ([] : List UInt8)) = true := beq_iff_eq.mpr c27
                  have c27b1 : (t276.toList != ([] : List UInt8)) = false := bne_eq_false_iff_eq.mpr c27
                  have c27e := eq_true c27
                  clear c27
                  (first | rw [c27b0] | (simp only [i64_w, i32_w]; rw [c27b0]) | skip)
                  by_cases c28 : t271 < 0
                  · rw [if_pos c28] at H
                    have c28b0 : decide (t271 < 0) = true := decide_eq_true c28
                    clear c28
                    have H' := Aside0.mk H
                    clear H
                    go_wp2
                    go_meet
                    case rel => exact ⟨_, (((t276.toList == ([] : List UInt8)) != true)), (by first | rfl | (simp; done) | (simp [*]; done)), H', ⟨by have := HJ8.out; first | omega | exact Nat.le_refl _⟩, ⟨by repeat (first | (with_reducible first | exact HB.out | apply below_alloc | apply pw_below_drewN | apply below_drew1) | exact HB.out)⟩⟩
                  · rw [if_neg c28] at H
                    have c28b0 : decide (t271 < 0) = false := decide_eq_false c28
                    clear c28
                    have H' := Aside0.mk H
                    clear H
                    go_wp2
                    go_meet
                    case rel => exact ⟨_, (((t276.toList == ([] : List UInt8)) != (decide (t271 ≥ 72057594037927936)))), (by first | rfl | (simp; done) | (simp [*]; done)), H', ⟨by have := HJ8.out; first | omega | exact Nat.le_refl _⟩, ⟨by repeat (first | (with_reducible first | exact HB.out | apply below_alloc | apply pw_below_drewN | apply below_drew1) | exact HB.out)⟩⟩
                · rw [if_neg c27] at H
                  have c27b0 : (t276.toList == ([] : List UInt8)) = false := beq_eq_false_iff_ne.mpr c27
                  have c27b1 : (t276.toList != ([] : List UInt8)) = true := bne_iff_ne.mpr c27
                  (first | rw [c27b0] | (simp only [i64_w, i32_w]; rw [c27b0]) | skip)
                  by_cases c29 : t278 = true
                  · subst c29
                    have H1 : (if t277 = t271 then (if (t276.size : Int) = 7 then (if t271 < 0 then (laws_FnNumbers.j1 kj8 l0 t271 t272 ((t276.toList == ([] : List UInt8)) != true)) else (laws_FnNumbers.j1 kj8 l0 t271 t272 ((t276.toList == ([] : List UInt8)) != (decide (t271 ≥ 72057594037927936))))) else (laws_FnNumbers.j1 kj8 l0 t271 t272 true)) else (laws_FnNumbers.j1 kj8 l0 t271 t272 true)) = some r := by rw [if_pos rfl] at H; exact H
                    clear H
                    have H := H1
                    clear H1
                    by_cases c30 : t277 = t271
                    · rw [if_pos c30] at H
                      have c30b0 : (t277 == t271) = true := beq_iff_eq.mpr c30
                      have c30b1 : (t277 != t271) = false := bne_eq_false_iff_eq.mpr c30
                      clear c30
                      by_cases c31 : (t276.size : Int) = 7
                      · rw [if_pos c31] at H
                        have c31b0 : ((t276.size : Int) == 7) = true := beq_iff_eq.mpr c31
                        have c31b1 : ((t276.size : Int) != 7) = false := bne_eq_false_iff_eq.mpr c31
                        clear c31
                        by_cases c32 : t271 < 0
                        · rw [if_pos c32] at H
                          have c32b0 : decide (t271 < 0) = true := decide_eq_true c32
                          clear c32
                          have H' := Aside0.mk H
                          clear H
                          go_wp2
                          go_meet
                          case rel => exact ⟨_, (((t276.toList == ([] : List UInt8)) != true)), (by first | rfl | (simp; done) | (simp [*]; done)), H', ⟨by have := HJ8.out; first | omega | exact Nat.le_refl _⟩, ⟨by repeat (first | (with_reducible first | exact HB.out | apply below_alloc | apply pw_below_drewN | apply below_drew1) | exact HB.out)⟩⟩
                        · rw [if_neg c32] at H
                          have c32b0 : decide (t271 < 0) = false := decide_eq_false c32
                          clear c32
                          have H' := Aside0.mk H
                          clear H
                          go_wp2
                          go_meet
                          case rel => exact ⟨_, (((t276.toList == ([] : List UInt8)) != (decide (t271 ≥ 72057594037927936)))), (by first | rfl | (simp; done) | (simp [*]; done)), H', ⟨by have := HJ8.out; first | omega | exact Nat.le_refl _⟩, ⟨by repeat (first | (with_reducible first | exact HB.out | apply below_alloc | apply pw_below_drewN | apply below_drew1) | exact HB.out)⟩⟩
                      · rw [if_neg c31] at H
                        have c31b0 : ((t276.size : Int) == 7) = false := beq_eq_false_iff_ne.mpr c31
                        have c31b1 : ((t276.size : Int) != 7) = true := bne_iff_ne.mpr c31
                        have H' := Aside0.mk H
                        clear H
                        go_wp2
                        go_meet
                        case rel => exact ⟨_, (true), (by first | rfl | (simp; done) | (simp [*]; done)), H', ⟨by have := HJ8.out; first | omega | exact Nat.le_refl _⟩, ⟨by repeat (first | (with_reducible first | exact HB.out | apply below_alloc | apply pw_below_drewN | apply below_drew1) | exact HB.out)⟩⟩
                    · rw [if_neg c30] at H
                      have c30b0 : (t277 == t271) = false := beq_eq_false_iff_ne.mpr c30
                      have c30b1 : (t277 != t271) = true := bne_iff_ne.mpr c30
                      have H' := Aside0.mk H
                      clear H
                      go_wp2
                      go_meet
                      case rel => exact ⟨_, (true), (by first | rfl | (simp; done) | (simp [*]; done)), H', ⟨by have := HJ8.out; first | omega | exact Nat.le_refl _⟩, ⟨by repeat (first | (with_reducible first | exact HB.out | apply below_alloc | apply pw_below_drewN | apply below_drew1) | exact HB.out)⟩⟩
                  · replace c29 := Bool.eq_false_iff.mpr c29
                    subst c29
                    have H1 : (laws_FnNumbers.j1 kj8 l0 t271 t272 true) = some r := by rw [if_neg (show ¬ (false = true) by decide)] at H; exact H
                    clear H
                    have H := H1
                    clear H1
                    have H' := Aside0.mk H
                    clear H
                    go_wp2
                    go_meet
                    case rel => exact ⟨_, (true), (by first | rfl | (simp; done) | (simp [*]; done)), H', ⟨by have := HJ8.out; first | omega | exact Nat.le_refl _⟩, ⟨by repeat (first | (with_reducible first | exact HB.out | apply below_alloc | apply pw_below_drewN | apply below_drew1) | exact HB.out)⟩⟩
              case rest =>
                clear HC25
                try clear c1
                try clear c2
                try clear p2
                try clear c3
                try clear c5
                try clear c7
                try clear c7b0
                try clear c7b1
                try clear c7b2
                try clear c10
                try clear c11
                try clear c12
                try clear c13
                try clear c14
                try clear c14b0
                try clear c15
                try clear c15b0
                try clear c15b1
                try clear c15b2
                try clear c16
                try clear c16b0
                try clear c16b1
                try clear c17
                try clear c17b0
                try clear c17b1
                try clear c18
                try clear c18b0
                try clear c18b1
                try clear c18b2
                try clear c19
                try clear c19b0
                try clear c19b1
                try clear c20
                try clear c20b0
                try clear c20b1
                try clear c21
                try clear c23
                try clear c23b0
                try clear c23b1
                try clear c23b2
                try clear c27
                try clear c27b0
                try clear c27b1
                try clear c28
                try clear c28b0
                try clear c29
                try clear c30
                try clear c30b0
                try clear c30b1
                try clear c31
                try clear c31b0
                try clear c31b1
                try clear c32
                try clear c32b0
                try clear p2
                obtain ⟨kq, x91_24, rfl, HA, HJ24, HB⟩ := hcut
                cases kq with
                | zero => exact absurd HA.out (by simp [laws_FnNumbers.j1])
                | succ kj24 =>
                  have H := HA.out
                  clear HA
                  simp only [laws_FnNumbers.j1] at H
                  by_cases c33 : x91_24 = true
                  · subst c33
                    have H1 : (some false) = some r := by rw [if_pos rfl] at H; exact H
                    clear H
                    have H := H1
                    clear H1
                    obtain rfl := Option.some.inj H
                    exact absurd hq.out (by decide)
                  · replace c33 := Bool.eq_false_iff.mpr c33
                    subst c33
                    have H1 : ((impl_Dec.f t271).bind fun t279 => ((impl_ReadDec.f kj24 t279).bind fun bt280 => (if t271 > (-1000000000) then (if (bt280.2 != (decide (t271 < 1000000000))) = true then (laws_FnNumbers.j2 kj24 l0 t272 true) else (if bt280.2 = true then (laws_FnNumbers.j2 kj24 l0 t272 (bt280.1 != t271)) else (laws_FnNumbers.j2 kj24 l0 t272 false))) else (if (bt280.2 != false) = true then (laws_FnNumbers.j2 kj24 l0 t272 true) else (if bt280.2 = true then (laws_FnNumbers.j2 kj24 l0 t272 (bt280.1 != t271)) else (laws_FnNumbers.j2 kj24 l0 t272 false)))))) = some r := by rw [if_neg (show ¬ (false = true) by decide)] at H; exact H
                    clear H
                    have H := H1
                    clear H1
                    replace H := Option.bind_eq_some_iff.mp H
                    obtain ⟨t279, A340, H⟩ := H
                    replace H : ((impl_ReadDec.f kj24 t279).bind fun bt280 => (if t271 > (-1000000000) then (if (bt280.2 != (decide (t271 < 1000000000))) = true then (laws_FnNumbers.j2 kj24 l0 t272 true) else (if bt280.2 = true then (laws_FnNumbers.j2 kj24 l0 t272 (bt280.1 != t271)) else (laws_FnNumbers.j2 kj24 l0 t272 false))) else (if (bt280.2 != false) = true then (laws_FnNumbers.j2 kj24 l0 t272 true) else (if bt280.2 = true then (laws_FnNumbers.j2 kj24 l0 t272 (bt280.1 != t271)) else (laws_FnNumbers.j2 kj24 l0 t272 false))))) = some r := H
                    have A34 := Aside0.mk A340
                    clear A340
                    replace H := Option.bind_eq_some_iff.mp H
                    obtain ⟨⟨t280, t281⟩, A350, H⟩ := H
                    replace H : (if t271 > (-1000000000) then (if (t281 != (decide (t271 < 1000000000))) = true then (laws_FnNumbers.j2 kj24 l0 t272 true) else (if t281 = true then (laws_FnNumbers.j2 kj24 l0 t272 (t280 != t271)) else (laws_FnNumbers.j2 kj24 l0 t272 false))) else (if (t281 != false) = true then (laws_FnNumbers.j2 kj24 l0 t272 true) else (if t281 = true then (laws_FnNumbers.j2 kj24 l0 t272 (t280 != t271)) else (laws_FnNumbers.j2 kj24 l0 t272 false)))) = some r := H
                    have A35 := Aside0.mk A350
                    clear A350
                    have HC36 := Aside0.mk H
                    clear H
                    go_upto_region 14 with (first | ((with_reducible refine gate_callee (f := 7) rfl ?_); refine goesL_ (some 94) rfl rfl Tryd.func7 (by kernel_rfl) rfl #[.int .i64 t271] rfl (by (try simp only [List.map_toArray, List.map_cons, List.map_nil]); first | done | rfl | (simp only [List.length_drop, List.length_take]; rfl)) ?_; (with_reducible refine (impl_Dec.calls t271 t279 _ ?htab_ A34.out).mono ?_); (case htab_ => exact tabW HT.out (by repeat (first | (with_reducible first | exact HB.out | apply below_alloc | apply pw_below_drewN | apply below_drew1) | exact HB.out))); rintro e w37 ⟨rfl, hb⟩; refine ⟨_, rfl, ?_⟩; have n0_ := Aside0.mk (below_step (by repeat (first | (with_reducible first | exact HB.out | apply below_alloc | apply pw_below_drewN | apply below_drew1) | exact HB.out)) hb); clear HB; have HB := n0_; clear n0_; (try clear hb); (try clear hb2); (try clear hk); (try clear hi)) | ((with_reducible refine gate_callee (f := 9) rfl ?_); refine goesL_ (some 95) rfl rfl Tryd.func9 (by kernel_rfl) rfl #[.string t279] rfl (by (try simp only [List.map_toArray, List.map_cons, List.map_nil]); first | done | rfl | (simp only [List.length_drop, List.length_take]; rfl)) ?_; (with_reducible refine (impl_ReadDec.calls kj24 t279 t280 t281 _ ?htab_ A35.out).mono ?_); (case htab_ => exact tabW HT.out (by repeat (first | (with_reducible first | exact HB.out | apply below_alloc | apply pw_below_drewN | apply below_drew1) | exact HB.out))); rintro e w38 ⟨rfl, hb⟩; refine ⟨_, rfl, ?_⟩; have n0_ := Aside0.mk (below_step (by repeat (first | (with_reducible first | exact HB.out | apply below_alloc | apply pw_below_drewN | apply below_drew1) | exact HB.out)) hb); clear HB; have HB := n0_; clear n0_; (try clear hb); (try clear hb2); (try clear hk); (try clear hi)))
                    (try simp only [Act.put, List.setIfInBounds_toArray, List.set_cons_zero, List.set_cons_succ])
                    go_cut [113] (fun v113 wc => ∃ (kq : Nat) (x113_35 : Bool), v113 = .bool x113_35 ∧ Aside0 (laws_FnNumbers.j2 kq l0 t272 x113_35 = some r) ∧ Aside0 (kq ≤ kj24) ∧ Aside0 (Below w.heap.size w wc))
                    case first =>
                      have H := HC36.out
                      clear HC36
                      by_cases c39 : t271 > (-1000000000)
                      · rw [if_pos c39] at H
                        have c39b0 : decide ((-1000000000) < t271) = true := decide_eq_true c39
                        clear c39
                        (first | rw [c39b0] | (simp only [i64_w, i32_w]; rw [c39b0]) | skip)
                        by_cases c40 : (t281 != (decide (t271 < 1000000000))) = true
                        · rw [if_pos c40] at H
                          have c40b0 : (t281 != (decide (t271 < 1000000000))) = true := c40
                          (try (have c40b1 : decide (t281 = (decide (t271 < 1000000000))) = false := by simpa using c40))
                          (try (have c40b2 : (t281 == (decide (t271 < 1000000000))) = false := by simpa using c40))
                          (try (have c40b3 : ¬ (t281 = (decide (t271 < 1000000000))) := by simpa using c40))
                          clear c40
                          have H' := Aside0.mk H
                          clear H
                          go_wp2
                          go_meet
                          case rel => exact ⟨_, (true), (by first | rfl | (simp; done) | (simp [*]; done)), H', ⟨by have := HJ8.out; have := HJ24.out; first | omega | exact Nat.le_refl _⟩, ⟨by repeat (first | (with_reducible first | exact HB.out | apply below_alloc | apply pw_below_drewN | apply below_drew1) | exact HB.out)⟩⟩
                        · rw [if_neg c40] at H
                          have c40b0 : (t281 != (decide (t271 < 1000000000))) = false := by simpa using c40
                          (try (have c40b1 : decide (t281 = (decide (t271 < 1000000000))) = true := by simpa using c40))
                          (try (have c40b2 : (t281 == (decide (t271 < 1000000000))) = true := by simpa using c40))
                          clear c40
                          by_cases c41 : t281 = true
                          · subst c41
                            have H1 : (laws_FnNumbers.j2 kj24 l0 t272 (t280 != t271)) = some r := by rw [if_pos rfl] at H; exact H
                            clear H
                            have H := H1
                            clear H1
                            have H' := Aside0.mk H
                            clear H
                            go_wp2
                            go_meet
                            case rel => exact ⟨_, ((t280 != t271)), (by first | rfl | (simp; done) | (simp [*]; done)), H', ⟨by have := HJ8.out; have := HJ24.out; first | omega | exact Nat.le_refl _⟩, ⟨by repeat (first | (with_reducible first | exact HB.out | apply below_alloc | apply pw_below_drewN | apply below_drew1) | exact HB.out)⟩⟩
                          · replace c41 := Bool.eq_false_iff.mpr c41
                            subst c41
                            have H1 : (laws_FnNumbers.j2 kj24 l0 t272 false) = some r := by rw [if_neg (show ¬ (false = true) by decide)] at H; exact H
                            clear H
                            have H := H1
                            clear H1
                            have H' := Aside0.mk H
                            clear H
                            go_wp2
                            go_meet
                            case rel => exact ⟨_, (false), (by first | rfl | (simp; done) | (simp [*]; done)), H', ⟨by have := HJ8.out; have := HJ24.out; first | omega | exact Nat.le_refl _⟩, ⟨by repeat (first | (with_reducible first | exact HB.out | apply below_alloc | apply pw_below_drewN | apply below_drew1) | exact HB.out)⟩⟩
                      · rw [if_neg c39] at H
                        have c39b0 : decide ((-1000000000) < t271) = false := decide_eq_false c39
                        clear c39
                        (first | rw [c39b0] | (simp only [i64_w, i32_w]; rw [c39b0]) | skip)
                        by_cases c42 : (t281 != false) = true
                        · rw [if_pos c42] at H
                          have c42b0 : (t281 != false) = true := c42
                          (try (have c42b1 : decide (t281 = false) = false := by simpa using c42))
                          (try (have c42b2 : (t281 == false) = false := by simpa using c42))
                          (try (have c42b3 : ¬ (t281 = false) := by simpa using c42))
                          clear c42
                          have H' := Aside0.mk H
                          clear H
                          go_wp2
                          go_meet
                          case rel => exact ⟨_, (true), (by first | rfl | (simp; done) | (simp [*]; done)), H', ⟨by have := HJ8.out; have := HJ24.out; first | omega | exact Nat.le_refl _⟩, ⟨by repeat (first | (with_reducible first | exact HB.out | apply below_alloc | apply pw_below_drewN | apply below_drew1) | exact HB.out)⟩⟩
                        · rw [if_neg c42] at H
                          have c42b0 : (t281 != false) = false := by simpa using c42
                          (try (have c42b1 : decide (t281 = false) = true := by simpa using c42))
                          (try (have c42b2 : (t281 == false) = true := by simpa using c42))
                          clear c42
                          by_cases c43 : t281 = true
                          · subst c43
                            have H1 : (laws_FnNumbers.j2 kj24 l0 t272 (t280 != t271)) = some r := by rw [if_pos rfl] at H; exact H
                            clear H
                            have H := H1
                            clear H1
                            have H' := Aside0.mk H
                            clear H
                            go_wp2
                            go_meet
                            case rel => exact ⟨_, ((t280 != t271)), (by first | rfl | (simp; done) | (simp [*]; done)), H', ⟨by have := HJ8.out; have := HJ24.out; first | omega | exact Nat.le_refl _⟩, ⟨by repeat (first | (with_reducible first | exact HB.out | apply below_alloc | apply pw_below_drewN | apply below_drew1) | exact HB.out)⟩⟩
                          · replace c43 := Bool.eq_false_iff.mpr c43
                            subst c43
                            have H1 : (laws_FnNumbers.j2 kj24 l0 t272 false) = some r := by rw [if_neg (show ¬ (false = true) by decide)] at H; exact H
                            clear H
                            have H := H1
                            clear H1
                            have H' := Aside0.mk H
                            clear H
                            go_wp2
                            go_meet
                            case rel => exact ⟨_, (false), (by first | rfl | (simp; done) | (simp [*]; done)), H', ⟨by have := HJ8.out; have := HJ24.out; first | omega | exact Nat.le_refl _⟩, ⟨by repeat (first | (with_reducible first | exact HB.out | apply below_alloc | apply pw_below_drewN | apply below_drew1) | exact HB.out)⟩⟩
                    case rest =>
                      clear HC36
                      try clear c1
                      try clear c2
                      try clear p2
                      try clear c3
                      try clear c4
                      try clear c5
                      try clear c7
                      try clear c7b0
                      try clear c7b1
                      try clear c7b2
                      try clear c9
                      try clear c10
                      try clear c11
                      try clear c12
                      try clear c13
                      try clear c14
                      try clear c14b0
                      try clear c15
                      try clear c15b0
                      try clear c15b1
                      try clear c15b2
                      try clear c16
                      try clear c16b0
                      try clear c16b1
                      try clear c17
                      try clear c17b0
                      try clear c17b1
                      try clear c18
                      try clear c18b0
                      try clear c18b1
                      try clear c18b2
                      try clear c19
                      try clear c19b0
                      try clear c19b1
                      try clear c20
                      try clear c20b0
                      try clear c20b1
                      try clear c21
                      try clear c23
                      try clear c23b0
                      try clear c23b1
                      try clear c23b2
                      try clear c27
                      try clear c27b0
                      try clear c27b1
                      try clear c28
                      try clear c28b0
                      try clear c29
                      try clear c30
                      try clear c30b0
                      try clear c30b1
                      try clear c31
                      try clear c31b0
                      try clear c31b1
                      try clear c32
                      try clear c32b0
                      try clear c33
                      try clear c39
                      try clear c39b0
                      try clear c40
                      try clear c40b0
                      try clear c40b1
                      try clear c40b2
                      try clear c41
                      try clear c42
                      try clear c42b0
                      try clear c42b1
                      try clear c42b2
                      try clear c43
                      try clear p2
                      obtain ⟨kq, x113_35, rfl, HA, HJ35, HB⟩ := hcut
                      cases kq with
                      | zero => exact absurd HA.out (by simp [laws_FnNumbers.j2])
                      | succ kj35 =>
                        have H := HA.out
                        clear HA
                        simp only [laws_FnNumbers.j2] at H
                        by_cases c44 : x113_35 = true
                        · subst c44
                          have H1 : (some false) = some r := by rw [if_pos rfl] at H; exact H
                          clear H
                          have H := H1
                          clear H1
                          obtain rfl := Option.some.inj H
                          exact absurd hq.out (by decide)
                        · replace c44 := Bool.eq_false_iff.mpr c44
                          subst c44
                          have H1 : ((impl_Hex.f kj35 t272).bind fun t282 => ((impl_Unhex.f kj35 t282).bind fun bt283 => ((spec_DrawReadVar.f kj35 l0).bind fun t285 => ((impl_ReadVar.f kj35 t285).bind fun bt286 => (if bt283.2 = true then (if bt283.1.toList = t272.toList then (if bt286.2 = 0 then (some true) else (if bt286.2 > 0 then ((spec_DrawReadVar.f kj35 l0).bind fun t288 => (if bt286.2 ≤ (t288.size : Int) then ((spec_DrawReadVar.f kj35 l0).bind fun t289 => (if bt286.2 ≤ (t289.size : Int) then ((impl_Var.f kj35 bt286.1).bind fun t290 => ((spec_DrawReadVar.f kj35 l0).bind fun t291 => (if 0 ≤ bt286.2 then (if bt286.2 ≤ (t291.size : Int) then (some (t290.toList == (t291.extract 0 (bt286.2 : Int).toNat).toList)) else (none)) else (none)))) else (some false))) else (some false))) else (some false))) else (some false)) else (some false)))))) = some r := by rw [if_neg (show ¬ (false = true) by decide)] at H; exact H
                          clear H
                          have H := H1
                          clear H1
                          replace H := Option.bind_eq_some_iff.mp H
                          obtain ⟨t282, A450, H⟩ := H
                          replace H : ((impl_Unhex.f kj35 t282).bind fun bt283 => ((spec_DrawReadVar.f kj35 l0).bind fun t285 => ((impl_ReadVar.f kj35 t285).bind fun bt286 => (if bt283.2 = true then (if bt283.1.toList = t272.toList then (if bt286.2 = 0 then (some true) else (if bt286.2 > 0 then ((spec_DrawReadVar.f kj35 l0).bind fun t288 => (if bt286.2 ≤ (t288.size : Int) then ((spec_DrawReadVar.f kj35 l0).bind fun t289 => (if bt286.2 ≤ (t289.size : Int) then ((impl_Var.f kj35 bt286.1).bind fun t290 => ((spec_DrawReadVar.f kj35 l0).bind fun t291 => (if 0 ≤ bt286.2 then (if bt286.2 ≤ (t291.size : Int) then (some (t290.toList == (t291.extract 0 (bt286.2 : Int).toNat).toList)) else (none)) else (none)))) else (some false))) else (some false))) else (some false))) else (some false)) else (some false))))) = some r := H
                          have A45 := Aside0.mk A450
                          clear A450
                          replace H := Option.bind_eq_some_iff.mp H
                          obtain ⟨⟨t283, t284⟩, A460, H⟩ := H
                          replace H : ((spec_DrawReadVar.f kj35 l0).bind fun t285 => ((impl_ReadVar.f kj35 t285).bind fun bt286 => (if t284 = true then (if t283.toList = t272.toList then (if bt286.2 = 0 then (some true) else (if bt286.2 > 0 then ((spec_DrawReadVar.f kj35 l0).bind fun t288 => (if bt286.2 ≤ (t288.size : Int) then ((spec_DrawReadVar.f kj35 l0).bind fun t289 => (if bt286.2 ≤ (t289.size : Int) then ((impl_Var.f kj35 bt286.1).bind fun t290 => ((spec_DrawReadVar.f kj35 l0).bind fun t291 => (if 0 ≤ bt286.2 then (if bt286.2 ≤ (t291.size : Int) then (some (t290.toList == (t291.extract 0 (bt286.2 : Int).toNat).toList)) else (none)) else (none)))) else (some false))) else (some false))) else (some false))) else (some false)) else (some false)))) = some r := H
                          have A46 := Aside0.mk A460
                          clear A460
                          replace H := Option.bind_eq_some_iff.mp H
                          obtain ⟨t285, A470, H⟩ := H
                          replace H : ((impl_ReadVar.f kj35 t285).bind fun bt286 => (if t284 = true then (if t283.toList = t272.toList then (if bt286.2 = 0 then (some true) else (if bt286.2 > 0 then ((spec_DrawReadVar.f kj35 l0).bind fun t288 => (if bt286.2 ≤ (t288.size : Int) then ((spec_DrawReadVar.f kj35 l0).bind fun t289 => (if bt286.2 ≤ (t289.size : Int) then ((impl_Var.f kj35 bt286.1).bind fun t290 => ((spec_DrawReadVar.f kj35 l0).bind fun t291 => (if 0 ≤ bt286.2 then (if bt286.2 ≤ (t291.size : Int) then (some (t290.toList == (t291.extract 0 (bt286.2 : Int).toNat).toList)) else (none)) else (none)))) else (some false))) else (some false))) else (some false))) else (some false)) else (some false))) = some r := H
                          have A47 := Aside0.mk A470
                          clear A470
                          replace H := Option.bind_eq_some_iff.mp H
                          obtain ⟨⟨t286, t287⟩, A480, H⟩ := H
                          replace H : (if t284 = true then (if t283.toList = t272.toList then (if t287 = 0 then (some true) else (if t287 > 0 then ((spec_DrawReadVar.f kj35 l0).bind fun t288 => (if t287 ≤ (t288.size : Int) then ((spec_DrawReadVar.f kj35 l0).bind fun t289 => (if t287 ≤ (t289.size : Int) then ((impl_Var.f kj35 t286).bind fun t290 => ((spec_DrawReadVar.f kj35 l0).bind fun t291 => (if 0 ≤ t287 then (if t287 ≤ (t291.size : Int) then (some (t290.toList == (t291.extract 0 (t287 : Int).toNat).toList)) else (none)) else (none)))) else (some false))) else (some false))) else (some false))) else (some false)) else (some false)) = some r := H
                          have A48 := Aside0.mk A480
                          clear A480
                          by_cases c49 : t284 = true
                          · subst c49
                            have H1 : (if t283.toList = t272.toList then (if t287 = 0 then (some true) else (if t287 > 0 then ((spec_DrawReadVar.f kj35 l0).bind fun t288 => (if t287 ≤ (t288.size : Int) then ((spec_DrawReadVar.f kj35 l0).bind fun t289 => (if t287 ≤ (t289.size : Int) then ((impl_Var.f kj35 t286).bind fun t290 => ((spec_DrawReadVar.f kj35 l0).bind fun t291 => (if 0 ≤ t287 then (if t287 ≤ (t291.size : Int) then (some (t290.toList == (t291.extract 0 (t287 : Int).toNat).toList)) else (none)) else (none)))) else (some false))) else (some false))) else (some false))) else (some false)) = some r := by rw [if_pos rfl] at H; exact H
                            clear H
                            have H := H1
                            clear H1
                            by_cases c50 : t283.toList = t272.toList
                            · rw [if_pos c50] at H
                              have c50b0 : (t283.toList == t272.toList) = true := beq_iff_eq.mpr c50
                              have c50b1 : (t283.toList != t272.toList) = false := bne_eq_false_iff_eq.mpr c50
                              clear c50
                              by_cases c51 : t287 = 0
                              · rw [if_pos c51] at H
                                have c51b0 : (t287 == 0) = true := beq_iff_eq.mpr c51
                                have c51b1 : (t287 != 0) = false := bne_eq_false_iff_eq.mpr c51
                                clear c51
                                obtain rfl := Option.some.inj H
                                simp only [Option.some.injEq, Prod.mk.injEq] at H
                                obtain ⟨rfl⟩ := H
                                go_wp2_with (first | ((with_reducible refine gate_callee (f := 18) rfl ?_); refine goesL_ (some 116) rfl rfl Tryd.func18 (by kernel_rfl) rfl #[.string t272] rfl (by (try simp only [List.map_toArray, List.map_cons, List.map_nil]); first | done | rfl | (simp only [List.length_drop, List.length_take]; rfl)) ?_; (with_reducible refine (impl_Hex.calls kj35 t272 t282 _ A45.out).mono ?_); rintro e w52 ⟨rfl, hb⟩; refine ⟨_, rfl, ?_⟩; have n0_ := Aside0.mk (below_step (by repeat (first | (with_reducible first | exact HB.out | apply below_alloc | apply pw_below_drewN | apply below_drew1) | exact HB.out)) hb); clear HB; have HB := n0_; clear n0_; (try clear hb); (try clear hb2); (try clear hk); (try clear hi)) | ((with_reducible refine gate_callee (f := 17) rfl ?_); refine goesL_ (some 117) rfl rfl Tryd.func17 (by kernel_rfl) rfl #[.string t282] rfl (by (try simp only [List.map_toArray, List.map_cons, List.map_nil]); first | done | rfl | (simp only [List.length_drop, List.length_take]; rfl)) ?_; (with_reducible refine (impl_Unhex.calls kj35 t282 t283 true _ A46.out).mono ?_); rintro e w53 ⟨rfl, hb⟩; refine ⟨_, rfl, ?_⟩; have n0_ := Aside0.mk (below_step (by repeat (first | (with_reducible first | exact HB.out | apply below_alloc | apply pw_below_drewN | apply below_drew1) | exact HB.out)) hb); clear HB; have HB := n0_; clear n0_; (try clear hb); (try clear hb2); (try clear hk); (try clear hi)) | ((with_reducible refine gate_callee (f := 19) rfl ?_); refine goesL_ (some 122) rfl rfl Tryd.func19 (by kernel_rfl) rfl #[.slice A0 l0.length c0] rfl (by (try simp only [List.map_toArray, List.map_cons, List.map_nil]); first | done | rfl | (simp only [List.length_drop, List.length_take]; rfl)) ?_; (with_reducible refine (spec_DrawReadVar.calls kj35 _ _ l0 t285 _ ?side1 ?side2 A47.out).mono ?_); (case side1 => repeat (first | exact (Kd.C_below HR0.out HB.out) | (with_reducible refine Kd.C_alloc ?_ _) | (with_reducible refine Kd.C_drewN ?_ _) | (with_reducible refine Kd.C_drew ?_))); (case side2 => exact HC0.out); rintro e w54 ⟨rfl, hb⟩; refine ⟨_, rfl, ?_⟩; have n0_ := Aside0.mk (below_step (by repeat (first | (with_reducible first | exact HB.out | apply below_alloc | apply pw_below_drewN | apply below_drew1) | exact HB.out)) hb); clear HB; have HB := n0_; clear n0_; (try clear hb); (try clear hb2); (try clear hk); (try clear hi)) | ((with_reducible refine gate_callee (f := 14) rfl ?_); refine goesL_ (some 123) rfl rfl Tryd.func14 (by kernel_rfl) rfl #[.string t285] rfl (by (try simp only [List.map_toArray, List.map_cons, List.map_nil]); first | done | rfl | (simp only [List.length_drop, List.length_take]; rfl)) ?_; (with_reducible refine (impl_ReadVar.calls kj35 t285 t286 t287 _ A48.out).mono ?_); rintro e w55 ⟨rfl, hb⟩; refine ⟨_, rfl, ?_⟩; have n0_ := Aside0.mk (below_step (by repeat (first | (with_reducible first | exact HB.out | apply below_alloc | apply pw_below_drewN | apply below_drew1) | exact HB.out)) hb); clear HB; have HB := n0_; clear n0_; (try clear hb); (try clear hb2); (try clear hk); (try clear hi)))
                                go_ret
                                exact ⟨by first | rfl | (simp [errW_none, errW_some] <;> rfl) | (simp [*, errW_none, errW_some] <;> rfl), by repeat (first | (with_reducible first | exact HB.out | apply below_alloc | apply pw_below_drewN | apply below_drew1) | exact HB.out)⟩
                              · rw [if_neg c51] at H
                                have c51b0 : (t287 == 0) = false := beq_eq_false_iff_ne.mpr c51
                                have c51b1 : (t287 != 0) = true := bne_iff_ne.mpr c51
                                by_cases c56 : t287 > 0
                                · rw [if_pos c56] at H
                                  have c56b0 : decide (0 < t287) = true := decide_eq_true c56
                                  clear c56
                                  replace H := Option.bind_eq_some_iff.mp H
                                  obtain ⟨t288, A570, H⟩ := H
                                  replace H : (if t287 ≤ (t288.size : Int) then ((spec_DrawReadVar.f kj35 l0).bind fun t289 => (if t287 ≤ (t289.size : Int) then ((impl_Var.f kj35 t286).bind fun t290 => ((spec_DrawReadVar.f kj35 l0).bind fun t291 => (if 0 ≤ t287 then (if t287 ≤ (t291.size : Int) then (some (t290.toList == (t291.extract 0 (t287 : Int).toNat).toList)) else (none)) else (none)))) else (some false))) else (some false)) = some r := H
                                  have A57 := Aside0.mk A570
                                  clear A570
                                  obtain rfl : t285 = t288 := Option.some.inj (A47.out.symm.trans A57.out)
                                  by_cases c58 : t287 ≤ (t285.size : Int)
                                  · rw [if_pos c58] at H
                                    have c58b0 : decide (t287 ≤ (t285.size : Int)) = true := decide_eq_true c58
                                    clear c58
                                    replace H := Option.bind_eq_some_iff.mp H
                                    obtain ⟨t289, A590, H⟩ := H
                                    replace H : (if t287 ≤ (t289.size : Int) then ((impl_Var.f kj35 t286).bind fun t290 => ((spec_DrawReadVar.f kj35 l0).bind fun t291 => (if 0 ≤ t287 then (if t287 ≤ (t291.size : Int) then (some (t290.toList == (t291.extract 0 (t287 : Int).toNat).toList)) else (none)) else (none)))) else (some false)) = some r := H
                                    have A59 := Aside0.mk A590
                                    clear A590
                                    obtain rfl : t285 = t289 := Option.some.inj (A47.out.symm.trans A59.out)
                                    by_cases c60 : t287 ≤ (t285.size : Int)
                                    · rw [if_pos c60] at H
                                      have c60b0 : decide (t287 ≤ (t285.size : Int)) = true := decide_eq_true c60
                                      clear c60
                                      replace H := Option.bind_eq_some_iff.mp H
                                      obtain ⟨t290, A610, H⟩ := H
                                      replace H : ((spec_DrawReadVar.f kj35 l0).bind fun t291 => (if 0 ≤ t287 then (if t287 ≤ (t291.size : Int) then (some (t290.toList == (t291.extract 0 (t287 : Int).toNat).toList)) else (none)) else (none))) = some r := H
                                      have A61 := Aside0.mk A610
                                      clear A610
                                      replace H := Option.bind_eq_some_iff.mp H
                                      obtain ⟨t291, A620, H⟩ := H
                                      replace H : (if 0 ≤ t287 then (if t287 ≤ (t291.size : Int) then (some (t290.toList == (t291.extract 0 (t287 : Int).toNat).toList)) else (none)) else (none)) = some r := H
                                      have A62 := Aside0.mk A620
                                      clear A620
                                      obtain rfl : t285 = t291 := Option.some.inj (A47.out.symm.trans A62.out)
                                      by_cases c63 : 0 ≤ t287
                                      · rw [if_pos c63] at H
                                        have c63b0 := eq_true c63
                                        have c63b1 : decide (0 ≤ t287) = true := decide_eq_true c63
                                        clear c63
                                        by_cases c64 : t287 ≤ (t285.size : Int)
                                        · rw [if_pos c64] at H
                                          have c64b0 := eq_true c64
                                          have c64b1 : decide (t287 ≤ (t285.size : Int)) = true := decide_eq_true c64
                                          clear c64
                                          obtain rfl := Option.some.inj H
                                          simp only [Option.some.injEq, Prod.mk.injEq] at H
                                          obtain ⟨rfl⟩ := H
                                          go_wp2_with (first | ((with_reducible refine gate_callee (f := 18) rfl ?_); refine goesL_ (some 116) rfl rfl Tryd.func18 (by kernel_rfl) rfl #[.string t272] rfl (by (try simp only [List.map_toArray, List.map_cons, List.map_nil]); first | done | rfl | (simp only [List.length_drop, List.length_take]; rfl)) ?_; (with_reducible refine (impl_Hex.calls kj35 t272 t282 _ A45.out).mono ?_); rintro e w65 ⟨rfl, hb⟩; refine ⟨_, rfl, ?_⟩; have n0_ := Aside0.mk (below_step (by repeat (first | (with_reducible first | exact HB.out | apply below_alloc | apply pw_below_drewN | apply below_drew1) | exact HB.out)) hb); clear HB; have HB := n0_; clear n0_; (try clear hb); (try clear hb2); (try clear hk); (try clear hi)) | ((with_reducible refine gate_callee (f := 17) rfl ?_); refine goesL_ (some 117) rfl rfl Tryd.func17 (by kernel_rfl) rfl #[.string t282] rfl (by (try simp only [List.map_toArray, List.map_cons, List.map_nil]); first | done | rfl | (simp only [List.length_drop, List.length_take]; rfl)) ?_; (with_reducible refine (impl_Unhex.calls kj35 t282 t283 true _ A46.out).mono ?_); rintro e w66 ⟨rfl, hb⟩; refine ⟨_, rfl, ?_⟩; have n0_ := Aside0.mk (below_step (by repeat (first | (with_reducible first | exact HB.out | apply below_alloc | apply pw_below_drewN | apply below_drew1) | exact HB.out)) hb); clear HB; have HB := n0_; clear n0_; (try clear hb); (try clear hb2); (try clear hk); (try clear hi)) | ((with_reducible refine gate_callee (f := 19) rfl ?_); refine goesL_ (some 122) rfl rfl Tryd.func19 (by kernel_rfl) rfl #[.slice A0 l0.length c0] rfl (by (try simp only [List.map_toArray, List.map_cons, List.map_nil]); first | done | rfl | (simp only [List.length_drop, List.length_take]; rfl)) ?_; (with_reducible refine (spec_DrawReadVar.calls kj35 _ _ l0 t285 _ ?side1 ?side2 A47.out).mono ?_); (case side1 => repeat (first | exact (Kd.C_below HR0.out HB.out) | (with_reducible refine Kd.C_alloc ?_ _) | (with_reducible refine Kd.C_drewN ?_ _) | (with_reducible refine Kd.C_drew ?_))); (case side2 => exact HC0.out); rintro e w67 ⟨rfl, hb⟩; refine ⟨_, rfl, ?_⟩; have n0_ := Aside0.mk (below_step (by repeat (first | (with_reducible first | exact HB.out | apply below_alloc | apply pw_below_drewN | apply below_drew1) | exact HB.out)) hb); clear HB; have HB := n0_; clear n0_; (try clear hb); (try clear hb2); (try clear hk); (try clear hi)) | ((with_reducible refine gate_callee (f := 14) rfl ?_); refine goesL_ (some 123) rfl rfl Tryd.func14 (by kernel_rfl) rfl #[.string t285] rfl (by (try simp only [List.map_toArray, List.map_cons, List.map_nil]); first | done | rfl | (simp only [List.length_drop, List.length_take]; rfl)) ?_; (with_reducible refine (impl_ReadVar.calls kj35 t285 t286 t287 _ A48.out).mono ?_); rintro e w68 ⟨rfl, hb⟩; refine ⟨_, rfl, ?_⟩; have n0_ := Aside0.mk (below_step (by repeat (first | (with_reducible first | exact HB.out | apply below_alloc | apply pw_below_drewN | apply below_drew1) | exact HB.out)) hb); clear HB; have HB := n0_; clear n0_; (try clear hb); (try clear hb2); (try clear hk); (try clear hi)) | (go_at_call 19; (with_reducible refine (spec_DrawReadVar.calls kj35 _ _ l0 t285 _ ?side1 ?side2 A57.out).mono ?_); (case side1 => repeat (first | exact (Kd.C_below HR0.out HB.out) | (with_reducible refine Kd.C_alloc ?_ _) | (with_reducible refine Kd.C_drewN ?_ _) | (with_reducible refine Kd.C_drew ?_))); (case side2 => exact HC0.out); rintro e w69 ⟨rfl, hb⟩; have n0_ := Aside0.mk (below_step (by repeat (first | (with_reducible first | exact HB.out | apply below_alloc | apply pw_below_drewN | apply below_drew1) | exact HB.out)) hb); clear HB; have HB := n0_; clear n0_; (try clear hb); (try clear hb2); (try clear hk); (try clear hi)) | (go_at_call 19; (with_reducible refine (spec_DrawReadVar.calls kj35 _ _ l0 t285 _ ?side1 ?side2 A59.out).mono ?_); (case side1 => repeat (first | exact (Kd.C_below HR0.out HB.out) | (with_reducible refine Kd.C_alloc ?_ _) | (with_reducible refine Kd.C_drewN ?_ _) | (with_reducible refine Kd.C_drew ?_))); (case side2 => exact HC0.out); rintro e w70 ⟨rfl, hb⟩; have n0_ := Aside0.mk (below_step (by repeat (first | (with_reducible first | exact HB.out | apply below_alloc | apply pw_below_drewN | apply below_drew1) | exact HB.out)) hb); clear HB; have HB := n0_; clear n0_; (try clear hb); (try clear hb2); (try clear hk); (try clear hi)) | (go_at_call 13; (with_reducible refine (impl_Var.calls kj35 t286 t290 _ A61.out).mono ?_); rintro e w71 ⟨rfl, hb⟩; have n0_ := Aside0.mk (below_step (by repeat (first | (with_reducible first | exact HB.out | apply below_alloc | apply pw_below_drewN | apply below_drew1) | exact HB.out)) hb); clear HB; have HB := n0_; clear n0_; (try clear hb); (try clear hb2); (try clear hk); (try clear hi)) | (go_at_call 19; (with_reducible refine (spec_DrawReadVar.calls kj35 _ _ l0 t285 _ ?side1 ?side2 A62.out).mono ?_); (case side1 => repeat (first | exact (Kd.C_below HR0.out HB.out) | (with_reducible refine Kd.C_alloc ?_ _) | (with_reducible refine Kd.C_drewN ?_ _) | (with_reducible refine Kd.C_drew ?_))); (case side2 => exact HC0.out); rintro e w72 ⟨rfl, hb⟩; have n0_ := Aside0.mk (below_step (by repeat (first | (with_reducible first | exact HB.out | apply below_alloc | apply pw_below_drewN | apply below_drew1) | exact HB.out)) hb); clear HB; have HB := n0_; clear n0_; (try clear hb); (try clear hb2); (try clear hk); (try clear hi)))
                                          go_ret
                                          exact ⟨by first | rfl | (simp [errW_none, errW_some] <;> rfl) | (simp [*, errW_none, errW_some] <;> rfl), by repeat (first | (with_reducible first | exact HB.out | apply below_alloc | apply pw_below_drewN | apply below_drew1) | exact HB.out)⟩
                                        · rw [if_neg c64] at H
                                          exact absurd H (by simp)
                                      · rw [if_neg c63] at H
                                        exact absurd H (by simp)
                                    · rw [if_neg c60] at H
                                      have c60b0 : decide (t287 ≤ (t285.size : Int)) = false := decide_eq_false c60
                                      clear c60
                                      obtain rfl := Option.some.inj H
                                      exact absurd hq.out (by decide)
                                  · rw [if_neg c58] at H
                                    have c58b0 : decide (t287 ≤ (t285.size : Int)) = false := decide_eq_false c58
                                    clear c58
                                    obtain rfl := Option.some.inj H
                                    exact absurd hq.out (by decide)
                                · rw [if_neg c56] at H
                                  have c56b0 : decide (0 < t287) = false := decide_eq_false c56
                                  clear c56
                                  obtain rfl := Option.some.inj H
                                  exact absurd hq.out (by decide)
                            · rw [if_neg c50] at H
                              have c50b0 : (t283.toList == t272.toList) = false := beq_eq_false_iff_ne.mpr c50
                              have c50b1 : (t283.toList != t272.toList) = true := bne_iff_ne.mpr c50
                              obtain rfl := Option.some.inj H
                              exact absurd hq.out (by decide)
                          · replace c49 := Bool.eq_false_iff.mpr c49
                            subst c49
                            have H1 : (some false) = some r := by rw [if_neg (show ¬ (false = true) by decide)] at H; exact H
                            clear H
                            have H := H1
                            clear H1
                            obtain rfl := Option.some.inj H
                            exact absurd hq.out (by decide)
            · rw [if_neg c23] at H
              exact absurd H (by simp)
    · rw [if_neg c7] at H
      exact absurd H (by simp)

/-- THE ONE PURE STATEMENT of laws_FnNumbers: yours. -/
def laws_FnNumbers.Pure : Prop := ∀ (l0 : List Int), l0.length ≤ maxLen → l0.length * 1 ≤ 140737488351232 → (∀ x ∈ l0, (Lit.int .u8 x).wf = true) → ∃ k, laws_FnNumbers.f k l0 = some true
theorem laws_FnNumbers.walk (P : laws_FnNumbers.Pure) (a0 : Option Addr) (len0 cap0 : Nat) (z0 : List Int) (w : World) (ht : Lib.TabIs Tryd.prog w "internal/strconv.uint64pow10" .u64 Lib.pow10Tab) (w0 : (a0 = none ∧ len0 = 0 ∧ cap0 = 0 ∧ z0 = []) ∨ ∃ x, a0 = some x ∧ len0 ≤ cap0 ∧ cap0 ≤ maxLen ∧ z0.length = cap0 ∧ (∀ i, i < z0.length → w.cell? (x.add i) = some (.int .u8 (z0.getD i 0))) ∧ ∀ n ∈ z0, (Lit.int .u8 n).wf = true) (y0 : len0 * 1 ≤ 140737488351232) :
    Calls Tryd.prog 5 #[.slice a0 len0 cap0] w fun e w' => e = .returned (.bool true) ∧ Below w.heap.size w w' := by
  obtain ⟨l0, rfl, hr0, hm0, hw0, hc0⟩ := ReadsInt.ofRowC w0
  obtain ⟨k, h⟩ := P l0 hm0 y0 hw0
  refine (laws_FnNumbers.calls k _ _ l0 true w (Kd.C_of_reads (d := (0 : Int)) (h1 := fun _ => rfl) hr0) hc0 ⟨rfl⟩ ht h).mono ?_
  rintro e w' ⟨rfl, hd⟩
  exact ⟨rfl, hd⟩

end Go.Proofs.YtbdjconojnjgdaaDoor.HFnNumbers
