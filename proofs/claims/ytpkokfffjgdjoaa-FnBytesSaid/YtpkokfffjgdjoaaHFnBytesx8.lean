/- Functions of the program and what each call of them comes to, for the law FnBytes; written by a program of this session. No condition beyond those of each theorem. -/
import Derived.Test.YtpkokfffjgdjoaaHFnBytesx0
import Derived.Test.YtpkokfffjgdjoaaHFnBytesx2
import Derived.Test.YtpkokfffjgdjoaaHFnBytesx7
namespace Go.Proofs.Ytpkokfffjgdjoaa.HFnBytes
open Go.RowKit Go.Proofs.YtpkokfffjgdjoaaW.PrintWords Go.Proofs.YtpkokfffjgdjoaaW.PrintLast Go.Proofs.YtpkokfffjgdjoaaW.PrintMore
attribute [local go_sem] max2_int min2_int max_two min_two max_three min_three max_four min_four   -- for this text's walks alone
open List renaming setIfInBounds_toArray → s1_, set_cons_zero → s2_, set_cons_succ → s3_
set_option linter.unusedVariables false
set_option linter.unusedSimpArgs false

abbrev bs8_0 : Array Bool := #[false, false, false, false, false, false, false, false, false]
abbrev bs8_1 : Array Bool := #[true, false, false, false, false, false, false, false, false]
abbrev bs8_2 : Array Bool := #[true, true, false, false, false, false, false, false, false]
abbrev bs8_3 : Array Bool := #[true, true, true, false, false, false, false, false, false]
abbrev bs8_4 : Array Bool := #[true, true, true, true, false, false, false, false, false]
abbrev bs8_5 : Array Bool := #[false, false, false, false, false, false, false, false, false, false, false, false, false, false]
abbrev bs8_6 : Array Bool := #[true, false, false, false, false, false, false, false, false, false, false, false, false, false]
abbrev bs8_7 : Array Bool := #[true, true, false, false, false, false, false, false, false, false, false, false, false, false]
abbrev bs8_8 : Array Bool := #[true, true, true, false, false, false, false, false, false, false, false, false, false, false]
abbrev bs8_9 : Array Bool := #[true, true, true, true, false, false, false, false, false, false, false, false, false, false]
abbrev bs8_10 : Array Bool := #[true, true, true, true, false, false, false, false, false, true, false, false, false, false]
abbrev bs8_11 : Array Bool := #[true, true, true, true, false, false, false, false, false, true, true, false, false, false]
abbrev bs8_12 : Array Bool := #[true, true, true, true, false, false, false, false, false, true, true, true, false, false]
abbrev bs8_13 : Array Bool := #[true, true, true, true, true, false, false, false, false, true, true, true, false, false]
abbrev bs8_14 : Array Bool := #[true, true, true, true, true, true, false, false, false, true, true, true, false, false]
abbrev bs8_15 : Array Bool := #[true, true, true, true, true, true, true, false, false, true, true, true, false, false]
abbrev bs8_16 : Array Bool := #[true, true, true, true, true, true, true, true, false, true, true, true, false, false]
abbrev bs8_17 : Array Bool := #[true, true, true, true, true, true, true, true, true, true, true, true, false, false]
abbrev bs8_18 : Array Bool := #[true, true, true, true, true, true, true, true, true, true, true, true, true, false]
abbrev bs8_19 : Array Bool := #[true, true, true, true, true, true, true, true, true, true, true, true, true, true]
abbrev bs8_20 : Array Bool := #[false, false, false, false, false, false, false, false, false, false, false, false, false, false, false, false, false, false, false, false, false]
abbrev bs8_21 : Array Bool := #[true, false, false, false, false, false, false, false, false, false, false, false, false, false, false, false, false, false, false, false, false]
abbrev bs8_22 : Array Bool := #[true, true, false, false, false, false, false, false, false, false, false, false, false, false, false, false, false, false, false, false, false]
abbrev bs8_23 : Array Bool := #[true, true, true, false, false, false, false, false, false, false, false, false, false, false, false, false, false, false, false, false, false]
abbrev bs8_24 : Array Bool := #[true, true, true, true, false, false, false, false, false, false, false, false, false, false, false, false, false, false, false, false, false]
abbrev bs8_25 : Array Bool := #[true, true, true, true, true, false, false, false, false, false, false, false, false, false, false, false, false, false, false, false, false]
abbrev bs8_26 : Array Bool := #[true, true, true, true, true, false, false, true, false, false, false, false, false, false, false, false, false, false, false, false, false]
abbrev bs8_27 : Array Bool := #[true, true, true, true, true, false, false, true, false, false, false, false, false, false, false, true, false, false, false, false, false]
abbrev bs8_28 : Array Bool := #[true, true, true, true, true, false, false, true, false, false, false, false, false, false, false, true, true, false, false, false, false]
abbrev bs8_29 : Array Bool := #[true, true, true, true, true, false, false, true, false, false, false, false, false, false, false, true, true, true, false, false, false]
abbrev bs8_30 : Array Bool := #[true, true, true, true, true, false, false, true, false, false, false, false, false, false, false, true, true, true, true, false, false]
abbrev bs8_31 : Array Bool := #[true, true, true, true, true, true, false, true, false, false, false, false, false, false, false, true, true, true, true, false, false]
abbrev bs8_32 : Array Bool := #[true, true, true, true, true, true, true, true, false, false, false, false, false, false, false, true, true, true, true, false, false]
abbrev bs8_33 : Array Bool := #[true, true, true, true, true, true, true, true, true, false, false, false, false, false, false, true, true, true, true, false, false]
abbrev bs8_34 : Array Bool := #[true, true, true, true, true, true, true, true, true, true, false, false, false, false, false, true, true, true, true, false, false]
abbrev bs8_35 : Array Bool := #[true, true, true, true, true, true, true, true, true, true, true, false, false, false, false, true, true, true, true, false, false]
abbrev bs8_36 : Array Bool := #[true, true, true, true, true, true, true, true, true, true, true, true, false, false, false, true, true, true, true, false, false]
abbrev bs8_37 : Array Bool := #[true, true, true, true, true, true, true, true, true, true, true, true, true, false, false, true, true, true, true, false, false]
abbrev bs8_38 : Array Bool := #[true, true, true, true, true, true, true, true, true, true, true, true, true, true, false, true, true, true, true, false, false]
abbrev bs8_39 : Array Bool := #[true, true, true, true, true, true, true, true, true, true, true, true, true, true, true, true, true, true, true, false, false]
abbrev bs8_40 : Array Bool := #[true, true, true, true, true, true, true, true, true, true, true, true, true, true, true, true, true, true, true, true, false]
abbrev bs8_41 : Array Bool := #[true, true, true, true, true, true, true, true, true, true, true, true, true, true, true, true, true, true, true, true, true]
section
variable {P : Program}
theorem x8_upI {p q : Prop} (h : p) (f : p → q := by intro h_; repeat (first | (with_reducible first | exact h_ | apply IsS66.alloc | apply IsS66.drewN | apply IsS66.drew | apply IsS66.set_1 | apply IsS66.set_2 | refine IsS66.far ?_ (Aside0.out (by assumption)) _) | exact h_)) : q := f h
theorem x8_upBS {p q : Prop} (h : p) (f : p → q := by intro h_; repeat (first | (with_reducible first | exact h_ | apply below_alloc | apply pw_below_drewN | apply below_drew1 | refine below_set ?_ (IsS66.ge (Aside0.out (by assumption))) | refine below_set ?_ (Aside0.out (by assumption)) | refine below_set ?_ (Nat.le_trans (Aside0.out (by assumption)) (Aside0.out (by assumption)))) | exact h_)) : q := f h
end
/-! ### spec_l1Spoil: function 39 -/
def spec_l1Spoil.f (k : Nat) (s0_0 : List Int) (s0_1 : Int) (s0_2 : Int) (a1 : ByteArray) : Option (ByteArray × Int × Int) := if (a1.size : Int) = 0 then ((spec_l1Text.f k s0_0 s0_1 s0_2 3).bind fun bt320 => (some (bt320.1, bt320.2.1, bt320.2.2))) else ((spec_l1Below.f s0_0 s0_1 s0_2 (a1.size : Int)).bind fun bt323 => ((spec_l1Below.f s0_0 bt323.2.1 bt323.2.2 4).bind fun bt326 => (if bt326.1 = 0 then (if 0 ≤ bt323.1 then (if bt323.1 ≤ (a1.size : Int) then (if 0 ≤ (wrap64 (bt323.1 + 1)) then (if (wrap64 (bt323.1 + 1)) ≤ (a1.size : Int) then (if (a1.extract 0 (bt323.1 : Int).toNat).size + (a1.extract ((wrap64 (bt323.1 + 1)) : Int).toNat a1.size).size ≤ 9223372036854775807 then (some ((a1.extract 0 (bt323.1 : Int).toNat) ++ (a1.extract ((wrap64 (bt323.1 + 1)) : Int).toNat a1.size), bt326.2.1, bt326.2.2)) else (none)) else (none)) else (none)) else (none)) else (none)) else (if bt326.1 = 1 then (if 0 ≤ bt323.1 then (if bt323.1 ≤ (a1.size : Int) then ((spec_l1Byte.f s0_0 bt326.2.1 bt326.2.2).bind fun bt329 => ((some (([(bt329.1) % 256] : List Int) : List Int)).bind fun y332 => (if (a1.extract 0 (bt323.1 : Int).toNat).size + (strOfNums y332).size ≤ 9223372036854775807 then (if ((a1.extract 0 (bt323.1 : Int).toNat) ++ (strOfNums y332)).size + (a1.extract (bt323.1 : Int).toNat a1.size).size ≤ 9223372036854775807 then (some (((a1.extract 0 (bt323.1 : Int).toNat) ++ (strOfNums y332)) ++ (a1.extract (bt323.1 : Int).toNat a1.size), bt329.2.1, bt329.2.2)) else (none)) else (none)))) else (none)) else (none)) else (if bt326.1 = 2 then (if 0 ≤ bt323.1 then (if bt323.1 ≤ (a1.size : Int) then (some (a1.extract 0 (bt323.1 : Int).toNat, bt326.2.1, bt326.2.2)) else (none)) else (none)) else (if 0 ≤ bt323.1 then (if bt323.1 ≤ (a1.size : Int) then (if bt323.1 < (a1.size : Int) then ((spec_l1Below.f s0_0 bt326.2.1 bt326.2.2 255).bind fun bt335 => ((some (([(Go.bits .xor .i64 (wrap64 (bt a1 bt323.1)) (wrap64 (1 + bt335.1))) % 256] : List Int) : List Int)).bind fun y338 => (if (a1.extract 0 (bt323.1 : Int).toNat).size + (strOfNums y338).size ≤ 9223372036854775807 then (if 0 ≤ (wrap64 (bt323.1 + 1)) then (if (wrap64 (bt323.1 + 1)) ≤ (a1.size : Int) then (if ((a1.extract 0 (bt323.1 : Int).toNat) ++ (strOfNums y338)).size + (a1.extract ((wrap64 (bt323.1 + 1)) : Int).toNat a1.size).size ≤ 9223372036854775807 then (some (((a1.extract 0 (bt323.1 : Int).toNat) ++ (strOfNums y338)) ++ (a1.extract ((wrap64 (bt323.1 + 1)) : Int).toNat a1.size), bt335.2.1, bt335.2.2)) else (none)) else (none)) else (none)) else (none)))) else (none)) else (none)) else (none)))))))
theorem spec_l1Spoil.mono : ∀ a0 a1 a2 a3 k, LeO (spec_l1Spoil.f k a0 a1 a2 a3) (spec_l1Spoil.f (k + 1) a0 a1 a2 a3) := by
 intro a0 a1 a2 a3 k
 unfold spec_l1Spoil.f
 repeat' first
   | (with_reducible exact spec_l1Text.mono _ _ _ _ _)
   | (with_reducible exact LeO.refl _)
   | (with_reducible exact LeO.none _)
   | (with_reducible refine LeO.ite ?_ ?_)
   | (with_reducible refine LeO.bind ?_ (fun _ => ?_))
   | exact spec_l1Text.mono _ _ _ _ _
   | exact LeO.none _
   | refine LeO.ite ?_ ?_
   | refine LeO.bind ?_ (fun _ => ?_)
def spec_l1Spoil.T6 : Bool × List (List Nat × List Nat) := (true, [([], []), ([], []), ([0, 1], [0, 1]), ([], []), ([], []), ([4], [4]), ([3, 5], [3, 5]), ([2, 6], [2, 6]), ([7, 0, 1, 2, 3, 4, 5, 6, 7], [7])])
def spec_l1Spoil.B6 : List Nat := [0, 0, 3, 0, 0, 16, 56, 127, 255]
theorem spec_l1Spoil.tab6 : rtab .any (opsOf Try.f39 6) = spec_l1Spoil.T6 := by kernel_rfl
theorem spec_l1Spoil.bits6 : waitsOk spec_l1Spoil.T6.2 spec_l1Spoil.B6 = true := by kernel_rfl
def spec_l1Spoil.T8 : Bool × List (List Nat × List Nat) := (true, [([], []), ([], []), ([0, 1], [0, 1]), ([], []), ([3], [3]), ([4], [4]), ([5], [5]), ([6], [6]), ([2, 7], [2, 7]), ([], []), ([], []), ([9, 10], [9, 10]), ([8, 11], [8, 11]), ([12, 4, 0, 1, 2, 3, 4, 5, 6, 7, 8, 9, 10, 11, 12], [12])])
def spec_l1Spoil.B8 : List Nat := [0, 0, 3, 0, 8, 24, 56, 120, 255, 0, 0, 1536, 4095, 8191]
theorem spec_l1Spoil.tab8 : rtab .any (opsOf Try.f39 8) = spec_l1Spoil.T8 := by kernel_rfl
theorem spec_l1Spoil.bits8 : waitsOk spec_l1Spoil.T8.2 spec_l1Spoil.B8 = true := by kernel_rfl
def spec_l1Spoil.T11 : Bool × List (List Nat × List Nat) := (true, [([], []), ([], []), ([0, 1], [0, 1]), ([], []), ([], []), ([3, 4], [3, 4]), ([5], [5]), ([], []), ([7], [7]), ([8], [8]), ([6, 9], [6, 9]), ([10], [10]), ([11], [11]), ([12], [12]), ([2, 13], [2, 13]), ([], []), ([], []), ([16], [16]), ([15, 17], [15, 17]), ([14, 18], [14, 18]), ([19, 8, 0, 1, 2, 3, 4, 5, 6, 7, 8, 9, 10, 11, 12, 13, 14, 15, 16, 17, 18, 19], [19])])
def spec_l1Spoil.B11 : List Nat := [0, 0, 3, 0, 0, 24, 56, 0, 128, 384, 1016, 2040, 4088, 8184, 16383, 0, 0, 65536, 229376, 524287, 1048575]
theorem spec_l1Spoil.tab11 : rtab .any (opsOf Try.f39 11) = spec_l1Spoil.T11 := by kernel_rfl
theorem spec_l1Spoil.bits11 : waitsOk spec_l1Spoil.T11.2 spec_l1Spoil.B11 = true := by kernel_rfl
set_option maxHeartbeats 8000000 in
set_option maxRecDepth 100000 in
theorem spec_l1Spoil.calls (k : Nat) (g : Nat) (s0_0 : List Int) (s0_1 : Int) (s0_2 : Int) (a1 : ByteArray) (r1 : ByteArray) (r2 : Int) (r3 : Int) (w0 w : World) (hI : IsS66 w0 w g s0_0 s0_1 s0_2) (hB : Below w0.heap.size w0 w) (h : spec_l1Spoil.f k s0_0 s0_1 s0_2 a1 = some (r1, r2, r3)) :
  Calls Try.prog 39 #[.pointer (some ⟨g, 0, none⟩), .string a1] w fun e w' => e = .returned (.string r1) ∧ IsS66 w0 w' g s0_0 r2 r3 ∧ Below w0.heap.size w0 w' ∧ KeepBut w w' g none := by
 have HI0 := Aside0.mk hI; have HK := Aside0.mk (KeepBut.refl w g none); have HL := Aside0.mk hB.size; clear hI; have HW0 := Aside0.mk hB.size; have HB := Aside0.mk hB; clear hB
 have H : (if (a1.size : Int) = 0 then ((spec_l1Text.f k s0_0 s0_1 s0_2 3).bind fun bt320 => (some (bt320.1, bt320.2.1, bt320.2.2))) else ((spec_l1Below.f s0_0 s0_1 s0_2 (a1.size : Int)).bind fun bt323 => ((spec_l1Below.f s0_0 bt323.2.1 bt323.2.2 4).bind fun bt326 => (if bt326.1 = 0 then (if 0 ≤ bt323.1 then (if bt323.1 ≤ (a1.size : Int) then (if 0 ≤ (wrap64 (bt323.1 + 1)) then (if (wrap64 (bt323.1 + 1)) ≤ (a1.size : Int) then (if (a1.extract 0 (bt323.1 : Int).toNat).size + (a1.extract ((wrap64 (bt323.1 + 1)) : Int).toNat a1.size).size ≤ 9223372036854775807 then (some ((a1.extract 0 (bt323.1 : Int).toNat) ++ (a1.extract ((wrap64 (bt323.1 + 1)) : Int).toNat a1.size), bt326.2.1, bt326.2.2)) else (none)) else (none)) else (none)) else (none)) else (none)) else (if bt326.1 = 1 then (if 0 ≤ bt323.1 then (if bt323.1 ≤ (a1.size : Int) then ((spec_l1Byte.f s0_0 bt326.2.1 bt326.2.2).bind fun bt329 => ((some (([(bt329.1) % 256] : List Int) : List Int)).bind fun y332 => (if (a1.extract 0 (bt323.1 : Int).toNat).size + (strOfNums y332).size ≤ 9223372036854775807 then (if ((a1.extract 0 (bt323.1 : Int).toNat) ++ (strOfNums y332)).size + (a1.extract (bt323.1 : Int).toNat a1.size).size ≤ 9223372036854775807 then (some (((a1.extract 0 (bt323.1 : Int).toNat) ++ (strOfNums y332)) ++ (a1.extract (bt323.1 : Int).toNat a1.size), bt329.2.1, bt329.2.2)) else (none)) else (none)))) else (none)) else (none)) else (if bt326.1 = 2 then (if 0 ≤ bt323.1 then (if bt323.1 ≤ (a1.size : Int) then (some (a1.extract 0 (bt323.1 : Int).toNat, bt326.2.1, bt326.2.2)) else (none)) else (none)) else (if 0 ≤ bt323.1 then (if bt323.1 ≤ (a1.size : Int) then (if bt323.1 < (a1.size : Int) then ((spec_l1Below.f s0_0 bt326.2.1 bt326.2.2 255).bind fun bt335 => ((some (([(Go.bits .xor .i64 (wrap64 (bt a1 bt323.1)) (wrap64 (1 + bt335.1))) % 256] : List Int) : List Int)).bind fun y338 => (if (a1.extract 0 (bt323.1 : Int).toNat).size + (strOfNums y338).size ≤ 9223372036854775807 then (if 0 ≤ (wrap64 (bt323.1 + 1)) then (if (wrap64 (bt323.1 + 1)) ≤ (a1.size : Int) then (if ((a1.extract 0 (bt323.1 : Int).toNat) ++ (strOfNums y338)).size + (a1.extract ((wrap64 (bt323.1 + 1)) : Int).toNat a1.size).size ≤ 9223372036854775807 then (some (((a1.extract 0 (bt323.1 : Int).toNat) ++ (strOfNums y338)) ++ (a1.extract ((wrap64 (bt323.1 + 1)) : Int).toNat a1.size), bt335.2.1, bt335.2.2)) else (none)) else (none)) else (none)) else (none)))) else (none)) else (none)) else (none)))))))) = some (r1, r2, r3) := h
 clear h
 by_cases c3 : (a1.size : Int) = 0
 ·rw [if_pos c3] at H
  have c3b0 : ((a1.size : Int) == 0) = true := beq_iff_eq.mpr c3
  have c3b1 : ((a1.size : Int) != 0) = false := bne_eq_false_iff_eq.mpr c3
  clear c3; replace H := Option.bind_eq_some_iff.mp H
  obtain ⟨⟨t320, t321, t322⟩, A40, H⟩ := H
  replace H : (some (t320, t321, t322)) = some (r1, r2, r3) := H
  have A4 := Aside0.mk A40; clear A40
  simp only [Option.some.injEq, Prod.mk.injEq] at H
  obtain ⟨rfl, rfl, rfl⟩ := H
  go_enter Try.func39, Try.ntmps39
  go_wp2_with (first | ((with_reducible refine gate_callee (f := 50) rfl ?_); refine goesM (some 10) Try.func50 #[.pointer (some ⟨g, 0, none⟩), .int .i64 3] ?_; (with_reducible refine (spec_l1Text.calls k g s0_0 s0_1 s0_2 3 t320 t321 t322 w0 _ ?side1 ?side2 A4.out).mono ?_); (case side1 => exact x8_upI HI0.out); (case side2 => exact x8_upBS HB.out); rintro e w5 ⟨rfl, hi, hb, hk⟩; refine ⟨_, rfl, ?_⟩; have n0_ := Aside0.mk (KeepBut.trans (upKb HK.out) hk (.inl rfl)); have n1_ := Aside0.mk (hb); have n2_ := Aside0.mk (hi); clear HK; clear HB; clear HI0; have HK := n0_; have HB := n1_; have HI0 := n2_; clear n0_ n1_ n2_; (try clear hb); (try clear hb2); (try clear hk); (try clear hi)))
  go_ret
  exact ⟨by first | rfl | (simp [errW_none, errW_some] <;> rfl) | (simp [*, errW_none, errW_some] <;> rfl), x8_upI HI0.out, x8_upBS HB.out, upKb HK.out⟩
 ·rw [if_neg c3] at H
  have c3b0 : ((a1.size : Int) == 0) = false := beq_eq_false_iff_ne.mpr c3
  have c3b1 : ((a1.size : Int) != 0) = true := bne_iff_ne.mpr c3
  replace H := Option.bind_eq_some_iff.mp H
  obtain ⟨⟨t323, t324, t325⟩, A60, H⟩ := H
  replace H : ((spec_l1Below.f s0_0 t324 t325 4).bind fun bt326 => (if bt326.1 = 0 then (if 0 ≤ t323 then (if t323 ≤ (a1.size : Int) then (if 0 ≤ (wrap64 (t323 + 1)) then (if (wrap64 (t323 + 1)) ≤ (a1.size : Int) then (if (a1.extract 0 (t323 : Int).toNat).size + (a1.extract ((wrap64 (t323 + 1)) : Int).toNat a1.size).size ≤ 9223372036854775807 then (some ((a1.extract 0 (t323 : Int).toNat) ++ (a1.extract ((wrap64 (t323 + 1)) : Int).toNat a1.size), bt326.2.1, bt326.2.2)) else (none)) else (none)) else (none)) else (none)) else (none)) else (if bt326.1 = 1 then (if 0 ≤ t323 then (if t323 ≤ (a1.size : Int) then ((spec_l1Byte.f s0_0 bt326.2.1 bt326.2.2).bind fun bt329 => ((some (([(bt329.1) % 256] : List Int) : List Int)).bind fun y332 => (if (a1.extract 0 (t323 : Int).toNat).size + (strOfNums y332).size ≤ 9223372036854775807 then (if ((a1.extract 0 (t323 : Int).toNat) ++ (strOfNums y332)).size + (a1.extract (t323 : Int).toNat a1.size).size ≤ 9223372036854775807 then (some (((a1.extract 0 (t323 : Int).toNat) ++ (strOfNums y332)) ++ (a1.extract (t323 : Int).toNat a1.size), bt329.2.1, bt329.2.2)) else (none)) else (none)))) else (none)) else (none)) else (if bt326.1 = 2 then (if 0 ≤ t323 then (if t323 ≤ (a1.size : Int) then (some (a1.extract 0 (t323 : Int).toNat, bt326.2.1, bt326.2.2)) else (none)) else (none)) else (if 0 ≤ t323 then (if t323 ≤ (a1.size : Int) then (if t323 < (a1.size : Int) then ((spec_l1Below.f s0_0 bt326.2.1 bt326.2.2 255).bind fun bt335 => ((some (([(Go.bits .xor .i64 (wrap64 (bt a1 t323)) (wrap64 (1 + bt335.1))) % 256] : List Int) : List Int)).bind fun y338 => (if (a1.extract 0 (t323 : Int).toNat).size + (strOfNums y338).size ≤ 9223372036854775807 then (if 0 ≤ (wrap64 (t323 + 1)) then (if (wrap64 (t323 + 1)) ≤ (a1.size : Int) then (if ((a1.extract 0 (t323 : Int).toNat) ++ (strOfNums y338)).size + (a1.extract ((wrap64 (t323 + 1)) : Int).toNat a1.size).size ≤ 9223372036854775807 then (some (((a1.extract 0 (t323 : Int).toNat) ++ (strOfNums y338)) ++ (a1.extract ((wrap64 (t323 + 1)) : Int).toNat a1.size), bt335.2.1, bt335.2.2)) else (none)) else (none)) else (none)) else (none)))) else (none)) else (none)) else (none)))))) = some (r1, r2, r3) := H
  have A6 := Aside0.mk A60; clear A60; replace H := Option.bind_eq_some_iff.mp H
  obtain ⟨⟨t326, t327, t328⟩, A70, H⟩ := H
  replace H : (if t326 = 0 then (if 0 ≤ t323 then (if t323 ≤ (a1.size : Int) then (if 0 ≤ (wrap64 (t323 + 1)) then (if (wrap64 (t323 + 1)) ≤ (a1.size : Int) then (if (a1.extract 0 (t323 : Int).toNat).size + (a1.extract ((wrap64 (t323 + 1)) : Int).toNat a1.size).size ≤ 9223372036854775807 then (some ((a1.extract 0 (t323 : Int).toNat) ++ (a1.extract ((wrap64 (t323 + 1)) : Int).toNat a1.size), t327, t328)) else (none)) else (none)) else (none)) else (none)) else (none)) else (if t326 = 1 then (if 0 ≤ t323 then (if t323 ≤ (a1.size : Int) then ((spec_l1Byte.f s0_0 t327 t328).bind fun bt329 => ((some (([(bt329.1) % 256] : List Int) : List Int)).bind fun y332 => (if (a1.extract 0 (t323 : Int).toNat).size + (strOfNums y332).size ≤ 9223372036854775807 then (if ((a1.extract 0 (t323 : Int).toNat) ++ (strOfNums y332)).size + (a1.extract (t323 : Int).toNat a1.size).size ≤ 9223372036854775807 then (some (((a1.extract 0 (t323 : Int).toNat) ++ (strOfNums y332)) ++ (a1.extract (t323 : Int).toNat a1.size), bt329.2.1, bt329.2.2)) else (none)) else (none)))) else (none)) else (none)) else (if t326 = 2 then (if 0 ≤ t323 then (if t323 ≤ (a1.size : Int) then (some (a1.extract 0 (t323 : Int).toNat, t327, t328)) else (none)) else (none)) else (if 0 ≤ t323 then (if t323 ≤ (a1.size : Int) then (if t323 < (a1.size : Int) then ((spec_l1Below.f s0_0 t327 t328 255).bind fun bt335 => ((some (([(Go.bits .xor .i64 (wrap64 (bt a1 t323)) (wrap64 (1 + bt335.1))) % 256] : List Int) : List Int)).bind fun y338 => (if (a1.extract 0 (t323 : Int).toNat).size + (strOfNums y338).size ≤ 9223372036854775807 then (if 0 ≤ (wrap64 (t323 + 1)) then (if (wrap64 (t323 + 1)) ≤ (a1.size : Int) then (if ((a1.extract 0 (t323 : Int).toNat) ++ (strOfNums y338)).size + (a1.extract ((wrap64 (t323 + 1)) : Int).toNat a1.size).size ≤ 9223372036854775807 then (some (((a1.extract 0 (t323 : Int).toNat) ++ (strOfNums y338)) ++ (a1.extract ((wrap64 (t323 + 1)) : Int).toNat a1.size), bt335.2.1, bt335.2.2)) else (none)) else (none)) else (none)) else (none)))) else (none)) else (none)) else (none))))) = some (r1, r2, r3) := H
  have A7 := Aside0.mk A70; clear A70
  by_cases c8 : t326 = 0
  ·rw [if_pos c8] at H
   have c8b0 : (t326 == 0) = true := beq_iff_eq.mpr c8
   have c8b1 : (t326 != 0) = false := bne_eq_false_iff_eq.mpr c8
   clear c8
   by_cases c9 : 0 ≤ t323
   ·rw [if_pos c9] at H
    have c9b0 := eq_true c9
    have c9b1 : decide (0 ≤ t323) = true := decide_eq_true c9
    clear c9
    by_cases c10 : t323 ≤ (a1.size : Int)
    ·rw [if_pos c10] at H
     have c10b0 := eq_true c10
     have c10b1 : decide (t323 ≤ (a1.size : Int)) = true := decide_eq_true c10
     clear c10
     obtain ⟨ji11, hji11⟩ : ∃ j_ : Int, (wrap64 (t323 + 1)) = j_ := ⟨_, rfl⟩
     replace H : (if 0 ≤ (ji11) then (if (ji11) ≤ (a1.size : Int) then (if (a1.extract 0 (t323 : Int).toNat).size + (a1.extract ((ji11) : Int).toNat a1.size).size ≤ 9223372036854775807 then (some ((a1.extract 0 (t323 : Int).toNat) ++ (a1.extract ((ji11) : Int).toNat a1.size), t327, t328)) else (none)) else (none)) else (none)) = some (r1, r2, r3) := by first | (rw [hji11] at H; exact H) | (simp only [hji11] at H ⊢; exact H)
     (try rw [hji11] at A6)
     (try rw [hji11] at A7)
     have hji11w : (IntKind.i64.wrap (t323 + 1)) = ji11 := (i64_w _).trans hji11
     by_cases c12 : 0 ≤ (ji11)
     ·rw [if_pos c12] at H
      have c12b0 := eq_true c12
      have c12b1 : decide (0 ≤ (ji11)) = true := decide_eq_true c12
      clear c12
      by_cases c13 : (ji11) ≤ (a1.size : Int)
      ·rw [if_pos c13] at H
       have c13b0 := eq_true c13
       have c13b1 : decide ((ji11) ≤ (a1.size : Int)) = true := decide_eq_true c13
       clear c13
       by_cases c14 : (a1.extract 0 (t323 : Int).toNat).size + (a1.extract ((ji11) : Int).toNat a1.size).size ≤ 9223372036854775807
       ·rw [if_pos c14] at H
        have c14b0 := eq_true c14
        have c14b1 : decide ((a1.extract 0 (t323 : Int).toNat).size + (a1.extract ((ji11) : Int).toNat a1.size).size ≤ 9223372036854775807) = true := decide_eq_true c14
        try have c14b2 : (9223372036854775807 < (a1.extract 0 (t323 : Int).toNat).size + (a1.extract ((ji11) : Int).toNat a1.size).size) = False := eq_false (Nat.not_lt.2 c14)
        have c14ze := eq_false (Nat.not_lt.2 c14)
        try simp only [ByteArray.size_append, ByteArray.size_extract, Nat.sub_zero, Nat.min_self] at c14ze
        try rw [Nat.min_eq_left (show (t323 : Int).toNat ≤ a1.size by have h_ := of_decide_eq_true c10b1; omega)] at c14ze
        simp only [Option.some.injEq, Prod.mk.injEq] at H
        obtain ⟨rfl, rfl, rfl⟩ := H
        go_enter Try.func39, Try.ntmps39
        try go_wp2_with (first | ((with_reducible refine gate_callee (f := 38) rfl ?_); refine goesM (some 14) Try.func38 #[.pointer (some ⟨g, 0, none⟩), .int .i64 (a1.size : Int)] ?_; (with_reducible refine (spec_l1Below.calls g s0_0 s0_1 s0_2 (a1.size : Int) t323 t324 t325 w0 _ ?side1 ?side2 A6.out).mono ?_); (case side1 => exact x8_upI HI0.out); (case side2 => exact x8_upBS HB.out); rintro e w15 ⟨rfl, hi, hb, hk⟩; refine ⟨_, rfl, ?_⟩; have n0_ := Aside0.mk (KeepBut.trans (upKb HK.out) hk (.inl rfl)); have n1_ := Aside0.mk (hb); have n2_ := Aside0.mk (hi); clear HK; clear HB; clear HI0; have HK := n0_; have HB := n1_; have HI0 := n2_; clear n0_ n1_ n2_; (try clear hb); (try clear hb2); (try clear hk); (try clear hi)) | ((with_reducible refine gate_callee (f := 38) rfl ?_); refine goesM (some 16) Try.func38 #[.pointer (some ⟨g, 0, none⟩), .int .i64 4] ?_; (with_reducible refine (spec_l1Below.calls g s0_0 t324 t325 4 t326 t327 t328 w0 _ ?side1 ?side2 A7.out).mono ?_); (case side1 => exact x8_upI HI0.out); (case side2 => exact x8_upBS HB.out); rintro e w16 ⟨rfl, hi, hb, hk⟩; refine ⟨_, rfl, ?_⟩; have n0_ := Aside0.mk (KeepBut.trans (upKb HK.out) hk (.inl rfl)); have n1_ := Aside0.mk (hb); have n2_ := Aside0.mk (hi); clear HK; clear HB; clear HI0; have HK := n0_; have HB := n1_; have HI0 := n2_; clear n0_ n1_ n2_; (try clear hb); (try clear hb2); (try clear hk); (try clear hi)))
        have n0_ := Aside0.mk (IsS66.drew HI0.out); have n1_ := Aside0.mk (keep_drew HK.out); have n2_ := Aside0.mk (below_drew1 HB.out); clear HI0; clear HK; clear HB; have HI0 := n0_; have HK := n1_; have HB := n2_; clear n0_ n1_ n2_
        refine start_ (n := 9) (S := fun w' => True) (ds := []) bs8_0 (by kernel_rfl) rfl rfl trivial (fun hHeld => ?_); refine with_tabW spec_l1Spoil.tab6 spec_l1Spoil.bits6 (fun HT_ HW_ => ?_)
        generalize w16.drew = w17 at HI0 HK HB hHeld ⊢
        refine purA 0 19 bs8_1 HT_.out ?_
        refine purA 1 20 bs8_2 HT_.out ?_
        refine purA 2 21 bs8_3 HT_.out ?_
        refine purA 3 22 bs8_4 HT_.out ?_
        refine purA 4 23 #[true, true, true, true, true, false, false, false, false] HT_.out ?_
        refine purA 5 24 #[true, true, true, true, true, true, false, false, false] HT_.out ?_
        refine purA 6 25 #[true, true, true, true, true, true, true, false, false] HT_.out ?_
        refine purA 7 26 #[true, true, true, true, true, true, true, true, false] HT_.out ?_
        refine purA 8 4 #[true, true, true, true, true, true, true, true, true] HT_.out ?_
        refine done_ (done_of HT_.out (by kernel_rfl)) ?_
        try go_wp2
        go_ret
        exact ⟨by first | rfl | (simp [errW_none, errW_some] <;> rfl) | (simp only [← hji11]; first | rfl | (simp [errW_none, errW_some] <;> rfl)) | (simp [*, errW_none, errW_some] <;> rfl), x8_upI HI0.out, x8_upBS HB.out, upKb HK.out⟩
       ·rw [if_neg c14] at H
        exact absurd H (by simp)
      ·rw [if_neg c13] at H
       exact absurd H (by simp)
     ·rw [if_neg c12] at H
      exact absurd H (by simp)
    ·rw [if_neg c10] at H
     exact absurd H (by simp)
   ·rw [if_neg c9] at H
    exact absurd H (by simp)
  ·rw [if_neg c8] at H
   have c8b0 : (t326 == 0) = false := beq_eq_false_iff_ne.mpr c8
   have c8b1 : (t326 != 0) = true := bne_iff_ne.mpr c8
   by_cases c18 : t326 = 1
   ·rw [if_pos c18] at H
    have c18b0 : (t326 == 1) = true := beq_iff_eq.mpr c18
    have c18b1 : (t326 != 1) = false := bne_eq_false_iff_eq.mpr c18
    clear c18
    by_cases c19 : 0 ≤ t323
    ·rw [if_pos c19] at H
     have c19b0 := eq_true c19
     have c19b1 : decide (0 ≤ t323) = true := decide_eq_true c19
     clear c19
     by_cases c20 : t323 ≤ (a1.size : Int)
     ·rw [if_pos c20] at H
      have c20b0 := eq_true c20
      have c20b1 : decide (t323 ≤ (a1.size : Int)) = true := decide_eq_true c20
      clear c20; replace H := Option.bind_eq_some_iff.mp H
      obtain ⟨⟨t329, t330, t331⟩, A210, H⟩ := H
      replace H : ((some (([(t329) % 256] : List Int) : List Int)).bind fun y332 => (if (a1.extract 0 (t323 : Int).toNat).size + (strOfNums y332).size ≤ 9223372036854775807 then (if ((a1.extract 0 (t323 : Int).toNat) ++ (strOfNums y332)).size + (a1.extract (t323 : Int).toNat a1.size).size ≤ 9223372036854775807 then (some (((a1.extract 0 (t323 : Int).toNat) ++ (strOfNums y332)) ++ (a1.extract (t323 : Int).toNat a1.size), t330, t331)) else (none)) else (none))) = some (r1, r2, r3) := H
      have A21 := Aside0.mk A210; clear A210
      obtain ⟨y332, hy332⟩ : ∃ y_ : List Int, y_ = (([(t329) % 256] : List Int)) := ⟨_, rfl⟩
      replace H : (if (a1.extract 0 (t323 : Int).toNat).size + (strOfNums y332).size ≤ 9223372036854775807 then (if ((a1.extract 0 (t323 : Int).toNat) ++ (strOfNums y332)).size + (a1.extract (t323 : Int).toNat a1.size).size ≤ 9223372036854775807 then (some (((a1.extract 0 (t323 : Int).toNat) ++ (strOfNums y332)) ++ (a1.extract (t323 : Int).toNat a1.size), t330, t331)) else (none)) else (none)) = some (r1, r2, r3) := by first | (rw [hy332]; with_reducible exact H) | (have H2_ := (Option.bind_some _ _).symm.trans H; rw [hy332]; with_reducible exact H2_) | (have H2_ := (Option.bind_some _ _).symm.trans H; with_reducible exact H2_) | with_reducible exact H | (rw [hy332]; exact H) | exact H
      have Ny332 := Aside0.mk hy332; clear hy332
      by_cases c22 : (a1.extract 0 (t323 : Int).toNat).size + (strOfNums y332).size ≤ 9223372036854775807
      ·rw [if_pos c22] at H
       have c22b0 := eq_true c22
       have c22b1 : decide ((a1.extract 0 (t323 : Int).toNat).size + (strOfNums y332).size ≤ 9223372036854775807) = true := decide_eq_true c22
       try have c22b2 : (9223372036854775807 < (a1.extract 0 (t323 : Int).toNat).size + (strOfNums y332).size) = False := eq_false (Nat.not_lt.2 c22)
       have c22ze := eq_false (Nat.not_lt.2 c22)
       try simp only [ByteArray.size_append, ByteArray.size_extract, Nat.sub_zero, Nat.min_self] at c22ze
       try rw [Nat.min_eq_left (show (t323 : Int).toNat ≤ a1.size by have h_ := of_decide_eq_true c20b1; omega)] at c22ze
       have c23b0 := eq_true (of_decide_eq_true (by first | (with_reducible assumption) | assumption) : 0 ≤ t323)
       have c24b0 := eq_true (of_decide_eq_true (by first | (with_reducible assumption) | assumption) : t323 ≤ (a1.size : Int))
       by_cases c25 : ((a1.extract 0 (t323 : Int).toNat) ++ (strOfNums y332)).size + (a1.extract (t323 : Int).toNat a1.size).size ≤ 9223372036854775807
       ·rw [if_pos c25] at H
        have c25b0 := eq_true c25
        have c25b1 : decide (((a1.extract 0 (t323 : Int).toNat) ++ (strOfNums y332)).size + (a1.extract (t323 : Int).toNat a1.size).size ≤ 9223372036854775807) = true := decide_eq_true c25
        try have c25b2 : (9223372036854775807 < ((a1.extract 0 (t323 : Int).toNat) ++ (strOfNums y332)).size + (a1.extract (t323 : Int).toNat a1.size).size) = False := eq_false (Nat.not_lt.2 c25)
        have c25z := eq_false (Nat.not_lt.2 c25)
        try simp only [ByteArray.size_append] at c25z
        have c25ze := eq_false (Nat.not_lt.2 c25)
        try simp only [ByteArray.size_append, ByteArray.size_extract, Nat.sub_zero, Nat.min_self] at c25ze
        try rw [Nat.min_eq_left (show (t323 : Int).toNat ≤ a1.size by have h_ := of_decide_eq_true c20b1; omega)] at c25ze
        simp only [Option.some.injEq, Prod.mk.injEq] at H
        obtain ⟨rfl, rfl, rfl⟩ := H
        go_enter Try.func39, Try.ntmps39
        try go_wp2_with (first | ((with_reducible refine gate_callee (f := 38) rfl ?_); refine goesM (some 14) Try.func38 #[.pointer (some ⟨g, 0, none⟩), .int .i64 (a1.size : Int)] ?_; (with_reducible refine (spec_l1Below.calls g s0_0 s0_1 s0_2 (a1.size : Int) t323 t324 t325 w0 _ ?side1 ?side2 A6.out).mono ?_); (case side1 => exact x8_upI HI0.out); (case side2 => exact x8_upBS HB.out); rintro e w26 ⟨rfl, hi, hb, hk⟩; refine ⟨_, rfl, ?_⟩; have n0_ := Aside0.mk (KeepBut.trans (upKb HK.out) hk (.inl rfl)); have n1_ := Aside0.mk (hb); have n2_ := Aside0.mk (hi); clear HK; clear HB; clear HI0; have HK := n0_; have HB := n1_; have HI0 := n2_; clear n0_ n1_ n2_; (try clear hb); (try clear hb2); (try clear hk); (try clear hi)) | ((with_reducible refine gate_callee (f := 38) rfl ?_); refine goesM (some 16) Try.func38 #[.pointer (some ⟨g, 0, none⟩), .int .i64 4] ?_; (with_reducible refine (spec_l1Below.calls g s0_0 t324 t325 4 t326 t327 t328 w0 _ ?side1 ?side2 A7.out).mono ?_); (case side1 => exact x8_upI HI0.out); (case side2 => exact x8_upBS HB.out); rintro e w27 ⟨rfl, hi, hb, hk⟩; refine ⟨_, rfl, ?_⟩; have n0_ := Aside0.mk (KeepBut.trans (upKb HK.out) hk (.inl rfl)); have n1_ := Aside0.mk (hb); have n2_ := Aside0.mk (hi); clear HK; clear HB; clear HI0; have HK := n0_; have HB := n1_; have HI0 := n2_; clear n0_ n1_ n2_; (try clear hb); (try clear hb2); (try clear hk); (try clear hi)))
        have n0_ := Aside0.mk (IsS66.drew HI0.out); have n1_ := Aside0.mk (keep_drew HK.out); have n2_ := Aside0.mk (below_drew1 HB.out); clear HI0; clear HK; clear HB; have HI0 := n0_; have HK := n1_; have HB := n2_; clear n0_ n1_ n2_
        refine start_ (n := 14) (S := fun w' => True) (ds := []) bs8_5 (by kernel_rfl) rfl rfl trivial (fun hHeld => ?_); refine with_tabW spec_l1Spoil.tab8 spec_l1Spoil.bits8 (fun HT_ HW_ => ?_)
        generalize w27.drew = w28 at HI0 HK HB hHeld ⊢
        refine purA 0 29 bs8_6 HT_.out ?_
        refine purA 1 30 bs8_7 HT_.out ?_
        refine purA 2 31 bs8_8 HT_.out ?_
        refine purA 3 32 bs8_9 HT_.out ?_
        refine purA 9 38 bs8_10 HT_.out ?_
        refine purA 10 39 bs8_11 HT_.out ?_
        refine purA 11 40 bs8_12 HT_.out ?_
        refine one_ (i := 4) (N := some 33) bs8_13 rfl rfl (one_of HT_.out (by kernel_rfl)) (by decide) (fun K hK => ?_)
        refine goes_ Try.func56 (by kernel_rfl) rfl #[.pointer (some ⟨g, 0, none⟩)] (by rfl) rfl rfl (by (try simp only [List.map_toArray, List.map_cons, List.map_nil]); first | done | rfl | (simp only [List.length_drop, List.length_take]; rfl)) ?_
        with_reducible refine (spec_l1Byte.calls g s0_0 t327 t328 t329 t330 t331 w0 _ ?side1 ?side2 A21.out).mono ?_
        (case side1 => exact x8_upI HI0.out)
        (case side2 => exact x8_upBS HB.out)
        rintro e w29 ⟨rfl, hi, hb, hk⟩
        refine ⟨_, rfl, ?_⟩
        have n0_ := Aside0.mk (KeepBut.trans (upKb HK.out) hk (.inl rfl))
        have n1_ := Aside0.mk (hb); have n2_ := Aside0.mk (hi); clear HK; clear HB; clear HI0; have HK := n0_; have HB := n1_; have HI0 := n2_; clear n0_ n1_ n2_
        (try clear hb)
        (try clear hb2)
        (try clear hk)
        (try clear hi)
        refine hK.out _ _ trivial (fun hHeld => ?_)
        clear hK K
        refine norm_ (a' := ?_) ?_ ?_
        rotate_left
        ·show Act.put _ (some 33) _ = _
         simp only [Act.put, s1_, s2_, s3_, i64_w, i32_w]
         rfl
        refine purA 5 34 bs8_14 HT_.out ?_
        refine one_ (i := 6) (N := some 35) bs8_15 rfl rfl (one_of HT_.out (by kernel_rfl)) (by decide) (fun K hK => ?_)
        refine Kd.R_lit_step (Kd.int .u8) _ 5 ?hg (N := 35) ?hd (xs := ([(t329) % 256] : List Int)) (inner := [.int .u8 ((t329) % 256)]) (ok := fun _ => True) (okp := fun _ => True) ?hr ?hp (fun _ hk => hk) trivial (Below.refl _ _) (Nat.le_refl _) (by simp) ?_; (case hd => rfl); (case hg => rfl); (case hr => first | (go_simp; done) | (go_simp; rfl)); (case hp => exact (Reps.one (show Kd.M (Kd.int .u8) _ _ _ ((t329) % 256) [.int .u8 ((t329) % 256)] from rfl) (Reps.none _ _)))
        intro v333 w30 ho31 hb hg_ hnew_
        clear hg_ hnew_
        (first | rw [← Ny332.out] at ho31 | (simp only [Int.reduceToNat] at ho31; rw [← Ny332.out] at ho31))
        have n0_ := Aside0.mk (Kd.R_lower ho31 (keep_size (w := w) (g := g) (row := none) (upKb HK.out)))
        have n1_ := Aside0.mk (IsS66.below (x8_upI HI0.out) hb)
        have n2_ := Aside0.mk (KeepBut.trans (upKb HK.out) (KeepBut.of_below hb g none) (.inl rfl))
        have n3_ := Aside0.mk (below_step (x8_upBS HB.out) hb)
        clear HI0; clear HK; clear HB; have HO334 := n0_; have HI0 := n1_; have HK := n2_; have HB := n3_; clear n0_ n1_ n2_ n3_; clear hb ho31
        refine hK.out _ _ trivial (fun hHeld => ?_)
        clear hK K
        refine norm_ (a' := ?_) ?_ ?_
        rotate_left
        ·show Act.put _ (some 35) _ = _
         simp only [Act.put, s1_, s2_, s3_, i64_w, i32_w]
         rfl
        refine one_ (i := 7) (N := some 36) bs8_16 rfl rfl (one_of HT_.out (by kernel_rfl)) (by decide) (fun K hK => ?_)
        have hcv32 := own_string (P := Try.prog) Try.underlying22 Try.underlying5 Try.underlying9 (Kd.own_of_R HO334.out)
        refine value_ (w1 := ?_) (v := ?_) (by rfl) rfl ?_ ?_
        rotate_left 2
        ·go_simp
         constructor
         ·rfl
         ·rfl
        clear hcv32
        refine hK.out _ _ trivial (fun hHeld => ?_)
        clear hK K
        refine norm_ (a' := ?_) ?_ ?_
        rotate_left
        ·show Act.put _ (some 36) _ = _
         simp only [Act.put, s1_, s2_, s3_, i64_w, i32_w]
         rfl
        refine purA 8 37 bs8_17 HT_.out ?_
        refine purA 12 41 bs8_18 HT_.out ?_
        refine purA 13 4 bs8_19 HT_.out ?_
        refine done_ (done_of HT_.out (by kernel_rfl)) ?_
        try go_wp2
        go_ret
        exact ⟨by first | rfl | (simp [errW_none, errW_some] <;> rfl) | (simp [*, errW_none, errW_some] <;> rfl), x8_upI HI0.out, x8_upBS HB.out, upKb HK.out⟩
       ·rw [if_neg c25] at H
        exact absurd H (by simp)
      ·rw [if_neg c22] at H
       exact absurd H (by simp)
     ·rw [if_neg c20] at H
      exact absurd H (by simp)
    ·rw [if_neg c19] at H
     exact absurd H (by simp)
   ·rw [if_neg c18] at H
    have c18b0 : (t326 == 1) = false := beq_eq_false_iff_ne.mpr c18
    have c18b1 : (t326 != 1) = true := bne_iff_ne.mpr c18
    by_cases c33 : t326 = 2
    ·rw [if_pos c33] at H
     have c33b0 : (t326 == 2) = true := beq_iff_eq.mpr c33
     have c33b1 : (t326 != 2) = false := bne_eq_false_iff_eq.mpr c33
     clear c33
     by_cases c34 : 0 ≤ t323
     ·rw [if_pos c34] at H
      have c34b0 := eq_true c34
      have c34b1 : decide (0 ≤ t323) = true := decide_eq_true c34
      clear c34
      by_cases c35 : t323 ≤ (a1.size : Int)
      ·rw [if_pos c35] at H
       have c35b0 := eq_true c35
       have c35b1 : decide (t323 ≤ (a1.size : Int)) = true := decide_eq_true c35
       clear c35
       simp only [Option.some.injEq, Prod.mk.injEq] at H
       obtain ⟨rfl, rfl, rfl⟩ := H
       go_enter Try.func39, Try.ntmps39
       go_wp2_with (first | ((with_reducible refine gate_callee (f := 38) rfl ?_); refine goesM (some 14) Try.func38 #[.pointer (some ⟨g, 0, none⟩), .int .i64 (a1.size : Int)] ?_; (with_reducible refine (spec_l1Below.calls g s0_0 s0_1 s0_2 (a1.size : Int) t323 t324 t325 w0 _ ?side1 ?side2 A6.out).mono ?_); (case side1 => exact x8_upI HI0.out); (case side2 => exact x8_upBS HB.out); rintro e w36 ⟨rfl, hi, hb, hk⟩; refine ⟨_, rfl, ?_⟩; have n0_ := Aside0.mk (KeepBut.trans (upKb HK.out) hk (.inl rfl)); have n1_ := Aside0.mk (hb); have n2_ := Aside0.mk (hi); clear HK; clear HB; clear HI0; have HK := n0_; have HB := n1_; have HI0 := n2_; clear n0_ n1_ n2_; (try clear hb); (try clear hb2); (try clear hk); (try clear hi)) | ((with_reducible refine gate_callee (f := 38) rfl ?_); refine goesM (some 16) Try.func38 #[.pointer (some ⟨g, 0, none⟩), .int .i64 4] ?_; (with_reducible refine (spec_l1Below.calls g s0_0 t324 t325 4 t326 t327 t328 w0 _ ?side1 ?side2 A7.out).mono ?_); (case side1 => exact x8_upI HI0.out); (case side2 => exact x8_upBS HB.out); rintro e w37 ⟨rfl, hi, hb, hk⟩; refine ⟨_, rfl, ?_⟩; have n0_ := Aside0.mk (KeepBut.trans (upKb HK.out) hk (.inl rfl)); have n1_ := Aside0.mk (hb); have n2_ := Aside0.mk (hi); clear HK; clear HB; clear HI0; have HK := n0_; have HB := n1_; have HI0 := n2_; clear n0_ n1_ n2_; (try clear hb); (try clear hb2); (try clear hk); (try clear hi)))
       go_ret
       exact ⟨by first | rfl | (simp [errW_none, errW_some] <;> rfl) | (simp [*, errW_none, errW_some] <;> rfl), x8_upI HI0.out, x8_upBS HB.out, upKb HK.out⟩
      ·rw [if_neg c35] at H
       exact absurd H (by simp)
     ·rw [if_neg c34] at H
      exact absurd H (by simp)
    ·rw [if_neg c33] at H
     have c33b0 : (t326 == 2) = false := beq_eq_false_iff_ne.mpr c33
     have c33b1 : (t326 != 2) = true := bne_iff_ne.mpr c33
     by_cases c38 : 0 ≤ t323
     ·rw [if_pos c38] at H
      have c38b0 := eq_true c38
      have c38b1 : decide (0 ≤ t323) = true := decide_eq_true c38
      clear c38
      by_cases c39 : t323 ≤ (a1.size : Int)
      ·rw [if_pos c39] at H
       have c39b0 := eq_true c39
       have c39b1 : decide (t323 ≤ (a1.size : Int)) = true := decide_eq_true c39
       clear c39
       by_cases c40 : t323 < (a1.size : Int)
       ·rw [if_pos c40] at H
        have c40b0 : decide (t323 < (a1.size : Int)) = true := decide_eq_true c40
        clear c40; replace H := Option.bind_eq_some_iff.mp H
        obtain ⟨⟨t335, t336, t337⟩, A420, H⟩ := H
        replace H : ((some (([(Go.bits .xor .i64 (wrap64 (bt a1 t323)) (wrap64 (1 + t335))) % 256] : List Int) : List Int)).bind fun y338 => (if (a1.extract 0 (t323 : Int).toNat).size + (strOfNums y338).size ≤ 9223372036854775807 then (if 0 ≤ (wrap64 (t323 + 1)) then (if (wrap64 (t323 + 1)) ≤ (a1.size : Int) then (if ((a1.extract 0 (t323 : Int).toNat) ++ (strOfNums y338)).size + (a1.extract ((wrap64 (t323 + 1)) : Int).toNat a1.size).size ≤ 9223372036854775807 then (some (((a1.extract 0 (t323 : Int).toNat) ++ (strOfNums y338)) ++ (a1.extract ((wrap64 (t323 + 1)) : Int).toNat a1.size), t336, t337)) else (none)) else (none)) else (none)) else (none))) = some (r1, r2, r3) := H
        have A42 := Aside0.mk A420; clear A420
        obtain ⟨y338, hy338⟩ : ∃ y_ : List Int, y_ = (([(Go.bits .xor .i64 (wrap64 (bt a1 t323)) (wrap64 (1 + t335))) % 256] : List Int)) := ⟨_, rfl⟩
        replace H : (if (a1.extract 0 (t323 : Int).toNat).size + (strOfNums y338).size ≤ 9223372036854775807 then (if 0 ≤ (wrap64 (t323 + 1)) then (if (wrap64 (t323 + 1)) ≤ (a1.size : Int) then (if ((a1.extract 0 (t323 : Int).toNat) ++ (strOfNums y338)).size + (a1.extract ((wrap64 (t323 + 1)) : Int).toNat a1.size).size ≤ 9223372036854775807 then (some (((a1.extract 0 (t323 : Int).toNat) ++ (strOfNums y338)) ++ (a1.extract ((wrap64 (t323 + 1)) : Int).toNat a1.size), t336, t337)) else (none)) else (none)) else (none)) else (none)) = some (r1, r2, r3) := by first | (rw [hy338]; with_reducible exact H) | (have H2_ := (Option.bind_some _ _).symm.trans H; rw [hy338]; with_reducible exact H2_) | (have H2_ := (Option.bind_some _ _).symm.trans H; with_reducible exact H2_) | with_reducible exact H | (rw [hy338]; exact H) | exact H
        have Ny338 := Aside0.mk hy338; clear hy338
        by_cases c43 : (a1.extract 0 (t323 : Int).toNat).size + (strOfNums y338).size ≤ 9223372036854775807
        ·rw [if_pos c43] at H
         have c43b0 := eq_true c43
         have c43b1 : decide ((a1.extract 0 (t323 : Int).toNat).size + (strOfNums y338).size ≤ 9223372036854775807) = true := decide_eq_true c43
         try have c43b2 : (9223372036854775807 < (a1.extract 0 (t323 : Int).toNat).size + (strOfNums y338).size) = False := eq_false (Nat.not_lt.2 c43)
         have c43ze := eq_false (Nat.not_lt.2 c43)
         try simp only [ByteArray.size_append, ByteArray.size_extract, Nat.sub_zero, Nat.min_self] at c43ze
         try rw [Nat.min_eq_left (show (t323 : Int).toNat ≤ a1.size by have h_ := of_decide_eq_true c39b1; omega)] at c43ze
         obtain ⟨ji44, hji44⟩ : ∃ j_ : Int, (wrap64 (t323 + 1)) = j_ := ⟨_, rfl⟩
         replace H : (if 0 ≤ (ji44) then (if (ji44) ≤ (a1.size : Int) then (if ((a1.extract 0 (t323 : Int).toNat) ++ (strOfNums y338)).size + (a1.extract ((ji44) : Int).toNat a1.size).size ≤ 9223372036854775807 then (some (((a1.extract 0 (t323 : Int).toNat) ++ (strOfNums y338)) ++ (a1.extract ((ji44) : Int).toNat a1.size), t336, t337)) else (none)) else (none)) else (none)) = some (r1, r2, r3) := by first | (rw [hji44] at H; exact H) | (simp only [hji44] at H ⊢; exact H)
         (try rw [hji44] at A6)
         (try rw [hji44] at A7)
         (try rw [hji44] at A42)
         have hji44w : (IntKind.i64.wrap (t323 + 1)) = ji44 := (i64_w _).trans hji44
         by_cases c45 : 0 ≤ (ji44)
         ·rw [if_pos c45] at H
          have c45b0 := eq_true c45
          have c45b1 : decide (0 ≤ (ji44)) = true := decide_eq_true c45
          clear c45
          by_cases c46 : (ji44) ≤ (a1.size : Int)
          ·rw [if_pos c46] at H
           have c46b0 := eq_true c46
           have c46b1 : decide ((ji44) ≤ (a1.size : Int)) = true := decide_eq_true c46
           clear c46
           by_cases c47 : ((a1.extract 0 (t323 : Int).toNat) ++ (strOfNums y338)).size + (a1.extract ((ji44) : Int).toNat a1.size).size ≤ 9223372036854775807
           ·rw [if_pos c47] at H
            have c47b0 := eq_true c47
            have c47b1 : decide (((a1.extract 0 (t323 : Int).toNat) ++ (strOfNums y338)).size + (a1.extract ((ji44) : Int).toNat a1.size).size ≤ 9223372036854775807) = true := decide_eq_true c47
            try have c47b2 : (9223372036854775807 < ((a1.extract 0 (t323 : Int).toNat) ++ (strOfNums y338)).size + (a1.extract ((ji44) : Int).toNat a1.size).size) = False := eq_false (Nat.not_lt.2 c47)
            have c47z := eq_false (Nat.not_lt.2 c47)
            try simp only [ByteArray.size_append] at c47z
            have c47ze := eq_false (Nat.not_lt.2 c47)
            try simp only [ByteArray.size_append, ByteArray.size_extract, Nat.sub_zero, Nat.min_self] at c47ze
            try rw [Nat.min_eq_left (show (t323 : Int).toNat ≤ a1.size by have h_ := of_decide_eq_true c39b1; omega)] at c47ze
            simp only [Option.some.injEq, Prod.mk.injEq] at H
            obtain ⟨rfl, rfl, rfl⟩ := H
            go_enter Try.func39, Try.ntmps39
            try go_wp2_with (first | ((with_reducible refine gate_callee (f := 38) rfl ?_); refine goesM (some 14) Try.func38 #[.pointer (some ⟨g, 0, none⟩), .int .i64 (a1.size : Int)] ?_; (with_reducible refine (spec_l1Below.calls g s0_0 s0_1 s0_2 (a1.size : Int) t323 t324 t325 w0 _ ?side1 ?side2 A6.out).mono ?_); (case side1 => exact x8_upI HI0.out); (case side2 => exact x8_upBS HB.out); rintro e w48 ⟨rfl, hi, hb, hk⟩; refine ⟨_, rfl, ?_⟩; have n0_ := Aside0.mk (KeepBut.trans (upKb HK.out) hk (.inl rfl)); have n1_ := Aside0.mk (hb); have n2_ := Aside0.mk (hi); clear HK; clear HB; clear HI0; have HK := n0_; have HB := n1_; have HI0 := n2_; clear n0_ n1_ n2_; (try clear hb); (try clear hb2); (try clear hk); (try clear hi)) | ((with_reducible refine gate_callee (f := 38) rfl ?_); refine goesM (some 16) Try.func38 #[.pointer (some ⟨g, 0, none⟩), .int .i64 4] ?_; (with_reducible refine (spec_l1Below.calls g s0_0 t324 t325 4 t326 t327 t328 w0 _ ?side1 ?side2 A7.out).mono ?_); (case side1 => exact x8_upI HI0.out); (case side2 => exact x8_upBS HB.out); rintro e w49 ⟨rfl, hi, hb, hk⟩; refine ⟨_, rfl, ?_⟩; have n0_ := Aside0.mk (KeepBut.trans (upKb HK.out) hk (.inl rfl)); have n1_ := Aside0.mk (hb); have n2_ := Aside0.mk (hi); clear HK; clear HB; clear HI0; have HK := n0_; have HB := n1_; have HI0 := n2_; clear n0_ n1_ n2_; (try clear hb); (try clear hb2); (try clear hk); (try clear hi)))
            have n0_ := Aside0.mk (IsS66.drew HI0.out); have n1_ := Aside0.mk (keep_drew HK.out); have n2_ := Aside0.mk (below_drew1 HB.out); clear HI0; clear HK; clear HB; have HI0 := n0_; have HK := n1_; have HB := n2_; clear n0_ n1_ n2_
            have p41 : 0 ≤ (t323 : Int) := of_decide_eq_true (by first | (with_reducible assumption) | assumption)
            have q41 : t323 < (a1.size : Int) := of_decide_eq_true (by first | (with_reducible assumption) | assumption)
            have hx41 := bt_at a1 t323; replace p41 := eq_true p41; replace q41 := eq_true q41
            refine start_ (n := 21) (S := fun w' => True) (ds := []) bs8_20 (by kernel_rfl) rfl rfl trivial (fun hHeld => ?_); refine with_tabW spec_l1Spoil.tab11 spec_l1Spoil.bits11 (fun HT_ HW_ => ?_)
            generalize w49.drew = w50 at HI0 HK HB hHeld ⊢
            refine purA 0 47 bs8_21 HT_.out ?_
            refine purA 1 48 bs8_22 HT_.out ?_
            refine purA 2 49 bs8_23 HT_.out ?_
            refine purA 3 50 bs8_24 HT_.out ?_
            refine purA 4 51 bs8_25 HT_.out ?_
            refine purA 7 54 bs8_26 HT_.out ?_
            refine purA 15 62 bs8_27 HT_.out ?_
            refine purA 16 63 bs8_28 HT_.out ?_
            refine purA 17 64 bs8_29 HT_.out ?_
            refine purA 18 65 bs8_30 HT_.out ?_
            refine take_ (i := 5) (N := some 52) (v := ?_) (a' := ?_) bs8_31 rfl rfl (take_ofW HT_.out HW_.out (by kernel_rfl)) (fun _ _ _ h => h) (Or.inl ⟨by rfl, ?_⟩) hHeld ?_ ?_
            rotate_left
            ·intro w' _
             go_simp
             with_reducible rfl
            rotate_left
            ·simp only [Act.put, s1_, s2_, s3_, i64_w, i32_w]
             rfl
            refine purA 6 53 bs8_32 HT_.out ?_
            refine one_ (i := 8) (N := some 55) bs8_33 rfl rfl (one_of HT_.out (by kernel_rfl)) (by decide) (fun K hK => ?_)
            refine goes_ Try.func38 (by kernel_rfl) rfl #[.pointer (some ⟨g, 0, none⟩), .int .i64 255] (by rfl) rfl rfl (by (try simp only [List.map_toArray, List.map_cons, List.map_nil]); first | done | rfl | (simp only [List.length_drop, List.length_take]; rfl)) ?_
            with_reducible refine (spec_l1Below.calls g s0_0 t327 t328 255 t335 t336 t337 w0 _ ?side1 ?side2 A42.out).mono ?_
            (case side1 => exact x8_upI HI0.out)
            (case side2 => exact x8_upBS HB.out)
            rintro e w51 ⟨rfl, hi, hb, hk⟩
            refine ⟨_, rfl, ?_⟩
            have n0_ := Aside0.mk (KeepBut.trans (upKb HK.out) hk (.inl rfl))
            have n1_ := Aside0.mk (hb); have n2_ := Aside0.mk (hi); clear HK; clear HB; clear HI0; have HK := n0_; have HB := n1_; have HI0 := n2_; clear n0_ n1_ n2_
            (try clear hb)
            (try clear hb2)
            (try clear hk)
            (try clear hi)
            refine hK.out _ _ trivial (fun hHeld => ?_)
            clear hK K
            refine norm_ (a' := ?_) ?_ ?_
            rotate_left
            ·show Act.put _ (some 55) _ = _
             simp only [Act.put, s1_, s2_, s3_, i64_w, i32_w]
             rfl
            refine purA 9 56 bs8_34 HT_.out ?_
            refine purA 10 57 bs8_35 HT_.out ?_
            refine purA 11 58 bs8_36 HT_.out ?_
            refine one_ (i := 12) (N := some 59) bs8_37 rfl rfl (one_of HT_.out (by kernel_rfl)) (by decide) (fun K hK => ?_)
            refine Kd.R_lit_step (Kd.int .u8) _ 5 ?hg (N := 59) ?hd (xs := ([(Go.bits .xor .i64 (wrap64 (bt a1 t323)) (wrap64 (1 + t335))) % 256] : List Int)) (inner := [.int .u8 ((Go.bits .xor .i64 (wrap64 (bt a1 t323)) (wrap64 (1 + t335))) % 256)]) (ok := fun _ => True) (okp := fun _ => True) ?hr ?hp (fun _ hk => hk) trivial (Below.refl _ _) (Nat.le_refl _) (by simp) ?_; (case hd => rfl); (case hg => rfl); (case hr => first | (go_simp; done) | (go_simp; rfl)); (case hp => exact (Reps.one (show Kd.M (Kd.int .u8) _ _ _ ((Go.bits .xor .i64 (wrap64 (bt a1 t323)) (wrap64 (1 + t335))) % 256) [.int .u8 ((Go.bits .xor .i64 (wrap64 (bt a1 t323)) (wrap64 (1 + t335))) % 256)] from rfl) (Reps.none _ _)))
            intro v339 w52 ho53 hb hg_ hnew_
            clear hg_ hnew_
            (first | rw [← Ny338.out] at ho53 | (simp only [Int.reduceToNat] at ho53; rw [← Ny338.out] at ho53))
            have n0_ := Aside0.mk (Kd.R_lower ho53 (keep_size (w := w) (g := g) (row := none) (upKb HK.out)))
            have n1_ := Aside0.mk (IsS66.below (x8_upI HI0.out) hb)
            have n2_ := Aside0.mk (KeepBut.trans (upKb HK.out) (KeepBut.of_below hb g none) (.inl rfl))
            have n3_ := Aside0.mk (below_step (x8_upBS HB.out) hb)
            clear HI0; clear HK; clear HB; have HO340 := n0_; have HI0 := n1_; have HK := n2_; have HB := n3_; clear n0_ n1_ n2_ n3_; clear hb ho53
            refine hK.out _ _ trivial (fun hHeld => ?_)
            clear hK K
            refine norm_ (a' := ?_) ?_ ?_
            rotate_left
            ·show Act.put _ (some 59) _ = _
             simp only [Act.put, s1_, s2_, s3_, i64_w, i32_w]
             rfl
            refine one_ (i := 13) (N := some 60) bs8_38 rfl rfl (one_of HT_.out (by kernel_rfl)) (by decide) (fun K hK => ?_)
            have hcv54 := own_string (P := Try.prog) Try.underlying22 Try.underlying5 Try.underlying9 (Kd.own_of_R HO340.out)
            refine value_ (w1 := ?_) (v := ?_) (by rfl) rfl ?_ ?_
            rotate_left 2
            ·go_simp
             constructor
             ·rfl
             ·rfl
            clear hcv54
            refine hK.out _ _ trivial (fun hHeld => ?_)
            clear hK K
            refine norm_ (a' := ?_) ?_ ?_
            rotate_left
            ·show Act.put _ (some 60) _ = _
             simp only [Act.put, s1_, s2_, s3_, i64_w, i32_w]
             rfl
            refine purA 14 61 bs8_39 HT_.out ?_
            refine purA 19 66 bs8_40 HT_.out ?_
            refine purA 20 4 bs8_41 HT_.out ?_
            refine done_ (done_of HT_.out (by kernel_rfl)) ?_
            try go_wp2
            go_ret
            exact ⟨by first | rfl | (simp [errW_none, errW_some] <;> rfl) | (simp only [← hji44]; first | rfl | (simp [errW_none, errW_some] <;> rfl)) | (simp [*, errW_none, errW_some] <;> rfl), x8_upI HI0.out, x8_upBS HB.out, upKb HK.out⟩
           ·rw [if_neg c47] at H
            exact absurd H (by simp)
          ·rw [if_neg c46] at H
           exact absurd H (by simp)
         ·rw [if_neg c45] at H
          exact absurd H (by simp)
        ·rw [if_neg c43] at H
         exact absurd H (by simp)
       ·rw [if_neg c40] at H
        exact absurd H (by simp)
      ·rw [if_neg c39] at H
       exact absurd H (by simp)
     ·rw [if_neg c38] at H
      exact absurd H (by simp)

end Go.Proofs.Ytpkokfffjgdjoaa.HFnBytes
