/- strings.IndexAny with the three bytes '( )' over every string, strings.IndexRune at a rune of 128 or more. Conditions: those that each theorem names. -/
import Derived.Test.YtbdjconojnjgdaaShI
import Derived.Test.YtbdjconojnjgdaaWMore
import Derived.Laws.RangeString
import Derived.Lib.OthersKept
import Derived.WalkMore
import Derived.Deep.LoopGhost
import Derived.Lib.MapLaws
import Derived.Lib.DecodeN
import Derived.WalkSmall
namespace Go.Proofs.Ytbdjconojnjgdaa.ShA
open Go.RowKit Go.Lib Go.Proofs Go.Proofs.YtbdjconojnjgdaaW.PrintWords Go.Proofs.YtbdjconojnjgdaaW.PrintLast
set_option linter.unusedSimpArgs false
set_option linter.unusedVariables false
theorem wz2 : wrap64 2 = 2 := by decide +kernel
theorem wz3 : wrap64 3 = 3 := by decide +kernel
set_option maxHeartbeats 4000000 in
set_option maxRecDepth 100000 in
theorem rune_2 (a b : UInt8) (hb : 128 ≤ b.toNat) (r : Int) (he : Utf8.encode r = ⟨#[a, b]⟩) (h0 : 128 ≤ r) (h2 : ¬ r = 65533) (hv : Lib.validRune r = true) (w : World) :
    Calls Try.prog 102 #[.string ⟨#[40, 32, 41]⟩, .int .i32 r] w fun e w' => e = .returned (.int .i64 (-1)) ∧ Below w.heap.size w w' := by
  have c1 : decide (0 ≤ r) = true := decide_eq_true (by omega)
  have c2 : decide (r < 128) = false := decide_eq_false (by omega)
  have t3 := Try.underlying3; have a3 := Try.isAgg3; have z3 := Try.sizeOf3; have v3 := Try.zeroValue3
  have t4 := Try.underlying4; have a4 := Try.isAgg4; have z4 := Try.sizeOf4; have v4 := Try.zeroValue4
  have t5 := Try.underlying5; have a5 := Try.isAgg5; have z5 := Try.sizeOf5; have v5 := Try.zeroValue5
  have t9 := Try.underlying9; have a9 := Try.isAgg9; have z9 := Try.sizeOf9; have v9 := Try.zeroValue9
  have t21 := Try.underlying21; have a21 := Try.isAgg21; have z21 := Try.sizeOf21; have v21 := Try.zeroValue21
  have e2 : ((((⟨#[40, 32, 41]⟩ : ByteArray)[1]'(by decide)).toNat : Int) != (((⟨#[a, b]⟩ : ByteArray)[1]'(show 1 < 2 by decide)).toNat : Int)) = true := by
    show ((32 : Int) != (b.toNat : Int)) = true
    exact bne_iff_ne.2 (by omega)
  have hib : Lib.indexByte ((⟨#[40, 32, 41]⟩ : ByteArray).extract 2 3).data.toList (((((⟨#[a, b]⟩ : ByteArray)[1]'(show 1 < 2 by decide)).toNat : Int)).toNat.toUInt8) = -1 := by
    show Lib.indexByte [41] ((b.toNat : Int).toNat.toUInt8) = -1
    have hne : ¬ (41 : UInt8) = b := by
      intro h
      rw [← h] at hb
      exact absurd hb (by decide)
    rw [show (b.toNat : Int).toNat.toUInt8 = b by simp]
    simp [Lib.indexByte, hne]
  go_enter Try.func102, Try.ntmps102
  go_wp2_with (go_at_call 125; refine (Ytbdjconojnjgdaa.ShI.utf8_ValidRune _ _).mono ?_; rintro e w' ⟨rfl, hw⟩; rw [hw])
  with_reducible refine wp_scope_straight ?_
  go_wp2
  go_loopg [9, 10] 1 (fun g v9 v10 wx => v9 = .int .i64 1 ∧ v10 = .int .i64 0 ∧ wx = w)
  case atStart => exact ⟨rfl, rfl, rfl⟩
  case round =>
    obtain ⟨rfl, rfl, rfl⟩ := hrel
    go_wp2
    with_reducible refine wp_scope_straight ?_
    go_wp2
    refine start_ (n := 7) (S := fun _ => True) (ds := []) #[false, false, false, false, false, false, false] (by kernel_rfl) rfl rfl trivial (fun _ => ?_)
    refine pure_ (i := 0) (N := some 27) (v := ?_) (a' := ?_) #[true, false, false, false, false, false, false] rfl rfl (by kernel_rfl) (fun _ _ _ h => h) (Or.inl ⟨by rfl, ?_⟩) ?_ ?_
    rotate_left
    · intro w'
      go_simp
      with_reducible rfl
    rotate_left
    · simp only [Act.put, List.setIfInBounds_toArray, List.set_cons_zero, List.set_cons_succ, i64_w, i32_w, wz2, wz3]
      rfl
    refine pure_ (i := 1) (N := some 28) (v := ?_) (a' := ?_) #[true, true, false, false, false, false, false] rfl rfl (by kernel_rfl) (fun _ _ _ h => h) (Or.inl ⟨by rfl, ?_⟩) ?_ ?_
    rotate_left
    · intro w'
      go_simp
      with_reducible rfl
    rotate_left
    · simp only [Act.put, List.setIfInBounds_toArray, List.set_cons_zero, List.set_cons_succ, i64_w, i32_w, wz2, wz3]
      rfl
    refine pure_ (i := 2) (N := some 29) (v := ?_) (a' := ?_) #[true, true, true, false, false, false, false] rfl rfl (by kernel_rfl) (fun _ _ _ h => h) (Or.inl ⟨by rfl, ?_⟩) ?_ ?_
    rotate_left
    · intro w'
      go_simp
      with_reducible rfl
    rotate_left
    · simp only [Act.put, List.setIfInBounds_toArray, List.set_cons_zero, List.set_cons_succ, i64_w, i32_w, wz2, wz3]
      rfl
    refine pure_ (i := 3) (N := some 30) (v := ?_) (a' := ?_) #[true, true, true, true, false, false, false] rfl rfl (by kernel_rfl) (fun _ _ _ h => h) (Or.inl ⟨by rfl, ?_⟩) ?_ ?_
    rotate_left
    · intro w'
      go_simp
      with_reducible rfl
    rotate_left
    · simp only [Act.put, List.setIfInBounds_toArray, List.set_cons_zero, List.set_cons_succ, i64_w, i32_w, wz2, wz3]
      rfl
    refine pure_ (i := 4) (N := some 31) (v := ?_) (a' := ?_) #[true, true, true, true, true, false, false] rfl rfl (by kernel_rfl) (fun _ _ _ h => h) (Or.inl ⟨by rfl, ?_⟩) ?_ ?_
    rotate_left
    · intro w'
      go_simp
      with_reducible rfl
    rotate_left
    · simp only [Act.put, List.setIfInBounds_toArray, List.set_cons_zero, List.set_cons_succ, i64_w, i32_w, wz2, wz3]
      rfl
    refine pure_ (i := 5) (N := some 32) (v := ?_) (a' := ?_) #[true, true, true, true, true, true, false] rfl rfl (by kernel_rfl) (fun _ _ _ h => h) (Or.inl ⟨by rfl, ?_⟩) ?_ ?_
    rotate_left
    · intro w'
      go_simp
      with_reducible rfl
    rotate_left
    · simp only [Act.put, List.setIfInBounds_toArray, List.set_cons_zero, List.set_cons_succ, i64_w, i32_w, wz2, wz3]
      rfl
    refine pure_ (i := 6) (N := some 33) (v := ?_) (a' := ?_) #[true, true, true, true, true, true, true] rfl rfl (by kernel_rfl) (fun _ _ _ h => h) (Or.inl ⟨by rfl, ?_⟩) ?_ ?_
    rotate_left
    · intro w'
      go_simp
      with_reducible rfl
    rotate_left
    · simp only [Act.put, List.setIfInBounds_toArray, List.set_cons_zero, List.set_cons_succ, i64_w, i32_w, wz2, wz3]
      rfl
    refine done_ (by kernel_rfl) ?_
    go_wp2
    refine start_ (n := 9) (S := fun _ => True) (ds := []) #[false, false, false, false, false, false, false, false, false] (by kernel_rfl) rfl rfl trivial (fun _ => ?_)
    refine pure_ (i := 0) (N := some 34) (v := ?_) (a' := ?_) #[true, false, false, false, false, false, false, false, false] rfl rfl (by kernel_rfl) (fun _ _ _ h => h) (Or.inl ⟨by rfl, ?_⟩) ?_ ?_
    rotate_left
    · intro w'
      go_simp
      with_reducible rfl
    rotate_left
    · simp only [Act.put, List.setIfInBounds_toArray, List.set_cons_zero, List.set_cons_succ, i64_w, i32_w, wz2, wz3]
      rfl
    refine pure_ (i := 1) (N := some 35) (v := ?_) (a' := ?_) #[true, true, false, false, false, false, false, false, false] rfl rfl (by kernel_rfl) (fun _ _ _ h => h) (Or.inl ⟨by rfl, ?_⟩) ?_ ?_
    rotate_left
    · intro w'
      go_simp
      with_reducible rfl
    rotate_left
    · simp only [Act.put, List.setIfInBounds_toArray, List.set_cons_zero, List.set_cons_succ, i64_w, i32_w, wz2, wz3]
      rfl
    refine pure_ (i := 2) (N := some 36) (v := ?_) (a' := ?_) #[true, true, true, false, false, false, false, false, false] rfl rfl (by kernel_rfl) (fun _ _ _ h => h) (Or.inl ⟨by rfl, ?_⟩) ?_ ?_
    rotate_left
    · intro w'
      go_simp
      with_reducible rfl
    rotate_left
    · simp only [Act.put, List.setIfInBounds_toArray, List.set_cons_zero, List.set_cons_succ, i64_w, i32_w, wz2, wz3]
      rfl
    refine pure_ (i := 3) (N := some 37) (v := ?_) (a' := ?_) #[true, true, true, true, false, false, false, false, false] rfl rfl (by kernel_rfl) (fun _ _ _ h => h) (Or.inl ⟨by rfl, ?_⟩) ?_ ?_
    rotate_left
    · intro w'
      go_simp
      with_reducible rfl
    rotate_left
    · simp only [Act.put, List.setIfInBounds_toArray, List.set_cons_zero, List.set_cons_succ, i64_w, i32_w, wz2, wz3]
      rfl
    refine pure_ (i := 4) (N := some 38) (v := ?_) (a' := ?_) #[true, true, true, true, true, false, false, false, false] rfl rfl (by kernel_rfl) (fun _ _ _ h => h) (Or.inl ⟨by rfl, ?_⟩) ?_ ?_
    rotate_left
    · intro w'
      go_simp
      with_reducible rfl
    rotate_left
    · simp only [Act.put, List.setIfInBounds_toArray, List.set_cons_zero, List.set_cons_succ, i64_w, i32_w, wz2, wz3]
      rfl
    refine pure_ (i := 5) (N := some 39) (v := ?_) (a' := ?_) #[true, true, true, true, true, true, false, false, false] rfl rfl (by kernel_rfl) (fun _ _ _ h => h) (Or.inl ⟨by rfl, ?_⟩) ?_ ?_
    rotate_left
    · intro w'
      go_simp
      with_reducible rfl
    rotate_left
    · simp only [Act.put, List.setIfInBounds_toArray, List.set_cons_zero, List.set_cons_succ, i64_w, i32_w, wz2, wz3]
      rfl
    refine pure_ (i := 6) (N := some 40) (v := ?_) (a' := ?_) #[true, true, true, true, true, true, true, false, false] rfl rfl (by kernel_rfl) (fun _ _ _ h => h) (Or.inl ⟨by rfl, ?_⟩) ?_ ?_
    rotate_left
    · intro w'
      go_simp
      with_reducible rfl
    rotate_left
    · simp only [Act.put, List.setIfInBounds_toArray, List.set_cons_zero, List.set_cons_succ, i64_w, i32_w, wz2, wz3]
      rfl
    refine one_ (i := 7) (N := some 41) #[true, true, true, true, true, true, true, true, false] rfl rfl (by kernel_rfl) (by decide) (fun K hK => ?_)
    refine goes_ Try.func124 (by kernel_rfl) rfl _ (by rfl) rfl rfl (by (try simp only [List.map_toArray, List.map_cons, List.map_nil]); first | done | rfl) ?_
    refine (Ytbdjconojnjgdaa.ShI.strings_IndexByte _ _ _).mono ?_
    rintro e w' ⟨rfl, rfl⟩
    refine ⟨_, rfl, ?_⟩
    rw [hib]
    refine hK.out _ _ trivial (fun _ => ?_)
    clear hK K
    refine norm_ (a' := ?_) ?_ ?_
    rotate_left
    · show Act.put _ (some 41) _ = _
      simp only [Act.put, List.setIfInBounds_toArray, List.set_cons_zero, List.set_cons_succ, i64_w, i32_w, wz2, wz3]
      rfl
    refine pure_ (i := 8) (N := some 11) (v := ?_) (a' := ?_) #[true, true, true, true, true, true, true, true, true] rfl rfl (by kernel_rfl) (fun _ _ _ h => h) (Or.inl ⟨by rfl, ?_⟩) ?_ ?_
    rotate_left
    · intro w'
      go_simp
      with_reducible rfl
    rotate_left
    · simp only [Act.put, List.setIfInBounds_toArray, List.set_cons_zero, List.set_cons_succ, i64_w, i32_w, wz2, wz3]
      rfl
    refine done_ (by kernel_rfl) ?_
    go_wp2
    skip
    try rw [Exit.noGoto_ret]
    try go_simp
    try rw [Exit.noGoto_ret]
    try go_simp
    skip
    go_ret
    exact ⟨rfl, below_drew1 (below_drew1 (Below.refl _ _))⟩
set_option maxHeartbeats 4000000 in
set_option maxRecDepth 100000 in
theorem rune_3 (a b c : UInt8) (hb : 128 ≤ c.toNat) (r : Int) (he : Utf8.encode r = ⟨#[a, b, c]⟩) (h0 : 128 ≤ r) (h2 : ¬ r = 65533) (hv : Lib.validRune r = true) (w : World) :
    Calls Try.prog 102 #[.string ⟨#[40, 32, 41]⟩, .int .i32 r] w fun e w' => e = .returned (.int .i64 (-1)) ∧ Below w.heap.size w w' := by
  have c1 : decide (0 ≤ r) = true := decide_eq_true (by omega)
  have c2 : decide (r < 128) = false := decide_eq_false (by omega)
  have t3 := Try.underlying3; have a3 := Try.isAgg3; have z3 := Try.sizeOf3; have v3 := Try.zeroValue3
  have t4 := Try.underlying4; have a4 := Try.isAgg4; have z4 := Try.sizeOf4; have v4 := Try.zeroValue4
  have t5 := Try.underlying5; have a5 := Try.isAgg5; have z5 := Try.sizeOf5; have v5 := Try.zeroValue5
  have t9 := Try.underlying9; have a9 := Try.isAgg9; have z9 := Try.sizeOf9; have v9 := Try.zeroValue9
  have t21 := Try.underlying21; have a21 := Try.isAgg21; have z21 := Try.sizeOf21; have v21 := Try.zeroValue21
  have e2 : ((((⟨#[40, 32, 41]⟩ : ByteArray)[2]'(by decide)).toNat : Int) != (((⟨#[a, b, c]⟩ : ByteArray)[2]'(show 2 < 3 by decide)).toNat : Int)) = true := by
    show ((41 : Int) != (c.toNat : Int)) = true
    exact bne_iff_ne.2 (by omega)
  have hib : Lib.indexByte (ByteArray.empty).data.toList (((((⟨#[a, b, c]⟩ : ByteArray)[2]'(show 2 < 3 by decide)).toNat : Int)).toNat.toUInt8) = -1 := by
    rfl
  go_enter Try.func102, Try.ntmps102
  go_wp2_with (go_at_call 125; refine (Ytbdjconojnjgdaa.ShI.utf8_ValidRune _ _).mono ?_; rintro e w' ⟨rfl, hw⟩; rw [hw])
  with_reducible refine wp_scope_straight ?_
  go_wp2
  go_loopg [9, 10] 1 (fun g v9 v10 wx => v9 = .int .i64 2 ∧ v10 = .int .i64 0 ∧ wx = w)
  case atStart => exact ⟨rfl, rfl, rfl⟩
  case round =>
    obtain ⟨rfl, rfl, rfl⟩ := hrel
    go_wp2
    with_reducible refine wp_scope_straight ?_
    go_wp2
    refine start_ (n := 7) (S := fun _ => True) (ds := []) #[false, false, false, false, false, false, false] (by kernel_rfl) rfl rfl trivial (fun _ => ?_)
    refine pure_ (i := 0) (N := some 27) (v := ?_) (a' := ?_) #[true, false, false, false, false, false, false] rfl rfl (by kernel_rfl) (fun _ _ _ h => h) (Or.inl ⟨by rfl, ?_⟩) ?_ ?_
    rotate_left
    · intro w'
      go_simp
      with_reducible rfl
    rotate_left
    · simp only [Act.put, List.setIfInBounds_toArray, List.set_cons_zero, List.set_cons_succ, i64_w, i32_w, wz2, wz3]
      rfl
    refine pure_ (i := 1) (N := some 28) (v := ?_) (a' := ?_) #[true, true, false, false, false, false, false] rfl rfl (by kernel_rfl) (fun _ _ _ h => h) (Or.inl ⟨by rfl, ?_⟩) ?_ ?_
    rotate_left
    · intro w'
      go_simp
      with_reducible rfl
    rotate_left
    · simp only [Act.put, List.setIfInBounds_toArray, List.set_cons_zero, List.set_cons_succ, i64_w, i32_w, wz2, wz3]
      rfl
    refine pure_ (i := 2) (N := some 29) (v := ?_) (a' := ?_) #[true, true, true, false, false, false, false] rfl rfl (by kernel_rfl) (fun _ _ _ h => h) (Or.inl ⟨by rfl, ?_⟩) ?_ ?_
    rotate_left
    · intro w'
      go_simp
      with_reducible rfl
    rotate_left
    · simp only [Act.put, List.setIfInBounds_toArray, List.set_cons_zero, List.set_cons_succ, i64_w, i32_w, wz2, wz3]
      rfl
    refine pure_ (i := 3) (N := some 30) (v := ?_) (a' := ?_) #[true, true, true, true, false, false, false] rfl rfl (by kernel_rfl) (fun _ _ _ h => h) (Or.inl ⟨by rfl, ?_⟩) ?_ ?_
    rotate_left
    · intro w'
      go_simp
      with_reducible rfl
    rotate_left
    · simp only [Act.put, List.setIfInBounds_toArray, List.set_cons_zero, List.set_cons_succ, i64_w, i32_w, wz2, wz3]
      rfl
    refine pure_ (i := 4) (N := some 31) (v := ?_) (a' := ?_) #[true, true, true, true, true, false, false] rfl rfl (by kernel_rfl) (fun _ _ _ h => h) (Or.inl ⟨by rfl, ?_⟩) ?_ ?_
    rotate_left
    · intro w'
      go_simp
      with_reducible rfl
    rotate_left
    · simp only [Act.put, List.setIfInBounds_toArray, List.set_cons_zero, List.set_cons_succ, i64_w, i32_w, wz2, wz3]
      rfl
    refine pure_ (i := 5) (N := some 32) (v := ?_) (a' := ?_) #[true, true, true, true, true, true, false] rfl rfl (by kernel_rfl) (fun _ _ _ h => h) (Or.inl ⟨by rfl, ?_⟩) ?_ ?_
    rotate_left
    · intro w'
      go_simp
      with_reducible rfl
    rotate_left
    · simp only [Act.put, List.setIfInBounds_toArray, List.set_cons_zero, List.set_cons_succ, i64_w, i32_w, wz2, wz3]
      rfl
    refine pure_ (i := 6) (N := some 33) (v := ?_) (a' := ?_) #[true, true, true, true, true, true, true] rfl rfl (by kernel_rfl) (fun _ _ _ h => h) (Or.inl ⟨by rfl, ?_⟩) ?_ ?_
    rotate_left
    · intro w'
      go_simp
      with_reducible rfl
    rotate_left
    · simp only [Act.put, List.setIfInBounds_toArray, List.set_cons_zero, List.set_cons_succ, i64_w, i32_w, wz2, wz3]
      rfl
    refine done_ (by kernel_rfl) ?_
    go_wp2
    refine start_ (n := 9) (S := fun _ => True) (ds := []) #[false, false, false, false, false, false, false, false, false] (by kernel_rfl) rfl rfl trivial (fun _ => ?_)
    refine pure_ (i := 0) (N := some 34) (v := ?_) (a' := ?_) #[true, false, false, false, false, false, false, false, false] rfl rfl (by kernel_rfl) (fun _ _ _ h => h) (Or.inl ⟨by rfl, ?_⟩) ?_ ?_
    rotate_left
    · intro w'
      go_simp
      with_reducible rfl
    rotate_left
    · simp only [Act.put, List.setIfInBounds_toArray, List.set_cons_zero, List.set_cons_succ, i64_w, i32_w, wz2, wz3]
      rfl
    refine pure_ (i := 1) (N := some 35) (v := ?_) (a' := ?_) #[true, true, false, false, false, false, false, false, false] rfl rfl (by kernel_rfl) (fun _ _ _ h => h) (Or.inl ⟨by rfl, ?_⟩) ?_ ?_
    rotate_left
    · intro w'
      go_simp
      with_reducible rfl
    rotate_left
    · simp only [Act.put, List.setIfInBounds_toArray, List.set_cons_zero, List.set_cons_succ, i64_w, i32_w, wz2, wz3]
      rfl
    refine pure_ (i := 2) (N := some 36) (v := ?_) (a' := ?_) #[true, true, true, false, false, false, false, false, false] rfl rfl (by kernel_rfl) (fun _ _ _ h => h) (Or.inl ⟨by rfl, ?_⟩) ?_ ?_
    rotate_left
    · intro w'
      go_simp
      with_reducible rfl
    rotate_left
    · simp only [Act.put, List.setIfInBounds_toArray, List.set_cons_zero, List.set_cons_succ, i64_w, i32_w, wz2, wz3]
      rfl
    refine pure_ (i := 3) (N := some 37) (v := ?_) (a' := ?_) #[true, true, true, true, false, false, false, false, false] rfl rfl (by kernel_rfl) (fun _ _ _ h => h) (Or.inl ⟨by rfl, ?_⟩) ?_ ?_
    rotate_left
    · intro w'
      go_simp
      with_reducible rfl
    rotate_left
    · simp only [Act.put, List.setIfInBounds_toArray, List.set_cons_zero, List.set_cons_succ, i64_w, i32_w, wz2, wz3]
      rfl
    refine pure_ (i := 4) (N := some 38) (v := ?_) (a' := ?_) #[true, true, true, true, true, false, false, false, false] rfl rfl (by kernel_rfl) (fun _ _ _ h => h) (Or.inl ⟨by rfl, ?_⟩) ?_ ?_
    rotate_left
    · intro w'
      go_simp
      with_reducible rfl
    rotate_left
    · simp only [Act.put, List.setIfInBounds_toArray, List.set_cons_zero, List.set_cons_succ, i64_w, i32_w, wz2, wz3]
      rfl
    refine pure_ (i := 5) (N := some 39) (v := ?_) (a' := ?_) #[true, true, true, true, true, true, false, false, false] rfl rfl (by kernel_rfl) (fun _ _ _ h => h) (Or.inl ⟨by rfl, ?_⟩) ?_ ?_
    rotate_left
    · intro w'
      go_simp
      with_reducible rfl
    rotate_left
    · simp only [Act.put, List.setIfInBounds_toArray, List.set_cons_zero, List.set_cons_succ, i64_w, i32_w, wz2, wz3]
      rfl
    refine pure_ (i := 6) (N := some 40) (v := ?_) (a' := ?_) #[true, true, true, true, true, true, true, false, false] rfl rfl (by kernel_rfl) (fun _ _ _ h => h) (Or.inl ⟨by rfl, ?_⟩) ?_ ?_
    rotate_left
    · intro w'
      go_simp
      with_reducible rfl
    rotate_left
    · simp only [Act.put, List.setIfInBounds_toArray, List.set_cons_zero, List.set_cons_succ, i64_w, i32_w, wz2, wz3]
      rfl
    refine one_ (i := 7) (N := some 41) #[true, true, true, true, true, true, true, true, false] rfl rfl (by kernel_rfl) (by decide) (fun K hK => ?_)
    refine goes_ Try.func124 (by kernel_rfl) rfl _ (by rfl) rfl rfl (by (try simp only [List.map_toArray, List.map_cons, List.map_nil]); first | done | rfl) ?_
    refine (Ytbdjconojnjgdaa.ShI.strings_IndexByte _ _ _).mono ?_
    rintro e w' ⟨rfl, rfl⟩
    refine ⟨_, rfl, ?_⟩
    rw [hib]
    refine hK.out _ _ trivial (fun _ => ?_)
    clear hK K
    refine norm_ (a' := ?_) ?_ ?_
    rotate_left
    · show Act.put _ (some 41) _ = _
      simp only [Act.put, List.setIfInBounds_toArray, List.set_cons_zero, List.set_cons_succ, i64_w, i32_w, wz2, wz3]
      rfl
    refine pure_ (i := 8) (N := some 11) (v := ?_) (a' := ?_) #[true, true, true, true, true, true, true, true, true] rfl rfl (by kernel_rfl) (fun _ _ _ h => h) (Or.inl ⟨by rfl, ?_⟩) ?_ ?_
    rotate_left
    · intro w'
      go_simp
      with_reducible rfl
    rotate_left
    · simp only [Act.put, List.setIfInBounds_toArray, List.set_cons_zero, List.set_cons_succ, i64_w, i32_w, wz2, wz3]
      rfl
    refine done_ (by kernel_rfl) ?_
    go_wp2
    skip
    try rw [Exit.noGoto_ret]
    try go_simp
    try rw [Exit.noGoto_ret]
    try go_simp
    skip
    go_ret
    exact ⟨rfl, below_drew1 (below_drew1 (Below.refl _ _))⟩
set_option maxHeartbeats 4000000 in
set_option maxRecDepth 100000 in
theorem rune_4 (a b c d : UInt8) (hb : 128 ≤ d.toNat) (r : Int) (he : Utf8.encode r = ⟨#[a, b, c, d]⟩) (h0 : 128 ≤ r) (h2 : ¬ r = 65533) (hv : Lib.validRune r = true) (w : World) :
    Calls Try.prog 102 #[.string ⟨#[40, 32, 41]⟩, .int .i32 r] w fun e w' => e = .returned (.int .i64 (-1)) ∧ Below w.heap.size w w' := by
  have c1 : decide (0 ≤ r) = true := decide_eq_true (by omega)
  have c2 : decide (r < 128) = false := decide_eq_false (by omega)
  have t3 := Try.underlying3; have a3 := Try.isAgg3; have z3 := Try.sizeOf3; have v3 := Try.zeroValue3
  have t4 := Try.underlying4; have a4 := Try.isAgg4; have z4 := Try.sizeOf4; have v4 := Try.zeroValue4
  have t5 := Try.underlying5; have a5 := Try.isAgg5; have z5 := Try.sizeOf5; have v5 := Try.zeroValue5
  have t9 := Try.underlying9; have a9 := Try.isAgg9; have z9 := Try.sizeOf9; have v9 := Try.zeroValue9
  have t21 := Try.underlying21; have a21 := Try.isAgg21; have z21 := Try.sizeOf21; have v21 := Try.zeroValue21
  go_enter Try.func102, Try.ntmps102
  go_wp2_with (go_at_call 125; refine (Ytbdjconojnjgdaa.ShI.utf8_ValidRune _ _).mono ?_; rintro e w' ⟨rfl, hw⟩; rw [hw])
  with_reducible refine wp_scope_straight ?_
  go_wp2
  go_loopg [9, 10] 1 (fun g v9 v10 wx => v9 = .int .i64 3 ∧ v10 = .int .i64 0 ∧ wx = w)
  case atStart => exact ⟨rfl, rfl, rfl⟩
  case round =>
    obtain ⟨rfl, rfl, rfl⟩ := hrel
    go_wp2
    skip
    try rw [Exit.noGoto_ret]
    try go_simp
    try rw [Exit.noGoto_ret]
    try go_simp
    skip
    go_ret
    exact ⟨rfl, Below.refl _ _⟩

def spc : ByteArray := ⟨#[40, 32, 41]⟩
set_option maxHeartbeats 4000000 in
set_option maxRecDepth 100000 in
theorem rune_bad (w : World) :
    Calls Try.prog 102 #[.string ⟨#[40, 32, 41]⟩, .int .i32 65533] w fun e w' => e = .returned (.int .i64 (-1)) ∧ Below w.heap.size w w' := by
  have t3 := Try.underlying3; have a3 := Try.isAgg3; have z3 := Try.sizeOf3; have v3 := Try.zeroValue3
  have t4 := Try.underlying4; have a4 := Try.isAgg4; have z4 := Try.sizeOf4; have v4 := Try.zeroValue4
  have t5 := Try.underlying5; have a5 := Try.isAgg5; have z5 := Try.sizeOf5; have v5 := Try.zeroValue5
  have t9 := Try.underlying9; have a9 := Try.isAgg9; have z9 := Try.sizeOf9; have v9 := Try.zeroValue9
  have t21 := Try.underlying21; have a21 := Try.isAgg21; have z21 := Try.sizeOf21; have v21 := Try.zeroValue21
  go_enter Try.func102, Try.ntmps102
  go_wp2
  try with_reducible refine wp_scope_straight ?_
  try go_wp2
  go_loopg [5, 6] 3 (fun g _ _ wx => ∃ i : Nat, i + g = 3 ∧ wx = w.iter ⟨#[40, 32, 41]⟩ i)
  case atStart => exact ⟨0, rfl, rfl⟩
  case round =>
    obtain ⟨i, hig, rfl⟩ := hrel
    cases gk with
    | zero =>
      obtain rfl : i = 3 := by omega
      have hnx := run_next_end (P := Try.prog) w ⟨#[40, 32, 41]⟩ 3
      go_wp2
      try rw [Exit.noGoto_ret]
      try go_simp
      go_ret
      exact ⟨rfl, (Below.refl _ _).alloc (Nat.le_refl _) _⟩
    | succ g =>
      have hi : i < (⟨#[40, 32, 41]⟩ : ByteArray).size := by show i < 3; omega
      have hx128 : ((⟨#[40, 32, 41]⟩ : ByteArray)[i]'hi).toNat < 128 := by
        have h3 : i = 0 ∨ i = 1 ∨ i = 2 := by omega
        rcases h3 with rfl | rfl | rfl
        · show (40 : UInt8).toNat < 128; decide
        · show (32 : UInt8).toNat < 128; decide
        · show (41 : UInt8).toNat < 128; decide
      have hnx := fun ty => run_next_ascii (P := Try.prog) w ⟨#[40, 32, 41]⟩ i ty hi hx128
      generalize (⟨#[40, 32, 41]⟩ : ByteArray)[i]'hi = x at hnx hx128
      have hne : ((x.toNat : Int) == 65533) = false := beq_eq_false_iff_ne.2 (by omega)
      go_wp2
      go_roundg g
      case measure => omega
      case rel => exact ⟨i + 1, by omega, rfl⟩
theorem u8nat (n : Nat) (h : n < 256) : (UInt8.ofNat n).toNat = n := by simp; omega
theorem rune_high (r : Nat) (h : 128 ≤ r) (hv : r = 65533 ∨ r < 55296 ∨ (57344 ≤ r ∧ r ≤ 1114111)) (w : World) :
    Calls Try.prog 102 #[.string ⟨#[40, 32, 41]⟩, .int .i32 (r : Int)] w fun e w' => e = .returned (.int .i64 (-1)) ∧ Below w.heap.size w w' := by
  by_cases h3 : r = 65533
  · subst h3; exact rune_bad w
  have hval : Utf8.valid (r : Int) = true := by unfold Utf8.valid; simp only [Bool.or_eq_true, Bool.and_eq_true, decide_eq_true_iff]; omega
  have hvr : Lib.validRune (r : Int) = true := decide_eq_true (by omega)
  have e : Utf8.encode (r : Int) = (if r < 0x80 then ⟨#[UInt8.ofNat r]⟩ else if r < 0x800 then ⟨#[UInt8.ofNat (0xC0 + r / 64), UInt8.ofNat (0x80 + r % 64)]⟩ else if r < 0x10000 then ⟨#[UInt8.ofNat (0xE0 + r / 4096), UInt8.ofNat (0x80 + r / 64 % 64), UInt8.ofNat (0x80 + r % 64)]⟩ else ⟨#[UInt8.ofNat (0xF0 + r / 262144), UInt8.ofNat (0x80 + r / 4096 % 64), UInt8.ofNat (0x80 + r / 64 % 64), UInt8.ofNat (0x80 + r % 64)]⟩) := by
    unfold Utf8.encode; rw [hval]; rfl
  have hl : 128 ≤ (UInt8.ofNat (0x80 + r % 64)).toNat := by rw [u8nat _ (by omega)]; omega
  rw [if_neg (by omega)] at e
  by_cases c1 : r < 0x800
  · rw [if_pos c1] at e
    exact rune_2 _ _ hl _ e (by omega) (by omega) hvr w
  rw [if_neg c1] at e
  by_cases c2 : r < 0x10000
  · rw [if_pos c2] at e
    exact rune_3 _ _ _ hl _ e (by omega) (by omega) hvr w
  rw [if_neg c2] at e
  exact rune_4 _ _ _ _ hl _ e (by omega) (by omega) hvr w
/-- What is read of a string at a place where no ASCII byte stands: a rune of 128 or more, over bytes of 128 or more. -/
theorem decode_high (s : ByteArray) (i : Nat) (hi : i < s.size) (hb : 128 ≤ (s.get! i).toNat) :
    128 ≤ (Utf8.decode s i).1 ∧ ((Utf8.decode s i).1 = 65533 ∨ (Utf8.decode s i).1 < 55296 ∨ (57344 ≤ (Utf8.decode s i).1 ∧ (Utf8.decode s i).1 ≤ 1114111)) ∧ 1 ≤ (Utf8.decode s i).2 ∧ i + (Utf8.decode s i).2 ≤ s.size ∧ ∀ j, i ≤ j → j < i + (Utf8.decode s i).2 → 128 ≤ (s.get! j).toNat := by
  rw [Lib.decode_at]
  have hs := Lib.decodeN_shape (s.size - i) (s.get! i).toNat (s.get! (i + 1)).toNat (s.get! (i + 2)).toNat (s.get! (i + 3)).toNat
  rcases hs with h | h | h | h | h
  · omega
  · obtain ⟨h1, h2, h3, h4, h5⟩ := h
    rw [h5]
    refine ⟨by omega, by omega, by omega, by omega, fun j ha hj => ?_⟩
    have : j = i ∨ j = i + 1 := by dsimp only at hj; omega
    rcases this with rfl | rfl <;> omega
  · obtain ⟨h1, h2, h3, h4, h5, h6, h7⟩ := h
    rw [h7]
    refine ⟨by omega, by omega, by omega, by omega, fun j ha hj => ?_⟩
    have : j = i ∨ j = i + 1 ∨ j = i + 2 := by dsimp only at hj; omega
    rcases this with rfl | rfl | rfl <;> omega
  · obtain ⟨h1, h2, h3, h4, h5, h6, h7, h8⟩ := h
    rw [h8]
    refine ⟨by omega, by omega, by omega, by omega, fun j ha hj => ?_⟩
    have : j = i ∨ j = i + 1 ∨ j = i + 2 ∨ j = i + 3 := by dsimp only at hj; omega
    rcases this with rfl | rfl | rfl | rfl <;> omega
  · rw [h]
    refine ⟨by omega, by omega, by omega, by omega, fun j ha hj => ?_⟩
    have : j = i := by dsimp only at hj; omega
    subst this; omega
theorem get_bang (s : ByteArray) (i : Nat) (h : i < s.size) : s.get! i = s[i] := by
  show s.data[i]! = s.data[i]
  exact getElem!_pos s.data i h
theorem not_spc (b : UInt8) (h : 128 ≤ b.toNat) : ([40, 32, 41] : List UInt8).contains b = false := by
  cases hc : ([40, 32, 41] : List UInt8).contains b with
  | false => rfl
  | true =>
    simp at hc
    rcases hc with rfl | rfl | rfl <;> exact absurd h (by decide)
set_option maxHeartbeats 4000000 in
set_option maxRecDepth 100000 in
theorem any_short (s : ByteArray) (h8 : s.size ≤ 8) (w : World) :
    Calls Try.prog 72 #[.string s, .string ⟨#[40, 32, 41]⟩] w fun e w' => e = .returned (.int .i64 (Lib.indexAny s.data.toList [40, 32, 41])) ∧ Below w.heap.size w w' := by
  have hemp : (⟨#[40, 32, 41]⟩ : ByteArray).toList.isEmpty = false := by rw [Lib.toList_data]; rfl
  have h8z : decide ((8 : Int) < (s.size : Int)) = false := decide_eq_false (by omega)
  have t3 := Try.underlying3; have a3 := Try.isAgg3; have z3 := Try.sizeOf3; have v3 := Try.zeroValue3
  have t4 := Try.underlying4; have a4 := Try.isAgg4; have z4 := Try.sizeOf4; have v4 := Try.zeroValue4
  have t5 := Try.underlying5; have a5 := Try.isAgg5; have z5 := Try.sizeOf5; have v5 := Try.zeroValue5
  have t9 := Try.underlying9; have a9 := Try.isAgg9; have z9 := Try.sizeOf9; have v9 := Try.zeroValue9
  have t21 := Try.underlying21; have a21 := Try.isAgg21; have z21 := Try.sizeOf21; have v21 := Try.zeroValue21
  go_enter Try.func72, Try.ntmps72
  go_wp2_with (go_at_call 103; refine (Ytbdjconojnjgdaa.ShI.strings_shouldUseASCIISet _ _).mono ?_; rintro e w' ⟨rfl, hw⟩; rw [hw, h8z])
  go_loopg [9, 10] s.size (fun g _ _ wr => ∃ pos : Nat, pos + g = s.size ∧ wr.heap[w.heap.size]? = some (.stringIter s pos) ∧ Below w.heap.size w wr ∧ Lib.NoAny s.data.toList [40, 32, 41] pos)
  case atStart => exact ⟨0, by omega, World.iter_heap w s 0, (Below.refl _ _).alloc (Nat.le_refl _) _, Lib.NoAny.zero _ _⟩
  case round =>
    obtain ⟨pos, hpg, hit, hbw, hno⟩ := hrel
    have HN : Aside (Lib.NoAny s.data.toList [40, 32, 41] pos) := hno
    clear hno
    by_cases hp : pos < s.size
    · have hnx : ∀ ty, (Instr.next (.pointer (some ⟨w.heap.size, 0, none⟩)) true ty).run Try.prog _ = _ := fun ty => Lib.run_next_any_at _ w.heap.size s pos ty hit hp
      have hit2 := Lib.iterAt_heap _ w.heap.size s pos (pos + (Utf8.decode s pos).2) hit
      have hbw2 := Lib.below_iterAt hbw (k := w.heap.size) (Nat.le_refl _) s (pos + (Utf8.decode s pos).2)
      generalize hW1 : World.iterAt _ w.heap.size s (pos + (Utf8.decode s pos).2) = W1 at hnx hit2 hbw2
      clear hW1
      have hlt := lt_of_block hit2
      have hget : s.get! pos = s[pos] := get_bang s pos hp
      by_cases ha : (s[pos]'hp).toNat < 128
      · have hd := decode_ascii s pos hp ha
        rw [hd] at hnx hit2
        obtain ⟨x, hx⟩ : ∃ x : UInt8, s[pos]'hp = x := ⟨_, rfl⟩
        have hxl : s.data.toList[pos]? = some x := by rw [← hx]; exact Lib.data_getElem? s pos hp
        rw [hx] at hnx ha
        have Hx : Aside (s.data.toList[pos]? = some x) := hxl
        clear hxl hx hd hget
        have hcon := Lib.contains_iff_indexByte [40, 32, 41] x
        have hback : ((x.toNat : Int)).toNat.toUInt8 = x := by simp
        cases hin : ([40, 32, 41] : List UInt8).contains x
        · rw [hin] at hcon
          have hlt0 : ¬ ((0 : Int) ≤ Lib.indexByte [40, 32, 41] x) := of_decide_eq_false hcon.symm
          clear hcon
          go_wp2_with (go_at_call 102; refine (Ytbdjconojnjgdaa.ShI.strings_IndexRune_ascii _ _ _ (by omega) (by omega)).mono ?_; rintro e w' ⟨rfl, hw⟩; rw [hw, hback])
          go_roundg (s.size - (pos + 1))
          case measure => omega
          case rel => exact ⟨pos + 1, by omega, hit2, hbw2, HN.out.succ Hx.out hin⟩
        · rw [hin] at hcon
          have hge : (0 : Int) ≤ Lib.indexByte [40, 32, 41] x := of_decide_eq_true hcon.symm
          clear hcon
          go_wp2_with (go_at_call 102; refine (Ytbdjconojnjgdaa.ShI.strings_IndexRune_ascii _ _ _ (by omega) (by omega)).mono ?_; rintro e w' ⟨rfl, hw⟩; rw [hw, hback])
          go_ret
          exact ⟨by rw [Lib.indexAny_hit HN.out Hx.out hin]; rfl, hbw2⟩
      · have hd := decode_high s pos hp (by rw [hget]; omega)
        obtain ⟨c, hc⟩ : ∃ c, (Utf8.decode s pos).1 = c := ⟨_, rfl⟩
        obtain ⟨wd, hwd⟩ : ∃ wd, (Utf8.decode s pos).2 = wd := ⟨_, rfl⟩
        rw [hc] at hnx hd
        rw [hwd] at hit2 hd
        obtain ⟨d1, d2, d3, d4, d5⟩ := hd
        have HD : Aside (∀ j, pos ≤ j → j < pos + wd → 128 ≤ (s.get! j).toNat) := d5
        clear d5 hc hwd hget
        go_wp2_with (go_at_call 102; refine (rune_high c d1 d2 _).mono ?_; rintro e w2 ⟨rfl, hb2⟩)
        go_roundg (s.size - (pos + wd))
        case measure => omega
        case rel =>
          refine ⟨pos + wd, by omega, (hb2.block w.heap.size hlt).trans hit2, below_then hbw2 hbw2.size hb2, fun j b hj hb => ?_⟩
          by_cases hjp : j < pos
          · exact HN.out j b hjp hb
          · have hjs : j < s.size := by omega
            have h1 := HD.out j (by omega) hj
            have h2 := Lib.data_getElem? s j hjs
            rw [h2] at hb
            have h3 : s.get! j = b := (get_bang s j hjs).trans (Option.some.inj hb)
            rw [h3] at h1
            exact not_spc b h1
    · obtain rfl : pos = s.size := by omega
      have hnx : ∀ ty, (Instr.next (.pointer (some ⟨w.heap.size, 0, none⟩)) true ty).run Try.prog _ = _ := fun ty => Lib.run_next_end_at _ w.heap.size s s.size ty hit hp
      go_wp2
      go_ret
      exact ⟨by rw [Lib.indexAny_none (by rw [← Lib.size_eq]; exact HN.out)]; rfl, hbw⟩
theorem zero96 : (Try.prog.info? 96).map (fun i => (i.zero, i.size)) = some (some (.agg (Array.replicate 256 (.bool false))), 256) := by kernel_rfl
/-- strings.IndexAny with the three bytes '( )', over every string. -/
theorem any_spc (s : ByteArray) (hs : s.size < 4294967281) (w : World) :
    Calls Try.prog 72 #[.string s, .string ⟨#[40, 32, 41]⟩] w fun e w' => e = .returned (.int .i64 (Lib.indexAny s.data.toList [40, 32, 41])) ∧ Below w.heap.size w w' := by
  by_cases h8 : s.size ≤ 8
  · exact any_short s h8 w
  · refine (Ytbdjconojnjgdaa.ShI.strings_IndexAny_long (zero_of_info zero96).1 s ⟨#[40, 32, 41]⟩ w (by decide) (by omega) hs (by decide) (fun j b hb => ?_)).mono fun e w' hh => ⟨hh.1, ?_⟩
    · have hm : b ∈ ([40, 32, 41] : List UInt8) := List.mem_of_getElem? hb
      simp at hm
      rcases hm with rfl | rfl | rfl <;> decide
    · rw [hh.2]
      exact ((Below.refl _ _).alloc (Nat.le_refl _) _).alloc (by simp) _
end Go.Proofs.Ytbdjconojnjgdaa.ShA
