/- Functions of the program and what each call of them comes to, for the law FnBytes; written by a program of this session. No condition beyond those of each theorem. -/
import Derived.Test.YtpkokfffjgdjoaaHFnBytesx0
import Derived.Test.YtpkokfffjgdjoaaHFnBytesx3
import Derived.Test.YtpkokfffjgdjoaaHFnBytesx5
import Derived.Test.YtpkokfffjgdjoaaHFnBytesx9
namespace Go.Proofs.Ytpkokfffjgdjoaa.HFnBytes
open Go.RowKit Go.Proofs.YtpkokfffjgdjoaaW.PrintWords Go.Proofs.YtpkokfffjgdjoaaW.PrintLast Go.Proofs.YtpkokfffjgdjoaaW.PrintMore
attribute [local go_sem] max2_int min2_int max_two min_two max_three min_three max_four min_four   -- for this text's walks alone
open List renaming setIfInBounds_toArray → s1_, set_cons_zero → s2_, set_cons_succ → s3_
set_option linter.unusedVariables false
set_option linter.unusedSimpArgs false

/-! ### spec_ReadVar: function 51 -/
mutual
def spec_ReadVar.l0 : Nat → ByteArray → Int → Option (Int × Int)
 | 0, _, _ => none
 | k + 1, x0, x4 => if x4 ≤ 7 then (spec_ReadVar.j1 k x0 x4 (decide (x4 ≤ (x0.size : Int)))) else (spec_ReadVar.j1 k x0 x4 false)
def spec_ReadVar.j1 : Nat → ByteArray → Int → Bool → Option (Int × Int)
 | 0, _, _, _ => none
 | k + 1, x0, x4, x14 => if x14 = true then (spec_ReadVar.l1 k x0 x4 0 (wrap64 (x4 - 1))) else (some (0, 0))
def spec_ReadVar.l1 : Nat → ByteArray → Int → Int → Int → Option (Int × Int)
 | 0, _, _, _, _ => none
 | k + 1, x0, x4, x5, x6 => if x6 ≥ 0 then (if 0 ≤ x6 then (if x6 < (x0.size : Int) then (spec_ReadVar.l1 k x0 x4 (wrap64 ((wrap64 (x5 * 128)) + (Int.tmod (wrap64 (bt x0 x6)) 128))) (wrap64 (x6 - 1))) else (none)) else (none)) else ((spec_Var.f k x5).bind fun t392 => (if 0 ≤ x4 then (if x4 ≤ (x0.size : Int) then (if t392.toList = (x0.extract 0 (x4 : Int).toNat).toList then (some (x5, x4)) else (spec_ReadVar.l0 k x0 (wrap64 (x4 + 1)))) else (none)) else (none)))
end
def spec_ReadVar.f (k : Nat) (a0 : ByteArray) : Option (Int × Int) := spec_ReadVar.l0 k a0 1
theorem spec_ReadVar.mono_l : ∀ k, (∀ y0 y1, LeO (spec_ReadVar.l0 k y0 y1) (spec_ReadVar.l0 (k + 1) y0 y1)) ∧ (∀ y0 y1 y2, LeO (spec_ReadVar.j1 k y0 y1 y2) (spec_ReadVar.j1 (k + 1) y0 y1 y2)) ∧ (∀ y0 y1 y2 y3, LeO (spec_ReadVar.l1 k y0 y1 y2 y3) (spec_ReadVar.l1 (k + 1) y0 y1 y2 y3))
 | 0 => ⟨fun _ _ r h => by simp [spec_ReadVar.l0] at h, fun _ _ _ r h => by simp [spec_ReadVar.j1] at h, fun _ _ _ _ r h => by simp [spec_ReadVar.l1] at h⟩
 | k + 1 => by
  obtain ⟨ih0, ih1, ih2⟩ := spec_ReadVar.mono_l k
  refine ⟨?_, ?_, ?_⟩
  ·intro y0 y1
   unfold spec_ReadVar.l0
   repeat' first
   | (with_reducible exact ih0 _ _)
   | (with_reducible exact ih1 _ _ _)
   | (with_reducible exact ih2 _ _ _ _)
   | (with_reducible exact spec_Var.mono _ _)
   | (with_reducible exact LeO.refl _)
   | (with_reducible exact LeO.none _)
   | (with_reducible refine LeO.ite ?_ ?_)
   | (with_reducible refine LeO.bind ?_ (fun _ => ?_))
   | exact ih0 _ _
   | exact ih1 _ _ _
   | exact ih2 _ _ _ _
   | exact spec_Var.mono _ _
   | exact LeO.none _
   | refine LeO.ite ?_ ?_
   | refine LeO.bind ?_ (fun _ => ?_)
  ·intro y0 y1 y2
   unfold spec_ReadVar.j1
   repeat' first
   | (with_reducible exact ih0 _ _)
   | (with_reducible exact ih1 _ _ _)
   | (with_reducible exact ih2 _ _ _ _)
   | (with_reducible exact spec_Var.mono _ _)
   | (with_reducible exact LeO.refl _)
   | (with_reducible exact LeO.none _)
   | (with_reducible refine LeO.ite ?_ ?_)
   | (with_reducible refine LeO.bind ?_ (fun _ => ?_))
   | exact ih0 _ _
   | exact ih1 _ _ _
   | exact ih2 _ _ _ _
   | exact spec_Var.mono _ _
   | exact LeO.none _
   | refine LeO.ite ?_ ?_
   | refine LeO.bind ?_ (fun _ => ?_)
  ·intro y0 y1 y2 y3
   unfold spec_ReadVar.l1
   repeat' first
   | (with_reducible exact ih0 _ _)
   | (with_reducible exact ih1 _ _ _)
   | (with_reducible exact ih2 _ _ _ _)
   | (with_reducible exact spec_Var.mono _ _)
   | (with_reducible exact LeO.refl _)
   | (with_reducible exact LeO.none _)
   | (with_reducible refine LeO.ite ?_ ?_)
   | (with_reducible refine LeO.bind ?_ (fun _ => ?_))
   | exact ih0 _ _
   | exact ih1 _ _ _
   | exact ih2 _ _ _ _
   | exact spec_Var.mono _ _
   | exact LeO.none _
   | refine LeO.ite ?_ ?_
   | refine LeO.bind ?_ (fun _ => ?_)
theorem spec_ReadVar.mono : ∀ a0 k, LeO (spec_ReadVar.f k a0) (spec_ReadVar.f (k + 1) a0) := by
 intro a0 k
 obtain ⟨ih0, ih1, ih2⟩ := spec_ReadVar.mono_l k
 unfold spec_ReadVar.f
 repeat' first
   | (with_reducible exact ih0 _ _)
   | (with_reducible exact ih1 _ _ _)
   | (with_reducible exact ih2 _ _ _ _)
   | (with_reducible exact spec_Var.mono _ _)
   | (with_reducible exact LeO.refl _)
   | (with_reducible exact LeO.none _)
   | (with_reducible refine LeO.ite ?_ ?_)
   | (with_reducible refine LeO.bind ?_ (fun _ => ?_))
   | exact ih0 _ _
   | exact ih1 _ _ _
   | exact ih2 _ _ _ _
   | exact spec_Var.mono _ _
   | exact LeO.none _
   | refine LeO.ite ?_ ?_
   | refine LeO.bind ?_ (fun _ => ?_)
set_option maxHeartbeats 8000000 in
set_option maxRecDepth 100000 in
theorem spec_ReadVar.calls (k : Nat) (a0 : ByteArray) (r1 : Int) (r2 : Int) (w : World) (h : spec_ReadVar.f k a0 = some (r1, r2)) :
  Calls Try.prog 51 #[.string a0] w fun e w' => e = .returned (.tuple #[.int .i64 r1, .int .i64 r2]) ∧ Below w.heap.size w w' := by
 have HB := Aside0.mk (Below.refl w.heap.size w)
 have H : (spec_ReadVar.l0 k a0 1) = some (r1, r2) := h
 clear h; have H' := Aside0.mk H; clear H
 go_enter Try.func51, Try.ntmps51
 go_wp2
 go_loopg [4] k (fun kq v4 w' => ∃ (x4_1 : Int), v4 = .int .i64 x4_1 ∧ Aside0 (spec_ReadVar.l0 kq a0 x4_1 = some (r1, r2)) ∧ Aside0 (kq ≤ k) ∧ Aside0 (Below w.heap.size w w'))
 case atStart => exact ⟨(1), (by first | rfl | (simp; done) | (simp [*]; done)), H', ⟨Nat.le_refl _⟩, ⟨by repeat (first | exact HB.out | apply below_alloc | apply pw_below_drewN | apply below_drew1)⟩⟩
 case round =>
  clear H'
  obtain ⟨x4_1, rfl, HA, HK1, HB⟩ := hrel
  cases gk with
  | zero => exact absurd HA.out (by simp [spec_ReadVar.l0])
  | succ k1 =>
   have H := HA.out; clear HA
   simp only [spec_ReadVar.l0] at H
   have HC2 := Aside0.mk H; clear H
   go_upto_region 2 with (fail)
   go_cut [14] (fun v14 wc => ∃ (kq : Nat) (x14_1 : Bool), v14 = .bool x14_1 ∧ Aside0 (spec_ReadVar.j1 kq a0 x4_1 x14_1 = some (r1, r2)) ∧ Aside0 (kq ≤ k1) ∧ Aside0 (Below w.heap.size w wc))
   case first =>
    have H := HC2.out; clear HC2
    by_cases c3 : x4_1 ≤ 7
    ·rw [if_pos c3] at H
     have c3b0 : decide (x4_1 ≤ 7) = true := decide_eq_true c3
     clear c3
     (first | rw [c3b0] | (simp only [i64_w, i32_w]; rw [c3b0]) | skip)
     have H' := Aside0.mk H; clear H
     go_wp2
     go_meet
     case rel => exact ⟨_, (decide (x4_1 ≤ (a0.size : Int))), (by first | rfl | (simp; done) | (simp [*]; done)), H', ⟨by have := HK1.out; first | omega | exact Nat.le_refl _⟩, ⟨by repeat (first | exact HB.out | apply below_alloc | apply pw_below_drewN | apply below_drew1)⟩⟩
    ·rw [if_neg c3] at H
     have c3b0 : decide (x4_1 ≤ 7) = false := decide_eq_false c3
     clear c3
     (first | rw [c3b0] | (simp only [i64_w, i32_w]; rw [c3b0]) | skip)
     have H' := Aside0.mk H; clear H
     go_wp2
     go_meet
     case rel => exact ⟨_, (false), (by first | rfl | (simp; done) | (simp [*]; done)), H', ⟨by have := HK1.out; first | omega | exact Nat.le_refl _⟩, ⟨by repeat (first | exact HB.out | apply below_alloc | apply pw_below_drewN | apply below_drew1)⟩⟩
   case rest =>
    clear HC2
    try clear p2
    try clear c3
    try clear c3b0
    obtain ⟨kq, x14_1, rfl, HA, HJ1, HB⟩ := hcut
    cases kq with
    | zero => exact absurd HA.out (by simp [spec_ReadVar.j1])
    | succ kj1 =>
     have H := HA.out; clear HA
     simp only [spec_ReadVar.j1] at H
     by_cases c4 : x14_1 = true
     ·subst c4
      have H1 : (spec_ReadVar.l1 kj1 a0 x4_1 0 (wrap64 (x4_1 - 1))) = some (r1, r2) := by rw [if_pos rfl] at H; exact H
      clear H; have H := H1; clear H1; have H' := Aside0.mk H; clear H
      go_wp2
      go_loopg [5, 6] kj1 (fun kq v5 v6 w' => ∃ (x5_3 : Int) (x6_3 : Int), v5 = .int .i64 x5_3 ∧ v6 = .int .i64 x6_3 ∧ Aside0 (spec_ReadVar.l1 kq a0 x4_1 x5_3 x6_3 = some (r1, r2)) ∧ Aside0 (kq ≤ kj1) ∧ Aside0 (Below w.heap.size w w'))
      case atStart => exact ⟨(0), (wrap64 (x4_1 - 1)), (by first | rfl | (simp; done) | (simp [*]; done)), (by first | rfl | (simp; done) | (simp [*]; done)), H', ⟨Nat.le_refl _⟩, ⟨by repeat (first | exact HB.out | apply below_alloc | apply pw_below_drewN | apply below_drew1)⟩⟩
      case round =>
       clear H'
       try clear p2
       try clear c3
       try clear c3b0
       try clear c4
       try clear p2
       obtain ⟨x5_3, x6_3, rfl, rfl, HA, HK3, HB⟩ := hrel
       cases gk with
       | zero => exact absurd HA.out (by simp [spec_ReadVar.l1])
       | succ k3 =>
        have H := HA.out; clear HA
        simp only [spec_ReadVar.l1] at H
        by_cases c5 : x6_3 ≥ 0
        ·rw [if_pos c5] at H
         have c5b0 : decide (0 ≤ x6_3) = true := decide_eq_true c5
         clear c5
         by_cases c6 : 0 ≤ x6_3
         ·rw [if_pos c6] at H
          have c6b0 : decide (0 ≤ x6_3) = true := decide_eq_true c6
          clear c6
          by_cases c7 : x6_3 < (a0.size : Int)
          ·rw [if_pos c7] at H
           have c7b0 : decide (x6_3 < (a0.size : Int)) = true := decide_eq_true c7
           clear c7; have H' := Aside0.mk H; clear H
           have p8 : 0 ≤ (x6_3 : Int) := of_decide_eq_true (by first | (with_reducible assumption) | assumption)
           have q8 : x6_3 < (a0.size : Int) := of_decide_eq_true (by first | (with_reducible assumption) | assumption)
           have hx8 := bt_at a0 x6_3; replace p8 := eq_true p8; replace q8 := eq_true q8
           go_wp2
           go_roundg k3
           case measure => have := HK1.out; have := HJ1.out; have := HK3.out; omega
           case rel => exact ⟨(wrap64 ((wrap64 (x5_3 * 128)) + (Int.tmod (wrap64 (bt a0 x6_3)) 128))), (wrap64 (x6_3 - 1)), (by first | rfl | (simp; done) | (simp [*]; done)), (by first | rfl | (simp; done) | (simp [*]; done)), H', ⟨by have := HK1.out; have := HJ1.out; have := HK3.out; omega⟩, ⟨by repeat (first | exact HB.out | apply below_alloc | apply pw_below_drewN | apply below_drew1)⟩⟩
          ·rw [if_neg c7] at H
           exact absurd H (by simp)
         ·rw [if_neg c6] at H
          exact absurd H (by simp)
        ·rw [if_neg c5] at H
         have c5b0 : decide (0 ≤ x6_3) = false := decide_eq_false c5
         clear c5; replace H := Option.bind_eq_some_iff.mp H
         obtain ⟨t392, A90, H⟩ := H
         replace H : (if 0 ≤ x4_1 then (if x4_1 ≤ (a0.size : Int) then (if t392.toList = (a0.extract 0 (x4_1 : Int).toNat).toList then (some (x5_3, x4_1)) else (spec_ReadVar.l0 k3 a0 (wrap64 (x4_1 + 1)))) else (none)) else (none)) = some (r1, r2) := H
         have A9 := Aside0.mk A90; clear A90
         by_cases c10 : 0 ≤ x4_1
         ·rw [if_pos c10] at H
          have c10b0 := eq_true c10
          have c10b1 : decide (0 ≤ x4_1) = true := decide_eq_true c10
          clear c10
          by_cases c11 : x4_1 ≤ (a0.size : Int)
          ·rw [if_pos c11] at H
           have c11b0 := eq_true c11
           have c11b1 : decide (x4_1 ≤ (a0.size : Int)) = true := decide_eq_true c11
           clear c11
           by_cases c12 : t392.toList = (a0.extract 0 (x4_1 : Int).toNat).toList
           ·rw [if_pos c12] at H
            have c12b0 : (t392.toList == (a0.extract 0 (x4_1 : Int).toNat).toList) = true := beq_iff_eq.mpr c12
            have c12b1 : (t392.toList != (a0.extract 0 (x4_1 : Int).toNat).toList) = false := bne_eq_false_iff_eq.mpr c12
            clear c12
            simp only [Option.some.injEq, Prod.mk.injEq] at H
            obtain ⟨rfl, rfl⟩ := H
            try go_wp2
            have n0_ := Aside0.mk (below_drew1 HB.out); clear HB; have HB := n0_; clear n0_
            refine start_ (n := 6) (S := fun w' => True) (ds := []) #[false, false, false, false, false, false] (by kernel_rfl) rfl rfl trivial (fun hHeld => ?_)
            generalize wr.drew = w13 at HB hHeld ⊢
            refine pure_ (i := 0) (N := some 31) (v := ?_) (a' := ?_) #[true, false, false, false, false, false] rfl rfl (by kernel_rfl) (fun _ _ _ h => h) (Or.inl ⟨by rfl, ?_⟩) ?_ ?_; rotate_left; (intro w'; go_simp; with_reducible rfl); rotate_left; (simp only [Act.put, s1_, s2_, s3_, i64_w, i32_w]; rfl)
            refine pure_ (i := 2) (N := some 33) (v := ?_) (a' := ?_) #[true, false, true, false, false, false] rfl rfl (by kernel_rfl) (fun _ _ _ h => h) (Or.inl ⟨by rfl, ?_⟩) ?_ ?_; rotate_left; (intro w'; go_simp; with_reducible rfl); rotate_left; (simp only [Act.put, s1_, s2_, s3_, i64_w, i32_w]; rfl)
            refine pure_ (i := 3) (N := some 34) (v := ?_) (a' := ?_) #[true, false, true, true, false, false] rfl rfl (by kernel_rfl) (fun _ _ _ h => h) (Or.inl ⟨by rfl, ?_⟩) ?_ ?_; rotate_left; (intro w'; go_simp; with_reducible rfl); rotate_left; (simp only [Act.put, s1_, s2_, s3_, i64_w, i32_w]; rfl)
            refine pure_ (i := 4) (N := some 35) (v := ?_) (a' := ?_) #[true, false, true, true, true, false] rfl rfl (by kernel_rfl) (fun _ _ _ h => h) (Or.inl ⟨by rfl, ?_⟩) ?_ ?_; rotate_left; (intro w'; go_simp; with_reducible rfl); rotate_left; (simp only [Act.put, s1_, s2_, s3_, i64_w, i32_w]; rfl)
            refine one_ (i := 1) (N := some 32) #[true, true, true, true, true, false] rfl rfl (by kernel_rfl) (by decide) (fun K hK => ?_)
            refine goes_ Try.func54 (by kernel_rfl) rfl #[.int .i64 x5_3] (by rfl) rfl rfl (by (try simp only [List.map_toArray, List.map_cons, List.map_nil]); first | done | rfl | (simp only [List.length_drop, List.length_take]; rfl)) ?_
            with_reducible refine (spec_Var.calls k3 x5_3 t392 _ A9.out).mono ?_
            rintro e w14 ⟨rfl, hb⟩
            refine ⟨_, rfl, ?_⟩
            have n0_ := Aside0.mk (below_step (upB HB.out) hb)
            clear HB; have HB := n0_; clear n0_
            (try clear hb)
            (try clear hb2)
            (try clear hk)
            (try clear hi)
            refine hK.out _ _ trivial (fun hHeld => ?_)
            clear hK K
            refine norm_ (a' := ?_) ?_ ?_
            rotate_left
            ·show Act.put _ (some 32) _ = _
             simp only [Act.put, s1_, s2_, s3_, i64_w, i32_w]
             rfl
            refine pure_ (i := 5) (N := some 36) (v := ?_) (a' := ?_) #[true, true, true, true, true, true] rfl rfl (by kernel_rfl) (fun _ _ _ h => h) (Or.inl ⟨by rfl, ?_⟩) ?_ ?_; rotate_left; (intro w'; go_simp; with_reducible rfl); rotate_left; (simp only [Act.put, s1_, s2_, s3_, i64_w, i32_w]; rfl)
            refine done_ (by kernel_rfl) ?_
            try go_wp2
            go_ret2
            exact ⟨by first | rfl | (simp [errW_none, errW_some] <;> rfl) | (simp [*, errW_none, errW_some] <;> rfl), by repeat (first | exact HB.out | apply below_alloc | apply pw_below_drewN | apply below_drew1)⟩
           ·rw [if_neg c12] at H
            have c12b0 : (t392.toList == (a0.extract 0 (x4_1 : Int).toNat).toList) = false := beq_eq_false_iff_ne.mpr c12
            have c12b1 : (t392.toList != (a0.extract 0 (x4_1 : Int).toNat).toList) = true := bne_iff_ne.mpr c12
            have H' := Aside0.mk H; clear H
            try go_wp2
            have n0_ := Aside0.mk (below_drew1 HB.out); clear HB; have HB := n0_; clear n0_
            refine start_ (n := 6) (S := fun w' => True) (ds := []) #[false, false, false, false, false, false] (by kernel_rfl) rfl rfl trivial (fun hHeld => ?_)
            generalize wr.drew = w15 at HB hHeld ⊢
            refine pure_ (i := 0) (N := some 31) (v := ?_) (a' := ?_) #[true, false, false, false, false, false] rfl rfl (by kernel_rfl) (fun _ _ _ h => h) (Or.inl ⟨by rfl, ?_⟩) ?_ ?_; rotate_left; (intro w'; go_simp; with_reducible rfl); rotate_left; (simp only [Act.put, s1_, s2_, s3_, i64_w, i32_w]; rfl)
            refine pure_ (i := 2) (N := some 33) (v := ?_) (a' := ?_) #[true, false, true, false, false, false] rfl rfl (by kernel_rfl) (fun _ _ _ h => h) (Or.inl ⟨by rfl, ?_⟩) ?_ ?_; rotate_left; (intro w'; go_simp; with_reducible rfl); rotate_left; (simp only [Act.put, s1_, s2_, s3_, i64_w, i32_w]; rfl)
            refine pure_ (i := 3) (N := some 34) (v := ?_) (a' := ?_) #[true, false, true, true, false, false] rfl rfl (by kernel_rfl) (fun _ _ _ h => h) (Or.inl ⟨by rfl, ?_⟩) ?_ ?_; rotate_left; (intro w'; go_simp; with_reducible rfl); rotate_left; (simp only [Act.put, s1_, s2_, s3_, i64_w, i32_w]; rfl)
            refine pure_ (i := 4) (N := some 35) (v := ?_) (a' := ?_) #[true, false, true, true, true, false] rfl rfl (by kernel_rfl) (fun _ _ _ h => h) (Or.inl ⟨by rfl, ?_⟩) ?_ ?_; rotate_left; (intro w'; go_simp; with_reducible rfl); rotate_left; (simp only [Act.put, s1_, s2_, s3_, i64_w, i32_w]; rfl)
            refine one_ (i := 1) (N := some 32) #[true, true, true, true, true, false] rfl rfl (by kernel_rfl) (by decide) (fun K hK => ?_)
            refine goes_ Try.func54 (by kernel_rfl) rfl #[.int .i64 x5_3] (by rfl) rfl rfl (by (try simp only [List.map_toArray, List.map_cons, List.map_nil]); first | done | rfl | (simp only [List.length_drop, List.length_take]; rfl)) ?_
            with_reducible refine (spec_Var.calls k3 x5_3 t392 _ A9.out).mono ?_
            rintro e w16 ⟨rfl, hb⟩
            refine ⟨_, rfl, ?_⟩
            have n0_ := Aside0.mk (below_step (upB HB.out) hb)
            clear HB; have HB := n0_; clear n0_
            (try clear hb)
            (try clear hb2)
            (try clear hk)
            (try clear hi)
            refine hK.out _ _ trivial (fun hHeld => ?_)
            clear hK K
            refine norm_ (a' := ?_) ?_ ?_
            rotate_left
            ·show Act.put _ (some 32) _ = _
             simp only [Act.put, s1_, s2_, s3_, i64_w, i32_w]
             rfl
            refine pure_ (i := 5) (N := some 36) (v := ?_) (a' := ?_) #[true, true, true, true, true, true] rfl rfl (by kernel_rfl) (fun _ _ _ h => h) (Or.inl ⟨by rfl, ?_⟩) ?_ ?_; rotate_left; (intro w'; go_simp; with_reducible rfl); rotate_left; (simp only [Act.put, s1_, s2_, s3_, i64_w, i32_w]; rfl)
            refine done_ (by kernel_rfl) ?_
            try go_wp2
            go_roundg k3
            case measure => have := HK1.out; have := HJ1.out; have := HK3.out; omega
            case rel => exact ⟨(wrap64 (x4_1 + 1)), (by first | rfl | (simp; done) | (simp [*]; done)), H', ⟨by have := HK1.out; have := HJ1.out; have := HK3.out; omega⟩, ⟨by repeat (first | exact HB.out | apply below_alloc | apply pw_below_drewN | apply below_drew1)⟩⟩
          ·rw [if_neg c11] at H
           exact absurd H (by simp)
         ·rw [if_neg c10] at H
          exact absurd H (by simp)
     ·replace c4 := Bool.eq_false_iff.mpr c4
      subst c4
      have H1 : (some (0, 0)) = some (r1, r2) := by rw [if_neg (show ¬ (false = true) by decide)] at H; exact H
      clear H; have H := H1; clear H1
      simp only [Option.some.injEq, Prod.mk.injEq] at H
      obtain ⟨rfl, rfl⟩ := H
      go_wp2
      go_ret2
      exact ⟨by first | rfl | (simp [errW_none, errW_some] <;> rfl) | (simp [*, errW_none, errW_some] <;> rfl), by repeat (first | exact HB.out | apply below_alloc | apply pw_below_drewN | apply below_drew1)⟩

/-! ### spec_l4Num: function 31 -/
def spec_l4Num.f (k : Nat) (a0 : ByteArray) (a1 : Int) : Option (Int × Int) := if 0 ≤ a1 then (if a1 ≤ (a0.size : Int) then ((spec_ReadVar.f k (a0.extract (a1 : Int).toNat a0.size)).bind fun bt393 => (if bt393.2 = 0 then (some (0, (-1))) else (some (bt393.1, wrap64 (a1 + bt393.2))))) else (none)) else (none)
theorem spec_l4Num.mono : ∀ a0 a1 k, LeO (spec_l4Num.f k a0 a1) (spec_l4Num.f (k + 1) a0 a1) := by
 intro a0 a1 k
 unfold spec_l4Num.f
 repeat' first
   | (with_reducible exact spec_ReadVar.mono _ _)
   | (with_reducible exact LeO.refl _)
   | (with_reducible exact LeO.none _)
   | (with_reducible refine LeO.ite ?_ ?_)
   | (with_reducible refine LeO.bind ?_ (fun _ => ?_))
   | exact spec_ReadVar.mono _ _
   | exact LeO.none _
   | refine LeO.ite ?_ ?_
   | refine LeO.bind ?_ (fun _ => ?_)
set_option maxHeartbeats 8000000 in
set_option maxRecDepth 100000 in
theorem spec_l4Num.calls (k : Nat) (a0 : ByteArray) (a1 : Int) (r1 : Int) (r2 : Int) (w : World) (h : spec_l4Num.f k a0 a1 = some (r1, r2)) :
  Calls Try.prog 31 #[.string a0, .int .i64 a1] w fun e w' => e = .returned (.tuple #[.int .i64 r1, .int .i64 r2]) ∧ Below w.heap.size w w' := by
 have HB := Aside0.mk (Below.refl w.heap.size w)
 have H : (if 0 ≤ a1 then (if a1 ≤ (a0.size : Int) then ((spec_ReadVar.f k (a0.extract (a1 : Int).toNat a0.size)).bind fun bt393 => (if bt393.2 = 0 then (some (0, (-1))) else (some (bt393.1, wrap64 (a1 + bt393.2))))) else (none)) else (none)) = some (r1, r2) := h
 clear h
 by_cases c3 : 0 ≤ a1
 ·rw [if_pos c3] at H
  have c3b0 := eq_true c3
  have c3b1 : decide (0 ≤ a1) = true := decide_eq_true c3
  clear c3
  by_cases c4 : a1 ≤ (a0.size : Int)
  ·rw [if_pos c4] at H
   have c4b0 := eq_true c4
   have c4b1 : decide (a1 ≤ (a0.size : Int)) = true := decide_eq_true c4
   clear c4; replace H := Option.bind_eq_some_iff.mp H
   obtain ⟨⟨t393, t394⟩, A50, H⟩ := H
   replace H : (if t394 = 0 then (some (0, (-1))) else (some (t393, wrap64 (a1 + t394)))) = some (r1, r2) := H
   have A5 := Aside0.mk A50; clear A50
   by_cases c6 : t394 = 0
   ·rw [if_pos c6] at H
    have c6b0 : (t394 == 0) = true := beq_iff_eq.mpr c6
    have c6b1 : (t394 != 0) = false := bne_eq_false_iff_eq.mpr c6
    clear c6
    simp only [Option.some.injEq, Prod.mk.injEq] at H
    obtain ⟨rfl, rfl⟩ := H
    go_enter Try.func31, Try.ntmps31
    go_wp2_with (first | ((with_reducible refine gate_callee (f := 51) rfl ?_); refine goesM (some 12) Try.func51 #[.string (a0.extract (a1 : Int).toNat a0.size)] ?_; (with_reducible refine (spec_ReadVar.calls k (a0.extract (a1 : Int).toNat a0.size) t393 t394 _ A5.out).mono ?_); rintro e w7 ⟨rfl, hb⟩; refine ⟨_, rfl, ?_⟩; have n0_ := Aside0.mk (below_step (upB HB.out) hb); clear HB; have HB := n0_; clear n0_; (try clear hb); (try clear hb2); (try clear hk); (try clear hi)))
    go_ret2
    exact ⟨by first | rfl | (simp [errW_none, errW_some] <;> rfl) | (simp [*, errW_none, errW_some] <;> rfl), by repeat (first | exact HB.out | apply below_alloc | apply pw_below_drewN | apply below_drew1)⟩
   ·rw [if_neg c6] at H
    have c6b0 : (t394 == 0) = false := beq_eq_false_iff_ne.mpr c6
    have c6b1 : (t394 != 0) = true := bne_iff_ne.mpr c6
    simp only [Option.some.injEq, Prod.mk.injEq] at H
    obtain ⟨rfl, rfl⟩ := H
    go_enter Try.func31, Try.ntmps31
    go_wp2_with (first | ((with_reducible refine gate_callee (f := 51) rfl ?_); refine goesM (some 12) Try.func51 #[.string (a0.extract (a1 : Int).toNat a0.size)] ?_; (with_reducible refine (spec_ReadVar.calls k (a0.extract (a1 : Int).toNat a0.size) t393 t394 _ A5.out).mono ?_); rintro e w8 ⟨rfl, hb⟩; refine ⟨_, rfl, ?_⟩; have n0_ := Aside0.mk (below_step (upB HB.out) hb); clear HB; have HB := n0_; clear n0_; (try clear hb); (try clear hb2); (try clear hk); (try clear hi)))
    go_ret2
    exact ⟨by first | rfl | (simp [errW_none, errW_some] <;> rfl) | (simp [*, errW_none, errW_some] <;> rfl), by repeat (first | exact HB.out | apply below_alloc | apply pw_below_drewN | apply below_drew1)⟩
  ·rw [if_neg c4] at H
   exact absurd H (by simp)
 ·rw [if_neg c3] at H
  exact absurd H (by simp)

/-! ### spec_GetTree: function 11 -/
def spec_GetTree.l0 : Nat → ByteArray → List (S46) → Int → Int → Int → Option ((List (S46)) × Int)
 | 0, _, _, _, _, _ => none
 | k + 1, x0, x4, x5, x6, x7 => if x7 < x5 then ((spec_l4Num.f k x0 x6).bind fun bt404 => (if bt404.2 < 0 then (some ((([] : List (S46))), 1)) else ((spec_LabelOk.f bt404.1).bind fun t409 => (if t409 = true then ((spec_l4Num.f k x0 bt404.2).bind fun bt413 => (if bt413.2 < 0 then (some ((([] : List (S46))), 1)) else (if bt413.1 > 12 then (some ((([] : List (S46))), 4)) else (if ((bt413.1 == 0) != (x7 == 0)) = true then (some ((([] : List (S46))), 5)) else (if x7 > 0 then (if 0 ≤ (wrap64 (x7 - 1)) then (if (wrap64 (x7 - 1)) < (x4.length : Int) then (if bt413.1 > (wrap64 (((rd_T46 x4 (wrap64 (x7 - 1))).f1) + 1)) then (some ((([] : List (S46))), 5)) else (if x4.length < 8796093022208 then (spec_GetTree.l0 k x0 (x4 ++ [(⟨bt404.1, bt413.1⟩ : S46)]) x5 bt413.2 (wrap64 (x7 + 1))) else (none))) else (none)) else (none)) else (if x4.length < 8796093022208 then (spec_GetTree.l0 k x0 (x4 ++ [(⟨bt404.1, bt413.1⟩ : S46)]) x5 bt413.2 (wrap64 (x7 + 1))) else (none))))))) else (some ((([] : List (S46))), 3)))))) else (if x6 = (x0.size : Int) then (some (x4, 0)) else (some ((([] : List (S46))), 6)))
def spec_GetTree.f (k : Nat) (a0 : ByteArray) : Option ((List (S46)) × Int) := (some (([] : List (S46)) : List (S46))).bind fun y395 => ((spec_l4Num.f k a0 0).bind fun bt398 => (if bt398.2 < 0 then (some (y395, 1)) else ((spec_l1In.f bt398.1 1 24).bind fun t400 => (if t400 = true then (spec_GetTree.l0 k a0 y395 bt398.1 bt398.2 0) else (some (y395, 2))))))
theorem spec_GetTree.mono_l : ∀ k, (∀ y0 y1 y2 y3 y4, LeO (spec_GetTree.l0 k y0 y1 y2 y3 y4) (spec_GetTree.l0 (k + 1) y0 y1 y2 y3 y4))
 | 0 => fun _ _ _ _ _ r h => by simp [spec_GetTree.l0] at h
 | k + 1 => by
  have ih0 := spec_GetTree.mono_l k
  ·intro y0 y1 y2 y3 y4
   unfold spec_GetTree.l0
   repeat' first
   | (with_reducible exact ih0 _ _ _ _ _)
   | (with_reducible exact spec_l4Num.mono _ _ _)
   | (with_reducible exact LeO.refl _)
   | (with_reducible exact LeO.none _)
   | (with_reducible refine LeO.ite ?_ ?_)
   | (with_reducible refine LeO.bind ?_ (fun _ => ?_))
   | exact ih0 _ _ _ _ _
   | exact spec_l4Num.mono _ _ _
   | exact LeO.none _
   | refine LeO.ite ?_ ?_
   | refine LeO.bind ?_ (fun _ => ?_)
theorem spec_GetTree.mono : ∀ a0 k, LeO (spec_GetTree.f k a0) (spec_GetTree.f (k + 1) a0) := by
 intro a0 k
 have ih0 := spec_GetTree.mono_l k
 unfold spec_GetTree.f
 repeat' first
   | (with_reducible exact ih0 _ _ _ _ _)
   | (with_reducible exact spec_l4Num.mono _ _ _)
   | (with_reducible exact LeO.refl _)
   | (with_reducible exact LeO.none _)
   | (with_reducible refine LeO.ite ?_ ?_)
   | (with_reducible refine LeO.bind ?_ (fun _ => ?_))
   | exact ih0 _ _ _ _ _
   | exact spec_l4Num.mono _ _ _
   | exact LeO.none _
   | refine LeO.ite ?_ ?_
   | refine LeO.bind ?_ (fun _ => ?_)
set_option maxHeartbeats 8000000 in
set_option maxRecDepth 100000 in
theorem spec_GetTree.calls (k : Nat) (a0 : ByteArray) (r1 : List (S46)) (r2 : Int) (w : World) (h : spec_GetTree.f k a0 = some (r1, r2)) :
  Calls Try.prog 11 #[.string a0] w fun e w' => ∃ v0_ : Value, e = .returned (.tuple #[v0_, .int .i64 r2]) ∧ Kd.R k46 46 w' w.heap.size (fun _ => True) v0_ r1 ∧ Below w.heap.size w w' := by
 have hu46 := Try.underlying46; have HB := Aside0.mk (Below.refl w.heap.size w)
 have H : ((some (([] : List (S46)) : List (S46))).bind fun y395 => ((spec_l4Num.f k a0 0).bind fun bt398 => (if bt398.2 < 0 then (some (y395, 1)) else ((spec_l1In.f bt398.1 1 24).bind fun t400 => (if t400 = true then (spec_GetTree.l0 k a0 y395 bt398.1 bt398.2 0) else (some (y395, 2))))))) = some (r1, r2) := h
 clear h
 obtain ⟨y395, hy395⟩ : ∃ y_ : List (S46), y_ = (([] : List (S46))) := ⟨_, rfl⟩
 replace H : ((spec_l4Num.f k a0 0).bind fun bt398 => (if bt398.2 < 0 then (some (y395, 1)) else ((spec_l1In.f bt398.1 1 24).bind fun t400 => (if t400 = true then (spec_GetTree.l0 k a0 y395 bt398.1 bt398.2 0) else (some (y395, 2)))))) = some (r1, r2) := by first | (rw [hy395]; with_reducible exact H) | (have H2_ := (Option.bind_some _ _).symm.trans H; rw [hy395]; with_reducible exact H2_) | (have H2_ := (Option.bind_some _ _).symm.trans H; with_reducible exact H2_) | with_reducible exact H | (rw [hy395]; exact H) | exact H
 have Ny395 := Aside0.mk hy395; clear hy395; replace H := Option.bind_eq_some_iff.mp H
 obtain ⟨⟨t398, t399⟩, A20, H⟩ := H
 replace H : (if t399 < 0 then (some (y395, 1)) else ((spec_l1In.f t398 1 24).bind fun t400 => (if t400 = true then (spec_GetTree.l0 k a0 y395 t398 t399 0) else (some (y395, 2))))) = some (r1, r2) := H
 have A2 := Aside0.mk A20; clear A20
 by_cases c3 : t399 < 0
 ·rw [if_pos c3] at H
  have c3b0 : decide (t399 < 0) = true := decide_eq_true c3
  clear c3
  simp only [Option.some.injEq, Prod.mk.injEq] at H
  obtain ⟨rfl, rfl⟩ := H
  go_enter Try.func11, Try.ntmps11
  go_wp2_with (first | ((with_reducible refine gate_dst (N := 12) rfl ?_); refine Kd.R_lit k46 _ 46 ?hg (N := 12) ?hd (xs := ([] : List (S46))) (inner := []) (ok := fun _ => True) (okp := fun _ => True) ?hr ?hp (fun _ hk => hk) trivial (Below.refl _ _) (Nat.le_refl _) (by simp) ?_; (case hd => rfl); (case hg => rfl); (case hr => first | (go_simp; done) | (go_simp; rfl)); (case hp => exact (Reps.none _ _)); intro v396 w4 ho5 hb hg_ hnew_; clear hg_ hnew_; (first | rw [← Ny395.out] at ho5 | (simp only [Int.reduceToNat] at ho5; rw [← Ny395.out] at ho5)); have n0_ := Aside0.mk (Kd.R_lower ho5 (below_size (upB HB.out))); have n1_ := Aside0.mk (below_step (upB HB.out) hb); clear HB; have HO397 := n0_; have HB := n1_; clear n0_ n1_; clear hb ho5) | ((with_reducible refine gate_callee (f := 31) rfl ?_); refine goesM (some 15) Try.func31 #[.string a0, .int .i64 0] ?_; (with_reducible refine (spec_l4Num.calls k a0 0 t398 t399 _ A2.out).mono ?_); rintro e w6 ⟨rfl, hb⟩; refine ⟨_, rfl, ?_⟩; have n0_ := Aside0.mk (Kd.R_below (upR HO397.out) hb); have n1_ := Aside0.mk (below_step (upB HB.out) hb); clear HO397; clear HB; have HO397 := n0_; have HB := n1_; clear n0_ n1_; (try clear hb); (try clear hb2); (try clear hk); (try clear hi)))
  go_ret2
  exact ⟨_, by first | rfl | (simp [errW_none, errW_some] <;> rfl) | (simp [*, errW_none, errW_some] <;> rfl), by (with_reducible repeat (first | apply Kd.R_alloc | apply Kd.R_drewN | apply Kd.R_drew)); exact HO397.out, by repeat (first | exact HB.out | apply below_alloc | apply pw_below_drewN | apply below_drew1)⟩
 ·rw [if_neg c3] at H
  have c3b0 : decide (t399 < 0) = false := decide_eq_false c3
  clear c3; replace H := Option.bind_eq_some_iff.mp H
  obtain ⟨t400, A70, H⟩ := H
  replace H : (if t400 = true then (spec_GetTree.l0 k a0 y395 t398 t399 0) else (some (y395, 2))) = some (r1, r2) := H
  have A7 := Aside0.mk A70; clear A70
  by_cases c8 : t400 = true
  ·subst c8
   have H1 : (spec_GetTree.l0 k a0 y395 t398 t399 0) = some (r1, r2) := by rw [if_pos rfl] at H; exact H
   clear H; have H := H1; clear H1; have H' := Aside0.mk H; clear H
   go_enter Try.func11, Try.ntmps11
   go_wp2_with (first | ((with_reducible refine gate_dst (N := 12) rfl ?_); refine Kd.R_lit k46 _ 46 ?hg (N := 12) ?hd (xs := ([] : List (S46))) (inner := []) (ok := fun _ => True) (okp := fun _ => True) ?hr ?hp (fun _ hk => hk) trivial (Below.refl _ _) (Nat.le_refl _) (by simp) ?_; (case hd => rfl); (case hg => rfl); (case hr => first | (go_simp; done) | (go_simp; rfl)); (case hp => exact (Reps.none _ _)); intro v396 w9 ho10 hb hg_ hnew_; clear hg_ hnew_; (first | rw [← Ny395.out] at ho10 | (simp only [Int.reduceToNat] at ho10; rw [← Ny395.out] at ho10)); have n0_ := Aside0.mk (Kd.R_lower ho10 (below_size (upB HB.out))); have n1_ := Aside0.mk (below_step (upB HB.out) hb); clear HB; have HO397 := n0_; have HB := n1_; clear n0_ n1_; clear hb ho10) | ((with_reducible refine gate_callee (f := 31) rfl ?_); refine goesM (some 15) Try.func31 #[.string a0, .int .i64 0] ?_; (with_reducible refine (spec_l4Num.calls k a0 0 t398 t399 _ A2.out).mono ?_); rintro e w11 ⟨rfl, hb⟩; refine ⟨_, rfl, ?_⟩; have n0_ := Aside0.mk (Kd.R_below (upR HO397.out) hb); have n1_ := Aside0.mk (below_step (upB HB.out) hb); clear HO397; clear HB; have HO397 := n0_; have HB := n1_; clear n0_ n1_; (try clear hb); (try clear hb2); (try clear hk); (try clear hi)) | ((with_reducible refine gate_callee (f := 29) rfl ?_); refine goesM (some 22) Try.func29 #[.int .i64 t398, .int .i64 1, .int .i64 24] ?_; (with_reducible refine (spec_l1In.calls t398 1 24 true _ A7.out).mono ?_); rintro e w' ⟨rfl, ⟨nd, rfl⟩⟩; refine ⟨_, rfl, ?_⟩))
   go_loopg [4, 6, 7] k (fun kq v4 v6 v7 w' => ∃ (x4_1 : List (S46)) (x6_1 : Int) (x7_1 : Int), v6 = .int .i64 x6_1 ∧ v7 = .int .i64 x7_1 ∧ Aside0 (spec_GetTree.l0 kq a0 x4_1 t398 x6_1 x7_1 = some (r1, r2)) ∧ Aside0 (kq ≤ k) ∧ Aside0 (Kd.R k46 46 w' w.heap.size (fun _ => True) v4 x4_1) ∧ Aside0 (Below w.heap.size w w'))
   case atStart => exact ⟨(y395), (t399), (0), (by first | rfl | (simp; done) | (simp [*]; done)), (by first | rfl | (simp; done) | (simp [*]; done)), H', ⟨Nat.le_refl _⟩, ⟨by (with_reducible repeat (first | apply Kd.R_alloc | apply Kd.R_drewN | apply Kd.R_drew)); exact HO397.out⟩, ⟨by repeat (first | exact HB.out | apply below_alloc | apply pw_below_drewN | apply below_drew1)⟩⟩
   case round =>
    clear H'
    try clear c1
    try clear c2
    try clear p2
    try clear c3
    try clear c3b0
    try clear c8
    try clear c11
    obtain ⟨x4_1, x6_1, x7_1, rfl, rfl, HA, HK1, HO_4, HB⟩ := hrel
    cases gk with
    | zero => exact absurd HA.out (by simp [spec_GetTree.l0])
    | succ k1 =>
     have H := HA.out; clear HA
     simp only [spec_GetTree.l0] at H
     by_cases c12 : x7_1 < t398
     ·rw [if_pos c12] at H
      have c12b0 : decide (x7_1 < t398) = true := decide_eq_true c12
      clear c12; replace H := Option.bind_eq_some_iff.mp H
      obtain ⟨⟨t404, t405⟩, A130, H⟩ := H
      replace H : (if t405 < 0 then (some ((([] : List (S46))), 1)) else ((spec_LabelOk.f t404).bind fun t409 => (if t409 = true then ((spec_l4Num.f k1 a0 t405).bind fun bt413 => (if bt413.2 < 0 then (some ((([] : List (S46))), 1)) else (if bt413.1 > 12 then (some ((([] : List (S46))), 4)) else (if ((bt413.1 == 0) != (x7_1 == 0)) = true then (some ((([] : List (S46))), 5)) else (if x7_1 > 0 then (if 0 ≤ (wrap64 (x7_1 - 1)) then (if (wrap64 (x7_1 - 1)) < (x4_1.length : Int) then (if bt413.1 > (wrap64 (((rd_T46 x4_1 (wrap64 (x7_1 - 1))).f1) + 1)) then (some ((([] : List (S46))), 5)) else (if x4_1.length < 8796093022208 then (spec_GetTree.l0 k1 a0 (x4_1 ++ [(⟨t404, bt413.1⟩ : S46)]) t398 bt413.2 (wrap64 (x7_1 + 1))) else (none))) else (none)) else (none)) else (if x4_1.length < 8796093022208 then (spec_GetTree.l0 k1 a0 (x4_1 ++ [(⟨t404, bt413.1⟩ : S46)]) t398 bt413.2 (wrap64 (x7_1 + 1))) else (none))))))) else (some ((([] : List (S46))), 3))))) = some (r1, r2) := H
      have A13 := Aside0.mk A130; clear A130
      by_cases c14 : t405 < 0
      ·rw [if_pos c14] at H
       have c14b0 : decide (t405 < 0) = true := decide_eq_true c14
       clear c14
       obtain ⟨y406, hy406⟩ : ∃ y_ : List (S46), y_ = (([] : List (S46))) := ⟨_, rfl⟩
       replace H : (some (y406, 1)) = some (r1, r2) := by first | (rw [hy406]; with_reducible exact H) | (have H2_ := (Option.bind_some _ _).symm.trans H; rw [hy406]; with_reducible exact H2_) | (have H2_ := (Option.bind_some _ _).symm.trans H; with_reducible exact H2_) | with_reducible exact H | (rw [hy406]; exact H) | exact H
       have Ny406 := Aside0.mk hy406; clear hy406
       simp only [Option.some.injEq, Prod.mk.injEq] at H
       obtain ⟨rfl, rfl⟩ := H
       go_wp2_with (first | ((with_reducible refine gate_callee (f := 31) rfl ?_); refine goesM (some 33) Try.func31 #[.string a0, .int .i64 x6_1] ?_; (with_reducible refine (spec_l4Num.calls k1 a0 x6_1 t404 t405 _ A13.out).mono ?_); rintro e w15 ⟨rfl, hb⟩; refine ⟨_, rfl, ?_⟩; have n0_ := Aside0.mk (Kd.R_below (upR HO_4.out) hb); have n1_ := Aside0.mk (below_step (upB HB.out) hb); clear HO_4; clear HB; have HO_4 := n0_; have HB := n1_; clear n0_ n1_; (try clear hb); (try clear hb2); (try clear hk); (try clear hi)) | ((with_reducible refine gate_dst (N := 38) rfl ?_); refine Kd.R_lit k46 _ 46 ?hg (N := 38) ?hd (xs := ([] : List (S46))) (inner := []) (ok := fun _ => True) (okp := fun _ => True) ?hr ?hp (fun _ hk => hk) trivial (Below.refl _ _) (Nat.le_refl _) (by simp) ?_; (case hd => rfl); (case hg => rfl); (case hr => first | (go_simp; done) | (go_simp; rfl)); (case hp => exact (Reps.none _ _)); intro v407 w16 ho17 hb hg_ hnew_; clear hg_ hnew_; (first | rw [← Ny406.out] at ho17 | (simp only [Int.reduceToNat] at ho17; rw [← Ny406.out] at ho17)); have n0_ := Aside0.mk (Kd.R_elder' (upR HO_4.out) (Kd.R_base ho17) hb); have n1_ := Aside0.mk (Kd.R_lower (Kd.R_new' ho17 (Kd.R_lt (upR HO_4.out))) (below_size (upB HB.out))); have n2_ := Aside0.mk (below_step (upB HB.out) hb); clear HO_4; clear HB; have HO_4 := n0_; have HO408 := n1_; have HB := n2_; clear n0_ n1_ n2_; clear hb ho17))
       go_ret2
       exact ⟨_, by first | rfl | (simp [errW_none, errW_some] <;> rfl) | (simp [*, errW_none, errW_some] <;> rfl), by (with_reducible repeat (first | apply Kd.R_alloc | apply Kd.R_drewN | apply Kd.R_drew)); exact Kd.R_mono HO408.out (fun _ hk => trivial), by repeat (first | exact HB.out | apply below_alloc | apply pw_below_drewN | apply below_drew1)⟩
      ·rw [if_neg c14] at H
       have c14b0 : decide (t405 < 0) = false := decide_eq_false c14
       clear c14; replace H := Option.bind_eq_some_iff.mp H
       obtain ⟨t409, A180, H⟩ := H
       replace H : (if t409 = true then ((spec_l4Num.f k1 a0 t405).bind fun bt413 => (if bt413.2 < 0 then (some ((([] : List (S46))), 1)) else (if bt413.1 > 12 then (some ((([] : List (S46))), 4)) else (if ((bt413.1 == 0) != (x7_1 == 0)) = true then (some ((([] : List (S46))), 5)) else (if x7_1 > 0 then (if 0 ≤ (wrap64 (x7_1 - 1)) then (if (wrap64 (x7_1 - 1)) < (x4_1.length : Int) then (if bt413.1 > (wrap64 (((rd_T46 x4_1 (wrap64 (x7_1 - 1))).f1) + 1)) then (some ((([] : List (S46))), 5)) else (if x4_1.length < 8796093022208 then (spec_GetTree.l0 k1 a0 (x4_1 ++ [(⟨t404, bt413.1⟩ : S46)]) t398 bt413.2 (wrap64 (x7_1 + 1))) else (none))) else (none)) else (none)) else (if x4_1.length < 8796093022208 then (spec_GetTree.l0 k1 a0 (x4_1 ++ [(⟨t404, bt413.1⟩ : S46)]) t398 bt413.2 (wrap64 (x7_1 + 1))) else (none))))))) else (some ((([] : List (S46))), 3))) = some (r1, r2) := H
       have A18 := Aside0.mk A180; clear A180
       by_cases c19 : t409 = true
       ·subst c19
        have H1 : ((spec_l4Num.f k1 a0 t405).bind fun bt413 => (if bt413.2 < 0 then (some ((([] : List (S46))), 1)) else (if bt413.1 > 12 then (some ((([] : List (S46))), 4)) else (if ((bt413.1 == 0) != (x7_1 == 0)) = true then (some ((([] : List (S46))), 5)) else (if x7_1 > 0 then (if 0 ≤ (wrap64 (x7_1 - 1)) then (if (wrap64 (x7_1 - 1)) < (x4_1.length : Int) then (if bt413.1 > (wrap64 (((rd_T46 x4_1 (wrap64 (x7_1 - 1))).f1) + 1)) then (some ((([] : List (S46))), 5)) else (if x4_1.length < 8796093022208 then (spec_GetTree.l0 k1 a0 (x4_1 ++ [(⟨t404, bt413.1⟩ : S46)]) t398 bt413.2 (wrap64 (x7_1 + 1))) else (none))) else (none)) else (none)) else (if x4_1.length < 8796093022208 then (spec_GetTree.l0 k1 a0 (x4_1 ++ [(⟨t404, bt413.1⟩ : S46)]) t398 bt413.2 (wrap64 (x7_1 + 1))) else (none))))))) = some (r1, r2) := by rw [if_pos rfl] at H; exact H
        clear H; have H := H1; clear H1; replace H := Option.bind_eq_some_iff.mp H
        obtain ⟨⟨t413, t414⟩, A200, H⟩ := H
        replace H : (if t414 < 0 then (some ((([] : List (S46))), 1)) else (if t413 > 12 then (some ((([] : List (S46))), 4)) else (if ((t413 == 0) != (x7_1 == 0)) = true then (some ((([] : List (S46))), 5)) else (if x7_1 > 0 then (if 0 ≤ (wrap64 (x7_1 - 1)) then (if (wrap64 (x7_1 - 1)) < (x4_1.length : Int) then (if t413 > (wrap64 (((rd_T46 x4_1 (wrap64 (x7_1 - 1))).f1) + 1)) then (some ((([] : List (S46))), 5)) else (if x4_1.length < 8796093022208 then (spec_GetTree.l0 k1 a0 (x4_1 ++ [(⟨t404, t413⟩ : S46)]) t398 t414 (wrap64 (x7_1 + 1))) else (none))) else (none)) else (none)) else (if x4_1.length < 8796093022208 then (spec_GetTree.l0 k1 a0 (x4_1 ++ [(⟨t404, t413⟩ : S46)]) t398 t414 (wrap64 (x7_1 + 1))) else (none)))))) = some (r1, r2) := H
        have A20 := Aside0.mk A200; clear A200
        by_cases c21 : t414 < 0
        ·rw [if_pos c21] at H
         have c21b0 : decide (t414 < 0) = true := decide_eq_true c21
         clear c21
         obtain ⟨y415, hy415⟩ : ∃ y_ : List (S46), y_ = (([] : List (S46))) := ⟨_, rfl⟩
         replace H : (some (y415, 1)) = some (r1, r2) := by first | (rw [hy415]; with_reducible exact H) | (have H2_ := (Option.bind_some _ _).symm.trans H; rw [hy415]; with_reducible exact H2_) | (have H2_ := (Option.bind_some _ _).symm.trans H; with_reducible exact H2_) | with_reducible exact H | (rw [hy415]; exact H) | exact H
         have Ny415 := Aside0.mk hy415; clear hy415
         simp only [Option.some.injEq, Prod.mk.injEq] at H
         obtain ⟨rfl, rfl⟩ := H
         go_wp2_with (first | ((with_reducible refine gate_callee (f := 31) rfl ?_); refine goesM (some 33) Try.func31 #[.string a0, .int .i64 x6_1] ?_; (with_reducible refine (spec_l4Num.calls k1 a0 x6_1 t404 t405 _ A13.out).mono ?_); rintro e w22 ⟨rfl, hb⟩; refine ⟨_, rfl, ?_⟩; have n0_ := Aside0.mk (Kd.R_below (upR HO_4.out) hb); have n1_ := Aside0.mk (below_step (upB HB.out) hb); clear HO_4; clear HB; have HO_4 := n0_; have HB := n1_; clear n0_ n1_; (try clear hb); (try clear hb2); (try clear hk); (try clear hi)) | ((with_reducible refine gate_callee (f := 28) rfl ?_); refine goesM (some 40) Try.func28 #[.int .i64 t404] ?_; (with_reducible refine (spec_LabelOk.calls t404 true _ A18.out).mono ?_); rintro e w' ⟨rfl, ⟨nd, rfl⟩⟩; refine ⟨_, rfl, ?_⟩) | ((with_reducible refine gate_callee (f := 31) rfl ?_); refine goesM (some 46) Try.func31 #[.string a0, .int .i64 t405] ?_; (with_reducible refine (spec_l4Num.calls k1 a0 t405 t413 t414 _ A20.out).mono ?_); rintro e w23 ⟨rfl, hb⟩; refine ⟨_, rfl, ?_⟩; have n0_ := Aside0.mk (Kd.R_below (upR HO_4.out) hb); have n1_ := Aside0.mk (below_step (upB HB.out) hb); clear HO_4; clear HB; have HO_4 := n0_; have HB := n1_; clear n0_ n1_; (try clear hb); (try clear hb2); (try clear hk); (try clear hi)) | ((with_reducible refine gate_dst (N := 51) rfl ?_); refine Kd.R_lit k46 _ 46 ?hg (N := 51) ?hd (xs := ([] : List (S46))) (inner := []) (ok := fun _ => True) (okp := fun _ => True) ?hr ?hp (fun _ hk => hk) trivial (Below.refl _ _) (Nat.le_refl _) (by simp) ?_; (case hd => rfl); (case hg => rfl); (case hr => first | (go_simp; done) | (go_simp; rfl)); (case hp => exact (Reps.none _ _)); intro v416 w24 ho25 hb hg_ hnew_; clear hg_ hnew_; (first | rw [← Ny415.out] at ho25 | (simp only [Int.reduceToNat] at ho25; rw [← Ny415.out] at ho25)); have n0_ := Aside0.mk (Kd.R_elder' (upR HO_4.out) (Kd.R_base ho25) hb); have n1_ := Aside0.mk (Kd.R_lower (Kd.R_new' ho25 (Kd.R_lt (upR HO_4.out))) (below_size (upB HB.out))); have n2_ := Aside0.mk (below_step (upB HB.out) hb); clear HO_4; clear HB; have HO_4 := n0_; have HO417 := n1_; have HB := n2_; clear n0_ n1_ n2_; clear hb ho25))
         go_ret2
         exact ⟨_, by first | rfl | (simp [errW_none, errW_some] <;> rfl) | (simp [*, errW_none, errW_some] <;> rfl), by (with_reducible repeat (first | apply Kd.R_alloc | apply Kd.R_drewN | apply Kd.R_drew)); exact Kd.R_mono HO417.out (fun _ hk => trivial), by repeat (first | exact HB.out | apply below_alloc | apply pw_below_drewN | apply below_drew1)⟩
        ·rw [if_neg c21] at H
         have c21b0 : decide (t414 < 0) = false := decide_eq_false c21
         clear c21
         by_cases c26 : t413 > 12
         ·rw [if_pos c26] at H
          have c26b0 : decide (12 < t413) = true := decide_eq_true c26
          clear c26
          obtain ⟨y418, hy418⟩ : ∃ y_ : List (S46), y_ = (([] : List (S46))) := ⟨_, rfl⟩
          replace H : (some (y418, 4)) = some (r1, r2) := by first | (rw [hy418]; with_reducible exact H) | (have H2_ := (Option.bind_some _ _).symm.trans H; rw [hy418]; with_reducible exact H2_) | (have H2_ := (Option.bind_some _ _).symm.trans H; with_reducible exact H2_) | with_reducible exact H | (rw [hy418]; exact H) | exact H
          have Ny418 := Aside0.mk hy418; clear hy418
          simp only [Option.some.injEq, Prod.mk.injEq] at H
          obtain ⟨rfl, rfl⟩ := H
          go_wp2_with (first | ((with_reducible refine gate_callee (f := 31) rfl ?_); refine goesM (some 33) Try.func31 #[.string a0, .int .i64 x6_1] ?_; (with_reducible refine (spec_l4Num.calls k1 a0 x6_1 t404 t405 _ A13.out).mono ?_); rintro e w27 ⟨rfl, hb⟩; refine ⟨_, rfl, ?_⟩; have n0_ := Aside0.mk (Kd.R_below (upR HO_4.out) hb); have n1_ := Aside0.mk (below_step (upB HB.out) hb); clear HO_4; clear HB; have HO_4 := n0_; have HB := n1_; clear n0_ n1_; (try clear hb); (try clear hb2); (try clear hk); (try clear hi)) | ((with_reducible refine gate_callee (f := 28) rfl ?_); refine goesM (some 40) Try.func28 #[.int .i64 t404] ?_; (with_reducible refine (spec_LabelOk.calls t404 true _ A18.out).mono ?_); rintro e w' ⟨rfl, ⟨nd, rfl⟩⟩; refine ⟨_, rfl, ?_⟩) | ((with_reducible refine gate_callee (f := 31) rfl ?_); refine goesM (some 46) Try.func31 #[.string a0, .int .i64 t405] ?_; (with_reducible refine (spec_l4Num.calls k1 a0 t405 t413 t414 _ A20.out).mono ?_); rintro e w28 ⟨rfl, hb⟩; refine ⟨_, rfl, ?_⟩; have n0_ := Aside0.mk (Kd.R_below (upR HO_4.out) hb); have n1_ := Aside0.mk (below_step (upB HB.out) hb); clear HO_4; clear HB; have HO_4 := n0_; have HB := n1_; clear n0_ n1_; (try clear hb); (try clear hb2); (try clear hk); (try clear hi)) | ((with_reducible refine gate_dst (N := 54) rfl ?_); refine Kd.R_lit k46 _ 46 ?hg (N := 54) ?hd (xs := ([] : List (S46))) (inner := []) (ok := fun _ => True) (okp := fun _ => True) ?hr ?hp (fun _ hk => hk) trivial (Below.refl _ _) (Nat.le_refl _) (by simp) ?_; (case hd => rfl); (case hg => rfl); (case hr => first | (go_simp; done) | (go_simp; rfl)); (case hp => exact (Reps.none _ _)); intro v419 w29 ho30 hb hg_ hnew_; clear hg_ hnew_; (first | rw [← Ny418.out] at ho30 | (simp only [Int.reduceToNat] at ho30; rw [← Ny418.out] at ho30)); have n0_ := Aside0.mk (Kd.R_elder' (upR HO_4.out) (Kd.R_base ho30) hb); have n1_ := Aside0.mk (Kd.R_lower (Kd.R_new' ho30 (Kd.R_lt (upR HO_4.out))) (below_size (upB HB.out))); have n2_ := Aside0.mk (below_step (upB HB.out) hb); clear HO_4; clear HB; have HO_4 := n0_; have HO420 := n1_; have HB := n2_; clear n0_ n1_ n2_; clear hb ho30))
          go_ret2
          exact ⟨_, by first | rfl | (simp [errW_none, errW_some] <;> rfl) | (simp [*, errW_none, errW_some] <;> rfl), by (with_reducible repeat (first | apply Kd.R_alloc | apply Kd.R_drewN | apply Kd.R_drew)); exact Kd.R_mono HO420.out (fun _ hk => trivial), by repeat (first | exact HB.out | apply below_alloc | apply pw_below_drewN | apply below_drew1)⟩
         ·rw [if_neg c26] at H
          have c26b0 : decide (12 < t413) = false := decide_eq_false c26
          clear c26
          by_cases c31 : ((t413 == 0) != (x7_1 == 0)) = true
          ·rw [if_pos c31] at H
           have c31b0 : ((t413 == 0) != (x7_1 == 0)) = true := c31
           (try (have c31b1 : decide ((t413 == 0) = (x7_1 == 0)) = false := by simpa using c31))
           (try (have c31b2 : ((t413 == 0) == (x7_1 == 0)) = false := by simpa using c31))
           (try (have c31b3 : ¬ ((t413 == 0) = (x7_1 == 0)) := by simpa using c31))
           clear c31
           obtain ⟨y421, hy421⟩ : ∃ y_ : List (S46), y_ = (([] : List (S46))) := ⟨_, rfl⟩
           replace H : (some (y421, 5)) = some (r1, r2) := by first | (rw [hy421]; with_reducible exact H) | (have H2_ := (Option.bind_some _ _).symm.trans H; rw [hy421]; with_reducible exact H2_) | (have H2_ := (Option.bind_some _ _).symm.trans H; with_reducible exact H2_) | with_reducible exact H | (rw [hy421]; exact H) | exact H
           have Ny421 := Aside0.mk hy421; clear hy421
           simp only [Option.some.injEq, Prod.mk.injEq] at H
           obtain ⟨rfl, rfl⟩ := H
           go_wp2_with (first | ((with_reducible refine gate_callee (f := 31) rfl ?_); refine goesM (some 33) Try.func31 #[.string a0, .int .i64 x6_1] ?_; (with_reducible refine (spec_l4Num.calls k1 a0 x6_1 t404 t405 _ A13.out).mono ?_); rintro e w32 ⟨rfl, hb⟩; refine ⟨_, rfl, ?_⟩; have n0_ := Aside0.mk (Kd.R_below (upR HO_4.out) hb); have n1_ := Aside0.mk (below_step (upB HB.out) hb); clear HO_4; clear HB; have HO_4 := n0_; have HB := n1_; clear n0_ n1_; (try clear hb); (try clear hb2); (try clear hk); (try clear hi)) | ((with_reducible refine gate_callee (f := 28) rfl ?_); refine goesM (some 40) Try.func28 #[.int .i64 t404] ?_; (with_reducible refine (spec_LabelOk.calls t404 true _ A18.out).mono ?_); rintro e w' ⟨rfl, ⟨nd, rfl⟩⟩; refine ⟨_, rfl, ?_⟩) | ((with_reducible refine gate_callee (f := 31) rfl ?_); refine goesM (some 46) Try.func31 #[.string a0, .int .i64 t405] ?_; (with_reducible refine (spec_l4Num.calls k1 a0 t405 t413 t414 _ A20.out).mono ?_); rintro e w33 ⟨rfl, hb⟩; refine ⟨_, rfl, ?_⟩; have n0_ := Aside0.mk (Kd.R_below (upR HO_4.out) hb); have n1_ := Aside0.mk (below_step (upB HB.out) hb); clear HO_4; clear HB; have HO_4 := n0_; have HB := n1_; clear n0_ n1_; (try clear hb); (try clear hb2); (try clear hk); (try clear hi)) | ((with_reducible refine gate_dst (N := 75) rfl ?_); refine Kd.R_lit k46 _ 46 ?hg (N := 75) ?hd (xs := ([] : List (S46))) (inner := []) (ok := fun _ => True) (okp := fun _ => True) ?hr ?hp (fun _ hk => hk) trivial (Below.refl _ _) (Nat.le_refl _) (by simp) ?_; (case hd => rfl); (case hg => rfl); (case hr => first | (go_simp; done) | (go_simp; rfl)); (case hp => exact (Reps.none _ _)); intro v422 w34 ho35 hb hg_ hnew_; clear hg_ hnew_; (first | rw [← Ny421.out] at ho35 | (simp only [Int.reduceToNat] at ho35; rw [← Ny421.out] at ho35)); have n0_ := Aside0.mk (Kd.R_elder' (upR HO_4.out) (Kd.R_base ho35) hb); have n1_ := Aside0.mk (Kd.R_lower (Kd.R_new' ho35 (Kd.R_lt (upR HO_4.out))) (below_size (upB HB.out))); have n2_ := Aside0.mk (below_step (upB HB.out) hb); clear HO_4; clear HB; have HO_4 := n0_; have HO423 := n1_; have HB := n2_; clear n0_ n1_ n2_; clear hb ho35))
           go_ret2
           exact ⟨_, by first | rfl | (simp [errW_none, errW_some] <;> rfl) | (simp [*, errW_none, errW_some] <;> rfl), by (with_reducible repeat (first | apply Kd.R_alloc | apply Kd.R_drewN | apply Kd.R_drew)); exact Kd.R_mono HO423.out (fun _ hk => trivial), by repeat (first | exact HB.out | apply below_alloc | apply pw_below_drewN | apply below_drew1)⟩
          ·rw [if_neg c31] at H
           have c31b0 : ((t413 == 0) != (x7_1 == 0)) = false := by simpa using c31
           (try (have c31b1 : decide ((t413 == 0) = (x7_1 == 0)) = true := by simpa using c31))
           (try (have c31b2 : ((t413 == 0) == (x7_1 == 0)) = true := by simpa using c31))
           clear c31
           by_cases c36 : x7_1 > 0
           ·rw [if_pos c36] at H
            have c36b0 : decide (0 < x7_1) = true := decide_eq_true c36
            clear c36
            obtain ⟨ji37, hji37⟩ : ∃ j_ : Int, (wrap64 (x7_1 - 1)) = j_ := ⟨_, rfl⟩
            replace H : (if 0 ≤ (ji37) then (if (ji37) < (x4_1.length : Int) then (if t413 > (wrap64 (((rd_T46 x4_1 (ji37)).f1) + 1)) then (some ((([] : List (S46))), 5)) else (if x4_1.length < 8796093022208 then (spec_GetTree.l0 k1 a0 (x4_1 ++ [(⟨t404, t413⟩ : S46)]) t398 t414 (wrap64 (x7_1 + 1))) else (none))) else (none)) else (none)) = some (r1, r2) := by first | (rw [hji37] at H; exact H) | (simp only [hji37] at H ⊢; exact H)
            (try rw [hji37] at A13)
            (try rw [hji37] at A18)
            (try rw [hji37] at A20)
            have hji37w : (IntKind.i64.wrap (x7_1 - 1)) = ji37 := (i64_w _).trans hji37
            by_cases c38 : 0 ≤ (ji37)
            ·rw [if_pos c38] at H
             have c38b0 : decide (0 ≤ (ji37)) = true := decide_eq_true c38
             clear c38
             by_cases c39 : (ji37) < (x4_1.length : Int)
             ·rw [if_pos c39] at H
              have c39b0 : decide ((ji37) < (x4_1.length : Int)) = true := decide_eq_true c39
              clear c39
              by_cases c40 : t413 > (wrap64 (((rd_T46 x4_1 (ji37)).f1) + 1))
              ·rw [if_pos c40] at H
               have c40b0 : decide ((wrap64 (((rd_T46 x4_1 (ji37)).f1) + 1)) < t413) = true := decide_eq_true c40
               clear c40
               obtain ⟨y425, hy425⟩ : ∃ y_ : List (S46), y_ = (([] : List (S46))) := ⟨_, rfl⟩
               replace H : (some (y425, 5)) = some (r1, r2) := by first | (rw [hy425]; with_reducible exact H) | (have H2_ := (Option.bind_some _ _).symm.trans H; rw [hy425]; with_reducible exact H2_) | (have H2_ := (Option.bind_some _ _).symm.trans H; with_reducible exact H2_) | with_reducible exact H | (rw [hy425]; exact H) | exact H
               have Ny425 := Aside0.mk hy425; clear hy425
               simp only [Option.some.injEq, Prod.mk.injEq] at H
               obtain ⟨rfl, rfl⟩ := H
               go_wp2_with (first | ((with_reducible refine gate_callee (f := 31) rfl ?_); refine goesM (some 33) Try.func31 #[.string a0, .int .i64 x6_1] ?_; (with_reducible refine (spec_l4Num.calls k1 a0 x6_1 t404 t405 _ A13.out).mono ?_); rintro e w41 ⟨rfl, hb⟩; refine ⟨_, rfl, ?_⟩; have n0_ := Aside0.mk (Kd.R_below (upR HO_4.out) hb); have n1_ := Aside0.mk (below_step (upB HB.out) hb); clear HO_4; clear HB; have HO_4 := n0_; have HB := n1_; clear n0_ n1_; (try clear hb); (try clear hb2); (try clear hk); (try clear hi)) | ((with_reducible refine gate_callee (f := 28) rfl ?_); refine goesM (some 40) Try.func28 #[.int .i64 t404] ?_; (with_reducible refine (spec_LabelOk.calls t404 true _ A18.out).mono ?_); rintro e w' ⟨rfl, ⟨nd, rfl⟩⟩; refine ⟨_, rfl, ?_⟩) | ((with_reducible refine gate_callee (f := 31) rfl ?_); refine goesM (some 46) Try.func31 #[.string a0, .int .i64 t405] ?_; (with_reducible refine (spec_l4Num.calls k1 a0 t405 t413 t414 _ A20.out).mono ?_); rintro e w42 ⟨rfl, hb⟩; refine ⟨_, rfl, ?_⟩; have n0_ := Aside0.mk (Kd.R_below (upR HO_4.out) hb); have n1_ := Aside0.mk (below_step (upB HB.out) hb); clear HO_4; clear HB; have HO_4 := n0_; have HB := n1_; clear n0_ n1_; (try clear hb); (try clear hb2); (try clear hk); (try clear hi); obtain ⟨Ao43, co43, eo43⟩ := Kd.R_slice HO_4.out; subst eo43; have p424 : 0 ≤ ((ji37) : Int) := of_decide_eq_true (by first | (with_reducible assumption) | assumption); have q424 : (ji37) < (x4_1.length : Int) := of_decide_eq_true (by first | (with_reducible assumption) | assumption); obtain ⟨ad424, e424, hx424_0, hx424_1⟩ := at_T46 (Kd.R_reads' HO_4.out).2.2 (ji37) p424 q424; cases e424; replace p424 := eq_true p424; replace q424 := eq_true q424) | ((with_reducible refine gate_dst (N := 75) rfl ?_); refine Kd.R_lit k46 _ 46 ?hg (N := 75) ?hd (xs := ([] : List (S46))) (inner := []) (ok := fun _ => True) (okp := fun _ => True) ?hr ?hp (fun _ hk => hk) trivial (Below.refl _ _) (Nat.le_refl _) (by simp) ?_; (case hd => rfl); (case hg => rfl); (case hr => first | (go_simp; done) | (go_simp; rfl)); (case hp => exact (Reps.none _ _)); intro v426 w44 ho45 hb hg_ hnew_; clear hg_ hnew_; (first | rw [← Ny425.out] at ho45 | (simp only [Int.reduceToNat] at ho45; rw [← Ny425.out] at ho45)); have n0_ := Aside0.mk (Kd.R_elder' (upR HO_4.out) (Kd.R_base ho45) hb); have n1_ := Aside0.mk (Kd.R_lower (Kd.R_new' ho45 (Kd.R_lt (upR HO_4.out))) (below_size (upB HB.out))); have n2_ := Aside0.mk (below_step (upB HB.out) hb); clear HO_4; clear HB; have HO_4 := n0_; have HO427 := n1_; have HB := n2_; clear n0_ n1_ n2_; clear hb ho45))
               go_ret2
               exact ⟨_, by first | rfl | (simp [errW_none, errW_some] <;> rfl) | (simp only [← hji37]; first | rfl | (simp [errW_none, errW_some] <;> rfl)) | (simp [*, errW_none, errW_some] <;> rfl), by (with_reducible repeat (first | apply Kd.R_alloc | apply Kd.R_drewN | apply Kd.R_drew)); exact Kd.R_mono HO427.out (fun _ hk => trivial), by repeat (first | exact HB.out | apply below_alloc | apply pw_below_drewN | apply below_drew1)⟩
              ·rw [if_neg c40] at H
               have c40b0 : decide ((wrap64 (((rd_T46 x4_1 (ji37)).f1) + 1)) < t413) = false := decide_eq_false c40
               clear c40
               by_cases c46 : x4_1.length < 8796093022208
               ·rw [if_pos c46] at H
                have LMc46 := Aside0.mk c46; clear c46
                obtain ⟨y428, hy428⟩ : ∃ y_ : List (S46), y_ = (x4_1 ++ [(⟨t404, t413⟩ : S46)]) := ⟨_, rfl⟩
                replace H : (spec_GetTree.l0 k1 a0 y428 t398 t414 (wrap64 (x7_1 + 1))) = some (r1, r2) := by first | (rw [hy428]; with_reducible exact H) | (have H2_ := (Option.bind_some _ _).symm.trans H; rw [hy428]; with_reducible exact H2_) | (have H2_ := (Option.bind_some _ _).symm.trans H; with_reducible exact H2_) | with_reducible exact H | (rw [hy428]; exact H) | exact H
                have Ny428 := Aside0.mk hy428; clear hy428; have H' := Aside0.mk H; clear H
                go_wp2_with (first | ((with_reducible refine gate_callee (f := 31) rfl ?_); refine goesM (some 33) Try.func31 #[.string a0, .int .i64 x6_1] ?_; (with_reducible refine (spec_l4Num.calls k1 a0 x6_1 t404 t405 _ A13.out).mono ?_); rintro e w47 ⟨rfl, hb⟩; refine ⟨_, rfl, ?_⟩; have n0_ := Aside0.mk (Kd.R_below (upR HO_4.out) hb); have n1_ := Aside0.mk (below_step (upB HB.out) hb); clear HO_4; clear HB; have HO_4 := n0_; have HB := n1_; clear n0_ n1_; (try clear hb); (try clear hb2); (try clear hk); (try clear hi)) | ((with_reducible refine gate_callee (f := 28) rfl ?_); refine goesM (some 40) Try.func28 #[.int .i64 t404] ?_; (with_reducible refine (spec_LabelOk.calls t404 true _ A18.out).mono ?_); rintro e w' ⟨rfl, ⟨nd, rfl⟩⟩; refine ⟨_, rfl, ?_⟩) | ((with_reducible refine gate_callee (f := 31) rfl ?_); refine goesM (some 46) Try.func31 #[.string a0, .int .i64 t405] ?_; (with_reducible refine (spec_l4Num.calls k1 a0 t405 t413 t414 _ A20.out).mono ?_); rintro e w48 ⟨rfl, hb⟩; refine ⟨_, rfl, ?_⟩; have n0_ := Aside0.mk (Kd.R_below (upR HO_4.out) hb); have n1_ := Aside0.mk (below_step (upB HB.out) hb); clear HO_4; clear HB; have HO_4 := n0_; have HB := n1_; clear n0_ n1_; (try clear hb); (try clear hb2); (try clear hk); (try clear hi); obtain ⟨Ao49, co49, eo49⟩ := Kd.R_slice HO_4.out; subst eo49; have p424 : 0 ≤ ((ji37) : Int) := of_decide_eq_true (by first | (with_reducible assumption) | assumption); have q424 : (ji37) < (x4_1.length : Int) := of_decide_eq_true (by first | (with_reducible assumption) | assumption); obtain ⟨ad424, e424, hx424_0, hx424_1⟩ := at_T46 (Kd.R_reads' HO_4.out).2.2 (ji37) p424 q424; cases e424; replace p424 := eq_true p424; replace q424 := eq_true q424) | ((with_reducible refine gate_builtin (b := .append) (xs := #[.tmp 76, .tmp 80]) rfl ?_); at_builtin; refine Kd.R_append k46 (w0 := w) w.heap.size rfl (.tmp 76) (.tmp 80) 24 46 (.agg #[(.int .i64 0), (.int .i64 0)]) 16 rfl Try.underlying24 info46 rfl (by decide) (by omega) (.slice (some ad424) x4_1.length co49) x4_1 (⟨t404, t413⟩ : S46) [.int .i64 t404, .int .i64 t413] (fun _ => True) (fun _ => False) rfl rfl ?aP (fun _ hk => hk.elim) ?aF ?aO ?aB ?aS ?aL ?_; (case aP => exact k46_mkM _ _ _ (⟨t404, t413⟩ : S46)); (case aB => exact (upB HB.out)); (case aF => exact (fun _ _ => trivial)); (case aO => exact (upR HO_4.out)); (case aS => exact (below_size (upB HB.out))); (case aL => have := LMc46.out; omega); intro v429 w50 ho hb hg hat; rw [← Ny428.out] at ho; have n0_ := Aside0.mk (hb); have n1_ := Aside0.mk (ho); clear HB; clear HO_4; have HB := n0_; have HO430 := n1_; clear n0_ n1_; clear ho hb hg hat))
                go_roundg k1
                case measure => have := HK1.out; omega
                case rel => exact ⟨(y428), (t414), (wrap64 (x7_1 + 1)), (by first | rfl | (simp; done) | (simp [*]; done)), (by first | rfl | (simp; done) | (simp [*]; done)), H', ⟨by have := HK1.out; omega⟩, ⟨by (with_reducible repeat (first | apply Kd.R_alloc | apply Kd.R_drewN | apply Kd.R_drew)); exact HO430.out⟩, ⟨by repeat (first | exact HB.out | apply below_alloc | apply pw_below_drewN | apply below_drew1)⟩⟩
               ·rw [if_neg c46] at H
                exact absurd H (by simp)
             ·rw [if_neg c39] at H
              exact absurd H (by simp)
            ·rw [if_neg c38] at H
             exact absurd H (by simp)
           ·rw [if_neg c36] at H
            have c36b0 : decide (0 < x7_1) = false := decide_eq_false c36
            clear c36
            by_cases c51 : x4_1.length < 8796093022208
            ·rw [if_pos c51] at H
             have LMc51 := Aside0.mk c51; clear c51
             obtain ⟨y431, hy431⟩ : ∃ y_ : List (S46), y_ = (x4_1 ++ [(⟨t404, t413⟩ : S46)]) := ⟨_, rfl⟩
             replace H : (spec_GetTree.l0 k1 a0 y431 t398 t414 (wrap64 (x7_1 + 1))) = some (r1, r2) := by first | (rw [hy431]; with_reducible exact H) | (have H2_ := (Option.bind_some _ _).symm.trans H; rw [hy431]; with_reducible exact H2_) | (have H2_ := (Option.bind_some _ _).symm.trans H; with_reducible exact H2_) | with_reducible exact H | (rw [hy431]; exact H) | exact H
             have Ny431 := Aside0.mk hy431; clear hy431; have H' := Aside0.mk H; clear H
             go_wp2_with (first | ((with_reducible refine gate_callee (f := 31) rfl ?_); refine goesM (some 33) Try.func31 #[.string a0, .int .i64 x6_1] ?_; (with_reducible refine (spec_l4Num.calls k1 a0 x6_1 t404 t405 _ A13.out).mono ?_); rintro e w52 ⟨rfl, hb⟩; refine ⟨_, rfl, ?_⟩; have n0_ := Aside0.mk (Kd.R_below (upR HO_4.out) hb); have n1_ := Aside0.mk (below_step (upB HB.out) hb); clear HO_4; clear HB; have HO_4 := n0_; have HB := n1_; clear n0_ n1_; (try clear hb); (try clear hb2); (try clear hk); (try clear hi)) | ((with_reducible refine gate_callee (f := 28) rfl ?_); refine goesM (some 40) Try.func28 #[.int .i64 t404] ?_; (with_reducible refine (spec_LabelOk.calls t404 true _ A18.out).mono ?_); rintro e w' ⟨rfl, ⟨nd, rfl⟩⟩; refine ⟨_, rfl, ?_⟩) | ((with_reducible refine gate_callee (f := 31) rfl ?_); refine goesM (some 46) Try.func31 #[.string a0, .int .i64 t405] ?_; (with_reducible refine (spec_l4Num.calls k1 a0 t405 t413 t414 _ A20.out).mono ?_); rintro e w53 ⟨rfl, hb⟩; refine ⟨_, rfl, ?_⟩; have n0_ := Aside0.mk (Kd.R_below (upR HO_4.out) hb); have n1_ := Aside0.mk (below_step (upB HB.out) hb); clear HO_4; clear HB; have HO_4 := n0_; have HB := n1_; clear n0_ n1_; (try clear hb); (try clear hb2); (try clear hk); (try clear hi)) | ((with_reducible refine gate_builtin (b := .append) (xs := #[.tmp 76, .tmp 80]) rfl ?_); at_builtin; refine Kd.R_append k46 (w0 := w) w.heap.size rfl (.tmp 76) (.tmp 80) 24 46 (.agg #[(.int .i64 0), (.int .i64 0)]) 16 rfl Try.underlying24 info46 rfl (by decide) (by omega) u4 x4_1 (⟨t404, t413⟩ : S46) [.int .i64 t404, .int .i64 t413] (fun _ => True) (fun _ => False) rfl rfl ?aP (fun _ hk => hk.elim) ?aF ?aO ?aB ?aS ?aL ?_; (case aP => exact k46_mkM _ _ _ (⟨t404, t413⟩ : S46)); (case aB => exact (upB HB.out)); (case aF => exact (fun _ _ => trivial)); (case aO => exact (upR HO_4.out)); (case aS => exact (below_size (upB HB.out))); (case aL => have := LMc51.out; omega); intro v432 w54 ho hb hg hat; rw [← Ny431.out] at ho; have n0_ := Aside0.mk (hb); have n1_ := Aside0.mk (ho); clear HB; clear HO_4; have HB := n0_; have HO433 := n1_; clear n0_ n1_; clear ho hb hg hat))
             go_roundg k1
             case measure => have := HK1.out; omega
             case rel => exact ⟨(y431), (t414), (wrap64 (x7_1 + 1)), (by first | rfl | (simp; done) | (simp [*]; done)), (by first | rfl | (simp; done) | (simp [*]; done)), H', ⟨by have := HK1.out; omega⟩, ⟨by (with_reducible repeat (first | apply Kd.R_alloc | apply Kd.R_drewN | apply Kd.R_drew)); exact HO433.out⟩, ⟨by repeat (first | exact HB.out | apply below_alloc | apply pw_below_drewN | apply below_drew1)⟩⟩
            ·rw [if_neg c51] at H
             exact absurd H (by simp)
       ·replace c19 := Bool.eq_false_iff.mpr c19
        subst c19
        have H1 : (some ((([] : List (S46))), 3)) = some (r1, r2) := by rw [if_neg (show ¬ (false = true) by decide)] at H; exact H
        clear H; have H := H1; clear H1
        obtain ⟨y410, hy410⟩ : ∃ y_ : List (S46), y_ = (([] : List (S46))) := ⟨_, rfl⟩
        replace H : (some (y410, 3)) = some (r1, r2) := by first | (rw [hy410]; with_reducible exact H) | (have H2_ := (Option.bind_some _ _).symm.trans H; rw [hy410]; with_reducible exact H2_) | (have H2_ := (Option.bind_some _ _).symm.trans H; with_reducible exact H2_) | with_reducible exact H | (rw [hy410]; exact H) | exact H
        have Ny410 := Aside0.mk hy410; clear hy410
        simp only [Option.some.injEq, Prod.mk.injEq] at H
        obtain ⟨rfl, rfl⟩ := H
        go_wp2_with (first | ((with_reducible refine gate_callee (f := 31) rfl ?_); refine goesM (some 33) Try.func31 #[.string a0, .int .i64 x6_1] ?_; (with_reducible refine (spec_l4Num.calls k1 a0 x6_1 t404 t405 _ A13.out).mono ?_); rintro e w55 ⟨rfl, hb⟩; refine ⟨_, rfl, ?_⟩; have n0_ := Aside0.mk (Kd.R_below (upR HO_4.out) hb); have n1_ := Aside0.mk (below_step (upB HB.out) hb); clear HO_4; clear HB; have HO_4 := n0_; have HB := n1_; clear n0_ n1_; (try clear hb); (try clear hb2); (try clear hk); (try clear hi)) | ((with_reducible refine gate_callee (f := 28) rfl ?_); refine goesM (some 40) Try.func28 #[.int .i64 t404] ?_; (with_reducible refine (spec_LabelOk.calls t404 false _ A18.out).mono ?_); rintro e w' ⟨rfl, ⟨nd, rfl⟩⟩; refine ⟨_, rfl, ?_⟩) | ((with_reducible refine gate_dst (N := 42) rfl ?_); refine Kd.R_lit k46 _ 46 ?hg (N := 42) ?hd (xs := ([] : List (S46))) (inner := []) (ok := fun _ => True) (okp := fun _ => True) ?hr ?hp (fun _ hk => hk) trivial (Below.refl _ _) (Nat.le_refl _) (by simp) ?_; (case hd => rfl); (case hg => rfl); (case hr => first | (go_simp; done) | (go_simp; rfl)); (case hp => exact (Reps.none _ _)); intro v411 w56 ho57 hb hg_ hnew_; clear hg_ hnew_; (first | rw [← Ny410.out] at ho57 | (simp only [Int.reduceToNat] at ho57; rw [← Ny410.out] at ho57)); have n0_ := Aside0.mk (Kd.R_elder' (upR HO_4.out) (Kd.R_base ho57) hb); have n1_ := Aside0.mk (Kd.R_lower (Kd.R_new' ho57 (Kd.R_lt (upR HO_4.out))) (below_size (upB HB.out))); have n2_ := Aside0.mk (below_step (upB HB.out) hb); clear HO_4; clear HB; have HO_4 := n0_; have HO412 := n1_; have HB := n2_; clear n0_ n1_ n2_; clear hb ho57))
        go_ret2
        exact ⟨_, by first | rfl | (simp [errW_none, errW_some] <;> rfl) | (simp [*, errW_none, errW_some] <;> rfl), by (with_reducible repeat (first | apply Kd.R_alloc | apply Kd.R_drewN | apply Kd.R_drew)); exact Kd.R_mono HO412.out (fun _ hk => trivial), by repeat (first | exact HB.out | apply below_alloc | apply pw_below_drewN | apply below_drew1)⟩
     ·rw [if_neg c12] at H
      have c12b0 : decide (x7_1 < t398) = false := decide_eq_false c12
      clear c12
      by_cases c58 : x6_1 = (a0.size : Int)
      ·rw [if_pos c58] at H
       have c58b0 : (x6_1 == (a0.size : Int)) = true := beq_iff_eq.mpr c58
       have c58b1 : (x6_1 != (a0.size : Int)) = false := bne_eq_false_iff_eq.mpr c58
       clear c58
       simp only [Option.some.injEq, Prod.mk.injEq] at H
       obtain ⟨rfl, rfl⟩ := H
       go_wp2
       go_ret2
       exact ⟨_, by first | rfl | (simp [errW_none, errW_some] <;> rfl) | (simp [*, errW_none, errW_some] <;> rfl), by (with_reducible repeat (first | apply Kd.R_alloc | apply Kd.R_drewN | apply Kd.R_drew)); exact HO_4.out, by repeat (first | exact HB.out | apply below_alloc | apply pw_below_drewN | apply below_drew1)⟩
      ·rw [if_neg c58] at H
       have c58b0 : (x6_1 == (a0.size : Int)) = false := beq_eq_false_iff_ne.mpr c58
       have c58b1 : (x6_1 != (a0.size : Int)) = true := bne_iff_ne.mpr c58
       obtain ⟨y401, hy401⟩ : ∃ y_ : List (S46), y_ = (([] : List (S46))) := ⟨_, rfl⟩
       replace H : (some (y401, 6)) = some (r1, r2) := by first | (rw [hy401]; with_reducible exact H) | (have H2_ := (Option.bind_some _ _).symm.trans H; rw [hy401]; with_reducible exact H2_) | (have H2_ := (Option.bind_some _ _).symm.trans H; with_reducible exact H2_) | with_reducible exact H | (rw [hy401]; exact H) | exact H
       have Ny401 := Aside0.mk hy401; clear hy401
       simp only [Option.some.injEq, Prod.mk.injEq] at H
       obtain ⟨rfl, rfl⟩ := H
       go_wp2_with (first | ((with_reducible refine gate_dst (N := 87) rfl ?_); refine Kd.R_lit k46 _ 46 ?hg (N := 87) ?hd (xs := ([] : List (S46))) (inner := []) (ok := fun _ => True) (okp := fun _ => True) ?hr ?hp (fun _ hk => hk) trivial (Below.refl _ _) (Nat.le_refl _) (by simp) ?_; (case hd => rfl); (case hg => rfl); (case hr => first | (go_simp; done) | (go_simp; rfl)); (case hp => exact (Reps.none _ _)); intro v402 w59 ho60 hb hg_ hnew_; clear hg_ hnew_; (first | rw [← Ny401.out] at ho60 | (simp only [Int.reduceToNat] at ho60; rw [← Ny401.out] at ho60)); have n0_ := Aside0.mk (Kd.R_elder' (upR HO_4.out) (Kd.R_base ho60) hb); have n1_ := Aside0.mk (Kd.R_lower (Kd.R_new' ho60 (Kd.R_lt (upR HO_4.out))) (below_size (upB HB.out))); have n2_ := Aside0.mk (below_step (upB HB.out) hb); clear HO_4; clear HB; have HO_4 := n0_; have HO403 := n1_; have HB := n2_; clear n0_ n1_ n2_; clear hb ho60))
       go_ret2
       exact ⟨_, by first | rfl | (simp [errW_none, errW_some] <;> rfl) | (simp [*, errW_none, errW_some] <;> rfl), by (with_reducible repeat (first | apply Kd.R_alloc | apply Kd.R_drewN | apply Kd.R_drew)); exact Kd.R_mono HO403.out (fun _ hk => trivial), by repeat (first | exact HB.out | apply below_alloc | apply pw_below_drewN | apply below_drew1)⟩
  ·replace c8 := Bool.eq_false_iff.mpr c8
   subst c8
   have H1 : (some (y395, 2)) = some (r1, r2) := by rw [if_neg (show ¬ (false = true) by decide)] at H; exact H
   clear H; have H := H1; clear H1
   simp only [Option.some.injEq, Prod.mk.injEq] at H
   obtain ⟨rfl, rfl⟩ := H
   go_enter Try.func11, Try.ntmps11
   go_wp2_with (first | ((with_reducible refine gate_dst (N := 12) rfl ?_); refine Kd.R_lit k46 _ 46 ?hg (N := 12) ?hd (xs := ([] : List (S46))) (inner := []) (ok := fun _ => True) (okp := fun _ => True) ?hr ?hp (fun _ hk => hk) trivial (Below.refl _ _) (Nat.le_refl _) (by simp) ?_; (case hd => rfl); (case hg => rfl); (case hr => first | (go_simp; done) | (go_simp; rfl)); (case hp => exact (Reps.none _ _)); intro v396 w61 ho62 hb hg_ hnew_; clear hg_ hnew_; (first | rw [← Ny395.out] at ho62 | (simp only [Int.reduceToNat] at ho62; rw [← Ny395.out] at ho62)); have n0_ := Aside0.mk (Kd.R_lower ho62 (below_size (upB HB.out))); have n1_ := Aside0.mk (below_step (upB HB.out) hb); clear HB; have HO397 := n0_; have HB := n1_; clear n0_ n1_; clear hb ho62) | ((with_reducible refine gate_callee (f := 31) rfl ?_); refine goesM (some 15) Try.func31 #[.string a0, .int .i64 0] ?_; (with_reducible refine (spec_l4Num.calls k a0 0 t398 t399 _ A2.out).mono ?_); rintro e w63 ⟨rfl, hb⟩; refine ⟨_, rfl, ?_⟩; have n0_ := Aside0.mk (Kd.R_below (upR HO397.out) hb); have n1_ := Aside0.mk (below_step (upB HB.out) hb); clear HO397; clear HB; have HO397 := n0_; have HB := n1_; clear n0_ n1_; (try clear hb); (try clear hb2); (try clear hk); (try clear hi)) | ((with_reducible refine gate_callee (f := 29) rfl ?_); refine goesM (some 22) Try.func29 #[.int .i64 t398, .int .i64 1, .int .i64 24] ?_; (with_reducible refine (spec_l1In.calls t398 1 24 false _ A7.out).mono ?_); rintro e w' ⟨rfl, ⟨nd, rfl⟩⟩; refine ⟨_, rfl, ?_⟩))
   go_ret2
   exact ⟨_, by first | rfl | (simp [errW_none, errW_some] <;> rfl) | (simp [*, errW_none, errW_some] <;> rfl), by (with_reducible repeat (first | apply Kd.R_alloc | apply Kd.R_drewN | apply Kd.R_drew)); exact HO397.out, by repeat (first | exact HB.out | apply below_alloc | apply pw_below_drewN | apply below_drew1)⟩

/-! ### impl_TreeCode: function 12 -/
def impl_TreeCode.f (a0 : Int) : Option ByteArray := some (if a0 = 0 then ⟨#[111, 107]⟩ else if a0 = 1 then ⟨#[115, 104, 111, 114, 116]⟩ else if a0 = 2 then ⟨#[115, 105, 122, 101]⟩ else if a0 = 3 then ⟨#[108, 97, 98, 101, 108]⟩ else if a0 = 4 then ⟨#[100, 101, 112, 116, 104]⟩ else if a0 = 5 then ⟨#[115, 104, 97, 112, 101]⟩ else if a0 = 6 then ⟨#[108, 101, 102, 116]⟩ else ⟨#[]⟩)
theorem impl_TreeCode.at0 (w : World) :
  Calls Try.prog 12 #[.int .i64 0] w fun e w' => e = .returned (.string ⟨#[111, 107]⟩) ∧ Below w.heap.size w w' := by
 have HB := Aside0.mk (Below.refl w.heap.size w)
 have A1 : impl_within.f 0 0 6 = some true := by kernel_rfl
 have A2 := Aside0.mk A1; clear A1
 go_enter Try.func12, Try.ntmps12
 go_wp2_with (first | ((with_reducible refine (impl_within.calls 0 0 6 true _ A2.out).mono ?_); rintro e w5 ⟨rfl, m5, rfl⟩) | fail)
 go_ret
 exact ⟨rfl, by repeat (first | exact HB.out | apply below_alloc | apply pw_below_drewN | apply below_drew1)⟩
theorem impl_TreeCode.at1 (w : World) :
  Calls Try.prog 12 #[.int .i64 1] w fun e w' => e = .returned (.string ⟨#[115, 104, 111, 114, 116]⟩) ∧ Below w.heap.size w w' := by
 have HB := Aside0.mk (Below.refl w.heap.size w)
 have A1 : impl_within.f 1 0 6 = some true := by kernel_rfl
 have A2 := Aside0.mk A1; clear A1
 go_enter Try.func12, Try.ntmps12
 go_wp2_with (first | ((with_reducible refine (impl_within.calls 1 0 6 true _ A2.out).mono ?_); rintro e w5 ⟨rfl, m5, rfl⟩) | fail)
 go_ret
 exact ⟨rfl, by repeat (first | exact HB.out | apply below_alloc | apply pw_below_drewN | apply below_drew1)⟩
theorem impl_TreeCode.at2 (w : World) :
  Calls Try.prog 12 #[.int .i64 2] w fun e w' => e = .returned (.string ⟨#[115, 105, 122, 101]⟩) ∧ Below w.heap.size w w' := by
 have HB := Aside0.mk (Below.refl w.heap.size w)
 have A1 : impl_within.f 2 0 6 = some true := by kernel_rfl
 have A2 := Aside0.mk A1; clear A1
 go_enter Try.func12, Try.ntmps12
 go_wp2_with (first | ((with_reducible refine (impl_within.calls 2 0 6 true _ A2.out).mono ?_); rintro e w5 ⟨rfl, m5, rfl⟩) | fail)
 go_ret
 exact ⟨rfl, by repeat (first | exact HB.out | apply below_alloc | apply pw_below_drewN | apply below_drew1)⟩
theorem impl_TreeCode.at3 (w : World) :
  Calls Try.prog 12 #[.int .i64 3] w fun e w' => e = .returned (.string ⟨#[108, 97, 98, 101, 108]⟩) ∧ Below w.heap.size w w' := by
 have HB := Aside0.mk (Below.refl w.heap.size w)
 have A1 : impl_within.f 3 0 6 = some true := by kernel_rfl
 have A2 := Aside0.mk A1; clear A1
 go_enter Try.func12, Try.ntmps12
 go_wp2_with (first | ((with_reducible refine (impl_within.calls 3 0 6 true _ A2.out).mono ?_); rintro e w5 ⟨rfl, m5, rfl⟩) | fail)
 go_ret
 exact ⟨rfl, by repeat (first | exact HB.out | apply below_alloc | apply pw_below_drewN | apply below_drew1)⟩
theorem impl_TreeCode.at4 (w : World) :
  Calls Try.prog 12 #[.int .i64 4] w fun e w' => e = .returned (.string ⟨#[100, 101, 112, 116, 104]⟩) ∧ Below w.heap.size w w' := by
 have HB := Aside0.mk (Below.refl w.heap.size w)
 have A1 : impl_within.f 4 0 6 = some true := by kernel_rfl
 have A2 := Aside0.mk A1; clear A1
 go_enter Try.func12, Try.ntmps12
 go_wp2_with (first | ((with_reducible refine (impl_within.calls 4 0 6 true _ A2.out).mono ?_); rintro e w5 ⟨rfl, m5, rfl⟩) | fail)
 go_ret
 exact ⟨rfl, by repeat (first | exact HB.out | apply below_alloc | apply pw_below_drewN | apply below_drew1)⟩
theorem impl_TreeCode.at5 (w : World) :
  Calls Try.prog 12 #[.int .i64 5] w fun e w' => e = .returned (.string ⟨#[115, 104, 97, 112, 101]⟩) ∧ Below w.heap.size w w' := by
 have HB := Aside0.mk (Below.refl w.heap.size w)
 have A1 : impl_within.f 5 0 6 = some true := by kernel_rfl
 have A2 := Aside0.mk A1; clear A1
 go_enter Try.func12, Try.ntmps12
 go_wp2_with (first | ((with_reducible refine (impl_within.calls 5 0 6 true _ A2.out).mono ?_); rintro e w5 ⟨rfl, m5, rfl⟩) | fail)
 go_ret
 exact ⟨rfl, by repeat (first | exact HB.out | apply below_alloc | apply pw_below_drewN | apply below_drew1)⟩
theorem impl_TreeCode.at6 (w : World) :
  Calls Try.prog 12 #[.int .i64 6] w fun e w' => e = .returned (.string ⟨#[108, 101, 102, 116]⟩) ∧ Below w.heap.size w w' := by
 have HB := Aside0.mk (Below.refl w.heap.size w)
 have A1 : impl_within.f 6 0 6 = some true := by kernel_rfl
 have A2 := Aside0.mk A1; clear A1
 go_enter Try.func12, Try.ntmps12
 go_wp2_with (first | ((with_reducible refine (impl_within.calls 6 0 6 true _ A2.out).mono ?_); rintro e w5 ⟨rfl, m5, rfl⟩) | fail)
 go_ret
 exact ⟨rfl, by repeat (first | exact HB.out | apply below_alloc | apply pw_below_drewN | apply below_drew1)⟩
theorem impl_TreeCode.no (a0 : Int) (w : World) (hn : ¬ (0 ≤ a0 ∧ a0 ≤ 6)) :
  Calls Try.prog 12 #[.int .i64 a0] w fun e w' => e = .returned (.string ⟨#[]⟩) ∧ Below w.heap.size w w' := by
 have HB := Aside0.mk (Below.refl w.heap.size w)
 have A1 : impl_within.f a0 0 6 = some false := by
  unfold impl_within.f
  by_cases h : 0 ≤ a0
  ·rw [if_pos h, decide_eq_false (fun h2 => hn ⟨h, h2⟩)]
  ·rw [if_neg h]
 have A2 := Aside0.mk A1; clear A1 hn
 go_enter Try.func12, Try.ntmps12
 go_wp2_with (first | ((with_reducible refine (impl_within.calls a0 0 6 false _ A2.out).mono ?_); rintro e w5 ⟨rfl, m5, rfl⟩) | fail)
 go_ret
 exact ⟨rfl, by repeat (first | exact HB.out | apply below_alloc | apply pw_below_drewN | apply below_drew1)⟩
theorem impl_TreeCode.calls (a0 : Int) (r : ByteArray) (w : World) (h : impl_TreeCode.f a0 = some r) :
  Calls Try.prog 12 #[.int .i64 a0] w fun e w' => e = .returned (.string r) ∧ Below w.heap.size w w' := by
 have h := Option.some.inj h
 by_cases c0 : a0 = 0
 ·subst c0; subst h; exact impl_TreeCode.at0 w
 by_cases c1 : a0 = 1
 ·subst c1; subst h; exact impl_TreeCode.at1 w
 by_cases c2 : a0 = 2
 ·subst c2; subst h; exact impl_TreeCode.at2 w
 by_cases c3 : a0 = 3
 ·subst c3; subst h; exact impl_TreeCode.at3 w
 by_cases c4 : a0 = 4
 ·subst c4; subst h; exact impl_TreeCode.at4 w
 by_cases c5 : a0 = 5
 ·subst c5; subst h; exact impl_TreeCode.at5 w
 by_cases c6 : a0 = 6
 ·subst c6; subst h; exact impl_TreeCode.at6 w
 rw [if_neg c0, if_neg c1, if_neg c2, if_neg c3, if_neg c4, if_neg c5, if_neg c6] at h
 subst h
 exact impl_TreeCode.no a0 w (by omega)

end Go.Proofs.Ytpkokfffjgdjoaa.HFnBytes
