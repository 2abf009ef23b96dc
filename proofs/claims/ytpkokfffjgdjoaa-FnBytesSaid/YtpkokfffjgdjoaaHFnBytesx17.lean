/- Functions of the program and what each call of them comes to, for the law FnBytes; written by a program of this session. No condition beyond those of each theorem. -/
import Derived.Test.YtpkokfffjgdjoaaHFnBytesx0
import Derived.Test.YtpkokfffjgdjoaaHFnBytesx2
import Derived.Test.YtpkokfffjgdjoaaHFnBytesx3
import Derived.Test.YtpkokfffjgdjoaaHFnBytesx8
import Derived.Test.YtpkokfffjgdjoaaHFnBytesx9
import Derived.Test.YtpkokfffjgdjoaaHFnBytesx12
import Derived.Test.YtpkokfffjgdjoaaHFnBytesx16
namespace Go.Proofs.Ytpkokfffjgdjoaa.HFnBytes
open Go.RowKit Go.Proofs.YtpkokfffjgdjoaaW.PrintWords Go.Proofs.YtpkokfffjgdjoaaW.PrintLast Go.Proofs.YtpkokfffjgdjoaaW.PrintMore
attribute [local go_sem] max2_int min2_int max_two min_two max_three min_three max_four min_four   -- for this text's walks alone
open List renaming setIfInBounds_toArray → s1_, set_cons_zero → s2_, set_cons_succ → s3_
set_option linter.unusedVariables false
set_option linter.unusedSimpArgs false

abbrev bs17_0 : Array Bool := #[false, false, false, false, false, false, false, false, false, false, false]
abbrev bs17_1 : Array Bool := #[false, true, false, false, false, false, false, false, false, false, false]
abbrev bs17_2 : Array Bool := #[false, true, false, false, true, false, false, false, false, false, false]
abbrev bs17_3 : Array Bool := #[false, true, false, false, true, false, false, true, false, false, false]
abbrev bs17_4 : Array Bool := #[false, true, true, false, true, false, false, true, false, false, false]
abbrev bs17_5 : Array Bool := #[false, true, true, false, true, true, false, true, false, false, false]
abbrev bs17_6 : Array Bool := #[false, true, true, false, true, true, false, true, true, false, false]
abbrev bs17_7 : Array Bool := #[true, true, true, false, true, true, false, true, true, false, false]
abbrev bs17_8 : Array Bool := #[true, true, true, true, true, true, false, true, true, false, false]
abbrev bs17_9 : Array Bool := #[true, true, true, true, true, true, true, true, true, false, false]
abbrev bs17_10 : Array Bool := #[true, true, true, true, true, true, true, true, true, true, false]
abbrev bs17_11 : Array Bool := #[true, true, true, true, true, true, true, true, true, true, true]
section
variable {P : Program}
theorem x17_upI {p q : Prop} (h : p) (f : p → q := by intro h_; repeat (first | (with_reducible first | exact h_ | apply IsS66.alloc | apply IsS66.drewN | apply IsS66.drew | apply IsS66.set_1 | apply IsS66.set_2 | refine IsS66.far ?_ (Aside0.out (by assumption)) _) | exact h_)) : q := f h
theorem x17_upBS {p q : Prop} (h : p) (f : p → q := by intro h_; repeat (first | (with_reducible first | exact h_ | apply below_alloc | apply pw_below_drewN | apply below_drew1 | refine below_set ?_ (IsS66.ge (Aside0.out (by assumption))) | refine below_set ?_ (Aside0.out (by assumption)) | refine below_set ?_ (Nat.le_trans (Aside0.out (by assumption)) (Aside0.out (by assumption)))) | exact h_)) : q := f h
end
/-! ### spec_PutCost: function 36 -/
def spec_PutCost.l0 : Nat → ByteArray → List Int → Int → Option (ByteArray)
 | 0, _, _, _ => none
 | k + 1, x3, x4, x5 => if x5 < (x4.length : Int) then (if 0 ≤ x5 then ((spec_Var.f k (rd x4 x5)).bind fun t597 => (if x3.size + t597.size ≤ 9223372036854775807 then (spec_PutCost.l0 k (x3 ++ t597) x4 (wrap64 (x5 + 1))) else (none))) else (none)) else (some x3)
def spec_PutCost.f (k : Nat) (l0_0 : List Int) (l0_1 : List Int) (l0_2 : List Int) : Option (ByteArray) := (spec_CostOk.f k l0_0 l0_1 l0_2).bind fun t583 => (if t583 = true then ((some (([] : List Int) : List Int)).bind fun y584 => (if y584.length + l0_0.length < 17592186044416 then ((some (y584 ++ l0_0 : List Int)).bind fun y587 => (if y587.length + l0_1.length < 17592186044416 then ((some (y587 ++ l0_1 : List Int)).bind fun y590 => (if y590.length + l0_2.length < 17592186044416 then (spec_PutCost.l0 k (⟨#[]⟩ : ByteArray) (y590 ++ l0_2) 0) else (none))) else (none))) else (none))) else (some (⟨#[]⟩ : ByteArray)))
theorem spec_PutCost.mono_l : ∀ k, (∀ y0 y1 y2, LeO (spec_PutCost.l0 k y0 y1 y2) (spec_PutCost.l0 (k + 1) y0 y1 y2))
 | 0 => fun _ _ _ r h => by simp [spec_PutCost.l0] at h
 | k + 1 => by
  have ih0 := spec_PutCost.mono_l k
  ·intro y0 y1 y2
   unfold spec_PutCost.l0
   repeat' first
   | (with_reducible exact ih0 _ _ _)
   | (with_reducible exact spec_CostOk.mono _ _ _ _)
   | (with_reducible exact spec_Var.mono _ _)
   | (with_reducible exact LeO.refl _)
   | (with_reducible exact LeO.none _)
   | (with_reducible refine LeO.ite ?_ ?_)
   | (with_reducible refine LeO.bind ?_ (fun _ => ?_))
   | exact ih0 _ _ _
   | exact spec_CostOk.mono _ _ _ _
   | exact spec_Var.mono _ _
   | exact LeO.none _
   | refine LeO.ite ?_ ?_
   | refine LeO.bind ?_ (fun _ => ?_)
theorem spec_PutCost.mono : ∀ a0 a1 a2 k, LeO (spec_PutCost.f k a0 a1 a2) (spec_PutCost.f (k + 1) a0 a1 a2) := by
 intro a0 a1 a2 k
 have ih0 := spec_PutCost.mono_l k
 unfold spec_PutCost.f
 repeat' first
   | (with_reducible exact ih0 _ _ _)
   | (with_reducible exact spec_CostOk.mono _ _ _ _)
   | (with_reducible exact spec_Var.mono _ _)
   | (with_reducible exact LeO.refl _)
   | (with_reducible exact LeO.none _)
   | (with_reducible refine LeO.ite ?_ ?_)
   | (with_reducible refine LeO.bind ?_ (fun _ => ?_))
   | exact ih0 _ _ _
   | exact spec_CostOk.mono _ _ _ _
   | exact spec_Var.mono _ _
   | exact LeO.none _
   | refine LeO.ite ?_ ?_
   | refine LeO.bind ?_ (fun _ => ?_)
def spec_PutCost.T4 : Bool × List (List Nat × List Nat) := (true, [([], []), ([], []), ([1], [1]), ([0, 2], [0, 2]), ([], []), ([4], [4]), ([3, 5, 3], [3, 5]), ([], []), ([7], [7]), ([6, 8, 6], [6, 8]), ([9, 9, 0, 1, 2, 3, 4, 5, 6, 7, 8, 9], [9])])
def spec_PutCost.B4 : List Nat := [0, 0, 2, 7, 0, 16, 63, 0, 128, 511, 1023]
theorem spec_PutCost.tab4 : rtab .any (opsOf Try.f36 4) = spec_PutCost.T4 := by kernel_rfl
theorem spec_PutCost.bits4 : waitsOk spec_PutCost.T4.2 spec_PutCost.B4 = true := by kernel_rfl
set_option maxHeartbeats 8000000 in
set_option maxRecDepth 100000 in
theorem spec_PutCost.calls (k : Nat) (A0_0 : Option Addr) (c0_0 : Nat) (l0_0 : List Int) (A0_1 : Option Addr) (c0_1 : Nat) (l0_1 : List Int) (A0_2 : Option Addr) (c0_2 : Nat) (l0_2 : List Int) (r : ByteArray) (w : World) (hr0_0 : Kd.C (Kd.int .i64) w A0_0 l0_0.length l0_0) (hc0_0 : l0_0.length ≤ c0_0) (hr0_1 : Kd.C (Kd.int .i64) w A0_1 l0_1.length l0_1) (hc0_1 : l0_1.length ≤ c0_1) (hr0_2 : Kd.C (Kd.int .i64) w A0_2 l0_2.length l0_2) (hc0_2 : l0_2.length ≤ c0_2) (h : spec_PutCost.f k l0_0 l0_1 l0_2 = some r) :
  Calls Try.prog 36 #[.agg #[.slice A0_0 l0_0.length c0_0, .slice A0_1 l0_1.length c0_1, .slice A0_2 l0_2.length c0_2]] w fun e w' => e = .returned (.string r) ∧ Below w.heap.size w w' := by
 have hu35 := Try.underlying35; have HR0_0 := Aside0.mk hr0_0; have HC0_0 := Aside0.mk hc0_0; clear hr0_0 hc0_0; have HR0_1 := Aside0.mk hr0_1; have HC0_1 := Aside0.mk hc0_1; clear hr0_1 hc0_1; have HR0_2 := Aside0.mk hr0_2; have HC0_2 := Aside0.mk hc0_2; clear hr0_2 hc0_2; have HB := Aside0.mk (Below.refl w.heap.size w)
 have H : ((spec_CostOk.f k l0_0 l0_1 l0_2).bind fun t583 => (if t583 = true then ((some (([] : List Int) : List Int)).bind fun y584 => (if y584.length + l0_0.length < 17592186044416 then ((some (y584 ++ l0_0 : List Int)).bind fun y587 => (if y587.length + l0_1.length < 17592186044416 then ((some (y587 ++ l0_1 : List Int)).bind fun y590 => (if y590.length + l0_2.length < 17592186044416 then (spec_PutCost.l0 k (⟨#[]⟩ : ByteArray) (y590 ++ l0_2) 0) else (none))) else (none))) else (none))) else (some (⟨#[]⟩ : ByteArray)))) = some r := h
 clear h; replace H := Option.bind_eq_some_iff.mp H
 obtain ⟨t583, A20, H⟩ := H
 replace H : (if t583 = true then ((some (([] : List Int) : List Int)).bind fun y584 => (if y584.length + l0_0.length < 17592186044416 then ((some (y584 ++ l0_0 : List Int)).bind fun y587 => (if y587.length + l0_1.length < 17592186044416 then ((some (y587 ++ l0_1 : List Int)).bind fun y590 => (if y590.length + l0_2.length < 17592186044416 then (spec_PutCost.l0 k (⟨#[]⟩ : ByteArray) (y590 ++ l0_2) 0) else (none))) else (none))) else (none))) else (some (⟨#[]⟩ : ByteArray))) = some r := H
 have A2 := Aside0.mk A20; clear A20
 by_cases c3 : t583 = true
 ·subst c3
  have H1 : ((some (([] : List Int) : List Int)).bind fun y584 => (if y584.length + l0_0.length < 17592186044416 then ((some (y584 ++ l0_0 : List Int)).bind fun y587 => (if y587.length + l0_1.length < 17592186044416 then ((some (y587 ++ l0_1 : List Int)).bind fun y590 => (if y590.length + l0_2.length < 17592186044416 then (spec_PutCost.l0 k (⟨#[]⟩ : ByteArray) (y590 ++ l0_2) 0) else (none))) else (none))) else (none))) = some r := by rw [if_pos rfl] at H; exact H
  clear H; have H := H1; clear H1
  obtain ⟨y584, hy584⟩ : ∃ y_ : List Int, y_ = (([] : List Int)) := ⟨_, rfl⟩
  replace H : (if y584.length + l0_0.length < 17592186044416 then ((some (y584 ++ l0_0 : List Int)).bind fun y587 => (if y587.length + l0_1.length < 17592186044416 then ((some (y587 ++ l0_1 : List Int)).bind fun y590 => (if y590.length + l0_2.length < 17592186044416 then (spec_PutCost.l0 k (⟨#[]⟩ : ByteArray) (y590 ++ l0_2) 0) else (none))) else (none))) else (none)) = some r := by first | (rw [hy584]; with_reducible exact H) | (have H2_ := (Option.bind_some _ _).symm.trans H; rw [hy584]; with_reducible exact H2_) | (have H2_ := (Option.bind_some _ _).symm.trans H; with_reducible exact H2_) | with_reducible exact H | (rw [hy584]; exact H) | exact H
  have Ny584 := Aside0.mk hy584; clear hy584
  by_cases c4 : y584.length + l0_0.length < 17592186044416
  ·rw [if_pos c4] at H
   have LMc4 := Aside0.mk c4; clear c4
   obtain ⟨y587, hy587⟩ : ∃ y_ : List Int, y_ = (y584 ++ l0_0) := ⟨_, rfl⟩
   replace H : (if y587.length + l0_1.length < 17592186044416 then ((some (y587 ++ l0_1 : List Int)).bind fun y590 => (if y590.length + l0_2.length < 17592186044416 then (spec_PutCost.l0 k (⟨#[]⟩ : ByteArray) (y590 ++ l0_2) 0) else (none))) else (none)) = some r := by first | (rw [hy587]; with_reducible exact H) | (have H2_ := (Option.bind_some _ _).symm.trans H; rw [hy587]; with_reducible exact H2_) | (have H2_ := (Option.bind_some _ _).symm.trans H; with_reducible exact H2_) | with_reducible exact H | (rw [hy587]; exact H) | exact H
   have Ny587 := Aside0.mk hy587; clear hy587
   by_cases c5 : y587.length + l0_1.length < 17592186044416
   ·rw [if_pos c5] at H
    have LMc5 := Aside0.mk c5; clear c5
    obtain ⟨y590, hy590⟩ : ∃ y_ : List Int, y_ = (y587 ++ l0_1) := ⟨_, rfl⟩
    replace H : (if y590.length + l0_2.length < 17592186044416 then (spec_PutCost.l0 k (⟨#[]⟩ : ByteArray) (y590 ++ l0_2) 0) else (none)) = some r := by first | (rw [hy590]; with_reducible exact H) | (have H2_ := (Option.bind_some _ _).symm.trans H; rw [hy590]; with_reducible exact H2_) | (have H2_ := (Option.bind_some _ _).symm.trans H; with_reducible exact H2_) | with_reducible exact H | (rw [hy590]; exact H) | exact H
    have Ny590 := Aside0.mk hy590; clear hy590
    by_cases c6 : y590.length + l0_2.length < 17592186044416
    ·rw [if_pos c6] at H
     have LMc6 := Aside0.mk c6; clear c6
     obtain ⟨y593, hy593⟩ : ∃ y_ : List Int, y_ = (y590 ++ l0_2) := ⟨_, rfl⟩
     replace H : (spec_PutCost.l0 k (⟨#[]⟩ : ByteArray) y593 0) = some r := by first | (rw [hy593]; with_reducible exact H) | (have H2_ := (Option.bind_some _ _).symm.trans H; rw [hy593]; with_reducible exact H2_) | (have H2_ := (Option.bind_some _ _).symm.trans H; with_reducible exact H2_) | with_reducible exact H | (rw [hy593]; exact H) | exact H
     have Ny593 := Aside0.mk hy593; clear hy593; have H' := Aside0.mk H; clear H
     go_enter Try.func36, Try.ntmps36
     try go_wp2_with (first | ((with_reducible refine gate_dst (N := 1) rfl ?_); refine box_event ?hg (N := 1) ?hd (cs := #[.slice A0_0 l0_0.length c0_0, .slice A0_1 l0_1.length c0_1, .slice A0_2 l0_2.length c0_2]) (t := 35) ?hr ?_; (case hd => rfl); (case hg => rfl); (case hr => first | (go_simp; done) | (go_simp; rfl)); intro gb582 hg w7 hbox hb; have n0_ := Aside0.mk (below_step (upB HB.out) hb); have n1_ := Aside0.mk (hbox); have n2_ := Aside0.mk ((by rw [hg]; exact (below_size (upB HB.out)) : w.heap.size ≤ gb582)); have n3_ := Aside0.mk ((by rw [hg]; exact (below_size (upB HB.out)) : w.heap.size ≤ gb582)); clear HB; have HB := n0_; have BK582 := n1_; have GW582 := n2_; have GE582 := n3_; clear n0_ n1_ n2_ n3_; clear hb hbox hg; have hcz8_0 : w7.cell? ⟨gb582, 0, none⟩ = some (.slice A0_0 l0_0.length c0_0) := (blk_cell BK582.out 0).trans rfl; have hcz8_1 : w7.cell? ⟨gb582, 1, none⟩ = some (.slice A0_1 l0_1.length c0_1) := (blk_cell BK582.out 1).trans rfl; have hcz8_2 : w7.cell? ⟨gb582, 2, none⟩ = some (.slice A0_2 l0_2.length c0_2) := (blk_cell BK582.out 2).trans rfl; have hfz8_0 := blk_frozen BK582.out 0; have hfz8_1 := blk_frozen BK582.out 1; have hfz8_2 := blk_frozen BK582.out 2) | ((with_reducible refine gate_callee (f := 18) rfl ?_); refine goesM (some 7) Try.func18 #[.agg #[.slice A0_0 l0_0.length c0_0, .slice A0_1 l0_1.length c0_1, .slice A0_2 l0_2.length c0_2]] ?_; (with_reducible refine (spec_CostOk.calls k _ _ l0_0 _ _ l0_1 _ _ l0_2 true _ ?side1 ?side2 ?side3 ?side4 ?side5 ?side6 A2.out).mono ?_); (case side1 => exact upC (Kd.C_below HR0_0.out HB.out)); (case side2 => exact HC0_0.out); (case side3 => exact upC (Kd.C_below HR0_1.out HB.out)); (case side4 => exact HC0_1.out); (case side5 => exact upC (Kd.C_below HR0_2.out HB.out)); (case side6 => exact HC0_2.out); rintro e w9 ⟨rfl, hb⟩; refine ⟨_, rfl, ?_⟩; have n0_ := Aside0.mk (blkB BK582.out hb); have n1_ := Aside0.mk (below_step (upB HB.out) hb); clear BK582; clear HB; have BK582 := n0_; have HB := n1_; clear n0_ n1_; (try clear hb); (try clear hb2); (try clear hk); (try clear hi)))
     have n0_ := Aside0.mk (blk_drew BK582.out); have n1_ := Aside0.mk (below_drew1 HB.out); clear BK582; clear HB; have BK582 := n0_; have HB := n1_; clear n0_ n1_
     refine start_ (n := 11) (S := fun w' => w'.cell? ⟨gb582, 0, none⟩ = some (.slice A0_0 l0_0.length c0_0) ∧ w'.cell? ⟨gb582, 1, none⟩ = some (.slice A0_1 l0_1.length c0_1) ∧ w'.cell? ⟨gb582, 2, none⟩ = some (.slice A0_2 l0_2.length c0_2)) (ds := []) bs17_0 (by kernel_rfl) rfl rfl ⟨(blk_cell BK582.out 0).trans rfl, (blk_cell BK582.out 1).trans rfl, (blk_cell BK582.out 2).trans rfl⟩ (fun hHeld => ?_); refine with_tabW spec_PutCost.tab4 spec_PutCost.bits4 (fun HT_ HW_ => ?_)
     generalize w9.drew = w10 at BK582 HB hHeld ⊢
     refine purA 1 10 bs17_1 HT_.out ?_
     refine purA 4 13 bs17_2 HT_.out ?_
     refine purA 7 16 bs17_3 HT_.out ?_
     refine take_ (i := 2) (N := some 11) (v := ?_) (a' := ?_) bs17_4 rfl rfl (take_ofW HT_.out HW_.out (by kernel_rfl)) (fun _ _ _ h => h) (Or.inl ⟨by rfl, ?_⟩) hHeld ?_ ?_; rotate_left; (rintro w' ⟨s0, s1, s2⟩; go_simp; with_reducible rfl); rotate_left; (simp only [Act.put, s1_, s2_, s3_, i64_w, i32_w]; rfl)
     refine take_ (i := 5) (N := some 14) (v := ?_) (a' := ?_) bs17_5 rfl rfl (take_ofW HT_.out HW_.out (by kernel_rfl)) (fun _ _ _ h => h) (Or.inl ⟨by rfl, ?_⟩) hHeld ?_ ?_; rotate_left; (rintro w' ⟨s0, s1, s2⟩; go_simp; with_reducible rfl); rotate_left; (simp only [Act.put, s1_, s2_, s3_, i64_w, i32_w]; rfl)
     refine take_ (i := 8) (N := some 17) (v := ?_) (a' := ?_) bs17_6 rfl rfl (take_ofW HT_.out HW_.out (by kernel_rfl)) (fun _ _ _ h => h) (Or.inl ⟨by rfl, ?_⟩) hHeld ?_ ?_; rotate_left; (rintro w' ⟨s0, s1, s2⟩; go_simp; with_reducible rfl); rotate_left; (simp only [Act.put, s1_, s2_, s3_, i64_w, i32_w]; rfl)
     refine one_ (i := 0) (N := some 9) bs17_7 rfl rfl (one_of HT_.out (by kernel_rfl)) (by decide) (fun K hK => ?_)
     refine Kd.R_lit_step (Kd.int .i64) _ 3 ?hg (N := 9) ?hd (xs := ([] : List Int)) (inner := []) (ok := fun _ => True) (okp := fun _ => True) ?hr ?hp (fun _ hk => hk) trivial (Below.refl _ _) (Nat.le_refl _) (by simp) ?_; (case hd => rfl); (case hg => rfl); (case hr => first | (go_simp; done) | (go_simp; rfl)); (case hp => exact (Reps.none _ _))
     intro v585 w11 ho12 hb hg_ hnew_
     clear hg_ hnew_
     (first | rw [← Ny584.out] at ho12 | (simp only [Int.reduceToNat] at ho12; rw [← Ny584.out] at ho12))
     have n0_ := Aside0.mk (Kd.R_lower ho12 (below_size (upB HB.out)))
     have n1_ := Aside0.mk (blkB BK582.out hb)
     have n2_ := Aside0.mk (below_step (upB HB.out) hb)
     clear BK582; clear HB; have HO586 := n0_; have BK582 := n1_; have HB := n2_; clear n0_ n1_ n2_; clear hb ho12
     refine hK.out _ _ ⟨(blk_cell BK582.out 0).trans rfl, (blk_cell BK582.out 1).trans rfl, (blk_cell BK582.out 2).trans rfl⟩ (fun hHeld => ?_)
     clear hK K
     refine norm_ (a' := ?_) ?_ ?_
     rotate_left
     ·show Act.put _ (some 9) _ = _
      simp only [Act.put, s1_, s2_, s3_, i64_w, i32_w]
      rfl
     refine one_ (i := 3) (N := some 12) bs17_8 rfl rfl (one_of HT_.out (by kernel_rfl)) (by decide) (fun K hK => ?_)
     refine Kd.R_append_rows_step (Kd.int .i64) (w0 := w) w.heap.size (by rfl) (.tmp 9) (.tmp 11) 33 3 (.int .i64 0) 8 rfl Try.underlying33 info3 rfl (by decide) (by omega) v585 y584 l0_0 _ _ _ (fun _ => True) (fun _ => False) rfl rfl ?aO ?aR (fun _ _ h => h) (fun _ h => h.elim) ?aF ?aB ?aS ?aL ?_
     (case aR => repeat (first | exact (Kd.C_below HR0_0.out HB.out) | (with_reducible refine Kd.C_alloc ?_ _) | (with_reducible refine Kd.C_drewN ?_ _) | (with_reducible refine Kd.C_drew ?_)))
     (case aB => exact (upB HB.out))
     (case aF => exact (fun _ _ => trivial))
     (case aO => exact (upR HO586.out))
     (case aS => exact (below_size (upB HB.out)))
     (case aL => have := LMc4.out; omega)
     intro v588 w13 ho hb hg hat
     rw [← Ny587.out] at ho
     have n0_ := Aside0.mk (blk_grown (g := gb582) (o := .cells #[.slice A0_0 l0_0.length c0_0, .slice A0_1 l0_1.length c0_1, .slice A0_2 l0_2.length c0_2] 35 (0, 0)) (upk BK582.out) hg (Kd.R_ne HO586.out BK582.out (by decide)))
     have n1_ := Aside0.mk (hb); have n2_ := Aside0.mk (ho); clear BK582; clear HB; clear HO586; have BK582 := n0_; have HB := n1_; have HO589 := n2_; clear n0_ n1_ n2_; clear ho hb hg hat
     refine hK.out _ _ ⟨(blk_cell BK582.out 0).trans rfl, (blk_cell BK582.out 1).trans rfl, (blk_cell BK582.out 2).trans rfl⟩ (fun hHeld => ?_)
     clear hK K
     refine norm_ (a' := ?_) ?_ ?_
     rotate_left
     ·show Act.put _ (some 12) _ = _
      simp only [Act.put, s1_, s2_, s3_, i64_w, i32_w]
      rfl
     refine one_ (i := 6) (N := some 15) bs17_9 rfl rfl (one_of HT_.out (by kernel_rfl)) (by decide) (fun K hK => ?_)
     refine Kd.R_append_rows_step (Kd.int .i64) (w0 := w) w.heap.size (by rfl) (.tmp 12) (.tmp 14) 33 3 (.int .i64 0) 8 rfl Try.underlying33 info3 rfl (by decide) (by omega) v588 y587 l0_1 _ _ _ (fun _ => True) (fun _ => False) rfl rfl ?aO ?aR (fun _ _ h => h) (fun _ h => h.elim) ?aF ?aB ?aS ?aL ?_
     (case aR => repeat (first | exact (Kd.C_below HR0_1.out HB.out) | (with_reducible refine Kd.C_alloc ?_ _) | (with_reducible refine Kd.C_drewN ?_ _) | (with_reducible refine Kd.C_drew ?_)))
     (case aB => exact (upB HB.out))
     (case aF => exact (fun _ _ => trivial))
     (case aO => exact (upR HO589.out))
     (case aS => exact (below_size (upB HB.out)))
     (case aL => have := LMc5.out; omega)
     intro v591 w14 ho hb hg hat
     rw [← Ny590.out] at ho
     have n0_ := Aside0.mk (blk_grown (g := gb582) (o := .cells #[.slice A0_0 l0_0.length c0_0, .slice A0_1 l0_1.length c0_1, .slice A0_2 l0_2.length c0_2] 35 (0, 0)) (upk BK582.out) hg (Kd.R_ne HO589.out BK582.out (by decide)))
     have n1_ := Aside0.mk (hb); have n2_ := Aside0.mk (ho); clear BK582; clear HB; clear HO589; have BK582 := n0_; have HB := n1_; have HO592 := n2_; clear n0_ n1_ n2_; clear ho hb hg hat
     refine hK.out _ _ ⟨(blk_cell BK582.out 0).trans rfl, (blk_cell BK582.out 1).trans rfl, (blk_cell BK582.out 2).trans rfl⟩ (fun hHeld => ?_)
     clear hK K
     refine norm_ (a' := ?_) ?_ ?_
     rotate_left
     ·show Act.put _ (some 15) _ = _
      simp only [Act.put, s1_, s2_, s3_, i64_w, i32_w]
      rfl
     refine one_ (i := 9) (N := some 18) bs17_10 rfl rfl (one_of HT_.out (by kernel_rfl)) (by decide) (fun K hK => ?_)
     refine Kd.R_append_rows_step (Kd.int .i64) (w0 := w) w.heap.size (by rfl) (.tmp 15) (.tmp 17) 33 3 (.int .i64 0) 8 rfl Try.underlying33 info3 rfl (by decide) (by omega) v591 y590 l0_2 _ _ _ (fun _ => True) (fun _ => False) rfl rfl ?aO ?aR (fun _ _ h => h) (fun _ h => h.elim) ?aF ?aB ?aS ?aL ?_
     (case aR => repeat (first | exact (Kd.C_below HR0_2.out HB.out) | (with_reducible refine Kd.C_alloc ?_ _) | (with_reducible refine Kd.C_drewN ?_ _) | (with_reducible refine Kd.C_drew ?_)))
     (case aB => exact (upB HB.out))
     (case aF => exact (fun _ _ => trivial))
     (case aO => exact (upR HO592.out))
     (case aS => exact (below_size (upB HB.out)))
     (case aL => have := LMc6.out; omega)
     intro v594 w15 ho hb hg hat
     rw [← Ny593.out] at ho
     have n0_ := Aside0.mk (blk_grown (g := gb582) (o := .cells #[.slice A0_0 l0_0.length c0_0, .slice A0_1 l0_1.length c0_1, .slice A0_2 l0_2.length c0_2] 35 (0, 0)) (upk BK582.out) hg (Kd.R_ne HO592.out BK582.out (by decide)))
     have n1_ := Aside0.mk (hb); have n2_ := Aside0.mk (ho); clear BK582; clear HB; clear HO592; have BK582 := n0_; have HB := n1_; have HO595 := n2_; clear n0_ n1_ n2_; clear ho hb hg hat
     refine hK.out _ _ ⟨(blk_cell BK582.out 0).trans rfl, (blk_cell BK582.out 1).trans rfl, (blk_cell BK582.out 2).trans rfl⟩ (fun hHeld => ?_)
     clear hK K
     refine norm_ (a' := ?_) ?_ ?_
     rotate_left
     ·show Act.put _ (some 18) _ = _
      simp only [Act.put, s1_, s2_, s3_, i64_w, i32_w]
      rfl
     refine purA 10 4 bs17_11 HT_.out ?_
     refine done_ (done_of HT_.out (by kernel_rfl)) ?_
     try go_wp2
     go_loopg [3, 5] k (fun kq v3 v5 w' => ∃ (x3_1 : ByteArray) (x5_1 : Int), v3 = .string x3_1 ∧ v5 = .int .i64 x5_1 ∧ Aside0 (spec_PutCost.l0 kq x3_1 y593 x5_1 = some r) ∧ Aside0 (kq ≤ k) ∧ Aside0 (Kd.R (Kd.int .i64) 3 w' w.heap.size (fun _ => True) v594 y593) ∧ Aside0 (w'.heap[gb582]? = some (.cells #[(.slice A0_0 l0_0.length c0_0), (.slice A0_1 l0_1.length c0_1), (.slice A0_2 l0_2.length c0_2)] 35 (0, 0))) ∧ Aside0 (Below w.heap.size w w'))
     case atStart => exact ⟨((⟨#[]⟩ : ByteArray)), (0), (by first | rfl | (simp; done) | (simp [*]; done)), (by first | rfl | (simp; done) | (simp [*]; done)), H', ⟨Nat.le_refl _⟩, ⟨by (with_reducible repeat (first | apply Kd.R_alloc | apply Kd.R_drewN | apply Kd.R_drew)); exact HO595.out⟩, ⟨by (with_reducible repeat (first | refine blk_drewN ?_ _ | refine blk_drew ?_ | refine blk_alloc ?_ _)); exact BK582.out⟩, ⟨upB HB.out⟩⟩
     case round =>
      clear H'
      try clear c1
      try clear p2
      try clear c3
      try clear c4
      try clear c5
      try clear c6
      try clear hcz8_0
      try clear hcz8_1
      try clear hcz8_2
      try clear hfz8_0
      try clear hfz8_1
      try clear hfz8_2
      obtain ⟨x3_1, x5_1, rfl, rfl, HA, HK1, HO_4, BK582, HB⟩ := hrel
      cases gk with
      | zero => exact absurd HA.out (by simp [spec_PutCost.l0])
      | succ k1 =>
       have H := HA.out; clear HA
       simp only [spec_PutCost.l0] at H
       by_cases c16 : x5_1 < (y593.length : Int)
       ·rw [if_pos c16] at H
        have c16b0 : decide (x5_1 < (y593.length : Int)) = true := decide_eq_true c16
        clear c16
        by_cases c17 : 0 ≤ x5_1
        ·rw [if_pos c17] at H
         have c17b0 : decide (0 ≤ x5_1) = true := decide_eq_true c17
         clear c17; replace H := Option.bind_eq_some_iff.mp H
         obtain ⟨t597, A180, H⟩ := H
         replace H : (if x3_1.size + t597.size ≤ 9223372036854775807 then (spec_PutCost.l0 k1 (x3_1 ++ t597) y593 (wrap64 (x5_1 + 1))) else (none)) = some r := H
         have A18 := Aside0.mk A180; clear A180
         by_cases c19 : x3_1.size + t597.size ≤ 9223372036854775807
         ·rw [if_pos c19] at H
          have c19b0 := eq_true c19
          have c19b1 : decide (x3_1.size + t597.size ≤ 9223372036854775807) = true := decide_eq_true c19
          try have c19b2 : (9223372036854775807 < x3_1.size + t597.size) = False := eq_false (Nat.not_lt.2 c19)
          have H' := Aside0.mk H; clear H
          obtain ⟨Ao20, co20, eo20⟩ := Kd.R_slice HO_4.out
          subst eo20
          have p596 : 0 ≤ (x5_1 : Int) := of_decide_eq_true (by first | (with_reducible assumption) | assumption)
          have q596 : x5_1 < (y593.length : Int) := of_decide_eq_true (by first | (with_reducible assumption) | assumption)
          obtain ⟨ad596, e596, hx596_0⟩ := Kd.at_int (Kd.R_reads' HO_4.out).2.2 x5_1 p596 q596
          cases e596; replace p596 := eq_true p596; replace q596 := eq_true q596
          go_wp2_with (first | ((with_reducible refine gate_callee (f := 54) rfl ?_); refine goesM (some 30) Try.func54 #[.int .i64 (rd y593 x5_1)] ?_; (with_reducible refine (spec_Var.calls k1 (rd y593 x5_1) t597 _ A18.out).mono ?_); rintro e w21 ⟨rfl, hb⟩; refine ⟨_, rfl, ?_⟩; have n0_ := Aside0.mk (Kd.R_below (upR HO_4.out) hb); have n1_ := Aside0.mk (blkB BK582.out hb); have n2_ := Aside0.mk (below_step (upB HB.out) hb); clear HO_4; clear BK582; clear HB; have HO_4 := n0_; have BK582 := n1_; have HB := n2_; clear n0_ n1_ n2_; (try clear hb); (try clear hb2); (try clear hk); (try clear hi)))
          go_roundg k1
          case measure => have := HK1.out; omega
          case rel => exact ⟨(x3_1 ++ t597), (wrap64 (x5_1 + 1)), (by first | rfl | (simp; done) | (simp [*]; done)), (by first | rfl | (simp; done) | (simp [*]; done)), H', ⟨by have := HK1.out; omega⟩, ⟨by (with_reducible repeat (first | apply Kd.R_alloc | apply Kd.R_drewN | apply Kd.R_drew)); exact HO_4.out⟩, ⟨by (with_reducible repeat (first | refine blk_drewN ?_ _ | refine blk_drew ?_ | refine blk_alloc ?_ _)); exact BK582.out⟩, ⟨upB HB.out⟩⟩
         ·rw [if_neg c19] at H
          exact absurd H (by simp)
        ·rw [if_neg c17] at H
         exact absurd H (by simp)
       ·rw [if_neg c16] at H
        have c16b0 : decide (x5_1 < (y593.length : Int)) = false := decide_eq_false c16
        clear c16
        obtain rfl := Option.some.inj H
        simp only [Option.some.injEq, Prod.mk.injEq] at H
        obtain ⟨rfl⟩ := H
        obtain ⟨Ao22, co22, eo22⟩ := Kd.R_slice HO_4.out
        subst eo22
        go_wp2
        go_ret
        exact ⟨by first | rfl | (simp [errW_none, errW_some] <;> rfl) | (simp [*, errW_none, errW_some] <;> rfl), upB HB.out⟩
    ·rw [if_neg c6] at H
     exact absurd H (by simp)
   ·rw [if_neg c5] at H
    exact absurd H (by simp)
  ·rw [if_neg c4] at H
   exact absurd H (by simp)
 ·replace c3 := Bool.eq_false_iff.mpr c3
  subst c3
  have H1 : (some (⟨#[]⟩ : ByteArray)) = some r := by rw [if_neg (show ¬ (false = true) by decide)] at H; exact H
  clear H; have H := H1; clear H1
  obtain rfl := Option.some.inj H
  simp only [Option.some.injEq, Prod.mk.injEq] at H
  obtain ⟨rfl⟩ := H
  go_enter Try.func36, Try.ntmps36
  go_wp2_with (first | ((with_reducible refine gate_dst (N := 1) rfl ?_); refine box_event ?hg (N := 1) ?hd (cs := #[.slice A0_0 l0_0.length c0_0, .slice A0_1 l0_1.length c0_1, .slice A0_2 l0_2.length c0_2]) (t := 35) ?hr ?_; (case hd => rfl); (case hg => rfl); (case hr => first | (go_simp; done) | (go_simp; rfl)); intro gb582 hg w23 hbox hb; have n0_ := Aside0.mk (below_step (upB HB.out) hb); have n1_ := Aside0.mk (hbox); have n2_ := Aside0.mk ((by rw [hg]; exact (below_size (upB HB.out)) : w.heap.size ≤ gb582)); have n3_ := Aside0.mk ((by rw [hg]; exact (below_size (upB HB.out)) : w.heap.size ≤ gb582)); clear HB; have HB := n0_; have BK582 := n1_; have GW582 := n2_; have GE582 := n3_; clear n0_ n1_ n2_ n3_; clear hb hbox hg; have hcz24_0 : w23.cell? ⟨gb582, 0, none⟩ = some (.slice A0_0 l0_0.length c0_0) := (blk_cell BK582.out 0).trans rfl; have hcz24_1 : w23.cell? ⟨gb582, 1, none⟩ = some (.slice A0_1 l0_1.length c0_1) := (blk_cell BK582.out 1).trans rfl; have hcz24_2 : w23.cell? ⟨gb582, 2, none⟩ = some (.slice A0_2 l0_2.length c0_2) := (blk_cell BK582.out 2).trans rfl; have hfz24_0 := blk_frozen BK582.out 0; have hfz24_1 := blk_frozen BK582.out 1; have hfz24_2 := blk_frozen BK582.out 2) | ((with_reducible refine gate_callee (f := 18) rfl ?_); refine goesM (some 7) Try.func18 #[.agg #[.slice A0_0 l0_0.length c0_0, .slice A0_1 l0_1.length c0_1, .slice A0_2 l0_2.length c0_2]] ?_; (with_reducible refine (spec_CostOk.calls k _ _ l0_0 _ _ l0_1 _ _ l0_2 false _ ?side1 ?side2 ?side3 ?side4 ?side5 ?side6 A2.out).mono ?_); (case side1 => exact upC (Kd.C_below HR0_0.out HB.out)); (case side2 => exact HC0_0.out); (case side3 => exact upC (Kd.C_below HR0_1.out HB.out)); (case side4 => exact HC0_1.out); (case side5 => exact upC (Kd.C_below HR0_2.out HB.out)); (case side6 => exact HC0_2.out); rintro e w25 ⟨rfl, hb⟩; refine ⟨_, rfl, ?_⟩; have n0_ := Aside0.mk (blkB BK582.out hb); have n1_ := Aside0.mk (below_step (upB HB.out) hb); clear BK582; clear HB; have BK582 := n0_; have HB := n1_; clear n0_ n1_; (try clear hb); (try clear hb2); (try clear hk); (try clear hi)))
  go_ret
  exact ⟨by first | rfl | (simp [errW_none, errW_some] <;> rfl) | (simp [*, errW_none, errW_some] <;> rfl), upB HB.out⟩

/-! ### spec_DrawGetCost: function 16 -/
def spec_DrawGetCost.f (k : Nat) (l0 : List Int) : Option (ByteArray) := (spec_l1New.f k l0).bind fun bt598 => ((spec_l7Cost.f k bt598.1 bt598.2.1 bt598.2.2).bind fun bt602 => ((spec_PutCost.f k bt602.1 bt602.2.1 bt602.2.2.1).bind fun t613 => ((spec_l1Below.f bt598.1 bt602.2.2.2.1 bt602.2.2.2.2 5).bind fun bt614 => (if bt614.1 = 0 then ((spec_l1Spoil.f k bt598.1 bt614.2.1 bt614.2.2 t613).bind fun bt617 => (some bt617.1)) else (if bt614.1 = 1 then ((spec_l1Below.f bt598.1 bt614.2.1 bt614.2.2 (wrap64 ((t613.size : Int) + 1))).bind fun bt620 => (if 0 ≤ bt620.1 then (if bt620.1 ≤ (t613.size : Int) then (some (t613.extract 0 (bt620.1 : Int).toNat)) else (none)) else (none))) else (if bt614.1 = 2 then (if t613.size + 1 ≤ 9223372036854775807 then (some (t613 ++ (⟨#[0]⟩ : ByteArray))) else (none)) else (some t613)))))))
theorem spec_DrawGetCost.mono : ∀ a0 k, LeO (spec_DrawGetCost.f k a0) (spec_DrawGetCost.f (k + 1) a0) := by
 intro a0 k
 unfold spec_DrawGetCost.f
 repeat' first
   | (with_reducible exact spec_PutCost.mono _ _ _ _)
   | (with_reducible exact spec_l1New.mono _ _)
   | (with_reducible exact spec_l1Spoil.mono _ _ _ _ _)
   | (with_reducible exact spec_l7Cost.mono _ _ _ _)
   | (with_reducible exact LeO.refl _)
   | (with_reducible exact LeO.none _)
   | (with_reducible refine LeO.ite ?_ ?_)
   | (with_reducible refine LeO.bind ?_ (fun _ => ?_))
   | exact spec_PutCost.mono _ _ _ _
   | exact spec_l1New.mono _ _
   | exact spec_l1Spoil.mono _ _ _ _ _
   | exact spec_l7Cost.mono _ _ _ _
   | exact LeO.none _
   | refine LeO.ite ?_ ?_
   | refine LeO.bind ?_ (fun _ => ?_)
set_option maxHeartbeats 8000000 in
set_option maxRecDepth 100000 in
theorem spec_DrawGetCost.calls (k : Nat) (A0 : Option Addr) (c0 : Nat) (l0 : List Int) (r : ByteArray) (w : World) (hr0 : Kd.C (Kd.int .u8) w A0 l0.length l0) (hc0 : l0.length ≤ c0) (h : spec_DrawGetCost.f k l0 = some r) :
  Calls Try.prog 16 #[.slice A0 l0.length c0] w fun e w' => e = .returned (.string r) ∧ Below w.heap.size w w' := by
 have HR0 := Aside0.mk hr0; have HC0 := Aside0.mk hc0; clear hr0 hc0; have HB := Aside0.mk (Below.refl w.heap.size w)
 have H : ((spec_l1New.f k l0).bind fun bt598 => ((spec_l7Cost.f k bt598.1 bt598.2.1 bt598.2.2).bind fun bt602 => ((spec_PutCost.f k bt602.1 bt602.2.1 bt602.2.2.1).bind fun t613 => ((spec_l1Below.f bt598.1 bt602.2.2.2.1 bt602.2.2.2.2 5).bind fun bt614 => (if bt614.1 = 0 then ((spec_l1Spoil.f k bt598.1 bt614.2.1 bt614.2.2 t613).bind fun bt617 => (some bt617.1)) else (if bt614.1 = 1 then ((spec_l1Below.f bt598.1 bt614.2.1 bt614.2.2 (wrap64 ((t613.size : Int) + 1))).bind fun bt620 => (if 0 ≤ bt620.1 then (if bt620.1 ≤ (t613.size : Int) then (some (t613.extract 0 (bt620.1 : Int).toNat)) else (none)) else (none))) else (if bt614.1 = 2 then (if t613.size + 1 ≤ 9223372036854775807 then (some (t613 ++ (⟨#[0]⟩ : ByteArray))) else (none)) else (some t613)))))))) = some r := h
 clear h; replace H := Option.bind_eq_some_iff.mp H
 obtain ⟨⟨t598, t599, t600⟩, A20, H⟩ := H
 replace H : ((spec_l7Cost.f k t598 t599 t600).bind fun bt602 => ((spec_PutCost.f k bt602.1 bt602.2.1 bt602.2.2.1).bind fun t613 => ((spec_l1Below.f t598 bt602.2.2.2.1 bt602.2.2.2.2 5).bind fun bt614 => (if bt614.1 = 0 then ((spec_l1Spoil.f k t598 bt614.2.1 bt614.2.2 t613).bind fun bt617 => (some bt617.1)) else (if bt614.1 = 1 then ((spec_l1Below.f t598 bt614.2.1 bt614.2.2 (wrap64 ((t613.size : Int) + 1))).bind fun bt620 => (if 0 ≤ bt620.1 then (if bt620.1 ≤ (t613.size : Int) then (some (t613.extract 0 (bt620.1 : Int).toNat)) else (none)) else (none))) else (if bt614.1 = 2 then (if t613.size + 1 ≤ 9223372036854775807 then (some (t613 ++ (⟨#[0]⟩ : ByteArray))) else (none)) else (some t613))))))) = some r := H
 have A2 := Aside0.mk A20; clear A20; replace H := Option.bind_eq_some_iff.mp H
 obtain ⟨⟨t602, t605, t608, t611, t612⟩, A30, H⟩ := H
 replace H : ((spec_PutCost.f k t602 t605 t608).bind fun t613 => ((spec_l1Below.f t598 t611 t612 5).bind fun bt614 => (if bt614.1 = 0 then ((spec_l1Spoil.f k t598 bt614.2.1 bt614.2.2 t613).bind fun bt617 => (some bt617.1)) else (if bt614.1 = 1 then ((spec_l1Below.f t598 bt614.2.1 bt614.2.2 (wrap64 ((t613.size : Int) + 1))).bind fun bt620 => (if 0 ≤ bt620.1 then (if bt620.1 ≤ (t613.size : Int) then (some (t613.extract 0 (bt620.1 : Int).toNat)) else (none)) else (none))) else (if bt614.1 = 2 then (if t613.size + 1 ≤ 9223372036854775807 then (some (t613 ++ (⟨#[0]⟩ : ByteArray))) else (none)) else (some t613)))))) = some r := H
 have A3 := Aside0.mk A30; clear A30; replace H := Option.bind_eq_some_iff.mp H
 obtain ⟨t613, A40, H⟩ := H
 replace H : ((spec_l1Below.f t598 t611 t612 5).bind fun bt614 => (if bt614.1 = 0 then ((spec_l1Spoil.f k t598 bt614.2.1 bt614.2.2 t613).bind fun bt617 => (some bt617.1)) else (if bt614.1 = 1 then ((spec_l1Below.f t598 bt614.2.1 bt614.2.2 (wrap64 ((t613.size : Int) + 1))).bind fun bt620 => (if 0 ≤ bt620.1 then (if bt620.1 ≤ (t613.size : Int) then (some (t613.extract 0 (bt620.1 : Int).toNat)) else (none)) else (none))) else (if bt614.1 = 2 then (if t613.size + 1 ≤ 9223372036854775807 then (some (t613 ++ (⟨#[0]⟩ : ByteArray))) else (none)) else (some t613))))) = some r := H
 have A4 := Aside0.mk A40; clear A40; replace H := Option.bind_eq_some_iff.mp H
 obtain ⟨⟨t614, t615, t616⟩, A50, H⟩ := H
 replace H : (if t614 = 0 then ((spec_l1Spoil.f k t598 t615 t616 t613).bind fun bt617 => (some bt617.1)) else (if t614 = 1 then ((spec_l1Below.f t598 t615 t616 (wrap64 ((t613.size : Int) + 1))).bind fun bt620 => (if 0 ≤ bt620.1 then (if bt620.1 ≤ (t613.size : Int) then (some (t613.extract 0 (bt620.1 : Int).toNat)) else (none)) else (none))) else (if t614 = 2 then (if t613.size + 1 ≤ 9223372036854775807 then (some (t613 ++ (⟨#[0]⟩ : ByteArray))) else (none)) else (some t613)))) = some r := H
 have A5 := Aside0.mk A50; clear A50
 by_cases c6 : t614 = 0
 ·rw [if_pos c6] at H
  have c6b0 : (t614 == 0) = true := beq_iff_eq.mpr c6
  have c6b1 : (t614 != 0) = false := bne_eq_false_iff_eq.mpr c6
  clear c6; replace H := Option.bind_eq_some_iff.mp H
  obtain ⟨⟨t617, t618, t619⟩, A70, H⟩ := H
  replace H : (some t617) = some r := H
  have A7 := Aside0.mk A70; clear A70
  obtain rfl := Option.some.inj H
  simp only [Option.some.injEq, Prod.mk.injEq] at H
  obtain ⟨rfl⟩ := H
  go_enter Try.func16, Try.ntmps16
  go_wp2_with (first | ((with_reducible refine gate_callee (f := 22) rfl ?_); refine goesM (some 6) Try.func22 #[.slice A0 l0.length c0] ?_; (with_reducible refine (spec_l1New.calls k _ _ l0 t598 t599 t600 w _ ?side1 ?side2 ?side3 A2.out).mono ?_); (case side1 => repeat (first | exact HB.out | apply below_alloc | apply pw_below_drewN | apply below_drew1)); (case side2 => exact HR0.out); (case side3 => exact HC0.out); rintro e w8 ⟨g601, rfl, hi, hb, hb2⟩; refine ⟨_, rfl, ?_⟩; have n0_ := Aside0.mk (hb); have n1_ := Aside0.mk (hi); clear HB; have HB := n0_; have HI601 := n1_; clear n0_ n1_; (try clear hb); (try clear hb2); (try clear hk); (try clear hi)) | ((with_reducible refine gate_callee (f := 37) rfl ?_); refine goesM (some 8) Try.func37 #[.pointer (some ⟨g601, 0, none⟩)] ?_; (with_reducible refine (spec_l7Cost.calls k g601 t598 t599 t600 t602 t605 t608 t611 t612 w _ ?side1 ?side2 A3.out).mono ?_); (case side1 => exact x17_upI HI601.out); (case side2 => exact x17_upBS HB.out); rintro e w9 ⟨v603, v606, v609, rfl, ho0, ho1, ho2, hi, hb, hk⟩; refine ⟨_, rfl, ?_⟩; have n0_ := Aside0.mk (Kd.R_lower ho0 (below_size (x17_upBS HB.out))); have n1_ := Aside0.mk (Kd.R_lower ho1 (below_size (x17_upBS HB.out))); have n2_ := Aside0.mk (Kd.R_lower ho2 (below_size (x17_upBS HB.out))); have n3_ := Aside0.mk (hb); have n4_ := Aside0.mk (hi); clear HB; clear HI601; have HO604 := n0_; have HO607 := n1_; have HO610 := n2_; have HB := n3_; have HI601 := n4_; clear n0_ n1_ n2_ n3_ n4_; (try clear hb); (try clear hb2); (try clear hk); (try clear hi); (try clear ho0); (try clear ho1); (try clear ho2); obtain ⟨Ao10, co10, eo10⟩ := Kd.R_slice HO604.out; subst eo10; obtain ⟨Ao11, co11, eo11⟩ := Kd.R_slice HO607.out; subst eo11; obtain ⟨Ao12, co12, eo12⟩ := Kd.R_slice HO610.out; subst eo12) | ((with_reducible refine gate_callee (f := 36) rfl ?_); refine goesM (some 9) Try.func36 #[.agg #[.slice Ao10 t602.length co10, .slice Ao11 t605.length co11, .slice Ao12 t608.length co12]] ?_; (with_reducible refine (spec_PutCost.calls k _ _ t602 _ _ t605 _ _ t608 t613 _ ?side1 ?side2 ?side3 ?side4 ?side5 ?side6 A4.out).mono ?_); (case side1 => repeat (first | exact (Kd.R_reads' HO604.out).2.2 | (with_reducible refine Kd.C_alloc ?_ _) | (with_reducible refine Kd.C_drewN ?_ _) | (with_reducible refine Kd.C_drew ?_))); (case side2 => exact (Kd.R_reads' HO604.out).2.1); (case side3 => repeat (first | exact (Kd.R_reads' HO607.out).2.2 | (with_reducible refine Kd.C_alloc ?_ _) | (with_reducible refine Kd.C_drewN ?_ _) | (with_reducible refine Kd.C_drew ?_))); (case side4 => exact (Kd.R_reads' HO607.out).2.1); (case side5 => repeat (first | exact (Kd.R_reads' HO610.out).2.2 | (with_reducible refine Kd.C_alloc ?_ _) | (with_reducible refine Kd.C_drewN ?_ _) | (with_reducible refine Kd.C_drew ?_))); (case side6 => exact (Kd.R_reads' HO610.out).2.1); rintro e w13 ⟨rfl, hb⟩; refine ⟨_, rfl, ?_⟩; have n0_ := Aside0.mk (Kd.R_below (upR HO604.out) hb); have n1_ := Aside0.mk (Kd.R_below (upR HO607.out) hb); have n2_ := Aside0.mk (Kd.R_below (upR HO610.out) hb); have n3_ := Aside0.mk (IsS66.below (x17_upI HI601.out) hb); have n4_ := Aside0.mk (below_step (x17_upBS HB.out) hb); clear HO604; clear HO607; clear HO610; clear HI601; clear HB; have HO604 := n0_; have HO607 := n1_; have HO610 := n2_; have HI601 := n3_; have HB := n4_; clear n0_ n1_ n2_ n3_ n4_; (try clear hb); (try clear hb2); (try clear hk); (try clear hi)) | ((with_reducible refine gate_callee (f := 38) rfl ?_); refine goesM (some 11) Try.func38 #[.pointer (some ⟨g601, 0, none⟩), .int .i64 5] ?_; (with_reducible refine (spec_l1Below.calls g601 t598 t611 t612 5 t614 t615 t616 w _ ?side1 ?side2 A5.out).mono ?_); (case side1 => exact x17_upI HI601.out); (case side2 => exact x17_upBS HB.out); rintro e w14 ⟨rfl, hi, hb, hk⟩; refine ⟨_, rfl, ?_⟩; have n0_ := Aside0.mk (Kd.R_mono (Kd.R_keep (IsS66.apart (show IsS66 w _ g601 t598 t611 t612 from x17_upI HI601.out) (upR HO604.out) (by decide)) hk (fun _ h => h.2)) (fun _ h => h.1)); have n1_ := Aside0.mk (Kd.R_mono (Kd.R_keep (IsS66.apart (show IsS66 w _ g601 t598 t611 t612 from x17_upI HI601.out) (upR HO607.out) (by decide)) hk (fun _ h => h.2)) (fun _ h => h.1)); have n2_ := Aside0.mk (Kd.R_mono (Kd.R_keep (IsS66.apart (show IsS66 w _ g601 t598 t611 t612 from x17_upI HI601.out) (upR HO610.out) (by decide)) hk (fun _ h => h.2)) (fun _ h => h.1)); have n3_ := Aside0.mk (hb); have n4_ := Aside0.mk (hi); clear HO604; clear HO607; clear HO610; clear HB; clear HI601; have HO604 := n0_; have HO607 := n1_; have HO610 := n2_; have HB := n3_; have HI601 := n4_; clear n0_ n1_ n2_ n3_ n4_; (try clear hb); (try clear hb2); (try clear hk); (try clear hi)) | ((with_reducible refine gate_callee (f := 39) rfl ?_); refine goesM (some 16) Try.func39 #[.pointer (some ⟨g601, 0, none⟩), .string t613] ?_; (with_reducible refine (spec_l1Spoil.calls k g601 t598 t615 t616 t613 t617 t618 t619 w _ ?side1 ?side2 A7.out).mono ?_); (case side1 => exact x17_upI HI601.out); (case side2 => exact x17_upBS HB.out); rintro e w15 ⟨rfl, hi, hb, hk⟩; refine ⟨_, rfl, ?_⟩; have n0_ := Aside0.mk (Kd.R_mono (Kd.R_keep (IsS66.apart (show IsS66 w _ g601 t598 t615 t616 from x17_upI HI601.out) (upR HO604.out) (by decide)) hk (fun _ h => h.2)) (fun _ h => h.1)); have n1_ := Aside0.mk (Kd.R_mono (Kd.R_keep (IsS66.apart (show IsS66 w _ g601 t598 t615 t616 from x17_upI HI601.out) (upR HO607.out) (by decide)) hk (fun _ h => h.2)) (fun _ h => h.1)); have n2_ := Aside0.mk (Kd.R_mono (Kd.R_keep (IsS66.apart (show IsS66 w _ g601 t598 t615 t616 from x17_upI HI601.out) (upR HO610.out) (by decide)) hk (fun _ h => h.2)) (fun _ h => h.1)); have n3_ := Aside0.mk (hb); have n4_ := Aside0.mk (hi); clear HO604; clear HO607; clear HO610; clear HB; clear HI601; have HO604 := n0_; have HO607 := n1_; have HO610 := n2_; have HB := n3_; have HI601 := n4_; clear n0_ n1_ n2_ n3_ n4_; (try clear hb); (try clear hb2); (try clear hk); (try clear hi)))
  go_ret
  exact ⟨by first | rfl | (simp [errW_none, errW_some] <;> rfl) | (simp [*, errW_none, errW_some] <;> rfl), x17_upBS HB.out⟩
 ·rw [if_neg c6] at H
  have c6b0 : (t614 == 0) = false := beq_eq_false_iff_ne.mpr c6
  have c6b1 : (t614 != 0) = true := bne_iff_ne.mpr c6
  by_cases c16 : t614 = 1
  ·rw [if_pos c16] at H
   have c16b0 : (t614 == 1) = true := beq_iff_eq.mpr c16
   have c16b1 : (t614 != 1) = false := bne_eq_false_iff_eq.mpr c16
   clear c16; replace H := Option.bind_eq_some_iff.mp H
   obtain ⟨⟨t620, t621, t622⟩, A170, H⟩ := H
   replace H : (if 0 ≤ t620 then (if t620 ≤ (t613.size : Int) then (some (t613.extract 0 (t620 : Int).toNat)) else (none)) else (none)) = some r := H
   have A17 := Aside0.mk A170; clear A170
   by_cases c18 : 0 ≤ t620
   ·rw [if_pos c18] at H
    have c18b0 := eq_true c18
    have c18b1 : decide (0 ≤ t620) = true := decide_eq_true c18
    clear c18
    by_cases c19 : t620 ≤ (t613.size : Int)
    ·rw [if_pos c19] at H
     have c19b0 := eq_true c19
     have c19b1 : decide (t620 ≤ (t613.size : Int)) = true := decide_eq_true c19
     clear c19
     obtain rfl := Option.some.inj H
     simp only [Option.some.injEq, Prod.mk.injEq] at H
     obtain ⟨rfl⟩ := H
     go_enter Try.func16, Try.ntmps16
     go_wp2_with (first | ((with_reducible refine gate_callee (f := 22) rfl ?_); refine goesM (some 6) Try.func22 #[.slice A0 l0.length c0] ?_; (with_reducible refine (spec_l1New.calls k _ _ l0 t598 t599 t600 w _ ?side1 ?side2 ?side3 A2.out).mono ?_); (case side1 => repeat (first | exact HB.out | apply below_alloc | apply pw_below_drewN | apply below_drew1)); (case side2 => exact HR0.out); (case side3 => exact HC0.out); rintro e w20 ⟨g601, rfl, hi, hb, hb2⟩; refine ⟨_, rfl, ?_⟩; have n0_ := Aside0.mk (hb); have n1_ := Aside0.mk (hi); clear HB; have HB := n0_; have HI601 := n1_; clear n0_ n1_; (try clear hb); (try clear hb2); (try clear hk); (try clear hi)) | ((with_reducible refine gate_callee (f := 37) rfl ?_); refine goesM (some 8) Try.func37 #[.pointer (some ⟨g601, 0, none⟩)] ?_; (with_reducible refine (spec_l7Cost.calls k g601 t598 t599 t600 t602 t605 t608 t611 t612 w _ ?side1 ?side2 A3.out).mono ?_); (case side1 => exact x17_upI HI601.out); (case side2 => exact x17_upBS HB.out); rintro e w21 ⟨v603, v606, v609, rfl, ho0, ho1, ho2, hi, hb, hk⟩; refine ⟨_, rfl, ?_⟩; have n0_ := Aside0.mk (Kd.R_lower ho0 (below_size (x17_upBS HB.out))); have n1_ := Aside0.mk (Kd.R_lower ho1 (below_size (x17_upBS HB.out))); have n2_ := Aside0.mk (Kd.R_lower ho2 (below_size (x17_upBS HB.out))); have n3_ := Aside0.mk (hb); have n4_ := Aside0.mk (hi); clear HB; clear HI601; have HO604 := n0_; have HO607 := n1_; have HO610 := n2_; have HB := n3_; have HI601 := n4_; clear n0_ n1_ n2_ n3_ n4_; (try clear hb); (try clear hb2); (try clear hk); (try clear hi); (try clear ho0); (try clear ho1); (try clear ho2); obtain ⟨Ao22, co22, eo22⟩ := Kd.R_slice HO604.out; subst eo22; obtain ⟨Ao23, co23, eo23⟩ := Kd.R_slice HO607.out; subst eo23; obtain ⟨Ao24, co24, eo24⟩ := Kd.R_slice HO610.out; subst eo24) | ((with_reducible refine gate_callee (f := 36) rfl ?_); refine goesM (some 9) Try.func36 #[.agg #[.slice Ao22 t602.length co22, .slice Ao23 t605.length co23, .slice Ao24 t608.length co24]] ?_; (with_reducible refine (spec_PutCost.calls k _ _ t602 _ _ t605 _ _ t608 t613 _ ?side1 ?side2 ?side3 ?side4 ?side5 ?side6 A4.out).mono ?_); (case side1 => repeat (first | exact (Kd.R_reads' HO604.out).2.2 | (with_reducible refine Kd.C_alloc ?_ _) | (with_reducible refine Kd.C_drewN ?_ _) | (with_reducible refine Kd.C_drew ?_))); (case side2 => exact (Kd.R_reads' HO604.out).2.1); (case side3 => repeat (first | exact (Kd.R_reads' HO607.out).2.2 | (with_reducible refine Kd.C_alloc ?_ _) | (with_reducible refine Kd.C_drewN ?_ _) | (with_reducible refine Kd.C_drew ?_))); (case side4 => exact (Kd.R_reads' HO607.out).2.1); (case side5 => repeat (first | exact (Kd.R_reads' HO610.out).2.2 | (with_reducible refine Kd.C_alloc ?_ _) | (with_reducible refine Kd.C_drewN ?_ _) | (with_reducible refine Kd.C_drew ?_))); (case side6 => exact (Kd.R_reads' HO610.out).2.1); rintro e w25 ⟨rfl, hb⟩; refine ⟨_, rfl, ?_⟩; have n0_ := Aside0.mk (Kd.R_below (upR HO604.out) hb); have n1_ := Aside0.mk (Kd.R_below (upR HO607.out) hb); have n2_ := Aside0.mk (Kd.R_below (upR HO610.out) hb); have n3_ := Aside0.mk (IsS66.below (x17_upI HI601.out) hb); have n4_ := Aside0.mk (below_step (x17_upBS HB.out) hb); clear HO604; clear HO607; clear HO610; clear HI601; clear HB; have HO604 := n0_; have HO607 := n1_; have HO610 := n2_; have HI601 := n3_; have HB := n4_; clear n0_ n1_ n2_ n3_ n4_; (try clear hb); (try clear hb2); (try clear hk); (try clear hi)) | ((with_reducible refine gate_callee (f := 38) rfl ?_); refine goesM (some 11) Try.func38 #[.pointer (some ⟨g601, 0, none⟩), .int .i64 5] ?_; (with_reducible refine (spec_l1Below.calls g601 t598 t611 t612 5 t614 t615 t616 w _ ?side1 ?side2 A5.out).mono ?_); (case side1 => exact x17_upI HI601.out); (case side2 => exact x17_upBS HB.out); rintro e w26 ⟨rfl, hi, hb, hk⟩; refine ⟨_, rfl, ?_⟩; have n0_ := Aside0.mk (Kd.R_mono (Kd.R_keep (IsS66.apart (show IsS66 w _ g601 t598 t611 t612 from x17_upI HI601.out) (upR HO604.out) (by decide)) hk (fun _ h => h.2)) (fun _ h => h.1)); have n1_ := Aside0.mk (Kd.R_mono (Kd.R_keep (IsS66.apart (show IsS66 w _ g601 t598 t611 t612 from x17_upI HI601.out) (upR HO607.out) (by decide)) hk (fun _ h => h.2)) (fun _ h => h.1)); have n2_ := Aside0.mk (Kd.R_mono (Kd.R_keep (IsS66.apart (show IsS66 w _ g601 t598 t611 t612 from x17_upI HI601.out) (upR HO610.out) (by decide)) hk (fun _ h => h.2)) (fun _ h => h.1)); have n3_ := Aside0.mk (hb); have n4_ := Aside0.mk (hi); clear HO604; clear HO607; clear HO610; clear HB; clear HI601; have HO604 := n0_; have HO607 := n1_; have HO610 := n2_; have HB := n3_; have HI601 := n4_; clear n0_ n1_ n2_ n3_ n4_; (try clear hb); (try clear hb2); (try clear hk); (try clear hi)) | ((with_reducible refine gate_callee (f := 38) rfl ?_); refine goesM (some 24) Try.func38 #[.pointer (some ⟨g601, 0, none⟩), .int .i64 (wrap64 ((t613.size : Int) + 1))] ?_; (with_reducible refine (spec_l1Below.calls g601 t598 t615 t616 (wrap64 ((t613.size : Int) + 1)) t620 t621 t622 w _ ?side1 ?side2 A17.out).mono ?_); (case side1 => exact x17_upI HI601.out); (case side2 => exact x17_upBS HB.out); rintro e w27 ⟨rfl, hi, hb, hk⟩; refine ⟨_, rfl, ?_⟩; have n0_ := Aside0.mk (Kd.R_mono (Kd.R_keep (IsS66.apart (show IsS66 w _ g601 t598 t615 t616 from x17_upI HI601.out) (upR HO604.out) (by decide)) hk (fun _ h => h.2)) (fun _ h => h.1)); have n1_ := Aside0.mk (Kd.R_mono (Kd.R_keep (IsS66.apart (show IsS66 w _ g601 t598 t615 t616 from x17_upI HI601.out) (upR HO607.out) (by decide)) hk (fun _ h => h.2)) (fun _ h => h.1)); have n2_ := Aside0.mk (Kd.R_mono (Kd.R_keep (IsS66.apart (show IsS66 w _ g601 t598 t615 t616 from x17_upI HI601.out) (upR HO610.out) (by decide)) hk (fun _ h => h.2)) (fun _ h => h.1)); have n3_ := Aside0.mk (hb); have n4_ := Aside0.mk (hi); clear HO604; clear HO607; clear HO610; clear HB; clear HI601; have HO604 := n0_; have HO607 := n1_; have HO610 := n2_; have HB := n3_; have HI601 := n4_; clear n0_ n1_ n2_ n3_ n4_; (try clear hb); (try clear hb2); (try clear hk); (try clear hi)))
     go_ret
     exact ⟨by first | rfl | (simp [errW_none, errW_some] <;> rfl) | (simp [*, errW_none, errW_some] <;> rfl), x17_upBS HB.out⟩
    ·rw [if_neg c19] at H
     exact absurd H (by simp)
   ·rw [if_neg c18] at H
    exact absurd H (by simp)
  ·rw [if_neg c16] at H
   have c16b0 : (t614 == 1) = false := beq_eq_false_iff_ne.mpr c16
   have c16b1 : (t614 != 1) = true := bne_iff_ne.mpr c16
   by_cases c28 : t614 = 2
   ·rw [if_pos c28] at H
    have c28b0 : (t614 == 2) = true := beq_iff_eq.mpr c28
    have c28b1 : (t614 != 2) = false := bne_eq_false_iff_eq.mpr c28
    clear c28
    by_cases c29 : t613.size + 1 ≤ 9223372036854775807
    ·rw [if_pos c29] at H
     have c29b0 := eq_true c29
     have c29b1 : decide (t613.size + 1 ≤ 9223372036854775807) = true := decide_eq_true c29
     try have c29b2 : (9223372036854775807 < t613.size + 1) = False := eq_false (Nat.not_lt.2 c29)
     obtain rfl := Option.some.inj H
     simp only [Option.some.injEq, Prod.mk.injEq] at H
     obtain ⟨rfl⟩ := H
     go_enter Try.func16, Try.ntmps16
     go_wp2_with (first | ((with_reducible refine gate_callee (f := 22) rfl ?_); refine goesM (some 6) Try.func22 #[.slice A0 l0.length c0] ?_; (with_reducible refine (spec_l1New.calls k _ _ l0 t598 t599 t600 w _ ?side1 ?side2 ?side3 A2.out).mono ?_); (case side1 => repeat (first | exact HB.out | apply below_alloc | apply pw_below_drewN | apply below_drew1)); (case side2 => exact HR0.out); (case side3 => exact HC0.out); rintro e w30 ⟨g601, rfl, hi, hb, hb2⟩; refine ⟨_, rfl, ?_⟩; have n0_ := Aside0.mk (hb); have n1_ := Aside0.mk (hi); clear HB; have HB := n0_; have HI601 := n1_; clear n0_ n1_; (try clear hb); (try clear hb2); (try clear hk); (try clear hi)) | ((with_reducible refine gate_callee (f := 37) rfl ?_); refine goesM (some 8) Try.func37 #[.pointer (some ⟨g601, 0, none⟩)] ?_; (with_reducible refine (spec_l7Cost.calls k g601 t598 t599 t600 t602 t605 t608 t611 t612 w _ ?side1 ?side2 A3.out).mono ?_); (case side1 => exact x17_upI HI601.out); (case side2 => exact x17_upBS HB.out); rintro e w31 ⟨v603, v606, v609, rfl, ho0, ho1, ho2, hi, hb, hk⟩; refine ⟨_, rfl, ?_⟩; have n0_ := Aside0.mk (Kd.R_lower ho0 (below_size (x17_upBS HB.out))); have n1_ := Aside0.mk (Kd.R_lower ho1 (below_size (x17_upBS HB.out))); have n2_ := Aside0.mk (Kd.R_lower ho2 (below_size (x17_upBS HB.out))); have n3_ := Aside0.mk (hb); have n4_ := Aside0.mk (hi); clear HB; clear HI601; have HO604 := n0_; have HO607 := n1_; have HO610 := n2_; have HB := n3_; have HI601 := n4_; clear n0_ n1_ n2_ n3_ n4_; (try clear hb); (try clear hb2); (try clear hk); (try clear hi); (try clear ho0); (try clear ho1); (try clear ho2); obtain ⟨Ao32, co32, eo32⟩ := Kd.R_slice HO604.out; subst eo32; obtain ⟨Ao33, co33, eo33⟩ := Kd.R_slice HO607.out; subst eo33; obtain ⟨Ao34, co34, eo34⟩ := Kd.R_slice HO610.out; subst eo34) | ((with_reducible refine gate_callee (f := 36) rfl ?_); refine goesM (some 9) Try.func36 #[.agg #[.slice Ao32 t602.length co32, .slice Ao33 t605.length co33, .slice Ao34 t608.length co34]] ?_; (with_reducible refine (spec_PutCost.calls k _ _ t602 _ _ t605 _ _ t608 t613 _ ?side1 ?side2 ?side3 ?side4 ?side5 ?side6 A4.out).mono ?_); (case side1 => repeat (first | exact (Kd.R_reads' HO604.out).2.2 | (with_reducible refine Kd.C_alloc ?_ _) | (with_reducible refine Kd.C_drewN ?_ _) | (with_reducible refine Kd.C_drew ?_))); (case side2 => exact (Kd.R_reads' HO604.out).2.1); (case side3 => repeat (first | exact (Kd.R_reads' HO607.out).2.2 | (with_reducible refine Kd.C_alloc ?_ _) | (with_reducible refine Kd.C_drewN ?_ _) | (with_reducible refine Kd.C_drew ?_))); (case side4 => exact (Kd.R_reads' HO607.out).2.1); (case side5 => repeat (first | exact (Kd.R_reads' HO610.out).2.2 | (with_reducible refine Kd.C_alloc ?_ _) | (with_reducible refine Kd.C_drewN ?_ _) | (with_reducible refine Kd.C_drew ?_))); (case side6 => exact (Kd.R_reads' HO610.out).2.1); rintro e w35 ⟨rfl, hb⟩; refine ⟨_, rfl, ?_⟩; have n0_ := Aside0.mk (Kd.R_below (upR HO604.out) hb); have n1_ := Aside0.mk (Kd.R_below (upR HO607.out) hb); have n2_ := Aside0.mk (Kd.R_below (upR HO610.out) hb); have n3_ := Aside0.mk (IsS66.below (x17_upI HI601.out) hb); have n4_ := Aside0.mk (below_step (x17_upBS HB.out) hb); clear HO604; clear HO607; clear HO610; clear HI601; clear HB; have HO604 := n0_; have HO607 := n1_; have HO610 := n2_; have HI601 := n3_; have HB := n4_; clear n0_ n1_ n2_ n3_ n4_; (try clear hb); (try clear hb2); (try clear hk); (try clear hi)) | ((with_reducible refine gate_callee (f := 38) rfl ?_); refine goesM (some 11) Try.func38 #[.pointer (some ⟨g601, 0, none⟩), .int .i64 5] ?_; (with_reducible refine (spec_l1Below.calls g601 t598 t611 t612 5 t614 t615 t616 w _ ?side1 ?side2 A5.out).mono ?_); (case side1 => exact x17_upI HI601.out); (case side2 => exact x17_upBS HB.out); rintro e w36 ⟨rfl, hi, hb, hk⟩; refine ⟨_, rfl, ?_⟩; have n0_ := Aside0.mk (Kd.R_mono (Kd.R_keep (IsS66.apart (show IsS66 w _ g601 t598 t611 t612 from x17_upI HI601.out) (upR HO604.out) (by decide)) hk (fun _ h => h.2)) (fun _ h => h.1)); have n1_ := Aside0.mk (Kd.R_mono (Kd.R_keep (IsS66.apart (show IsS66 w _ g601 t598 t611 t612 from x17_upI HI601.out) (upR HO607.out) (by decide)) hk (fun _ h => h.2)) (fun _ h => h.1)); have n2_ := Aside0.mk (Kd.R_mono (Kd.R_keep (IsS66.apart (show IsS66 w _ g601 t598 t611 t612 from x17_upI HI601.out) (upR HO610.out) (by decide)) hk (fun _ h => h.2)) (fun _ h => h.1)); have n3_ := Aside0.mk (hb); have n4_ := Aside0.mk (hi); clear HO604; clear HO607; clear HO610; clear HB; clear HI601; have HO604 := n0_; have HO607 := n1_; have HO610 := n2_; have HB := n3_; have HI601 := n4_; clear n0_ n1_ n2_ n3_ n4_; (try clear hb); (try clear hb2); (try clear hk); (try clear hi)))
     go_ret
     exact ⟨by first | rfl | (simp [errW_none, errW_some] <;> rfl) | (simp [*, errW_none, errW_some] <;> rfl), x17_upBS HB.out⟩
    ·rw [if_neg c29] at H
     exact absurd H (by simp)
   ·rw [if_neg c28] at H
    have c28b0 : (t614 == 2) = false := beq_eq_false_iff_ne.mpr c28
    have c28b1 : (t614 != 2) = true := bne_iff_ne.mpr c28
    obtain rfl := Option.some.inj H
    simp only [Option.some.injEq, Prod.mk.injEq] at H
    obtain ⟨rfl⟩ := H
    go_enter Try.func16, Try.ntmps16
    go_wp2_with (first | ((with_reducible refine gate_callee (f := 22) rfl ?_); refine goesM (some 6) Try.func22 #[.slice A0 l0.length c0] ?_; (with_reducible refine (spec_l1New.calls k _ _ l0 t598 t599 t600 w _ ?side1 ?side2 ?side3 A2.out).mono ?_); (case side1 => repeat (first | exact HB.out | apply below_alloc | apply pw_below_drewN | apply below_drew1)); (case side2 => exact HR0.out); (case side3 => exact HC0.out); rintro e w37 ⟨g601, rfl, hi, hb, hb2⟩; refine ⟨_, rfl, ?_⟩; have n0_ := Aside0.mk (hb); have n1_ := Aside0.mk (hi); clear HB; have HB := n0_; have HI601 := n1_; clear n0_ n1_; (try clear hb); (try clear hb2); (try clear hk); (try clear hi)) | ((with_reducible refine gate_callee (f := 37) rfl ?_); refine goesM (some 8) Try.func37 #[.pointer (some ⟨g601, 0, none⟩)] ?_; (with_reducible refine (spec_l7Cost.calls k g601 t598 t599 t600 t602 t605 t608 t611 t612 w _ ?side1 ?side2 A3.out).mono ?_); (case side1 => exact x17_upI HI601.out); (case side2 => exact x17_upBS HB.out); rintro e w38 ⟨v603, v606, v609, rfl, ho0, ho1, ho2, hi, hb, hk⟩; refine ⟨_, rfl, ?_⟩; have n0_ := Aside0.mk (Kd.R_lower ho0 (below_size (x17_upBS HB.out))); have n1_ := Aside0.mk (Kd.R_lower ho1 (below_size (x17_upBS HB.out))); have n2_ := Aside0.mk (Kd.R_lower ho2 (below_size (x17_upBS HB.out))); have n3_ := Aside0.mk (hb); have n4_ := Aside0.mk (hi); clear HB; clear HI601; have HO604 := n0_; have HO607 := n1_; have HO610 := n2_; have HB := n3_; have HI601 := n4_; clear n0_ n1_ n2_ n3_ n4_; (try clear hb); (try clear hb2); (try clear hk); (try clear hi); (try clear ho0); (try clear ho1); (try clear ho2); obtain ⟨Ao39, co39, eo39⟩ := Kd.R_slice HO604.out; subst eo39; obtain ⟨Ao40, co40, eo40⟩ := Kd.R_slice HO607.out; subst eo40; obtain ⟨Ao41, co41, eo41⟩ := Kd.R_slice HO610.out; subst eo41) | ((with_reducible refine gate_callee (f := 36) rfl ?_); refine goesM (some 9) Try.func36 #[.agg #[.slice Ao39 t602.length co39, .slice Ao40 t605.length co40, .slice Ao41 t608.length co41]] ?_; (with_reducible refine (spec_PutCost.calls k _ _ t602 _ _ t605 _ _ t608 t613 _ ?side1 ?side2 ?side3 ?side4 ?side5 ?side6 A4.out).mono ?_); (case side1 => repeat (first | exact (Kd.R_reads' HO604.out).2.2 | (with_reducible refine Kd.C_alloc ?_ _) | (with_reducible refine Kd.C_drewN ?_ _) | (with_reducible refine Kd.C_drew ?_))); (case side2 => exact (Kd.R_reads' HO604.out).2.1); (case side3 => repeat (first | exact (Kd.R_reads' HO607.out).2.2 | (with_reducible refine Kd.C_alloc ?_ _) | (with_reducible refine Kd.C_drewN ?_ _) | (with_reducible refine Kd.C_drew ?_))); (case side4 => exact (Kd.R_reads' HO607.out).2.1); (case side5 => repeat (first | exact (Kd.R_reads' HO610.out).2.2 | (with_reducible refine Kd.C_alloc ?_ _) | (with_reducible refine Kd.C_drewN ?_ _) | (with_reducible refine Kd.C_drew ?_))); (case side6 => exact (Kd.R_reads' HO610.out).2.1); rintro e w42 ⟨rfl, hb⟩; refine ⟨_, rfl, ?_⟩; have n0_ := Aside0.mk (Kd.R_below (upR HO604.out) hb); have n1_ := Aside0.mk (Kd.R_below (upR HO607.out) hb); have n2_ := Aside0.mk (Kd.R_below (upR HO610.out) hb); have n3_ := Aside0.mk (IsS66.below (x17_upI HI601.out) hb); have n4_ := Aside0.mk (below_step (x17_upBS HB.out) hb); clear HO604; clear HO607; clear HO610; clear HI601; clear HB; have HO604 := n0_; have HO607 := n1_; have HO610 := n2_; have HI601 := n3_; have HB := n4_; clear n0_ n1_ n2_ n3_ n4_; (try clear hb); (try clear hb2); (try clear hk); (try clear hi)) | ((with_reducible refine gate_callee (f := 38) rfl ?_); refine goesM (some 11) Try.func38 #[.pointer (some ⟨g601, 0, none⟩), .int .i64 5] ?_; (with_reducible refine (spec_l1Below.calls g601 t598 t611 t612 5 t614 t615 t616 w _ ?side1 ?side2 A5.out).mono ?_); (case side1 => exact x17_upI HI601.out); (case side2 => exact x17_upBS HB.out); rintro e w43 ⟨rfl, hi, hb, hk⟩; refine ⟨_, rfl, ?_⟩; have n0_ := Aside0.mk (Kd.R_mono (Kd.R_keep (IsS66.apart (show IsS66 w _ g601 t598 t611 t612 from x17_upI HI601.out) (upR HO604.out) (by decide)) hk (fun _ h => h.2)) (fun _ h => h.1)); have n1_ := Aside0.mk (Kd.R_mono (Kd.R_keep (IsS66.apart (show IsS66 w _ g601 t598 t611 t612 from x17_upI HI601.out) (upR HO607.out) (by decide)) hk (fun _ h => h.2)) (fun _ h => h.1)); have n2_ := Aside0.mk (Kd.R_mono (Kd.R_keep (IsS66.apart (show IsS66 w _ g601 t598 t611 t612 from x17_upI HI601.out) (upR HO610.out) (by decide)) hk (fun _ h => h.2)) (fun _ h => h.1)); have n3_ := Aside0.mk (hb); have n4_ := Aside0.mk (hi); clear HO604; clear HO607; clear HO610; clear HB; clear HI601; have HO604 := n0_; have HO607 := n1_; have HO610 := n2_; have HB := n3_; have HI601 := n4_; clear n0_ n1_ n2_ n3_ n4_; (try clear hb); (try clear hb2); (try clear hk); (try clear hi)))
    go_ret
    exact ⟨by first | rfl | (simp [errW_none, errW_some] <;> rfl) | (simp [*, errW_none, errW_some] <;> rfl), x17_upBS HB.out⟩

end Go.Proofs.Ytpkokfffjgdjoaa.HFnBytes
