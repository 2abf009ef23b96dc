/- Functions of the program and what each call of them comes to, for the law FnBytes; written by a program of this session. No condition beyond those of each theorem. -/
import Derived.Test.YtpkokfffjgdjoaaHFnBytesx0
import Derived.Test.YtpkokfffjgdjoaaHFnBytesx2
import Derived.Test.YtpkokfffjgdjoaaHFnBytesx3
import Derived.Test.YtpkokfffjgdjoaaHFnBytesx5
import Derived.Test.YtpkokfffjgdjoaaHFnBytesx6
import Derived.Test.YtpkokfffjgdjoaaHFnBytesx7
import Derived.Test.YtpkokfffjgdjoaaHFnBytesx8
namespace Go.Proofs.Ytpkokfffjgdjoaa.HFnBytes
open Go.RowKit Go.Proofs.YtpkokfffjgdjoaaW.PrintWords Go.Proofs.YtpkokfffjgdjoaaW.PrintLast Go.Proofs.YtpkokfffjgdjoaaW.PrintMore
attribute [local go_sem] max2_int min2_int max_two min_two max_three min_three max_four min_four   -- for this text's walks alone
open List renaming setIfInBounds_toArray → s1_, set_cons_zero → s2_, set_cons_succ → s3_
set_option linter.unusedVariables false
set_option linter.unusedSimpArgs false

abbrev bs9_0 : Array Bool := #[false, false, false, false, false, false, false, false, false, false, false, false, false, false, false, false]
abbrev bs9_1 : Array Bool := #[true, false, false, false, false, false, false, false, false, false, false, false, false, false, false, false]
abbrev bs9_2 : Array Bool := #[true, true, false, false, false, false, false, false, false, false, false, false, false, false, false, false]
abbrev bs9_3 : Array Bool := #[true, true, true, false, false, false, false, false, false, false, false, false, false, false, false, false]
abbrev bs9_4 : Array Bool := #[true, true, true, true, false, false, false, false, false, false, false, false, false, false, false, false]
abbrev bs9_5 : Array Bool := #[true, true, true, true, true, false, false, false, false, false, false, false, false, false, false, false]
abbrev bs9_6 : Array Bool := #[true, true, true, true, true, false, false, false, true, false, false, false, false, false, false, false]
abbrev bs9_7 : Array Bool := #[true, true, true, true, true, false, false, false, true, true, false, false, false, false, false, false]
abbrev bs9_8 : Array Bool := #[true, true, true, true, true, false, false, false, true, true, true, false, false, false, false, false]
abbrev bs9_9 : Array Bool := #[true, true, true, true, true, false, false, false, true, true, true, true, false, false, false, false]
abbrev bs9_10 : Array Bool := #[true, true, true, true, true, true, false, false, true, true, true, true, false, false, false, false]
abbrev bs9_11 : Array Bool := #[true, true, true, true, true, true, false, false, true, true, true, true, true, false, false, false]
abbrev bs9_12 : Array Bool := #[true, true, true, true, true, true, true, false, true, true, true, true, true, false, false, false]
abbrev bs9_13 : Array Bool := #[true, true, true, true, true, true, true, true, true, true, true, true, true, false, false, false]
abbrev bs9_14 : Array Bool := #[true, true, true, true, true, true, true, true, true, true, true, true, true, true, false, false]
abbrev bs9_15 : Array Bool := #[true, true, true, true, true, true, true, true, true, true, true, true, true, true, true, false]
abbrev bs9_16 : Array Bool := #[true, true, true, true, true, true, true, true, true, true, true, true, true, true, true, true]
section
variable {P : Program}
theorem x9_upI {p q : Prop} (h : p) (f : p → q := by intro h_; repeat (first | (with_reducible first | exact h_ | apply IsS66.alloc | apply IsS66.drewN | apply IsS66.drew | apply IsS66.set_1 | apply IsS66.set_2 | refine IsS66.far ?_ (Aside0.out (by assumption)) _) | exact h_)) : q := f h
theorem x9_upBS {p q : Prop} (h : p) (f : p → q := by intro h_; repeat (first | (with_reducible first | exact h_ | apply below_alloc | apply pw_below_drewN | apply below_drew1 | refine below_set ?_ (IsS66.ge (Aside0.out (by assumption))) | refine below_set ?_ (Aside0.out (by assumption)) | refine below_set ?_ (Nat.le_trans (Aside0.out (by assumption)) (Aside0.out (by assumption)))) | exact h_)) : q := f h
end
/-! ### spec_Var: function 54 -/
def spec_Var.l0 : Nat → Int → List Int → Option (ByteArray)
 | 0, _, _ => none
 | k + 1, x0, x3 => if x0 ≥ 128 then (if x3.length < 140737488355328 then (spec_Var.l0 k (wrap64 (Int.tdiv x0 128)) (x3 ++ [(wrap64 (128 + (Int.tmod x0 128))) % 256])) else (none)) else (if x3.length < 140737488355328 then (some (strOfNums (x3 ++ [(x0) % 256]))) else (none))
def spec_Var.f (k : Nat) (a0 : Int) : Option (ByteArray) := (spec_l1In.f a0 0 562949953421311).bind fun t341 => (if t341 = true then (spec_Var.l0 k a0 (([] : List Int))) else (some (⟨#[]⟩ : ByteArray)))
theorem spec_Var.mono_l : ∀ k, (∀ y0 y1, LeO (spec_Var.l0 k y0 y1) (spec_Var.l0 (k + 1) y0 y1))
 | 0 => fun _ _ r h => by simp [spec_Var.l0] at h
 | k + 1 => by
  have ih0 := spec_Var.mono_l k
  ·intro y0 y1
   unfold spec_Var.l0
   repeat' first
   | (with_reducible exact ih0 _ _)
   | (with_reducible exact LeO.refl _)
   | (with_reducible exact LeO.none _)
   | (with_reducible refine LeO.ite ?_ ?_)
   | (with_reducible refine LeO.bind ?_ (fun _ => ?_))
   | exact ih0 _ _
   | exact LeO.none _
   | refine LeO.ite ?_ ?_
   | refine LeO.bind ?_ (fun _ => ?_)
theorem spec_Var.mono : ∀ a0 k, LeO (spec_Var.f k a0) (spec_Var.f (k + 1) a0) := by
 intro a0 k
 have ih0 := spec_Var.mono_l k
 unfold spec_Var.f
 repeat' first
   | (with_reducible exact ih0 _ _)
   | (with_reducible exact LeO.refl _)
   | (with_reducible exact LeO.none _)
   | (with_reducible refine LeO.ite ?_ ?_)
   | (with_reducible refine LeO.bind ?_ (fun _ => ?_))
   | exact ih0 _ _
   | exact LeO.none _
   | refine LeO.ite ?_ ?_
   | refine LeO.bind ?_ (fun _ => ?_)
set_option maxHeartbeats 8000000 in
set_option maxRecDepth 100000 in
theorem spec_Var.calls (k : Nat) (a0 : Int) (r : ByteArray) (w : World) (h : spec_Var.f k a0 = some r) :
  Calls Try.prog 54 #[.int .i64 a0] w fun e w' => e = .returned (.string r) ∧ Below w.heap.size w w' := by
 have HB := Aside0.mk (Below.refl w.heap.size w)
 have H : ((spec_l1In.f a0 0 562949953421311).bind fun t341 => (if t341 = true then (spec_Var.l0 k a0 (([] : List Int))) else (some (⟨#[]⟩ : ByteArray)))) = some r := h
 clear h; replace H := Option.bind_eq_some_iff.mp H
 obtain ⟨t341, A20, H⟩ := H
 replace H : (if t341 = true then (spec_Var.l0 k a0 (([] : List Int))) else (some (⟨#[]⟩ : ByteArray))) = some r := H
 have A2 := Aside0.mk A20; clear A20
 by_cases c3 : t341 = true
 ·subst c3
  have H1 : (spec_Var.l0 k a0 (([] : List Int))) = some r := by rw [if_pos rfl] at H; exact H
  clear H; have H := H1; clear H1
  obtain ⟨y342, hy342⟩ : ∃ y_ : List Int, y_ = (([] : List Int)) := ⟨_, rfl⟩
  replace H : (spec_Var.l0 k a0 y342) = some r := by first | (rw [hy342]; with_reducible exact H) | (have H2_ := (Option.bind_some _ _).symm.trans H; rw [hy342]; with_reducible exact H2_) | (have H2_ := (Option.bind_some _ _).symm.trans H; with_reducible exact H2_) | with_reducible exact H | (rw [hy342]; exact H) | exact H
  have Ny342 := Aside0.mk hy342; clear hy342; have H' := Aside0.mk H; clear H
  go_enter Try.func54, Try.ntmps54
  go_wp2_with (first | ((with_reducible refine gate_callee (f := 29) rfl ?_); refine goesM (some 5) Try.func29 #[.int .i64 a0, .int .i64 0, .int .i64 562949953421311] ?_; (with_reducible refine (spec_l1In.calls a0 0 562949953421311 true _ A2.out).mono ?_); rintro e w' ⟨rfl, ⟨nd, rfl⟩⟩; refine ⟨_, rfl, ?_⟩) | ((with_reducible refine gate_dst (N := 7) rfl ?_); refine Kd.R_lit (Kd.int .u8) _ 5 ?hg (N := 7) ?hd (xs := ([] : List Int)) (inner := []) (ok := fun _ => True) (okp := fun _ => True) ?hr ?hp (fun _ hk => hk) trivial (Below.refl _ _) (Nat.le_refl _) (by simp) ?_; (case hd => rfl); (case hg => rfl); (case hr => first | (go_simp; done) | (go_simp; rfl)); (case hp => exact (Reps.none _ _)); intro v343 w4 ho5 hb hg_ hnew_; clear hg_ hnew_; (first | rw [← Ny342.out] at ho5 | (simp only [Int.reduceToNat] at ho5; rw [← Ny342.out] at ho5)); have n0_ := Aside0.mk (Kd.R_lower ho5 (below_size (upB HB.out))); have n1_ := Aside0.mk (below_step (upB HB.out) hb); clear HB; have HO344 := n0_; have HB := n1_; clear n0_ n1_; clear hb ho5))
  go_loopg [0, 3] k (fun kq v0 v3 w' => ∃ (x0_1 : Int) (x3_1 : List Int), v0 = .int .i64 x0_1 ∧ Aside0 (spec_Var.l0 kq x0_1 x3_1 = some r) ∧ Aside0 (kq ≤ k) ∧ Aside0 (Kd.R (Kd.int .u8) 5 w' w.heap.size (fun _ => True) v3 x3_1) ∧ Aside0 (Below w.heap.size w w'))
  case atStart => exact ⟨(a0), (y342), (by first | rfl | (simp; done) | (simp [*]; done)), H', ⟨Nat.le_refl _⟩, ⟨by (with_reducible repeat (first | apply Kd.R_alloc | apply Kd.R_drewN | apply Kd.R_drew)); exact HO344.out⟩, ⟨by repeat (first | exact HB.out | apply below_alloc | apply pw_below_drewN | apply below_drew1)⟩⟩
  case round =>
   clear H'
   try clear c2
   try clear p2
   try clear c3
   try clear c5
   obtain ⟨x0_1, x3_1, rfl, HA, HK1, HO_3, HB⟩ := hrel
   cases gk with
   | zero => exact absurd HA.out (by simp [spec_Var.l0])
   | succ k1 =>
    have H := HA.out; clear HA
    simp only [spec_Var.l0] at H
    by_cases c6 : x0_1 ≥ 128
    ·rw [if_pos c6] at H
     have c6b0 : decide (128 ≤ x0_1) = true := decide_eq_true c6
     clear c6
     by_cases c7 : x3_1.length < 140737488355328
     ·rw [if_pos c7] at H
      have LMc7 := Aside0.mk c7; clear c7
      obtain ⟨y345, hy345⟩ : ∃ y_ : List Int, y_ = (x3_1 ++ [(wrap64 (128 + (Int.tmod x0_1 128))) % 256]) := ⟨_, rfl⟩
      replace H : (spec_Var.l0 k1 (wrap64 (Int.tdiv x0_1 128)) y345) = some r := by first | (rw [hy345]; with_reducible exact H) | (have H2_ := (Option.bind_some _ _).symm.trans H; rw [hy345]; with_reducible exact H2_) | (have H2_ := (Option.bind_some _ _).symm.trans H; with_reducible exact H2_) | with_reducible exact H | (rw [hy345]; exact H) | exact H
      have Ny345 := Aside0.mk hy345; clear hy345; have H' := Aside0.mk H; clear H
      go_wp2_with (first | ((with_reducible refine gate_builtin (b := .append) (xs := #[.tmp 10, .tmp 15]) rfl ?_); at_builtin; refine Kd.R_append (Kd.int .u8) (w0 := w) w.heap.size rfl (.tmp 10) (.tmp 15) 22 5 (.int .u8 0) 1 rfl Try.underlying22 info5 rfl (by decide) (by omega) u3 x3_1 ((wrap64 (128 + (Int.tmod x0_1 128))) % 256) [.int .u8 ((wrap64 (128 + (Int.tmod x0_1 128))) % 256)] (fun _ => True) (fun _ => False) rfl rfl ?aP (fun _ hk => hk.elim) ?aF ?aO ?aB ?aS ?aL ?_; (case aP => exact rfl); (case aB => exact (upB HB.out)); (case aF => exact (fun _ _ => trivial)); (case aO => exact (upR HO_3.out)); (case aS => exact (below_size (upB HB.out))); (case aL => have := LMc7.out; omega); intro v346 w8 ho hb hg hat; rw [← Ny345.out] at ho; have n0_ := Aside0.mk (hb); have n1_ := Aside0.mk (ho); clear HB; clear HO_3; have HB := n0_; have HO347 := n1_; clear n0_ n1_; clear ho hb hg hat))
      go_roundg k1
      case measure => have := HK1.out; omega
      case rel => exact ⟨(wrap64 (Int.tdiv x0_1 128)), (y345), (by first | rfl | (simp; done) | (simp [*]; done)), H', ⟨by have := HK1.out; omega⟩, ⟨by (with_reducible repeat (first | apply Kd.R_alloc | apply Kd.R_drewN | apply Kd.R_drew)); exact HO347.out⟩, ⟨by repeat (first | exact HB.out | apply below_alloc | apply pw_below_drewN | apply below_drew1)⟩⟩
     ·rw [if_neg c7] at H
      exact absurd H (by simp)
    ·rw [if_neg c6] at H
     have c6b0 : decide (128 ≤ x0_1) = false := decide_eq_false c6
     clear c6
     by_cases c9 : x3_1.length < 140737488355328
     ·rw [if_pos c9] at H
      have LMc9 := Aside0.mk c9; clear c9
      obtain ⟨y348, hy348⟩ : ∃ y_ : List Int, y_ = (x3_1 ++ [(x0_1) % 256]) := ⟨_, rfl⟩
      replace H : (some (strOfNums y348)) = some r := by first | (rw [hy348]; with_reducible exact H) | (have H2_ := (Option.bind_some _ _).symm.trans H; rw [hy348]; with_reducible exact H2_) | (have H2_ := (Option.bind_some _ _).symm.trans H; with_reducible exact H2_) | with_reducible exact H | (rw [hy348]; exact H) | exact H
      have Ny348 := Aside0.mk hy348; clear hy348
      obtain rfl := Option.some.inj H
      simp only [Option.some.injEq, Prod.mk.injEq] at H
      obtain ⟨rfl⟩ := H
      go_wp2_with (first | ((with_reducible refine gate_builtin (b := .append) (xs := #[.tmp 19, .tmp 22]) rfl ?_); at_builtin; refine Kd.R_append (Kd.int .u8) (w0 := w) w.heap.size rfl (.tmp 19) (.tmp 22) 22 5 (.int .u8 0) 1 rfl Try.underlying22 info5 rfl (by decide) (by omega) u3 x3_1 ((x0_1) % 256) [.int .u8 ((x0_1) % 256)] (fun _ => True) (fun _ => False) rfl rfl ?aP (fun _ hk => hk.elim) ?aF ?aO ?aB ?aS ?aL ?_; (case aP => exact rfl); (case aB => exact (upB HB.out)); (case aF => exact (fun _ _ => trivial)); (case aO => exact (upR HO_3.out)); (case aS => exact (below_size (upB HB.out))); (case aL => have := LMc9.out; omega); intro v349 w10 ho hb hg hat; rw [← Ny348.out] at ho; have n0_ := Aside0.mk (hb); have n1_ := Aside0.mk (ho); clear HB; clear HO_3; have HB := n0_; have HO350 := n1_; clear n0_ n1_; clear ho hb hg hat; have hcv11 := own_string (P := Try.prog) Try.underlying22 Try.underlying5 Try.underlying9 (Kd.own_of_R HO350.out)))
      go_ret
      exact ⟨by first | rfl | (simp [errW_none, errW_some] <;> rfl) | (simp [*, errW_none, errW_some] <;> rfl), by repeat (first | exact HB.out | apply below_alloc | apply pw_below_drewN | apply below_drew1)⟩
     ·rw [if_neg c9] at H
      exact absurd H (by simp)
 ·replace c3 := Bool.eq_false_iff.mpr c3
  subst c3
  have H1 : (some (⟨#[]⟩ : ByteArray)) = some r := by rw [if_neg (show ¬ (false = true) by decide)] at H; exact H
  clear H; have H := H1; clear H1
  obtain rfl := Option.some.inj H
  simp only [Option.some.injEq, Prod.mk.injEq] at H
  obtain ⟨rfl⟩ := H
  go_enter Try.func54, Try.ntmps54
  go_wp2_with (first | ((with_reducible refine gate_callee (f := 29) rfl ?_); refine goesM (some 5) Try.func29 #[.int .i64 a0, .int .i64 0, .int .i64 562949953421311] ?_; (with_reducible refine (spec_l1In.calls a0 0 562949953421311 false _ A2.out).mono ?_); rintro e w' ⟨rfl, ⟨nd, rfl⟩⟩; refine ⟨_, rfl, ?_⟩))
  go_ret
  exact ⟨by first | rfl | (simp [errW_none, errW_some] <;> rfl) | (simp [*, errW_none, errW_some] <;> rfl), by repeat (first | exact HB.out | apply below_alloc | apply pw_below_drewN | apply below_drew1)⟩

/-! ### spec_PutTree: function 48 -/
def spec_PutTree.l0 : Nat → List (S46) → ByteArray → Int → Option (ByteArray)
 | 0, _, _, _ => none
 | k + 1, x0, x3, x4 => if x4 < (x0.length : Int) then (if 0 ≤ x4 then ((spec_Var.f k ((rd_T46 x0 x4).f0)).bind fun t354 => (if x3.size + t354.size ≤ 9223372036854775807 then ((spec_Var.f k ((rd_T46 x0 x4).f1)).bind fun t356 => (if (x3 ++ t354).size + t356.size ≤ 9223372036854775807 then (spec_PutTree.l0 k x0 ((x3 ++ t354) ++ t356) (wrap64 (x4 + 1))) else (none))) else (none))) else (none)) else (some x3)
def spec_PutTree.f (k : Nat) (l0 : List (S46)) : Option (ByteArray) := (spec_TreeOk.f k l0).bind fun t351 => (if t351 = true then ((spec_Var.f k (l0.length : Int)).bind fun t352 => (spec_PutTree.l0 k l0 t352 0)) else (some (⟨#[]⟩ : ByteArray)))
theorem spec_PutTree.mono_l : ∀ k, (∀ y0 y1 y2, LeO (spec_PutTree.l0 k y0 y1 y2) (spec_PutTree.l0 (k + 1) y0 y1 y2))
 | 0 => fun _ _ _ r h => by simp [spec_PutTree.l0] at h
 | k + 1 => by
  have ih0 := spec_PutTree.mono_l k
  ·intro y0 y1 y2
   unfold spec_PutTree.l0
   repeat' first
   | (with_reducible exact ih0 _ _ _)
   | (with_reducible exact spec_TreeOk.mono _ _)
   | (with_reducible exact spec_Var.mono _ _)
   | (with_reducible exact LeO.refl _)
   | (with_reducible exact LeO.none _)
   | (with_reducible refine LeO.ite ?_ ?_)
   | (with_reducible refine LeO.bind ?_ (fun _ => ?_))
   | exact ih0 _ _ _
   | exact spec_TreeOk.mono _ _
   | exact spec_Var.mono _ _
   | exact LeO.none _
   | refine LeO.ite ?_ ?_
   | refine LeO.bind ?_ (fun _ => ?_)
theorem spec_PutTree.mono : ∀ a0 k, LeO (spec_PutTree.f k a0) (spec_PutTree.f (k + 1) a0) := by
 intro a0 k
 have ih0 := spec_PutTree.mono_l k
 unfold spec_PutTree.f
 repeat' first
   | (with_reducible exact ih0 _ _ _)
   | (with_reducible exact spec_TreeOk.mono _ _)
   | (with_reducible exact spec_Var.mono _ _)
   | (with_reducible exact LeO.refl _)
   | (with_reducible exact LeO.none _)
   | (with_reducible refine LeO.ite ?_ ?_)
   | (with_reducible refine LeO.bind ?_ (fun _ => ?_))
   | exact ih0 _ _ _
   | exact spec_TreeOk.mono _ _
   | exact spec_Var.mono _ _
   | exact LeO.none _
   | refine LeO.ite ?_ ?_
   | refine LeO.bind ?_ (fun _ => ?_)
def spec_PutTree.T7 : Bool × List (List Nat × List Nat) := (true, [([], []), ([], []), ([], []), ([1, 2], [1, 2]), ([3], [3]), ([4], [4]), ([5], [5]), ([0, 6], [0, 6]), ([], []), ([], []), ([8, 9], [8, 9]), ([10], [10]), ([11], [11]), ([12, 6], [12]), ([7, 13], [7, 13]), ([14, 13, 0, 1, 2, 3, 4, 5, 6, 7, 8, 9, 10, 11, 12, 13, 14], [0, 14])])
def spec_PutTree.B7 : List Nat := [0, 0, 0, 6, 14, 30, 62, 127, 0, 0, 768, 1792, 3840, 8062, 16383, 32767]
theorem spec_PutTree.tab7 : rtab .any (opsOf Try.f48 7) = spec_PutTree.T7 := by kernel_rfl
theorem spec_PutTree.bits7 : waitsOk spec_PutTree.T7.2 spec_PutTree.B7 = true := by kernel_rfl
set_option maxHeartbeats 8000000 in
set_option maxRecDepth 100000 in
theorem spec_PutTree.calls (k : Nat) (A0 : Option Addr) (c0 : Nat) (l0 : List (S46)) (r : ByteArray) (w : World) (hr0 : Kd.C k46 w A0 l0.length l0) (hc0 : l0.length ≤ c0) (h : spec_PutTree.f k l0 = some r) :
  Calls Try.prog 48 #[.slice A0 l0.length c0] w fun e w' => e = .returned (.string r) ∧ Below w.heap.size w w' := by
 have HR0 := Aside0.mk hr0; have HC0 := Aside0.mk hc0; clear hr0 hc0; have HB := Aside0.mk (Below.refl w.heap.size w)
 have H : ((spec_TreeOk.f k l0).bind fun t351 => (if t351 = true then ((spec_Var.f k (l0.length : Int)).bind fun t352 => (spec_PutTree.l0 k l0 t352 0)) else (some (⟨#[]⟩ : ByteArray)))) = some r := h
 clear h; replace H := Option.bind_eq_some_iff.mp H
 obtain ⟨t351, A20, H⟩ := H
 replace H : (if t351 = true then ((spec_Var.f k (l0.length : Int)).bind fun t352 => (spec_PutTree.l0 k l0 t352 0)) else (some (⟨#[]⟩ : ByteArray))) = some r := H
 have A2 := Aside0.mk A20; clear A20
 by_cases c3 : t351 = true
 ·subst c3
  have H1 : ((spec_Var.f k (l0.length : Int)).bind fun t352 => (spec_PutTree.l0 k l0 t352 0)) = some r := by rw [if_pos rfl] at H; exact H
  clear H; have H := H1; clear H1; replace H := Option.bind_eq_some_iff.mp H
  obtain ⟨t352, A40, H⟩ := H
  replace H : (spec_PutTree.l0 k l0 t352 0) = some r := H
  have A4 := Aside0.mk A40; clear A40; have H' := Aside0.mk H; clear H
  go_enter Try.func48, Try.ntmps48
  go_wp2_with (first | ((with_reducible refine gate_callee (f := 8) rfl ?_); refine goesM (some 6) Try.func8 #[.slice A0 l0.length c0] ?_; (with_reducible refine (spec_TreeOk.calls k _ _ l0 true _ ?side1 ?side2 A2.out).mono ?_); (case side1 => exact upC HR0.out); (case side2 => exact HC0.out); rintro e w5 ⟨rfl, hb⟩; refine ⟨_, rfl, ?_⟩; have n0_ := Aside0.mk (below_step (upB HB.out) hb); clear HB; have HB := n0_; clear n0_; (try clear hb); (try clear hb2); (try clear hk); (try clear hi)) | ((with_reducible refine gate_callee (f := 54) rfl ?_); refine goesM (some 10) Try.func54 #[.int .i64 (l0.length : Int)] ?_; (with_reducible refine (spec_Var.calls k (l0.length : Int) t352 _ A4.out).mono ?_); rintro e w6 ⟨rfl, hb⟩; refine ⟨_, rfl, ?_⟩; have n0_ := Aside0.mk (below_step (upB HB.out) hb); clear HB; have HB := n0_; clear n0_; (try clear hb); (try clear hb2); (try clear hk); (try clear hi)))
  go_loopg [3, 4] k (fun kq v3 v4 w' => ∃ (x3_1 : ByteArray) (x4_1 : Int), v3 = .string x3_1 ∧ v4 = .int .i64 x4_1 ∧ Aside0 (spec_PutTree.l0 kq l0 x3_1 x4_1 = some r) ∧ Aside0 (kq ≤ k) ∧ Aside0 (Below w.heap.size w w'))
  case atStart => exact ⟨(t352), (0), (by first | rfl | (simp; done) | (simp [*]; done)), (by first | rfl | (simp; done) | (simp [*]; done)), H', ⟨Nat.le_refl _⟩, ⟨by repeat (first | exact HB.out | apply below_alloc | apply pw_below_drewN | apply below_drew1)⟩⟩
  case round =>
   clear H'
   try clear p2
   try clear c3
   try clear c4
   try clear c5
   obtain ⟨x3_1, x4_1, rfl, rfl, HA, HK1, HB⟩ := hrel
   cases gk with
   | zero => exact absurd HA.out (by simp [spec_PutTree.l0])
   | succ k1 =>
    have H := HA.out; clear HA
    simp only [spec_PutTree.l0] at H
    by_cases c7 : x4_1 < (l0.length : Int)
    ·rw [if_pos c7] at H
     have c7b0 : decide (x4_1 < (l0.length : Int)) = true := decide_eq_true c7
     clear c7
     by_cases c8 : 0 ≤ x4_1
     ·rw [if_pos c8] at H
      have c8b0 : decide (0 ≤ x4_1) = true := decide_eq_true c8
      clear c8; replace H := Option.bind_eq_some_iff.mp H
      obtain ⟨t354, A90, H⟩ := H
      replace H : (if x3_1.size + t354.size ≤ 9223372036854775807 then ((spec_Var.f k1 ((rd_T46 l0 x4_1).f1)).bind fun t356 => (if (x3_1 ++ t354).size + t356.size ≤ 9223372036854775807 then (spec_PutTree.l0 k1 l0 ((x3_1 ++ t354) ++ t356) (wrap64 (x4_1 + 1))) else (none))) else (none)) = some r := H
      have A9 := Aside0.mk A90; clear A90
      by_cases c10 : x3_1.size + t354.size ≤ 9223372036854775807
      ·rw [if_pos c10] at H
       have c10b0 := eq_true c10
       have c10b1 : decide (x3_1.size + t354.size ≤ 9223372036854775807) = true := decide_eq_true c10
       try have c10b2 : (9223372036854775807 < x3_1.size + t354.size) = False := eq_false (Nat.not_lt.2 c10)
       replace H := Option.bind_eq_some_iff.mp H
       obtain ⟨t356, A110, H⟩ := H
       replace H : (if (x3_1 ++ t354).size + t356.size ≤ 9223372036854775807 then (spec_PutTree.l0 k1 l0 ((x3_1 ++ t354) ++ t356) (wrap64 (x4_1 + 1))) else (none)) = some r := H
       have A11 := Aside0.mk A110; clear A110
       by_cases c12 : (x3_1 ++ t354).size + t356.size ≤ 9223372036854775807
       ·rw [if_pos c12] at H
        have c12b0 := eq_true c12
        have c12b1 : decide ((x3_1 ++ t354).size + t356.size ≤ 9223372036854775807) = true := decide_eq_true c12
        try have c12b2 : (9223372036854775807 < (x3_1 ++ t354).size + t356.size) = False := eq_false (Nat.not_lt.2 c12)
        have c12z := eq_false (Nat.not_lt.2 c12)
        try simp only [ByteArray.size_append] at c12z
        have H' := Aside0.mk H; clear H
        try go_wp2
        have n0_ := Aside0.mk (below_drew1 HB.out); clear HB; have HB := n0_; clear n0_
        have p353 : 0 ≤ (x4_1 : Int) := of_decide_eq_true (by first | (with_reducible assumption) | assumption)
        have q353 : x4_1 < (l0.length : Int) := of_decide_eq_true (by first | (with_reducible assumption) | assumption)
        obtain ⟨ad353, e353, hx353_0, hx353_1⟩ := at_T46 HR0.out x4_1 p353 q353
        have hw353_1 := hx353_1; have hw353_0 := hx353_0; cases e353; replace hx353_0 := (HB.out.cell (World.block_lt_of_cell? w _ hx353_0)).trans hx353_0; replace hx353_1 := (HB.out.cell (World.block_lt_of_cell? w _ hx353_1)).trans hx353_1; replace p353 := eq_true p353; replace q353 := eq_true q353
        have p355 : 0 ≤ (x4_1 : Int) := of_decide_eq_true (by first | (with_reducible assumption) | assumption)
        have q355 : x4_1 < (l0.length : Int) := of_decide_eq_true (by first | (with_reducible assumption) | assumption)
        obtain ⟨ad355, e355, hx355_0, hx355_1⟩ := at_T46 HR0.out x4_1 p355 q355
        have hw355_1 := hx355_1; have hw355_0 := hx355_0
        obtain rfl : ad353 = ad355 := (by injection e355)
        replace hx355_0 := (HB.out.cell (World.block_lt_of_cell? w _ hx355_0)).trans hx355_0; replace hx355_1 := (HB.out.cell (World.block_lt_of_cell? w _ hx355_1)).trans hx355_1; replace p355 := eq_true p355; replace q355 := eq_true q355
        refine start_ (n := 16) (S := fun w' => w'.cell? (ad353.add ((x4_1).toNat * 2)) = some (.int .i64 ((rd_T46 l0 x4_1).f0)) ∧ w'.cell? ⟨(ad353.add ((x4_1).toNat * 2)).block, (ad353.add ((x4_1).toNat * 2)).off + 1, none⟩ = some (.int .i64 ((rd_T46 l0 x4_1).f1)) ∧ w'.cell? (ad353.add ((x4_1).toNat * 2)) = some (.int .i64 ((rd_T46 l0 x4_1).f0)) ∧ w'.cell? ⟨(ad353.add ((x4_1).toNat * 2)).block, (ad353.add ((x4_1).toNat * 2)).off + 1, none⟩ = some (.int .i64 ((rd_T46 l0 x4_1).f1))) (ds := []) bs9_0 (by kernel_rfl) rfl rfl ⟨((HB.out.cell (World.block_lt_of_cell? w _ hw353_0)).trans hw353_0), ((HB.out.cell (World.block_lt_of_cell? w _ hw353_1)).trans hw353_1), ((HB.out.cell (World.block_lt_of_cell? w _ hw355_0)).trans hw355_0), ((HB.out.cell (World.block_lt_of_cell? w _ hw355_1)).trans hw355_1)⟩ (fun hHeld => ?_); refine with_tabW spec_PutTree.tab7 spec_PutTree.bits7 (fun HT_ HW_ => ?_)
        generalize wr.drew = w13 at HB hx353_0 hx353_1 hx355_0 hx355_1 hHeld ⊢
        refine purA 0 17 bs9_1 HT_.out ?_
        refine purA 1 18 bs9_2 HT_.out ?_
        refine purA 2 19 bs9_3 HT_.out ?_
        refine purA 3 20 bs9_4 HT_.out ?_
        refine purA 4 21 bs9_5 HT_.out ?_
        refine purA 8 25 bs9_6 HT_.out ?_
        refine purA 9 26 bs9_7 HT_.out ?_
        refine purA 10 27 bs9_8 HT_.out ?_
        refine purA 11 28 bs9_9 HT_.out ?_
        refine take_ (i := 5) (N := some 22) (v := ?_) (a' := ?_) bs9_10 rfl rfl (take_ofW HT_.out HW_.out (by kernel_rfl)) (fun _ _ _ h => h) (Or.inl ⟨by rfl, ?_⟩) hHeld ?_ ?_; rotate_left; (rintro w' ⟨s0, s1, s2, s3⟩; go_simp; with_reducible rfl); rotate_left; (simp only [Act.put, s1_, s2_, s3_, i64_w, i32_w]; rfl)
        refine take_ (i := 12) (N := some 29) (v := ?_) (a' := ?_) bs9_11 rfl rfl (take_ofW HT_.out HW_.out (by kernel_rfl)) (fun _ _ _ h => h) (Or.inl ⟨by rfl, ?_⟩) hHeld ?_ ?_; rotate_left; (rintro w' ⟨s0, s1, s2, s3⟩; go_simp; with_reducible rfl); rotate_left; (simp only [Act.put, s1_, s2_, s3_, i64_w, i32_w]; rfl)
        refine one_ (i := 6) (N := some 23) bs9_12 rfl rfl (one_of HT_.out (by kernel_rfl)) (by decide) (fun K hK => ?_)
        refine goes_ Try.func54 (by kernel_rfl) rfl #[.int .i64 ((rd_T46 l0 x4_1).f0)] (by rfl) rfl rfl (by (try simp only [List.map_toArray, List.map_cons, List.map_nil]); first | done | rfl | (simp only [List.length_drop, List.length_take]; rfl)) ?_
        with_reducible refine (spec_Var.calls k1 ((rd_T46 l0 x4_1).f0) t354 _ A9.out).mono ?_
        rintro e w14 ⟨rfl, hb⟩
        refine ⟨_, rfl, ?_⟩
        have n0_ := Aside0.mk (below_step (upB HB.out) hb)
        clear HB; have HB := n0_; clear n0_
        (try clear hb)
        (try clear hb2)
        (try clear hk)
        (try clear hi)
        refine hK.out _ _ ⟨((HB.out.cell (World.block_lt_of_cell? w _ hw353_0)).trans hw353_0), ((HB.out.cell (World.block_lt_of_cell? w _ hw353_1)).trans hw353_1), ((HB.out.cell (World.block_lt_of_cell? w _ hw355_0)).trans hw355_0), ((HB.out.cell (World.block_lt_of_cell? w _ hw355_1)).trans hw355_1)⟩ (fun hHeld => ?_)
        clear hK K
        refine norm_ (a' := ?_) ?_ ?_
        rotate_left
        ·show Act.put _ (some 23) _ = _
         simp only [Act.put, s1_, s2_, s3_, i64_w, i32_w]
         rfl
        refine purA 7 24 bs9_13 HT_.out ?_
        refine one_ (i := 13) (N := some 30) bs9_14 rfl rfl (one_of HT_.out (by kernel_rfl)) (by decide) (fun K hK => ?_)
        refine goes_ Try.func54 (by kernel_rfl) rfl #[.int .i64 ((rd_T46 l0 x4_1).f1)] (by rfl) rfl rfl (by (try simp only [List.map_toArray, List.map_cons, List.map_nil]); first | done | rfl | (simp only [List.length_drop, List.length_take]; rfl)) ?_
        with_reducible refine (spec_Var.calls k1 ((rd_T46 l0 x4_1).f1) t356 _ A11.out).mono ?_
        rintro e w15 ⟨rfl, hb⟩
        refine ⟨_, rfl, ?_⟩
        have n0_ := Aside0.mk (below_step (upB HB.out) hb)
        clear HB; have HB := n0_; clear n0_
        (try clear hb)
        (try clear hb2)
        (try clear hk)
        (try clear hi)
        refine hK.out _ _ ⟨((HB.out.cell (World.block_lt_of_cell? w _ hw353_0)).trans hw353_0), ((HB.out.cell (World.block_lt_of_cell? w _ hw353_1)).trans hw353_1), ((HB.out.cell (World.block_lt_of_cell? w _ hw355_0)).trans hw355_0), ((HB.out.cell (World.block_lt_of_cell? w _ hw355_1)).trans hw355_1)⟩ (fun hHeld => ?_)
        clear hK K
        refine norm_ (a' := ?_) ?_ ?_
        rotate_left
        ·show Act.put _ (some 30) _ = _
         simp only [Act.put, s1_, s2_, s3_, i64_w, i32_w]
         rfl
        refine purA 14 31 bs9_15 HT_.out ?_
        refine purA 15 3 bs9_16 HT_.out ?_
        refine done_ (done_of HT_.out (by kernel_rfl)) ?_
        try go_wp2
        go_roundg k1
        case measure => have := HK1.out; omega
        case rel => exact ⟨((x3_1 ++ t354) ++ t356), (wrap64 (x4_1 + 1)), (by first | rfl | (simp; done) | (simp [*]; done)), (by first | rfl | (simp; done) | (simp [*]; done)), H', ⟨by have := HK1.out; omega⟩, ⟨by repeat (first | exact HB.out | apply below_alloc | apply pw_below_drewN | apply below_drew1)⟩⟩
       ·rw [if_neg c12] at H
        exact absurd H (by simp)
      ·rw [if_neg c10] at H
       exact absurd H (by simp)
     ·rw [if_neg c8] at H
      exact absurd H (by simp)
    ·rw [if_neg c7] at H
     have c7b0 : decide (x4_1 < (l0.length : Int)) = false := decide_eq_false c7
     clear c7
     obtain rfl := Option.some.inj H
     simp only [Option.some.injEq, Prod.mk.injEq] at H
     obtain ⟨rfl⟩ := H
     go_wp2
     go_ret
     exact ⟨by first | rfl | (simp [errW_none, errW_some] <;> rfl) | (simp [*, errW_none, errW_some] <;> rfl), by repeat (first | exact HB.out | apply below_alloc | apply pw_below_drewN | apply below_drew1)⟩
 ·replace c3 := Bool.eq_false_iff.mpr c3
  subst c3
  have H1 : (some (⟨#[]⟩ : ByteArray)) = some r := by rw [if_neg (show ¬ (false = true) by decide)] at H; exact H
  clear H; have H := H1; clear H1
  obtain rfl := Option.some.inj H
  simp only [Option.some.injEq, Prod.mk.injEq] at H
  obtain ⟨rfl⟩ := H
  go_enter Try.func48, Try.ntmps48
  go_wp2_with (first | ((with_reducible refine gate_callee (f := 8) rfl ?_); refine goesM (some 6) Try.func8 #[.slice A0 l0.length c0] ?_; (with_reducible refine (spec_TreeOk.calls k _ _ l0 false _ ?side1 ?side2 A2.out).mono ?_); (case side1 => exact upC HR0.out); (case side2 => exact HC0.out); rintro e w16 ⟨rfl, hb⟩; refine ⟨_, rfl, ?_⟩; have n0_ := Aside0.mk (below_step (upB HB.out) hb); clear HB; have HB := n0_; clear n0_; (try clear hb); (try clear hb2); (try clear hk); (try clear hi)))
  go_ret
  exact ⟨by first | rfl | (simp [errW_none, errW_some] <;> rfl) | (simp [*, errW_none, errW_some] <;> rfl), by repeat (first | exact HB.out | apply below_alloc | apply pw_below_drewN | apply below_drew1)⟩

/-! ### spec_l1Pick: function 49 -/
def spec_l1Pick.f (s0_0 : List Int) (s0_1 : Int) (s0_2 : Int) (l1 : List ByteArray) : Option (ByteArray × Int × Int) := (spec_l1Below.f s0_0 s0_1 s0_2 (l1.length : Int)).bind fun bt357 => (if 0 ≤ bt357.1 then (if bt357.1 < (l1.length : Int) then (some (rdOf ByteArray.empty l1 bt357.1, bt357.2.1, bt357.2.2)) else (none)) else (none))
set_option maxHeartbeats 8000000 in
set_option maxRecDepth 100000 in
theorem spec_l1Pick.calls (g : Nat) (s0_0 : List Int) (s0_1 : Int) (s0_2 : Int) (A1 : Option Addr) (c1 : Nat) (l1 : List ByteArray) (r1 : ByteArray) (r2 : Int) (r3 : Int) (w0 w : World) (hI : IsS66 w0 w g s0_0 s0_1 s0_2) (hB : Below w0.heap.size w0 w) (hr1 : Kd.C Kd.string w A1 l1.length l1) (hc1 : l1.length ≤ c1) (hf1 : ∀ ad, A1 = some ad → 0 < l1.length → ad.block ≠ g) (h : spec_l1Pick.f s0_0 s0_1 s0_2 l1 = some (r1, r2, r3)) :
  Calls Try.prog 49 #[.pointer (some ⟨g, 0, none⟩), .slice A1 l1.length c1] w fun e w' => e = .returned (.string r1) ∧ IsS66 w0 w' g s0_0 r2 r3 ∧ Below w0.heap.size w0 w' ∧ KeepBut w w' g none := by
 have HR1 := Aside0.mk hr1; have HC1 := Aside0.mk hc1; clear hr1 hc1; have HI0 := Aside0.mk hI; have HK := Aside0.mk (KeepBut.refl w g none); have HL := Aside0.mk hB.size; clear hI; have HW0 := Aside0.mk hB.size; have HB := Aside0.mk hB; clear hB
 have H : ((spec_l1Below.f s0_0 s0_1 s0_2 (l1.length : Int)).bind fun bt357 => (if 0 ≤ bt357.1 then (if bt357.1 < (l1.length : Int) then (some (rdOf ByteArray.empty l1 bt357.1, bt357.2.1, bt357.2.2)) else (none)) else (none))) = some (r1, r2, r3) := h
 clear h; replace H := Option.bind_eq_some_iff.mp H
 obtain ⟨⟨t357, t358, t359⟩, A30, H⟩ := H
 replace H : (if 0 ≤ t357 then (if t357 < (l1.length : Int) then (some (rdOf ByteArray.empty l1 t357, t358, t359)) else (none)) else (none)) = some (r1, r2, r3) := H
 have A3 := Aside0.mk A30; clear A30
 by_cases c4 : 0 ≤ t357
 ·rw [if_pos c4] at H
  have c4b0 : decide (0 ≤ t357) = true := decide_eq_true c4
  clear c4
  by_cases c5 : t357 < (l1.length : Int)
  ·rw [if_pos c5] at H
   have c5b0 : decide (t357 < (l1.length : Int)) = true := decide_eq_true c5
   clear c5
   simp only [Option.some.injEq, Prod.mk.injEq] at H
   obtain ⟨rfl, rfl, rfl⟩ := H
   go_enter Try.func49, Try.ntmps49
   go_wp2_with (first | ((with_reducible refine gate_callee (f := 38) rfl ?_); refine goesM (some 9) Try.func38 #[.pointer (some ⟨g, 0, none⟩), .int .i64 (l1.length : Int)] ?_; (with_reducible refine (spec_l1Below.calls g s0_0 s0_1 s0_2 (l1.length : Int) t357 t358 t359 w0 _ ?side1 ?side2 A3.out).mono ?_); (case side1 => exact x9_upI HI0.out); (case side2 => exact x9_upBS HB.out); rintro e w6 ⟨rfl, hi, hb, hk⟩; refine ⟨_, rfl, ?_⟩; have n0_ := Aside0.mk (KeepBut.trans (upKb HK.out) hk (.inl rfl)); have n1_ := Aside0.mk (hb); have n2_ := Aside0.mk (hi); clear HK; clear HB; clear HI0; have HK := n0_; have HB := n1_; have HI0 := n2_; clear n0_ n1_ n2_; (try clear hb); (try clear hb2); (try clear hk); (try clear hi); have p360 : 0 ≤ (t357 : Int) := of_decide_eq_true (by first | (with_reducible assumption) | assumption); have q360 : t357 < (l1.length : Int) := of_decide_eq_true (by first | (with_reducible assumption) | assumption); obtain ⟨ad360, e360, hx360_0⟩ := Kd.at_string HR1.out t357 p360 q360; cases e360; replace hx360_0 := keep_cell HK.out hx360_0 (by first | (rw [add_block]; exact hf1 _ rfl (by omega)) | exact hf1 _ rfl (by omega) | exact hf1 ad360 rfl (by omega)); replace p360 := eq_true p360; replace q360 := eq_true q360))
   go_ret
   exact ⟨by first | rfl | (simp [errW_none, errW_some] <;> rfl) | (simp [*, errW_none, errW_some] <;> rfl), x9_upI HI0.out, x9_upBS HB.out, upKb HK.out⟩
  ·rw [if_neg c5] at H
   exact absurd H (by simp)
 ·rw [if_neg c4] at H
  exact absurd H (by simp)

/-! ### spec_l4Bytes: function 30 -/
def spec_l4Bytes.f (k : Nat) (s0_0 : List Int) (s0_1 : Int) (s0_2 : Int) (a1 : Int) : Option (ByteArray × Int × Int) := (spec_l3Tree.f k s0_0 s0_1 s0_2 a1).bind fun bt361 => ((spec_PutTree.f k bt361.1).bind fun t366 => ((spec_l1Below.f s0_0 bt361.2.1 bt361.2.2 9).bind fun bt367 => (if bt367.1 = 0 then ((spec_l1Spoil.f k s0_0 bt367.2.1 bt367.2.2 t366).bind fun bt370 => (some (bt370.1, bt370.2.1, bt370.2.2))) else (if bt367.1 = 1 then ((spec_l1Below.f s0_0 bt367.2.1 bt367.2.2 (wrap64 ((t366.size : Int) + 1))).bind fun bt373 => (if 0 ≤ bt373.1 then (if bt373.1 ≤ (t366.size : Int) then (some (t366.extract 0 (bt373.1 : Int).toNat, bt373.2.1, bt373.2.2)) else (none)) else (none))) else (if bt367.1 = 2 then ((spec_l1Pick.f s0_0 bt367.2.1 bt367.2.2 (([(⟨#[0]⟩ : ByteArray), (⟨#[120]⟩ : ByteArray)] : List ByteArray))).bind fun bt379 => (if t366.size + bt379.1.size ≤ 9223372036854775807 then (some (t366 ++ bt379.1, bt379.2.1, bt379.2.2)) else (none))) else (if bt367.1 = 3 then ((spec_l1Text.f k s0_0 bt367.2.1 bt367.2.2 5).bind fun bt382 => (some (bt382.1, bt382.2.1, bt382.2.2))) else (some (t366, bt367.2.1, bt367.2.2))))))))
theorem spec_l4Bytes.mono : ∀ a0 a1 a2 a3 k, LeO (spec_l4Bytes.f k a0 a1 a2 a3) (spec_l4Bytes.f (k + 1) a0 a1 a2 a3) := by
 intro a0 a1 a2 a3 k
 unfold spec_l4Bytes.f
 repeat' first
   | (with_reducible exact spec_PutTree.mono _ _)
   | (with_reducible exact spec_l1Spoil.mono _ _ _ _ _)
   | (with_reducible exact spec_l1Text.mono _ _ _ _ _)
   | (with_reducible exact spec_l3Tree.mono _ _ _ _ _)
   | (with_reducible exact LeO.refl _)
   | (with_reducible exact LeO.none _)
   | (with_reducible refine LeO.ite ?_ ?_)
   | (with_reducible refine LeO.bind ?_ (fun _ => ?_))
   | exact spec_PutTree.mono _ _
   | exact spec_l1Spoil.mono _ _ _ _ _
   | exact spec_l1Text.mono _ _ _ _ _
   | exact spec_l3Tree.mono _ _ _ _ _
   | exact LeO.none _
   | refine LeO.ite ?_ ?_
   | refine LeO.bind ?_ (fun _ => ?_)
set_option maxHeartbeats 8000000 in
set_option maxRecDepth 100000 in
theorem spec_l4Bytes.calls (k : Nat) (g : Nat) (s0_0 : List Int) (s0_1 : Int) (s0_2 : Int) (a1 : Int) (r1 : ByteArray) (r2 : Int) (r3 : Int) (w0 w : World) (hI : IsS66 w0 w g s0_0 s0_1 s0_2) (hB : Below w0.heap.size w0 w) (h : spec_l4Bytes.f k s0_0 s0_1 s0_2 a1 = some (r1, r2, r3)) :
  Calls Try.prog 30 #[.pointer (some ⟨g, 0, none⟩), .int .i64 a1] w fun e w' => e = .returned (.string r1) ∧ IsS66 w0 w' g s0_0 r2 r3 ∧ Below w0.heap.size w0 w' ∧ KeepBut w w' g none := by
 have HI0 := Aside0.mk hI; have HK := Aside0.mk (KeepBut.refl w g none); have HL := Aside0.mk hB.size; clear hI; have HW0 := Aside0.mk hB.size; have HB := Aside0.mk hB; clear hB
 have H : ((spec_l3Tree.f k s0_0 s0_1 s0_2 a1).bind fun bt361 => ((spec_PutTree.f k bt361.1).bind fun t366 => ((spec_l1Below.f s0_0 bt361.2.1 bt361.2.2 9).bind fun bt367 => (if bt367.1 = 0 then ((spec_l1Spoil.f k s0_0 bt367.2.1 bt367.2.2 t366).bind fun bt370 => (some (bt370.1, bt370.2.1, bt370.2.2))) else (if bt367.1 = 1 then ((spec_l1Below.f s0_0 bt367.2.1 bt367.2.2 (wrap64 ((t366.size : Int) + 1))).bind fun bt373 => (if 0 ≤ bt373.1 then (if bt373.1 ≤ (t366.size : Int) then (some (t366.extract 0 (bt373.1 : Int).toNat, bt373.2.1, bt373.2.2)) else (none)) else (none))) else (if bt367.1 = 2 then ((spec_l1Pick.f s0_0 bt367.2.1 bt367.2.2 (([(⟨#[0]⟩ : ByteArray), (⟨#[120]⟩ : ByteArray)] : List ByteArray))).bind fun bt379 => (if t366.size + bt379.1.size ≤ 9223372036854775807 then (some (t366 ++ bt379.1, bt379.2.1, bt379.2.2)) else (none))) else (if bt367.1 = 3 then ((spec_l1Text.f k s0_0 bt367.2.1 bt367.2.2 5).bind fun bt382 => (some (bt382.1, bt382.2.1, bt382.2.2))) else (some (t366, bt367.2.1, bt367.2.2))))))))) = some (r1, r2, r3) := h
 clear h; replace H := Option.bind_eq_some_iff.mp H
 obtain ⟨⟨t361, t364, t365⟩, A30, H⟩ := H
 replace H : ((spec_PutTree.f k t361).bind fun t366 => ((spec_l1Below.f s0_0 t364 t365 9).bind fun bt367 => (if bt367.1 = 0 then ((spec_l1Spoil.f k s0_0 bt367.2.1 bt367.2.2 t366).bind fun bt370 => (some (bt370.1, bt370.2.1, bt370.2.2))) else (if bt367.1 = 1 then ((spec_l1Below.f s0_0 bt367.2.1 bt367.2.2 (wrap64 ((t366.size : Int) + 1))).bind fun bt373 => (if 0 ≤ bt373.1 then (if bt373.1 ≤ (t366.size : Int) then (some (t366.extract 0 (bt373.1 : Int).toNat, bt373.2.1, bt373.2.2)) else (none)) else (none))) else (if bt367.1 = 2 then ((spec_l1Pick.f s0_0 bt367.2.1 bt367.2.2 (([(⟨#[0]⟩ : ByteArray), (⟨#[120]⟩ : ByteArray)] : List ByteArray))).bind fun bt379 => (if t366.size + bt379.1.size ≤ 9223372036854775807 then (some (t366 ++ bt379.1, bt379.2.1, bt379.2.2)) else (none))) else (if bt367.1 = 3 then ((spec_l1Text.f k s0_0 bt367.2.1 bt367.2.2 5).bind fun bt382 => (some (bt382.1, bt382.2.1, bt382.2.2))) else (some (t366, bt367.2.1, bt367.2.2)))))))) = some (r1, r2, r3) := H
 have A3 := Aside0.mk A30; clear A30; replace H := Option.bind_eq_some_iff.mp H
 obtain ⟨t366, A40, H⟩ := H
 replace H : ((spec_l1Below.f s0_0 t364 t365 9).bind fun bt367 => (if bt367.1 = 0 then ((spec_l1Spoil.f k s0_0 bt367.2.1 bt367.2.2 t366).bind fun bt370 => (some (bt370.1, bt370.2.1, bt370.2.2))) else (if bt367.1 = 1 then ((spec_l1Below.f s0_0 bt367.2.1 bt367.2.2 (wrap64 ((t366.size : Int) + 1))).bind fun bt373 => (if 0 ≤ bt373.1 then (if bt373.1 ≤ (t366.size : Int) then (some (t366.extract 0 (bt373.1 : Int).toNat, bt373.2.1, bt373.2.2)) else (none)) else (none))) else (if bt367.1 = 2 then ((spec_l1Pick.f s0_0 bt367.2.1 bt367.2.2 (([(⟨#[0]⟩ : ByteArray), (⟨#[120]⟩ : ByteArray)] : List ByteArray))).bind fun bt379 => (if t366.size + bt379.1.size ≤ 9223372036854775807 then (some (t366 ++ bt379.1, bt379.2.1, bt379.2.2)) else (none))) else (if bt367.1 = 3 then ((spec_l1Text.f k s0_0 bt367.2.1 bt367.2.2 5).bind fun bt382 => (some (bt382.1, bt382.2.1, bt382.2.2))) else (some (t366, bt367.2.1, bt367.2.2))))))) = some (r1, r2, r3) := H
 have A4 := Aside0.mk A40; clear A40; replace H := Option.bind_eq_some_iff.mp H
 obtain ⟨⟨t367, t368, t369⟩, A50, H⟩ := H
 replace H : (if t367 = 0 then ((spec_l1Spoil.f k s0_0 t368 t369 t366).bind fun bt370 => (some (bt370.1, bt370.2.1, bt370.2.2))) else (if t367 = 1 then ((spec_l1Below.f s0_0 t368 t369 (wrap64 ((t366.size : Int) + 1))).bind fun bt373 => (if 0 ≤ bt373.1 then (if bt373.1 ≤ (t366.size : Int) then (some (t366.extract 0 (bt373.1 : Int).toNat, bt373.2.1, bt373.2.2)) else (none)) else (none))) else (if t367 = 2 then ((spec_l1Pick.f s0_0 t368 t369 (([(⟨#[0]⟩ : ByteArray), (⟨#[120]⟩ : ByteArray)] : List ByteArray))).bind fun bt379 => (if t366.size + bt379.1.size ≤ 9223372036854775807 then (some (t366 ++ bt379.1, bt379.2.1, bt379.2.2)) else (none))) else (if t367 = 3 then ((spec_l1Text.f k s0_0 t368 t369 5).bind fun bt382 => (some (bt382.1, bt382.2.1, bt382.2.2))) else (some (t366, t368, t369)))))) = some (r1, r2, r3) := H
 have A5 := Aside0.mk A50; clear A50
 by_cases c6 : t367 = 0
 ·rw [if_pos c6] at H
  have c6b0 : (t367 == 0) = true := beq_iff_eq.mpr c6
  have c6b1 : (t367 != 0) = false := bne_eq_false_iff_eq.mpr c6
  clear c6; replace H := Option.bind_eq_some_iff.mp H
  obtain ⟨⟨t370, t371, t372⟩, A70, H⟩ := H
  replace H : (some (t370, t371, t372)) = some (r1, r2, r3) := H
  have A7 := Aside0.mk A70; clear A70
  simp only [Option.some.injEq, Prod.mk.injEq] at H
  obtain ⟨rfl, rfl, rfl⟩ := H
  go_enter Try.func30, Try.ntmps30
  go_wp2_with (first | ((with_reducible refine gate_callee (f := 43) rfl ?_); refine goesM (some 8) Try.func43 #[.pointer (some ⟨g, 0, none⟩), .int .i64 a1] ?_; (with_reducible refine (spec_l3Tree.calls k g s0_0 s0_1 s0_2 a1 t361 t364 t365 w0 _ ?side1 ?side2 A3.out).mono ?_); (case side1 => exact x9_upI HI0.out); (case side2 => exact x9_upBS HB.out); rintro e w8 ⟨v362, rfl, ho0, hi, hb, hk⟩; refine ⟨_, rfl, ?_⟩; have n0_ := Aside0.mk (Kd.R_lower ho0 (keep_size (w := w) (g := g) (row := none) (upKb HK.out))); have n1_ := Aside0.mk (KeepBut.trans (upKb HK.out) hk (.inl rfl)); have n2_ := Aside0.mk (hb); have n3_ := Aside0.mk (hi); clear HK; clear HB; clear HI0; have HO363 := n0_; have HK := n1_; have HB := n2_; have HI0 := n3_; clear n0_ n1_ n2_ n3_; (try clear hb); (try clear hb2); (try clear hk); (try clear hi); (try clear ho0); obtain ⟨Ao9, co9, eo9⟩ := Kd.R_slice HO363.out; subst eo9) | ((with_reducible refine gate_callee (f := 48) rfl ?_); refine goesM (some 9) Try.func48 #[.slice Ao9 t361.length co9] ?_; (with_reducible refine (spec_PutTree.calls k _ _ t361 t366 _ ?side1 ?side2 A4.out).mono ?_); (case side1 => repeat (first | exact (Kd.R_reads' HO363.out).2.2 | (with_reducible refine Kd.C_alloc ?_ _) | (with_reducible refine Kd.C_drewN ?_ _) | (with_reducible refine Kd.C_drew ?_))); (case side2 => exact (Kd.R_reads' HO363.out).2.1); rintro e w10 ⟨rfl, hb⟩; refine ⟨_, rfl, ?_⟩; have n0_ := Aside0.mk (Kd.R_below (upR HO363.out) hb); have n1_ := Aside0.mk (IsS66.below (x9_upI HI0.out) hb); have n2_ := Aside0.mk (KeepBut.trans (upKb HK.out) (KeepBut.of_below hb g none) (.inl rfl)); have n3_ := Aside0.mk (below_step (x9_upBS HB.out) hb); clear HO363; clear HI0; clear HK; clear HB; have HO363 := n0_; have HI0 := n1_; have HK := n2_; have HB := n3_; clear n0_ n1_ n2_ n3_; (try clear hb); (try clear hb2); (try clear hk); (try clear hi)) | ((with_reducible refine gate_callee (f := 38) rfl ?_); refine goesM (some 11) Try.func38 #[.pointer (some ⟨g, 0, none⟩), .int .i64 9] ?_; (with_reducible refine (spec_l1Below.calls g s0_0 t364 t365 9 t367 t368 t369 w0 _ ?side1 ?side2 A5.out).mono ?_); (case side1 => exact x9_upI HI0.out); (case side2 => exact x9_upBS HB.out); rintro e w11 ⟨rfl, hi, hb, hk⟩; refine ⟨_, rfl, ?_⟩; have n0_ := Aside0.mk (Kd.R_mono (Kd.R_keep (IsS66.apart (show IsS66 w0 _ g s0_0 t364 t365 from x9_upI HI0.out) (upR HO363.out) (by decide)) hk (fun _ h => h.2)) (fun _ h => h.1)); have n1_ := Aside0.mk (KeepBut.trans (upKb HK.out) hk (.inl rfl)); have n2_ := Aside0.mk (hb); have n3_ := Aside0.mk (hi); clear HO363; clear HK; clear HB; clear HI0; have HO363 := n0_; have HK := n1_; have HB := n2_; have HI0 := n3_; clear n0_ n1_ n2_ n3_; (try clear hb); (try clear hb2); (try clear hk); (try clear hi)) | ((with_reducible refine gate_callee (f := 39) rfl ?_); refine goesM (some 16) Try.func39 #[.pointer (some ⟨g, 0, none⟩), .string t366] ?_; (with_reducible refine (spec_l1Spoil.calls k g s0_0 t368 t369 t366 t370 t371 t372 w0 _ ?side1 ?side2 A7.out).mono ?_); (case side1 => exact x9_upI HI0.out); (case side2 => exact x9_upBS HB.out); rintro e w12 ⟨rfl, hi, hb, hk⟩; refine ⟨_, rfl, ?_⟩; have n0_ := Aside0.mk (Kd.R_mono (Kd.R_keep (IsS66.apart (show IsS66 w0 _ g s0_0 t368 t369 from x9_upI HI0.out) (upR HO363.out) (by decide)) hk (fun _ h => h.2)) (fun _ h => h.1)); have n1_ := Aside0.mk (KeepBut.trans (upKb HK.out) hk (.inl rfl)); have n2_ := Aside0.mk (hb); have n3_ := Aside0.mk (hi); clear HO363; clear HK; clear HB; clear HI0; have HO363 := n0_; have HK := n1_; have HB := n2_; have HI0 := n3_; clear n0_ n1_ n2_ n3_; (try clear hb); (try clear hb2); (try clear hk); (try clear hi)))
  go_ret
  exact ⟨by first | rfl | (simp [errW_none, errW_some] <;> rfl) | (simp [*, errW_none, errW_some] <;> rfl), x9_upI HI0.out, x9_upBS HB.out, upKb HK.out⟩
 ·rw [if_neg c6] at H
  have c6b0 : (t367 == 0) = false := beq_eq_false_iff_ne.mpr c6
  have c6b1 : (t367 != 0) = true := bne_iff_ne.mpr c6
  by_cases c13 : t367 = 1
  ·rw [if_pos c13] at H
   have c13b0 : (t367 == 1) = true := beq_iff_eq.mpr c13
   have c13b1 : (t367 != 1) = false := bne_eq_false_iff_eq.mpr c13
   clear c13; replace H := Option.bind_eq_some_iff.mp H
   obtain ⟨⟨t373, t374, t375⟩, A140, H⟩ := H
   replace H : (if 0 ≤ t373 then (if t373 ≤ (t366.size : Int) then (some (t366.extract 0 (t373 : Int).toNat, t374, t375)) else (none)) else (none)) = some (r1, r2, r3) := H
   have A14 := Aside0.mk A140; clear A140
   by_cases c15 : 0 ≤ t373
   ·rw [if_pos c15] at H
    have c15b0 := eq_true c15
    have c15b1 : decide (0 ≤ t373) = true := decide_eq_true c15
    clear c15
    by_cases c16 : t373 ≤ (t366.size : Int)
    ·rw [if_pos c16] at H
     have c16b0 := eq_true c16
     have c16b1 : decide (t373 ≤ (t366.size : Int)) = true := decide_eq_true c16
     clear c16
     simp only [Option.some.injEq, Prod.mk.injEq] at H
     obtain ⟨rfl, rfl, rfl⟩ := H
     go_enter Try.func30, Try.ntmps30
     go_wp2_with (first | ((with_reducible refine gate_callee (f := 43) rfl ?_); refine goesM (some 8) Try.func43 #[.pointer (some ⟨g, 0, none⟩), .int .i64 a1] ?_; (with_reducible refine (spec_l3Tree.calls k g s0_0 s0_1 s0_2 a1 t361 t364 t365 w0 _ ?side1 ?side2 A3.out).mono ?_); (case side1 => exact x9_upI HI0.out); (case side2 => exact x9_upBS HB.out); rintro e w17 ⟨v362, rfl, ho0, hi, hb, hk⟩; refine ⟨_, rfl, ?_⟩; have n0_ := Aside0.mk (Kd.R_lower ho0 (keep_size (w := w) (g := g) (row := none) (upKb HK.out))); have n1_ := Aside0.mk (KeepBut.trans (upKb HK.out) hk (.inl rfl)); have n2_ := Aside0.mk (hb); have n3_ := Aside0.mk (hi); clear HK; clear HB; clear HI0; have HO363 := n0_; have HK := n1_; have HB := n2_; have HI0 := n3_; clear n0_ n1_ n2_ n3_; (try clear hb); (try clear hb2); (try clear hk); (try clear hi); (try clear ho0); obtain ⟨Ao18, co18, eo18⟩ := Kd.R_slice HO363.out; subst eo18) | ((with_reducible refine gate_callee (f := 48) rfl ?_); refine goesM (some 9) Try.func48 #[.slice Ao18 t361.length co18] ?_; (with_reducible refine (spec_PutTree.calls k _ _ t361 t366 _ ?side1 ?side2 A4.out).mono ?_); (case side1 => repeat (first | exact (Kd.R_reads' HO363.out).2.2 | (with_reducible refine Kd.C_alloc ?_ _) | (with_reducible refine Kd.C_drewN ?_ _) | (with_reducible refine Kd.C_drew ?_))); (case side2 => exact (Kd.R_reads' HO363.out).2.1); rintro e w19 ⟨rfl, hb⟩; refine ⟨_, rfl, ?_⟩; have n0_ := Aside0.mk (Kd.R_below (upR HO363.out) hb); have n1_ := Aside0.mk (IsS66.below (x9_upI HI0.out) hb); have n2_ := Aside0.mk (KeepBut.trans (upKb HK.out) (KeepBut.of_below hb g none) (.inl rfl)); have n3_ := Aside0.mk (below_step (x9_upBS HB.out) hb); clear HO363; clear HI0; clear HK; clear HB; have HO363 := n0_; have HI0 := n1_; have HK := n2_; have HB := n3_; clear n0_ n1_ n2_ n3_; (try clear hb); (try clear hb2); (try clear hk); (try clear hi)) | ((with_reducible refine gate_callee (f := 38) rfl ?_); refine goesM (some 11) Try.func38 #[.pointer (some ⟨g, 0, none⟩), .int .i64 9] ?_; (with_reducible refine (spec_l1Below.calls g s0_0 t364 t365 9 t367 t368 t369 w0 _ ?side1 ?side2 A5.out).mono ?_); (case side1 => exact x9_upI HI0.out); (case side2 => exact x9_upBS HB.out); rintro e w20 ⟨rfl, hi, hb, hk⟩; refine ⟨_, rfl, ?_⟩; have n0_ := Aside0.mk (Kd.R_mono (Kd.R_keep (IsS66.apart (show IsS66 w0 _ g s0_0 t364 t365 from x9_upI HI0.out) (upR HO363.out) (by decide)) hk (fun _ h => h.2)) (fun _ h => h.1)); have n1_ := Aside0.mk (KeepBut.trans (upKb HK.out) hk (.inl rfl)); have n2_ := Aside0.mk (hb); have n3_ := Aside0.mk (hi); clear HO363; clear HK; clear HB; clear HI0; have HO363 := n0_; have HK := n1_; have HB := n2_; have HI0 := n3_; clear n0_ n1_ n2_ n3_; (try clear hb); (try clear hb2); (try clear hk); (try clear hi)) | ((with_reducible refine gate_callee (f := 38) rfl ?_); refine goesM (some 24) Try.func38 #[.pointer (some ⟨g, 0, none⟩), .int .i64 (wrap64 ((t366.size : Int) + 1))] ?_; (with_reducible refine (spec_l1Below.calls g s0_0 t368 t369 (wrap64 ((t366.size : Int) + 1)) t373 t374 t375 w0 _ ?side1 ?side2 A14.out).mono ?_); (case side1 => exact x9_upI HI0.out); (case side2 => exact x9_upBS HB.out); rintro e w21 ⟨rfl, hi, hb, hk⟩; refine ⟨_, rfl, ?_⟩; have n0_ := Aside0.mk (Kd.R_mono (Kd.R_keep (IsS66.apart (show IsS66 w0 _ g s0_0 t368 t369 from x9_upI HI0.out) (upR HO363.out) (by decide)) hk (fun _ h => h.2)) (fun _ h => h.1)); have n1_ := Aside0.mk (KeepBut.trans (upKb HK.out) hk (.inl rfl)); have n2_ := Aside0.mk (hb); have n3_ := Aside0.mk (hi); clear HO363; clear HK; clear HB; clear HI0; have HO363 := n0_; have HK := n1_; have HB := n2_; have HI0 := n3_; clear n0_ n1_ n2_ n3_; (try clear hb); (try clear hb2); (try clear hk); (try clear hi)))
     go_ret
     exact ⟨by first | rfl | (simp [errW_none, errW_some] <;> rfl) | (simp [*, errW_none, errW_some] <;> rfl), x9_upI HI0.out, x9_upBS HB.out, upKb HK.out⟩
    ·rw [if_neg c16] at H
     exact absurd H (by simp)
   ·rw [if_neg c15] at H
    exact absurd H (by simp)
  ·rw [if_neg c13] at H
   have c13b0 : (t367 == 1) = false := beq_eq_false_iff_ne.mpr c13
   have c13b1 : (t367 != 1) = true := bne_iff_ne.mpr c13
   by_cases c22 : t367 = 2
   ·rw [if_pos c22] at H
    have c22b0 : (t367 == 2) = true := beq_iff_eq.mpr c22
    have c22b1 : (t367 != 2) = false := bne_eq_false_iff_eq.mpr c22
    clear c22
    obtain ⟨y376, hy376⟩ : ∃ y_ : List ByteArray, y_ = (([(⟨#[0]⟩ : ByteArray), (⟨#[120]⟩ : ByteArray)] : List ByteArray)) := ⟨_, rfl⟩
    replace H : ((spec_l1Pick.f s0_0 t368 t369 y376).bind fun bt379 => (if t366.size + bt379.1.size ≤ 9223372036854775807 then (some (t366 ++ bt379.1, bt379.2.1, bt379.2.2)) else (none))) = some (r1, r2, r3) := by first | (rw [hy376]; with_reducible exact H) | (have H2_ := (Option.bind_some _ _).symm.trans H; rw [hy376]; with_reducible exact H2_) | (have H2_ := (Option.bind_some _ _).symm.trans H; with_reducible exact H2_) | with_reducible exact H | (rw [hy376]; exact H) | exact H
    have Ny376 := Aside0.mk hy376; clear hy376; replace H := Option.bind_eq_some_iff.mp H
    obtain ⟨⟨t379, t380, t381⟩, A230, H⟩ := H
    replace H : (if t366.size + t379.size ≤ 9223372036854775807 then (some (t366 ++ t379, t380, t381)) else (none)) = some (r1, r2, r3) := H
    have A23 := Aside0.mk A230; clear A230
    by_cases c24 : t366.size + t379.size ≤ 9223372036854775807
    ·rw [if_pos c24] at H
     have c24b0 := eq_true c24
     have c24b1 : decide (t366.size + t379.size ≤ 9223372036854775807) = true := decide_eq_true c24
     try have c24b2 : (9223372036854775807 < t366.size + t379.size) = False := eq_false (Nat.not_lt.2 c24)
     simp only [Option.some.injEq, Prod.mk.injEq] at H
     obtain ⟨rfl, rfl, rfl⟩ := H
     go_enter Try.func30, Try.ntmps30
     go_wp2_with (first | ((with_reducible refine gate_callee (f := 43) rfl ?_); refine goesM (some 8) Try.func43 #[.pointer (some ⟨g, 0, none⟩), .int .i64 a1] ?_; (with_reducible refine (spec_l3Tree.calls k g s0_0 s0_1 s0_2 a1 t361 t364 t365 w0 _ ?side1 ?side2 A3.out).mono ?_); (case side1 => exact x9_upI HI0.out); (case side2 => exact x9_upBS HB.out); rintro e w25 ⟨v362, rfl, ho0, hi, hb, hk⟩; refine ⟨_, rfl, ?_⟩; have n0_ := Aside0.mk (Kd.R_lower ho0 (keep_size (w := w) (g := g) (row := none) (upKb HK.out))); have n1_ := Aside0.mk (KeepBut.trans (upKb HK.out) hk (.inl rfl)); have n2_ := Aside0.mk (hb); have n3_ := Aside0.mk (hi); clear HK; clear HB; clear HI0; have HO363 := n0_; have HK := n1_; have HB := n2_; have HI0 := n3_; clear n0_ n1_ n2_ n3_; (try clear hb); (try clear hb2); (try clear hk); (try clear hi); (try clear ho0); obtain ⟨Ao26, co26, eo26⟩ := Kd.R_slice HO363.out; subst eo26) | ((with_reducible refine gate_callee (f := 48) rfl ?_); refine goesM (some 9) Try.func48 #[.slice Ao26 t361.length co26] ?_; (with_reducible refine (spec_PutTree.calls k _ _ t361 t366 _ ?side1 ?side2 A4.out).mono ?_); (case side1 => repeat (first | exact (Kd.R_reads' HO363.out).2.2 | (with_reducible refine Kd.C_alloc ?_ _) | (with_reducible refine Kd.C_drewN ?_ _) | (with_reducible refine Kd.C_drew ?_))); (case side2 => exact (Kd.R_reads' HO363.out).2.1); rintro e w27 ⟨rfl, hb⟩; refine ⟨_, rfl, ?_⟩; have n0_ := Aside0.mk (Kd.R_below (upR HO363.out) hb); have n1_ := Aside0.mk (IsS66.below (x9_upI HI0.out) hb); have n2_ := Aside0.mk (KeepBut.trans (upKb HK.out) (KeepBut.of_below hb g none) (.inl rfl)); have n3_ := Aside0.mk (below_step (x9_upBS HB.out) hb); clear HO363; clear HI0; clear HK; clear HB; have HO363 := n0_; have HI0 := n1_; have HK := n2_; have HB := n3_; clear n0_ n1_ n2_ n3_; (try clear hb); (try clear hb2); (try clear hk); (try clear hi)) | ((with_reducible refine gate_callee (f := 38) rfl ?_); refine goesM (some 11) Try.func38 #[.pointer (some ⟨g, 0, none⟩), .int .i64 9] ?_; (with_reducible refine (spec_l1Below.calls g s0_0 t364 t365 9 t367 t368 t369 w0 _ ?side1 ?side2 A5.out).mono ?_); (case side1 => exact x9_upI HI0.out); (case side2 => exact x9_upBS HB.out); rintro e w28 ⟨rfl, hi, hb, hk⟩; refine ⟨_, rfl, ?_⟩; have n0_ := Aside0.mk (Kd.R_mono (Kd.R_keep (IsS66.apart (show IsS66 w0 _ g s0_0 t364 t365 from x9_upI HI0.out) (upR HO363.out) (by decide)) hk (fun _ h => h.2)) (fun _ h => h.1)); have n1_ := Aside0.mk (KeepBut.trans (upKb HK.out) hk (.inl rfl)); have n2_ := Aside0.mk (hb); have n3_ := Aside0.mk (hi); clear HO363; clear HK; clear HB; clear HI0; have HO363 := n0_; have HK := n1_; have HB := n2_; have HI0 := n3_; clear n0_ n1_ n2_ n3_; (try clear hb); (try clear hb2); (try clear hk); (try clear hi)) | ((with_reducible refine gate_dst (N := 30) rfl ?_); refine Kd.R_lit Kd.string _ 9 ?hg (N := 30) ?hd (xs := ([(⟨#[0]⟩ : ByteArray), (⟨#[120]⟩ : ByteArray)] : List ByteArray)) (inner := [.string (⟨#[0]⟩ : ByteArray), .string (⟨#[120]⟩ : ByteArray)]) (ok := fun _ => True) (okp := fun _ => True) ?hr ?hp (fun _ hk => hk) trivial (Below.refl _ _) (Nat.le_refl _) (by simp) ?_; (case hd => rfl); (case hg => rfl); (case hr => first | (go_simp; done) | (go_simp; rfl)); (case hp => exact (Reps.one (show Kd.M Kd.string _ _ _ (⟨#[0]⟩ : ByteArray) [.string (⟨#[0]⟩ : ByteArray)] from rfl) (Reps.one (show Kd.M Kd.string _ _ _ (⟨#[120]⟩ : ByteArray) [.string (⟨#[120]⟩ : ByteArray)] from rfl) (Reps.none _ _)))); intro v377 w29 ho30 hb hg_ hnew_; clear hg_ hnew_; (first | rw [← Ny376.out] at ho30 | (simp only [Int.reduceToNat] at ho30; rw [← Ny376.out] at ho30)); have n0_ := Aside0.mk (Kd.R_below (upR HO363.out) hb); have n1_ := Aside0.mk (Kd.R_lower ho30 (keep_size (w := w) (g := g) (row := none) (upKb HK.out))); have n2_ := Aside0.mk (IsS66.below (x9_upI HI0.out) hb); have n3_ := Aside0.mk (KeepBut.trans (upKb HK.out) (KeepBut.of_below hb g none) (.inl rfl)); have n4_ := Aside0.mk (below_step (x9_upBS HB.out) hb); clear HO363; clear HI0; clear HK; clear HB; have HO363 := n0_; have HO378 := n1_; have HI0 := n2_; have HK := n3_; have HB := n4_; clear n0_ n1_ n2_ n3_ n4_; clear hb ho30; obtain ⟨Ao31, co31, eo31⟩ := Kd.R_slice HO378.out; subst eo31) | ((with_reducible refine gate_callee (f := 49) rfl ?_); refine goesM (some 31) Try.func49 #[.pointer (some ⟨g, 0, none⟩), .slice Ao31 y376.length co31] ?_; (with_reducible refine (spec_l1Pick.calls g s0_0 t368 t369 _ _ y376 t379 t380 t381 w0 _ ?side1 ?side2 ?side3 ?side4 ?side5 A23.out).mono ?_); (case side1 => exact x9_upI HI0.out); (case side2 => exact x9_upBS HB.out); (case side3 => repeat (first | exact (Kd.R_reads' HO378.out).2.2 | (with_reducible refine Kd.C_alloc ?_ _) | (with_reducible refine Kd.C_drewN ?_ _) | (with_reducible refine Kd.C_drew ?_))); (case side4 => exact (Kd.R_reads' HO378.out).2.1); (case side5 => exact far_slice (IsS66.own_ne HI0.out HO378.out (by decide))); rintro e w32 ⟨rfl, hi, hb, hk⟩; refine ⟨_, rfl, ?_⟩; have n0_ := Aside0.mk (Kd.R_mono (Kd.R_keep (IsS66.apart (show IsS66 w0 _ g s0_0 t368 t369 from x9_upI HI0.out) (upR HO363.out) (by decide)) hk (fun _ h => h.2)) (fun _ h => h.1)); have n1_ := Aside0.mk (Kd.R_mono (Kd.R_keep (IsS66.apart (show IsS66 w0 _ g s0_0 t368 t369 from x9_upI HI0.out) (upR HO378.out) (by decide)) hk (fun _ h => h.2)) (fun _ h => h.1)); have n2_ := Aside0.mk (KeepBut.trans (upKb HK.out) hk (.inl rfl)); have n3_ := Aside0.mk (hb); have n4_ := Aside0.mk (hi); clear HO363; clear HO378; clear HK; clear HB; clear HI0; have HO363 := n0_; have HO378 := n1_; have HK := n2_; have HB := n3_; have HI0 := n4_; clear n0_ n1_ n2_ n3_ n4_; (try clear hb); (try clear hb2); (try clear hk); (try clear hi)))
     go_ret
     exact ⟨by first | rfl | (simp [errW_none, errW_some] <;> rfl) | (simp [*, errW_none, errW_some] <;> rfl), x9_upI HI0.out, x9_upBS HB.out, upKb HK.out⟩
    ·rw [if_neg c24] at H
     exact absurd H (by simp)
   ·rw [if_neg c22] at H
    have c22b0 : (t367 == 2) = false := beq_eq_false_iff_ne.mpr c22
    have c22b1 : (t367 != 2) = true := bne_iff_ne.mpr c22
    by_cases c33 : t367 = 3
    ·rw [if_pos c33] at H
     have c33b0 : (t367 == 3) = true := beq_iff_eq.mpr c33
     have c33b1 : (t367 != 3) = false := bne_eq_false_iff_eq.mpr c33
     clear c33; replace H := Option.bind_eq_some_iff.mp H
     obtain ⟨⟨t382, t383, t384⟩, A340, H⟩ := H
     replace H : (some (t382, t383, t384)) = some (r1, r2, r3) := H
     have A34 := Aside0.mk A340; clear A340
     simp only [Option.some.injEq, Prod.mk.injEq] at H
     obtain ⟨rfl, rfl, rfl⟩ := H
     go_enter Try.func30, Try.ntmps30
     go_wp2_with (first | ((with_reducible refine gate_callee (f := 43) rfl ?_); refine goesM (some 8) Try.func43 #[.pointer (some ⟨g, 0, none⟩), .int .i64 a1] ?_; (with_reducible refine (spec_l3Tree.calls k g s0_0 s0_1 s0_2 a1 t361 t364 t365 w0 _ ?side1 ?side2 A3.out).mono ?_); (case side1 => exact x9_upI HI0.out); (case side2 => exact x9_upBS HB.out); rintro e w35 ⟨v362, rfl, ho0, hi, hb, hk⟩; refine ⟨_, rfl, ?_⟩; have n0_ := Aside0.mk (Kd.R_lower ho0 (keep_size (w := w) (g := g) (row := none) (upKb HK.out))); have n1_ := Aside0.mk (KeepBut.trans (upKb HK.out) hk (.inl rfl)); have n2_ := Aside0.mk (hb); have n3_ := Aside0.mk (hi); clear HK; clear HB; clear HI0; have HO363 := n0_; have HK := n1_; have HB := n2_; have HI0 := n3_; clear n0_ n1_ n2_ n3_; (try clear hb); (try clear hb2); (try clear hk); (try clear hi); (try clear ho0); obtain ⟨Ao36, co36, eo36⟩ := Kd.R_slice HO363.out; subst eo36) | ((with_reducible refine gate_callee (f := 48) rfl ?_); refine goesM (some 9) Try.func48 #[.slice Ao36 t361.length co36] ?_; (with_reducible refine (spec_PutTree.calls k _ _ t361 t366 _ ?side1 ?side2 A4.out).mono ?_); (case side1 => repeat (first | exact (Kd.R_reads' HO363.out).2.2 | (with_reducible refine Kd.C_alloc ?_ _) | (with_reducible refine Kd.C_drewN ?_ _) | (with_reducible refine Kd.C_drew ?_))); (case side2 => exact (Kd.R_reads' HO363.out).2.1); rintro e w37 ⟨rfl, hb⟩; refine ⟨_, rfl, ?_⟩; have n0_ := Aside0.mk (Kd.R_below (upR HO363.out) hb); have n1_ := Aside0.mk (IsS66.below (x9_upI HI0.out) hb); have n2_ := Aside0.mk (KeepBut.trans (upKb HK.out) (KeepBut.of_below hb g none) (.inl rfl)); have n3_ := Aside0.mk (below_step (x9_upBS HB.out) hb); clear HO363; clear HI0; clear HK; clear HB; have HO363 := n0_; have HI0 := n1_; have HK := n2_; have HB := n3_; clear n0_ n1_ n2_ n3_; (try clear hb); (try clear hb2); (try clear hk); (try clear hi)) | ((with_reducible refine gate_callee (f := 38) rfl ?_); refine goesM (some 11) Try.func38 #[.pointer (some ⟨g, 0, none⟩), .int .i64 9] ?_; (with_reducible refine (spec_l1Below.calls g s0_0 t364 t365 9 t367 t368 t369 w0 _ ?side1 ?side2 A5.out).mono ?_); (case side1 => exact x9_upI HI0.out); (case side2 => exact x9_upBS HB.out); rintro e w38 ⟨rfl, hi, hb, hk⟩; refine ⟨_, rfl, ?_⟩; have n0_ := Aside0.mk (Kd.R_mono (Kd.R_keep (IsS66.apart (show IsS66 w0 _ g s0_0 t364 t365 from x9_upI HI0.out) (upR HO363.out) (by decide)) hk (fun _ h => h.2)) (fun _ h => h.1)); have n1_ := Aside0.mk (KeepBut.trans (upKb HK.out) hk (.inl rfl)); have n2_ := Aside0.mk (hb); have n3_ := Aside0.mk (hi); clear HO363; clear HK; clear HB; clear HI0; have HO363 := n0_; have HK := n1_; have HB := n2_; have HI0 := n3_; clear n0_ n1_ n2_ n3_; (try clear hb); (try clear hb2); (try clear hk); (try clear hi)) | ((with_reducible refine gate_callee (f := 50) rfl ?_); refine goesM (some 36) Try.func50 #[.pointer (some ⟨g, 0, none⟩), .int .i64 5] ?_; (with_reducible refine (spec_l1Text.calls k g s0_0 t368 t369 5 t382 t383 t384 w0 _ ?side1 ?side2 A34.out).mono ?_); (case side1 => exact x9_upI HI0.out); (case side2 => exact x9_upBS HB.out); rintro e w39 ⟨rfl, hi, hb, hk⟩; refine ⟨_, rfl, ?_⟩; have n0_ := Aside0.mk (Kd.R_mono (Kd.R_keep (IsS66.apart (show IsS66 w0 _ g s0_0 t368 t369 from x9_upI HI0.out) (upR HO363.out) (by decide)) hk (fun _ h => h.2)) (fun _ h => h.1)); have n1_ := Aside0.mk (KeepBut.trans (upKb HK.out) hk (.inl rfl)); have n2_ := Aside0.mk (hb); have n3_ := Aside0.mk (hi); clear HO363; clear HK; clear HB; clear HI0; have HO363 := n0_; have HK := n1_; have HB := n2_; have HI0 := n3_; clear n0_ n1_ n2_ n3_; (try clear hb); (try clear hb2); (try clear hk); (try clear hi)))
     go_ret
     exact ⟨by first | rfl | (simp [errW_none, errW_some] <;> rfl) | (simp [*, errW_none, errW_some] <;> rfl), x9_upI HI0.out, x9_upBS HB.out, upKb HK.out⟩
    ·rw [if_neg c33] at H
     have c33b0 : (t367 == 3) = false := beq_eq_false_iff_ne.mpr c33
     have c33b1 : (t367 != 3) = true := bne_iff_ne.mpr c33
     simp only [Option.some.injEq, Prod.mk.injEq] at H
     obtain ⟨rfl, rfl, rfl⟩ := H
     go_enter Try.func30, Try.ntmps30
     go_wp2_with (first | ((with_reducible refine gate_callee (f := 43) rfl ?_); refine goesM (some 8) Try.func43 #[.pointer (some ⟨g, 0, none⟩), .int .i64 a1] ?_; (with_reducible refine (spec_l3Tree.calls k g s0_0 s0_1 s0_2 a1 t361 t364 t365 w0 _ ?side1 ?side2 A3.out).mono ?_); (case side1 => exact x9_upI HI0.out); (case side2 => exact x9_upBS HB.out); rintro e w40 ⟨v362, rfl, ho0, hi, hb, hk⟩; refine ⟨_, rfl, ?_⟩; have n0_ := Aside0.mk (Kd.R_lower ho0 (keep_size (w := w) (g := g) (row := none) (upKb HK.out))); have n1_ := Aside0.mk (KeepBut.trans (upKb HK.out) hk (.inl rfl)); have n2_ := Aside0.mk (hb); have n3_ := Aside0.mk (hi); clear HK; clear HB; clear HI0; have HO363 := n0_; have HK := n1_; have HB := n2_; have HI0 := n3_; clear n0_ n1_ n2_ n3_; (try clear hb); (try clear hb2); (try clear hk); (try clear hi); (try clear ho0); obtain ⟨Ao41, co41, eo41⟩ := Kd.R_slice HO363.out; subst eo41) | ((with_reducible refine gate_callee (f := 48) rfl ?_); refine goesM (some 9) Try.func48 #[.slice Ao41 t361.length co41] ?_; (with_reducible refine (spec_PutTree.calls k _ _ t361 t366 _ ?side1 ?side2 A4.out).mono ?_); (case side1 => repeat (first | exact (Kd.R_reads' HO363.out).2.2 | (with_reducible refine Kd.C_alloc ?_ _) | (with_reducible refine Kd.C_drewN ?_ _) | (with_reducible refine Kd.C_drew ?_))); (case side2 => exact (Kd.R_reads' HO363.out).2.1); rintro e w42 ⟨rfl, hb⟩; refine ⟨_, rfl, ?_⟩; have n0_ := Aside0.mk (Kd.R_below (upR HO363.out) hb); have n1_ := Aside0.mk (IsS66.below (x9_upI HI0.out) hb); have n2_ := Aside0.mk (KeepBut.trans (upKb HK.out) (KeepBut.of_below hb g none) (.inl rfl)); have n3_ := Aside0.mk (below_step (x9_upBS HB.out) hb); clear HO363; clear HI0; clear HK; clear HB; have HO363 := n0_; have HI0 := n1_; have HK := n2_; have HB := n3_; clear n0_ n1_ n2_ n3_; (try clear hb); (try clear hb2); (try clear hk); (try clear hi)) | ((with_reducible refine gate_callee (f := 38) rfl ?_); refine goesM (some 11) Try.func38 #[.pointer (some ⟨g, 0, none⟩), .int .i64 9] ?_; (with_reducible refine (spec_l1Below.calls g s0_0 t364 t365 9 t367 t368 t369 w0 _ ?side1 ?side2 A5.out).mono ?_); (case side1 => exact x9_upI HI0.out); (case side2 => exact x9_upBS HB.out); rintro e w43 ⟨rfl, hi, hb, hk⟩; refine ⟨_, rfl, ?_⟩; have n0_ := Aside0.mk (Kd.R_mono (Kd.R_keep (IsS66.apart (show IsS66 w0 _ g s0_0 t364 t365 from x9_upI HI0.out) (upR HO363.out) (by decide)) hk (fun _ h => h.2)) (fun _ h => h.1)); have n1_ := Aside0.mk (KeepBut.trans (upKb HK.out) hk (.inl rfl)); have n2_ := Aside0.mk (hb); have n3_ := Aside0.mk (hi); clear HO363; clear HK; clear HB; clear HI0; have HO363 := n0_; have HK := n1_; have HB := n2_; have HI0 := n3_; clear n0_ n1_ n2_ n3_; (try clear hb); (try clear hb2); (try clear hk); (try clear hi)))
     go_ret
     exact ⟨by first | rfl | (simp [errW_none, errW_some] <;> rfl) | (simp [*, errW_none, errW_some] <;> rfl), x9_upI HI0.out, x9_upBS HB.out, upKb HK.out⟩

/-! ### spec_DrawGetTree: function 10 -/
def spec_DrawGetTree.f (k : Nat) (l0 : List Int) : Option (ByteArray) := (spec_l1New.f k l0).bind fun bt385 => ((spec_l4Bytes.f k bt385.1 bt385.2.1 bt385.2.2 10).bind fun bt389 => (some bt389.1))
theorem spec_DrawGetTree.mono : ∀ a0 k, LeO (spec_DrawGetTree.f k a0) (spec_DrawGetTree.f (k + 1) a0) := by
 intro a0 k
 unfold spec_DrawGetTree.f
 repeat' first
   | (with_reducible exact spec_l1New.mono _ _)
   | (with_reducible exact spec_l4Bytes.mono _ _ _ _ _)
   | (with_reducible exact LeO.refl _)
   | (with_reducible exact LeO.none _)
   | (with_reducible refine LeO.ite ?_ ?_)
   | (with_reducible refine LeO.bind ?_ (fun _ => ?_))
   | exact spec_l1New.mono _ _
   | exact spec_l4Bytes.mono _ _ _ _ _
   | exact LeO.none _
   | refine LeO.ite ?_ ?_
   | refine LeO.bind ?_ (fun _ => ?_)
set_option maxHeartbeats 8000000 in
set_option maxRecDepth 100000 in
theorem spec_DrawGetTree.calls (k : Nat) (A0 : Option Addr) (c0 : Nat) (l0 : List Int) (r : ByteArray) (w : World) (hr0 : Kd.C (Kd.int .u8) w A0 l0.length l0) (hc0 : l0.length ≤ c0) (h : spec_DrawGetTree.f k l0 = some r) :
  Calls Try.prog 10 #[.slice A0 l0.length c0] w fun e w' => e = .returned (.string r) ∧ Below w.heap.size w w' := by
 have HR0 := Aside0.mk hr0; have HC0 := Aside0.mk hc0; clear hr0 hc0; have HB := Aside0.mk (Below.refl w.heap.size w)
 have H : ((spec_l1New.f k l0).bind fun bt385 => ((spec_l4Bytes.f k bt385.1 bt385.2.1 bt385.2.2 10).bind fun bt389 => (some bt389.1))) = some r := h
 clear h; replace H := Option.bind_eq_some_iff.mp H
 obtain ⟨⟨t385, t386, t387⟩, A20, H⟩ := H
 replace H : ((spec_l4Bytes.f k t385 t386 t387 10).bind fun bt389 => (some bt389.1)) = some r := H
 have A2 := Aside0.mk A20; clear A20; replace H := Option.bind_eq_some_iff.mp H
 obtain ⟨⟨t389, t390, t391⟩, A30, H⟩ := H
 replace H : (some t389) = some r := H
 have A3 := Aside0.mk A30; clear A30
 obtain rfl := Option.some.inj H
 simp only [Option.some.injEq, Prod.mk.injEq] at H
 obtain ⟨rfl⟩ := H
 go_enter Try.func10, Try.ntmps10
 go_wp2_with (first | ((with_reducible refine gate_callee (f := 22) rfl ?_); refine goesM (some 4) Try.func22 #[.slice A0 l0.length c0] ?_; (with_reducible refine (spec_l1New.calls k _ _ l0 t385 t386 t387 w _ ?side1 ?side2 ?side3 A2.out).mono ?_); (case side1 => repeat (first | exact HB.out | apply below_alloc | apply pw_below_drewN | apply below_drew1)); (case side2 => exact HR0.out); (case side3 => exact HC0.out); rintro e w4 ⟨g388, rfl, hi, hb, hb2⟩; refine ⟨_, rfl, ?_⟩; have n0_ := Aside0.mk (hb); have n1_ := Aside0.mk (hi); clear HB; have HB := n0_; have HI388 := n1_; clear n0_ n1_; (try clear hb); (try clear hb2); (try clear hk); (try clear hi)) | ((with_reducible refine gate_callee (f := 30) rfl ?_); refine goesM (some 5) Try.func30 #[.pointer (some ⟨g388, 0, none⟩), .int .i64 10] ?_; (with_reducible refine (spec_l4Bytes.calls k g388 t385 t386 t387 10 t389 t390 t391 w _ ?side1 ?side2 A3.out).mono ?_); (case side1 => exact x9_upI HI388.out); (case side2 => exact x9_upBS HB.out); rintro e w5 ⟨rfl, hi, hb, hk⟩; refine ⟨_, rfl, ?_⟩; have n0_ := Aside0.mk (hb); have n1_ := Aside0.mk (hi); clear HB; clear HI388; have HB := n0_; have HI388 := n1_; clear n0_ n1_; (try clear hb); (try clear hb2); (try clear hk); (try clear hi)))
 go_ret
 exact ⟨by first | rfl | (simp [errW_none, errW_some] <;> rfl) | (simp [*, errW_none, errW_some] <;> rfl), x9_upBS HB.out⟩

end Go.Proofs.Ytpkokfffjgdjoaa.HFnBytes
