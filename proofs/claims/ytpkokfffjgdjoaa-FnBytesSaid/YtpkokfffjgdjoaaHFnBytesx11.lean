/- Functions of the program and what each call of them comes to, for the law FnBytes; written by a program of this session. No condition beyond those of each theorem. -/
import Derived.Test.YtpkokfffjgdjoaaHFnBytesx0
namespace Go.Proofs.Ytpkokfffjgdjoaa.HFnBytes
open Go.RowKit Go.Proofs.YtpkokfffjgdjoaaW.PrintWords Go.Proofs.YtpkokfffjgdjoaaW.PrintLast Go.Proofs.YtpkokfffjgdjoaaW.PrintMore
attribute [local go_sem] max2_int min2_int max_two min_two max_three min_three max_four min_four   -- for this text's walks alone
set_option linter.unusedVariables false
set_option linter.unusedSimpArgs false

/-! ### spec_UnitCost: function 55 -/
mutual
def spec_UnitCost.l0 : Nat → Int → List Int → List Int → List Int → Option (List Int × List Int × List Int)
 | 0, _, _, _, _ => none
 | k + 1, x2, x436000, x436001, x436002 => if x2 < 6 then (if x436000.length < 17592186044416 then (if x436001.length < 17592186044416 then (spec_UnitCost.l1 k x2 0 (x436000 ++ [1]) (x436001 ++ [1]) x436002) else (none)) else (none)) else (some (x436000, x436001, x436002))
def spec_UnitCost.l1 : Nat → Int → Int → List Int → List Int → List Int → Option (List Int × List Int × List Int)
 | 0, _, _, _, _, _ => none
 | k + 1, x2, x3, x436000, x436001, x436002 => if x3 < 6 then (if x2 = x3 then (if x436002.length < 17592186044416 then (spec_UnitCost.l1 k x2 (wrap64 (x3 + 1)) x436000 x436001 (x436002 ++ [0])) else (none)) else (if x436002.length < 17592186044416 then (spec_UnitCost.l1 k x2 (wrap64 (x3 + 1)) x436000 x436001 (x436002 ++ [1])) else (none))) else (spec_UnitCost.l0 k (wrap64 (x2 + 1)) x436000 x436001 x436002)
end
def spec_UnitCost.f (k : Nat)  : Option (List Int × List Int × List Int) := spec_UnitCost.l0 k 0 ([] : List Int) ([] : List Int) ([] : List Int)
theorem spec_UnitCost.mono_l : ∀ k, (∀ y0 y1 y2 y3, LeO (spec_UnitCost.l0 k y0 y1 y2 y3) (spec_UnitCost.l0 (k + 1) y0 y1 y2 y3)) ∧ (∀ y0 y1 y2 y3 y4, LeO (spec_UnitCost.l1 k y0 y1 y2 y3 y4) (spec_UnitCost.l1 (k + 1) y0 y1 y2 y3 y4))
 | 0 => ⟨fun _ _ _ _ r h => by simp [spec_UnitCost.l0] at h, fun _ _ _ _ _ r h => by simp [spec_UnitCost.l1] at h⟩
 | k + 1 => by
  obtain ⟨ih0, ih1⟩ := spec_UnitCost.mono_l k
  refine ⟨?_, ?_⟩
  ·intro y0 y1 y2 y3
   unfold spec_UnitCost.l0
   repeat' first
   | (with_reducible exact ih0 _ _ _ _)
   | (with_reducible exact ih1 _ _ _ _ _)
   | (with_reducible exact LeO.refl _)
   | (with_reducible exact LeO.none _)
   | (with_reducible refine LeO.ite ?_ ?_)
   | (with_reducible refine LeO.bind ?_ (fun _ => ?_))
   | exact ih0 _ _ _ _
   | exact ih1 _ _ _ _ _
   | exact LeO.none _
   | refine LeO.ite ?_ ?_
   | refine LeO.bind ?_ (fun _ => ?_)
  ·intro y0 y1 y2 y3 y4
   unfold spec_UnitCost.l1
   repeat' first
   | (with_reducible exact ih0 _ _ _ _)
   | (with_reducible exact ih1 _ _ _ _ _)
   | (with_reducible exact LeO.refl _)
   | (with_reducible exact LeO.none _)
   | (with_reducible refine LeO.ite ?_ ?_)
   | (with_reducible refine LeO.bind ?_ (fun _ => ?_))
   | exact ih0 _ _ _ _
   | exact ih1 _ _ _ _ _
   | exact LeO.none _
   | refine LeO.ite ?_ ?_
   | refine LeO.bind ?_ (fun _ => ?_)
theorem spec_UnitCost.mono : ∀ k, LeO (spec_UnitCost.f k ) (spec_UnitCost.f (k + 1) ) := by
 intro  k
 obtain ⟨ih0, ih1⟩ := spec_UnitCost.mono_l k
 unfold spec_UnitCost.f
 repeat' first
   | (with_reducible exact ih0 _ _ _ _)
   | (with_reducible exact ih1 _ _ _ _ _)
   | (with_reducible exact LeO.refl _)
   | (with_reducible exact LeO.none _)
   | (with_reducible refine LeO.ite ?_ ?_)
   | (with_reducible refine LeO.bind ?_ (fun _ => ?_))
   | exact ih0 _ _ _ _
   | exact ih1 _ _ _ _ _
   | exact LeO.none _
   | refine LeO.ite ?_ ?_
   | refine LeO.bind ?_ (fun _ => ?_)
set_option maxHeartbeats 8000000 in
set_option maxRecDepth 100000 in
theorem spec_UnitCost.calls (k : Nat)  (r1 : List Int) (r2 : List Int) (r3 : List Int) (w : World) (h : spec_UnitCost.f k  = some (r1, r2, r3)) :
  Calls Try.prog 55 #[] w fun e w' => ∃ v0_ v1_ v2_ : Value, e = .returned (.agg #[v0_, v1_, v2_]) ∧ Kd.R (Kd.int .i64) 3 w' w.heap.size (fun k_ => some k_ ≠ (v1_ : Value).ownBlock ∧ some k_ ≠ (v2_ : Value).ownBlock) v0_ r1 ∧ Kd.R (Kd.int .i64) 3 w' w.heap.size (fun k_ => some k_ ≠ (v0_ : Value).ownBlock ∧ some k_ ≠ (v2_ : Value).ownBlock) v1_ r2 ∧ Kd.R (Kd.int .i64) 3 w' w.heap.size (fun k_ => some k_ ≠ (v0_ : Value).ownBlock ∧ some k_ ≠ (v1_ : Value).ownBlock) v2_ r3 ∧ Below w.heap.size w w' := by
 have hu35 := Try.underlying35; have HB := Aside0.mk (Below.refl w.heap.size w)
 have H : (spec_UnitCost.l0 k 0 ([] : List Int) ([] : List Int) ([] : List Int)) = some (r1, r2, r3) := h
 clear h; have H' := Aside0.mk H; clear H
 go_enter Try.func55, Try.ntmps55
 go_wp2_with (first | ((with_reducible refine gate_dst (N := 0) rfl ?_); refine box_event ?hg (N := 0) ?hd (cs := #[.slice none 0 0, .slice none 0 0, .slice none 0 0]) (t := 35) ?hr ?_; (case hd => rfl); (case hg => rfl); (case hr => first | (go_simp; done) | (go_simp; rfl)); intro gb434 hg w1 hbox hb; have n0_ := Aside0.mk (below_step (upB HB.out) hb); have n1_ := Aside0.mk (hbox); have n2_ := Aside0.mk ((by rw [hg]; exact (below_size (upB HB.out)) : w.heap.size ≤ gb434)); have n3_ := Aside0.mk ((by rw [hg]; exact (below_size (upB HB.out)) : w.heap.size ≤ gb434)); clear HB; have HB := n0_; have BK434 := n1_; have GW434 := n2_; have GE434 := n3_; clear n0_ n1_ n2_ n3_; clear hb hbox hg) | ((with_reducible refine gate_dst (N := 1) rfl ?_); refine box_event ?hg (N := 1) ?hd (cs := #[.slice none 0 0, .slice none 0 0, .slice none 0 0]) (t := 35) ?hr ?_; (case hd => rfl); (case hg => rfl); (case hr => first | (go_simp; done) | (go_simp; rfl)); intro gb435 hg w2 hbox hb; have n0_ := Aside0.mk (blkB BK434.out hb); have n1_ := Aside0.mk (below_step (upB HB.out) hb); have n2_ := Aside0.mk (hbox); have n3_ := Aside0.mk ((by rw [hg]; exact (below_size (upB HB.out)) : w.heap.size ≤ gb435)); have n4_ := Aside0.mk ((by rw [hg]; exact (below_size (upB HB.out)) : w.heap.size ≤ gb435)); have n5_ := Aside0.mk ((by rw [hg]; exact Nat.ne_of_lt (blk_lt (g := gb434) (o := .cells #[.slice none 0 0, .slice none 0 0, .slice none 0 0] 35 (0, 0)) (upk BK434.out)) : gb434 ≠ gb435)); have n6_ := Aside0.mk ((by rw [hg]; exact Nat.ne_of_gt (blk_lt (g := gb434) (o := .cells #[.slice none 0 0, .slice none 0 0, .slice none 0 0] 35 (0, 0)) (upk BK434.out)) : gb435 ≠ gb434)); clear BK434; clear HB; have BK434 := n0_; have HB := n1_; have BK435 := n2_; have GW435 := n3_; have GE435 := n4_; have NB434_435 := n5_; have NB435_434 := n6_; clear n0_ n1_ n2_ n3_ n4_ n5_ n6_; clear hb hbox hg; have hnb3 := NB435_434.out; have hnc3 := NB434_435.out; have hcz4_0 : w2.cell? ⟨gb435, 0, none⟩ = some (.slice none 0 0) := (blk_cell BK435.out 0).trans rfl; have hcz4_1 : w2.cell? ⟨gb435, 1, none⟩ = some (.slice none 0 0) := (blk_cell BK435.out 1).trans rfl; have hcz4_2 : w2.cell? ⟨gb435, 2, none⟩ = some (.slice none 0 0) := (blk_cell BK435.out 2).trans rfl; have hfz4_0 := blk_frozen BK435.out 0; have hfz4_1 := blk_frozen BK435.out 1; have hfz4_2 := blk_frozen BK435.out 2))
 go_loopg [2] k (fun kq v2 w' => ∃ (x2_1 : Int) (x436000_1 : List Int) (x436001_1 : List Int) (x436002_1 : List Int) (u436000 : Value) (u436001 : Value) (u436002 : Value), v2 = .int .i64 x2_1 ∧ Aside0 (spec_UnitCost.l0 kq x2_1 x436000_1 x436001_1 x436002_1 = some (r1, r2, r3)) ∧ Aside0 (kq ≤ k) ∧ Aside0 (Kd.R (Kd.int .i64) 3 w' w.heap.size (fun k_ => some k_ ≠ (u436001 : Value).ownBlock ∧ some k_ ≠ (u436002 : Value).ownBlock) u436000 x436000_1) ∧ Aside0 (Kd.R (Kd.int .i64) 3 w' w.heap.size (fun k_ => some k_ ≠ (u436000 : Value).ownBlock ∧ some k_ ≠ (u436002 : Value).ownBlock) u436001 x436001_1) ∧ Aside0 (Kd.R (Kd.int .i64) 3 w' w.heap.size (fun k_ => some k_ ≠ (u436000 : Value).ownBlock ∧ some k_ ≠ (u436001 : Value).ownBlock) u436002 x436002_1) ∧ Aside0 (w'.heap[gb434]? = some (.cells #[(.slice none 0 0), (.slice none 0 0), (.slice none 0 0)] 35 (0, 0))) ∧ Aside0 (w'.heap[gb435]? = some (.cells #[u436000, u436001, u436002] 35 (0, 0))) ∧ Aside0 (Below w.heap.size w w'))
 case atStart => exact ⟨(0), (([] : List Int)), (([] : List Int)), (([] : List Int)), (.slice none 0 0), (.slice none 0 0), (.slice none 0 0), (by first | rfl | (simp; done) | (simp [*]; done)), H', ⟨Nat.le_refl _⟩, ⟨by first | exact Kd.R_nil _ _ _ _ _ | exact Kd.N_nil _ _ _ _ _ | exact Kd.V_nil _ _ _ _ _ | exact Kd.Q_nil _ _ _ _ _ | exact Kd.S_nil _ _ _ _ _⟩, ⟨by first | exact Kd.R_nil _ _ _ _ _ | exact Kd.N_nil _ _ _ _ _ | exact Kd.V_nil _ _ _ _ _ | exact Kd.Q_nil _ _ _ _ _ | exact Kd.S_nil _ _ _ _ _⟩, ⟨by first | exact Kd.R_nil _ _ _ _ _ | exact Kd.N_nil _ _ _ _ _ | exact Kd.V_nil _ _ _ _ _ | exact Kd.Q_nil _ _ _ _ _ | exact Kd.S_nil _ _ _ _ _⟩, ⟨by (with_reducible repeat (first | refine blk_drewN ?_ _ | refine blk_drew ?_ | refine blk_alloc ?_ _)); refine blk_far ?_ NB434_435.out _; (with_reducible repeat (first | refine blk_drewN ?_ _ | refine blk_drew ?_ | refine blk_alloc ?_ _)); refine blk_far ?_ NB434_435.out _; (with_reducible repeat (first | refine blk_drewN ?_ _ | refine blk_drew ?_ | refine blk_alloc ?_ _)); refine blk_far ?_ NB434_435.out _; (with_reducible repeat (first | refine blk_drewN ?_ _ | refine blk_drew ?_ | refine blk_alloc ?_ _)); exact BK434.out⟩, ⟨by (with_reducible repeat (first | refine blk_drewN ?_ _ | refine blk_drew ?_ | refine blk_alloc ?_ _)); refine blk_put (cs := #[.slice none 0 0, .slice none 0 0, .slice none 0 0]) ?_ 2 _ rfl; (with_reducible repeat (first | refine blk_drewN ?_ _ | refine blk_drew ?_ | refine blk_alloc ?_ _)); refine blk_put (cs := #[.slice none 0 0, .slice none 0 0, .slice none 0 0]) ?_ 1 _ rfl; (with_reducible repeat (first | refine blk_drewN ?_ _ | refine blk_drew ?_ | refine blk_alloc ?_ _)); refine blk_put (cs := #[.slice none 0 0, .slice none 0 0, .slice none 0 0]) ?_ 0 _ rfl; (with_reducible repeat (first | refine blk_drewN ?_ _ | refine blk_drew ?_ | refine blk_alloc ?_ _)); exact BK435.out⟩, ⟨upB HB.out⟩⟩
 case round =>
  clear H'
  try clear p2
  try clear c3
  try clear hcz4_0
  try clear hcz4_1
  try clear hcz4_2
  try clear hfz4_0
  try clear hfz4_1
  try clear hfz4_2
  obtain ⟨x2_1, x436000_1, x436001_1, x436002_1, u436000, u436001, u436002, rfl, HA, HK1, HO_436000, HO_436001, HO_436002, BK434, BK435, HB⟩ := hrel
  cases gk with
  | zero => exact absurd HA.out (by simp [spec_UnitCost.l0])
  | succ k1 =>
   have H := HA.out; clear HA
   simp only [spec_UnitCost.l0] at H
   by_cases c5 : x2_1 < 6
   ·rw [if_pos c5] at H
    have c5b0 : decide (x2_1 < 6) = true := decide_eq_true c5
    clear c5
    by_cases c6 : x436000_1.length < 17592186044416
    ·rw [if_pos c6] at H
     have LMc6 := Aside0.mk c6; clear c6
     obtain ⟨y436, hy436⟩ : ∃ y_ : List Int, y_ = (x436000_1 ++ [1]) := ⟨_, rfl⟩
     replace H : (if x436001_1.length < 17592186044416 then (spec_UnitCost.l1 k1 x2_1 0 y436 (x436001_1 ++ [1]) x436002_1) else (none)) = some (r1, r2, r3) := by first | (rw [hy436]; with_reducible exact H) | (have H2_ := (Option.bind_some _ _).symm.trans H; rw [hy436]; with_reducible exact H2_) | (have H2_ := (Option.bind_some _ _).symm.trans H; with_reducible exact H2_) | with_reducible exact H | (rw [hy436]; exact H) | exact H
     have Ny436 := Aside0.mk hy436; clear hy436
     by_cases c7 : x436001_1.length < 17592186044416
     ·rw [if_pos c7] at H
      have LMc7 := Aside0.mk c7; clear c7
      obtain ⟨y439, hy439⟩ : ∃ y_ : List Int, y_ = (x436001_1 ++ [1]) := ⟨_, rfl⟩
      replace H : (spec_UnitCost.l1 k1 x2_1 0 y436 y439 x436002_1) = some (r1, r2, r3) := by first | (rw [hy439]; with_reducible exact H) | (have H2_ := (Option.bind_some _ _).symm.trans H; rw [hy439]; with_reducible exact H2_) | (have H2_ := (Option.bind_some _ _).symm.trans H; with_reducible exact H2_) | with_reducible exact H | (rw [hy439]; exact H) | exact H
      have Ny439 := Aside0.mk hy439; clear hy439; have H' := Aside0.mk H; clear H; have hnb8 := NB435_434.out; have hnc8 := NB434_435.out
      have hcz9_0 : wr.cell? ⟨gb435, 0, none⟩ = some (u436000) := (blk_cell BK435.out 0).trans rfl
      have hcz9_1 : wr.cell? ⟨gb435, 1, none⟩ = some (u436001) := (blk_cell BK435.out 1).trans rfl
      have hcz9_2 : wr.cell? ⟨gb435, 2, none⟩ = some (u436002) := (blk_cell BK435.out 2).trans rfl
      have hfz9_0 := blk_frozen BK435.out 0; have hfz9_1 := blk_frozen BK435.out 1; have hfz9_2 := blk_frozen BK435.out 2
      go_wp2_with (first | ((with_reducible refine gate_builtin (b := .append) (xs := #[.tmp 11, .tmp 12]) rfl ?_); at_builtin; refine Kd.R_append (Kd.int .i64) (w0 := w) w.heap.size rfl (.tmp 11) (.tmp 12) 33 3 (.int .i64 0) 8 rfl Try.underlying33 info3 rfl (by decide) (by omega) u436000 x436000_1 1 [.int .i64 1] (fun k_ => some k_ ≠ (u436001 : Value).ownBlock ∧ some k_ ≠ (u436002 : Value).ownBlock) (fun _ => False) rfl rfl ?aP (fun _ hk => hk.elim) ?aF ?aO ?aB ?aS ?aL ?_; (case aP => exact rfl); (case aB => exact (upB HB.out)); (case aF => exact (fun k_ hk => ⟨Kd.fresh' (Kd.R_lt (upR HO_436001.out)) k_ hk, Kd.fresh' (Kd.R_lt (upR HO_436002.out)) k_ hk⟩)); (case aO => exact (upR HO_436000.out)); (case aS => exact (below_size (upB HB.out))); (case aL => have := LMc6.out; omega); intro v437 w10 ho hb hg hat; rw [← Ny436.out] at ho; have n0_ := Aside0.mk (Kd.R_after (ok := (fun k_ => some k_ ≠ (u436002 : Value).ownBlock)) (by (with_reducible repeat (first | apply Kd.R_alloc | apply Kd.R_drewN | apply Kd.R_drew)); exact Kd.R_mono HO_436001.out (fun _ hk => ⟨hk.2, hk.1⟩)) hg hat); have n1_ := Aside0.mk (Kd.R_after (ok := (fun k_ => some k_ ≠ (u436001 : Value).ownBlock)) (by (with_reducible repeat (first | apply Kd.R_alloc | apply Kd.R_drewN | apply Kd.R_drew)); exact Kd.R_mono HO_436002.out (fun _ hk => ⟨hk.2, hk.1⟩)) hg hat); have n2_ := Aside0.mk (blk_grown (g := gb434) (o := .cells #[.slice none 0 0, .slice none 0 0, .slice none 0 0] 35 (0, 0)) (upk BK434.out) hg (Kd.R_ne HO_436000.out BK434.out (by decide))); have n3_ := Aside0.mk (blk_grown (g := gb435) (o := .cells #[u436000, u436001, u436002] 35 (0, 0)) (upk BK435.out) hg (Kd.R_ne HO_436000.out BK435.out (by decide))); have n4_ := Aside0.mk (hb); have n5_ := Aside0.mk (ho); clear HO_436001; clear HO_436002; clear BK434; clear BK435; clear HB; clear HO_436000; have HO_436001 := n0_; have HO_436002 := n1_; have BK434 := n2_; have BK435 := n3_; have HB := n4_; have HO438 := n5_; clear n0_ n1_ n2_ n3_ n4_ n5_; clear ho hb hg hat; obtain ⟨Ao11, co11, eo11⟩ := Kd.R_slice HO438.out; subst eo11; have hcz12_0 : w10.cell? ⟨gb435, 0, none⟩ = some (u436000) := (blk_cell BK435.out 0).trans rfl; have hcz12_1 : w10.cell? ⟨gb435, 1, none⟩ = some (u436001) := (blk_cell BK435.out 1).trans rfl; have hcz12_2 : w10.cell? ⟨gb435, 2, none⟩ = some (u436002) := (blk_cell BK435.out 2).trans rfl; have hfz12_0 := blk_frozen BK435.out 0; have hfz12_1 := blk_frozen BK435.out 1; have hfz12_2 := blk_frozen BK435.out 2) | ((with_reducible refine gate_builtin (b := .append) (xs := #[.tmp 16, .tmp 17]) rfl ?_); at_builtin; refine Kd.R_append (Kd.int .i64) (w0 := w) w.heap.size rfl (.tmp 16) (.tmp 17) 33 3 (.int .i64 0) 8 rfl Try.underlying33 info3 rfl (by decide) (by omega) u436001 x436001_1 1 [.int .i64 1] (fun k_ => some k_ ≠ (u436002 : Value).ownBlock ∧ some k_ ≠ (.slice Ao11 y436.length co11 : Value).ownBlock) (fun _ => False) rfl (by first | (go_simp; done) | (go_simp; rfl)) ?aP (fun _ hk => hk.elim) ?aF ?aO ?aB ?aS ?aL ?_; (case aP => exact rfl); (case aB => exact (upB HB.out)); (case aF => exact (fun k_ hk => ⟨Kd.fresh' (Kd.R_lt (upR ((Kd.R_mono (Kd.R_far (p := ⟨gb435, 0, none⟩) (Kd.R_types HO_436002.out BK435.out (by decide)) (fun _ hk => hk.2) (.slice Ao11 y436.length co11)) (fun _ h_ => h_.1))))) k_ hk, Kd.fresh' (Kd.R_lt (upR ((Kd.R_mono (Kd.R_far (p := ⟨gb435, 0, none⟩) (Kd.R_types HO438.out BK435.out (by decide)) (fun _ hk => hk.2) (.slice Ao11 y436.length co11)) (fun _ h_ => h_.1))))) k_ hk⟩)); (case aO => exact (by (with_reducible repeat (first | apply Kd.R_alloc | apply Kd.R_drewN | apply Kd.R_drew)); exact Kd.R_mono (Kd.R_far (p := ⟨gb435, 0, none⟩) (Kd.R_types HO_436001.out BK435.out (by decide)) (fun _ hk => hk.2) (.slice Ao11 y436.length co11)) (fun _ hk => ⟨hk.1.1, hk.1.2⟩))); (case aS => exact (below_size (upB HB.out))); (case aL => have := LMc7.out; omega); intro v440 w13 ho hb hg hat; rw [← Ny439.out] at ho; have n0_ := Aside0.mk (Kd.R_after (ok := (fun k_ => some k_ ≠ (.slice Ao11 y436.length co11 : Value).ownBlock)) (by (with_reducible repeat (first | apply Kd.R_alloc | apply Kd.R_drewN | apply Kd.R_drew)); exact Kd.R_mono (Kd.R_far (p := ⟨gb435, 0, none⟩) (Kd.R_types HO_436002.out BK435.out (by decide)) (fun _ hk => hk.2) (.slice Ao11 y436.length co11)) (fun _ hk => ⟨hk.1.2, hk.1.1⟩)) hg hat); have n1_ := Aside0.mk (blk_grown (g := gb434) (o := .cells #[.slice none 0 0, .slice none 0 0, .slice none 0 0] 35 (0, 0)) (by (with_reducible repeat (first | refine blk_drewN ?_ _ | refine blk_drew ?_ | refine blk_alloc ?_ _)); refine blk_far ?_ NB434_435.out _; (with_reducible repeat (first | refine blk_drewN ?_ _ | refine blk_drew ?_ | refine blk_alloc ?_ _)); exact BK434.out) hg (Kd.R_ne HO_436001.out BK434.out (by decide))); have n2_ := Aside0.mk (blk_grown (g := gb435) (o := .cells #[.slice Ao11 y436.length co11, u436001, u436002] 35 (0, 0)) (by (with_reducible repeat (first | refine blk_drewN ?_ _ | refine blk_drew ?_ | refine blk_alloc ?_ _)); refine blk_put (cs := #[u436000, u436001, u436002]) ?_ 0 _ rfl; (with_reducible repeat (first | refine blk_drewN ?_ _ | refine blk_drew ?_ | refine blk_alloc ?_ _)); exact BK435.out) hg (Kd.R_ne HO_436001.out BK435.out (by decide))); have n3_ := Aside0.mk (Kd.R_after (ok := (fun k_ => some k_ ≠ (u436002 : Value).ownBlock)) (by (with_reducible repeat (first | apply Kd.R_alloc | apply Kd.R_drewN | apply Kd.R_drew)); exact Kd.R_mono (Kd.R_far (p := ⟨gb435, 0, none⟩) (Kd.R_types HO438.out BK435.out (by decide)) (fun _ hk => hk.2) (.slice Ao11 y436.length co11)) (fun _ hk => ⟨hk.1.2, hk.1.1⟩)) hg hat); have n4_ := Aside0.mk (hb); have n5_ := Aside0.mk (ho); clear HO_436002; clear BK434; clear BK435; clear HO438; clear HB; clear HO_436001; have HO_436002 := n0_; have BK434 := n1_; have BK435 := n2_; have HO438 := n3_; have HB := n4_; have HO441 := n5_; clear n0_ n1_ n2_ n3_ n4_ n5_; clear ho hb hg hat; obtain ⟨Ao14, co14, eo14⟩ := Kd.R_slice HO441.out; subst eo14; have hcz15_0 : w13.cell? ⟨gb435, 0, none⟩ = some (.slice Ao11 y436.length co11) := (blk_cell BK435.out 0).trans rfl; have hcz15_1 : w13.cell? ⟨gb435, 1, none⟩ = some (u436001) := (blk_cell BK435.out 1).trans rfl; have hcz15_2 : w13.cell? ⟨gb435, 2, none⟩ = some (u436002) := (blk_cell BK435.out 2).trans rfl; have hfz15_0 := blk_frozen BK435.out 0; have hfz15_1 := blk_frozen BK435.out 1; have hfz15_2 := blk_frozen BK435.out 2))
      go_loopg [3] k1 (fun kq v3 w' => ∃ (x3_2 : Int) (x436002_2 : List Int) (u436002 : Value), v3 = .int .i64 x3_2 ∧ Aside0 (spec_UnitCost.l1 kq x2_1 x3_2 y436 y439 x436002_2 = some (r1, r2, r3)) ∧ Aside0 (kq ≤ k1) ∧ Aside0 (Kd.R (Kd.int .i64) 3 w' w.heap.size (fun k_ => some k_ ≠ ((.slice Ao14 y439.length co14) : Value).ownBlock ∧ some k_ ≠ (u436002 : Value).ownBlock) (.slice Ao11 y436.length co11) y436) ∧ Aside0 (Kd.R (Kd.int .i64) 3 w' w.heap.size (fun k_ => some k_ ≠ ((.slice Ao11 y436.length co11) : Value).ownBlock ∧ some k_ ≠ (u436002 : Value).ownBlock) (.slice Ao14 y439.length co14) y439) ∧ Aside0 (Kd.R (Kd.int .i64) 3 w' w.heap.size (fun k_ => some k_ ≠ ((.slice Ao11 y436.length co11) : Value).ownBlock ∧ some k_ ≠ ((.slice Ao14 y439.length co14) : Value).ownBlock) u436002 x436002_2) ∧ Aside0 (w'.heap[gb434]? = some (.cells #[(.slice none 0 0), (.slice none 0 0), (.slice none 0 0)] 35 (0, 0))) ∧ Aside0 (w'.heap[gb435]? = some (.cells #[(.slice Ao11 y436.length co11), (.slice Ao14 y439.length co14), u436002] 35 (0, 0))) ∧ Aside0 (Below w.heap.size w w'))
      case atStart => exact ⟨(0), (x436002_1), (u436002), (by first | rfl | (simp; done) | (simp [*]; done)), H', ⟨Nat.le_refl _⟩, ⟨by (with_reducible repeat (first | apply Kd.R_alloc | apply Kd.R_drewN | apply Kd.R_drew)); exact Kd.R_mono (Kd.R_far (p := ⟨gb435, 1, none⟩) (Kd.R_types HO438.out BK435.out (by decide)) (fun _ hk => hk.2) (.slice Ao14 y439.length co14)) (fun _ hk => ⟨hk.1.2, hk.1.1⟩)⟩, ⟨by (with_reducible repeat (first | apply Kd.R_alloc | apply Kd.R_drewN | apply Kd.R_drew)); exact Kd.R_mono (Kd.R_far (p := ⟨gb435, 1, none⟩) (Kd.R_types HO441.out BK435.out (by decide)) (fun _ hk => hk.2) (.slice Ao14 y439.length co14)) (fun _ hk => ⟨hk.1.2, hk.1.1⟩)⟩, ⟨by (with_reducible repeat (first | apply Kd.R_alloc | apply Kd.R_drewN | apply Kd.R_drew)); exact Kd.R_mono (Kd.R_far (p := ⟨gb435, 1, none⟩) (Kd.R_types HO_436002.out BK435.out (by decide)) (fun _ hk => hk.2) (.slice Ao14 y439.length co14)) (fun _ hk => ⟨hk.1.1, hk.1.2⟩)⟩, ⟨by (with_reducible repeat (first | refine blk_drewN ?_ _ | refine blk_drew ?_ | refine blk_alloc ?_ _)); refine blk_far ?_ NB434_435.out _; (with_reducible repeat (first | refine blk_drewN ?_ _ | refine blk_drew ?_ | refine blk_alloc ?_ _)); exact BK434.out⟩, ⟨by (with_reducible repeat (first | refine blk_drewN ?_ _ | refine blk_drew ?_ | refine blk_alloc ?_ _)); refine blk_put (cs := #[.slice Ao11 y436.length co11, u436001, u436002]) ?_ 1 _ rfl; (with_reducible repeat (first | refine blk_drewN ?_ _ | refine blk_drew ?_ | refine blk_alloc ?_ _)); exact BK435.out⟩, ⟨upB HB.out⟩⟩
      case round =>
       clear H'
       try clear p2
       try clear c3
       try clear c5
       try clear c5b0
       try clear c6
       try clear c7
       try clear c8
       try clear hcz12_0
       try clear hcz12_1
       try clear hcz12_2
       try clear hcz15_0
       try clear hcz15_1
       try clear hcz15_2
       try clear hcz4_0
       try clear hcz4_1
       try clear hcz4_2
       try clear hcz9_0
       try clear hcz9_1
       try clear hcz9_2
       try clear hfz12_0
       try clear hfz12_1
       try clear hfz12_2
       try clear hfz15_0
       try clear hfz15_1
       try clear hfz15_2
       try clear hfz4_0
       try clear hfz4_1
       try clear hfz4_2
       try clear hfz9_0
       try clear hfz9_1
       try clear hfz9_2
       try clear p2
       obtain ⟨x3_2, x436002_2, u436002, rfl, HA, HK2, HO_436000, HO_436001, HO_436002, BK434, BK435, HB⟩ := hrel
       cases gk with
       | zero => exact absurd HA.out (by simp [spec_UnitCost.l1])
       | succ k2 =>
        have H := HA.out; clear HA
        simp only [spec_UnitCost.l1] at H
        by_cases c16 : x3_2 < 6
        ·rw [if_pos c16] at H
         have c16b0 : decide (x3_2 < 6) = true := decide_eq_true c16
         clear c16
         by_cases c17 : x2_1 = x3_2
         ·rw [if_pos c17] at H
          have c17b0 : (x2_1 == x3_2) = true := beq_iff_eq.mpr c17
          have c17b1 : (x2_1 != x3_2) = false := bne_eq_false_iff_eq.mpr c17
          clear c17
          by_cases c18 : x436002_2.length < 17592186044416
          ·rw [if_pos c18] at H
           have LMc18 := Aside0.mk c18; clear c18
           obtain ⟨y442, hy442⟩ : ∃ y_ : List Int, y_ = (x436002_2 ++ [0]) := ⟨_, rfl⟩
           replace H : (spec_UnitCost.l1 k2 x2_1 (wrap64 (x3_2 + 1)) y436 y439 y442) = some (r1, r2, r3) := by first | (rw [hy442]; with_reducible exact H) | (have H2_ := (Option.bind_some _ _).symm.trans H; rw [hy442]; with_reducible exact H2_) | (have H2_ := (Option.bind_some _ _).symm.trans H; with_reducible exact H2_) | with_reducible exact H | (rw [hy442]; exact H) | exact H
           have Ny442 := Aside0.mk hy442; clear hy442; have H' := Aside0.mk H; clear H; have hnb19 := NB435_434.out; have hnc19 := NB434_435.out
           have hcz20_0 : wr.cell? ⟨gb435, 0, none⟩ = some (.slice Ao11 y436.length co11) := (blk_cell BK435.out 0).trans rfl
           have hcz20_1 : wr.cell? ⟨gb435, 1, none⟩ = some (.slice Ao14 y439.length co14) := (blk_cell BK435.out 1).trans rfl
           have hcz20_2 : wr.cell? ⟨gb435, 2, none⟩ = some (u436002) := (blk_cell BK435.out 2).trans rfl
           have hfz20_0 := blk_frozen BK435.out 0; have hfz20_1 := blk_frozen BK435.out 1; have hfz20_2 := blk_frozen BK435.out 2
           go_wp2_with (first | ((with_reducible refine gate_builtin (b := .append) (xs := #[.tmp 28, .tmp 30]) rfl ?_); at_builtin; refine Kd.R_append (Kd.int .i64) (w0 := w) w.heap.size rfl (.tmp 28) (.tmp 30) 33 3 (.int .i64 0) 8 rfl Try.underlying33 info3 rfl (by decide) (by omega) u436002 x436002_2 0 [.int .i64 0] (fun k_ => some k_ ≠ (.slice Ao11 y436.length co11 : Value).ownBlock ∧ some k_ ≠ (.slice Ao14 y439.length co14 : Value).ownBlock) (fun _ => False) rfl rfl ?aP (fun _ hk => hk.elim) ?aF ?aO ?aB ?aS ?aL ?_; (case aP => exact rfl); (case aB => exact (upB HB.out)); (case aF => exact (fun k_ hk => ⟨Kd.fresh' (Kd.R_lt (upR HO_436000.out)) k_ hk, Kd.fresh' (Kd.R_lt (upR HO_436001.out)) k_ hk⟩)); (case aO => exact (upR HO_436002.out)); (case aS => exact (below_size (upB HB.out))); (case aL => have := LMc18.out; omega); intro v443 w21 ho hb hg hat; rw [← Ny442.out] at ho; have n0_ := Aside0.mk (Kd.R_after (ok := (fun k_ => some k_ ≠ (.slice Ao14 y439.length co14 : Value).ownBlock)) (upR HO_436000.out) hg hat); have n1_ := Aside0.mk (Kd.R_after (ok := (fun k_ => some k_ ≠ (.slice Ao11 y436.length co11 : Value).ownBlock)) (upR HO_436001.out) hg hat); have n2_ := Aside0.mk (blk_grown (g := gb434) (o := .cells #[.slice none 0 0, .slice none 0 0, .slice none 0 0] 35 (0, 0)) (upk BK434.out) hg (Kd.R_ne HO_436002.out BK434.out (by decide))); have n3_ := Aside0.mk (blk_grown (g := gb435) (o := .cells #[.slice Ao11 y436.length co11, .slice Ao14 y439.length co14, u436002] 35 (0, 0)) (upk BK435.out) hg (Kd.R_ne HO_436002.out BK435.out (by decide))); have n4_ := Aside0.mk (hb); have n5_ := Aside0.mk (ho); clear HO_436000; clear HO_436001; clear BK434; clear BK435; clear HB; clear HO_436002; have HO_436000 := n0_; have HO_436001 := n1_; have BK434 := n2_; have BK435 := n3_; have HB := n4_; have HO444 := n5_; clear n0_ n1_ n2_ n3_ n4_ n5_; clear ho hb hg hat; obtain ⟨Ao22, co22, eo22⟩ := Kd.R_slice HO444.out; subst eo22; have hcz23_0 : w21.cell? ⟨gb435, 0, none⟩ = some (.slice Ao11 y436.length co11) := (blk_cell BK435.out 0).trans rfl; have hcz23_1 : w21.cell? ⟨gb435, 1, none⟩ = some (.slice Ao14 y439.length co14) := (blk_cell BK435.out 1).trans rfl; have hcz23_2 : w21.cell? ⟨gb435, 2, none⟩ = some (u436002) := (blk_cell BK435.out 2).trans rfl; have hfz23_0 := blk_frozen BK435.out 0; have hfz23_1 := blk_frozen BK435.out 1; have hfz23_2 := blk_frozen BK435.out 2))
           go_roundg k2
           case measure => have := HK1.out; have := HK2.out; omega
           case rel => exact ⟨(wrap64 (x3_2 + 1)), (y442), (.slice Ao22 y442.length co22), (by first | rfl | (simp; done) | (simp [*]; done)), H', ⟨by have := HK1.out; have := HK2.out; omega⟩, ⟨by (with_reducible repeat (first | apply Kd.R_alloc | apply Kd.R_drewN | apply Kd.R_drew)); exact Kd.R_mono (Kd.R_far (p := ⟨gb435, 2, none⟩) (Kd.R_types HO_436000.out BK435.out (by decide)) (fun _ hk => hk.2) (.slice Ao22 y442.length co22)) (fun _ hk => ⟨hk.1.1, hk.1.2⟩)⟩, ⟨by (with_reducible repeat (first | apply Kd.R_alloc | apply Kd.R_drewN | apply Kd.R_drew)); exact Kd.R_mono (Kd.R_far (p := ⟨gb435, 2, none⟩) (Kd.R_types HO_436001.out BK435.out (by decide)) (fun _ hk => hk.2) (.slice Ao22 y442.length co22)) (fun _ hk => ⟨hk.1.1, hk.1.2⟩)⟩, ⟨by (with_reducible repeat (first | apply Kd.R_alloc | apply Kd.R_drewN | apply Kd.R_drew)); exact Kd.R_mono (Kd.R_far (p := ⟨gb435, 2, none⟩) (Kd.R_types HO444.out BK435.out (by decide)) (fun _ hk => hk.2) (.slice Ao22 y442.length co22)) (fun _ hk => ⟨hk.1.1, hk.1.2⟩)⟩, ⟨by (with_reducible repeat (first | refine blk_drewN ?_ _ | refine blk_drew ?_ | refine blk_alloc ?_ _)); refine blk_far ?_ NB434_435.out _; (with_reducible repeat (first | refine blk_drewN ?_ _ | refine blk_drew ?_ | refine blk_alloc ?_ _)); exact BK434.out⟩, ⟨by (with_reducible repeat (first | refine blk_drewN ?_ _ | refine blk_drew ?_ | refine blk_alloc ?_ _)); refine blk_put (cs := #[.slice Ao11 y436.length co11, .slice Ao14 y439.length co14, u436002]) ?_ 2 _ rfl; (with_reducible repeat (first | refine blk_drewN ?_ _ | refine blk_drew ?_ | refine blk_alloc ?_ _)); exact BK435.out⟩, ⟨upB HB.out⟩⟩
          ·rw [if_neg c18] at H
           exact absurd H (by simp)
         ·rw [if_neg c17] at H
          have c17b0 : (x2_1 == x3_2) = false := beq_eq_false_iff_ne.mpr c17
          have c17b1 : (x2_1 != x3_2) = true := bne_iff_ne.mpr c17
          by_cases c24 : x436002_2.length < 17592186044416
          ·rw [if_pos c24] at H
           have LMc24 := Aside0.mk c24; clear c24
           obtain ⟨y445, hy445⟩ : ∃ y_ : List Int, y_ = (x436002_2 ++ [1]) := ⟨_, rfl⟩
           replace H : (spec_UnitCost.l1 k2 x2_1 (wrap64 (x3_2 + 1)) y436 y439 y445) = some (r1, r2, r3) := by first | (rw [hy445]; with_reducible exact H) | (have H2_ := (Option.bind_some _ _).symm.trans H; rw [hy445]; with_reducible exact H2_) | (have H2_ := (Option.bind_some _ _).symm.trans H; with_reducible exact H2_) | with_reducible exact H | (rw [hy445]; exact H) | exact H
           have Ny445 := Aside0.mk hy445; clear hy445; have H' := Aside0.mk H; clear H; have hnb25 := NB435_434.out; have hnc25 := NB434_435.out
           have hcz26_0 : wr.cell? ⟨gb435, 0, none⟩ = some (.slice Ao11 y436.length co11) := (blk_cell BK435.out 0).trans rfl
           have hcz26_1 : wr.cell? ⟨gb435, 1, none⟩ = some (.slice Ao14 y439.length co14) := (blk_cell BK435.out 1).trans rfl
           have hcz26_2 : wr.cell? ⟨gb435, 2, none⟩ = some (u436002) := (blk_cell BK435.out 2).trans rfl
           have hfz26_0 := blk_frozen BK435.out 0; have hfz26_1 := blk_frozen BK435.out 1; have hfz26_2 := blk_frozen BK435.out 2
           go_wp2_with (first | ((with_reducible refine gate_builtin (b := .append) (xs := #[.tmp 28, .tmp 30]) rfl ?_); at_builtin; refine Kd.R_append (Kd.int .i64) (w0 := w) w.heap.size rfl (.tmp 28) (.tmp 30) 33 3 (.int .i64 0) 8 rfl Try.underlying33 info3 rfl (by decide) (by omega) u436002 x436002_2 1 [.int .i64 1] (fun k_ => some k_ ≠ (.slice Ao11 y436.length co11 : Value).ownBlock ∧ some k_ ≠ (.slice Ao14 y439.length co14 : Value).ownBlock) (fun _ => False) rfl rfl ?aP (fun _ hk => hk.elim) ?aF ?aO ?aB ?aS ?aL ?_; (case aP => exact rfl); (case aB => exact (upB HB.out)); (case aF => exact (fun k_ hk => ⟨Kd.fresh' (Kd.R_lt (upR HO_436000.out)) k_ hk, Kd.fresh' (Kd.R_lt (upR HO_436001.out)) k_ hk⟩)); (case aO => exact (upR HO_436002.out)); (case aS => exact (below_size (upB HB.out))); (case aL => have := LMc24.out; omega); intro v446 w27 ho hb hg hat; rw [← Ny445.out] at ho; have n0_ := Aside0.mk (Kd.R_after (ok := (fun k_ => some k_ ≠ (.slice Ao14 y439.length co14 : Value).ownBlock)) (upR HO_436000.out) hg hat); have n1_ := Aside0.mk (Kd.R_after (ok := (fun k_ => some k_ ≠ (.slice Ao11 y436.length co11 : Value).ownBlock)) (upR HO_436001.out) hg hat); have n2_ := Aside0.mk (blk_grown (g := gb434) (o := .cells #[.slice none 0 0, .slice none 0 0, .slice none 0 0] 35 (0, 0)) (upk BK434.out) hg (Kd.R_ne HO_436002.out BK434.out (by decide))); have n3_ := Aside0.mk (blk_grown (g := gb435) (o := .cells #[.slice Ao11 y436.length co11, .slice Ao14 y439.length co14, u436002] 35 (0, 0)) (upk BK435.out) hg (Kd.R_ne HO_436002.out BK435.out (by decide))); have n4_ := Aside0.mk (hb); have n5_ := Aside0.mk (ho); clear HO_436000; clear HO_436001; clear BK434; clear BK435; clear HB; clear HO_436002; have HO_436000 := n0_; have HO_436001 := n1_; have BK434 := n2_; have BK435 := n3_; have HB := n4_; have HO447 := n5_; clear n0_ n1_ n2_ n3_ n4_ n5_; clear ho hb hg hat; obtain ⟨Ao28, co28, eo28⟩ := Kd.R_slice HO447.out; subst eo28; have hcz29_0 : w27.cell? ⟨gb435, 0, none⟩ = some (.slice Ao11 y436.length co11) := (blk_cell BK435.out 0).trans rfl; have hcz29_1 : w27.cell? ⟨gb435, 1, none⟩ = some (.slice Ao14 y439.length co14) := (blk_cell BK435.out 1).trans rfl; have hcz29_2 : w27.cell? ⟨gb435, 2, none⟩ = some (u436002) := (blk_cell BK435.out 2).trans rfl; have hfz29_0 := blk_frozen BK435.out 0; have hfz29_1 := blk_frozen BK435.out 1; have hfz29_2 := blk_frozen BK435.out 2))
           go_roundg k2
           case measure => have := HK1.out; have := HK2.out; omega
           case rel => exact ⟨(wrap64 (x3_2 + 1)), (y445), (.slice Ao28 y445.length co28), (by first | rfl | (simp; done) | (simp [*]; done)), H', ⟨by have := HK1.out; have := HK2.out; omega⟩, ⟨by (with_reducible repeat (first | apply Kd.R_alloc | apply Kd.R_drewN | apply Kd.R_drew)); exact Kd.R_mono (Kd.R_far (p := ⟨gb435, 2, none⟩) (Kd.R_types HO_436000.out BK435.out (by decide)) (fun _ hk => hk.2) (.slice Ao28 y445.length co28)) (fun _ hk => ⟨hk.1.1, hk.1.2⟩)⟩, ⟨by (with_reducible repeat (first | apply Kd.R_alloc | apply Kd.R_drewN | apply Kd.R_drew)); exact Kd.R_mono (Kd.R_far (p := ⟨gb435, 2, none⟩) (Kd.R_types HO_436001.out BK435.out (by decide)) (fun _ hk => hk.2) (.slice Ao28 y445.length co28)) (fun _ hk => ⟨hk.1.1, hk.1.2⟩)⟩, ⟨by (with_reducible repeat (first | apply Kd.R_alloc | apply Kd.R_drewN | apply Kd.R_drew)); exact Kd.R_mono (Kd.R_far (p := ⟨gb435, 2, none⟩) (Kd.R_types HO447.out BK435.out (by decide)) (fun _ hk => hk.2) (.slice Ao28 y445.length co28)) (fun _ hk => ⟨hk.1.1, hk.1.2⟩)⟩, ⟨by (with_reducible repeat (first | refine blk_drewN ?_ _ | refine blk_drew ?_ | refine blk_alloc ?_ _)); refine blk_far ?_ NB434_435.out _; (with_reducible repeat (first | refine blk_drewN ?_ _ | refine blk_drew ?_ | refine blk_alloc ?_ _)); exact BK434.out⟩, ⟨by (with_reducible repeat (first | refine blk_drewN ?_ _ | refine blk_drew ?_ | refine blk_alloc ?_ _)); refine blk_put (cs := #[.slice Ao11 y436.length co11, .slice Ao14 y439.length co14, u436002]) ?_ 2 _ rfl; (with_reducible repeat (first | refine blk_drewN ?_ _ | refine blk_drew ?_ | refine blk_alloc ?_ _)); exact BK435.out⟩, ⟨upB HB.out⟩⟩
          ·rw [if_neg c24] at H
           exact absurd H (by simp)
        ·rw [if_neg c16] at H
         have c16b0 : decide (x3_2 < 6) = false := decide_eq_false c16
         clear c16; have H' := Aside0.mk H; clear H
         go_wp2
         go_roundg k2
         case measure => have := HK1.out; have := HK2.out; omega
         case rel => exact ⟨(wrap64 (x2_1 + 1)), (y436), (y439), (x436002_2), (.slice Ao11 y436.length co11), (.slice Ao14 y439.length co14), (u436002), (by first | rfl | (simp; done) | (simp [*]; done)), H', ⟨by have := HK1.out; have := HK2.out; omega⟩, ⟨by (with_reducible repeat (first | apply Kd.R_alloc | apply Kd.R_drewN | apply Kd.R_drew)); exact HO_436000.out⟩, ⟨by (with_reducible repeat (first | apply Kd.R_alloc | apply Kd.R_drewN | apply Kd.R_drew)); exact HO_436001.out⟩, ⟨by (with_reducible repeat (first | apply Kd.R_alloc | apply Kd.R_drewN | apply Kd.R_drew)); exact HO_436002.out⟩, ⟨by (with_reducible repeat (first | refine blk_drewN ?_ _ | refine blk_drew ?_ | refine blk_alloc ?_ _)); exact BK434.out⟩, ⟨by (with_reducible repeat (first | refine blk_drewN ?_ _ | refine blk_drew ?_ | refine blk_alloc ?_ _)); exact BK435.out⟩, ⟨upB HB.out⟩⟩
     ·rw [if_neg c7] at H
      exact absurd H (by simp)
    ·rw [if_neg c6] at H
     exact absurd H (by simp)
   ·rw [if_neg c5] at H
    have c5b0 : decide (x2_1 < 6) = false := decide_eq_false c5
    clear c5
    simp only [Option.some.injEq, Prod.mk.injEq] at H
    obtain ⟨rfl, rfl, rfl⟩ := H
    have hnb30 := NB435_434.out; have hnc30 := NB434_435.out
    have hcz31_0 : wr.cell? ⟨gb435, 0, none⟩ = some (u436000) := (blk_cell BK435.out 0).trans rfl
    have hcz31_1 : wr.cell? ⟨gb435, 1, none⟩ = some (u436001) := (blk_cell BK435.out 1).trans rfl
    have hcz31_2 : wr.cell? ⟨gb435, 2, none⟩ = some (u436002) := (blk_cell BK435.out 2).trans rfl
    have hfz31_0 := blk_frozen BK435.out 0; have hfz31_1 := blk_frozen BK435.out 1; have hfz31_2 := blk_frozen BK435.out 2
    obtain ⟨Ao32, co32, eo32⟩ := Kd.R_slice HO_436000.out
    subst eo32
    have hcz33_0 : wr.cell? ⟨gb434, 0, none⟩ = some (.slice none 0 0) := (blk_cell BK434.out 0).trans rfl
    have hcz33_1 : wr.cell? ⟨gb434, 1, none⟩ = some (.slice none 0 0) := (blk_cell BK434.out 1).trans rfl
    have hcz33_2 : wr.cell? ⟨gb434, 2, none⟩ = some (.slice none 0 0) := (blk_cell BK434.out 2).trans rfl
    have hfz33_0 := blk_frozen BK434.out 0; have hfz33_1 := blk_frozen BK434.out 1; have hfz33_2 := blk_frozen BK434.out 2
    obtain ⟨Ao34, co34, eo34⟩ := Kd.R_slice HO_436001.out
    subst eo34
    obtain ⟨Ao35, co35, eo35⟩ := Kd.R_slice HO_436002.out
    subst eo35
    go_wp2
    refine bodyPost_ret (results_cell_row rfl _ _ gb434 35 #[.slice Ao32 x436000_1.length co32, .slice Ao34 x436001_1.length co34, .slice Ao35 x436002_1.length co35] (0, 0) _ rfl (by (with_reducible repeat (first | refine blk_drewN ?_ _ | refine blk_drew ?_ | refine blk_alloc ?_ _)); refine blk_put (cs := #[.slice Ao32 x436000_1.length co32, .slice Ao34 x436001_1.length co34, .slice none 0 0]) ?_ 2 _ rfl; (with_reducible repeat (first | refine blk_drewN ?_ _ | refine blk_drew ?_ | refine blk_alloc ?_ _)); refine blk_put (cs := #[.slice Ao32 x436000_1.length co32, .slice none 0 0, .slice none 0 0]) ?_ 1 _ rfl; (with_reducible repeat (first | refine blk_drewN ?_ _ | refine blk_drew ?_ | refine blk_alloc ?_ _)); refine blk_put (cs := #[.slice none 0 0, .slice none 0 0, .slice none 0 0]) ?_ 0 _ rfl; (with_reducible repeat (first | refine blk_drewN ?_ _ | refine blk_drew ?_ | refine blk_alloc ?_ _)); exact BK434.out) Try.underlying35 rfl (by kernel_rfl)) rfl ?_
    exact ⟨_, _, _, by first | rfl | (simp [errW_none, errW_some] <;> rfl) | (simp [*, errW_none, errW_some] <;> rfl), by (with_reducible repeat (first | apply Kd.R_alloc | apply Kd.R_drewN | apply Kd.R_drew)); exact Kd.R_mono (Kd.R_far (p := ⟨gb434, 2, none⟩) (Kd.R_far (p := ⟨gb434, 1, none⟩) (Kd.R_far (p := ⟨gb434, 0, none⟩) (Kd.R_types HO_436000.out BK434.out (by decide)) (fun _ hk => hk.2) (.slice Ao32 x436000_1.length co32)) (fun _ hk => hk.2) (.slice Ao34 x436001_1.length co34)) (fun _ hk => hk.2) (.slice Ao35 x436002_1.length co35)) (fun _ hk => ⟨hk.1.1, hk.1.2⟩), by (with_reducible repeat (first | apply Kd.R_alloc | apply Kd.R_drewN | apply Kd.R_drew)); exact Kd.R_mono (Kd.R_far (p := ⟨gb434, 2, none⟩) (Kd.R_far (p := ⟨gb434, 1, none⟩) (Kd.R_far (p := ⟨gb434, 0, none⟩) (Kd.R_types HO_436001.out BK434.out (by decide)) (fun _ hk => hk.2) (.slice Ao32 x436000_1.length co32)) (fun _ hk => hk.2) (.slice Ao34 x436001_1.length co34)) (fun _ hk => hk.2) (.slice Ao35 x436002_1.length co35)) (fun _ hk => ⟨hk.1.1, hk.1.2⟩), by (with_reducible repeat (first | apply Kd.R_alloc | apply Kd.R_drewN | apply Kd.R_drew)); exact Kd.R_mono (Kd.R_far (p := ⟨gb434, 2, none⟩) (Kd.R_far (p := ⟨gb434, 1, none⟩) (Kd.R_far (p := ⟨gb434, 0, none⟩) (Kd.R_types HO_436002.out BK434.out (by decide)) (fun _ hk => hk.2) (.slice Ao32 x436000_1.length co32)) (fun _ hk => hk.2) (.slice Ao34 x436001_1.length co34)) (fun _ hk => hk.2) (.slice Ao35 x436002_1.length co35)) (fun _ hk => ⟨hk.1.1, hk.1.2⟩), upB HB.out⟩

end Go.Proofs.Ytpkokfffjgdjoaa.HFnBytes
